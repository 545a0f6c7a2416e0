/- A copy, moved: plain laws for DupNames; for all that the lemmas name. -/
import Derived.Test.YtfmfkablbaoofaaDpKillSelf
set_option linter.unusedVariables false
set_option linter.unusedSimpArgs false
set_option linter.unusedSectionVars false
set_option maxRecDepth 100000
set_option maxHeartbeats 4000000
namespace Go.Proofs.Ytfmfkablbaoofaa.Ae
open Go Go.Proofs.Ytfmfkablbaoofaa.Bits
theorem tget_cons (x : SL) (T : List SL) (k : Int × Int) : tget (x :: T) k = if sid x = k then some x else tget T k := by
  unfold tget
  by_cases h : sid x = k
  · rw [if_pos h, List.find?_cons_of_pos (by rw [decide_eq_true_iff]; exact h)]
  · rw [if_neg h, List.find?_cons_of_neg (by rw [decide_eq_true_iff]; exact h)]
theorem tget_hit {x : SL} {T : List SL} {k : Int × Int} (h : sid x = k) : tget (x :: T) k = some x := by rw [tget_cons, if_pos h]
section
variable {k o s b r t n : Int} (hc : capOK k o s b r = true) (ht : 0 ≤ t ∧ t < 16) (hn : 0 ≤ n ∧ n ≤ 7)
def d1 (k o s b r : Int) : SL := ⟨1, 3, k, o, s, b, r, 0, 0⟩
def d2 (k o s b r t n : Int) : SL := ⟨2, t, k, o, s, b, dless r n, 1, 3⟩
def d3 (k o s b r t n : Int) : SL := ⟨2, t, k, o, s, b, dless r n, 4, 4⟩
def d4 (k o s b r : Int) : SL := ⟨4, 4, k, o, s, b, r, 0, 0⟩
include hc ht hn
end
end Go.Proofs.Ytfmfkablbaoofaa.Ae
