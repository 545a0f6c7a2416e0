/- A way through nodes, each in the one ahead: plain laws for LookWays; for all that the lemmas name. -/
import Derived.Test.YtfmfkablbaoofaaLgKillNodes
import Derived.Test.YtfmfkablbaoofaaDxKillNodes
set_option linter.unusedVariables false
set_option linter.unusedSimpArgs false
set_option maxRecDepth 100000
set_option maxHeartbeats 4000000
namespace Go.Proofs.Ytfmfkablbaoofaa.Ae
open Go Go.Proofs.Ytfmfkablbaoofaa.Bits
/-! ### the table -/
/-- None has a parent. -/
def Flat (T : List SL) : Prop := ∀ x ∈ T, x.pn = 0 ∧ x.ps = 0
/-! ### the way -/
def wX (i : Nat) (k : Int) : SL := ⟨i + 1, k, 2, i + 2, 0, 0, 7, 0, 0⟩
/-! ### both -/
def WT (ks : Nat → Int) (i : Nat) (T : List SL) : Prop := TSorted T ∧ Flat T ∧ T.length ≤ i ∧ (∀ x ∈ T, x.nd ≤ i) ∧ ∀ j, j < i → tget T ((j : Int) + 1, ks j) = some (wX j (ks j))
section
variable {ks : Nat → Int} (hk : ∀ j, 0 ≤ ks j ∧ ks j < 16) {n : Nat} (hn : n + 1 ≤ 5) {T : List SL} (h : WT ks n T)
include hk hn h
end
end Go.Proofs.Ytfmfkablbaoofaa.Ae
