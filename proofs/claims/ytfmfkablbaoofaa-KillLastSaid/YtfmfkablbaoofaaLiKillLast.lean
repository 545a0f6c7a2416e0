/- A way through nodes, each in the one ahead: plain laws for LookWays; for all that the lemmas name. -/
import Derived.Test.YtfmfkablbaoofaaLgKillLast
import Derived.Test.YtfmfkablbaoofaaDxKillLast
set_option linter.unusedVariables false
set_option linter.unusedSimpArgs false
set_option maxRecDepth 100000
set_option maxHeartbeats 4000000
namespace Go.Proofs.Ytfmfkablbaoofaa.Ae
open Go Go.Proofs.Ytfmfkablbaoofaa.Bits
/-! ### the table -/
theorem mem_tput {T : List SL} {r x : SL} (h : canPut T r = true) : x ∈ tput T r ↔ x = r ∨ x ∈ T := by
  unfold tput
  rw [h, cond_true]
  exact mem_tins
/-- None has a parent. -/
def Flat (T : List SL) : Prop := ∀ x ∈ T, x.pn = 0 ∧ x.ps = 0
theorem flat_turn {T : List SL} (h : Flat T) {a b : Int} (c d : Int) (hab : ¬ (a = 0 ∧ b = 0)) : tturn T a b c d = T := by
  unfold tturn
  exact (List.map_congr_left fun z hz => by
    rw [if_neg fun e => hab ⟨e.1.symm.trans (h z hz).1, e.2.symm.trans (h z hz).2⟩]; rfl).trans (List.map_id T)
theorem flat_kill {T : List SL} (h : Flat T) (hT : TSorted T) {p : Int × Int} (hp : ¬ (p.1 = 0 ∧ p.2 = 0)) : tkill T p = tdrop T p := by
  unfold tkill
  split
  · rename_i e
    unfold tdrop
    exact (List.filter_eq_self.2 fun x hx => decide_eq_true (tget_none.1 e x hx)).symm
  · rw [flat_turn h _ _ hp]
theorem canPut_flat {T : List SL} {r : SL} (hr : r.pn = 0 ∧ r.ps = 0) (h1 : 1 ≤ r.nd ∧ r.nd ≤ 64 ∧ 0 ≤ r.sl ∧ r.sl < 16) (h2 : tget T (sid r) = none) (h3 : capOK r.k r.o r.s r.b r.r = true) : canPut T r = true := by
  unfold canPut canPl
  rw [h2, h3, decide_eq_true h1, decide_eq_true hr]
  rfl
/-! ### the way -/
def wX (i : Nat) (k : Int) : SL := ⟨i + 1, k, 2, i + 2, 0, 0, 7, 0, 0⟩
/-! ### both -/
def WT (ks : Nat → Int) (i : Nat) (T : List SL) : Prop := TSorted T ∧ Flat T ∧ T.length ≤ i ∧ (∀ x ∈ T, x.nd ≤ i) ∧ ∀ j, j < i → tget T ((j : Int) + 1, ks j) = some (wX j (ks j))
section
variable {ks : Nat → Int} (hk : ∀ j, 0 ≤ ks j ∧ ks j < 16) {n : Nat} (hn : n + 1 ≤ 5) {T : List SL} (h : WT ks n T)
include hk hn h
end
end Go.Proofs.Ytfmfkablbaoofaa.Ae
