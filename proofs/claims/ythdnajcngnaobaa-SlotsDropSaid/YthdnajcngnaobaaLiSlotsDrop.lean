/- A way through nodes, each in the one ahead: plain laws for LookWays; for all that the lemmas name. -/
import Derived.Test.YthdnajcngnaobaaLgSlotsDrop
import Derived.Test.YthdnajcngnaobaaDxSlotsDrop
set_option linter.unusedVariables false
set_option linter.unusedSimpArgs false
set_option maxRecDepth 100000
set_option maxHeartbeats 4000000
namespace Go.Proofs.Ythdnajcngnaobaa.Ae
open Go Go.Proofs.Ythdnajcngnaobaa.Bits
/-! ### the table -/
theorem tget_tdrop_self (T : List SL) (k : Int × Int) : tget (tdrop T k) k = none := by
  rw [tget_none]
  intro x hx
  exact of_decide_eq_true (List.mem_filter.1 hx).2
/-- None has a parent. -/
def Flat (T : List SL) : Prop := ∀ x ∈ T, x.pn = 0 ∧ x.ps = 0
/-! ### the way -/
def wX (i : Nat) (k : Int) : SL := ⟨i + 1, k, 2, i + 2, 0, 0, 7, 0, 0⟩
/-! ### both -/
def WT (ks : Nat → Int) (i : Nat) (T : List SL) : Prop := TSorted T ∧ Flat T ∧ T.length ≤ i ∧ (∀ x ∈ T, x.nd ≤ i) ∧ ∀ j, j < i → tget T ((j : Int) + 1, ks j) = some (wX j (ks j))
theorem frame_cap {o : Int} (ho : 1 ≤ o ∧ o ≤ 64) : capOK 3 o 0 0 0 = true := capOK_iff.2 ⟨by omega, .inl (by omega), .inl (by omega), .inl (by omega), by omega⟩
section
variable {ks : Nat → Int} (hk : ∀ j, 0 ≤ ks j ∧ ks j < 16) {n : Nat} (hn : n + 1 ≤ 5) {T : List SL} (h : WT ks n T)
include hk hn h
end
end Go.Proofs.Ythdnajcngnaobaa.Ae
