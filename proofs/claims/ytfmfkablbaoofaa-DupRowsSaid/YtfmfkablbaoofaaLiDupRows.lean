/- A way through nodes, each in the one ahead: plain laws for LookWays; for all that the lemmas name. -/
import Derived.Test.YtfmfkablbaoofaaLgDupRows
import Derived.Test.YtfmfkablbaoofaaDxDupRows
set_option linter.unusedVariables false
set_option linter.unusedSimpArgs false
set_option maxRecDepth 100000
set_option maxHeartbeats 4000000
namespace Go.Proofs.Ytfmfkablbaoofaa.Ae
open Go Go.Proofs.Ytfmfkablbaoofaa.Bits
/-! ### the table -/
theorem mem_tput {T : List SL} {r x : SL} (h : canPut T r = true) : x ∈ tput T r ↔ x = r ∨ x ∈ T := by
  unfold tput
  rw [h, cond_true]
  exact mem_tins
theorem tget_tput_self {T : List SL} {r : SL} (hT : TSorted T) (h : canPut T r = true) : tget (tput T r) (sid r) = some r :=
  (tget_some (tput_sorted hT)).2 ⟨(mem_tput h).2 (.inl rfl), rfl⟩
theorem tget_tput_other {T : List SL} {r : SL} (hT : TSorted T) (h : canPut T r = true) {k : Int × Int} (hk : sid r ≠ k) : tget (tput T r) k = tget T k := by
  cases e : tget T k with
  | some x =>
    obtain ⟨h1, h2⟩ := (tget_some hT).1 e
    exact (tget_some (tput_sorted hT)).2 ⟨(mem_tput h).2 (.inr h1), h2⟩
  | none =>
    rw [tget_none]
    intro x hx
    rcases (mem_tput h).1 hx with rfl | hx
    · exact hk
    · exact tget_none.1 e x hx
/-- None has a parent. -/
def Flat (T : List SL) : Prop := ∀ x ∈ T, x.pn = 0 ∧ x.ps = 0
/-! ### the way -/
def wX (i : Nat) (k : Int) : SL := ⟨i + 1, k, 2, i + 2, 0, 0, 7, 0, 0⟩
/-! ### both -/
def WT (ks : Nat → Int) (i : Nat) (T : List SL) : Prop := TSorted T ∧ Flat T ∧ T.length ≤ i ∧ (∀ x ∈ T, x.nd ≤ i) ∧ ∀ j, j < i → tget T ((j : Int) + 1, ks j) = some (wX j (ks j))
section
variable {ks : Nat → Int} (hk : ∀ j, 0 ≤ ks j ∧ ks j < 16) {n : Nat} (hn : n + 1 ≤ 5) {T : List SL} (h : WT ks n T)
include hk hn h
end
end Go.Proofs.Ytfmfkablbaoofaa.Ae
