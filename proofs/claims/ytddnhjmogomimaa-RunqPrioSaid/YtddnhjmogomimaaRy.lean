/- Chapter 11: those who may run, told plainly. -/
import Derived.Test.YtddnhjmogomimaaRu
set_option linter.unusedVariables false
set_option linter.unusedSimpArgs false
set_option maxRecDepth 100000
set_option maxHeartbeats 1000000
namespace Go.Proofs.Ytddnhjmogomimaa.Ae
open Go Go.Proofs.Ytddnhjmogomimaa.Bits
theorem rdI_take (l : List TP) (m : Int) : ∀ i, i ≤ l.length → rdI l m i = ((l.take i).filter fun x => decide (x.2 = m)).map Prod.fst := by
  intro i
  induction i with
  | zero => intro _; rfl
  | succ i ih =>
    intro h
    have hi : i < l.length := by omega
    unfold rdI
    rw [ih (by omega), List.take_add_one, List.getElem?_eq_getElem hi, Option.toList_some, List.filter_append, List.map_append, List.getD_eq_getElem?_getD, List.getElem?_eq_getElem hi]
    simp only [Option.getD_some]
    by_cases hc : l[i].2 = m
    · rw [if_pos hc]; simp [hc]
    · rw [if_neg hc]; simp [hc]
theorem readyQ_eq (l : List TP) : readyQ l = (l.filter fun x => decide (x.2 = mxI l l.length)).map Prod.fst := by
  unfold readyQ
  rw [rdI_take _ _ _ (Nat.le_refl _), List.take_length]
/-- The greatest one. -/
theorem mxI_le (l : List TP) : ∀ i, i ≤ l.length → ∀ j, j < i → (l.getD j qd).2 ≤ mxI l i := by
  intro i
  induction i with
  | zero => intro _ j hj; omega
  | succ i ih =>
    intro h j hj
    have := ih (by omega)
    unfold mxI
    by_cases e : j = i
    · subst e; split <;> omega
    · have := this j (by omega); split <;> omega
theorem mxI_is (l : List TP) : ∀ i, i ≤ l.length → mxI l i = -1 ∨ ∃ j, j < i ∧ (l.getD j qd).2 = mxI l i := by
  intro i
  induction i with
  | zero => intro _; exact .inl rfl
  | succ i ih =>
    intro h
    unfold mxI
    split
    · exact .inr ⟨i, by omega, rfl⟩
    · rcases ih (by omega) with h1 | ⟨j, hj, h1⟩
      · exact .inl h1
      · exact .inr ⟨j, by omega, h1⟩
end Go.Proofs.Ytddnhjmogomimaa.Ae
