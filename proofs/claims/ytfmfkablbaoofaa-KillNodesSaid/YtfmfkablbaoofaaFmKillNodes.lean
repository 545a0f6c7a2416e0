/- Slices of one's own whose elements have several cells; no condition beyond the ones that each theorem names. -/
import Derived.Test.YtfmfkablbaoofaaOwKillNodes
set_option linter.unusedVariables false
set_option linter.unusedSimpArgs false
namespace Go.Proofs.Ytfmfkablbaoofaa.Ae
open Go
def fl {α : Type} (f : α → List Value) (l : List α) : List Value := l.flatMap f
section
variable {α : Type} {f : α → List Value} {sz : Nat}
theorem fl_cons {x : α} {l : List α} : fl f (x :: l) = f x ++ fl f l := by unfold fl; simp
theorem fl_one {x : α} : fl f [x] = f x := by unfold fl; simp
theorem fl_app {l m : List α} : fl f (l ++ m) = fl f l ++ fl f m := by unfold fl; simp
theorem fl_snoc {l : List α} {x : α} : fl f l ++ f x = fl f (l ++ [x]) := by rw [fl_app, fl_one]
variable (hf : ∀ x, (f x).length = sz)
include hf
theorem fl_length (l : List α) : (fl f l).length = l.length * sz := by
  induction l with
  | nil => simp [fl]
  | cons x l ih => rw [fl_cons, List.length_append, hf, ih, List.length_cons, Nat.succ_mul, Nat.add_comm]
theorem fl_drop (l : List α) : ∀ i : Nat, (fl f l).drop (i * sz) = fl f (l.drop i) := by
  induction l with
  | nil => intro i; simp [fl]
  | cons x l ih =>
    intro i
    cases i with
    | zero => simp [fl]
    | succ i =>
      rw [fl_cons, List.drop_succ_cons, List.drop_append, hf, List.drop_eq_nil_of_le (by rw [hf, Nat.succ_mul]; omega), List.nil_append]
      rw [show (i + 1) * sz - sz = i * sz by rw [Nat.succ_mul]; omega]
      exact ih i
theorem fl_at (l : List α) (d : α) {i : Nat} (hi : i < l.length) : ((fl f l).drop (i * sz)).take sz = f (l.getD i d) := by
  rw [fl_drop hf, List.drop_eq_getElem_cons hi, fl_cons, List.take_left' (hf _), List.getD_eq_getElem?_getD, List.getElem?_eq_getElem hi]; rfl
theorem slf_agg {a : Option Addr} {n cap : Nat} {e : TypeId} {l : List α} {L : List HA} {st : PH} (h : Sat (SlB a n cap e sz (fl f l) :: L) st) (d : α) {i : Nat} (hi : i < l.length) (h0 : 0 < sz) : st.cellsAt ((a.getD ⟨0, 0, none⟩).add (i * sz)) sz = some (f (l.getD i d)).toArray := by
  rw [slb_cellsAt h (i * sz) sz (by rw [fl_length hf, ← Nat.succ_mul]; exact Nat.mul_le_mul_right _ hi) h0, fl_at hf l d hi]
end
end Go.Proofs.Ytfmfkablbaoofaa.Ae
