/- Slices of one's own whose elements have several cells; no condition beyond the ones that each theorem names. -/
import Derived.Test.YtddnhjmogomimaaOw
set_option linter.unusedVariables false
set_option linter.unusedSimpArgs false
namespace Go.Proofs.Ytddnhjmogomimaa.Ae
open Go
def fl {α : Type} (f : α → List Value) (l : List α) : List Value := l.flatMap f
section
variable {α : Type} {f : α → List Value} {sz : Nat}
theorem fl_nil : fl f [] = [] := rfl
theorem fl_cons {x : α} {l : List α} : fl f (x :: l) = f x ++ fl f l := by unfold fl; simp
theorem fl_one {x : α} : fl f [x] = f x := by unfold fl; simp
theorem fl_app {l m : List α} : fl f (l ++ m) = fl f l ++ fl f m := by unfold fl; simp
theorem fl_snoc {l : List α} {x : α} : fl f l ++ f x = fl f (l ++ [x]) := by rw [fl_app, fl_one]
variable (hf : ∀ x, (f x).length = sz)
include hf
theorem fl_length (l : List α) : (fl f l).length = l.length * sz := by
  induction l with
  | nil => simp [fl]
  | cons x l ih => rw [fl_cons, List.length_append, hf, ih, List.length_cons, Nat.succ_mul, Nat.add_comm]
theorem fl_take (l : List α) : ∀ i : Nat, (fl f l).take (i * sz) = fl f (l.take i) := by
  induction l with
  | nil => intro i; simp [fl]
  | cons x l ih =>
    intro i
    cases i with
    | zero => simp [fl]
    | succ i =>
      rw [fl_cons, List.take_succ_cons, fl_cons, List.take_append, hf, List.take_of_length_le (by rw [hf, Nat.succ_mul]; omega)]
      congr 1
      rw [show (i + 1) * sz - sz = i * sz by rw [Nat.succ_mul]; omega]
      exact ih i
theorem fl_drop (l : List α) : ∀ i : Nat, (fl f l).drop (i * sz) = fl f (l.drop i) := by
  induction l with
  | nil => intro i; simp [fl]
  | cons x l ih =>
    intro i
    cases i with
    | zero => simp [fl]
    | succ i =>
      rw [fl_cons, List.drop_succ_cons, List.drop_append, hf, List.drop_eq_nil_of_le (by rw [hf, Nat.succ_mul]; omega), List.nil_append]
      rw [show (i + 1) * sz - sz = i * sz by rw [Nat.succ_mul]; omega]
      exact ih i
theorem fl_at (l : List α) (d : α) {i : Nat} (hi : i < l.length) : ((fl f l).drop (i * sz)).take sz = f (l.getD i d) := by
  rw [fl_drop hf, List.drop_eq_getElem_cons hi, fl_cons, List.take_left' (hf _), List.getD_eq_getElem?_getD, List.getElem?_eq_getElem hi]; rfl
theorem fl_cell (l : List α) (d : α) {i k : Nat} (hi : i < l.length) (hk : k < sz) : (fl f l)[i * sz + k]? = (f (l.getD i d))[k]? := by
  rw [← fl_at hf l d hi, List.getElem?_take, if_pos hk, List.getElem?_drop]
theorem fl_set (l : List α) {i : Nat} (hi : i < l.length) (x : α) : (fl f l).take (i * sz) ++ f x ++ (fl f l).drop (i * sz + sz) = fl f (l.set i x) := by
  rw [fl_take hf, show i * sz + sz = (i + 1) * sz by rw [Nat.succ_mul], fl_drop hf, List.set_eq_take_append_cons_drop, if_pos hi, fl_app, fl_cons, List.append_assoc]
theorem fl_setk (l : List α) (d : α) {i k : Nat} (hi : i < l.length) (hk : k < sz) (v : Value) (x : α) (hx : f x = (f (l.getD i d)).set k v) : (fl f l).set (i * sz + k) v = fl f (l.set i x) := by
  have hl : (f (l.getD i d)).length = sz := hf _
  rw [← fl_set hf l hi, hx, ← fl_at hf l d hi]
  have hlen : i * sz + sz ≤ (fl f l).length := by
    rw [fl_length hf, ← Nat.succ_mul]; exact Nat.mul_le_mul_right _ hi
  rw [List.set_eq_take_append_cons_drop, if_pos (by omega), List.set_eq_take_append_cons_drop, if_pos (by simp; omega)]
  rw [List.take_take, Nat.min_eq_left (by omega), List.drop_take, List.drop_drop, List.append_assoc, List.append_assoc]
  simp only [List.cons_append]
  rw [List.take_add, List.append_assoc]
  congr 2
  congr 1
  rw [show (fl f l).drop (i * sz + sz) = ((fl f l).drop (i * sz + (k + 1))).drop (sz - (k + 1)) by rw [List.drop_drop]; congr 1; omega, List.take_append_drop]
  rfl
theorem slf_len {a : Option Addr} {n cap : Nat} {e : TypeId} {l : List α} {L : List HA} {st : PH} (h : Sat (SlB a n cap e sz (fl f l) :: L) st) (h0 : 0 < sz) : l.length = n := by
  have := (sat_slb_len h).1
  rw [fl_length hf] at this
  exact Nat.eq_of_mul_eq_mul_right h0 this
theorem slf_agg {a : Option Addr} {n cap : Nat} {e : TypeId} {l : List α} {L : List HA} {st : PH} (h : Sat (SlB a n cap e sz (fl f l) :: L) st) (d : α) {i : Nat} (hi : i < l.length) (h0 : 0 < sz) : st.cellsAt ((a.getD ⟨0, 0, none⟩).add (i * sz)) sz = some (f (l.getD i d)).toArray := by
  rw [slb_cellsAt h (i * sz) sz (by rw [fl_length hf, ← Nat.succ_mul]; exact Nat.mul_le_mul_right _ hi) h0, fl_at hf l d hi]
theorem slf_cell {a : Option Addr} {n cap : Nat} {e : TypeId} {l : List α} {L : List HA} {st : PH} (h : Sat (SlB a n cap e sz (fl f l) :: L) st) (d : α) {i k : Nat} (hi : i < l.length) (hk : k < sz) : st.cell? ((a.getD ⟨0, 0, none⟩).add (i * sz + k)) = (f (l.getD i d))[k]? := by
  have : i * sz + k < (fl f l).length := by
    rw [fl_length hf]
    have := Nat.mul_le_mul_right sz (show i + 1 ≤ l.length from hi)
    rw [Nat.succ_mul] at this; omega
  rw [slb_cell h _ this, fl_cell hf l d hi hk]
/-- An element is laid. -/
theorem st_fl {P : Program} {st : PH} {K : FR → PH → Prop} {d : Option Tmp} {F : FR} {L L' : List HA} {a : Option Addr} {i m cap : Nat} {e : TypeId} {l : List α} {x : α} (hS : Sat L st) (p : Pick (SlB a m cap e sz (fl f l)) L L') (hi : i < l.length) (h0 : 0 < sz)
    (k : ∀ s, Sat (SlB a m cap e sz (fl f (l.set i x)) :: L') s → K (put F d undef) s) : cont P st K d F (storeD ((a.getD ⟨0, 0, none⟩).add (i * sz)) (f x) st) := by
  refine st_slb hS p ?_ (by rw [hf]; exact h0) fun s hs => k s ?_
  · rw [fl_length hf, hf, ← Nat.succ_mul]; exact Nat.mul_le_mul_right _ hi
  · rw [hf, fl_set hf l hi] at hs; exact hs
/-- A field of an element is laid. -/
theorem st_fld {P : Program} {st : PH} {K : FR → PH → Prop} {d : Option Tmp} {F : FR} {L L' : List HA} {a : Option Addr} {i j m cap : Nat} {e : TypeId} {l : List α} {x d0 : α} {v : Value} (hS : Sat L st) (p : Pick (SlB a m cap e sz (fl f l)) L L') (hi : i < l.length) (hj : j < sz) (hx : f x = (f (l.getD i d0)).set j v)
    (k : ∀ s, Sat (SlB a m cap e sz (fl f (l.set i x)) :: L') s → K (put F d undef) s) : cont P st K d F (storeD ((a.getD ⟨0, 0, none⟩).add (i * sz + j)) [v] st) := by
  have hb : i * sz + j < (fl f l).length := by
    rw [fl_length hf]
    have := Nat.mul_le_mul_right sz (show i + 1 ≤ l.length from hi)
    rw [Nat.succ_mul] at this; omega
  refine st_slb hS p (by simp; omega) (by simp) fun s hs => k s ?_
  have e1 := set_one (fl f l) (i * sz + j) v hb
  simp only [List.length_cons, List.length_nil, Nat.zero_add] at hs
  rw [e1, fl_setk hf l d0 hi hj v x hx] at hs
  exact hs
end
end Go.Proofs.Ytddnhjmogomimaa.Ae
