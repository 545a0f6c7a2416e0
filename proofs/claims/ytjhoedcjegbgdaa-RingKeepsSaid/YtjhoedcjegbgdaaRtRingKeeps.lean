/- Rings: plain laws of the memory's words, of what is posted and flushed. -/
import Derived.Test.YtjhoedcjegbgdaaRmRingKeeps
import Derived.Test.YtjhoedcjegbgdaaPlRingKeeps
set_option linter.unusedVariables false
set_option linter.unusedSimpArgs false
namespace Go.Proofs.Ytjhoedcjegbgdaa.Ae
open Go Go.Proofs.Ytjhoedcjegbgdaa.Bits
theorem lay_getD (b l : List Int) (o j : Nat) (h : o + l.length ≤ b.length) : (lay b o l).getD j 0 = if o ≤ j ∧ j < o + l.length then l.getD (j - o) 0 else b.getD j 0 := by
  unfold lay
  simp only [List.getD_eq_getElem?_getD]
  by_cases h1 : j < o
  · rw [if_neg (by omega), List.append_assoc, List.getElem?_append_left (by rw [List.length_take]; omega), List.getElem?_take, if_pos h1]
  · by_cases h2 : j < o + l.length
    · rw [if_pos ⟨by omega, h2⟩, List.append_assoc, List.getElem?_append_right (by rw [List.length_take]; omega), List.length_take, Nat.min_eq_left (by omega), List.getElem?_append_left (by omega)]
    · rw [if_neg (by omega), List.getElem?_append_right (by rw [List.length_append, List.length_take]; omega), List.length_append, List.length_take, Nat.min_eq_left (by omega), List.getElem?_drop, show o + l.length + (j - (o + l.length)) = j by omega]
theorem drop_take_getD (b : List Int) (o m j : Nat) (h : j < m) : ((b.drop o).take m).getD j 0 = b.getD (o + j) 0 := by
  simp only [List.getD_eq_getElem?_getD, List.getElem?_take, h, if_true, List.getElem?_drop]
theorem lay_cut_off {b l : List Int} {o o' m : Nat} (h : o + l.length ≤ b.length) (hd : o' + m ≤ o ∨ o + l.length ≤ o') : ((lay b o l).drop o').take m = (b.drop o').take m := by
  refine list_same (by simp [lay_length h]) fun j hj => ?_
  have hj : j < m := by simp at hj; omega
  rw [drop_take_getD _ _ _ _ hj, drop_take_getD _ _ _ _ hj, lay_getD _ _ _ _ h, if_neg (by omega)]
theorem lay_cut_in {b l : List Int} {o o' m : Nat} (h : o + l.length ≤ b.length) (h1 : o ≤ o') (h2 : o' + m ≤ o + l.length) : ((lay b o l).drop o').take m = (l.drop (o' - o)).take m := by
  refine list_same (by simp [lay_length h]; omega) fun j hj => ?_
  have hj : j < m := by simp at hj; omega
  rw [drop_take_getD _ _ _ _ hj, drop_take_getD _ _ _ _ hj, lay_getD _ _ _ _ h, if_pos (by omega), show o' + j - o = o' - o + j by omega]
/-- What lies elsewhere is read as before. -/
theorem readM_off {bs : List (List Int)} (hok : UnitsOK bs) {u o v o' m : Int} {l : List Int} (hi : inU bs.length u o l.length) (hv : 1 ≤ v) (hd : u ≠ v ∨ o' + m ≤ o ∨ o + l.length ≤ o') : readM (writeM bs u o l) v o' m = readM bs v o' m := by
  unfold readM
  rw [writeM_length]
  by_cases hc : inU bs.length v o' m
  · rw [if_pos hc, if_pos hc]
    by_cases hu : u = v
    · subst hu
      rw [unitAt_write hi]
      have g := (unitAt_ok hok hi.1 hi.2.1).1
      obtain ⟨k1, k2, k3, k4, k5, k6⟩ := hi
      obtain ⟨c1, c2, c3, c4, c5, c6⟩ := hc
      refine lay_cut_off (by omega) ?_
      rcases hd with h | h | h
      · exact absurd rfl h
      · left; omega
      · right; omega
    · rw [unitAt_write_ne hv hu]
  · rw [if_neg hc, if_neg hc]
theorem readM_in {bs : List (List Int)} (hok : UnitsOK bs) {u o o' m : Int} {l : List Int} (hi : inU bs.length u o l.length) (h1 : o ≤ o') (h0 : 0 ≤ m) (h2 : o' + m ≤ o + l.length) : readM (writeM bs u o l) u o' m = (l.drop (o' - o).toNat).take m.toNat := by
  obtain ⟨k1, k2, k3, k4, k5, k6⟩ := hi
  unfold readM
  rw [writeM_length, if_pos ⟨k1, k2, by omega, by omega, by omega, by omega⟩, unitAt_write ⟨k1, k2, k3, k4, k5, k6⟩]
  have g := (unitAt_ok hok k1 k2).1
  rw [lay_cut_in (by omega) (by omega) (by omega), show o'.toNat - o.toNat = (o' - o).toNat by omega]
theorem wordM_off {bs : List (List Int)} (hok : UnitsOK bs) {u o v o' : Int} {l : List Int} (hi : inU bs.length u o l.length) (hv : 1 ≤ v) (hd : u ≠ v ∨ o' + 4 ≤ o ∨ o + l.length ≤ o') : wordM (writeM bs u o l) v o' = wordM bs v o' := by
  unfold wordM; rw [readM_off hok hi hv hd]
theorem gN_b4 {n : Int} (h0 : 0 ≤ n) (h1 : n < 4294967296) : gN (b4 n) (b4 n).length 0 4 = n := by
  have := gN_put' (zer 4) 4 (zer_length 4) 0 n 4 0 4 0 (by omega) (by omega) (by omega) (by omega)
  rw [b4_length]
  unfold b4
  rw [this]
  show n / 1 % 4294967296 = n
  omega
theorem wordM_b4 {bs : List (List Int)} (hok : UnitsOK bs) {u o n : Int} (hi : inU bs.length u o 4) (h0 : 0 ≤ n) (h1 : n < 4294967296) : wordM (writeM bs u o (b4 n)) u o = n := by
  unfold wordM
  have hl : ((b4 n).length : Int) = 4 := by rw [b4_length]; rfl
  rw [readM_in hok (by rw [hl]; exact hi) (Int.le_refl _) (by decide) (by rw [hl]; omega)]
  rw [show (o - o).toNat = 0 by omega, List.drop_zero, List.take_of_length_le (by rw [b4_length]; decide)]
  exact gN_b4 h0 h1
theorem wordM_new {u o : Int} (hu : 1 ≤ u ∧ u ≤ 3) (h0 : 0 ≤ o) (h1 : o ≤ 508) : wordM (newM 3) u o = 0 := by
  have hl : (newM 3).length = 3 := newM_length 3
  unfold wordM
  rw [readM_zer ⟨hu.1, by rw [hl]; exact hu.2, h0, by omega, by decide, by omega⟩ (unitAt_new hu.1 (by show u ≤ (3 : Nat); omega))]
  decide
/-- A completion that is written leaves the words ahead, but the tail. -/
theorem plc_in (n : Int) {b size : Int} (h0 : 0 ≤ b) (h4 : b ≤ 4) (hs : 0 ≤ size) (hs2 : size ≤ 31) : 16 ≤ plc n b size ∧ plc n b size + size ≤ 512 := by
  have e1 := mod_p2 n h0 h4
  have e2 := p2_le h0 h4
  have hm : 0 ≤ n % p2 b * size ∧ n % p2 b * size ≤ 15 * size := ⟨Int.mul_nonneg e1.1 hs, Int.mul_le_mul_of_nonneg_right (by omega) hs⟩
  unfold plc
  omega
theorem comp_in {bs : List (List Int)} {cq cb t : Int} (hq : 1 ≤ cq) (hq2 : cq ≤ bs.length) (g0 : 0 ≤ cb) (g4 : cb ≤ 4) (c : C4) : inU bs.length cq (plc t cb 16) (compB c).length := by
  have := plc_in t g0 g4 (size := 16) (by decide) (by decide)
  rw [compB_length]
  exact ⟨hq, hq2, by omega, by omega, by decide, by omega⟩
theorem wrB_head {bs : List (List Int)} (hok : UnitsOK bs) {cq cb t : Int} (hq : 1 ≤ cq) (hq2 : cq ≤ bs.length) (g0 : 0 ≤ cb) (g4 : cb ≤ 4) (c : C4) : wordM (wrB bs cq cb t c) cq 0 = wordM bs cq 0 := by
  have hi := comp_in (t := t) hq hq2 g0 g4 c
  have := plc_in t g0 g4 (size := 16) (by decide) (by decide)
  unfold wrB
  rw [wordM_off (writeM_ok hok (compB_wf c)) (by rw [writeM_length, b4_length]; exact ⟨hq, hq2, by decide, by decide, by decide, by decide⟩) hq (by right; left; decide), wordM_off hok hi hq (by right; left; omega)]
theorem canW_eq {bs : List (List Int)} {cq cb t : Int} : canW bs cq cb t ↔ (t - wordM bs cq 0) % 4294967296 < p2 cb := by unfold canW roomD; rw [wr_u32']
end Go.Proofs.Ytjhoedcjegbgdaa.Ae
