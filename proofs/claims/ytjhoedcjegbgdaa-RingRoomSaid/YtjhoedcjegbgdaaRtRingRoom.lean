/- Rings: plain laws of the memory's words, of what is posted and flushed. -/
import Derived.Test.YtjhoedcjegbgdaaRmRingRoom
import Derived.Test.YtjhoedcjegbgdaaPlRingRoom
set_option linter.unusedVariables false
set_option linter.unusedSimpArgs false
namespace Go.Proofs.Ytjhoedcjegbgdaa.Ae
open Go Go.Proofs.Ytjhoedcjegbgdaa.Bits
theorem lay_getD (b l : List Int) (o j : Nat) (h : o + l.length ≤ b.length) : (lay b o l).getD j 0 = if o ≤ j ∧ j < o + l.length then l.getD (j - o) 0 else b.getD j 0 := by
  unfold lay
  simp only [List.getD_eq_getElem?_getD]
  by_cases h1 : j < o
  · rw [if_neg (by omega), List.append_assoc, List.getElem?_append_left (by rw [List.length_take]; omega), List.getElem?_take, if_pos h1]
  · by_cases h2 : j < o + l.length
    · rw [if_pos ⟨by omega, h2⟩, List.append_assoc, List.getElem?_append_right (by rw [List.length_take]; omega), List.length_take, Nat.min_eq_left (by omega), List.getElem?_append_left (by omega)]
    · rw [if_neg (by omega), List.getElem?_append_right (by rw [List.length_append, List.length_take]; omega), List.length_append, List.length_take, Nat.min_eq_left (by omega), List.getElem?_drop, show o + l.length + (j - (o + l.length)) = j by omega]
theorem drop_take_getD (b : List Int) (o m j : Nat) (h : j < m) : ((b.drop o).take m).getD j 0 = b.getD (o + j) 0 := by
  simp only [List.getD_eq_getElem?_getD, List.getElem?_take, h, if_true, List.getElem?_drop]
theorem lay_cut_off {b l : List Int} {o o' m : Nat} (h : o + l.length ≤ b.length) (hd : o' + m ≤ o ∨ o + l.length ≤ o') : ((lay b o l).drop o').take m = (b.drop o').take m := by
  refine list_same (by simp [lay_length h]) fun j hj => ?_
  have hj : j < m := by simp at hj; omega
  rw [drop_take_getD _ _ _ _ hj, drop_take_getD _ _ _ _ hj, lay_getD _ _ _ _ h, if_neg (by omega)]
theorem lay_cut_in {b l : List Int} {o o' m : Nat} (h : o + l.length ≤ b.length) (h1 : o ≤ o') (h2 : o' + m ≤ o + l.length) : ((lay b o l).drop o').take m = (l.drop (o' - o)).take m := by
  refine list_same (by simp [lay_length h]; omega) fun j hj => ?_
  have hj : j < m := by simp at hj; omega
  rw [drop_take_getD _ _ _ _ hj, drop_take_getD _ _ _ _ hj, lay_getD _ _ _ _ h, if_pos (by omega), show o' + j - o = o' - o + j by omega]
/-- What lies elsewhere is read as before. -/
theorem readM_off {bs : List (List Int)} (hok : UnitsOK bs) {u o v o' m : Int} {l : List Int} (hi : inU bs.length u o l.length) (hv : 1 ≤ v) (hd : u ≠ v ∨ o' + m ≤ o ∨ o + l.length ≤ o') : readM (writeM bs u o l) v o' m = readM bs v o' m := by
  unfold readM
  rw [writeM_length]
  by_cases hc : inU bs.length v o' m
  · rw [if_pos hc, if_pos hc]
    by_cases hu : u = v
    · subst hu
      rw [unitAt_write hi]
      have g := (unitAt_ok hok hi.1 hi.2.1).1
      obtain ⟨k1, k2, k3, k4, k5, k6⟩ := hi
      obtain ⟨c1, c2, c3, c4, c5, c6⟩ := hc
      refine lay_cut_off (by omega) ?_
      rcases hd with h | h | h
      · exact absurd rfl h
      · left; omega
      · right; omega
    · rw [unitAt_write_ne hv hu]
  · rw [if_neg hc, if_neg hc]
theorem readM_in {bs : List (List Int)} (hok : UnitsOK bs) {u o o' m : Int} {l : List Int} (hi : inU bs.length u o l.length) (h1 : o ≤ o') (h0 : 0 ≤ m) (h2 : o' + m ≤ o + l.length) : readM (writeM bs u o l) u o' m = (l.drop (o' - o).toNat).take m.toNat := by
  obtain ⟨k1, k2, k3, k4, k5, k6⟩ := hi
  unfold readM
  rw [writeM_length, if_pos ⟨k1, k2, by omega, by omega, by omega, by omega⟩, unitAt_write ⟨k1, k2, k3, k4, k5, k6⟩]
  have g := (unitAt_ok hok k1 k2).1
  rw [lay_cut_in (by omega) (by omega) (by omega), show o'.toNat - o.toNat = (o' - o).toNat by omega]
theorem wordM_off {bs : List (List Int)} (hok : UnitsOK bs) {u o v o' : Int} {l : List Int} (hi : inU bs.length u o l.length) (hv : 1 ≤ v) (hd : u ≠ v ∨ o' + 4 ≤ o ∨ o + l.length ≤ o') : wordM (writeM bs u o l) v o' = wordM bs v o' := by
  unfold wordM; rw [readM_off hok hi hv hd]
theorem gN_b4 {n : Int} (h0 : 0 ≤ n) (h1 : n < 4294967296) : gN (b4 n) (b4 n).length 0 4 = n := by
  have := gN_put' (zer 4) 4 (zer_length 4) 0 n 4 0 4 0 (by omega) (by omega) (by omega) (by omega)
  rw [b4_length]
  unfold b4
  rw [this]
  show n / 1 % 4294967296 = n
  omega
theorem wordM_b4 {bs : List (List Int)} (hok : UnitsOK bs) {u o n : Int} (hi : inU bs.length u o 4) (h0 : 0 ≤ n) (h1 : n < 4294967296) : wordM (writeM bs u o (b4 n)) u o = n := by
  unfold wordM
  have hl : ((b4 n).length : Int) = 4 := by rw [b4_length]; rfl
  rw [readM_in hok (by rw [hl]; exact hi) (Int.le_refl _) (by decide) (by rw [hl]; omega)]
  rw [show (o - o).toNat = 0 by omega, List.drop_zero, List.take_of_length_le (by rw [b4_length]; decide)]
  exact gN_b4 h0 h1
theorem wordM_new {u o : Int} (hu : 1 ≤ u ∧ u ≤ 3) (h0 : 0 ≤ o) (h1 : o ≤ 508) : wordM (newM 3) u o = 0 := by
  have hl : (newM 3).length = 3 := newM_length 3
  unfold wordM
  rw [readM_zer ⟨hu.1, by rw [hl]; exact hu.2, h0, by omega, by decide, by omega⟩ (unitAt_new hu.1 (by show u ≤ (3 : Nat); omega))]
  decide
/-- A completion that is written leaves the words ahead, but the tail. -/
theorem plc_in (n : Int) {b size : Int} (h0 : 0 ≤ b) (h4 : b ≤ 4) (hs : 0 ≤ size) (hs2 : size ≤ 31) : 16 ≤ plc n b size ∧ plc n b size + size ≤ 512 := by
  have e1 := mod_p2 n h0 h4
  have e2 := p2_le h0 h4
  have hm : 0 ≤ n % p2 b * size ∧ n % p2 b * size ≤ 15 * size := ⟨Int.mul_nonneg e1.1 hs, Int.mul_le_mul_of_nonneg_right (by omega) hs⟩
  unfold plc
  omega
theorem comp_in {bs : List (List Int)} {cq cb t : Int} (hq : 1 ≤ cq) (hq2 : cq ≤ bs.length) (g0 : 0 ≤ cb) (g4 : cb ≤ 4) (c : C4) : inU bs.length cq (plc t cb 16) (compB c).length := by
  have := plc_in t g0 g4 (size := 16) (by decide) (by decide)
  rw [compB_length]
  exact ⟨hq, hq2, by omega, by omega, by decide, by omega⟩
theorem wrB_head {bs : List (List Int)} (hok : UnitsOK bs) {cq cb t : Int} (hq : 1 ≤ cq) (hq2 : cq ≤ bs.length) (g0 : 0 ≤ cb) (g4 : cb ≤ 4) (c : C4) : wordM (wrB bs cq cb t c) cq 0 = wordM bs cq 0 := by
  have hi := comp_in (t := t) hq hq2 g0 g4 c
  have := plc_in t g0 g4 (size := 16) (by decide) (by decide)
  unfold wrB
  rw [wordM_off (writeM_ok hok (compB_wf c)) (by rw [writeM_length, b4_length]; exact ⟨hq, hq2, by decide, by decide, by decide, by decide⟩) hq (by right; left; decide), wordM_off hok hi hq (by right; left; omega)]
theorem canW_eq {bs : List (List Int)} {cq cb t : Int} : canW bs cq cb t ↔ (t - wordM bs cq 0) % 4294967296 < p2 cb := by unfold canW roomD; rw [wr_u32']
theorem roomOK_eq {bs : List (List Int)} {cq cb t : Int} : roomOK bs cq cb t ↔ (t - wordM bs cq 0) % 4294967296 ≤ p2 cb := by unfold roomOK roomD; rw [wr_u32']
theorem roomN_eq {bs : List (List Int)} {cq cb t : Int} (h : (t - wordM bs cq 0) % 4294967296 ≤ p2 cb) : roomN bs cq cb t = p2 cb - (t - wordM bs cq 0) % 4294967296 := by
  unfold roomN
  rw [if_pos (roomOK_eq.2 h)]; unfold roomD; rw [wr_u32']
theorem wr_lt (x : Int) : 0 ≤ wr .u32 x ∧ wr .u32 x < 4294967296 := by rw [wr_u32']; omega
/-- What is flushed. -/
theorem flush_law {cq cb H : Int} (hq : 1 ≤ cq) (g0 : 0 ≤ cb) (g4 : cb ≤ 4) : ∀ (ov : List C4) (bs : List (List Int)) (h t : Int), UnitsOK bs → cq ≤ bs.length → wordM bs cq 0 = H → (t - H) % 4294967296 ≤ p2 cb → (∀ c ∈ ov, C4ok c) →
    ((flushN cq cb ov bs t : Int) = if (ov.length : Int) < p2 cb - (t - H) % 4294967296 then (ov.length : Int) else p2 cb - (t - H) % 4294967296) ∧ UnitsOK (flushR cq cb ov bs h t).bs ∧ (flushR cq cb ov bs h t).bs.length = bs.length ∧ wordM (flushR cq cb ov bs h t).bs cq 0 = H ∧ (flushR cq cb ov bs h t).h = h ∧
    (flushR cq cb ov bs h t).ov.length + flushN cq cb ov bs t = ov.length ∧ ((flushR cq cb ov bs h t).t - H) % 4294967296 = (t - H) % 4294967296 + flushN cq cb ov bs t ∧ (∀ c ∈ (flushR cq cb ov bs h t).ov, C4ok c) ∧ ((0 ≤ t ∧ t < 4294967296) → 0 ≤ (flushR cq cb ov bs h t).t ∧ (flushR cq cb ov bs h t).t < 4294967296) := by
  have hS := p2_le g0 g4
  intro ov
  induction ov with
  | nil =>
    intro bs h t hok hl hH hD hc
    refine ⟨?_, hok, rfl, hH, rfl, rfl, by show (t - H) % 4294967296 = (t - H) % 4294967296 + ((0 : Nat) : Int); omega, hc, fun h => h⟩
    show ((0 : Nat) : Int) = if (([] : List C4).length : Int) < _ then _ else _
    simp only [List.length_nil]
    split <;> omega
  | cons c ov ih =>
    intro bs h t hok hl hH hD hc
    by_cases hw : canW bs cq cb t
    · have hw' := canW_eq.1 hw
      rw [hH] at hw'
      have e1 : flushN cq cb (c :: ov) bs t = flushN cq cb ov (wrB bs cq cb t c) (wr .u32 (t + 1)) + 1 := if_pos hw
      have e2 : flushR cq cb (c :: ov) bs h t = flushR cq cb ov (wrB bs cq cb t c) h (wr .u32 (t + 1)) := if_pos hw
      have eD : (wr .u32 (t + 1) - H) % 4294967296 = (t - H) % 4294967296 + 1 := by rw [wr_u32']; omega
      obtain ⟨r1, r2, r3, r4, r5, r6, r7, r8, r9⟩ := ih (wrB bs cq cb t c) h (wr .u32 (t + 1)) (wrB_ok hok _ _ _ _) (by rw [wrB_length]; exact hl) (by rw [wrB_head hok hq hl g0 g4]; exact hH) (by omega) (fun c hc' => hc c (List.mem_cons_of_mem _ hc'))
      rw [e1, e2]
      rw [eD] at r1 r7
      refine ⟨?_, r2, by rw [r3, wrB_length], r4, r5, by rw [List.length_cons]; omega, by omega, r8, fun _ => r9 (wr_lt _)⟩
      rw [List.length_cons]
      push_cast
      split at r1 <;> split <;> omega
    · have hw' : ¬ (t - H) % 4294967296 < p2 cb := by rw [← hH]; exact fun h => hw (canW_eq.2 h)
      have e1 : flushN cq cb (c :: ov) bs t = 0 := if_neg hw
      have e2 : flushR cq cb (c :: ov) bs h t = ⟨bs, h, t, c :: ov⟩ := if_neg hw
      rw [e1, e2]
      refine ⟨?_, hok, rfl, hH, rfl, rfl, by show (t - H) % 4294967296 = (t - H) % 4294967296 + ((0 : Nat) : Int); omega, hc, fun h => h⟩
      rw [List.length_cons]
      split <;> omega
theorem flush_no {cq cb : Int} {bs : List (List Int)} {h t : Int} (hw : ¬ canW bs cq cb t) (ov : List C4) : flushN cq cb ov bs t = 0 ∧ flushR cq cb ov bs h t = ⟨bs, h, t, ov⟩ := by
  cases ov with
  | nil => exact ⟨rfl, rfl⟩
  | cons c ov => exact ⟨if_neg hw, if_neg hw⟩
theorem post_no {s : RS} {cq cb : Int} (hw : ¬ canW s.bs cq cb s.t) (c : C4) : ¬ postOK s cq cb ∧ postR s cq cb c = { s with ov := s.ov ++ [c] } := ⟨fun h => hw h.2, if_neg fun h => hw h.2⟩
/-- So many are posted, one behind the other, nobody reading. -/
def postsR (cb : Int) : Nat → RS
  | 0 => ⟨newM 3, 0, 0, []⟩
  | i + 1 => postR (postsR cb i) 2 cb ((i : Int), 0, 0, 0)
theorem posts_law {cb : Int} (g0 : 0 ≤ cb) (g4 : cb ≤ 4) : ∀ i : Nat, i ≤ 1000 → UnitsOK (postsR cb i).bs ∧ (postsR cb i).bs.length = 3 ∧ wordM (postsR cb i).bs 2 0 = 0 ∧ (postsR cb i).h = 0 ∧ ((postsR cb i).t = if (i : Int) < p2 cb then (i : Int) else p2 cb) ∧ (((postsR cb i).ov.length : Int) = if (i : Int) < p2 cb then 0 else (i : Int) - p2 cb) ∧ (∀ c ∈ (postsR cb i).ov, C4ok c) ∧ (postOK (postsR cb i) 2 cb ↔ (i : Int) < p2 cb) := by
  have hS := p2_le g0 g4
  have key : ∀ i : Nat, i ≤ 1000 → wordM (postsR cb i).bs 2 0 = 0 → ((postsR cb i).t = if (i : Int) < p2 cb then (i : Int) else p2 cb) → (((postsR cb i).ov.length : Int) = if (i : Int) < p2 cb then 0 else (i : Int) - p2 cb) → (postOK (postsR cb i) 2 cb ↔ (i : Int) < p2 cb) := by
    intro i hi hw ht ho
    unfold postOK
    rw [canW_eq, hw, ht]
    split at ho
    · rename_i hc
      rw [if_pos hc]
      exact ⟨fun _ => hc, fun _ => ⟨by omega, by omega⟩⟩
    · rename_i hc
      rw [if_neg hc]
      exact ⟨fun h => by omega, fun h => absurd h hc⟩
  intro i
  induction i with
  | zero =>
    intro hi
    have e1 : (postsR cb 0).t = if ((0 : Nat) : Int) < p2 cb then ((0 : Nat) : Int) else p2 cb := by rw [if_pos (by omega)]; rfl
    have e2 : ((postsR cb 0).ov.length : Int) = if ((0 : Nat) : Int) < p2 cb then 0 else ((0 : Nat) : Int) - p2 cb := by rw [if_pos (by omega)]; rfl
    have e3 : wordM (postsR cb 0).bs 2 0 = 0 := wordM_new (by decide) (by decide) (by decide)
    exact ⟨newM_ok 3, newM_length 3, e3, rfl, e1, e2, fun c hc => (nomatch hc), key 0 hi e3 e1 e2⟩
  | succ i ih =>
    intro hi
    obtain ⟨r1, r2, r3, r4, r5, r6, r7, r8⟩ := ih (by omega)
    have hc : C4ok ((i : Int), 0, 0, 0) := by refine ⟨⟨?_, ?_⟩, ⟨?_, ?_⟩, ⟨?_, ?_⟩, ?_, ?_⟩ <;> simp only <;> omega
    by_cases hp : postOK (postsR cb i) 2 cb
    · have e : postsR cb (i + 1) = { postsR cb i with bs := wrB (postsR cb i).bs 2 cb (postsR cb i).t ((i : Int), 0, 0, 0), t := wr .u32 ((postsR cb i).t + 1) } := if_pos hp
      have hi' := r8.1 hp
      rw [if_pos hi'] at r5 r6
      have f1 : UnitsOK (postsR cb (i + 1)).bs := by rw [e]; exact wrB_ok r1 _ _ _ _
      have f2 : (postsR cb (i + 1)).bs.length = 3 := by rw [e]; show (wrB _ _ _ _ _).length = 3; rw [wrB_length]; exact r2
      have f3 : wordM (postsR cb (i + 1)).bs 2 0 = 0 := by rw [e]; show wordM (wrB _ _ _ _ _) 2 0 = 0; rw [wrB_head r1 (by decide) (by rw [r2]; decide) g0 g4]; exact r3
      have f5 : (postsR cb (i + 1)).t = if ((i + 1 : Nat) : Int) < p2 cb then ((i + 1 : Nat) : Int) else p2 cb := by
        rw [e]; show wr .u32 ((postsR cb i).t + 1) = _; rw [r5, wr_u32 (by omega) (by omega)]; split <;> omega
      have f6 : ((postsR cb (i + 1)).ov.length : Int) = if ((i + 1 : Nat) : Int) < p2 cb then 0 else ((i + 1 : Nat) : Int) - p2 cb := by
        rw [e]; show ((postsR cb i).ov.length : Int) = _; split <;> omega
      exact ⟨f1, f2, f3, by rw [e]; exact r4, f5, f6, by rw [e]; exact r7, key (i + 1) hi f3 f5 f6⟩
    · have e : postsR cb (i + 1) = { postsR cb i with ov := (postsR cb i).ov ++ [((i : Int), 0, 0, 0)] } := if_neg hp
      have hi' : ¬ (i : Int) < p2 cb := fun h => hp (r8.2 h)
      rw [if_neg hi'] at r5 r6
      have f3 : wordM (postsR cb (i + 1)).bs 2 0 = 0 := by rw [e]; exact r3
      have f5 : (postsR cb (i + 1)).t = if ((i + 1 : Nat) : Int) < p2 cb then ((i + 1 : Nat) : Int) else p2 cb := by
        rw [e]; show (postsR cb i).t = _; rw [r5, if_neg (by omega)]
      have f6 : ((postsR cb (i + 1)).ov.length : Int) = if ((i + 1 : Nat) : Int) < p2 cb then 0 else ((i + 1 : Nat) : Int) - p2 cb := by
        rw [e]; show (((postsR cb i).ov ++ [((i : Int), 0, 0, 0)]).length : Int) = _; rw [List.length_append, List.length_singleton, if_neg (by omega)]; omega
      refine ⟨by rw [e]; exact r1, by rw [e]; exact r2, f3, by rw [e]; exact r4, f5, f6, ?_, key (i + 1) hi f3 f5 f6⟩
      rw [e]
      intro c hc'
      rcases List.mem_append.1 hc' with h | h
      · exact r7 c h
      · obtain rfl := List.mem_singleton.1 h; exact hc
end Go.Proofs.Ytjhoedcjegbgdaa.Ae
