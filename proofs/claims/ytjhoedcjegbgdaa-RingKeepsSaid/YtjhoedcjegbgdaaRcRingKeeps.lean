/- Rings: plain laws of completions that are read as they come. -/
import Derived.Test.YtjhoedcjegbgdaaRtRingKeeps
set_option linter.unusedVariables false
set_option linter.unusedSimpArgs false
namespace Go.Proofs.Ytjhoedcjegbgdaa.Ae
open Go Go.Proofs.Ytjhoedcjegbgdaa.Bits
/-- The completion of a number. -/
def cK (x : Nat) : C4 := ((x : Int), 0, 0, (x : Int))
def ovK (t n : Nat) : List C4 := (List.range n).map fun (j : Nat) => cK (t + j)
theorem cK_ok {x : Nat} (h : x ≤ 1000) : C4ok (cK x) := by unfold cK; refine ⟨⟨?_, ?_⟩, ⟨?_, ?_⟩, ⟨?_, ?_⟩, ?_, ?_⟩ <;> simp only <;> omega
theorem ovK_length (t n : Nat) : (ovK t n).length = n := by unfold ovK; simp
theorem ovK_cons (t n : Nat) : ovK t (n + 1) = cK t :: ovK (t + 1) n := by
  unfold ovK
  rw [List.range_succ_eq_map, List.map_cons, List.map_map]
  congr 1
  refine List.map_congr_left fun j _ => ?_
  show cK (t + (j + 1)) = cK (t + 1 + j)
  congr 1; omega
theorem ovK_snoc (t n : Nat) : ovK t n ++ [cK (t + n)] = ovK t (n + 1) := by unfold ovK; rw [List.range_succ, List.map_append]; rfl
theorem ovK_ok {t n : Nat} (h : t + n ≤ 1000) : ∀ c ∈ ovK t n, C4ok c := fun c hc => by
  unfold ovK at hc
  obtain ⟨j, hj, rfl⟩ := List.mem_map.1 hc
  exact cK_ok (by have := List.mem_range.1 hj; omega)
structure KeepI (bs : List (List Int)) (cb : Int) (t got : Nat) : Prop where
  ok : UnitsOK bs
  len : bs.length = 3
  head : wordM bs 2 0 = got
  tail : wordM bs 2 4 = t
  le : got ≤ t
  d : (t : Int) - got ≤ p2 cb
  cs : ∀ k : Nat, got + k < t → readM bs 2 (plc ((got + k : Nat) : Int) cb 16) 16 = compB (cK (got + k))
theorem cb_cases {cb : Int} (h0 : 0 ≤ cb) (h4 : cb ≤ 4) : (cb = 0 ∧ p2 cb = 1) ∨ (cb = 1 ∧ p2 cb = 2) ∨ (cb = 2 ∧ p2 cb = 4) ∨ (cb = 3 ∧ p2 cb = 8) ∨ (cb = 4 ∧ p2 cb = 16) := by
  have : cb = 0 ∨ cb = 1 ∨ cb = 2 ∨ cb = 3 ∨ cb = 4 := by omega
  rcases this with h | h | h | h | h <;> subst h <;> decide
theorem plc_apart16 {x t cb : Int} (h0 : 0 ≤ cb) (h4 : cb ≤ 4) (hx : x < t) (hd : t - x < p2 cb) : plc x cb 16 + 16 ≤ plc t cb 16 ∨ plc t cb 16 + 16 ≤ plc x cb 16 := by
  unfold plc
  rcases cb_cases h0 h4 with ⟨rfl, h⟩ | ⟨rfl, h⟩ | ⟨rfl, h⟩ | ⟨rfl, h⟩ | ⟨rfl, h⟩ <;> rw [h] at hd ⊢ <;> omega
theorem keep_new {cb : Int} (h0 : 0 ≤ cb) (h4 : cb ≤ 4) : KeepI (newM 3) cb 0 0 := by
  have hl : (newM 3).length = 3 := newM_length 3
  have hp := p2_le h0 h4
  exact ⟨newM_ok 3, hl, wordM_new (by decide) (by decide) (by decide), wordM_new (by decide) (by decide) (by decide), Nat.le_refl _, by omega, fun k h => by omega⟩
theorem keep_can {bs : List (List Int)} {cb : Int} {t got : Nat} (h : KeepI bs cb t got) (h0 : 0 ≤ cb) (h4 : cb ≤ 4) : canW bs 2 cb t ↔ (t : Int) - got < p2 cb := by
  have hp := p2_le h0 h4
  have := h.d
  have := h.le
  rw [canW_eq, h.head]
  omega
theorem keep_wr {bs : List (List Int)} {cb : Int} {t got : Nat} (h : KeepI bs cb t got) (h0 : 0 ≤ cb) (h4 : cb ≤ 4) (hd : (t : Int) - got < p2 cb) (ht : t ≤ 1000) :
    KeepI (wrB bs 2 cb t (cK t)) cb (t + 1) got ∧ wr .u32 ((t : Int) + 1) = ((t + 1 : Nat) : Int) := by
  have ew : wr .u32 ((t : Int) + 1) = ((t + 1 : Nat) : Int) := by rw [wr_u32 (by omega) (by omega)]; rfl
  have hi := comp_in (bs := bs) (cq := 2) (t := t) (by decide) (by rw [h.len]; decide) h0 h4 (cK t)
  have pl := plc_in (t : Int) h0 h4 (size := 16) (by decide) (by decide)
  have k1 : UnitsOK (writeM bs 2 (plc t cb 16) (compB (cK t))) := writeM_ok h.ok (compB_wf _)
  have k2 : (writeM bs 2 (plc t cb 16) (compB (cK t))).length = 3 := by rw [writeM_length]; exact h.len
  have hi4 : inU (writeM bs 2 (plc t cb 16) (compB (cK t))).length 2 4 (b4 (wr .u32 ((t : Int) + 1))).length := by rw [b4_length, k2]; decide
  refine ⟨⟨wrB_ok h.ok _ _ _ _, by rw [wrB_length]; exact h.len, ?_, ?_, by have := h.le; omega, by omega, ?_⟩, ew⟩
  · rw [wrB_head h.ok (by decide) (by rw [h.len]; decide) h0 h4]; exact h.head
  · unfold wrB
    rw [wordM_b4 k1 (by rw [k2]; decide) (by rw [ew]; omega) (by rw [ew]; omega), ew]
  · intro k hk
    unfold wrB
    have pk := plc_in ((got + k : Nat) : Int) h0 h4 (size := 16) (by decide) (by decide)
    rw [readM_off k1 hi4 (by decide) (by right; right; rw [b4_length]; omega)]
    by_cases hlt : got + k < t
    · rw [readM_off h.ok hi (by decide) (by right; rw [compB_length]; exact plc_apart16 h0 h4 (by omega) (by omega))]
      exact h.cs k hlt
    · obtain rfl : t = got + k := by omega
      rw [readM_in h.ok hi (Int.le_refl _) (by decide) (by rw [compB_length]; omega)]
      rw [show (plc ((got + k : Nat) : Int) cb 16 - plc ((got + k : Nat) : Int) cb 16).toNat = 0 by omega, List.drop_zero, List.take_of_length_le (by rw [compB_length]; decide)]
theorem keep_post {bs : List (List Int)} {cb : Int} {t got posted : Nat} (h : KeepI bs cb t got) (h0 : 0 ≤ cb) (h4 : cb ≤ 4) (ht : t ≤ posted) (hp : posted ≤ 900) :
    ∃ bs' t', postR ⟨bs, 0, t, ovK t (posted - t)⟩ 2 cb (cK posted) = ⟨bs', 0, ((t' : Nat) : Int), ovK t' (posted + 1 - t')⟩ ∧ KeepI bs' cb t' got ∧ t' ≤ posted + 1 := by
  by_cases hc : postOK ⟨bs, 0, t, ovK t (posted - t)⟩ 2 cb
  · obtain ⟨c1, c2⟩ := hc
    have c1 : (ovK t (posted - t)).length = 0 := c1
    rw [ovK_length] at c1
    obtain rfl : posted = t := by omega
    obtain ⟨w1, w2⟩ := keep_wr h h0 h4 ((keep_can h h0 h4).1 c2) (by omega)
    refine ⟨wrB bs 2 cb posted (cK posted), posted + 1, ?_, w1, by omega⟩
    have e : postR ⟨bs, 0, posted, ovK posted (posted - posted)⟩ 2 cb (cK posted) = ⟨wrB bs 2 cb posted (cK posted), 0, wr .u32 ((posted : Int) + 1), ovK posted (posted - posted)⟩ := if_pos ⟨by show (ovK posted (posted - posted)).length = 0; rw [ovK_length]; omega, c2⟩
    rw [e, w2, Nat.sub_self, Nat.sub_self]; rfl
  · refine ⟨bs, t, ?_, h, by omega⟩
    have e : postR ⟨bs, 0, t, ovK t (posted - t)⟩ 2 cb (cK posted) = ⟨bs, 0, t, ovK t (posted - t) ++ [cK posted]⟩ := if_neg hc
    rw [e, show cK posted = cK (t + (posted - t)) by congr 1; omega, ovK_snoc, show posted - t + 1 = posted + 1 - t by omega]
theorem keep_flush {cb : Int} (h0 : 0 ≤ cb) (h4 : cb ≤ 4) {got posted : Nat} (hp : posted ≤ 900) : ∀ (n : Nat) (bs : List (List Int)) (t : Nat), t + n = posted → KeepI bs cb t got →
    ∃ bs' t', flushR 2 cb (ovK t n) bs 0 t = ⟨bs', 0, ((t' : Nat) : Int), ovK t' (posted - t')⟩ ∧ KeepI bs' cb t' got ∧ t ≤ t' ∧ t' ≤ posted ∧ (t' = posted ∨ p2 cb ≤ (t' : Int) - got) := by
  intro n
  induction n with
  | zero =>
    intro bs t ht h
    refine ⟨bs, t, ?_, h, Nat.le_refl _, by omega, .inl (by omega)⟩
    rw [show posted - t = 0 by omega]; rfl
  | succ n ih =>
    intro bs t ht h
    rw [ovK_cons]
    by_cases hw : canW bs 2 cb t
    · have hw' := (keep_can h h0 h4).1 hw
      obtain ⟨w1, w2⟩ := keep_wr h h0 h4 hw' (by omega)
      have e : flushR 2 cb (cK t :: ovK (t + 1) n) bs 0 t = flushR 2 cb (ovK (t + 1) n) (wrB bs 2 cb t (cK t)) 0 (wr .u32 ((t : Int) + 1)) := if_pos hw
      rw [e, w2]
      obtain ⟨bs', t', g1, g2, g3, g4, g5⟩ := ih (wrB bs 2 cb t (cK t)) (t + 1) (by omega) w1
      exact ⟨bs', t', g1, g2, by omega, g4, g5⟩
    · have hw' : ¬ (t : Int) - got < p2 cb := fun h' => hw ((keep_can h h0 h4).2 h')
      refine ⟨bs, t, ?_, h, Nat.le_refl _, by omega, .inr (by omega)⟩
      have e : flushR 2 cb (cK t :: ovK (t + 1) n) bs 0 t = ⟨bs, 0, t, cK t :: ovK (t + 1) n⟩ := if_neg hw
      rw [e, ← ovK_cons, show posted - t = n + 1 by omega]
theorem keep_read {bs : List (List Int)} {cb : Int} {t got : Nat} (h : KeepI bs cb t got) (h0 : 0 ≤ cb) (h4 : cb ≤ 4) (hlt : got < t) (ht : t ≤ 1000) :
    readM bs 2 (plc (got : Int) cb 16) 16 = compB (cK got) ∧ KeepI (writeM bs 2 0 (b4 ((got : Int) + 1))) cb t (got + 1) := by
  have hi : inU bs.length 2 0 (b4 ((got : Int) + 1)).length := by rw [b4_length, h.len]; decide
  refine ⟨h.cs 0 (by omega), writeM_ok h.ok (b4_wf _), by rw [writeM_length]; exact h.len, ?_, ?_, by omega, by have := h.d; omega, fun k hk => ?_⟩
  · rw [wordM_b4 h.ok (by rw [h.len]; decide) (by omega) (by omega)]; rfl
  · rw [wordM_off h.ok hi (by decide) (by right; right; rw [b4_length]; decide)]; exact h.tail
  · have pk := plc_in ((got + 1 + k : Nat) : Int) h0 h4 (size := 16) (by decide) (by decide)
    rw [readM_off h.ok hi (by decide) (by right; right; rw [b4_length]; omega)]
    have := h.cs (1 + k) (by omega)
    rw [show got + (1 + k) = got + 1 + k by omega] at this
    exact this
theorem cK_tag {x : Nat} (h : x ≤ 1000) : gN (compB (cK x)) 16 0 4 = x ∧ gN (compB (cK x)) 16 4 4 = 0 ∧ gN (compB (cK x)) 16 8 4 = 0 ∧ gN (compB (cK x)) 16 12 4 = x := by
  unfold compB cK
  have e : wr .u32 0 = 0 := wr_u32 (by decide) (by decide)
  simp only [e]
  exact compL_at (by omega) (by decide) (by decide) (by omega)
end Go.Proofs.Ytjhoedcjegbgdaa.Ae
