/- Rings: plain laws of entries that a thread lays and the kernel takes. -/
import Derived.Test.YtjhoedcjegbgdaaRtRingTakes
import Derived.Test.YtjhoedcjegbgdaaEnRingTakes
set_option linter.unusedVariables false
set_option linter.unusedSimpArgs false
namespace Go.Proofs.Ytjhoedcjegbgdaa.Ae
open Go Go.Proofs.Ytjhoedcjegbgdaa.Bits
/-- The bytes of an entry that asks for nothing, with a tag. -/
def entT (x : Int) : List Int := entL 1 0 x 0 0 0 0 0
theorem entT_def (x : Int) : entL 1 0 x 0 0 0 0 0 = entT x := rfl
theorem entT_length (x : Int) : (entT x).length = 32 := entL_length _ _ _ _ _ _ _ _
theorem entT_wf (x : Int) : Wf .u8 (entT x) := entL_wf _ _ _ _ _ _ _ _ (by decide) (by decide)
theorem bxo_u32 {x y : Int} (hx : 0 ≤ x ∧ x < 4294967296) (hy : 0 ≤ y ∧ y < 4294967296) : 0 ≤ bxo .u32 x y ∧ bxo .u32 x y < 4294967296 := by
  obtain ⟨n, rfl⟩ := Int.eq_ofNat_of_zero_le hx.1
  obtain ⟨m, rfl⟩ := Int.eq_ofNat_of_zero_le hy.1
  rw [bxo_def]
  have := xor32 n m (by omega) (by omega)
  rw [this]
  have h2 : n ^^^ m < 2 ^ 32 := Nat.xor_lt_two_pow (by omega) (by omega)
  omega
structure TakeI (bs : List (List Int)) (sb laid taken fr : Int) : Prop where
  ok : UnitsOK bs
  len : bs.length = 3
  tail : wordM bs 1 4 = laid
  d : (laid - taken) % 4294967296 ≤ p2 sb
  ent : ∀ k : Nat, (k : Int) < (laid - taken) % 4294967296 → readM bs 1 (plc (wr .u32 (taken + k)) sb 32) 32 = entT (bxo .u32 (wr .u32 (taken + k)) fr)
  zero : unitAt bs 2 = zer 512
  hl : 0 ≤ laid ∧ laid < 4294967296
  ht : 0 ≤ taken ∧ taken < 4294967296
theorem sb_cases {sb : Int} (h0 : 0 ≤ sb) (h3 : sb ≤ 3) : (sb = 0 ∧ p2 sb = 1) ∨ (sb = 1 ∧ p2 sb = 2) ∨ (sb = 2 ∧ p2 sb = 4) ∨ (sb = 3 ∧ p2 sb = 8) := by
  have : sb = 0 ∨ sb = 1 ∨ sb = 2 ∨ sb = 3 := by omega
  rcases this with h | h | h | h <;> subst h <;> decide
theorem plc_r (x : Int) {sb : Int} (h0 : 0 ≤ sb) (h3 : sb ≤ 3) : 16 ≤ plc x sb 32 ∧ plc x sb 32 + 32 ≤ 272 := by
  unfold plc
  rcases sb_cases h0 h3 with ⟨rfl, h⟩ | ⟨rfl, h⟩ | ⟨rfl, h⟩ | ⟨rfl, h⟩ <;> rw [h] <;> omega
theorem plc_apart {t laid sb : Int} {k : Nat} (h0 : 0 ≤ sb) (h3 : sb ≤ 3) (hk : (k : Int) < (laid - t) % 4294967296) (hd : (laid - t) % 4294967296 < p2 sb) : plc (wr .u32 (t + k)) sb 32 + 32 ≤ plc laid sb 32 ∨ plc laid sb 32 + 32 ≤ plc (wr .u32 (t + k)) sb 32 := by
  unfold plc
  rw [wr_u32']
  rcases sb_cases h0 h3 with ⟨rfl, h⟩ | ⟨rfl, h⟩ | ⟨rfl, h⟩ | ⟨rfl, h⟩ <;> rw [h] at hd ⊢ <;> omega
theorem take_new {sb fr : Int} (h0 : 0 ≤ sb) (h3 : sb ≤ 3) : TakeI (newM 3) sb 0 0 fr := by
  have hl : (newM 3).length = 3 := newM_length 3
  have hp := p2_le h0 (by omega : sb ≤ 4)
  refine ⟨newM_ok 3, hl, wordM_new (by decide) (by decide) (by decide), ?_, ?_, unitAt_new (by decide) (by decide), by decide, by decide⟩
  · show (0 : Int) ≤ _; omega
  · intro k hk
    exfalso
    have : ((0 : Int) - 0) % 4294967296 = 0 := by decide
    omega
theorem take_lay {bs : List (List Int)} {sb laid taken fr : Int} (h : TakeI bs sb laid taken fr) (h0 : 0 ≤ sb) (h3 : sb ≤ 3) (hd : (laid - taken) % 4294967296 < p2 sb) :
    TakeI (writeM (writeM bs 1 (plc laid sb 32) (entT (bxo .u32 laid fr))) 1 4 (b4 (wr .u32 (laid + 1)))) sb (wr .u32 (laid + 1)) taken fr := by
  have pl := plc_r laid h0 h3
  have hin : inU bs.length 1 (plc laid sb 32) (entT (bxo .u32 laid fr)).length := by rw [entT_length, h.len]; exact ⟨by decide, by decide, by omega, by omega, by decide, by omega⟩
  have k1 : UnitsOK (writeM bs 1 (plc laid sb 32) (entT (bxo .u32 laid fr))) := writeM_ok h.ok (entT_wf _)
  have k2 : (writeM bs 1 (plc laid sb 32) (entT (bxo .u32 laid fr))).length = 3 := by rw [writeM_length]; exact h.len
  have hin4 : inU (writeM bs 1 (plc laid sb 32) (entT (bxo .u32 laid fr))).length 1 4 (b4 (wr .u32 (laid + 1))).length := by rw [b4_length, k2]; decide
  have hl1 := wr_lt (laid + 1)
  have hD : (wr .u32 (laid + 1) - taken) % 4294967296 = (laid - taken) % 4294967296 + 1 ∨ ((wr .u32 (laid + 1) - taken) % 4294967296 = 0 ∧ (laid - taken) % 4294967296 = 4294967295) := by
    have := h.hl; have := h.ht
    rw [wr_u32']; omega
  have hS := p2_le h0 (by omega : sb ≤ 4)
  have hD : (wr .u32 (laid + 1) - taken) % 4294967296 = (laid - taken) % 4294967296 + 1 := by omega
  refine ⟨writeM_ok k1 (b4_wf _), by rw [writeM_length]; exact k2, wordM_b4 k1 (by rw [k2]; decide) hl1.1 hl1.2, by omega, ?_, ?_, hl1, h.ht⟩
  · intro k hk
    have pk := plc_r (wr .u32 (taken + k)) h0 h3
    rw [readM_off k1 hin4 (by decide) (by right; right; rw [b4_length]; omega)]
    by_cases hlt : (k : Int) < (laid - taken) % 4294967296
    · rw [readM_off h.ok hin (by decide) (by
        right
        rw [entT_length]
        exact plc_apart h0 h3 hlt hd)]
      exact h.ent k hlt
    · have e : wr .u32 (taken + k) = laid := by
        have := h.hl; have := h.ht
        rw [wr_u32']; omega
      rw [e, readM_in h.ok hin (Int.le_refl _) (by decide) (by rw [entT_length]; omega)]
      rw [show (plc laid sb 32 - plc laid sb 32).toNat = 0 by omega, List.drop_zero, List.take_of_length_le (by rw [entT_length]; decide)]
  · rw [unitAt_write_ne (by decide) (by decide), unitAt_write_ne (by decide) (by decide)]
    exact h.zero
theorem take_adv {bs : List (List Int)} {sb laid taken fr : Int} (h : TakeI bs sb laid taken fr) (h0 : 0 ≤ sb) (h3 : sb ≤ 3) {k : Int} (k0 : 0 ≤ k) (k1 : k ≤ (laid - taken) % 4294967296) :
    TakeI (writeM bs 1 0 (b4 (wr .u32 (taken + k)))) sb laid (wr .u32 (taken + k)) fr ∧ wordM (writeM bs 1 0 (b4 (wr .u32 (taken + k)))) 1 0 = wr .u32 (taken + k) := by
  have ht1 := wr_lt (taken + k)
  have hin : inU bs.length 1 0 (b4 (wr .u32 (taken + k))).length := by rw [b4_length, h.len]; decide
  have hD : (laid - wr .u32 (taken + k)) % 4294967296 = (laid - taken) % 4294967296 - k := by
    have := h.hl; have := h.ht; have := h.d; have := p2_le h0 (by omega : sb ≤ 4)
    rw [wr_u32']; omega
  refine ⟨⟨writeM_ok h.ok (b4_wf _), by rw [writeM_length]; exact h.len, ?_, ?_, ?_, ?_, h.hl, ht1⟩, wordM_b4 h.ok (by rw [h.len]; decide) ht1.1 ht1.2⟩
  · rw [wordM_off h.ok hin (by decide) (by right; right; rw [b4_length]; decide)]
    exact h.tail
  · have := h.d; omega
  · intro j hj
    have pk := plc_r (wr .u32 (wr .u32 (taken + k) + j)) h0 h3
    rw [readM_off h.ok hin (by decide) (by right; right; rw [b4_length]; omega)]
    obtain ⟨n, rfl⟩ := Int.eq_ofNat_of_zero_le k0
    have e : wr .u32 (wr .u32 (taken + n) + j) = wr .u32 (taken + (n + j : Nat)) := by
      simp only [wr_u32']; push_cast; omega
    rw [e]
    exact h.ent (n + j) (by push_cast; omega)
  · rw [unitAt_write_ne (by decide) (by decide)]
    exact h.zero
end Go.Proofs.Ytjhoedcjegbgdaa.Ae
