/- Plain laws of completions as bytes; no program. -/
import Derived.Test.YtlcjhffnbodkoaaCp
set_option linter.unusedVariables false
set_option linter.unusedSimpArgs false
namespace Go.Proofs.Ytlcjhffnbodkoaa.Ae
open Go Go.Proofs.Ytlcjhffnbodkoaa.Bits
theorem compL_at {t r v q : Int} (ht : 0 ≤ t ∧ t < 4294967296) (hr : 0 ≤ r ∧ r < 4294967296) (hv : 0 ≤ v ∧ v < 4294967296) (hq : 0 ≤ q ∧ q < 4294967296) :
    gN (compL t r v q) 16 0 4 = t ∧ gN (compL t r v q) 16 4 4 = r ∧ gN (compL t r v q) 16 8 4 = v ∧ gN (compL t r v q) 16 12 4 = q := by
  have l0 : (zer 16).length = 16 := zer_length 16
  have l1 : (putL (zer 16) 0 t 4).length = 16 := by rw [putL_length]; exact l0
  have l2 : (putL (putL (zer 16) 0 t 4) 4 r 4).length = 16 := by rw [putL_length]; exact l1
  have l3 : (putL (putL (putL (zer 16) 0 t 4) 4 r 4) 8 v 4).length = 16 := by rw [putL_length]; exact l2
  have put : ∀ (l : List Int) (p n : Int), l.length = 16 → 0 ≤ p → p + 4 ≤ 16 → 0 ≤ n ∧ n < 4294967296 → gN (putL l p n 4) 16 p 4 = n := by
    intro l p n hl h0 h1 hn
    rw [gN_put' l 16 hl p n 4 0 4 p (by omega) h0 (by omega) (by omega)]
    show n / 1 % 4294967296 = n
    omega
  unfold compL
  refine ⟨?_, ?_, ?_, ?_⟩
  · rw [gN_put_off' _ _ l3 _ _ _ _ _ (by omega), gN_put_off' _ _ l2 _ _ _ _ _ (by omega), gN_put_off' _ _ l1 _ _ _ _ _ (by omega), put _ _ _ l0 (by omega) (by omega) ht]
  · rw [gN_put_off' _ _ l3 _ _ _ _ _ (by omega), gN_put_off' _ _ l2 _ _ _ _ _ (by omega), put _ _ _ l1 (by omega) (by omega) hr]
  · rw [gN_put_off' _ _ l3 _ _ _ _ _ (by omega), put _ _ _ l2 (by omega) (by omega) hv]
  · rw [put _ _ _ l3 (by omega) (by omega) hq]
theorem gN_byte' {l : List Int} (hw : Wf .u8 l) (p : Int) (k j : Nat) (hj : j < l.length) (h : p ≤ j ∧ (j : Int) < p + k) (len : Nat) (hl : l.length = len) : gN l len p k / 2 ^ (8 * ((j : Int) - p).toNat) % 256 = l.getD j 0 := by
  subst hl; exact get_put_byte hw p k j hj h
theorem compL_back {l : List Int} (hl : l.length = 16) (hw : Wf .u8 l) : compL (gN l 16 0 4) (gN l 16 4 4) (gN l 16 8 4) (gN l 16 12 4) = l := by
  refine list_same (by rw [compL_length, hl]) fun j hj => ?_
  rw [compL_length] at hj
  unfold compL
  have l0 : (zer 16).length = 16 := zer_length 16
  have g : ∀ (m : List Int) (p n : Int), m.length = 16 → (putL m p n 4).getD j 0 = if p ≤ j ∧ (j : Int) < p + 4 then n / 2 ^ (8 * ((j : Int) - p).toNat) % 256 else m.getD j 0 := fun m p n hm => putL_get m p n j (by omega) 4
  have gb : ∀ p : Int, p ≤ j ∧ (j : Int) < p + 4 → gN l 16 p 4 / 2 ^ (8 * ((j : Int) - p).toNat) % 256 = l.getD j 0 := fun p h => gN_byte' hw p 4 j (by omega) h 16 hl
  rw [g _ _ _ (by simp only [putL_length]; exact l0), g _ _ _ (by simp only [putL_length]; exact l0), g _ _ _ (by simp only [putL_length]; exact l0), g _ _ _ l0]
  by_cases c3 : (12 : Int) ≤ j
  · rw [if_pos (by omega)]; exact gb 12 (by omega)
  · rw [if_neg (by omega)]
    by_cases c2 : (8 : Int) ≤ j
    · rw [if_pos (by omega)]; exact gb 8 (by omega)
    · rw [if_neg (by omega)]
      by_cases c1 : (4 : Int) ≤ j
      · rw [if_pos (by omega)]; exact gb 4 (by omega)
      · rw [if_neg (by omega), if_pos (by omega)]; exact gb 0 (by omega)
theorem wr_i32' (x : Int) : wr .i32 x = (x + 2147483648) % 4294967296 - 2147483648 := by rw [wr_def, IntKind.wrap_i32]
theorem wr_32_32 {x : Int} (h : 0 ≤ x ∧ x < 4294967296) : wr .u32 (wr .i32 x) = x := by rw [wr_u32', wr_i32']; omega
theorem wr_32_32' {x : Int} (h : -2147483648 ≤ x ∧ x < 2147483648) : wr .i32 (wr .u32 x) = x := by rw [wr_u32', wr_i32']; omega
theorem gN4_lt {l : List Int} (hw : Wf .u8 l) (len : Nat) (hl : l.length = len) (p : Int) : 0 ≤ gN l len p 4 ∧ gN l len p 4 < 4294967296 := by
  have := gN_wf hw len (by omega) p 4
  exact this
theorem comp_sign {l : List Int} (hl : l.length = 16) (hw : Wf .u8 l) : (wr .i32 (gN l 16 4 4) < 0) ↔ 128 ≤ l.getD 7 0 := by
  have h : gN l 16 4 4 = 0 + byteAt l 16 4 0 * 1 + byteAt l 16 4 1 * 256 + byteAt l 16 4 2 * 65536 + byteAt l 16 4 3 * 16777216 := rfl
  have b0 := byteAt_wf hw 16 (by omega) 4 0
  have b1 := byteAt_wf hw 16 (by omega) 4 1
  have b2 := byteAt_wf hw 16 (by omega) 4 2
  have b3 := byteAt_wf hw 16 (by omega) 4 3
  have e : byteAt l 16 4 3 = l.getD 7 0 := by unfold byteAt; rw [if_pos (by omega)]; rfl
  rw [e] at h b3
  rw [wr_i32', h]
  omega
theorem wf_i32i {x : Int} (h : (Lit.int .i32 x).wf = true) : -2147483648 ≤ x ∧ x < 2147483648 := by
  simp only [Lit.wf, Bool.and_eq_true, decide_eq_true_eq] at h
  have h1 : -2147483648 ≤ x ∧ x ≤ 2147483647 := h
  omega
theorem wf_u16i {x : Int} (h : (Lit.int .u16 x).wf = true) : 0 ≤ x ∧ x < 65536 := by
  simp only [Lit.wf, Bool.and_eq_true, decide_eq_true_eq] at h
  have h1 : 0 ≤ x ∧ x ≤ 65535 := h
  omega
end Go.Proofs.Ytlcjhffnbodkoaa.Ae
