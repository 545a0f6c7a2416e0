/- The statement WordFields over plain numbers: a field that was set is that, all other bits stay; for all words. -/
import Derived.Test.YtnacpcbaiaakhaaPWordFieldsx1
import Derived.Test.YtnacpcbaiaakhaaBits
namespace Go.Proofs.Ytnacpcbaiaakhaa.Pure
open Go.RowKit Go.Proofs.Ytnacpcbaiaakhaa.PWordFields Go.Proofs.YtnacpcbaiaakhaaW.PrintWords Go.Proofs.YtnacpcbaiaakhaaW.PrintLast Go.Proofs.YtnacpcbaiaakhaaW.PrintMore Go.Proofs.Ytnacpcbaiaakhaa.Bits
theorem mask_spec (a m : Int) : word_mask.f a m = some ((2 ^ maskC a m - 1 : Nat) : Int) := by
  unfold word_mask.f
  by_cases h1 : a < 0
  · have e : maskC a m = 0 := by unfold maskC; rw [if_neg (by omega)]
    rw [if_pos h1, e]; rfl
  · rw [if_neg h1]
    by_cases h2 : a ≥ 32
    · have e : maskC a m = 0 := by unfold maskC; rw [if_neg (by omega)]
      rw [if_pos h2, e]; rfl
    · rw [if_neg h2]
      by_cases h3 : m < 1
      · have e : maskC a m = 0 := by unfold maskC; rw [if_neg (by omega)]
        rw [if_pos h3, e]; rfl
      · rw [if_neg h3, if_pos (by unfold mn wrap64; split <;> omega), mask_val a m (by omega) (by omega) (by omega)]
theorem field_spec (n : Nat) (a m : Int) (hn : n < 2 ^ 32) : word_Field.f n a m = some ((fieldN n a.toNat (maskC a m) : Nat) : Int) := by
  unfold word_Field.f
  rw [mask_spec]; simp only [Option.bind_some]
  by_cases hc : maskC a m = 0
  · rw [hc]; simp [fieldN, Nat.mod_one]
  · have h : 0 ≤ a ∧ a < 32 := by unfold maskC at hc; split at hc <;> omega
    have h2 : 2 ≤ 2 ^ maskC a m := Nat.le_trans (by decide : 2 ≤ 2 ^ 1) (Nat.pow_le_pow_right (by decide) (by omega))
    have h3 : 2 ^ maskC a m ≤ 2 ^ 32 := Nat.pow_le_pow_right (by decide) (maskC_32 a m)
    rw [if_neg (by omega), if_pos h.1, shr32 n a h.2, and32 _ _ (Nat.lt_of_le_of_lt (Nat.shiftRight_le n _) hn) (by omega), Nat.and_two_pow_sub_one_eq_mod]
    rfl
theorem field_0 (n : Nat) (m : Int) (hn : n < 2 ^ 32) : word_Field.f n 0 m = some ((fieldN n 0 (maskC 0 m) : Nat) : Int) := field_spec n 0 m hn
theorem field_n (n a : Nat) (m : Int) (hn : n < 2 ^ 32) : word_Field.f n (a : Int) m = some ((fieldN n a (maskC a m) : Nat) : Int) := by
  have := field_spec n (a : Int) m hn
  rwa [Int.toNat_natCast] at this
theorem set_spec (n v : Nat) (a m : Int) (hn : n < 2 ^ 32) (hv : v < 2 ^ 32) : word_Set.f n a m v = some ((setN n a.toNat (maskC a m) v : Nat) : Int) := by
  unfold word_Set.f
  rw [mask_spec]; simp only [Option.bind_some]
  by_cases hc : maskC a m = 0
  · rw [hc]
    have ha : setN n a.toNat 0 v = n := by
      unfold setN; simp [Nat.mod_one]
      have := Nat.and_two_pow_sub_one_eq_mod n 32
      rw [Nat.mod_eq_of_lt hn] at this
      exact this
    rw [ha]; simp
  · have h : 0 ≤ a ∧ a < 32 := by unfold maskC at hc; split at hc <;> omega
    have hle := maskC_le a m
    have h2 : 2 ≤ 2 ^ maskC a m := Nat.le_trans (by decide : 2 ≤ 2 ^ 1) (Nat.pow_le_pow_right (by decide) (by omega))
    have h3 : 2 ^ maskC a m ≤ 2 ^ 32 := Nat.pow_le_pow_right (by decide) (maskC_32 a m)
    have hm := shiftl_lt (2 ^ maskC a m - 1) a.toNat (maskC a m) (two_lt _) (by omega)
    have hv2 := shiftl_lt (v % 2 ^ maskC a m) a.toNat (maskC a m) (Nat.mod_lt _ (Nat.two_pow_pos _)) (by omega)
    rw [if_neg (by omega), if_pos h.1, shl32 _ (maskC a m) a (two_lt _) (by omega), andNot32 _ _ hn hm, and32 _ _ hv (by omega), Nat.and_two_pow_sub_one_eq_mod,
      shl32 _ (maskC a m) a (Nat.mod_lt _ (Nat.two_pow_pos _)) (by omega), or32 _ _ (Nat.lt_of_le_of_lt Nat.and_le_left hn) hv2]
    rfl
theorem set_n (n v a : Nat) (m : Int) (hn : n < 2 ^ 32) (hv : v < 2 ^ 32) : word_Set.f n (a : Int) m v = some ((setN n a (maskC a m) v : Nat) : Int) := by
  have := set_spec n v (a : Int) m hn hv
  rwa [Int.toNat_natCast] at this
theorem number_spec (a b : Int) (h0 : 0 < b) (h1 : b ≤ 4611686018427387904) : ringkernworld_Number.f a b = some (a % b) := by
  unfold ringkernworld_Number.f
  rw [if_neg (by omega)]
  rcases Int.le_total 0 a with ha | ha
  · rw [Int.tmod_eq_emod_of_nonneg ha]
    rw [if_neg (by have := Int.emod_nonneg a (show b ≠ 0 by omega); omega)]
  · have e : Int.tmod a b = -((-a) % b) := by
      rw [← Int.tmod_eq_emod_of_nonneg (show 0 ≤ -a by omega), Int.neg_tmod, Int.neg_neg]
    have r0 := Int.emod_nonneg (-a) (show b ≠ 0 by omega)
    have r1 := Int.emod_lt_of_pos (-a) h0
    have hd := Int.mul_ediv_add_emod (-a) b
    generalize hq : (-a) / b = q at hd
    generalize hr : (-a) % b = r at *
    rw [e]
    by_cases hz : r = 0
    · rw [if_neg (by omega)]
      have h2 : a = b * (-q) := by rw [Int.mul_neg]; omega
      rw [h2, Int.mul_emod_right, hz]; rfl
    · rw [if_pos (by omega)]
      have h2 : a = (b - r) + b * (-q - 1) := by rw [Int.mul_sub, Int.mul_neg]; omega
      have h3 : a % b = b - r := by
        rw [h2, Int.add_mul_emod_self_left, Int.emod_eq_of_lt (by omega) (by omega)]
      rw [h3]
      unfold wrap64
      congr 1
      omega
set_option linter.unusedSimpArgs false
theorem first_spec : ringkernlaw1_first.f = some true := by decide +kernel
theorem WordFields : ringkernlaw1_WordFields.Pure := by
  intro n v at_ b wn wv _ _
  obtain ⟨n, rfl, hn⟩ := wf_u32 wn
  obtain ⟨v, rfl, hv⟩ := wf_u32 wv
  refine ⟨0 + 1 + 1 + 1 + 1, ?_⟩
  unfold ringkernlaw1_WordFields.f
  rw [first_spec, Option.bind_some, if_pos rfl]
  rw [number_spec _ _ (by omega) (by omega), Option.bind_some]
  have ha0 := Int.emod_nonneg at_ (show (32 : Int) ≠ 0 by omega)
  have ha1 := Int.emod_lt_of_pos at_ (show (0 : Int) < 32 by omega)
  generalize at_ % 32 = a at *
  have e1 : Hid (wrap64 (33 - a) = 33 - a) := Lib.hid ((by unfold wrap64; omega))
  rw [e1.out, number_spec _ _ (by omega) (by omega), Option.bind_some]
  have hb0 := Int.emod_nonneg b (show (33 - a : Int) ≠ 0 by omega)
  have hb1 := Int.emod_lt_of_pos b (show (0 : Int) < 33 - a by omega)
  generalize b % (33 - a) = b at *
  obtain ⟨a, rfl⟩ := Int.eq_ofNat_of_zero_le ha0
  obtain ⟨b, rfl⟩ := Int.eq_ofNat_of_zero_le hb0
  have hc : maskC a b = b := by unfold maskC; split <;> omega
  have h0a : maskC 0 a = a := by unfold maskC; split <;> omega
  have hab : a + b ≤ 32 := by omega
  have hx := Lib.hid (setN_lt n a b v hn hab)
  have u1 : Hid (IntKind.u64.wrap (b : Int) = b) := Lib.hid (u64_nat (by omega))
  have u2 : Hid (IntKind.u64.wrap (a : Int) = a) := Lib.hid (u64_nat (by omega))
  have e2 : Hid (wrap64 ((a : Int) + b) = ((a + b : Nat) : Int)) := Lib.hid ((by unfold wrap64; omega))
  have u3 : Hid (IntKind.u64.wrap ((a + b : Nat) : Int) = (a + b : Nat)) := Lib.hid (u64_nat (by omega))
  have hm1 : maskC (-1) b = 0 := by unfold maskC; rw [if_neg (by omega)]
  have hm2 : maskC 32 b = 0 := by unfold maskC; rw [if_neg (by omega)]
  have hm3 : maskC a 0 = 0 := by unfold maskC; rw [if_neg (by omega)]
  rw [set_n n v a b hn hv, Option.bind_some]
  rw [hc]
  -- what is asked behind the field's want
  have want : ∀ w : Nat, w = v % 2 ^ b → ringkernlaw1_WordFields.j0 (0 + 1 + 1 + 1 + 1) n v a b true (setN n a b v : Nat) w = some true := by
    rintro w rfl
    have f1 := Lib.hid (field_set_low n a b v hn hab)
    have f2 := Lib.hid (field_set_high n a b v (32 - (a + b)) hn hab)
    have f3 := Lib.hid (field_set n a b v hn hab)
    have l1 := Lib.hid (fieldN_lt32 n 0 a (by omega))
    have m1 := Lib.hid (field_shl_lt n a b hab)
    have e4 := Lib.hid (field_shl n a b hab)
    have last : ringkernlaw1_WordFields.j3 (0 + 1) n v a b true (setN n a b v : Nat) (v % 2 ^ b : Nat) n = some true := by
      simp only [ringkernlaw1_WordFields.j3, if_true]
      rw [field_n _ _ _ hx.out, Option.bind_some]
      rw [hc, f3.out, if_pos rfl, field_spec _ _ _ hn, Option.bind_some]
      rw [hm1, field_spec _ _ _ hn, Option.bind_some]
      rw [hm2, set_n _ _ _ _ hn hv, Option.bind_some]
      rw [hm3, setN_0 n a v hn (by omega)]
      simp [fieldN_0]
    simp only [ringkernlaw1_WordFields.j0]
    rw [field_0 _ _ hn, Option.bind_some]
    rw [h0a, e2.out]
    by_cases hlt : ((a + b : Nat) : Int) < 32
    · rw [if_pos hlt, field_n _ _ _ hn, Option.bind_some]
      have h32 : a + b + (32 - (a + b)) ≤ 32 := by omega
      have hcc := maskC_top (a + b) (by omega)
      rw [hcc]
      have m3 := Lib.hid (field_shl_lt n (a + b) (32 - (a + b)) h32)
      have e6 := Lib.hid (field_shl n (a + b) (32 - (a + b)) h32)
      simp only [ringkernlaw1_WordFields.j1]
      rw [field_0 _ _ hx.out, Option.bind_some]
      rw [h0a, f1.out, if_pos rfl, e2.out, if_pos hlt, field_n _ _ _ hx.out, Option.bind_some]
      rw [hcc, f2.out]
      simp only [ringkernlaw1_WordFields.j2, Bool.false_eq_true, if_false, bne_self_eq_false]
      rw [field_n _ _ _ hn, Option.bind_some]
      rw [hc, u2.out, if_pos (by omega), e2.out, if_pos hlt, u3.out, if_pos (by omega), e4.out, or32 _ _ l1.out m1.out, e6.out, or32 _ _ (Nat.or_lt_two_pow l1.out m1.out) m3.out, fields_whole n a b _ hn (by omega)]
      exact last
    · rw [if_neg hlt]
      have hz : a + b = 32 := by omega
      simp only [ringkernlaw1_WordFields.j1]
      rw [field_0 _ _ hx.out, Option.bind_some]
      rw [h0a, f1.out, if_pos rfl, e2.out, if_neg hlt]
      simp only [ringkernlaw1_WordFields.j2, Bool.false_eq_true, if_false, bne_self_eq_false]
      rw [field_n _ _ _ hn, Option.bind_some]
      rw [hc, u2.out, if_pos (by omega), e2.out, if_neg hlt, e4.out, or32 _ _ l1.out m1.out, fields_two n a b hn (by omega)]
      exact last
  by_cases h32 : (b : Int) < 32
  · rw [if_pos h32, u1.out, if_pos (by omega)]
    have p2 : 2 ^ b - 1 < 2 ^ 32 := Nat.lt_of_lt_of_le (two_lt b) (pow_le_32 (by omega))
    rw [ones_val b (by omega), and32 _ _ hv p2, Nat.and_two_pow_sub_one_eq_mod]
    exact want _ rfl
  · rw [if_neg h32]
    have hb32 : b = 32 := by omega
    exact want v (by rw [hb32, Nat.mod_eq_of_lt hv])

end Go.Proofs.Ytnacpcbaiaakhaa.Pure
