/- The statement WordRound over plain numbers: a distance goes round and a sign is that of the highest bit; for all 32-bit words. -/
import Derived.Test.YtnacpcbaiaakhaaPWordRoundx1
import Derived.Test.YtnacpcbaiaakhaaBits
namespace Go.Proofs.Ytnacpcbaiaakhaa.Pure
open Go.RowKit Go.Proofs.Ytnacpcbaiaakhaa.PWordRound Go.Proofs.YtnacpcbaiaakhaaW.PrintWords Go.Proofs.YtnacpcbaiaakhaaW.PrintLast Go.Proofs.YtnacpcbaiaakhaaW.PrintMore Go.Proofs.Ytnacpcbaiaakhaa.Bits
theorem mask_spec (a m : Int) : word_mask.f a m = some ((2 ^ maskC a m - 1 : Nat) : Int) := by
  unfold word_mask.f
  by_cases h1 : a < 0
  · have e : maskC a m = 0 := by unfold maskC; rw [if_neg (by omega)]
    rw [if_pos h1, e]; rfl
  · rw [if_neg h1]
    by_cases h2 : a ≥ 32
    · have e : maskC a m = 0 := by unfold maskC; rw [if_neg (by omega)]
      rw [if_pos h2, e]; rfl
    · rw [if_neg h2]
      by_cases h3 : m < 1
      · have e : maskC a m = 0 := by unfold maskC; rw [if_neg (by omega)]
        rw [if_pos h3, e]; rfl
      · rw [if_neg h3, if_pos (by unfold mn wrap64; split <;> omega), mask_val a m (by omega) (by omega) (by omega)]
theorem field_spec (n : Nat) (a m : Int) (hn : n < 2 ^ 32) : word_Field.f n a m = some ((fieldN n a.toNat (maskC a m) : Nat) : Int) := by
  unfold word_Field.f
  rw [mask_spec]; simp only [Option.bind_some]
  by_cases hc : maskC a m = 0
  · rw [hc]; simp [fieldN, Nat.mod_one]
  · have h : 0 ≤ a ∧ a < 32 := by unfold maskC at hc; split at hc <;> omega
    have h2 : 2 ≤ 2 ^ maskC a m := Nat.le_trans (by decide : 2 ≤ 2 ^ 1) (Nat.pow_le_pow_right (by decide) (by omega))
    have h3 : 2 ^ maskC a m ≤ 2 ^ 32 := Nat.pow_le_pow_right (by decide) (maskC_32 a m)
    rw [if_neg (by omega), if_pos h.1, shr32 n a h.2, and32 _ _ (Nat.lt_of_le_of_lt (Nat.shiftRight_le n _) hn) (by omega), Nat.and_two_pow_sub_one_eq_mod]
    rfl
theorem field_0 (n : Nat) (m : Int) (hn : n < 2 ^ 32) : word_Field.f n 0 m = some ((fieldN n 0 (maskC 0 m) : Nat) : Int) := field_spec n 0 m hn
theorem field_n (n a : Nat) (m : Int) (hn : n < 2 ^ 32) : word_Field.f n (a : Int) m = some ((fieldN n a (maskC a m) : Nat) : Int) := by
  have := field_spec n (a : Int) m hn
  rwa [Int.toNat_natCast] at this
theorem first_spec : ringkernlaw1_first.f = some true := by decide +kernel
theorem WordRound : ringkernlaw1_WordRound.Pure := by
  intro h n wh wn
  obtain ⟨h, rfl, hh⟩ := wf_u32 wh
  obtain ⟨n, rfl, hn⟩ := wf_u32 wn
  unfold ringkernlaw1_WordRound.f
  rw [first_spec, Option.bind_some, if_pos rfl]
  unfold word_Signed.f word_Dist.f
  simp only [Option.bind_some]
  rw [if_pos (by omega), if_pos (by omega), if_pos (by unfold wrap32; omega), if_pos (by simp only [beq_iff_eq, decide_eq_decide]; unfold wrap32; omega)]
  decide +kernel

end Go.Proofs.Ytnacpcbaiaakhaa.Pure
