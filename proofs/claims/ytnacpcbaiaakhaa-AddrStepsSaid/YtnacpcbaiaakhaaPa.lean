/- Plain law of addresses: guards and slots put one behind the other come apart as they were; no program in sight. -/
import Derived.Test.YtnacpcbaiaakhaaBits
import Derived.Laws.Entries
set_option linter.unusedVariables false
namespace Go.Proofs.Ytnacpcbaiaakhaa.Bits
open Go Go.RowKit
def dF (w : Nat → Nat) : Nat → Nat → Nat
  | _, 0 => 0
  | i, k + 1 => w i + dF w (i + 1) k
def vF (w : Nat → Nat) (t : Nat → Int) : Nat → Nat → Int
  | _, 0 => 0
  | i, k + 1 => t i * 2 ^ dF w (i + 1) k + vF w t (i + 1) k
theorem dF_snoc (w : Nat → Nat) : ∀ k i, dF w i (k + 1) = dF w i k + w (i + k) := by
  intro k
  induction k with
  | zero => intro i; simp [dF]
  | succ k ih =>
    intro i
    have h1 : dF w i (k + 1 + 1) = w i + dF w (i + 1) (k + 1) := rfl
    have h2 : dF w i (k + 1) = w i + dF w (i + 1) k := rfl
    rw [h1, ih (i + 1), h2, show i + 1 + k = i + (k + 1) by omega]; omega
theorem vF_snoc (w : Nat → Nat) (t : Nat → Int) : ∀ k i, vF w t i (k + 1) = vF w t i k * 2 ^ w (i + k) + t (i + k) := by
  intro k
  induction k with
  | zero => intro i; simp [vF, dF]
  | succ k ih =>
    intro i
    have h1 : vF w t i (k + 1 + 1) = t i * 2 ^ dF w (i + 1) (k + 1) + vF w t (i + 1) (k + 1) := rfl
    have h2 : vF w t i (k + 1) = t i * 2 ^ dF w (i + 1) k + vF w t (i + 1) k := rfl
    rw [h1, h2, ih (i + 1), dF_snoc, show i + 1 + k = i + (k + 1) by omega, Int.pow_add, Int.add_mul, Int.mul_assoc, Int.add_assoc]
theorem vF_bound (w : Nat → Nat) (t : Nat → Int) (ht : ∀ i, 0 ≤ t i ∧ t i < 2 ^ w i) : ∀ k i, 0 ≤ vF w t i k ∧ vF w t i k < 2 ^ dF w i k := by
  intro k
  induction k with
  | zero => intro i; simp [vF, dF]
  | succ k ih =>
    intro i
    obtain ⟨h0, h1⟩ := ih (i + 1)
    obtain ⟨t0, t1⟩ := ht i
    have e : vF w t i (k + 1) = t i * 2 ^ dF w (i + 1) k + vF w t (i + 1) k := rfl
    have e2 : dF w i (k + 1) = w i + dF w (i + 1) k := rfl
    have hp := pow_pos' (dF w (i + 1) k)
    have hm : 0 ≤ t i * 2 ^ dF w (i + 1) k := Int.mul_nonneg t0 (Int.le_of_lt hp)
    have hle : (t i + 1) * 2 ^ dF w (i + 1) k ≤ 2 ^ w i * 2 ^ dF w (i + 1) k := Int.mul_le_mul_of_nonneg_right (by omega) (Int.le_of_lt hp)
    rw [e, e2, Int.pow_add]
    rw [Int.add_mul, Int.one_mul] at hle
    exact ⟨by omega, by omega⟩
theorem mod_mul_pow (x : Int) (n : Nat) : x * 2 ^ n % 2 ^ n = 0 := Int.mul_emod_left ..
/-- One more guard and slot behind. -/
theorem put_step (v z g s : Int) (d : Nat) (hv0 : 0 ≤ v) (hv : v < 2 ^ d) (hz0 : 0 ≤ z) (hz1 : z ≤ 3) (hd : (d : Int) + z + 4 ≤ 24) (hg0 : 0 ≤ g) (hg1 : g < 2 ^ z.toNat) (hs0 : 0 ≤ s) (hs1 : s < 16) :
    Hid (IntKind.i64.wrap (v * 2 ^ min z.toNat IntKind.i64.bits) = v * 2 ^ z.toNat) ∧ Hid (Go.bits .or .i64 (v * 2 ^ z.toNat) g = v * 2 ^ z.toNat + g) ∧
    Hid (IntKind.i64.wrap ((v * 2 ^ z.toNat + g) * 2 ^ min 4 IntKind.i64.bits) = (v * 2 ^ z.toNat + g) * 16) ∧ Hid (Go.bits .or .i64 ((v * 2 ^ z.toNat + g) * 16) s = (v * 2 ^ z.toNat + g) * 16 + s) := by
  have hk : IntKind.bits .i64 = 64 := rfl
  have hd24 := pow_le' (d := d) (e := 20) (by omega)
  have hz8 := pow_le' (d := z.toNat) (e := 3) (by omega)
  have hzp := pow_pos' z.toNat
  rw [show (2 : Int) ^ 20 = 1048576 from rfl] at hd24
  rw [show (2 : Int) ^ 3 = 8 from rfl] at hz8
  have m0 : 0 ≤ v * 2 ^ z.toNat := Int.mul_nonneg hv0 (Int.le_of_lt hzp)
  have m1 : v * 2 ^ z.toNat ≤ 1048576 * 8 := Int.mul_le_mul (by omega) hz8 (Int.le_of_lt hzp) (by decide)
  have o1 := or64_join (v * 2 ^ z.toNat) g z.toNat m0 (mod_mul_pow _ _) (by omega) hg0 hg1 (by omega)
  refine ⟨hid ?_, hid o1, hid ?_, hid ?_⟩
  · rw [hk, Nat.min_eq_left (by omega)]; exact i64_id (by omega) (by omega)
  · rw [hk, show (2 : Int) ^ min 4 64 = 16 from rfl]; exact i64_id (by omega) (by omega)
  · exact or64_join _ s 4 (by omega) (mod_mul_pow _ 4) (by omega) hs0 (by omega) (by omega)
/-- The first guard and slot, and what is behind. -/
theorem take_step (g s r : Int) (D : Nat) (hg0 : 0 ≤ g) (hs0 : 0 ≤ s) (hs1 : s < 16) (hr0 : 0 ≤ r) (hr1 : r < 2 ^ D) :
    ((g * 16 + s) * 2 ^ D + r) / 2 ^ (4 + D) = g ∧ ((g * 16 + s) * 2 ^ D + r) / 2 ^ D % 16 = s ∧ ((g * 16 + s) * 2 ^ D + r) % 2 ^ D = r := by
  have hp := pow_pos' D
  have e1 : ((g * 16 + s) * 2 ^ D + r) / 2 ^ D = g * 16 + s := by
    rw [Int.add_comm, Int.add_mul_ediv_right _ _ (by omega), Int.ediv_eq_zero_of_lt hr0 hr1]; omega
  refine ⟨?_, ?_, ?_⟩
  · rw [Int.add_comm (4 : Nat) D |> fun _ => show (2 : Int) ^ (4 + D) = 2 ^ D * 16 by rw [Nat.add_comm, Int.pow_add]; rfl]
    have e2 := Int.ediv_ediv (x := (g * 16 + s) * 2 ^ D + r) (y := 2 ^ D) (z := 16)
    rw [if_neg (fun h => by omega), Int.sub_zero] at e2
    rw [← e2, e1]; omega
  · rw [e1]; omega
  · rw [Int.add_comm, Int.add_mul_emod_self_right]; exact Int.emod_eq_of_lt hr0 hr1
theorem xor_ne (g : Int) (h0 : 0 ≤ g) (h1 : g < 8) : ¬ g = Go.bits .xor .i64 g 1 := by
  rcases (show g = 0 ∨ g = 1 ∨ g = 2 ∨ g = 3 ∨ g = 4 ∨ g = 5 ∨ g = 6 ∨ g = 7 by omega) with h | h | h | h | h | h | h | h <;> subst h <;> decide
end Go.Proofs.Ytnacpcbaiaakhaa.Bits
