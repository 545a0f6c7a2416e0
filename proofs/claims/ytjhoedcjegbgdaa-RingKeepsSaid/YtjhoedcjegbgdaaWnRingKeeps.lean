/- Plain laws of numbers in bytes: what was put is read, what is read is put; no program. -/
import Derived.Test.YtjhoedcjegbgdaaWlRingKeeps
set_option linter.unusedVariables false
set_option linter.unusedSimpArgs false
namespace Go.Proofs.Ytjhoedcjegbgdaa.Ae
open Go Go.Proofs.Ytjhoedcjegbgdaa.Bits
theorem getD_set (l : List Int) (i j : Nat) (x : Int) (h : i < l.length) : (l.set i x).getD j 0 = if i = j then x else l.getD j 0 := by
  by_cases e : i = j
  · subst e
    rw [List.getD_eq_getElem?_getD, List.getElem?_set_self h, if_pos rfl]; rfl
  · rw [List.getD_eq_getElem?_getD, List.getElem?_set_ne e, if_neg e, List.getD_eq_getElem?_getD]
theorem putL_get (l : List Int) (at_ n : Int) (j : Nat) (hj : j < l.length) : ∀ k : Nat, (putL l at_ n k).getD j 0 = if at_ ≤ j ∧ (j : Int) < at_ + k then n / 2 ^ (8 * ((j : Int) - at_).toNat) % 256 else l.getD j 0 := by
  intro k
  induction k with
  | zero => rw [if_neg (by omega)]; rfl
  | succ k ih =>
    unfold putL
    split
    · rename_i h
      rw [getD_set _ _ _ _ (by rw [putL_length]; omega)]
      by_cases e : (at_ + k).toNat = j
      · rw [if_pos e, if_pos (by omega), show ((j : Int) - at_).toNat = k by omega]
      · rw [if_neg e, ih]
        by_cases c : at_ ≤ j ∧ (j : Int) < at_ + k
        · rw [if_pos c, if_pos (by omega)]
        · rw [if_neg c, if_neg (by omega)]
    · rename_i h
      rw [ih]
      by_cases c : at_ ≤ j ∧ (j : Int) < at_ + k
      · rw [if_pos c, if_pos (by omega)]
      · rw [if_neg c, if_neg (by omega)]
theorem emod_split (x a b : Int) (ha : 0 < a) (hb : 0 < b) : x % (a * b) = x % a + a * (x / a % b) := by
  have hab := Int.mul_pos ha hb
  refine ((Int.ediv_emod_unique (q := x / a / b) hab).2 ⟨?_, ?_, ?_⟩).2
  · have h1 := Int.emod_add_mul_ediv x a
    have h2 := Int.emod_add_mul_ediv (x / a) b
    have h3 : a * (x / a % b) + a * b * (x / a / b) = a * (x / a) := by rw [Int.mul_assoc, ← Int.mul_add, h2]
    omega
  · have h1 := Int.emod_nonneg x (show a ≠ 0 by omega)
    have h2 := Int.mul_nonneg (Int.le_of_lt ha) (Int.emod_nonneg (x / a) (show b ≠ 0 by omega))
    omega
  · have h1 := Int.emod_lt_of_pos x ha
    have h2 := Int.emod_lt_of_pos (x / a) hb
    have h3 : a * (x / a % b) ≤ a * (b - 1) := Int.mul_le_mul_of_nonneg_left (by omega) (Int.le_of_lt ha)
    rw [Int.mul_sub, Int.mul_one] at h3
    omega
theorem p256 (k : Nat) : (2 : Int) ^ (8 * k) = 256 ^ k := by rw [Int.pow_mul]; rfl
theorem p256_pos (k : Nat) : (0 : Int) < 256 ^ k := Int.pow_pos (by decide)
theorem gN_put (l : List Int) (at_ n : Int) (k s : Nat) (h0 : 0 ≤ at_) (h1 : at_ + k ≤ l.length) : ∀ m : Nat, s + m ≤ k → gN (putL l at_ n k) l.length (at_ + s) m = n / 256 ^ s % 256 ^ m := by
  intro m
  induction m with
  | zero => intro _; show (0 : Int) = _ % 1; omega
  | succ m ih =>
    intro h
    have hb : byteAt (putL l at_ n k) l.length (at_ + s) m = n / 256 ^ s / 256 ^ m % 256 := by
      unfold byteAt
      rw [if_pos (by omega), putL_get _ _ _ _ (by omega), if_pos (by omega), show (((at_ + s + m).toNat : Int) - at_).toNat = s + m by omega, p256, Int.ediv_ediv_of_nonneg (Int.le_of_lt (p256_pos s)), ← Int.pow_add]
    rw [gN, ih (by omega), hb, Int.pow_succ, emod_split _ _ _ (p256_pos m) (by decide), Int.mul_comm (256 ^ m)]
theorem gN_put' (l : List Int) (len : Nat) (hl : l.length = len) (at_ n : Int) (k s m : Nat) (p : Int) (hp : p = at_ + s) (h0 : 0 ≤ at_) (h1 : at_ + k ≤ len) (hm : s + m ≤ k) : gN (putL l at_ n k) len p m = n / 256 ^ s % 256 ^ m := by
  subst hl; subst hp
  exact gN_put l at_ n k s h0 h1 m hm
theorem byteAt_off (l : List Int) (at_ n p : Int) (k i : Nat) (h : p + i < at_ ∨ at_ + k ≤ p + i) : byteAt (putL l at_ n k) l.length p i = byteAt l l.length p i := by
  unfold byteAt
  split
  · rw [putL_get _ _ _ _ (by omega), if_neg (by omega)]
  · rfl
theorem gN_put_off (l : List Int) (at_ n p : Int) (k : Nat) : ∀ m : Nat, (p + m ≤ at_ ∨ at_ + k ≤ p) → gN (putL l at_ n k) l.length p m = gN l l.length p m := by
  intro m
  induction m with
  | zero => intro _; rfl
  | succ m ih =>
    intro h
    rw [gN, gN, ih (by omega), byteAt_off _ _ _ _ _ _ (by omega)]
theorem gN_put_off' (l : List Int) (len : Nat) (hl : l.length = len) (at_ n p : Int) (k m : Nat) (h : p + m ≤ at_ ∨ at_ + k ≤ p) : gN (putL l at_ n k) len p m = gN l len p m := by
  subst hl; exact gN_put_off l at_ n p k m h
end Go.Proofs.Ytjhoedcjegbgdaa.Ae
