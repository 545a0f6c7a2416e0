/- Plain lemmas on the bits of 32-bit words, as natural numbers; no condition beyond the ones that each lemma names. -/
import Derived.Laws.BitsLemmas
import Derived.RowKit
import Derived.Below
namespace Go.Proofs.Ythdnajcngnaobaa.Bits
open Go.RowKit
theorem hid {p : Prop} (h : p) : Go.RowKit.Hid p := h

/-- A shift, as Go has it. -/
theorem i64_lit {n : Nat} (h : n ≤ 9223372036854775807) : IntKind.i64.wrap (no_index (OfNat.ofNat n)) = OfNat.ofNat n := by
  have e : (OfNat.ofNat n : Int) = (n : Int) := rfl
  rw [IntKind.wrap_i64, e]; omega
def shl (k : IntKind) (x y : Int) : Int := k.wrap (x * 2 ^ min y.toNat k.bits)
def shr (k : IntKind) (x y : Int) : Int := x / 2 ^ min y.toNat k.bits
theorem i64_id {x : Int} (h0 : -9223372036854775808 ≤ x) (h1 : x ≤ 9223372036854775807) : IntKind.i64.wrap x = x := by rw [IntKind.wrap_i64]; omega
theorem u32_id {x : Int} (h0 : 0 ≤ x) (h1 : x < 4294967296) : IntKind.u32.wrap x = x := by rw [IntKind.wrap_u32]; omega
theorem and32 (a b : Nat) (ha : a < 2 ^ 32) (hb : b < 2 ^ 32) : Go.bits .and .u32 (a : Int) (b : Int) = ((a &&& b : Nat) : Int) :=
  (bits_nat .u32 32 (by decide) (fun n h0 h1 => by rw [IntKind.wrap_u32]; omega) a b ha hb).1
theorem or32 (a b : Nat) (ha : a < 2 ^ 32) (hb : b < 2 ^ 32) : Go.bits .or .u32 (a : Int) (b : Int) = ((a ||| b : Nat) : Int) :=
  (bits_nat .u32 32 (by decide) (fun n h0 h1 => by rw [IntKind.wrap_u32]; omega) a b ha hb).2
/-- How many bits a field has. -/
def maskC (a m : Int) : Nat := if 0 ≤ a ∧ a < 32 ∧ 1 ≤ m then min m.toNat (32 - a).toNat else 0
theorem maskC_32 (a m : Int) : maskC a m ≤ 32 := by unfold maskC; split <;> omega
/-- A word's field. -/
def fieldN (n a c : Nat) : Nat := (n >>> a) % 2 ^ c
theorem mask_val (a m e : Int) (h : e.toNat = maskC a m) : IntKind.u32.wrap (IntKind.u32.wrap (1 * 2 ^ min e.toNat IntKind.u32.bits) - 1) = ((2 ^ maskC a m - 1 : Nat) : Int) := by
  have hc := maskC_32 a m
  have hk : IntKind.bits .u32 = 32 := rfl
  rw [h, hk, Nat.min_eq_left hc, IntKind.wrap_u32, IntKind.wrap_u32, Int.one_mul]
  have h3 : (2 : Nat) ^ maskC a m ≤ 2 ^ 32 := Nat.pow_le_pow_right (by decide) hc
  have h4 := Nat.two_pow_pos (maskC a m)
  have h5 : ((2 : Int) ^ maskC a m) = ((2 ^ maskC a m : Nat) : Int) := by simp
  rw [h5]
  generalize (2 : Nat) ^ maskC a m = p at *
  omega
theorem shr32 (n : Nat) (a : Int) (h : a < 32) : shr .u32 (n : Int) a = ((n >>> a.toNat : Nat) : Int) := by
  unfold shr
  have : IntKind.bits .u32 = 32 := rfl
  rw [this, Nat.min_eq_left (by omega), Nat.shiftRight_eq_div_pow]
  simp
theorem fieldN_0 (n a : Nat) : fieldN n a 0 = 0 := by simp [fieldN, Nat.mod_one]
theorem u64_wrap {x : Int} (h0 : 0 ≤ x) (h1 : x < 18446744073709551616) : IntKind.u64.wrap x = x := by
  simp only [IntKind.wrap, IntKind.bits, IntKind.signed, Bool.false_eq_true, Bool.false_and, if_false]
  exact Int.emod_eq_of_lt h0 h1
end Go.Proofs.Ythdnajcngnaobaa.Bits
namespace Go.Proofs.Ythdnajcngnaobaa.Bits
open Go.RowKit
theorem shl64 {x y : Int} (h0 : 0 ≤ y) (h1 : y ≤ 64) (h2 : 0 ≤ x) (h3 : x * 2 ^ y.toNat < 9223372036854775808) : shl .i64 x y = x * 2 ^ y.toNat := by
  unfold shl
  have hk : IntKind.bits .i64 = 64 := rfl
  rw [hk, Nat.min_eq_left (by omega), IntKind.wrap_i64]
  have h4 : 0 ≤ x * 2 ^ y.toNat := Int.mul_nonneg h2 (Int.le_of_lt (Int.pow_pos (by decide)))
  generalize x * 2 ^ y.toNat = q at *
  omega
theorem pow_nat (d : Nat) : ((2 : Int) ^ d) = ((2 ^ d : Nat) : Int) := by simp
theorem pow_pos' (d : Nat) : (0 : Int) < 2 ^ d := Int.pow_pos (by decide)
theorem pow_le' {d e : Nat} (h : d ≤ e) : (2 : Int) ^ d ≤ 2 ^ e := by
  rw [pow_nat, pow_nat]; exact_mod_cast Nat.pow_le_pow_right (by decide) h
theorem shl64_1 {y : Int} (h0 : 0 ≤ y) (h1 : y ≤ 62) : shl .i64 1 y = 2 ^ y.toNat := by
  have h := pow_le' (show y.toNat ≤ 62 by omega)
  rw [shl64 h0 (by omega) (by decide) (by rw [Int.one_mul]; omega), Int.one_mul]
theorem and64_mask (x : Int) (i : Nat) (hi : i ≤ 62) (h0 : 0 ≤ x) (h1 : x < 2 ^ 63) : Go.bits .and .i64 x (2 ^ i - 1) = x % 2 ^ i :=
  bits_mask .i64 63 (by decide) (fun n h0 h1 => by rw [IntKind.wrap_i64]; omega) i (by omega) x h0 h1
theorem and64_15 (x : Int) (h0 : 0 ≤ x) (h1 : x < 9223372036854775808) : Go.bits .and .i64 x 15 = x % 16 := and64_mask x 4 (by decide) h0 (by omega)
end Go.Proofs.Ythdnajcngnaobaa.Bits
