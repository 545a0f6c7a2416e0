/- Plain lemmas on the bits of 32-bit words, as natural numbers; no condition beyond the ones that each lemma names. -/
import Derived.Laws.BitsLemmas
import Derived.RowKit
import Derived.Below
namespace Go.Proofs.Ytfmfkablbaoofaa.Bits
open Go.RowKit
theorem hid {p : Prop} (h : p) : Go.RowKit.Hid p := h

/-- A shift, as Go has it. -/
theorem i64_lit {n : Nat} (h : n ≤ 9223372036854775807) : IntKind.i64.wrap (no_index (OfNat.ofNat n)) = OfNat.ofNat n := by
  have e : (OfNat.ofNat n : Int) = (n : Int) := rfl
  rw [IntKind.wrap_i64, e]; omega
def shl (k : IntKind) (x y : Int) : Int := k.wrap (x * 2 ^ min y.toNat k.bits)
def shr (k : IntKind) (x y : Int) : Int := x / 2 ^ min y.toNat k.bits
theorem i64_id {x : Int} (h0 : -9223372036854775808 ≤ x) (h1 : x ≤ 9223372036854775807) : IntKind.i64.wrap x = x := by rw [IntKind.wrap_i64]; omega
theorem u32_id {x : Int} (h0 : 0 ≤ x) (h1 : x < 4294967296) : IntKind.u32.wrap x = x := by rw [IntKind.wrap_u32]; omega
theorem u64_wrap {x : Int} (h0 : 0 ≤ x) (h1 : x < 18446744073709551616) : IntKind.u64.wrap x = x := by
  simp only [IntKind.wrap, IntKind.bits, IntKind.signed, Bool.false_eq_true, Bool.false_and, if_false]
  exact Int.emod_eq_of_lt h0 h1
end Go.Proofs.Ytfmfkablbaoofaa.Bits
namespace Go.Proofs.Ytfmfkablbaoofaa.Bits
open Go.RowKit
theorem shl64 {x y : Int} (h0 : 0 ≤ y) (h1 : y ≤ 64) (h2 : 0 ≤ x) (h3 : x * 2 ^ y.toNat < 9223372036854775808) : shl .i64 x y = x * 2 ^ y.toNat := by
  unfold shl
  have hk : IntKind.bits .i64 = 64 := rfl
  rw [hk, Nat.min_eq_left (by omega), IntKind.wrap_i64]
  have h4 : 0 ≤ x * 2 ^ y.toNat := Int.mul_nonneg h2 (Int.le_of_lt (Int.pow_pos (by decide)))
  generalize x * 2 ^ y.toNat = q at *
  omega
theorem pow_nat (d : Nat) : ((2 : Int) ^ d) = ((2 ^ d : Nat) : Int) := by simp
theorem pow_pos' (d : Nat) : (0 : Int) < 2 ^ d := Int.pow_pos (by decide)
theorem pow_le' {d e : Nat} (h : d ≤ e) : (2 : Int) ^ d ≤ 2 ^ e := by
  rw [pow_nat, pow_nat]; exact_mod_cast Nat.pow_le_pow_right (by decide) h
theorem shl64_1 {y : Int} (h0 : 0 ≤ y) (h1 : y ≤ 62) : shl .i64 1 y = 2 ^ y.toNat := by
  have h := pow_le' (show y.toNat ≤ 62 by omega)
  rw [shl64 h0 (by omega) (by decide) (by rw [Int.one_mul]; omega), Int.one_mul]
end Go.Proofs.Ytfmfkablbaoofaa.Bits
