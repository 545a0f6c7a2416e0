/- Plain lemmas on the bits of 32-bit words, as natural numbers; no condition beyond the ones that each lemma names. -/
import Derived.Laws.BitsLemmas
import Derived.RowKit
import Derived.Below
namespace Go.Proofs.Ythdnajcngnaobaa.Bits
open Go.RowKit
theorem hid {p : Prop} (h : p) : Go.RowKit.Hid p := h

/-- A shift, as Go has it. -/
theorem i64_lit {n : Nat} (h : n ≤ 9223372036854775807) : IntKind.i64.wrap (no_index (OfNat.ofNat n)) = OfNat.ofNat n := by
  have e : (OfNat.ofNat n : Int) = (n : Int) := rfl
  rw [IntKind.wrap_i64, e]; omega
def shl (k : IntKind) (x y : Int) : Int := k.wrap (x * 2 ^ min y.toNat k.bits)
def shr (k : IntKind) (x y : Int) : Int := x / 2 ^ min y.toNat k.bits
theorem i64_id {x : Int} (h0 : -9223372036854775808 ≤ x) (h1 : x ≤ 9223372036854775807) : IntKind.i64.wrap x = x := by rw [IntKind.wrap_i64]; omega
theorem u32_id {x : Int} (h0 : 0 ≤ x) (h1 : x < 4294967296) : IntKind.u32.wrap x = x := by rw [IntKind.wrap_u32]; omega
theorem and32 (a b : Nat) (ha : a < 2 ^ 32) (hb : b < 2 ^ 32) : Go.bits .and .u32 (a : Int) (b : Int) = ((a &&& b : Nat) : Int) :=
  (bits_nat .u32 32 (by decide) (fun n h0 h1 => by rw [IntKind.wrap_u32]; omega) a b ha hb).1
theorem or32 (a b : Nat) (ha : a < 2 ^ 32) (hb : b < 2 ^ 32) : Go.bits .or .u32 (a : Int) (b : Int) = ((a ||| b : Nat) : Int) :=
  (bits_nat .u32 32 (by decide) (fun n h0 h1 => by rw [IntKind.wrap_u32]; omega) a b ha hb).2
theorem andNot32 (a b : Nat) (ha : a < 2 ^ 32) (hb : b < 2 ^ 32) : Go.bits .andNot .u32 (a : Int) (b : Int) = ((a &&& (2 ^ 32 - (b + 1)) : Nat) : Int) := by
  have e1 : a % 2 ^ 32 = a := Nat.mod_eq_of_lt ha
  have e2 : b % 2 ^ 32 = b := Nat.mod_eq_of_lt hb
  have hk : IntKind.bits .u32 = 32 := rfl
  simp only [Go.bits, hk, BitVec.ofInt_natCast, BitVec.toNat_and, BitVec.toNat_not, BitVec.toNat_ofNat, e1, e2]
  rw [IntKind.wrap_u32]
  have h3 : a &&& (2 ^ 32 - 1 - b) ≤ a := Nat.and_le_left
  have h4 : 2 ^ 32 - 1 - b = 2 ^ 32 - (b + 1) := by omega
  rw [h4] at h3 ⊢
  omega
/-- How many bits a field has. -/
def maskC (a m : Int) : Nat := if 0 ≤ a ∧ a < 32 ∧ 1 ≤ m then min m.toNat (32 - a).toNat else 0
theorem maskC_le (a m : Int) : maskC a m + a.toNat ≤ 32 ∨ maskC a m = 0 := by unfold maskC; split <;> omega
theorem maskC_32 (a m : Int) : maskC a m ≤ 32 := by unfold maskC; split <;> omega
/-- A word with other bits from a on, c of them. -/
def setN (n a c v : Nat) : Nat := (n &&& (2 ^ 32 - ((2 ^ c - 1) <<< a + 1))) ||| ((v % 2 ^ c) <<< a)

theorem shiftl_lt (x a c : Nat) (hx : x < 2 ^ c) (h : a + c ≤ 32) : x <<< a < 2 ^ 32 := by
  rw [Nat.shiftLeft_eq]
  have h1 : x * 2 ^ a < 2 ^ c * 2 ^ a := Nat.mul_lt_mul_of_pos_right hx (Nat.two_pow_pos a)
  rw [← Nat.pow_add] at h1
  exact Nat.lt_of_lt_of_le h1 (Nat.pow_le_pow_right (by decide) (by omega))
theorem tb_ge (x c i : Nat) (hx : x < 2 ^ c) (hi : c ≤ i) : x.testBit i = false :=
  Nat.testBit_lt_two_pow (Nat.lt_of_lt_of_le hx (Nat.pow_le_pow_right (by decide) hi))
theorem two_lt (c : Nat) : 2 ^ c - 1 < 2 ^ c := Nat.sub_lt (Nat.two_pow_pos c) (by decide)
theorem setN_lt (n a c v : Nat) (hn : n < 2 ^ 32) (h : a + c ≤ 32) : setN n a c v < 2 ^ 32 := by
  unfold setN
  exact Nat.or_lt_two_pow (Nat.lt_of_le_of_lt Nat.and_le_left hn) (shiftl_lt _ a c (Nat.mod_lt _ (Nat.two_pow_pos c)) h)
theorem setN_tb (n a c v i : Nat) (hn : n < 2 ^ 32) (h : a + c ≤ 32) : (setN n a c v).testBit i = if a ≤ i ∧ i < a + c then v.testBit (i - a) else n.testBit i := by
  have hm := shiftl_lt (2 ^ c - 1) a c (two_lt c) h
  unfold setN
  rw [Nat.testBit_or, Nat.testBit_and, Nat.testBit_two_pow_sub_succ hm, Nat.testBit_shiftLeft, Nat.testBit_shiftLeft, Nat.testBit_mod_two_pow, Nat.testBit_two_pow_sub_one]
  by_cases hi : i < 32
  · by_cases h1 : a ≤ i
    · by_cases h2 : i < a + c
      · have h3 : i - a < c := by omega
        simp [hi, h1, h2, h3]
      · have h3 : ¬ i - a < c := by omega
        simp [hi, h1, h2, h3]
    · simp [hi, h1]
  · have : ¬ (a ≤ i ∧ i < a + c) := by omega
    have h3 : ¬ i - a < c ∨ ¬ a ≤ i := by omega
    rw [if_neg this, tb_ge n 32 i hn (by omega)]
    rcases h3 with h3 | h3 <;> simp [hi, h3]
/-- A word's field. -/
def fieldN (n a c : Nat) : Nat := (n >>> a) % 2 ^ c
theorem fieldN_tb (n a c i : Nat) : (fieldN n a c).testBit i = (decide (i < c) && n.testBit (a + i)) := by
  unfold fieldN; rw [Nat.testBit_mod_two_pow, Nat.testBit_shiftRight]
theorem mask_val (a m e : Int) (h : e.toNat = maskC a m) : IntKind.u32.wrap (IntKind.u32.wrap (1 * 2 ^ min e.toNat IntKind.u32.bits) - 1) = ((2 ^ maskC a m - 1 : Nat) : Int) := by
  have hc := maskC_32 a m
  have hk : IntKind.bits .u32 = 32 := rfl
  rw [h, hk, Nat.min_eq_left hc, IntKind.wrap_u32, IntKind.wrap_u32, Int.one_mul]
  have h3 : (2 : Nat) ^ maskC a m ≤ 2 ^ 32 := Nat.pow_le_pow_right (by decide) hc
  have h4 := Nat.two_pow_pos (maskC a m)
  have h5 : ((2 : Int) ^ maskC a m) = ((2 ^ maskC a m : Nat) : Int) := by simp
  rw [h5]
  generalize (2 : Nat) ^ maskC a m = p at *
  omega
theorem shr32 (n : Nat) (a : Int) (h : a < 32) : shr .u32 (n : Int) a = ((n >>> a.toNat : Nat) : Int) := by
  unfold shr
  have : IntKind.bits .u32 = 32 := rfl
  rw [this, Nat.min_eq_left (by omega), Nat.shiftRight_eq_div_pow]
  simp
theorem shl32 (n c : Nat) (a : Int) (hn : n < 2 ^ c) (h : a.toNat + c ≤ 32) : shl .u32 (n : Int) a = ((n <<< a.toNat : Nat) : Int) := by
  unfold shl
  have : IntKind.bits .u32 = 32 := rfl
  rw [this, Nat.min_eq_left (by omega), IntKind.wrap_u32]
  have h1 := shiftl_lt n a.toNat c hn h
  have h2 : ((n : Int) * 2 ^ a.toNat) = ((n <<< a.toNat : Nat) : Int) := by rw [Nat.shiftLeft_eq]; simp
  rw [h2]
  generalize n <<< a.toNat = q at *
  omega
theorem field_set_high (n a b v m : Nat) (hn : n < 2 ^ 32) (hab : a + b ≤ 32) : fieldN (setN n a b v) (a + b) m = fieldN n (a + b) m := by
  apply Nat.eq_of_testBit_eq; intro i
  rw [fieldN_tb, fieldN_tb, setN_tb n a b v _ hn hab, if_neg (by omega)]
theorem field_set (n a b v : Nat) (hn : n < 2 ^ 32) (hab : a + b ≤ 32) : fieldN (setN n a b v) a b = v % 2 ^ b := by
  apply Nat.eq_of_testBit_eq; intro i
  rw [fieldN_tb, setN_tb n a b v _ hn hab, Nat.testBit_mod_two_pow]
  by_cases h : i < b
  · rw [if_pos (by omega), show a + i - a = i by omega]
  · simp [h]
theorem fieldN_0 (n a : Nat) : fieldN n a 0 = 0 := by simp [fieldN, Nat.mod_one]
theorem u64_wrap {x : Int} (h0 : 0 ≤ x) (h1 : x < 18446744073709551616) : IntKind.u64.wrap x = x := by
  simp only [IntKind.wrap, IntKind.bits, IntKind.signed, Bool.false_eq_true, Bool.false_and, if_false]
  exact Int.emod_eq_of_lt h0 h1
end Go.Proofs.Ythdnajcngnaobaa.Bits
namespace Go.Proofs.Ythdnajcngnaobaa.Bits
open Go.RowKit
theorem shl64 {x y : Int} (h0 : 0 ≤ y) (h1 : y ≤ 64) (h2 : 0 ≤ x) (h3 : x * 2 ^ y.toNat < 9223372036854775808) : shl .i64 x y = x * 2 ^ y.toNat := by
  unfold shl
  have hk : IntKind.bits .i64 = 64 := rfl
  rw [hk, Nat.min_eq_left (by omega), IntKind.wrap_i64]
  have h4 : 0 ≤ x * 2 ^ y.toNat := Int.mul_nonneg h2 (Int.le_of_lt (Int.pow_pos (by decide)))
  generalize x * 2 ^ y.toNat = q at *
  omega
theorem pow_nat (d : Nat) : ((2 : Int) ^ d) = ((2 ^ d : Nat) : Int) := by simp
theorem pow_pos' (d : Nat) : (0 : Int) < 2 ^ d := Int.pow_pos (by decide)
theorem pow_le' {d e : Nat} (h : d ≤ e) : (2 : Int) ^ d ≤ 2 ^ e := by
  rw [pow_nat, pow_nat]; exact_mod_cast Nat.pow_le_pow_right (by decide) h
theorem shl64_1 {y : Int} (h0 : 0 ≤ y) (h1 : y ≤ 62) : shl .i64 1 y = 2 ^ y.toNat := by
  have h := pow_le' (show y.toNat ≤ 62 by omega)
  rw [shl64 h0 (by omega) (by decide) (by rw [Int.one_mul]; omega), Int.one_mul]
/-- A word whose lowest eight bits are set anew. -/
theorem setN_low (n v : Nat) (hn : n < 2 ^ 32) : setN n 0 8 v = n / 256 * 256 + v % 256 := by
  have hx := setN_lt n 0 8 v hn (by decide)
  have h1 := field_set n 0 8 v hn (by decide)
  have h2 := field_set_high n 0 8 v 32 hn (by decide)
  unfold fieldN at h1 h2
  simp only [Nat.zero_add, Nat.shiftRight_eq_div_pow] at h1 h2
  generalize setN n 0 8 v = x at *
  omega
theorem and64_mask (x : Int) (i : Nat) (hi : i ≤ 62) (h0 : 0 ≤ x) (h1 : x < 2 ^ 63) : Go.bits .and .i64 x (2 ^ i - 1) = x % 2 ^ i :=
  bits_mask .i64 63 (by decide) (fun n h0 h1 => by rw [IntKind.wrap_i64]; omega) i (by omega) x h0 h1
theorem and64_15 (x : Int) (h0 : 0 ≤ x) (h1 : x < 9223372036854775808) : Go.bits .and .i64 x 15 = x % 16 := and64_mask x 4 (by decide) h0 (by omega)
theorem or64_join (x y : Int) (i : Nat) (hx : 0 ≤ x) (hxi : x % 2 ^ i = 0) (hx1 : x < 2 ^ 62) (hy : 0 ≤ y) (hyi : y < 2 ^ i) (hi : i ≤ 62) : Go.bits .or .i64 x y = x + y :=
  bits_join .i64 63 (by decide) (fun n h0 h1 => by rw [IntKind.wrap_i64]; omega) i x y hx hxi (by omega) hy hyi (by have := pow_le' hi; omega)
end Go.Proofs.Ythdnajcngnaobaa.Bits
