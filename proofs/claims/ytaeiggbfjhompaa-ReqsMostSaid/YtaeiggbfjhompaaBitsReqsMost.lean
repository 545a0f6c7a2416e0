/- Plain lemmas on the bits of 32-bit words, as natural numbers; no condition beyond the ones that each lemma names. -/
import Derived.Laws.BitsLemmas
import Derived.RowKit
import Derived.Below
namespace Go.Proofs.Ytaeiggbfjhompaa.Bits
open Go.RowKit
theorem hid {p : Prop} (h : p) : Go.RowKit.Hid p := h

/-- A shift, as Go has it. -/
theorem i64_lit {n : Nat} (h : n ≤ 9223372036854775807) : IntKind.i64.wrap (no_index (OfNat.ofNat n)) = OfNat.ofNat n := by
  have e : (OfNat.ofNat n : Int) = (n : Int) := rfl
  rw [IntKind.wrap_i64, e]; omega
def shl (k : IntKind) (x y : Int) : Int := k.wrap (x * 2 ^ min y.toNat k.bits)
def shr (k : IntKind) (x y : Int) : Int := x / 2 ^ min y.toNat k.bits
theorem i64_id {x : Int} (h0 : -9223372036854775808 ≤ x) (h1 : x ≤ 9223372036854775807) : IntKind.i64.wrap x = x := by rw [IntKind.wrap_i64]; omega
theorem u32_id {x : Int} (h0 : 0 ≤ x) (h1 : x < 4294967296) : IntKind.u32.wrap x = x := by rw [IntKind.wrap_u32]; omega
theorem u64_wrap {x : Int} (h0 : 0 ≤ x) (h1 : x < 18446744073709551616) : IntKind.u64.wrap x = x := by
  simp only [IntKind.wrap, IntKind.bits, IntKind.signed, Bool.false_eq_true, Bool.false_and, if_false]
  exact Int.emod_eq_of_lt h0 h1
end Go.Proofs.Ytaeiggbfjhompaa.Bits
namespace Go.Proofs.Ytaeiggbfjhompaa.Bits
open Go.RowKit
end Go.Proofs.Ytaeiggbfjhompaa.Bits
