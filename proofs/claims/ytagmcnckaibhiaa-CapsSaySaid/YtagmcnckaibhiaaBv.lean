/- The bits of 64-bit numbers with a sign, as words; no condition. -/
import Derived.Test.YtagmcnckaibhiaaBits
import Derived.Laws.Entries
namespace Go.Proofs.Ytagmcnckaibhiaa.Bits
open Go
theorem wrap_toNat (v : BitVec 64) : IntKind.i64.wrap (v.toNat : Int) = v.toInt := by
  rw [IntKind.wrap_i64, BitVec.toInt_eq_toNat_cond]
  have := v.isLt
  split <;> omega
theorem and_bv (a b : Int) : Go.bits .and .i64 a b = (BitVec.ofInt 64 a &&& BitVec.ofInt 64 b).toInt := wrap_toNat _
theorem or_bv (a b : Int) : Go.bits .or .i64 a b = (BitVec.ofInt 64 a ||| BitVec.ofInt 64 b).toInt := wrap_toNat _
theorem xor_bv (a b : Int) : Go.bits .xor .i64 a b = (BitVec.ofInt 64 a ^^^ BitVec.ofInt 64 b).toInt := wrap_toNat _
theorem andNot_bv (a b : Int) : Go.bits .andNot .i64 a b = (BitVec.ofInt 64 a &&& ~~~ (BitVec.ofInt 64 b)).toInt := wrap_toNat _
theorem less_1 (r x y : Int) : Go.bits .and .i64 (Go.bits .and .i64 (Go.bits .and .i64 r 7) (Go.bits .and .i64 x 7)) (Go.bits .and .i64 y 7) = Go.bits .and .i64 (Go.bits .and .i64 r 7) (Go.bits .and .i64 (Go.bits .and .i64 x y) 7) := by
  simp only [and_bv, BitVec.ofInt_toInt]
  congr 1
  ext i hi
  simp only [BitVec.getElem_and]
  cases (BitVec.ofInt 64 r)[i] <;> cases (BitVec.ofInt 64 x)[i] <;> cases (BitVec.ofInt 64 y)[i] <;> cases (BitVec.ofInt 64 7)[i] <;> rfl
theorem less_2 (a b : Int) : Go.bits .andNot .i64 (Go.bits .and .i64 a b) a = 0 := by
  simp only [and_bv, andNot_bv, BitVec.ofInt_toInt]
  have e : BitVec.ofInt 64 a &&& BitVec.ofInt 64 b &&& ~~~BitVec.ofInt 64 a = 0#64 := by
    ext i hi
    simp only [BitVec.getElem_and, BitVec.getElem_not]
    cases (BitVec.ofInt 64 a)[i] <;> cases (BitVec.ofInt 64 b)[i] <;> simp
  rw [e]; rfl
theorem less_3 (a b : Int) : Go.bits .andNot .i64 (Go.bits .and .i64 a b) b = 0 := by
  simp only [and_bv, andNot_bv, BitVec.ofInt_toInt]
  have e : BitVec.ofInt 64 a &&& BitVec.ofInt 64 b &&& ~~~BitVec.ofInt 64 b = 0#64 := by
    ext i hi
    simp only [BitVec.getElem_and, BitVec.getElem_not]
    cases (BitVec.ofInt 64 a)[i] <;> cases (BitVec.ofInt 64 b)[i] <;> simp
  rw [e]; rfl
theorem less_4 (r : Int) : Go.bits .and .i64 (Go.bits .and .i64 r 7) (Go.bits .and .i64 7 7) = Go.bits .and .i64 r 7 := by
  rw [show Go.bits .and .i64 7 7 = 7 by decide]
  simp only [and_bv, BitVec.ofInt_toInt, BitVec.and_assoc, BitVec.and_self]
theorem less_5 (r : Int) : Go.bits .and .i64 (Go.bits .and .i64 r 7) (Go.bits .and .i64 (-1) 7) = Go.bits .and .i64 r 7 := by
  rw [show Go.bits .and .i64 (-1) 7 = 7 by decide]
  simp only [and_bv, BitVec.ofInt_toInt, BitVec.and_assoc, BitVec.and_self]
theorem less_6 (r : Int) : Go.bits .and .i64 r (Go.bits .and .i64 0 7) = 0 := by
  rw [show Go.bits .and .i64 0 7 = 0 by decide]
  rw [and_bv, show BitVec.ofInt 64 0 = 0#64 from rfl, BitVec.and_zero]; rfl
end Go.Proofs.Ytagmcnckaibhiaa.Bits
