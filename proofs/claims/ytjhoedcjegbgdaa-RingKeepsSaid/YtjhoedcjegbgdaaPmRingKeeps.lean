/- Memory's contracts where it is known whether bytes are within; no condition beyond the ones that each theorem names. -/
import Derived.Test.YtjhoedcjegbgdaaPlRingKeeps
set_option linter.unusedVariables false
set_option linter.unusedSimpArgs false
set_option maxRecDepth 100000
set_option maxHeartbeats 1000000
namespace Go.Proofs.Ytjhoedcjegbgdaa.Ae
open Go Go.Proofs.Ytjhoedcjegbgdaa.Bits
attribute [local irreducible] Ret ACalls
theorem inU_r {n : Nat} {u o m : Int} (h : inU n u o m) (hn : n ≤ 1000000) : (-9223372036854775808 ≤ u ∧ u ≤ 9223372036854775807) ∧ (-9223372036854775808 ≤ o ∧ o ≤ 9223372036854775807) ∧ (-9223372036854775808 ≤ m ∧ m ≤ 9223372036854775807) := by
  unfold inU at h; omega
theorem mrd_yes {f : FuncId} {M : Nat → List (List Int) → HA} (h : MRd f M) {q : Nat} {bs : List (List Int)} {L : List HA} {st : PH} (hS : Sat (M q bs :: L) st) {u o m : Int} {l : List Int} (hi : inU bs.length u o m) (he : readM bs u o m = l) (hb : bs.length ≤ 1000000) :
    ACalls Try.prog f [.pointer (some ⟨q, 0, none⟩), .int .i64 u, .int .i64 o, .int .i64 m].toArray st fun v s => ∃ a c, v = .tuple #[.slice a l.length c, .bool true] ∧ Sat (SlB a l.length c 5 1 (ints .u8 l) :: M q bs :: L) s := by
  obtain ⟨k1, k2, k3⟩ := inU_r hi hb
  have := h q bs L st hS u o m k1 k2 k3 hb
  rw [decide_eq_true hi, he] at this
  exact this
theorem mrd_eq {f : FuncId} {M : Nat → List (List Int) → HA} (h : MRd f M) {q : Nat} {bs : List (List Int)} {L : List HA} {st : PH} (hS : Sat (M q bs :: L) st) {u o m : Int} {l : List Int} {n : Nat} (hi : inU bs.length u o m) (he : readM bs u o m = l) (hn : l.length = n) (hb : bs.length ≤ 1000000) :
    ACalls Try.prog f [.pointer (some ⟨q, 0, none⟩), .int .i64 u, .int .i64 o, .int .i64 m].toArray st fun v s => ∃ a c, v = .tuple #[.slice a n c, .bool true] ∧ Sat (SlB a n c 5 1 (ints .u8 l) :: M q bs :: L) s := by
  have := mrd_yes h hS hi he hb
  rw [hn] at this
  exact this
end Go.Proofs.Ytjhoedcjegbgdaa.Ae
