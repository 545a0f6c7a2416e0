/- Rings: the program's ring, what waits told: room, head, tail, what can be; no condition beyond the ones that each theorem names. -/
import Derived.Test.YtjhoedcjegbgdaaRoRingKeeps
import Derived.Test.YtjhoedcjegbgdaaRtRingKeeps
set_option linter.unusedVariables false
set_option linter.unusedSimpArgs false
set_option maxRecDepth 100000
set_option maxHeartbeats 4000000
namespace Go.Proofs.Ytjhoedcjegbgdaa.Ae
open Go Go.Proofs.Ytjhoedcjegbgdaa.Bits
section
variable {q mp : Nat} {sq cq sb cb h t : Int} {bs : List (List Int)} {ov : List C4} {L : List HA} {st : PH}
end
/-- The law's own four bytes, and the store of them. -/
theorem put4_sat (x : Int) (hx : U32 x) (p : Nat) (e : TypeId) (L : List HA) (st : PH) (hS : Sat (Pt p (.cells (Array.replicate 4 (.int .u8 0)) e (0, 0)) :: L) st) :
    ACalls Try.prog 32 [.slice (some ⟨p, 0, none⟩) 4 4, .int .i64 0, .int .u32 x].toArray st fun v s => ∃ a' c', v = .slice a' 4 c' ∧ Sat (SlB a' 4 c' 5 1 (ints .u8 (b4 x)) :: L) s :=
  (rput32_sat _ _ _ _ 0 x (by decide) hx (by decide) _ _ hS (zero_row hS rfl (by decide))).mono fun v s ⟨a', c', e, h⟩ => ⟨a', c', e, sat_tail (fun _ => sat_drop) h⟩
end Go.Proofs.Ytjhoedcjegbgdaa.Ae
