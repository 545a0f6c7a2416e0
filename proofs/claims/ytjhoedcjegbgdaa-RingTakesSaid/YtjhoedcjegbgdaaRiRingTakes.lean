/- Rings: what the program's Flush returns; no condition beyond the ones that each theorem names. -/
import Derived.Test.YtjhoedcjegbgdaaRhRingTakes
set_option linter.unusedVariables false
set_option linter.unusedSimpArgs false
set_option maxRecDepth 100000
set_option maxHeartbeats 4000000
namespace Go.Proofs.Ytjhoedcjegbgdaa.Ae
open Go Go.Proofs.Ytjhoedcjegbgdaa.Bits
attribute [local irreducible] Ret ACalls canW writeM readM wordM roomD plc
section
variable {q mp : Nat} {sq cq sb cb h t : Int} {bs : List (List Int)} {ov : List C4} {L : List HA} {st : PH}
end
end Go.Proofs.Ytjhoedcjegbgdaa.Ae
