/- Rings: what the document's ring returns, for all memories; no condition beyond the ones that each theorem names. -/
import Derived.Test.YtjhoedcjegbgdaaRiRingKeeps
import Derived.Test.YtjhoedcjegbgdaaPrRingKeeps
set_option linter.unusedVariables false
set_option linter.unusedSimpArgs false
set_option maxRecDepth 100000
set_option maxHeartbeats 4000000
namespace Go.Proofs.Ytjhoedcjegbgdaa.Ae
open Go Go.Proofs.Ytjhoedcjegbgdaa.Bits
attribute [local irreducible] Ret ACalls canW wrB writeM readM compB wordM roomD plc
section
variable {q mp n cap : Nat} {sq cq sb cb h t : Int} {a : Option Addr} {bs : List (List Int)} {L : List HA} {st : PH}
end
end Go.Proofs.Ytjhoedcjegbgdaa.Ae
