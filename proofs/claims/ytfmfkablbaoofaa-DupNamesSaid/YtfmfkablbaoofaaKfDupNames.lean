/- The keys of a map of slots, one by one; gathered; sorted: all places of a table; no condition beyond the ones that each theorem names. -/
import Derived.Test.YtfmfkablbaoofaaRfDupNames
import Derived.Test.YtfmfkablbaoofaaDbDupNames
set_option linter.unusedVariables false
set_option linter.unusedSimpArgs false
set_option maxRecDepth 100000
set_option maxHeartbeats 4000000
namespace Go.Proofs.Ytfmfkablbaoofaa.Ae
open Go Go.Proofs.Ytfmfkablbaoofaa.Bits
attribute [local irreducible] Ret ACalls AYield
section
variable {q : Nat} {T : List SL} {L : List HA} {st : PH}
end
end Go.Proofs.Ytfmfkablbaoofaa.Ae
