/- Slots: all that is below a place: the program's table; no condition beyond the ones that each theorem names. -/
import Derived.Test.YtfmfkablbaoofaaDxDupErrors
set_option linter.unusedVariables false
set_option linter.unusedSimpArgs false
set_option maxRecDepth 100000
set_option maxHeartbeats 4000000
namespace Go.Proofs.Ytfmfkablbaoofaa.Ae
open Go Go.Proofs.Ytfmfkablbaoofaa.Bits
attribute [local irreducible] Ret ACalls
section
variable {q : Nat} {T : List SL} {L : List HA} {st : PH}
end
end Go.Proofs.Ytfmfkablbaoofaa.Ae
