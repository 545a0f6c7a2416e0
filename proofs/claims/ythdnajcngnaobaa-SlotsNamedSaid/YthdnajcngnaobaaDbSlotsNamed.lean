/- Slots: all that is below a place: the program's table; no condition beyond the ones that each theorem names. -/
import Derived.Test.YthdnajcngnaobaaDxSlotsNamed
set_option linter.unusedVariables false
set_option linter.unusedSimpArgs false
set_option maxRecDepth 100000
set_option maxHeartbeats 4000000
namespace Go.Proofs.Ythdnajcngnaobaa.Ae
open Go Go.Proofs.Ythdnajcngnaobaa.Bits
attribute [local irreducible] Ret ACalls
section
variable {q : Nat} {T : List SL} {L : List HA} {st : PH}
end
end Go.Proofs.Ythdnajcngnaobaa.Ae
