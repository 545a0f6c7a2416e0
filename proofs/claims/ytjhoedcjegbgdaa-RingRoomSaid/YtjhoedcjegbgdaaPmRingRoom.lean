/- Memory's contracts where it is known whether bytes are within; no condition beyond the ones that each theorem names. -/
import Derived.Test.YtjhoedcjegbgdaaPlRingRoom
set_option linter.unusedVariables false
set_option linter.unusedSimpArgs false
set_option maxRecDepth 100000
set_option maxHeartbeats 1000000
namespace Go.Proofs.Ytjhoedcjegbgdaa.Ae
open Go Go.Proofs.Ytjhoedcjegbgdaa.Bits
attribute [local irreducible] Ret ACalls
end Go.Proofs.Ytjhoedcjegbgdaa.Ae
