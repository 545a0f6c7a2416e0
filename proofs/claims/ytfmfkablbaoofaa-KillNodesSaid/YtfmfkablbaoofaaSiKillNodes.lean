/- The document's equality of lists of numbers; for all such slices. -/
import Derived.Test.YtfmfkablbaoofaaFmKillNodes
import Derived.Test.YtfmfkablbaoofaaTzKillNodes
import Derived.Test.YtfmfkablbaoofaaSzKillNodes
set_option linter.unusedVariables false
set_option linter.unusedSimpArgs false
set_option maxRecDepth 100000
set_option maxHeartbeats 1000000
namespace Go.Proofs.Ytfmfkablbaoofaa.Ae
open Go Go.Proofs.Ytfmfkablbaoofaa.Bits
attribute [local irreducible] Ret ACalls
end Go.Proofs.Ytfmfkablbaoofaa.Ae
