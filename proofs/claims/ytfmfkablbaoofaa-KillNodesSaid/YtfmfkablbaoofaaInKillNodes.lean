/- What the document's copy of numbers returns; for all such slices. -/
import Derived.Test.YtfmfkablbaoofaaSiKillNodes
set_option linter.unusedVariables false
set_option linter.unusedSimpArgs false
set_option maxRecDepth 100000
set_option maxHeartbeats 4000000
namespace Go.Proofs.Ytfmfkablbaoofaa.Ae
open Go Go.Proofs.Ytfmfkablbaoofaa.Bits
attribute [local irreducible] Ret ACalls
end Go.Proofs.Ytfmfkablbaoofaa.Ae
