/- What the program's addr.Step returns; for all capabilities and numbers. -/
import Derived.Test.YtfmfkablbaoofaaTyKillNodes
import Derived.Test.YtfmfkablbaoofaaAkKillNodes
import Derived.Test.YtfmfkablbaoofaaBitsKillNodes
import Derived.Test.YtfmfkablbaoofaaCnKillNodes
import Derived.Test.YtfmfkablbaoofaaCcKillNodes
set_option linter.unusedVariables false
set_option linter.unusedSimpArgs false
set_option maxRecDepth 100000
namespace Go.Proofs.Ytfmfkablbaoofaa.Ae
open Go Go.Proofs.Ytfmfkablbaoofaa.Bits
def StepOK (k o s b r v d : Int) : Prop := k = 2 ∧ capOK 2 o s b r = true ∧ (0 ≤ d ∧ d ≤ 24 ∧ 0 ≤ v ∧ v < 2 ^ d.toNat) ∧ s + 4 ≤ d ∧ v / 2 ^ (d - s).toNat = b
end Go.Proofs.Ytfmfkablbaoofaa.Ae
