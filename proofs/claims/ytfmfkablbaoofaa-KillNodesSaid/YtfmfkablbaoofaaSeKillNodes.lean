/- The chapter's examples of slots; what a table of one says; for all that the lemmas name. -/
import Derived.Test.YtfmfkablbaoofaaKfKillNodes
set_option linter.unusedVariables false
set_option linter.unusedSimpArgs false
set_option maxRecDepth 100000
set_option maxHeartbeats 4000000
namespace Go.Proofs.Ytfmfkablbaoofaa.Ae
open Go Go.Proofs.Ytfmfkablbaoofaa.Bits
theorem tput_can {T : List SL} {r : SL} (h : canPut T r = true) : tput T r = tins r T := by unfold tput; rw [h]; rfl
theorem tput_nil {r : SL} (h : canPut [] r = true) : tput [] r = [r] := by rw [tput_can h]; rfl
section
attribute [local irreducible] Ret ACalls tput tins tget canPut
end
end Go.Proofs.Ytfmfkablbaoofaa.Ae
