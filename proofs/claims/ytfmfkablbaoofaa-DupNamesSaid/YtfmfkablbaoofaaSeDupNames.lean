/- The chapter's examples of slots; what a table of one says; for all that the lemmas name. -/
import Derived.Test.YtfmfkablbaoofaaKfDupNames
set_option linter.unusedVariables false
set_option linter.unusedSimpArgs false
set_option maxRecDepth 100000
set_option maxHeartbeats 4000000
namespace Go.Proofs.Ytfmfkablbaoofaa.Ae
open Go Go.Proofs.Ytfmfkablbaoofaa.Bits
theorem sat_pick4 {A B C D : HA} {L L1 L2 L3 L4 : List HA} (p1 : Pick A L L1) (p2 : Pick B L1 L2) (p3 : Pick C L2 L3) (p4 : Pick D L3 L4) {h : PH} (s : Sat L h) : Sat (A :: B :: C :: D :: L4) h := sat_tail (fun _ => sat_pick3 p2 p3 p4) (sat_pick p1 s)
theorem sat_quad {A B C D : HA} {L : List HA} {s : PH} (h : Sat (A :: B :: C :: D :: L) s) : Sat (Sat [A, B, C, D] :: L) s := sat_app.2 h
theorem tput_can {T : List SL} {r : SL} (h : canPut T r = true) : tput T r = tins r T := by unfold tput; rw [h]; rfl
theorem tput_nil {r : SL} (h : canPut [] r = true) : tput [] r = [r] := by rw [tput_can h]; rfl
section
attribute [local irreducible] Ret ACalls tput tins tget canPut
end
end Go.Proofs.Ytfmfkablbaoofaa.Ae
