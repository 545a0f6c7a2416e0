/- Copied, minted, moved: what the program's dup returns and leaves; no condition beyond the ones that each theorem names. -/
import Derived.Test.YtfmfkablbaoofaaSeKillSelf
set_option linter.unusedVariables false
set_option linter.unusedSimpArgs false
set_option maxRecDepth 100000
set_option maxHeartbeats 8000000
namespace Go.Proofs.Ytfmfkablbaoofaa.Ae
open Go Go.Proofs.Ytfmfkablbaoofaa.Bits
attribute [local irreducible] Ret ACalls tput tins tget canPut tkill
theorem sat_trio {A B C : HA} {L : List HA} {s : PH} (h : Sat (A :: B :: C :: L) s) : Sat (Sat [A, B, C] :: L) s := sat_app.2 h
section
variable {q : Nat} {T : List SL} {L : List HA} {st : PH}
def dless (r n : Int) : Int := ban .i64 r (ban .i64 n 7)
end
end Go.Proofs.Ytfmfkablbaoofaa.Ae
