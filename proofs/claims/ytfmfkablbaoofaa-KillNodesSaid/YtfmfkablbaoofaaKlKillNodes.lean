/- Capabilities of one object, deleted one after another: plain laws for KillLast; for all that the lemmas name. -/
import Derived.Test.YtfmfkablbaoofaaKiKillNodes
set_option linter.unusedVariables false
set_option linter.unusedSimpArgs false
set_option linter.unusedSectionVars false
set_option maxRecDepth 100000
set_option maxHeartbeats 4000000
namespace Go.Proofs.Ytfmfkablbaoofaa.Ae
open Go Go.Proofs.Ytfmfkablbaoofaa.Bits
def kR (j : Nat) : SL := ⟨9, j, 4, 7, 0, j, ((j % 8 : Nat) : Int), 0, 0⟩
structure KT (S : List Nat) (T : List SL) : Prop where
  sorted : TSorted T
  sub : ∀ x ∈ T, ∃ j ∈ S, kR j = x
  all : ∀ j ∈ S, kR j ∈ T
  nodup : S.Nodup
  lt : ∀ j ∈ S, j < 12
section
variable {S : List Nat} {T : List SL} (h : KT S T) {k : Nat} (hk : k < S.length)
include h hk
end
end Go.Proofs.Ytfmfkablbaoofaa.Ae
