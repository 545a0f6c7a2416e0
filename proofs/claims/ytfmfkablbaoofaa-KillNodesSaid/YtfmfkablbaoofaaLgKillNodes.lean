/- The way to a slot: plain laws for the statements of chapter 6; for all that the lemmas name. -/
import Derived.Test.YtfmfkablbaoofaaLfKillNodes
set_option linter.unusedVariables false
set_option linter.unusedSimpArgs false
set_option maxRecDepth 100000
set_option maxHeartbeats 4000000
namespace Go.Proofs.Ytfmfkablbaoofaa.Ae
open Go Go.Proofs.Ytfmfkablbaoofaa.Bits
def deepX (s : Int) : SL := ⟨3, s, 2, 3, 0, 0, 7, 0, 0⟩
def deepV (s : Int) : Nat → Int
  | 0 => 0
  | i + 1 => deepV s i * 16 + s
def DeepOK (s n : Nat) : Prop := lookF (tput [] (deepX (s : Nat))) (rootN 3) (deepV (s : Nat) n % 16777216 * 256 + (4 * (n : Nat) : Int) % 256) = ((3, (s : Int)), 0)
    ∧ (lookF (tput [] (deepX (s : Nat))) (rootN 3) (deepV (s : Nat) n % 16777216 * 256 + (4 * (n : Nat) + 1 : Int) % 256)).2 = 2
    ∧ (lookC (tput [] (deepX (s : Nat))) (rootN 3) (deepV (s : Nat) n % 16777216 * 256 + (4 * (n : Nat) : Int) % 256) 2).1.o = 3
    ∧ (lookC (tput [] (deepX (s : Nat))) (rootN 3) (deepV (s : Nat) n % 16777216 * 256 + (4 * (n : Nat) : Int) % 256) 2).2 = ((3, (s : Int)), 0)
instance (s n : Nat) : Decidable (DeepOK s n) := by unfold DeepOK; infer_instance
end Go.Proofs.Ytfmfkablbaoofaa.Ae
