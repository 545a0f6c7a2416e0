/- The way to a slot: plain laws for the statements of chapter 6; for all that the lemmas name. -/
import Derived.Test.YthdnajcngnaobaaLfLookWays
set_option linter.unusedVariables false
set_option linter.unusedSimpArgs false
set_option maxRecDepth 100000
set_option maxHeartbeats 4000000
namespace Go.Proofs.Ythdnajcngnaobaa.Ae
open Go Go.Proofs.Ythdnajcngnaobaa.Bits
def deepX (s : Int) : SL := ⟨3, s, 2, 3, 0, 0, 7, 0, 0⟩
def deepV (s : Int) : Nat → Int
  | 0 => 0
  | i + 1 => deepV s i * 16 + s
def DeepOK (s n : Nat) : Prop := lookF (tput [] (deepX (s : Nat))) (rootN 3) (deepV (s : Nat) n % 16777216 * 256 + (4 * (n : Nat) : Int) % 256) = ((3, (s : Int)), 0)
    ∧ (lookF (tput [] (deepX (s : Nat))) (rootN 3) (deepV (s : Nat) n % 16777216 * 256 + (4 * (n : Nat) + 1 : Int) % 256)).2 = 2
    ∧ (lookC (tput [] (deepX (s : Nat))) (rootN 3) (deepV (s : Nat) n % 16777216 * 256 + (4 * (n : Nat) : Int) % 256) 2).1.o = 3
    ∧ (lookC (tput [] (deepX (s : Nat))) (rootN 3) (deepV (s : Nat) n % 16777216 * 256 + (4 * (n : Nat) : Int) % 256) 2).2 = ((3, (s : Int)), 0)
instance (s n : Nat) : Decidable (DeepOK s n) := by unfold DeepOK; infer_instance
theorem bor_four {x y : Int} (h0 : 0 ≤ x) (h1 : x < 72057594037927936) (h2 : 0 ≤ y) (h3 : y < 16) : bor .i64 (sl .i64 x 4) y = x * 16 + y := by
  have e : sl .i64 x 4 = x * 16 := by
    rw [sl_def]
    exact i64_id (by rw [show (2 : Int) ^ min (4 : Int).toNat IntKind.i64.bits = 16 from rfl]; omega) (by rw [show (2 : Int) ^ min (4 : Int).toNat IntKind.i64.bits = 16 from rfl]; omega)
  rw [e, bor_def]
  exact or64_join (x * 16) y 4 (by omega) (by omega) (by omega) h2 (by omega) (by decide)
end Go.Proofs.Ythdnajcngnaobaa.Ae
