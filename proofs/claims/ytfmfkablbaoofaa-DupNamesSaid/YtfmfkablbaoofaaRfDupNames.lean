/- Ranges over functions: the rules of the walk for an iterator that asks for rounds, for a round's body, for the statement, for the function that holds it; no condition beyond the ones that each theorem names. -/
import Derived.Test.YtfmfkablbaoofaaFmDupNames
import Derived.RangeFuncRecord
import Derived.TacticsIn
import Derived.OwnWalkIn
import Derived.RangeFuncCalls
set_option linter.unusedVariables false
set_option linter.unusedSimpArgs false
set_option maxRecDepth 100000
set_option maxHeartbeats 1000000
namespace Go.Proofs.Ytfmfkablbaoofaa.Ae
open Go Go.Proofs.Ytfmfkablbaoofaa.Bits
/-! ### operations at a fence that lets all in -/
/-! ### a round -/
/-- A call of yield: the round is run, and it comes back. -/
def AYield (P : Program) (l : Nat) (args : Array Value) (st : PH) (R : Value → PH → Prop) : Prop :=
  ∀ w, Sub st w → ∃ fn tmps assign body, (Instr.yield l args).run P w = .ok (.round l fn tmps assign body) w ∧ RoundIn Fence.wide 0 P l fn tmps assign body w fun e w' => ∃ v st', e = .returned v ∧ R v st' ∧ Next st w st' w'
theorem AYield.mono {P : Program} {l : Nat} {args : Array Value} {st : PH} {R R' : Value → PH → Prop} (h : AYield P l args st R) (k : ∀ v st', R v st' → R' v st') : AYield P l args st R' := by
  intro w hs
  obtain ⟨fn, tmps, assign, body, hy, hR⟩ := h w hs
  exact ⟨fn, tmps, assign, body, hy, hR.mono fun e w' ⟨v, st', e1, r, n⟩ => ⟨v, st', e1, k _ _ r, n⟩⟩
/-! ### code by its parts -/
/-! ### the statement -/
/-! ### a round's contract -/
/-! ### the function that holds the statement -/
end Go.Proofs.Ytfmfkablbaoofaa.Ae
