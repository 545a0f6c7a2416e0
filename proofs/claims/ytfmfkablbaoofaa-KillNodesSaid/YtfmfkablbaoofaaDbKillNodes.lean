/- Slots: all that is below a place: the program's table; no condition beyond the ones that each theorem names. -/
import Derived.Test.YtfmfkablbaoofaaDxKillNodes
set_option linter.unusedVariables false
set_option linter.unusedSimpArgs false
set_option maxRecDepth 100000
set_option maxHeartbeats 4000000
namespace Go.Proofs.Ytfmfkablbaoofaa.Ae
open Go Go.Proofs.Ytfmfkablbaoofaa.Bits
attribute [local irreducible] Ret ACalls
theorem pl_one (l : List (Int × Int)) : (fl pcV l).all Value.oneCell = true := by
  rw [List.all_eq_true]
  intro v hv
  unfold fl at hv
  obtain ⟨x, _, hx⟩ := List.mem_flatMap.1 hv
  simp only [pcV, List.mem_cons, List.not_mem_nil, or_false] at hx
  rcases hx with rfl | rfl <;> rfl
section
variable {q : Nat} {T : List SL} {L : List HA} {st : PH}
end
end Go.Proofs.Ytfmfkablbaoofaa.Ae
