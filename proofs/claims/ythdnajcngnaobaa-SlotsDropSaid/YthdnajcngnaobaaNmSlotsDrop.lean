/- All that name one object: the program's table, and the table of the statement SlotsNamed; for all that the lemmas name. -/
import Derived.Test.YthdnajcngnaobaaSeSlotsDrop
import Derived.Test.YthdnajcngnaobaaLiSlotsDrop
set_option linter.unusedVariables false
set_option linter.unusedSimpArgs false
set_option maxRecDepth 100000
set_option maxHeartbeats 4000000
namespace Go.Proofs.Ythdnajcngnaobaa.Ae
open Go Go.Proofs.Ythdnajcngnaobaa.Bits
section
attribute [local irreducible] Ret ACalls
end
theorem tins_last {r : SL} : ∀ {T : List SL}, (∀ x ∈ T, slt x r) → tins r T = T ++ [r] := by
  intro T
  induction T with
  | nil => intro _; rfl
  | cons y T ih =>
    intro h
    unfold tins
    rw [if_pos (h y (List.mem_cons_self ..)), ih fun x hx => h x (List.mem_cons_of_mem _ hx)]
    rfl
end Go.Proofs.Ythdnajcngnaobaa.Ae
