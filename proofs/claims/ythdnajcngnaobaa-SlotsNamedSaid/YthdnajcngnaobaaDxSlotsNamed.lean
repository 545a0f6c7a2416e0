/- Slots: those below a place turned to another parent, dropped, moved: the program's table; no condition beyond the ones that each theorem names. -/
import Derived.Test.YthdnajcngnaobaaDwSlotsNamed
import Derived.Test.YthdnajcngnaobaaCdSlotsNamed
set_option linter.unusedVariables false
set_option linter.unusedSimpArgs false
set_option maxRecDepth 100000
set_option maxHeartbeats 4000000
namespace Go.Proofs.Ythdnajcngnaobaa.Ae
open Go Go.Proofs.Ythdnajcngnaobaa.Bits
attribute [local irreducible] Ret ACalls
section
variable {q : Nat} {T : List SL} {L : List HA} {st : PH}
theorem isSome_none {α : Type} {o : Option α} (h : o.isSome = false) : o = none := by cases o with
  | none => rfl
  | some _ => cases h
end
end Go.Proofs.Ythdnajcngnaobaa.Ae
