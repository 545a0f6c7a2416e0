/- Slices of one's own whose elements have several cells; no condition beyond the ones that each theorem names. -/
import Derived.Test.YthdnajcngnaobaaOwLookGuards
set_option linter.unusedVariables false
set_option linter.unusedSimpArgs false
namespace Go.Proofs.Ythdnajcngnaobaa.Ae
open Go
def fl {α : Type} (f : α → List Value) (l : List α) : List Value := l.flatMap f
section
variable {α : Type} {f : α → List Value} {sz : Nat}
variable (hf : ∀ x, (f x).length = sz)
include hf
end
end Go.Proofs.Ythdnajcngnaobaa.Ae
