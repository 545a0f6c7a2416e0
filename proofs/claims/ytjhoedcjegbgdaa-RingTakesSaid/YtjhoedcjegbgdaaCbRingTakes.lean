/- Plain laws of completions as bytes; no program. -/
import Derived.Test.YtjhoedcjegbgdaaCpRingTakes
set_option linter.unusedVariables false
set_option linter.unusedSimpArgs false
namespace Go.Proofs.Ytjhoedcjegbgdaa.Ae
open Go Go.Proofs.Ytjhoedcjegbgdaa.Bits
theorem gN4_lt {l : List Int} (hw : Wf .u8 l) (len : Nat) (hl : l.length = len) (p : Int) : 0 ≤ gN l len p 4 ∧ gN l len p 4 < 4294967296 := by
  have := gN_wf hw len (by omega) p 4
  exact this
end Go.Proofs.Ytjhoedcjegbgdaa.Ae
