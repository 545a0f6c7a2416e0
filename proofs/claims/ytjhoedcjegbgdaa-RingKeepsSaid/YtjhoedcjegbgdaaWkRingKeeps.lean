/- Which numbers a kind has; a number stored into one's own slice. -/
import Derived.Test.YtjhoedcjegbgdaaOwRingKeeps
set_option linter.unusedVariables false
set_option linter.unusedSimpArgs false
namespace Go.Proofs.Ytjhoedcjegbgdaa.Ae
open Go Go.Proofs.Ytjhoedcjegbgdaa.Bits
theorem wf_u8 {x : Int} : (Lit.int .u8 x).wf = true ↔ 0 ≤ x ∧ x < 256 := by
  simp only [Lit.wf, Bool.and_eq_true, decide_eq_true_eq]
  show 0 ≤ x ∧ x ≤ 255 ↔ _
  omega
end Go.Proofs.Ytjhoedcjegbgdaa.Ae
