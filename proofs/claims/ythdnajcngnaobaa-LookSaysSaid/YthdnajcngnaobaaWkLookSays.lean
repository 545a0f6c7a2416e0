/- Which numbers a kind has; a number stored into one's own slice. -/
import Derived.Test.YthdnajcngnaobaaOwLookSays
set_option linter.unusedVariables false
set_option linter.unusedSimpArgs false
namespace Go.Proofs.Ythdnajcngnaobaa.Ae
open Go Go.Proofs.Ythdnajcngnaobaa.Bits
theorem wf_u32i {x : Int} (h : (Lit.int .u32 x).wf = true) : 0 ≤ x ∧ x < 4294967296 := by
  simp only [Lit.wf, Bool.and_eq_true, decide_eq_true_eq] at h
  have h1 : 0 ≤ x ∧ x ≤ 4294967295 := h
  omega
end Go.Proofs.Ythdnajcngnaobaa.Ae
