/- Completions as bytes: what the program's and the document's Bytes, Read, Of return. -/
import Derived.Test.YtjhoedcjegbgdaaWnRingTakes
set_option linter.unusedVariables false
set_option linter.unusedSimpArgs false
set_option maxRecDepth 100000
set_option maxHeartbeats 4000000
namespace Go.Proofs.Ytjhoedcjegbgdaa.Ae
open Go Go.Proofs.Ytjhoedcjegbgdaa.Bits
theorem zero_wf8 : (Lit.int .u8 0).wf = true := by rw [wf_u8]; omega
theorem rep_wf8 (n : Nat) : Wf .u8 (zer n) := wf_rep zero_wf8
end Go.Proofs.Ytjhoedcjegbgdaa.Ae
