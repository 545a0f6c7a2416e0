/- Plain laws of completions as bytes; no program. -/
import Derived.Test.YtjhoedcjegbgdaaCpRingKeeps
set_option linter.unusedVariables false
set_option linter.unusedSimpArgs false
namespace Go.Proofs.Ytjhoedcjegbgdaa.Ae
open Go Go.Proofs.Ytjhoedcjegbgdaa.Bits
theorem compL_at {t r v q : Int} (ht : 0 ≤ t ∧ t < 4294967296) (hr : 0 ≤ r ∧ r < 4294967296) (hv : 0 ≤ v ∧ v < 4294967296) (hq : 0 ≤ q ∧ q < 4294967296) :
    gN (compL t r v q) 16 0 4 = t ∧ gN (compL t r v q) 16 4 4 = r ∧ gN (compL t r v q) 16 8 4 = v ∧ gN (compL t r v q) 16 12 4 = q := by
  have l0 : (zer 16).length = 16 := zer_length 16
  have l1 : (putL (zer 16) 0 t 4).length = 16 := by rw [putL_length]; exact l0
  have l2 : (putL (putL (zer 16) 0 t 4) 4 r 4).length = 16 := by rw [putL_length]; exact l1
  have l3 : (putL (putL (putL (zer 16) 0 t 4) 4 r 4) 8 v 4).length = 16 := by rw [putL_length]; exact l2
  have put : ∀ (l : List Int) (p n : Int), l.length = 16 → 0 ≤ p → p + 4 ≤ 16 → 0 ≤ n ∧ n < 4294967296 → gN (putL l p n 4) 16 p 4 = n := by
    intro l p n hl h0 h1 hn
    rw [gN_put' l 16 hl p n 4 0 4 p (by omega) h0 (by omega) (by omega)]
    show n / 1 % 4294967296 = n
    omega
  unfold compL
  refine ⟨?_, ?_, ?_, ?_⟩
  · rw [gN_put_off' _ _ l3 _ _ _ _ _ (by omega), gN_put_off' _ _ l2 _ _ _ _ _ (by omega), gN_put_off' _ _ l1 _ _ _ _ _ (by omega), put _ _ _ l0 (by omega) (by omega) ht]
  · rw [gN_put_off' _ _ l3 _ _ _ _ _ (by omega), gN_put_off' _ _ l2 _ _ _ _ _ (by omega), put _ _ _ l1 (by omega) (by omega) hr]
  · rw [gN_put_off' _ _ l3 _ _ _ _ _ (by omega), put _ _ _ l2 (by omega) (by omega) hv]
  · rw [put _ _ _ l3 (by omega) (by omega) hq]
end Go.Proofs.Ytjhoedcjegbgdaa.Ae
