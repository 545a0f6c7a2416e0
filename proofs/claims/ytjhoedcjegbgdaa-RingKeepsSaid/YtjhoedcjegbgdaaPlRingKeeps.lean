/- Chapter 2's laws: bytes made for them, the examples; plain laws of memory. -/
import Derived.Test.YtjhoedcjegbgdaaPrRingKeeps
import Derived.Test.YtjhoedcjegbgdaaStRingKeeps
import Derived.Test.YtjhoedcjegbgdaaOwRingKeeps
import Derived.Test.YtjhoedcjegbgdaaWkRingKeeps
set_option linter.unusedVariables false
set_option linter.unusedSimpArgs false
set_option maxRecDepth 100000
set_option maxHeartbeats 1000000
namespace Go.Proofs.Ytjhoedcjegbgdaa.Ae
open Go Go.Proofs.Ytjhoedcjegbgdaa.Bits
attribute [local irreducible] Ret ACalls
/-! ### plain laws -/
theorem unitAt_write {bs : List (List Int)} {u o : Int} {l : List Int} (h : inU bs.length u o l.length) : unitAt (writeM bs u o l) u = lay (unitAt bs u) o.toNat l := by
  obtain ⟨h1, h2, _⟩ := id h
  unfold writeM
  rw [if_pos h]
  simp only [unitAt, List.getD_eq_getElem?_getD, List.getElem?_set]
  rw [if_true, if_pos (by omega)]; rfl
theorem unitAt_write_ne {bs : List (List Int)} {u v o : Int} {l : List Int} (hv : 1 ≤ v) (h : u ≠ v) : unitAt (writeM bs u o l) v = unitAt bs v := by
  unfold writeM
  split
  · rename_i hi
    obtain ⟨h1, h2, _⟩ := hi
    simp only [unitAt, List.getD_eq_getElem?_getD, List.getElem?_set]
    rw [if_neg (by omega)]
  · rfl
theorem newM_length (n : Int) : (newM n).length = newU n := by unfold newM; simp
theorem newM_ok (n : Int) : UnitsOK (newM n) := unitsOK_rep _
theorem unitAt_new {n u : Int} (h1 : 1 ≤ u) (h2 : u ≤ newU n) : unitAt (newM n) u = zer 512 := by
  unfold newM unitAt
  rw [List.getD_eq_getElem?_getD, List.getElem?_replicate, if_pos (by omega)]; rfl
theorem readM_zer {bs : List (List Int)} {u o m : Int} (h : inU bs.length u o m) (hz : unitAt bs u = zer 512) : readM bs u o m = zer m.toNat := by
  obtain ⟨h1, h2, h3, h4, h5, h6⟩ := id h
  unfold readM
  rw [if_pos h, hz]
  unfold zer
  rw [List.drop_replicate, List.take_replicate]
  congr 1; omega
end Go.Proofs.Ytjhoedcjegbgdaa.Ae
