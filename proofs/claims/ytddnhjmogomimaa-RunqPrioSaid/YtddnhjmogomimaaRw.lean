/- Structs that lie one behind the other: one read whole; bytes made for a law; no condition beyond the ones that each theorem names. -/
import Derived.Test.YtddnhjmogomimaaSt
import Derived.Test.YtddnhjmogomimaaOw
set_option linter.unusedVariables false
set_option linter.unusedSimpArgs false
namespace Go.Proofs.Ytddnhjmogomimaa.Ae
open Go
theorem cellsAt_of {st : PH} {x : Addr} {l : List Value} (h0 : 0 < l.length) (h : ∀ j, j < l.length → st.cell? (x.add j) = l[j]?) : st.cellsAt x l.length = some l.toArray := by
  have k0 := h 0 h0
  rw [List.getElem?_eq_getElem h0, show x.add 0 = x from rfl] at k0
  unfold PH.cell? at k0
  unfold PH.cellsAt
  split at k0
  · rename_i c e f hb
    split at k0
    · cases k0
    · rename_i hs
      have hs : x.spot = none := by cases hx : x.spot with | none => rfl | some y => rw [hx] at hs; simp at hs
      have hc : ∀ j, j < l.length → c[x.off + j]? = l[j]? := by
        intro j hj
        have := h j hj
        rw [add_off x hs] at this
        unfold PH.cell? at this
        simp only [hb] at this
        simpa using this
      have hsz : x.off + l.length ≤ c.size := by
        have := hc (l.length - 1) (by omega)
        rw [List.getElem?_eq_getElem (by omega)] at this
        have := (Array.getElem?_eq_some_iff.1 this).1
        omega
      rw [hb]
      simp only
      rw [if_pos ⟨hs, hsz⟩]
      congr 1
      apply Array.ext'
      apply List.ext_getElem?
      intro j
      simp only [Array.toList_extract, List.extract_eq_take_drop]
      rw [List.getElem?_take]
      split
      · rename_i hj
        have hj' : j < l.length := by omega
        have := hc j hj'
        rw [List.getElem?_drop, Array.getElem?_toList, this]
      · rename_i hj
        rw [List.getElem?_eq_none (by omega)]
  · cases k0
theorem RowIn.read0 {c : Addr → Option Value} {k : IntKind} {a : Option Addr} {len : Nat} {l : List Int} (h : RowIn c k a len l) (h0 : 0 < len) : c (a.getD ⟨0, 0, none⟩) = Option.some (Value.int k (l.getD 0 0)) := h.read 0 h0
theorem rows_agg {st : PH} {ks : List (Option IntKind)} {a : Option Addr} {len n : Nat} {g : Nat → List Value} {vs : List Value} (h : RowsIn st.cell? ks a len g) {i : Nat} (hi : i < len) (hg : g i = vs) (hn : ks.length = n) (h0 : 0 < n) : st.cellsAt ((a.getD ⟨0, 0, none⟩).add (i * n)) n = some vs.toArray := by
  have hl := (h.typed i hi).length
  subst hn
  rw [hg] at hl
  have := cellsAt_of (st := st) (x := (a.getD ⟨0, 0, none⟩).add (i * ks.length)) (l := vs) (by omega) (fun j hj => by
    rw [add_add', h.read i hi j (by omega), hg])
  rw [hl] at this
  exact this
end Go.Proofs.Ytddnhjmogomimaa.Ae
