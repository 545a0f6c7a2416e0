/- Rings: what the document's ring does with what waits; no condition beyond the ones that each theorem names. -/
import Derived.Test.YtjhoedcjegbgdaaRkRingKeeps
import Derived.Test.YtjhoedcjegbgdaaTzRingKeeps
set_option linter.unusedVariables false
set_option linter.unusedSimpArgs false
set_option maxRecDepth 100000
set_option maxHeartbeats 4000000
namespace Go.Proofs.Ytjhoedcjegbgdaa.Ae
open Go Go.Proofs.Ytjhoedcjegbgdaa.Bits
attribute [local irreducible] Ret ACalls canW wrB writeM readM compB wordM roomD plc
/-- Rows of four cells, read one by one. -/
def AggIn (st : PH) (a : Option Addr) (n : Nat) (l : List C4) : Prop := l.length = n ∧ n ≤ 1000000 ∧ (0 < n → a.isSome = true) ∧ ∀ i, i < n → st.cellsAt ((a.getD ⟨0, 0, none⟩).add (i * 4)) 4 = some (c4 (l.getD i c4d)).toArray
theorem cellsAt_lies {S T : PH} (h : Lies S T) {x : Addr} {n : Nat} {cs : Array Value} (hc : S.cellsAt x n = some cs) : T.cellsAt x n = some cs := by
  obtain ⟨b, o, s⟩ := x
  cases s with
  | none =>
    rw [cellsAt_lit] at hc ⊢
    cases e : S b with
    | none => rw [e] at hc; cases hc
    | some ob => rw [h b ob e]; rw [e] at hc; exact hc
  | some s =>
    unfold PH.cellsAt at hc ⊢
    cases e : S b with
    | none => simp only [e] at hc; cases hc
    | some ob => simp only [h b ob e]; simp only [e] at hc; exact hc
theorem AggIn.lies {S T : PH} {a : Option Addr} {n : Nat} {l : List C4} (h : Lies S T) (k : AggIn S a n l) : AggIn T a n l := ⟨k.1, k.2.1, k.2.2.1, fun i hi => cellsAt_lies h (k.2.2.2 i hi)⟩
abbrev DR := RA 82 70
section
variable {q mp : Nat} {sq cq sb cb h t : Int} {bs : List (List Int)} {ov : List C4} {L : List HA} {st : PH}
end
end Go.Proofs.Ytjhoedcjegbgdaa.Ae
