/- What append does to a slice of one's own; no condition beyond the ones that the theorem names. -/
import Derived.Test.YtfmfkablbaoofaaAkKillNodes
set_option linter.unusedVariables false
set_option linter.unusedSimpArgs false
namespace Go.Proofs.Ytfmfkablbaoofaa.Ae
open Go
/-- Some cells lie there. -/
def Reads (st : PH) (a : Option Addr) (l : List Value) : Prop := l = [] ∨ ∃ x, a = some x ∧ ∀ i, i < l.length → st.cell? (x.add i) = l[i]?
theorem Reads.lies {T S : PH} {a : Option Addr} {l : List Value} (h : Reads T a l) (e : Lies T S) : Reads S a l := by
  rcases h with h | ⟨x, hx, hr⟩
  · exact .inl h
  · refine .inr ⟨x, hx, fun i hi => ?_⟩
    have := hr i hi
    rw [List.getElem?_eq_getElem hi] at this ⊢
    exact cell_lies e this
theorem awp_loadCells {P : Program} {st : PH} {x : Addr} {Q : Array Value → PH → Prop} : ∀ (l : List Value) (i : Nat) (acc : Array Value), (∀ j, j < l.length → st.cell? (x.add (i + j)) = l[j]?) → Q (acc ++ l.toArray) st → awp P (loadCellsFrom x i l.length acc) st Q := by
  intro l
  induction l with
  | nil => intro i acc _ h; rw [show acc ++ ([] : List Value).toArray = acc by simp] at h; exact h
  | cons v l ih =>
    intro i acc hr h
    unfold loadCellsFrom
    simp only [List.length_cons]
    rw [awp_bind]
    refine ⟨v, by simpa using hr 0 (by simp), ?_⟩
    refine ih (i + 1) _ (fun j hj => ?_) ?_
    · have := hr (j + 1) (by simp; omega)
      rw [show i + 1 + j = i + (j + 1) by omega, this]; simp
    · have e : acc.push v ++ l.toArray = acc ++ (v :: l).toArray := by apply Array.ext'; simp
      rw [e]; exact h
theorem growBy_le (n : Nat) : ∀ k c, Builtin.growBy n k c ≤ max c (2 * n + 768) := by
  intro k
  induction k with
  | zero => intro c; exact Nat.le_max_left ..
  | succ k ih =>
    intro c
    unfold Builtin.growBy
    split
    · exact Nat.le_max_left ..
    · have := ih (c + (c + 768) / 4)
      omega
theorem nextcap_le {n c : Nat} (h : c < n) : Builtin.nextslicecap n c ≤ 2 * n + 768 := by
  unfold Builtin.nextslicecap
  have := growBy_le n 4 c
  split
  · omega
  · split <;> omega
end Go.Proofs.Ytfmfkablbaoofaa.Ae
