/- What append does to a slice of one's own; no condition beyond the ones that the theorem names. -/
import Derived.Test.YtjhoedcjegbgdaaAkRingKeeps
set_option linter.unusedVariables false
set_option linter.unusedSimpArgs false
namespace Go.Proofs.Ytjhoedcjegbgdaa.Ae
open Go
/-- Some cells lie there. -/
def Reads (st : PH) (a : Option Addr) (l : List Value) : Prop := l = [] ∨ ∃ x, a = some x ∧ ∀ i, i < l.length → st.cell? (x.add i) = l[i]?
theorem Reads.lies {T S : PH} {a : Option Addr} {l : List Value} (h : Reads T a l) (e : Lies T S) : Reads S a l := by
  rcases h with h | ⟨x, hx, hr⟩
  · exact .inl h
  · refine .inr ⟨x, hx, fun i hi => ?_⟩
    have := hr i hi
    rw [List.getElem?_eq_getElem hi] at this ⊢
    exact cell_lies e this
theorem awp_loadCells {P : Program} {st : PH} {x : Addr} {Q : Array Value → PH → Prop} : ∀ (l : List Value) (i : Nat) (acc : Array Value), (∀ j, j < l.length → st.cell? (x.add (i + j)) = l[j]?) → Q (acc ++ l.toArray) st → awp P (loadCellsFrom x i l.length acc) st Q := by
  intro l
  induction l with
  | nil => intro i acc _ h; rw [show acc ++ ([] : List Value).toArray = acc by simp] at h; exact h
  | cons v l ih =>
    intro i acc hr h
    unfold loadCellsFrom
    simp only [List.length_cons]
    rw [awp_bind]
    refine ⟨v, by simpa using hr 0 (by simp), ?_⟩
    refine ih (i + 1) _ (fun j hj => ?_) ?_
    · have := hr (j + 1) (by simp; omega)
      rw [show i + 1 + j = i + (j + 1) by omega, this]; simp
    · have e : acc.push v ++ l.toArray = acc ++ (v :: l).toArray := by apply Array.ext'; simp
      rw [e]; exact h
theorem growBy_le (n : Nat) : ∀ k c, Builtin.growBy n k c ≤ max c (2 * n + 768) := by
  intro k
  induction k with
  | zero => intro c; exact Nat.le_max_left ..
  | succ k ih =>
    intro c
    unfold Builtin.growBy
    split
    · exact Nat.le_max_left ..
    · have := ih (c + (c + 768) / 4)
      omega
theorem nextcap_le {n c : Nat} (h : c < n) : Builtin.nextslicecap n c ≤ 2 * n + 768 := by
  unfold Builtin.nextslicecap
  have := growBy_le n 4 c
  split
  · omega
  · split <;> omega
theorem first_cells {P : Program} {st : PH} (a : Option Addr) (n c : Nat) (l : List Value) (Q : Array Value → PH → Prop) (hr : Reads st a l) (q : Q l.toArray st) : awp P (Builtin.firstCells 1 l.length (.slice a n c)) st Q := by
  rcases hr with rfl | ⟨y, rfl, hy⟩
  · cases a with
    | none => exact q
    | some y => exact q
  · show awp P (loadCellsFrom y 0 (l.length * 1) #[]) st Q
    rw [Nat.mul_one]
    exact awp_loadCells l 0 #[] (fun j hj => by rw [Nat.zero_add]; exact hy j hj) (by simpa using q)
/-- Cells are copied. -/
theorem semK_copy {P : Program} {t t2 e : TypeId} {st : PH} {K : Value → PH → Prop} {a : Addr} {xb : Option Addr} {dLen dCap n xc : Nat} {new : List Value} {c : Array Value} {e' : TypeId} (he : tslice P t = some e) (hk : tok P e = true) (hsz : tsz P e = 1)
    (hl : new.length = Nat.min n dLen) (hx : Reads st xb new) (hn : new.all Value.oneCell = true) (hb : st a.block = some (.cells c e' (0, 0))) (hs : a.spot = none) (hc : a.off + new.length ≤ c.size)
    (h : K (.int .i64 new.length) (st.upd a.block (.cells (spl c a.off new) e' (0, 0)))) : SemK P (Builtin.copy_ [t, t2].toArray 0 [.slice (some a) dLen dCap, .slice xb n xc].toArray) st K := by
  refine swp_of_awp ?_
  unfold Builtin.copy_
  show awp P (underlying t >>= _) st K
  rw [awp_bind, awp_underlying (tslice_und he)]
  show awp P (Builtin.lenOf (.slice xb n xc) >>= _) st K
  rw [awp_bind]
  show awp P (sizeOf e >>= _) st K
  rw [awp_bind, awp_sizeOf hk, hsz]
  show awp P (Builtin.firstCells 1 (Nat.min n dLen) (.slice xb n xc) >>= _) st K
  rw [awp_bind, ← hl]
  refine first_cells xb n xc new _ hx ?_
  show awp P (storeCells a new >>= _) st K
  rw [awp_bind]
  refine storeCells_ok hs new 0 st c hb (by simpa using hc) hn ?_
  exact h
end Go.Proofs.Ytjhoedcjegbgdaa.Ae
