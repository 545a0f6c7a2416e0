/- Which numbers a kind has; a number stored into one's own slice. -/
import Derived.Test.YtddnhjmogomimaaOw
set_option linter.unusedVariables false
set_option linter.unusedSimpArgs false
namespace Go.Proofs.Ytddnhjmogomimaa.Ae
open Go Go.Proofs.Ytddnhjmogomimaa.Bits
theorem wf_i64 {x : Int} (h : (Lit.int .i64 x).wf = true) : -9223372036854775808 ≤ x ∧ x ≤ 9223372036854775807 := by
  simp only [Lit.wf, Bool.and_eq_true, decide_eq_true_eq] at h
  exact h
theorem wf_u8 {x : Int} : (Lit.int .u8 x).wf = true ↔ 0 ≤ x ∧ x < 256 := by
  simp only [Lit.wf, Bool.and_eq_true, decide_eq_true_eq]
  show 0 ≤ x ∧ x ≤ 255 ↔ _
  omega
theorem wf_u32i {x : Int} (h : (Lit.int .u32 x).wf = true) : 0 ≤ x ∧ x < 4294967296 := by
  simp only [Lit.wf, Bool.and_eq_true, decide_eq_true_eq] at h
  have h1 : 0 ≤ x ∧ x ≤ 4294967295 := h
  omega
/-- A number stored into one's own slice. -/
theorem st_ints {P : Program} {st : PH} {K : FR → PH → Prop} {d : Option Tmp} {F : FR} {L L' : List HA} {a : Option Addr} {off m cap : Nat} {e : TypeId} {k : IntKind} {l : List Int} {v : Int} (hS : Sat L st) (p : Pick (SlB a m cap e 1 (ints k l)) L L') (hoff : off < l.length)
    (h : ∀ s, Sat (SlB a m cap e 1 (ints k (l.set off v)) :: L') s → K (put F d undef) s) : cont P st K d F (storeD ((a.getD ⟨0, 0, none⟩).add off) [.int k v] st) := by
  refine st_slb hS p (by simp only [ints_length, List.length_cons, List.length_nil]; omega) (by simp) fun s hs => h s ?_
  have e1 := set_one (ints k l) off (.int k v) (by rw [ints_length]; exact hoff)
  simp only [List.length_cons, List.length_nil, Nat.zero_add] at hs
  rw [e1, ints_set] at hs
  exact hs
theorem set_wf {k : IntKind} {l : List Int} (h : Wf k l) {off : Nat} {v : Int} (hv : (Lit.int k v).wf = true) : Wf k (l.set off v) := by
  intro x hx
  rcases List.mem_or_eq_of_mem_set hx with h1 | h1
  · exact h x h1
  · rw [h1]; exact hv
theorem set_get {l : List Int} {i j : Nat} {v : Int} (h : i < l.length) : (l.set i v).getD j 0 = if i = j then v else l.getD j 0 := by
  rw [List.getD_eq_getElem?_getD, List.getElem?_set, List.getD_eq_getElem?_getD]
  split <;> simp_all
end Go.Proofs.Ytddnhjmogomimaa.Ae
