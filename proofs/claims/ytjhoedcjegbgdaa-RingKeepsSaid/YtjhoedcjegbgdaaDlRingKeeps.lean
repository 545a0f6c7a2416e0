/- Appending in place, clearing what lies behind: what slices.Delete does; no condition beyond the ones that each theorem names. -/
import Derived.Test.YtjhoedcjegbgdaaFmRingKeeps
set_option linter.unusedVariables false
set_option linter.unusedSimpArgs false
namespace Go.Proofs.Ytjhoedcjegbgdaa.Ae
open Go
theorem semK_app_in {P : Program} {t t2 e e2 : TypeId} {st : PH} {K : Value → PH → Prop} {a xb : Option Addr} {n m cap sz xc : Nat} {cs new : List Value} {L : List HA} (he : tslice P t = some e) (hk : tok P e = true) (hsz : tsz P e = sz)
    (he2 : tslice P t2 = some e2) (hle : n + m ≤ cap) (ho : Sat (SlB a n cap e sz cs :: L) st) (hx : Reads st xb new) (hnl : new.length = m * sz) (hn : new.all Value.oneCell = true)
    (h : ∀ s', Sat (SlB a (n + m) cap e sz (cs ++ new) :: L) s' → K (.slice a (n + m) cap) s') : SemK P (Builtin.append_ [t, t2].toArray 0 [.slice a n cap, .slice xb m xc].toArray) st K := by
  refine swp_of_awp ?_
  refine app_oldN he hk hsz he2 hle hx hnl hn ?_
  have ho' := ho
  obtain ⟨x, b, d, hA, hL, rfl⟩ := ho
  rcases hA with ⟨rfl, rfl, rfl⟩ | ⟨q, pre, junk, rfl, h1, h2, h3, h4⟩
  · have : m = 0 := by omega
    subst this
    have hn0 : new = [] := List.eq_nil_of_length_eq_zero (by simpa using hnl)
    subst hn0
    exact .inl ⟨rfl, h _ (by simpa using ho')⟩
  · have hS : Sat (Pt q (.cells (pre ++ cs ++ junk).toArray e (0, 0)) :: L) (uni x b) := ⟨x, b, d, h4, hL, rfl⟩
    have hml : (n + m) * sz ≤ cap * sz := Nat.mul_le_mul_right _ hle
    rw [Nat.add_mul] at hml
    have hj : new.length ≤ junk.length := by omega
    refine .inr ⟨_, _, _, rfl, sat_pt hS, rfl, by simp; omega, h _ ?_⟩
    have e1 : spl (pre ++ cs ++ junk).toArray (pre.length + n * sz) new = (pre ++ (cs ++ new) ++ junk.drop new.length).toArray := by
      have := spl_app new (pre ++ cs) junk hj
      rw [List.length_append, h1] at this
      rw [this]; simp
    have hS2 := sat_upd (o' := .cells (pre ++ (cs ++ new) ++ junk.drop new.length).toArray e (0, 0)) hS
    rw [e1]
    refine sat_imp (fun s hs => .inr ⟨q, pre, junk.drop new.length, rfl, ?_, ?_, by omega, hs⟩) hS2
    · rw [List.length_append, Nat.add_mul]; omega
    · simp; omega
theorem semK_clear_off {P : Program} {t e : TypeId} {z : Value} {st : PH} {K : Value → PH → Prop} {a : Option Addr} {n cap sz l m c' : Nat} {cs : List Value} {L : List HA} (he : tslice P t = some e) (hz : tzero P e = some z) (hzs : z.cells.size = sz) (h1 : z.cells.toList.all Value.oneCell = true)
    (ho : Sat (SlB a n cap e sz cs :: L) st) (hl : n ≤ l) (hm : l + m ≤ cap) (h : ∀ s, Sat (SlB a n cap e sz cs :: L) s → K (.tuple #[]) s) : SemK P (Builtin.clear_ [t].toArray 0 [.slice (slAt a l cap sz) m c'].toArray) st K := by
  refine swp_of_awp ?_
  unfold Builtin.clear_
  show awp P (underlying t >>= _) st K
  rw [awp_bind, awp_underlying (tslice_und he)]
  cases m with
  | zero =>
    cases hA : slAt a l cap sz with
    | none => exact h _ ho
    | some b => exact h _ ho
  | succ m =>
    have ho' := ho
    obtain ⟨x, b, d, hA, hL, rfl⟩ := ho
    rcases hA with ⟨rfl, rfl, rfl⟩ | ⟨q, pre, junk, rfl, g1, g2, g3, g4⟩
    · omega
    · have hS : Sat (Pt q (.cells (pre ++ cs ++ junk).toArray e (0, 0)) :: L) (uni x b) := ⟨x, b, d, g4, hL, rfl⟩
      have e0 : slAt (some ⟨q, pre.length, none⟩) l cap sz = some ⟨q, pre.length + l * sz, none⟩ := by
        unfold slAt
        rw [if_neg (by omega), Option.map_some, add_off _ rfl]
      rw [e0]
      show awp P (zeroValue e >>= _) _ K
      rw [awp_bind, awp_zeroValue hz]
      show awp P (storeCells ⟨q, pre.length + l * sz, none⟩ (Builtin.zeroCells z.cells (m + 1)).toList >>= _) _ K
      rw [awp_bind]
      generalize hZ : (Builtin.zeroCells z.cells (m + 1)).toList = Z
      have hZl : Z.length = (m + 1) * sz := by rw [← hZ]; simp [Builtin.zeroCells, hzs]
      have hZ1 : Z.all Value.oneCell = true := by
        rw [List.all_eq_true] at h1 ⊢
        intro v hv
        rw [← hZ] at hv
        simp only [Builtin.zeroCells, Array.toList_map, List.mem_map] at hv
        obtain ⟨i, hi, rfl⟩ := hv
        have hpos : 0 < z.cells.size := by
          rcases Nat.eq_zero_or_pos z.cells.size with h0 | h0
          · simp [h0] at hi
          · exact h0
        have : i % z.cells.size < z.cells.size := Nat.mod_lt _ hpos
        rw [getElem!_pos z.cells (i % z.cells.size) this]
        exact h1 _ (Array.getElem_mem_toList this)
      have k1 : (l + (m + 1)) * sz ≤ cap * sz := Nat.mul_le_mul_right _ hm
      rw [Nat.add_mul] at k1
      have k2 : n * sz ≤ l * sz := Nat.mul_le_mul_right _ hl
      refine storeCells_ok (a := ⟨q, pre.length + l * sz, none⟩) rfl Z 0 _ _ (sat_pt hS) (by simp; omega) hZ1 ?_
      refine h _ ?_
      have e1 : spl (pre ++ cs ++ junk).toArray (pre.length + l * sz) Z = (pre ++ cs ++ (junk.take (l * sz - n * sz) ++ Z ++ (junk.drop (l * sz - n * sz)).drop Z.length)).toArray := by
        have hj : junk = junk.take (l * sz - n * sz) ++ junk.drop (l * sz - n * sz) := (List.take_append_drop ..).symm
        have := spl_app Z (pre ++ cs ++ junk.take (l * sz - n * sz)) (junk.drop (l * sz - n * sz)) (by simp; omega)
        rw [show (pre ++ cs ++ junk.take (l * sz - n * sz)).length = pre.length + l * sz by simp; omega, List.append_assoc (pre ++ cs), ← hj] at this
        rw [this]; simp
      show Sat _ ((uni x b).upd q (.cells (spl (pre ++ cs ++ junk).toArray (pre.length + l * sz + 0) Z) e (0, 0)))
      rw [Nat.add_zero, e1]
      refine sat_imp (fun s hs => .inr ⟨q, pre, _, rfl, g1, ?_, g3, hs⟩) (sat_upd hS)
      simp; omega
end Go.Proofs.Ytjhoedcjegbgdaa.Ae
