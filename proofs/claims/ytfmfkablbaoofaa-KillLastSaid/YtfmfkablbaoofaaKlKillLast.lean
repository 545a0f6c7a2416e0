/- Capabilities of one object, deleted one after another: plain laws for KillLast; for all that the lemmas name. -/
import Derived.Test.YtfmfkablbaoofaaKiKillLast
set_option linter.unusedVariables false
set_option linter.unusedSimpArgs false
set_option linter.unusedSectionVars false
set_option maxRecDepth 100000
set_option maxHeartbeats 4000000
namespace Go.Proofs.Ytfmfkablbaoofaa.Ae
open Go Go.Proofs.Ytfmfkablbaoofaa.Bits
def kR (j : Nat) : SL := ⟨9, j, 4, 7, 0, j, ((j % 8 : Nat) : Int), 0, 0⟩
theorem kR_sid (j : Nat) : sid (kR j) = (9, (j : Int)) := rfl
structure KT (S : List Nat) (T : List SL) : Prop where
  sorted : TSorted T
  sub : ∀ x ∈ T, ∃ j ∈ S, kR j = x
  all : ∀ j ∈ S, kR j ∈ T
  nodup : S.Nodup
  lt : ∀ j ∈ S, j < 12
theorem kt_ids {S : List Nat} {T : List SL} (h : KT S T) : T.length = S.length := by
  have h1 : (T.map sid).length = (S.map fun j : Nat => ((9 : Int), (j : Int))).length := by
    refine Nat.le_antisymm (nodup_len ?_ ?_) (nodup_len ?_ ?_)
    · exact plt_nodup (List.pairwise_map.2 (h.sorted.imp fun h => slt_plt.1 h))
    · intro y hy
      obtain ⟨x, hx, rfl⟩ := List.mem_map.1 hy
      obtain ⟨j, hj, rfl⟩ := h.sub x hx
      exact List.mem_map.2 ⟨j, hj, rfl⟩
    · refine List.pairwise_map.2 (h.nodup.imp fun {a b} hab e => hab ?_)
      have := congrArg Prod.snd e
      simp only at this
      omega
    · intro y hy
      obtain ⟨j, hj, rfl⟩ := List.mem_map.1 hy
      exact List.mem_map.2 ⟨_, h.all j hj, rfl⟩
  rwa [List.length_map, List.length_map] at h1
theorem kt_new : KT [] [] := ⟨List.Pairwise.nil, fun x h => (nomatch h), fun j h => (nomatch h), List.Pairwise.nil, fun j h => (nomatch h)⟩
theorem kt_put {i : Nat} {T : List SL} (h : KT (List.range i) T) (hi : i < 12) : canPut T (kR i) = true ∧ KT (List.range (i + 1)) (tput T (kR i)) := by
  have hg : tget T (9, (i : Int)) = none := tget_none.2 fun x hx e => by
    obtain ⟨j, hj, rfl⟩ := h.sub x hx
    have := List.mem_range.1 hj
    have h2 : (j : Int) = (i : Int) := congrArg Prod.snd e
    omega
  have hc : canPut T (kR i) = true := by
    refine canPut_flat ⟨rfl, rfl⟩ ⟨?_, ?_, ?_, ?_⟩ hg (capOK_iff.2 ⟨⟨?_, ?_, ?_, ?_, ?_, ?_⟩, .inl ?_, .inl ?_, .inr ⟨rfl, ?_, ?_⟩, .inr (.inr (.inl rfl))⟩)
    · show (1 : Int) ≤ 9; decide
    · show (9 : Int) ≤ 64; decide
    · show 0 ≤ (i : Int); omega
    · show (i : Int) < 16; omega
    · show (1 : Int) ≤ 4; decide
    · show (4 : Int) ≤ 9; decide
    · show 0 ≤ ((i % 8 : Nat) : Int); omega
    · show ((i % 8 : Nat) : Int) ≤ 7; omega
    · show (1 : Int) ≤ 7; decide
    · show (7 : Int) ≤ 64; decide
    · show ¬ (4 : Int) = 1; decide
    · show ¬ (4 : Int) = 2; decide
    · show 0 ≤ (i : Int); omega
    · show (i : Int) ≤ 2147483647; omega
  refine ⟨hc, tput_sorted h.sorted, fun x hx => ?_, fun j hj => ?_, List.nodup_range, fun j hj => ?_⟩
  · rcases (mem_tput hc).1 hx with rfl | hx
    · exact ⟨i, List.mem_range.2 (by omega), rfl⟩
    · obtain ⟨j, hj, e⟩ := h.sub x hx
      exact ⟨j, List.mem_range.2 (by have := List.mem_range.1 hj; omega), e⟩
  · refine (mem_tput hc).2 ?_
    by_cases e : j = i
    · subst e; exact .inl rfl
    · exact .inr (h.all j (List.mem_range.2 (by have := List.mem_range.1 hj; omega)))
  · have := List.mem_range.1 hj; omega
section
variable {S : List Nat} {T : List SL} (h : KT S T) {k : Nat} (hk : k < S.length)
include h hk
theorem kt_in : S.getD k 0 ∈ S := by
  rw [List.getD_eq_getElem?_getD, List.getElem?_eq_getElem hk]
  exact List.getElem_mem _
theorem kt_get : tget T (9, ((S.getD k 0 : Nat) : Int)) = some (kR (S.getD k 0)) := (tget_some h.sorted).2 ⟨h.all _ (kt_in h hk), rfl⟩
theorem kt_kill : tkill T (9, ((S.getD k 0 : Nat) : Int)) = tdrop T (9, ((S.getD k 0 : Nat) : Int)) :=
  flat_kill (fun x hx => by obtain ⟨j, _, rfl⟩ := h.sub x hx; exact ⟨rfl, rfl⟩) h.sorted (by show ¬ ((9 : Int) = 0 ∧ _); omega)
theorem kt_erase : KT (S.eraseIdx k) (tdrop T (9, ((S.getD k 0 : Nat) : Int))) := by
  have hx0 : S[k]? = some (S.getD k 0) := by rw [List.getD_eq_getElem?_getD, List.getElem?_eq_getElem hk]; rfl
  have hp := perm_pick hx0
  have hn2 := List.nodup_cons.1 (hp.nodup_iff.1 h.nodup)
  have hmem : ∀ j, j ∈ S.eraseIdx k ↔ j ∈ S ∧ j ≠ S.getD k 0 := fun j => by
    rw [hp.mem_iff, List.mem_cons]
    constructor
    · intro hj
      exact ⟨.inr hj, fun e => hn2.1 (e ▸ hj)⟩
    · rintro ⟨a | a, b⟩
      · exact absurd a b
      · exact a
  refine ⟨tdrop_sorted _ h.sorted, fun x hx => ?_, fun j hj => ?_, h.nodup.sublist (List.eraseIdx_sublist ..), fun j hj => h.lt j ((hmem j).1 hj).1⟩
  · obtain ⟨h1, h2⟩ := List.mem_filter.1 hx
    obtain ⟨j, hj, rfl⟩ := h.sub x h1
    refine ⟨j, (hmem j).2 ⟨hj, fun e => ?_⟩, rfl⟩
    exact of_decide_eq_true h2 (by rw [kR_sid, e])
  · obtain ⟨h1, h2⟩ := (hmem j).1 hj
    refine List.mem_filter.2 ⟨h.all j h1, decide_eq_true fun e => h2 ?_⟩
    have : (j : Int) = ((S.getD k 0 : Nat) : Int) := congrArg Prod.snd e
    omega
theorem kt_named : (tkids (tkill T (9, ((S.getD k 0 : Nat) : Int))) (nmP (kR (S.getD k 0)))).length = S.length - 1 := by
  have he := kt_erase h hk
  rw [kt_kill h hk]
  unfold tkids
  rw [List.length_map, List.filter_eq_self.2 fun x hx => ?_, kt_ids he, List.length_eraseIdx_of_lt hk]
  obtain ⟨j, _, rfl⟩ := he.sub x hx
  exact decide_eq_true ⟨rfl, rfl, .inr rfl⟩
theorem kt_del : (kdel T (9, ((S.getD k 0 : Nat) : Int))).1.length = (if S.length = 1 then 1 else 0) ∧ KT (S.eraseIdx k) (kdel T (9, ((S.getD k 0 : Nat) : Int))).2 := by
  have hg := kt_get h hk
  have hn := kt_named h hk
  have hl := kt_ids h
  unfold kdel
  obtain ⟨m, hm⟩ : ∃ m, T.length = m + 1 := ⟨T.length - 1, by omega⟩
  rw [hm]
  by_cases h1 : S.length = 1
  · rw [kdrop_one hg (by omega) (by show ¬ (4 : Int) = 2; decide), if_pos h1]
    refine ⟨rfl, ?_⟩
    show KT _ (tkill T _)
    rw [kt_kill h hk]
    exact kt_erase h hk
  · rw [kdrop_held hg (by omega), if_neg h1]
    refine ⟨rfl, ?_⟩
    show KT _ (tkill T _)
    rw [kt_kill h hk]
    exact kt_erase h hk
end
end Go.Proofs.Ytfmfkablbaoofaa.Ae
