/- Copies of copies: plain laws for DupRows, DupNames, DupErrors; for all that the lemmas name. -/
import Derived.Test.YtfmfkablbaoofaaDuDupRows
import Derived.Test.YtfmfkablbaoofaaLiDupRows
set_option linter.unusedVariables false
set_option linter.unusedSimpArgs false
set_option linter.unusedSectionVars false
set_option maxRecDepth 100000
set_option maxHeartbeats 4000000
namespace Go.Proofs.Ytfmfkablbaoofaa.Ae
open Go Go.Proofs.Ytfmfkablbaoofaa.Bits
theorem below_count {T : List SL} {p : Int × Int} {D : List (Int × Int)} (h : BelowL T p D) (S : List (Int × Int)) (hn : S.Nodup) (h1 : ∀ y ∈ S, y ∈ D) (h2 : ∀ y ∈ D, y ∈ S) : D.length = S.length :=
  Nat.le_antisymm (nodup_len (plt_nodup h.sorted) h2) (nodup_len hn h1)
theorem ban8 {w r : Int} (hw : 0 ≤ w ∧ w ≤ 7) (hr : 0 ≤ r ∧ r ≤ 7) : 0 ≤ ban .i64 w r ∧ ban .i64 w r ≤ 7 := by
  have h : ∀ a < 8, ∀ b < 8, 0 ≤ Go.bits .and .i64 ((a : Nat) : Int) ((b : Nat) : Int) ∧ Go.bits .and .i64 ((a : Nat) : Int) ((b : Nat) : Int) ≤ 7 := by decide +kernel
  rw [ban_def]
  have := h w.toNat (by omega) r.toNat (by omega)
  rwa [Int.toNat_of_nonneg hw.1, Int.toNat_of_nonneg hr.1] at this
theorem ban7 {r : Int} (hr : 0 ≤ r ∧ r ≤ 7) : ban .i64 r 7 = r := by
  have := ban_low (x := r) 3 (by decide) hr.1 (by omega)
  rw [show (2 : Int) ^ 3 - 1 = 7 by decide] at this
  rw [this]
  omega
def rW (rs : Nat → Int) : Nat → Int
  | 0 => 7
  | i + 1 => ban .i64 (rW rs i) (rs i)
theorem rW_le {rs : Nat → Int} (hr : ∀ i, 0 ≤ rs i ∧ rs i ≤ 7) : ∀ i, 0 ≤ rW rs i ∧ rW rs i ≤ 7 := by
  intro i
  induction i with
  | zero => exact ⟨show (0 : Int) ≤ 7 by decide, show (7 : Int) ≤ 7 by decide⟩
  | succ i ih => exact ban8 ih (hr i)
def cR (rs : Nat → Int) : Nat → SL
  | 0 => ⟨1, 0, 5, 3, 0, 0, 7, 0, 0⟩
  | j + 1 => ⟨1, j + 1, 5, 3, 0, 0, rW rs (j + 1), 1, j⟩
theorem cR_k (rs : Nat → Int) (j : Nat) : (cR rs j).nd = 1 ∧ (cR rs j).sl = j ∧ (cR rs j).k = 5 ∧ (cR rs j).o = 3 ∧ (cR rs j).s = 0 ∧ (cR rs j).b = 0 ∧ (cR rs j).r = rW rs j := by
  cases j with
  | zero => exact ⟨rfl, rfl, rfl, rfl, rfl, rfl, rfl⟩
  | succ j => exact ⟨rfl, by show (j : Int) + 1 = _; omega, rfl, rfl, rfl, rfl, rfl⟩
def CT (rs : Nat → Int) (i : Nat) (T : List SL) : Prop := TSorted T ∧ T.length ≤ i + 1 ∧ (∀ x ∈ T, ∃ j, j ≤ i ∧ x = cR rs j) ∧ ∀ j : Nat, j ≤ i → tget T (1, j) = some (cR rs j)
theorem ct_can0 (rs : Nat → Int) : canPut [] (cR rs 0) = true := by
  show canPut [] ⟨1, 0, 5, 3, 0, 0, 7, 0, 0⟩ = true
  decide +kernel
theorem ct_new (rs : Nat → Int) : CT rs 0 (tput [] (cR rs 0)) := by
  rw [tput_nil (ct_can0 rs)]
  refine ⟨List.pairwise_singleton .., Nat.le_refl _, fun x hx => ⟨0, Nat.le_refl _, List.mem_singleton.1 hx⟩, fun j hj => ?_⟩
  obtain rfl : j = 0 := by omega
  unfold tget
  rw [List.find?_cons_of_pos]
  exact decide_eq_true rfl
section
variable {rs : Nat → Int} (hr : ∀ i, 0 ≤ rs i ∧ rs i ≤ 7) {i : Nat} {T : List SL} (h : CT rs i T) (hi : i < 15)
include hr h hi
theorem ct_free : tget T (1, (i : Int) + 1) = none := by
  rw [tget_none]
  intro x hx e
  obtain ⟨j, hj, rfl⟩ := h.2.2.1 x hx
  have h1 := (cR_k rs j).2.1
  have h2 : (cR rs j).sl = (i : Int) + 1 := congrArg Prod.snd e
  omega
theorem ct_both : bothC T 1 i 1 ((i : Int) + 1) = 0 ∧ bothX T 1 i 1 ((i : Int) + 1) = cR rs i := by
  have e1 := h.2.2.2 i (Nat.le_refl _)
  have e2 := ct_free hr h hi
  have e3 : canPl 1 ((i : Int) + 1) = true := decide_eq_true (by omega)
  unfold bothC bothX
  rw [e1, e2, e3]
  exact ⟨rfl, rfl⟩
theorem ct_row : copyR (cR rs i) 1 i 1 ((i : Int) + 1) (rs i) = cR rs (i + 1) := by
  obtain ⟨_, _, h1, h2, h3, h4, h5⟩ := cR_k rs i
  unfold copyR dless
  rw [h1, h2, h3, h4, h5, ban7 (hr i)]
  rfl
theorem ct_can : canPut T (cR rs (i + 1)) = true := by
  have e1 := h.2.2.2 i (Nat.le_refl _)
  have e2 := ct_free hr h hi
  have h5 := rW_le hr (i + 1)
  unfold canPut
  show (canPl 1 ((i : Int) + 1) && (!(tget T (1, (i : Int) + 1)).isSome && (capOK 5 3 0 0 (rW rs (i + 1)) && (decide ((1 : Int) = 0 ∧ (i : Int) = 0) || (tget T (1, (i : Int))).isSome)))) = true
  rw [e1, e2, show canPl 1 ((i : Int) + 1) = true from decide_eq_true (by omega), show capOK 5 3 0 0 (rW rs (i + 1)) = true from capOK_iff.2 ⟨⟨by decide, by decide, h5.1, h5.2, by decide, by decide⟩, by decide, by decide, by decide, by decide⟩]
  simp
theorem ct_copy : copyC T 1 i 1 ((i : Int) + 1) (rs i) = 0 ∧ copyT T 1 i 1 ((i : Int) + 1) (rs i) = tput T (cR rs (i + 1)) := by
  obtain ⟨e1, e2⟩ := ct_both hr h hi
  have e3 : copyC T 1 i 1 ((i : Int) + 1) (rs i) = 0 := by
    unfold copyC
    rw [if_pos e1, if_pos (hr i)]
  unfold copyT
  rw [if_pos e3, e2, ct_row hr h hi]
  exact ⟨e3, rfl⟩
theorem ct_next : CT rs (i + 1) (tput T (cR rs (i + 1))) := by
  have hc := ct_can hr h hi
  refine ⟨tput_sorted h.1, Nat.le_trans (tput_length _ _) (by have := h.2.1; omega), fun x hx => ?_, fun j hj => ?_⟩
  · rcases (mem_tput hc).1 hx with rfl | hx
    · exact ⟨i + 1, Nat.le_refl _, rfl⟩
    · obtain ⟨j, hj, e⟩ := h.2.2.1 x hx
      exact ⟨j, by omega, e⟩
  · by_cases e : j = i + 1
    · subst e
      have := tget_tput_self h.1 hc
      rwa [show sid (cR rs (i + 1)) = (1, ((i + 1 : Nat) : Int)) from Prod.ext rfl (by show (i : Int) + 1 = _; omega)] at this
    · rw [tget_tput_other h.1 hc ?_]
      · exact h.2.2.2 j (by omega)
      · exact fun e2 => absurd (show (i : Int) + 1 = (j : Int) from congrArg Prod.snd e2) (by omega)
end
theorem ct_tree {rs : Nat → Int} {i : Nat} {T : List SL} (h : CT rs i T) : Tree T := by
  refine ⟨fun x hx => ?_, fun x hx e => ?_, fun k => k.2.toNat, fun x hx _ => ?_⟩
  · obtain ⟨j, hj, rfl⟩ := h.2.2.1 x hx
    cases j with
    | zero => exact .inl rfl
    | succ j =>
      refine .inr ?_
      have := (tget_some h.1).1 (h.2.2.2 j (by omega))
      exact List.mem_map.2 ⟨_, this.1, this.2⟩
  · obtain ⟨j, hj, rfl⟩ := h.2.2.1 x hx
    have := (cR_k rs j).1
    have h2 : (cR rs j).nd = 0 := congrArg Prod.fst e
    omega
  · obtain ⟨j, hj, rfl⟩ := h.2.2.1 x hx
    rename_i hp
    cases j with
    | zero => exact absurd rfl hp
    | succ j =>
      show (j : Int).toNat < ((j : Int) + 1).toNat
      omega
theorem ct_below {rs : Nat → Int} {n : Nat} {T : List SL} (h : CT rs n T) {D : List (Int × Int)} (hD : BelowL T (1, 0) D) : D.length = n := by
  have hin : ∀ j : Nat, j ≤ n → cR rs j ∈ T ∧ sid (cR rs j) = (1, (j : Int)) := fun j hj => (tget_some h.1).1 (h.2.2.2 j hj)
  have hup : ∀ j : Nat, j < n → ((1 : Int), ((j + 1 : Nat) : Int)) ∈ D := by
    intro j
    induction j with
    | zero =>
      intro hj
      obtain ⟨h1, h2⟩ := hin 1 (by omega)
      have := (hD.iff _ h1).2 (.inl rfl)
      rwa [h2] at this
    | succ j ih =>
      intro hj
      obtain ⟨h1, h2⟩ := hin (j + 1 + 1) (by omega)
      have := (hD.iff _ h1).2 (.inr (by
        have := ih (by omega)
        show ((1 : Int), ((j + 1 : Nat) : Int)) ∈ D
        exact this))
      rwa [h2] at this
  have h0 : ((1 : Int), (0 : Int)) ∉ D := fun hm => by
    obtain ⟨h1, h2⟩ := hin 0 (Nat.zero_le _)
    rcases (hD.iff _ h1).1 (by rw [h2]; exact hm) with e | e
    · exact absurd (show (0 : Int) = 1 from congrArg Prod.fst e) (by decide)
    · obtain ⟨x, hx, e2⟩ := List.mem_map.1 (hD.sub _ e)
      obtain ⟨j, hj, rfl⟩ := h.2.2.1 x hx
      have := (cR_k rs j).1
      have h3 : (cR rs j).nd = 0 := congrArg Prod.fst e2
      omega
  have := below_count hD ((List.range n).map fun j => ((1 : Int), ((j + 1 : Nat) : Int))) ?_ ?_ ?_
  · rw [this, List.length_map, List.length_range]
  · exact List.pairwise_map.2 (List.nodup_range.imp fun {a b} hab e => hab (by
      have := congrArg Prod.snd e
      simp only at this
      omega))
  · intro y hy
    obtain ⟨j, hj, rfl⟩ := List.mem_map.1 hy
    exact hup j (List.mem_range.1 hj)
  · intro y hy
    obtain ⟨x, hx, rfl⟩ := List.mem_map.1 (hD.sub y hy)
    obtain ⟨j, hj, rfl⟩ := h.2.2.1 x hx
    obtain ⟨h1, h2⟩ := hin j hj
    rw [h2] at hy ⊢
    cases j with
    | zero => exact absurd hy h0
    | succ j => exact List.mem_map.2 ⟨j, List.mem_range.2 (by omega), rfl⟩
end Go.Proofs.Ytfmfkablbaoofaa.Ae
