/- Chapter 11: one that is given another priority: what RunqPrio's loops find. -/
import Derived.Test.YtddnhjmogomimaaRy
set_option linter.unusedVariables false
set_option linter.unusedSimpArgs false
namespace Go.Proofs.Ytddnhjmogomimaa.Ae
open Go Go.Proofs.Ytddnhjmogomimaa.Bits
/-- Threads from o on, with these priorities. -/
def tps (o : Int) : List Int → List TP
  | [] => []
  | p :: ps => (o, p) :: tps (o + 1) ps
theorem tps_length : ∀ (ps : List Int) (o : Int), (tps o ps).length = ps.length := by
  intro ps
  induction ps with
  | nil => intro o; rfl
  | cons p ps ih => intro o; simp [tps, ih]
theorem tps_get : ∀ (ps : List Int) (o : Int) (i : Nat) (h : i < (tps o ps).length) (h' : i < ps.length), (tps o ps)[i] = (o + i, ps[i]) := by
  intro ps
  induction ps with
  | nil => intro o i h; simp [tps] at h
  | cons p ps ih =>
    intro o i h h'
    cases i with
    | zero => simp [tps]
    | succ i =>
      simp only [tps, List.getElem_cons_succ]
      rw [ih (o + 1) i (by simpa [tps] using h) (by simpa using h'), show o + 1 + (i : Int) = o + ((i + 1 : Nat) : Int) by omega]
theorem tps_getD {ps : List Int} {o : Int} {i : Nat} (h : i < ps.length) : (tps o ps).getD i qd = (o + i, ps.getD i 0) := by
  have h1 : i < (tps o ps).length := by rw [tps_length]; exact h
  rw [List.getD_eq_getElem?_getD, List.getD_eq_getElem?_getD, List.getElem?_eq_getElem h1, List.getElem?_eq_getElem h, tps_get ps o i h1 h]; rfl
theorem tps_snoc : ∀ (ps : List Int) (o p : Int), tps o (ps ++ [p]) = tps o ps ++ [(o + ps.length, p)] := by
  intro ps
  induction ps with
  | nil => intro o p; simp [tps]
  | cons q ps ih =>
    intro o p
    simp only [List.cons_append, tps, ih, List.length_cons]
    rw [show o + 1 + (ps.length : Int) = o + ((ps.length + 1 : Nat) : Int) by omega]
theorem tps_set {ps : List Int} {o : Int} {k : Nat} {p : Int} : tps o (ps.set k p) = (tps o ps).set k (o + k, p) := by
  apply List.ext_getElem
  · simp [tps_length]
  · intro i h1 h2
    have h3 : i < ps.length := by simpa [tps_length] using h1
    rw [tps_get _ _ _ h1 (by simpa using h3), List.getElem_set, List.getElem_set]
    split
    · subst_vars; rfl
    · rw [tps_get]
theorem tps_fst {ps : List Int} {o : Int} {x : TP} (h : x ∈ tps o ps) : ∃ i : Nat, i < ps.length ∧ x = (o + i, ps.getD i 0) := by
  obtain ⟨i, hi, e⟩ := List.mem_iff_getElem.1 h
  have hi' : i < ps.length := by rw [tps_length] at hi; exact hi
  refine ⟨i, hi', ?_⟩
  rw [← e, tps_get ps o i hi hi', List.getD_eq_getElem?_getD, List.getElem?_eq_getElem hi']; rfl
/-- The greatest priority, by what it is. -/
def Most (l : List TP) (m : Int) : Prop := (∀ x ∈ l, x.2 ≤ m) ∧ ∃ x ∈ l, x.2 = m
theorem most_unique {l : List TP} {m n : Int} (h : Most l m) (k : Most l n) : m = n := by
  obtain ⟨x, hx, e⟩ := h.2
  obtain ⟨y, hy, f⟩ := k.2
  have := k.1 x hx
  have := h.1 y hy
  omega
theorem mem_getD {l : List TP} {x : TP} (h : x ∈ l) : ∃ j, j < l.length ∧ l.getD j qd = x := by
  obtain ⟨i, hi, e⟩ := List.mem_iff_getElem.1 h
  exact ⟨i, hi, by rw [List.getD_eq_getElem?_getD, List.getElem?_eq_getElem hi]; exact e⟩
theorem getD_mem {l : List TP} {j : Nat} (h : j < l.length) : l.getD j qd ∈ l := by
  rw [List.getD_eq_getElem?_getD, List.getElem?_eq_getElem h]; exact List.getElem_mem h
theorem mxI_most {l : List TP} (h0 : l ≠ []) (hn : ∀ x ∈ l, 0 ≤ x.2) : Most l (mxI l l.length) := by
  refine ⟨fun x hx => ?_, ?_⟩
  · obtain ⟨j, hj, rfl⟩ := mem_getD hx
    exact mxI_le l _ (Nat.le_refl _) j hj
  · rcases mxI_is l _ (Nat.le_refl _) with h | ⟨j, hj, h⟩
    · exfalso
      have hl : 0 < l.length := by cases l with | nil => exact absurd rfl h0 | cons _ _ => simp
      have := mxI_le l _ (Nat.le_refl _) 0 hl
      have := hn _ (getD_mem hl)
      omega
    · exact ⟨_, getD_mem hj, h⟩
/-- What the law's loop takes for the greatest. -/
def mostI (ps : List Int) : Nat → Int
  | 0 => 0
  | i + 1 => if mostI ps i < ps.getD i 0 then ps.getD i 0 else mostI ps i
theorem mostI_spec (ps : List Int) : ∀ i, i ≤ ps.length → 0 ≤ mostI ps i ∧ (∀ j, j < i → ps.getD j 0 ≤ mostI ps i) ∧ (mostI ps i = 0 ∨ ∃ j, j < i ∧ ps.getD j 0 = mostI ps i) := by
  intro i
  induction i with
  | zero => intro _; exact ⟨Int.le_refl _, fun j hj => by omega, .inl rfl⟩
  | succ i ih =>
    intro h
    obtain ⟨h1, h2, h3⟩ := ih (by omega)
    unfold mostI
    split
    · rename_i hlt
      refine ⟨by omega, fun j hj => ?_, .inr ⟨i, by omega, rfl⟩⟩
      by_cases e : j = i
      · subst e; omega
      · have := h2 j (by omega); omega
    · rename_i hge
      refine ⟨h1, fun j hj => ?_, ?_⟩
      · by_cases e : j = i
        · subst e; omega
        · have := h2 j (by omega); omega
      · rcases h3 with h3 | ⟨j, hj, h3⟩
        · exact .inl h3
        · exact .inr ⟨j, by omega, h3⟩
theorem mostI_most {ps : List Int} {o : Int} (h0 : ps ≠ []) (hn : ∀ i, i < ps.length → 0 ≤ ps.getD i 0) : Most (tps o ps) (mostI ps ps.length) := by
  obtain ⟨h1, h2, h3⟩ := mostI_spec ps _ (Nat.le_refl _)
  have mem : ∀ j, j < ps.length → (o + (j : Int), ps.getD j 0) ∈ tps o ps := fun j hj => by
    rw [← tps_getD hj]; exact getD_mem (by rw [tps_length]; exact hj)
  refine ⟨fun x hx => ?_, ?_⟩
  · obtain ⟨i, hi, rfl⟩ := tps_fst hx
    exact h2 i hi
  · rcases h3 with h3 | ⟨j, hj, h3⟩
    · have hl : 0 < ps.length := by cases ps with | nil => exact absurd rfl h0 | cons _ _ => simp
      refine ⟨_, mem 0 hl, ?_⟩
      have := h2 0 hl
      have := hn 0 hl
      simp only
      omega
    · exact ⟨_, mem j hj, h3⟩

theorem qat_tps {ps : List Int} {o : Int} {k : Nat} (h : k < ps.length) : qat (tps o ps) (o + k) = k := by
  refine qat_found (by rw [tps_length]; exact h) (by rw [tps_getD h]) fun j hj => ?_
  rw [tps_getD (by omega)]
  show ¬ o + (j : Int) = o + k
  omega
theorem qat_tps_no {ps : List Int} {o t : Int} (h : o + ps.length ≤ t) : qat (tps o ps) t = -1 := by
  refine qat_none fun j hj => ?_
  rw [tps_length] at hj
  rw [tps_getD hj]
  show ¬ o + (j : Int) = t
  omega
theorem add_tps {ps : List Int} {o p : Int} (h0 : 0 ≤ p) (h1 : p < 8) : addOK (tps o ps) (o + ps.length) p ∧ addQ (tps o ps) (o + ps.length) p = tps o (ps ++ [p]) := by
  have h : addOK (tps o ps) (o + ps.length) p := ⟨by rw [qat_tps_no (Int.le_refl _)]; decide, h0, h1⟩
  exact ⟨h, by unfold addQ; rw [if_pos h, tps_snoc]⟩
/-- What the law's loop wants. -/
def wantI (ps : List Int) (o : Int) (k : Nat) (e : Prop) [Decidable e] (m : Int) : Nat → List Int
  | 0 => []
  | i + 1 => if ps.getD i 0 = m ∧ (¬ i = k ∨ e) then wantI ps o k e m i ++ [o + i] else wantI ps o k e m i
theorem wantI_eq (ps : List Int) (o : Int) (k : Nat) (e : Prop) [Decidable e] (m : Int) : ∀ i, i ≤ ps.length → wantI ps o k e m i = (((tps o ps).take i).filter fun x => decide (x.2 = m ∧ (¬ x.1 = o + k ∨ e))).map Prod.fst := by
  intro i
  induction i with
  | zero => intro _; rfl
  | succ i ih =>
    intro h
    have hi : i < ps.length := by omega
    have hi' : i < (tps o ps).length := by rw [tps_length]; exact hi
    unfold wantI
    rw [ih (by omega), List.take_add_one, List.getElem?_eq_getElem hi', Option.toList_some, List.filter_append, List.map_append, tps_get ps o i hi' hi, List.getD_eq_getElem?_getD, List.getElem?_eq_getElem hi]
    simp only [Option.getD_some]
    have e1 : (o + (i : Int) = o + (k : Int)) ↔ i = k := by omega
    by_cases hc : ps[i] = m ∧ (¬ i = k ∨ e)
    · rw [if_pos hc]; simp [hc, e1]
    · rw [if_neg hc]; simp [hc, e1]
theorem prio_law {ps : List Int} {o to : Int} {k : Nat} (hk : k < ps.length) (hn : ∀ i, i < ps.length → 0 ≤ ps.getD i 0) (h0 : 0 ≤ to) (h1 : to < 8) :
    setOK (tps o ps) (o + k) to ∧ qat (setQ (tps o ps) (o + k) to) (o + k) ≥ 0 ∧ prioQ (setQ (tps o ps) (o + k) to) (o + k) = to ∧ readyQ (setQ (tps o ps) (o + k) to) = wantI (ps.set k to) o k (ps.getD k 0 = to) (mostI (ps.set k to) ps.length) ps.length ++ (if to = mostI (ps.set k to) ps.length ∧ ¬ ps.getD k 0 = to then [o + k] else []) := by
  have hq : qat (tps o ps) (o + k) = k := qat_tps hk
  have hok : setOK (tps o ps) (o + k) to := ⟨by omega, h0, h1⟩
  have hp : prioQ (tps o ps) (o + k) = ps.getD k 0 := by unfold prioQ; rw [if_pos (by omega), hq, Int.toNat_natCast, tps_getD hk]
  have hl : (ps.set k to).length = ps.length := by simp
  have hne : ps.set k to ≠ [] := by intro h; rw [h] at hl; simp at hl; omega
  have hn' : ∀ i, i < (ps.set k to).length → 0 ≤ (ps.set k to).getD i 0 := fun i hi => by
    rw [hl] at hi
    rw [List.getD_eq_getElem?_getD, List.getElem?_set]
    by_cases e : k = i
    · rw [if_pos e, if_pos hk]; exact h0
    · rw [if_neg e, ← List.getD_eq_getElem?_getD]; exact hn i hi
  have hm := mostI_most (o := o) hne hn'
  rw [hl] at hm
  have hw := wantI_eq (ps.set k to) o k (ps.getD k 0 = to) (mostI (ps.set k to) ps.length) ps.length (by omega)
  rw [List.take_of_length_le (by rw [tps_length]; omega)] at hw
  by_cases he : ps.getD k 0 = to
  · have hs : ps.set k to = ps := by
      rw [← he, List.getD_eq_getElem?_getD, List.getElem?_eq_getElem hk]; simp
    have hQ : setQ (tps o ps) (o + k) to = tps o ps := by unfold setQ; rw [if_neg (fun h => h.2 (by rw [hp]; exact he))]
    rw [hQ, hw, hs, if_neg (fun h => h.2 he), List.append_nil]
    rw [hs] at hm
    refine ⟨hok, by rw [hq]; omega, by rw [hp]; exact he, ?_⟩
    have hx := mxI_most (l := tps o ps) (by intro h; have := congrArg List.length h; rw [tps_length] at this; simp at this; subst this; simp at hk) (fun x hx => by obtain ⟨i, hi, rfl⟩ := tps_fst hx; exact hn i hi)
    rw [readyQ_eq, most_unique hx hm]
    congr 2
    funext x
    rw [decide_eq_decide]
    exact ⟨fun h => ⟨h, .inr he⟩, fun h => h.1⟩
  · have hr : remQ (tps o ps) (o + k) = (tps o ps).eraseIdx k := by unfold remQ; rw [if_pos (by omega), hq, Int.toNat_natCast]
    have hlen : ((tps o ps).eraseIdx k).length = ps.length - 1 := by rw [List.length_eraseIdx, tps_length, if_pos hk]
    have htk : ∀ x ∈ (tps o ps).take k, ¬ x.1 = o + k := fun x hx => by
      obtain ⟨i, hi, e⟩ := List.mem_iff_getElem.1 hx
      have hi' : i < k ∧ i < ps.length := by simp [tps_length] at hi; omega
      rw [List.getElem_take, tps_get _ _ _ (by rw [tps_length]; omega) hi'.2] at e
      rw [← e]; show ¬ o + (i : Int) = o + k; omega
    have hdk : ∀ x ∈ (tps o ps).drop (k + 1), ¬ x.1 = o + k := fun x hx => by
      obtain ⟨i, hi, e⟩ := List.mem_iff_getElem.1 hx
      have hi' : k + 1 + i < ps.length := by simp [tps_length] at hi; omega
      rw [List.getElem_drop, tps_get _ _ _ (by rw [tps_length]; omega) hi'] at e
      rw [← e]; show ¬ o + ((k + 1 + i : Nat) : Int) = o + k; omega
    have hek : ∀ x ∈ (tps o ps).eraseIdx k, ¬ x.1 = o + k := fun x hx => by
      rw [List.eraseIdx_eq_take_drop_succ] at hx
      rcases List.mem_append.1 hx with h | h
      · exact htk x h
      · exact hdk x h
    have hqe : qat ((tps o ps).eraseIdx k) (o + k) = -1 := qat_none fun j hj => hek _ (getD_mem hj)
    have hQ : setQ (tps o ps) (o + k) to = (tps o ps).eraseIdx k ++ [(o + (k : Int), to)] := by
      unfold setQ
      rw [if_pos ⟨hok, by rw [hp]; exact he⟩, hr]
      unfold addQ
      rw [if_pos ⟨by rw [hqe]; decide, h0, h1⟩]
    have hqQ : qat ((tps o ps).eraseIdx k ++ [(o + (k : Int), to)]) (o + k) = ((tps o ps).eraseIdx k).length := by
      refine qat_found (by simp) (by simp) fun j hj => ?_
      rw [List.getD_eq_getElem?_getD, List.getElem?_append_left hj, ← List.getD_eq_getElem?_getD]
      exact hek _ (getD_mem hj)
    have hset : tps o (ps.set k to) = (tps o ps).take k ++ (o + (k : Int), to) :: (tps o ps).drop (k + 1) := by
      rw [tps_set, List.set_eq_take_append_cons_drop, if_pos (by rw [tps_length]; exact hk)]
    rw [hQ]
    refine ⟨hok, by rw [hqQ]; omega, ?_, ?_⟩
    · unfold prioQ
      rw [hqQ, if_pos (by omega), Int.toNat_natCast]
      simp
    · have hM : Most ((tps o ps).eraseIdx k ++ [(o + (k : Int), to)]) (mostI (ps.set k to) ps.length) := by
        have hmem : ∀ x, x ∈ (tps o ps).eraseIdx k ++ [(o + (k : Int), to)] ↔ x ∈ tps o (ps.set k to) := fun x => by
          rw [hset, List.eraseIdx_eq_take_drop_succ]
          simp only [List.mem_append, List.mem_cons, List.not_mem_nil, or_false]
          constructor
          · rintro ((h | h) | h)
            · exact .inl h
            · exact .inr (.inr h)
            · exact .inr (.inl h)
          · rintro (h | h | h)
            · exact .inl (.inl h)
            · exact .inr h
            · exact .inl (.inr h)
        exact ⟨fun x hx => hm.1 x ((hmem x).1 hx), let ⟨x, hx, e⟩ := hm.2; ⟨x, (hmem x).2 hx, e⟩⟩
      have hx := mxI_most (l := (tps o ps).eraseIdx k ++ [(o + (k : Int), to)]) (by simp) (fun x hx => by
        rcases List.mem_append.1 hx with h | h
        · obtain ⟨i, hi, rfl⟩ := tps_fst (List.mem_of_mem_eraseIdx h); exact hn i hi
        · obtain rfl := List.mem_singleton.1 h; exact h0)
      rw [readyQ_eq, most_unique hx hM, hw, hset]
      generalize mostI (ps.set k to) ps.length = m
      rw [List.eraseIdx_eq_take_drop_succ]
      rw [List.filter_append, List.filter_append, List.filter_append, List.filter_cons, List.filter_cons]
      have f1 : ∀ L : List TP, (∀ x ∈ L, ¬ x.1 = o + (k : Int)) → L.filter (fun x => decide (x.2 = m ∧ (¬ x.1 = o + (k : Int) ∨ ps.getD k 0 = to))) = L.filter (fun x => decide (x.2 = m)) := fun L hL => by
        refine List.filter_congr fun x hx => ?_
        simp [hL x hx]
      rw [f1 _ htk, f1 _ hdk]
      have e1 : decide (to = m ∧ (¬ (o + (k : Int), to).1 = o + (k : Int) ∨ ps.getD k 0 = to)) = false := decide_eq_false (by rintro ⟨_, h | h⟩; exact h rfl; exact he h)
      rw [e1]
      simp only [Bool.false_eq_true, if_false, List.filter_nil, List.map_append, List.append_assoc]
      congr 2
      by_cases ht : to = m
      · rw [if_pos (decide_eq_true ht), if_pos ⟨ht, he⟩]; rfl
      · rw [if_neg (by rw [decide_eq_true_eq]; exact ht), if_neg (fun h => ht h.1)]; rfl
end Go.Proofs.Ytddnhjmogomimaa.Ae
