/- Trees of slots: all below, as a list; what put, drop keep; no condition beyond the ones that each theorem names. -/
import Derived.Test.YtfmfkablbaoofaaDbKillParents
set_option linter.unusedVariables false
set_option linter.unusedSimpArgs false
set_option maxRecDepth 100000
set_option maxHeartbeats 4000000
namespace Go.Proofs.Ytfmfkablbaoofaa.Ae
open Go Go.Proofs.Ytfmfkablbaoofaa.Bits
attribute [local irreducible] Ret ACalls
/-- Going up so many times, is it met? -/
def isB (T : List SL) (p : Int × Int) : Nat → Int × Int → Bool
  | 0, u => decide (u = p)
  | n + 1, u => decide (u = p) || (match tget T u with
    | none => false
    | some y => isB T p n (par y))
/-- All that is below a place. -/
def blw (T : List SL) (p : Int × Int) : List (Int × Int) := tkids T fun x => isB T p (T.length + 1) (par x)
theorem tget_in {T : List SL} {u : Int × Int} {y : SL} (h : tget T u = some y) : y ∈ T ∧ sid y = u := by
  unfold tget at h
  have := List.find?_some h
  exact ⟨List.mem_of_find?_eq_some h, of_decide_eq_true this⟩
theorem countP_lt {α : Type} {P Q : α → Bool} : ∀ {l : List α}, (∀ x ∈ l, P x = true → Q x = true) → (∃ x ∈ l, Q x = true ∧ P x = false) → l.countP P < l.countP Q
  | [], _, ⟨_, h, _⟩ => nomatch h
  | x :: l, hs, ⟨y, hy, h1, h2⟩ => by
    have hle : l.countP P ≤ l.countP Q := List.countP_mono_left fun z hz => hs z (List.mem_cons_of_mem _ hz)
    rw [List.countP_cons, List.countP_cons]
    rcases List.mem_cons.1 hy with e | hm
    · subst e
      rw [h1, h2, if_pos rfl, if_neg Bool.false_ne_true]
      omega
    · have hlt := countP_lt (fun z hz => hs z (List.mem_cons_of_mem _ hz)) ⟨y, hm, h1, h2⟩
      have hx := hs x (List.mem_cons_self ..)
      by_cases hp : P x = true
      · rw [if_pos hp, if_pos (hx hp)]; omega
      · rw [if_neg hp]; omega
/-- A rank that is no more than there are. -/
theorem tree_rank {T : List SL} (hTr : Tree T) : ∃ d : Int × Int → Nat, (∀ u, d u ≤ T.length) ∧ ∀ x ∈ T, par x ≠ (0, 0) → d (par x) < d (sid x) := by
  obtain ⟨h1, h2, d, hd⟩ := hTr
  refine ⟨fun u => T.countP fun z => decide (d (sid z) < d u), fun u => List.countP_le_length, fun x hx hp => ?_⟩
  have hlt := hd x hx hp
  refine countP_lt (fun z hz h => decide_eq_true (Nat.lt_trans (of_decide_eq_true h) hlt)) ?_
  rcases h1 x hx with e | hm
  · exact absurd e hp
  · obtain ⟨z, hz, e⟩ := List.mem_map.1 hm
    refine ⟨z, hz, decide_eq_true (by rw [e]; exact hlt), decide_eq_false (by rw [e]; exact Nat.lt_irrefl _)⟩
theorem tget_zero {T : List SL} (hTr : Tree T) : tget T (0, 0) = none := tget_none.2 fun x hx => hTr.2.1 x hx
theorem isB_zero {T : List SL} (hTr : Tree T) {p : Int × Int} (hp : p ≠ (0, 0)) (n : Nat) : isB T p n (0, 0) = false := by
  have h0 : decide (((0, 0) : Int × Int) = p) = false := decide_eq_false fun e => hp e.symm
  cases n with
  | zero => exact h0
  | succ n => rw [isB, h0, tget_zero hTr]; rfl
theorem isB_stable {T : List SL} (hTr : Tree T) {p : Int × Int} (hp : p ≠ (0, 0)) {d : Int × Int → Nat} (hd : ∀ x ∈ T, par x ≠ (0, 0) → d (par x) < d (sid x)) : ∀ (n : Nat) (u : Int × Int), d u ≤ n → isB T p n u = isB T p (n + 1) u := by
  intro n
  induction n with
  | zero =>
    intro u hu
    rw [isB, isB]
    cases e : tget T u with
    | none => rw [Bool.or_false]
    | some y =>
      obtain ⟨hy, rfl⟩ := tget_in e
      have : par y = (0, 0) := Classical.byContradiction fun h => by have := hd y hy h; omega
      show decide (sid y = p) = (decide (sid y = p) || isB T p 0 (par y))
      rw [this, isB_zero hTr hp, Bool.or_false]
  | succ n ih =>
    intro u hu
    rw [isB, isB]
    cases e : tget T u with
    | none => rfl
    | some y =>
      obtain ⟨hy, rfl⟩ := tget_in e
      show (_ || isB T p n (par y)) = (_ || isB T p (n + 1) (par y))
      by_cases h : par y = (0, 0)
      · rw [h, isB_zero hTr hp, isB_zero hTr hp]
      · rw [ih (par y) (by have := hd y hy h; omega)]
theorem mem_blw {T : List SL} (hT : TSorted T) {p : Int × Int} {x : SL} (hx : x ∈ T) : sid x ∈ blw T p ↔ isB T p (T.length + 1) (par x) = true := by
  unfold blw tkids
  rw [List.mem_map]
  constructor
  · rintro ⟨y, hy, e⟩
    obtain ⟨h1, h2⟩ := List.mem_filter.1 hy
    rwa [ts_inj hT h1 hx e] at h2
  · intro h
    exact ⟨x, List.mem_filter.2 ⟨hx, h⟩, rfl⟩
theorem blw_below {T : List SL} (hT : TSorted T) (hTr : Tree T) {p : Int × Int} (hp : p ≠ (0, 0)) : BelowL T p (blw T p) := by
  refine ⟨tkids_sorted _ hT, fun y hy => ?_, fun x hx => ?_⟩
  · unfold blw tkids at hy
    obtain ⟨x, hx, e⟩ := List.mem_map.1 hy
    exact List.mem_map.2 ⟨x, (List.mem_filter.1 hx).1, e⟩
  · obtain ⟨d, hl, hd⟩ := tree_rank hTr
    rw [mem_blw hT hx, isB, Bool.or_eq_true, decide_eq_true_iff]
    refine or_congr_right ?_
    cases e : tget T (par x) with
    | none =>
      refine ⟨fun h => (nomatch h), fun h => ?_⟩
      unfold blw tkids at h
      obtain ⟨z, hz, e2⟩ := List.mem_map.1 h
      exact absurd e2 (tget_none.1 e z (List.mem_filter.1 hz).1)
    | some y =>
      obtain ⟨hy, e2⟩ := tget_in e
      rw [← e2, mem_blw hT hy]
      show isB T p T.length (par y) = true ↔ _
      rw [isB_stable hTr hp hd T.length (par y) (hl _)]
theorem below_unique {T : List SL} (hTr : Tree T) {p : Int × Int} {D1 D2 : List (Int × Int)} (h1 : BelowL T p D1) (h2 : BelowL T p D2) : D1 = D2 := by
  obtain ⟨d, hd⟩ := hTr.2.2
  have hz : ∀ {D}, BelowL T p D → ((0, 0) : Int × Int) ∉ D := fun h hm => by
    obtain ⟨z, hz, e⟩ := List.mem_map.1 (h.sub _ hm)
    exact hTr.2.1 z hz e
  have key : ∀ {D1 D2}, BelowL T p D1 → BelowL T p D2 → ∀ n y, d y = n → y ∈ D1 → y ∈ D2 := by
    intro D1 D2 h1 h2 n
    induction n using Nat.strongRecOn with
    | _ n ih =>
      intro y hn hy
      obtain ⟨x, hx, rfl⟩ := List.mem_map.1 (h1.sub y hy)
      rcases (h1.iff x hx).1 hy with h | h
      · exact (h2.iff x hx).2 (.inl h)
      · have h3 := hd x hx fun e => hz h1 (e ▸ h)
        exact (h2.iff x hx).2 (.inr (ih _ (by omega) _ rfl h))
  refine pl_unique ((List.perm_ext_iff_of_nodup (plt_nodup h1.sorted) (plt_nodup h2.sorted)).2 fun y => ⟨key h1 h2 _ y rfl, key h2 h1 _ y rfl⟩) h2.sorted (h1.sorted.imp fun {x y} h => ?_)
  unfold plt at h ⊢
  omega
theorem blw_eq {T : List SL} (hT : TSorted T) (hTr : Tree T) {p : Int × Int} (hp : p ≠ (0, 0)) {D : List (Int × Int)} (h : BelowL T p D) : D = blw T p := below_unique hTr h (blw_below hT hTr hp)
theorem blw_len (T : List SL) (p : Int × Int) : (blw T p).length ≤ T.length := tkids_len ..
theorem blw_gone {T : List SL} (hT : TSorted T) (hTr : Tree T) {p : Int × Int} (hp : p ≠ (0, 0)) (h : tget T p = none) : blw T p = [] := by
  refine (blw_eq hT hTr hp ⟨List.Pairwise.nil, fun y hy => (nomatch hy), fun x hx => ⟨fun h => (nomatch h), fun h3 => ?_⟩⟩).symm
  rcases h3 with h3 | h3
  · rcases hTr.1 x hx with e | hm
    · exact absurd (h3.symm.trans e) hp
    · obtain ⟨z, hz, e⟩ := List.mem_map.1 hm
      exact absurd (e.trans h3) (tget_none.1 h z hz)
  · cases h3
/-- What is there after one went. -/
theorem mem_tkill {T : List SL} {k : Int × Int} {r y : SL} (h : tget T k = some r) : y ∈ tkill T k ↔ ∃ x ∈ T, sid x ≠ k ∧ y = if par x = k then upx x r.pn r.ps else x := by
  unfold tkill
  rw [h]
  show y ∈ tdrop (tturn T k.1 k.2 r.pn r.ps) k ↔ _
  unfold tdrop tturn
  rw [List.mem_filter, List.mem_map]
  have hk : ∀ x : SL, (x.pn = k.1 ∧ x.ps = k.2) ↔ par x = k := fun x => ⟨fun ⟨a, b⟩ => Prod.ext a b, fun e => ⟨congrArg Prod.fst e, congrArg Prod.snd e⟩⟩
  have hsid : ∀ x : SL, sid (if x.pn = k.1 ∧ x.ps = k.2 then upx x r.pn r.ps else x) = sid x := fun x => by split <;> rfl
  constructor
  · rintro ⟨⟨x, hx, rfl⟩, h2⟩
    rw [decide_eq_true_iff, hsid] at h2
    refine ⟨x, hx, h2, ?_⟩
    by_cases hp : par x = k
    · rw [if_pos hp, if_pos ((hk x).2 hp)]
    · rw [if_neg hp, if_neg fun e => hp ((hk x).1 e)]
  · rintro ⟨x, hx, h2, rfl⟩
    refine ⟨⟨x, hx, ?_⟩, ?_⟩
    · by_cases hp : par x = k
      · rw [if_pos hp, if_pos ((hk x).2 hp)]
      · rw [if_neg hp, if_neg fun e => hp ((hk x).1 e)]
    · rw [decide_eq_true_iff]
      by_cases hp : par x = k
      · rw [if_pos hp]; exact h2
      · rw [if_neg hp]; exact h2
theorem tree_kill {T : List SL} (hTr : Tree T) (k : Int × Int) : Tree (tkill T k) := by
  cases e : tget T k with
  | none => unfold tkill; rw [e]; exact hTr
  | some r =>
    obtain ⟨h1, h2, d, hd⟩ := hTr
    obtain ⟨hr, hrk⟩ := tget_in e
    have hin : ∀ u, u ∈ T.map sid → u ≠ k → u ∈ (tkill T k).map sid := fun u hu hn => by
      obtain ⟨x, hx, rfl⟩ := List.mem_map.1 hu
      refine List.mem_map.2 ⟨_, (mem_tkill e).2 ⟨x, hx, hn, rfl⟩, ?_⟩
      by_cases hp : par x = k
      · rw [if_pos hp]; rfl
      · rw [if_neg hp]
    have hk0 : k ≠ (0, 0) := fun e => h2 r hr (hrk.trans e)
    have hrp : ∀ x : SL, par (upx x r.pn r.ps) = par r := fun x => rfl
    refine ⟨fun y hy => ?_, fun y hy => ?_, d, fun y hy => ?_⟩
    · obtain ⟨x, hx, hn, rfl⟩ := (mem_tkill e).1 hy
      by_cases hp : par x = k
      · rw [if_pos hp, hrp]
        rcases h1 r hr with h | h
        · exact .inl h
        · by_cases hz : par r = (0, 0)
          · exact .inl hz
          · refine .inr (hin _ h fun e => ?_)
            have := hd r hr hz
            rw [e, hrk] at this
            omega
      · rw [if_neg hp]
        rcases h1 x hx with h | h
        · exact .inl h
        · exact .inr (hin _ h hp)
    · obtain ⟨x, hx, hn, rfl⟩ := (mem_tkill e).1 hy
      by_cases hp : par x = k
      · rw [if_pos hp]; exact h2 x hx
      · rw [if_neg hp]; exact h2 x hx
    · obtain ⟨x, hx, hn, rfl⟩ := (mem_tkill e).1 hy
      by_cases hp : par x = k
      · rw [if_pos hp, hrp]
        intro hz
        have i1 := hd r hr hz
        have i2 := hd x hx (by rw [hp]; exact hk0)
        rw [hp] at i2
        rw [hrk] at i1
        show d (par r) < d (sid x)
        omega
      · rw [if_neg hp]; exact hd x hx
theorem tree_nil : Tree [] := ⟨fun x hx => (nomatch hx), fun x hx => (nomatch hx), fun _ => 0, fun x hx => (nomatch hx)⟩
theorem tree_ins {T : List SL} {x : SL} (hTr : Tree T) (h0 : sid x ≠ (0, 0)) (hn : ∀ y ∈ T, sid y ≠ sid x) (hp : par x = (0, 0) ∨ par x ∈ T.map sid) : Tree (tins x T) := by
  obtain ⟨h1, h2, d, hd⟩ := hTr
  have hin : ∀ u, u ∈ T.map sid → u ∈ (tins x T).map sid := fun u hu => by
    obtain ⟨y, hy, rfl⟩ := List.mem_map.1 hu
    exact List.mem_map.2 ⟨y, mem_tins.2 (.inr hy), rfl⟩
  have hni : ∀ u, u ∈ T.map sid → u ≠ sid x := fun u hu => by
    obtain ⟨y, hy, rfl⟩ := List.mem_map.1 hu
    exact hn y hy
  refine ⟨fun y hy => ?_, fun y hy => ?_, fun u => if u = sid x then d (par x) + 1 else d u, fun y hy hz => ?_⟩
  · rcases mem_tins.1 hy with rfl | hy
    · exact hp.imp_right (hin _)
    · exact (h1 y hy).imp_right (hin _)
  · rcases mem_tins.1 hy with rfl | hy
    · exact h0
    · exact h2 y hy
  · rcases mem_tins.1 hy with rfl | hy
    · have : par y ≠ sid y := hni _ (hp.resolve_left hz)
      show (if par y = sid y then _ else _) < (if sid y = sid y then _ else _)
      rw [if_neg this, if_pos rfl]
      omega
    · have i1 : par y ≠ sid x := hni _ ((h1 y hy).resolve_left hz)
      show (if par y = sid x then _ else _) < (if sid y = sid x then _ else _)
      rw [if_neg i1, if_neg (hn y hy)]
      exact hd y hy hz
theorem canPut_tree {T : List SL} {x : SL} (h : canPut T x = true) : sid x ≠ (0, 0) ∧ (par x = (0, 0) ∨ par x ∈ T.map sid) := by
  unfold canPut at h
  rw [Bool.and_eq_true, Bool.and_eq_true, Bool.and_eq_true, Bool.or_eq_true, decide_eq_true_iff] at h
  obtain ⟨h1, _, _, h2⟩ := h
  rw [tget_isSome, decide_eq_true_iff] at h2
  unfold canPl at h1
  rw [decide_eq_true_iff] at h1
  refine ⟨fun e => ?_, h2.imp (fun ⟨a, b⟩ => Prod.ext a b) id⟩
  have : x.nd = 0 := congrArg Prod.fst e
  omega
theorem tree_put {T : List SL} (hTr : Tree T) (x : SL) : Tree (tput T x) := by
  unfold tput
  cases h : canPut T x with
  | false => exact hTr
  | true => exact tree_ins hTr (canPut_tree h).1 (canPut_new h) (canPut_tree h).2
section
variable {q : Nat} {T : List SL} {L : List HA} {st : PH}
/-- All below, as the list; whether or not the place is there. -/
theorem tblw_sat (hS : Sat (TbT q T :: L) st) (a b : Int) (hb : T.length ≤ 100000) (hTr : Tree T) (hp : (a, b) ≠ ((0, 0) : Int × Int)) :
    ACalls Try.prog 19 [.pointer (some ⟨q, 0, none⟩), .agg #[.int .i64 a, .int .i64 b]].toArray st fun v s => ∃ ar c, v = .slice ar (blw T (a, b)).length c ∧ Sat (SlB ar (blw T (a, b)).length c 29 2 (fl pcV (blw T (a, b))) :: TbT q T :: L) s := by
  have hs := (tbT_open hS).1
  cases e : (tget T (a, b)).isSome with
  | true =>
    refine (tbelow_sat hS a b hb hTr e).mono fun v s ⟨ar, c, D, ⟨h1, h2⟩, h3⟩ => ?_
    obtain rfl := blw_eq hs hTr hp h2
    exact ⟨ar, c, h1, h3⟩
  | false =>
    have hg := isSome_none e
    rw [blw_gone hs hTr hp hg]
    have hk : kidsP T (a, b) = [] := by
      unfold kidsP tkids
      rw [List.map_eq_nil_iff, List.filter_eq_nil_iff]
      intro x hx h
      have h := of_decide_eq_true h
      have hpx : par x = (a, b) := Prod.ext h.1 h.2
      rcases hTr.1 x hx with e | hm
      · exact hp (hpx.symm.trans e)
      · obtain ⟨z, hz, e⟩ := List.mem_map.1 hm
        exact tget_none.1 hg z hz (e.trans hpx)
    have ch0 := fun {L s} hS => tkids_sat (q := q) (T := T) (L := L) (st := s) hS a b hb (fun _ x hx h => by
      have hpx : par x = (a, b) := Prod.ext h.1 h.2
      rcases hTr.1 x hx with e | hm
      · exact hp (hpx.symm.trans e)
      · obtain ⟨z, hz, e⟩ := List.mem_map.1 hm
        exact tget_none.1 hg z hz (e.trans hpx))
    rw [hk, List.length_nil] at ch0
    rw [List.length_nil]
    have so := fun {a c L s} hS => plsort_sat (a := a) (cap := c) (l := []) (n := 0) (L := L) (st := s) hS rfl (by decide)
    clear e hg hk hp
    (refine acalls_of_hwp Try.func19 rfl rfl ?_; simp only [Try.ntmps19, List.length_cons, List.length_nil, Nat.reduceAdd, Nat.reduceSub, List.replicate_succ, List.replicate_zero, List.cons_append, List.nil_append])
    repeat' first | (with_reducible refine gateCall (f := 50) ?_; first | (with_reducible refine ⟨real50, ACalls.mono (ch0 (sat_pick (by (repeat' first | (with_reducible exact .here) | (with_reducible apply Pick.there)); first | done | fail) hS)) ?_⟩; rintro v_ s_ ⟨a1_, c1_, rfl, hS⟩)) | (with_reducible refine semK_build ?_) | (with_reducible refine semK_make ?_) | (with_reducible refine semK_slice ?_) | (with_reducible refine semK_makeFunc ?_) | (with_reducible refine roundsK_step ?_) | (with_reducible refine gateSem ?_; first | (with_reducible refine ap1_22 (by omega) hS (by (repeat' first | (with_reducible exact .here) | (with_reducible apply Pick.there)); first | done | fail) (by (repeat' first | (with_reducible exact .here) | (with_reducible apply Pick.there)); first | done | fail) (by with_unfolding_all rfl) (by with_unfolding_all rfl) (fun a1_ c1_ s_ hS => ?_)) | (with_reducible refine ap1_38 (by omega) hS (by (repeat' first | (with_reducible exact .here) | (with_reducible apply Pick.there)); first | done | fail) (by (repeat' first | (with_reducible exact .here) | (with_reducible apply Pick.there)); first | done | fail) (by with_unfolding_all rfl) (by with_unfolding_all rfl) (fun a1_ c1_ s_ hS => ?_)) | (with_reducible refine ap1_49 (by omega) hS (by (repeat' first | (with_reducible exact .here) | (with_reducible apply Pick.there)); first | done | fail) (by (repeat' first | (with_reducible exact .here) | (with_reducible apply Pick.there)); first | done | fail) (by with_unfolding_all rfl) (by with_unfolding_all rfl) (fun a1_ c1_ s_ hS => ?_)) | (with_reducible refine ap1_62 (by omega) hS (by (repeat' first | (with_reducible exact .here) | (with_reducible apply Pick.there)); first | done | fail) (by (repeat' first | (with_reducible exact .here) | (with_reducible apply Pick.there)); first | done | fail) (by with_unfolding_all rfl) (by with_unfolding_all rfl) (fun a1_ c1_ s_ hS => ?_))) | (with_reducible refine gOv ?_; first | (with_reducible refine ov_pt hS (by (repeat' first | (with_reducible exact .here) | (with_reducible apply Pick.there)); first | done | fail) (by with_unfolding_all rfl) ?_) | ((first | replace hS := sat_mrg (by (repeat' first | (with_reducible exact .here) | (with_reducible apply Mrg.there)); first | done | fail) hT hS | (replace hS := sat_thaw (by (repeat' first | (with_reducible exact .here) | (with_reducible apply Pick.there)); first | done | fail) hT hS; simp only [List.cons_append, List.nil_append] at hS)); clear hT)) | (with_reducible refine gAg ?_; first | (with_reducible refine ov_agg hS (by (repeat' first | (with_reducible exact .here) | (with_reducible apply Pick.there)); first | done | fail) (by first | (simp only [List.size_toArray, List.length_cons, List.length_nil]; done) | (simp only [List.size_toArray, List.length_cons, List.length_nil]; omega) | omega) ?_) | ((first | replace hS := sat_mrg (by (repeat' first | (with_reducible exact .here) | (with_reducible apply Mrg.there)); first | done | fail) hT hS | (replace hS := sat_thaw (by (repeat' first | (with_reducible exact .here) | (with_reducible apply Pick.there)); first | done | fail) hT hS; simp only [List.cons_append, List.nil_append] at hS)); clear hT)) | (with_reducible refine gRd ?_; first | (with_reducible refine rd_pt hT (by (repeat' first | (with_reducible exact .here) | (with_reducible apply Pick.there)); first | done | fail) (by with_unfolding_all rfl) ?_)) | (with_reducible refine gRa ?_; first | (with_reducible refine rd_agg hT (by (repeat' first | (with_reducible exact .here) | (with_reducible apply Pick.there)); first | done | fail) (by first | (simp only [List.size_toArray, List.length_cons, List.length_nil]; done) | (simp only [List.size_toArray, List.length_cons, List.length_nil]; omega) | omega) ?_)) | (with_reducible refine gSt ?_; first | (with_reducible refine st_pt hS (by (repeat' first | (with_reducible exact .here) | (with_reducible apply Pick.there)); first | done | fail) (by first | (simp only [List.size_toArray, List.length_cons, List.length_nil]; done) | (simp only [List.size_toArray, List.length_cons, List.length_nil]; omega) | omega) (by simp only [spl, List.setIfInBounds_toArray, List.set_cons_succ, List.set_cons_zero] <;> rfl) (fun s_ hS => ?_)) | ((first | replace hS := sat_mrg (by (repeat' first | (with_reducible exact .here) | (with_reducible apply Mrg.there)); first | done | fail) hT hS | (replace hS := sat_thaw (by (repeat' first | (with_reducible exact .here) | (with_reducible apply Pick.there)); first | done | fail) hT hS; simp only [List.cons_append, List.nil_append] at hS)); clear hT)) | (with_reducible refine gNew ?_; with_reducible refine new_pt hS (fun p_ s_ hS => ?_)) | (with_reducible refine gLie ?_; first | (with_reducible refine lies_is hS (by (repeat' first | (with_reducible exact .here) | (with_reducible apply Pick.there)); first | done | fail) ?_) | (with_reducible refine lies_0 ?_)) | (with_reducible refine gateDraw ?_; first | ((first | replace hS := sat_mrg (by (repeat' first | (with_reducible exact .here) | (with_reducible apply Mrg.there)); first | done | fail) hT hS | (replace hS := sat_thaw (by (repeat' first | (with_reducible exact .here) | (with_reducible apply Pick.there)); first | done | fail) hT hS; simp only [List.cons_append, List.nil_append] at hS)); clear hT) | (with_reducible refine draw_L mixed hS (by decide +kernel) (fun hT hS => ?_)) | (with_reducible refine draw_S mixed hS (by decide +kernel) (fun hT hS => ?_))) | (with_reducible refine guardK_decn (fun h_ => ?_) (fun h_ => ?_) <;> (try (exfalso; omega))) | (with_reducible refine condK_decn (fun h_ => ?_) (fun h_ => ?_) <;> (try (exfalso; omega))) | (with_reducible refine guardK_dec (fun h_ => ?_) (fun h_ => ?_) <;> (try (exfalso; omega))) | (with_reducible refine condK_dec (fun h_ => ?_) (fun h_ => ?_) <;> (try (exfalso; omega))) | (with_reducible refine and_row (by assumption) (by omega) ?_) | (with_reducible refine and_row1 (by assumption) (by omega) (by omega) ?_) | (with_reducible refine and_row2 (by assumption) (by omega) ?_) | (with_reducible refine gateSom ?_; first | (with_reducible refine and_row2 (slb_some (sat_pick (by (repeat' first | (with_reducible exact .here) | (with_reducible apply Pick.there)); first | done | fail) hS)) (by omega) ?_) | (with_reducible refine and_row2 (slb_some (sat_pick (by (repeat' first | (with_reducible exact .here) | (with_reducible apply Pick.there)); first | done | fail) hT)) (by omega) ?_)) | (with_reducible refine gateSome3 ?_; first | (with_reducible refine and_row (slb_some (sat_pick (by (repeat' first | (with_reducible exact .here) | (with_reducible apply Pick.there)); first | done | fail) hS)) (by omega) ?_) | (with_reducible refine and_row (slb_some (sat_pick (by (repeat' first | (with_reducible exact .here) | (with_reducible apply Pick.there)); first | done | fail) hT)) (by omega) ?_) | (with_reducible refine and_row1 (slb_some (sat_pick (by (repeat' first | (with_reducible exact .here) | (with_reducible apply Pick.there)); first | done | fail) hS)) (by omega) (by omega) ?_) | (with_reducible refine and_row1 (slb_some (sat_pick (by (repeat' first | (with_reducible exact .here) | (with_reducible apply Pick.there)); first | done | fail) hT)) (by omega) (by omega) ?_)) | (with_reducible refine And.intro ?_ ?_; (first | assumption | omega)) | (simp (disch := first | assumption | omega) only [push_cast, Int.toNat_natCast, Nat.reduceAdd, Nat.reduceLeDiff, Nat.reduceMul, Nat.reduceSub, Int.reduceToNat, Int.reduceLT, Int.reduceLE, Int.reduceEq, Int.reduceAdd, Int.reduceSub, Int.reduceMul, Int.reduceNeg, Nat.reduceLT, Nat.reduceEqDiff, Int.reduceMod, Int.reduceDiv, Nat.reduceMod, Nat.reduceDiv, *]) | (with_reducible refine guardK_nbool (fun h_ => ?_) (fun h_ => ?_)) | (with_reducible refine guardK_bool (fun h_ => ?_) (fun h_ => ?_)) | (with_reducible refine condK_nbool (fun h_ => ?_) (fun h_ => ?_)) | (with_reducible refine condK_abool (fun h_ => ?_) (fun h_ => ?_))
    refine hloop [5, 6, 10, 11, 12, 13, 14, 15, 16, 17, 18, 19, 20, 21, 22, 23] (fun _ : Unit => [(6, .int .i64 0), (5, .slice a1_ 0 c1_)]) (fun _ s => Sat (SlB a1_ 0 c1_ 29 2 (fl pcV []) :: TbT q T :: L) s) (fun x => 0) () _ ⟨rfl, rfl, trivial⟩ (Lies.refl _) (sat_go (by (repeat' first | (with_reducible exact .here) | (with_reducible apply Pick.there) | (with_reducible exact sat_same) | (with_reducible exact sat_none) | (with_reducible apply sat_take') | (with_reducible apply sat_drop')); first | done | fail) hS) ?_
    clear hS ch0
    intro a_ js_ s_ hjs_ hv_ hi_; obtain ⟨j5_, js_, rfl, hjs0_⟩ := len_cons hjs_; clear hjs_; obtain ⟨j6_, js_, rfl, hjs1_⟩ := len_cons hjs0_; clear hjs0_; obtain ⟨j10_, js_, rfl, hjs2_⟩ := len_cons hjs1_; clear hjs1_; obtain ⟨j11_, js_, rfl, hjs3_⟩ := len_cons hjs2_; clear hjs2_; obtain ⟨j12_, js_, rfl, hjs4_⟩ := len_cons hjs3_; clear hjs3_; obtain ⟨j13_, js_, rfl, hjs5_⟩ := len_cons hjs4_; clear hjs4_; obtain ⟨j14_, js_, rfl, hjs6_⟩ := len_cons hjs5_; clear hjs5_; obtain ⟨j15_, js_, rfl, hjs7_⟩ := len_cons hjs6_; clear hjs6_; obtain ⟨j16_, js_, rfl, hjs8_⟩ := len_cons hjs7_; clear hjs7_; obtain ⟨j17_, js_, rfl, hjs9_⟩ := len_cons hjs8_; clear hjs8_; obtain ⟨j18_, js_, rfl, hjs10_⟩ := len_cons hjs9_; clear hjs9_; obtain ⟨j19_, js_, rfl, hjs11_⟩ := len_cons hjs10_; clear hjs10_; obtain ⟨j20_, js_, rfl, hjs12_⟩ := len_cons hjs11_; clear hjs11_; obtain ⟨j21_, js_, rfl, hjs13_⟩ := len_cons hjs12_; clear hjs12_; obtain ⟨j22_, js_, rfl, hjs14_⟩ := len_cons hjs13_; clear hjs13_; obtain ⟨j23_, js_, rfl, hjs15_⟩ := len_cons hjs14_; clear hjs14_; obtain rfl := List.eq_nil_of_length_eq_zero hjs15_; clear hjs15_; simp only [setL_cons, setL_nil, List.set_cons_zero, List.set_cons_succ, List.getD_cons_zero, List.getD_cons_succ, holds_cons, holds_nil, and_true] at hv_; simp only [setL_cons, setL_nil, List.set_cons_zero, List.set_cons_succ, List.getD_cons_zero, List.getD_cons_succ, holds_cons, holds_nil, and_true]; generalize hB_ : Back _ _ _ _ _ _ = B_
    obtain ⟨rfl, rfl⟩ := hv_
    have hS := hi_
    repeat' first | (with_reducible refine gateCall (f := 51) ?_; first | (with_reducible refine ⟨real51, ACalls.mono (so (sat_pick (by (repeat' first | (with_reducible exact .here) | (with_reducible apply Pick.there)); first | done | fail) hS)) ?_⟩; rintro v_ s_ ⟨rfl, C_, hp_, hs_, hS⟩)) | (with_reducible refine semK_build ?_) | (with_reducible refine semK_make ?_) | (with_reducible refine semK_slice ?_) | (with_reducible refine semK_makeFunc ?_) | (with_reducible refine roundsK_step ?_) | (with_reducible refine gateSem ?_; first | (with_reducible refine ap1_22 (by omega) hS (by (repeat' first | (with_reducible exact .here) | (with_reducible apply Pick.there)); first | done | fail) (by (repeat' first | (with_reducible exact .here) | (with_reducible apply Pick.there)); first | done | fail) (by with_unfolding_all rfl) (by with_unfolding_all rfl) (fun a1_ c1_ s_ hS => ?_)) | (with_reducible refine ap1_38 (by omega) hS (by (repeat' first | (with_reducible exact .here) | (with_reducible apply Pick.there)); first | done | fail) (by (repeat' first | (with_reducible exact .here) | (with_reducible apply Pick.there)); first | done | fail) (by with_unfolding_all rfl) (by with_unfolding_all rfl) (fun a1_ c1_ s_ hS => ?_)) | (with_reducible refine ap1_49 (by omega) hS (by (repeat' first | (with_reducible exact .here) | (with_reducible apply Pick.there)); first | done | fail) (by (repeat' first | (with_reducible exact .here) | (with_reducible apply Pick.there)); first | done | fail) (by with_unfolding_all rfl) (by with_unfolding_all rfl) (fun a1_ c1_ s_ hS => ?_)) | (with_reducible refine ap1_62 (by omega) hS (by (repeat' first | (with_reducible exact .here) | (with_reducible apply Pick.there)); first | done | fail) (by (repeat' first | (with_reducible exact .here) | (with_reducible apply Pick.there)); first | done | fail) (by with_unfolding_all rfl) (by with_unfolding_all rfl) (fun a1_ c1_ s_ hS => ?_))) | (with_reducible refine gOv ?_; first | (with_reducible refine ov_pt hS (by (repeat' first | (with_reducible exact .here) | (with_reducible apply Pick.there)); first | done | fail) (by with_unfolding_all rfl) ?_) | ((first | replace hS := sat_mrg (by (repeat' first | (with_reducible exact .here) | (with_reducible apply Mrg.there)); first | done | fail) hT hS | (replace hS := sat_thaw (by (repeat' first | (with_reducible exact .here) | (with_reducible apply Pick.there)); first | done | fail) hT hS; simp only [List.cons_append, List.nil_append] at hS)); clear hT)) | (with_reducible refine gAg ?_; first | (with_reducible refine ov_agg hS (by (repeat' first | (with_reducible exact .here) | (with_reducible apply Pick.there)); first | done | fail) (by first | (simp only [List.size_toArray, List.length_cons, List.length_nil]; done) | (simp only [List.size_toArray, List.length_cons, List.length_nil]; omega) | omega) ?_) | ((first | replace hS := sat_mrg (by (repeat' first | (with_reducible exact .here) | (with_reducible apply Mrg.there)); first | done | fail) hT hS | (replace hS := sat_thaw (by (repeat' first | (with_reducible exact .here) | (with_reducible apply Pick.there)); first | done | fail) hT hS; simp only [List.cons_append, List.nil_append] at hS)); clear hT)) | (with_reducible refine gRd ?_; first | (with_reducible refine rd_pt hT (by (repeat' first | (with_reducible exact .here) | (with_reducible apply Pick.there)); first | done | fail) (by with_unfolding_all rfl) ?_)) | (with_reducible refine gRa ?_; first | (with_reducible refine rd_agg hT (by (repeat' first | (with_reducible exact .here) | (with_reducible apply Pick.there)); first | done | fail) (by first | (simp only [List.size_toArray, List.length_cons, List.length_nil]; done) | (simp only [List.size_toArray, List.length_cons, List.length_nil]; omega) | omega) ?_)) | (with_reducible refine gSt ?_; first | (with_reducible refine st_pt hS (by (repeat' first | (with_reducible exact .here) | (with_reducible apply Pick.there)); first | done | fail) (by first | (simp only [List.size_toArray, List.length_cons, List.length_nil]; done) | (simp only [List.size_toArray, List.length_cons, List.length_nil]; omega) | omega) (by simp only [spl, List.setIfInBounds_toArray, List.set_cons_succ, List.set_cons_zero] <;> rfl) (fun s_ hS => ?_)) | ((first | replace hS := sat_mrg (by (repeat' first | (with_reducible exact .here) | (with_reducible apply Mrg.there)); first | done | fail) hT hS | (replace hS := sat_thaw (by (repeat' first | (with_reducible exact .here) | (with_reducible apply Pick.there)); first | done | fail) hT hS; simp only [List.cons_append, List.nil_append] at hS)); clear hT)) | (with_reducible refine gNew ?_; with_reducible refine new_pt hS (fun p_ s_ hS => ?_)) | (with_reducible refine gLie ?_; first | (with_reducible refine lies_is hS (by (repeat' first | (with_reducible exact .here) | (with_reducible apply Pick.there)); first | done | fail) ?_) | (with_reducible refine lies_0 ?_)) | (with_reducible refine gateDraw ?_; first | ((first | replace hS := sat_mrg (by (repeat' first | (with_reducible exact .here) | (with_reducible apply Mrg.there)); first | done | fail) hT hS | (replace hS := sat_thaw (by (repeat' first | (with_reducible exact .here) | (with_reducible apply Pick.there)); first | done | fail) hT hS; simp only [List.cons_append, List.nil_append] at hS)); clear hT) | (with_reducible refine draw_L mixed hS (by decide +kernel) (fun hT hS => ?_)) | (with_reducible refine draw_S mixed hS (by decide +kernel) (fun hT hS => ?_))) | (with_reducible refine guardK_decn (fun h_ => ?_) (fun h_ => ?_) <;> (try (exfalso; omega))) | (with_reducible refine condK_decn (fun h_ => ?_) (fun h_ => ?_) <;> (try (exfalso; omega))) | (with_reducible refine guardK_dec (fun h_ => ?_) (fun h_ => ?_) <;> (try (exfalso; omega))) | (with_reducible refine condK_dec (fun h_ => ?_) (fun h_ => ?_) <;> (try (exfalso; omega))) | (with_reducible refine and_row (by assumption) (by omega) ?_) | (with_reducible refine and_row1 (by assumption) (by omega) (by omega) ?_) | (with_reducible refine and_row2 (by assumption) (by omega) ?_) | (with_reducible refine gateSom ?_; first | (with_reducible refine and_row2 (slb_some (sat_pick (by (repeat' first | (with_reducible exact .here) | (with_reducible apply Pick.there)); first | done | fail) hS)) (by omega) ?_) | (with_reducible refine and_row2 (slb_some (sat_pick (by (repeat' first | (with_reducible exact .here) | (with_reducible apply Pick.there)); first | done | fail) hT)) (by omega) ?_)) | (with_reducible refine gateSome3 ?_; first | (with_reducible refine and_row (slb_some (sat_pick (by (repeat' first | (with_reducible exact .here) | (with_reducible apply Pick.there)); first | done | fail) hS)) (by omega) ?_) | (with_reducible refine and_row (slb_some (sat_pick (by (repeat' first | (with_reducible exact .here) | (with_reducible apply Pick.there)); first | done | fail) hT)) (by omega) ?_) | (with_reducible refine and_row1 (slb_some (sat_pick (by (repeat' first | (with_reducible exact .here) | (with_reducible apply Pick.there)); first | done | fail) hS)) (by omega) (by omega) ?_) | (with_reducible refine and_row1 (slb_some (sat_pick (by (repeat' first | (with_reducible exact .here) | (with_reducible apply Pick.there)); first | done | fail) hT)) (by omega) (by omega) ?_)) | (with_reducible refine And.intro ?_ ?_; (first | assumption | omega)) | (simp (disch := first | assumption | omega) only [push_cast, Int.toNat_natCast, Nat.reduceAdd, Nat.reduceLeDiff, Nat.reduceMul, Nat.reduceSub, Int.reduceToNat, Int.reduceLT, Int.reduceLE, Int.reduceEq, Int.reduceAdd, Int.reduceSub, Int.reduceMul, Int.reduceNeg, Nat.reduceLT, Nat.reduceEqDiff, Int.reduceMod, Int.reduceDiv, Nat.reduceMod, Nat.reduceDiv, *]) | (with_reducible refine guardK_nbool (fun h_ => ?_) (fun h_ => ?_)) | (with_reducible refine guardK_bool (fun h_ => ?_) (fun h_ => ?_)) | (with_reducible refine condK_nbool (fun h_ => ?_) (fun h_ => ?_)) | (with_reducible refine condK_abool (fun h_ => ?_) (fun h_ => ?_))
    obtain rfl := hp_.eq_nil
    exact gret1 rfl ⟨a1_, c1_, rfl, sat_go (by (repeat' first | (with_reducible exact .here) | (with_reducible apply Pick.there) | (with_reducible exact sat_same) | (with_reducible exact sat_none) | (with_reducible apply sat_take') | (with_reducible apply sat_drop')); first | done | fail) hS⟩
end
end Go.Proofs.Ytfmfkablbaoofaa.Ae
