/- Slots: all that is below a place: the program's table; no condition beyond the ones that each theorem names. -/
import Derived.Test.YtfmfkablbaoofaaDxKillParents
set_option linter.unusedVariables false
set_option linter.unusedSimpArgs false
set_option maxRecDepth 100000
set_option maxHeartbeats 4000000
namespace Go.Proofs.Ytfmfkablbaoofaa.Ae
open Go Go.Proofs.Ytfmfkablbaoofaa.Bits
attribute [local irreducible] Ret ACalls
def par (x : SL) : Int × Int := (x.pn, x.ps)
/-- Each parent is there, and none is below itself. -/
def Tree (T : List SL) : Prop := (∀ x ∈ T, par x = (0, 0) ∨ par x ∈ T.map sid) ∧ (∀ x ∈ T, sid x ≠ (0, 0)) ∧ ∃ d : Int × Int → Nat, ∀ x ∈ T, par x ≠ (0, 0) → d (par x) < d (sid x)
def kidsP (T : List SL) (p : Int × Int) : List (Int × Int) := tkids T fun x => decide (x.pn = p.1 ∧ x.ps = p.2)
theorem mem_kids {T : List SL} {p k : Int × Int} : k ∈ kidsP T p ↔ ∃ x ∈ T, par x = p ∧ sid x = k := by
  unfold kidsP tkids par
  rw [List.mem_map]
  constructor
  · rintro ⟨x, hx, e⟩
    obtain ⟨h1, h2⟩ := List.mem_filter.1 hx
    have h3 := of_decide_eq_true h2
    exact ⟨x, h1, Prod.ext h3.1 h3.2, e⟩
  · rintro ⟨x, h1, h2, h3⟩
    exact ⟨x, List.mem_filter.2 ⟨h1, decide_eq_true ⟨congrArg Prod.fst h2, congrArg Prod.snd h2⟩⟩, h3⟩
theorem plt_nodup {l : List (Int × Int)} (h : l.Pairwise plt) : l.Nodup := h.imp fun {a b} hab e => by subst e; unfold plt at hab; omega
theorem kids_nodup {T : List SL} (hT : TSorted T) (p : Int × Int) : (kidsP T p).Nodup := plt_nodup (tkids_sorted _ hT)
/-- What was found so far, of so many the children. -/
structure BelowI (T : List SL) (p : Int × Int) (out : List (Int × Int)) (k : Nat) : Prop where
  nodup : out.Nodup
  sub : ∀ y ∈ out, y ∈ T.map sid
  iff : ∀ x ∈ T, sid x ∈ out ↔ (par x = p ∨ par x ∈ out.take k)
theorem below_start {T : List SL} (hT : TSorted T) (p : Int × Int) : BelowI T p (kidsP T p) 0 := by
  refine ⟨kids_nodup hT p, fun y hy => ?_, fun x hx => ?_⟩
  · obtain ⟨x, h1, _, h3⟩ := mem_kids.1 hy
    exact List.mem_map.2 ⟨x, h1, h3⟩
  · rw [mem_kids, List.take_zero]
    constructor
    · rintro ⟨z, h1, h2, h3⟩
      rw [ts_inj hT h1 hx h3] at h2
      exact .inl h2
    · rintro (h | h)
      · exact ⟨x, hx, h, rfl⟩
      · cases h
theorem nodup_len {α : Type} [DecidableEq α] : ∀ {l1 l2 : List α}, l1.Nodup → (∀ x ∈ l1, x ∈ l2) → l1.length ≤ l2.length := by
  intro l1
  induction l1 with
  | nil => intro l2 _ _; exact Nat.zero_le _
  | cons x l1 ih =>
    intro l2 hn hs
    obtain ⟨h1, h2⟩ := List.nodup_cons.1 hn
    have hx := hs x (List.mem_cons_self ..)
    have h3 := ih (l2 := l2.erase x) h2 fun y hy => (List.mem_erase_of_ne (fun e => h1 (by rw [← e]; exact hy))).2 (hs y (List.mem_cons_of_mem _ hy))
    rw [List.length_erase_of_mem hx] at h3
    have := List.length_pos_of_mem hx
    rw [List.length_cons]
    omega
theorem below_len {T : List SL} {p : Int × Int} {out : List (Int × Int)} {k : Nat} (h : BelowI T p out k) : out.length ≤ T.length := by
  have := nodup_len h.nodup h.sub
  rwa [List.length_map] at this
/-- None of them is the place itself, nor (0, 0). -/
theorem below_rank {T : List SL} (hTr : Tree T) {p : Int × Int} (hp : p ≠ (0, 0)) {out : List (Int × Int)} {k : Nat} (h : BelowI T p out k) {d : Int × Int → Nat} (hd : ∀ x ∈ T, par x ≠ (0, 0) → d (par x) < d (sid x)) : ∀ y ∈ out, d p < d y := by
  suffices H : ∀ n y, d y = n → y ∈ out → d p < d y from fun y hy => H _ y rfl hy
  intro n
  induction n using Nat.strongRecOn with
  | _ n ih =>
    intro y hn hy
    obtain ⟨x, hx, e⟩ := List.mem_map.1 (h.sub y hy)
    subst e
    rcases (h.iff x hx).1 hy with h1 | h1
    · rw [← h1]
      exact hd x hx (by rw [h1]; exact hp)
    · have h2 := List.mem_of_mem_take h1
      have h3 : par x ≠ (0, 0) := fun e => by
        rw [e] at h2
        obtain ⟨z, hz, e2⟩ := List.mem_map.1 (h.sub _ h2)
        exact hTr.2.1 z hz e2
      have h4 := hd x hx h3
      have := ih _ (by omega) (par x) rfl h2
      omega
theorem below_next {T : List SL} (hT : TSorted T) (hTr : Tree T) {p : Int × Int} (hp : p ≠ (0, 0)) {out : List (Int × Int)} {k : Nat} (h : BelowI T p out k) (hk : k < out.length) : BelowI T p (out ++ kidsP T (out.getD k (0, 0))) (k + 1) := by
  obtain ⟨d, hd⟩ := hTr.2.2
  have hr := below_rank hTr hp h hd
  have hq : out.getD k (0, 0) ∈ out := by
    rw [List.getD_eq_getElem?_getD, List.getElem?_eq_getElem hk]
    exact List.getElem_mem _
  have hqe : out.take (k + 1) = out.take k ++ [out.getD k (0, 0)] := by
    rw [List.take_add_one, List.getElem?_eq_getElem hk, List.getD_eq_getElem?_getD, List.getElem?_eq_getElem hk]
    rfl
  have hqn : out.getD k (0, 0) ∉ out.take k := by
    have hn := h.nodup
    rw [← List.take_append_drop (k + 1) out, hqe] at hn
    have := (List.nodup_append.1 (List.nodup_append.1 hn).1).2.2
    exact fun hm => this _ hm _ (List.mem_singleton.2 rfl) rfl
  have hqp : out.getD k (0, 0) ≠ p := fun e => by have := hr _ hq; rw [e] at this; omega
  generalize out.getD k (0, 0) = q at *
  refine ⟨?_, ?_, ?_⟩
  · refine List.nodup_append.2 ⟨h.nodup, kids_nodup hT q, fun a ha b hb e => ?_⟩
    subst e
    obtain ⟨x, h1, h2, h3⟩ := mem_kids.1 hb
    rw [← h3] at ha
    rcases (h.iff x h1).1 ha with h4 | h4
    · exact hqp (h2.symm.trans h4)
    · rw [h2] at h4; exact hqn h4
  · intro y hy
    rcases List.mem_append.1 hy with h1 | h1
    · exact h.sub y h1
    · obtain ⟨x, h2, _, h3⟩ := mem_kids.1 h1
      exact List.mem_map.2 ⟨x, h2, h3⟩
  · intro x hx
    rw [List.mem_append, mem_kids, h.iff x hx, List.take_append_of_le_length (by omega), hqe, List.mem_append, List.mem_singleton]
    constructor
    · rintro (h1 | ⟨z, h1, h2, h3⟩)
      · rcases h1 with h1 | h1
        · exact .inl h1
        · exact .inr (.inl h1)
      · rw [ts_inj hT h1 hx h3] at h2
        exact .inr (.inr h2)
    · rintro (h1 | h1 | h1)
      · exact .inl (.inl h1)
      · exact .inl (.inr h1)
      · exact .inr ⟨x, hx, h1, rfl⟩
/-- All that is below a place: the places, rising. -/
structure BelowL (T : List SL) (p : Int × Int) (D : List (Int × Int)) : Prop where
  sorted : D.Pairwise plt
  sub : ∀ y ∈ D, y ∈ T.map sid
  iff : ∀ x ∈ T, sid x ∈ D ↔ (par x = p ∨ par x ∈ D)
theorem pairwise_total {l : List (Int × Int)} (h : l.Pairwise (fun x y => ¬ plt y x)) (hn : l.Nodup) : l.Pairwise plt := by
  refine (List.pairwise_and_iff.2 ⟨h, hn⟩).imp fun {x y} ⟨h1, h2⟩ => ?_
  have : ¬ (x.1 = y.1 ∧ x.2 = y.2) := fun ⟨a, b⟩ => h2 (Prod.ext a b)
  unfold plt at h1 ⊢
  omega
theorem below_done {T : List SL} {p : Int × Int} {out D : List (Int × Int)} (h : BelowI T p out out.length) (hp : D.Perm out) (hs : D.Pairwise (fun x y => ¬ plt y x)) : BelowL T p D := by
  refine ⟨pairwise_total hs (hp.nodup_iff.2 h.nodup), fun y hy => h.sub y (hp.mem_iff.1 hy), fun x hx => ?_⟩
  rw [hp.mem_iff, hp.mem_iff, h.iff x hx, List.take_length]
theorem pl_one (l : List (Int × Int)) : (fl pcV l).all Value.oneCell = true := by
  rw [List.all_eq_true]
  intro v hv
  unfold fl at hv
  obtain ⟨x, _, hx⟩ := List.mem_flatMap.1 hv
  simp only [pcV, List.mem_cons, List.not_mem_nil, or_false] at hx
  rcases hx with rfl | rfl <;> rfl
theorem app_pl {st : PH} {K : Value → PH → Prop} {a xb : Option Addr} {n m cap xc : Nat} {l1 l2 : List (Int × Int)} {L : List HA} (h2 : l2.length = m) (hb : n + m ≤ 1000000) (ho : Sat (SlB a n cap 29 2 (fl pcV l1) :: L) st) (hx : Reads st xb (fl pcV l2))
    (h : ∀ a' c' s', Sat (SlB a' (n + m) c' 29 2 (fl pcV (l1 ++ l2)) :: L) s' → K (.slice a' (n + m) c') s') : SemK Try.prog (Builtin.append_ [38, 38].toArray 0 [.slice a n cap, .slice xb m xc].toArray) st K := by
  refine semK_app (sz := 2) (z := .agg #[.int .i64 0, .int .i64 0]) (e2 := 29) (by kernel_rfl) (by kernel_rfl) (by kernel_rfl) (by kernel_rfl) rfl (by kernel_rfl) (by rw [show tby Try.prog 29 = 16 by kernel_rfl]; decide) (by rw [show tby Try.prog 29 = 16 by kernel_rfl]; decide) (by omega) ho hx (by rw [fl_length pcV_len, h2]) (pl_one _) fun a' c' s' hs => h a' c' s' ?_
  rw [fl_app]; exact hs
section
variable {q : Nat} {T : List SL} {L : List HA} {st : PH}
theorem tkids_sat (hS : Sat (TbT q T :: L) st) (a b : Int) (hb : T.length ≤ 100000) (hab : (tget T (a, b)).isSome = false → ∀ x ∈ T, ¬ (x.pn = a ∧ x.ps = b)) :
    ACalls Try.prog 50 [.pointer (some ⟨q, 0, none⟩), .agg #[.int .i64 a, .int .i64 b]].toArray st fun v s => ∃ ar c, v = .slice ar (kidsP T (a, b)).length c ∧ Sat (SlB ar (kidsP T (a, b)).length c 29 2 (fl pcV (kidsP T (a, b))) :: TbT q T :: L) s := by
  obtain ⟨hs, m, l, hm, hS⟩ := tbT_open hS
  exact (tkids_o hs hm hS a b hb hab).mono fun v s ⟨ar, c, e, h⟩ => ⟨ar, c, e, sat_tail (fun _ h => tbT_shut hs hm h) h⟩
theorem tbelow_sat (hS : Sat (TbT q T :: L) st) (a b : Int) (hb : T.length ≤ 100000) (hTr : Tree T) (hab : (tget T (a, b)).isSome = true) :
    ACalls Try.prog 19 [.pointer (some ⟨q, 0, none⟩), .agg #[.int .i64 a, .int .i64 b]].toArray st fun v s => ∃ ar c D, (v = .slice ar D.length c ∧ BelowL T (a, b) D) ∧ Sat (SlB ar D.length c 29 2 (fl pcV D) :: TbT q T :: L) s := by
  have hs := (tbT_open hS).1
  have hp : (a, b) ≠ ((0, 0) : Int × Int) := fun e => by
    rw [e, tget_isSome, decide_eq_true_iff] at hab
    obtain ⟨x, hx, e⟩ := List.mem_map.1 hab
    exact hTr.2.1 x hx e
  have ch0 := fun {L s} hS => tkids_sat (q := q) (T := T) (L := L) (st := s) hS a b hb (fun h => by rw [hab] at h; cases h)
  have ch := fun {L s} (k : Int × Int) (hk : k ∈ T.map sid) hS => tkids_sat (q := q) (T := T) (L := L) (st := s) hS k.1 k.2 hb (fun h => by rw [tget_isSome, decide_eq_true hk] at h; cases h)
  have hst := below_start hs (a, b)
  have hl0 := below_len hst
  clear hab
  (refine acalls_of_hwp Try.func19 rfl rfl ?_; simp only [Try.ntmps19, List.length_cons, List.length_nil, Nat.reduceAdd, Nat.reduceSub, List.replicate_succ, List.replicate_zero, List.cons_append, List.nil_append])
  repeat' first | (with_reducible refine gateCall (f := 50) ?_; first | (with_reducible refine ⟨real50, ACalls.mono (ch0 (sat_pick (by (repeat' first | (with_reducible exact .here) | (with_reducible apply Pick.there)); first | done | fail) hS)) ?_⟩; rintro v_ s_ ⟨a1_, c1_, rfl, hS⟩)) | (with_reducible refine semK_build ?_) | (with_reducible refine semK_make ?_) | (with_reducible refine semK_slice ?_) | (with_reducible refine semK_makeFunc ?_) | (with_reducible refine roundsK_step ?_) | (with_reducible refine gateSem ?_; first | (with_reducible refine ap1_22 (by omega) hS (by (repeat' first | (with_reducible exact .here) | (with_reducible apply Pick.there)); first | done | fail) (by (repeat' first | (with_reducible exact .here) | (with_reducible apply Pick.there)); first | done | fail) (by with_unfolding_all rfl) (by with_unfolding_all rfl) (fun a1_ c1_ s_ hS => ?_)) | (with_reducible refine ap1_38 (by omega) hS (by (repeat' first | (with_reducible exact .here) | (with_reducible apply Pick.there)); first | done | fail) (by (repeat' first | (with_reducible exact .here) | (with_reducible apply Pick.there)); first | done | fail) (by with_unfolding_all rfl) (by with_unfolding_all rfl) (fun a1_ c1_ s_ hS => ?_)) | (with_reducible refine ap1_49 (by omega) hS (by (repeat' first | (with_reducible exact .here) | (with_reducible apply Pick.there)); first | done | fail) (by (repeat' first | (with_reducible exact .here) | (with_reducible apply Pick.there)); first | done | fail) (by with_unfolding_all rfl) (by with_unfolding_all rfl) (fun a1_ c1_ s_ hS => ?_)) | (with_reducible refine ap1_62 (by omega) hS (by (repeat' first | (with_reducible exact .here) | (with_reducible apply Pick.there)); first | done | fail) (by (repeat' first | (with_reducible exact .here) | (with_reducible apply Pick.there)); first | done | fail) (by with_unfolding_all rfl) (by with_unfolding_all rfl) (fun a1_ c1_ s_ hS => ?_))) | (with_reducible refine gOv ?_; first | (with_reducible refine ov_pt hS (by (repeat' first | (with_reducible exact .here) | (with_reducible apply Pick.there)); first | done | fail) (by with_unfolding_all rfl) ?_) | ((first | replace hS := sat_mrg (by (repeat' first | (with_reducible exact .here) | (with_reducible apply Mrg.there)); first | done | fail) hT hS | (replace hS := sat_thaw (by (repeat' first | (with_reducible exact .here) | (with_reducible apply Pick.there)); first | done | fail) hT hS; simp only [List.cons_append, List.nil_append] at hS)); clear hT)) | (with_reducible refine gAg ?_; first | (with_reducible refine ov_agg hS (by (repeat' first | (with_reducible exact .here) | (with_reducible apply Pick.there)); first | done | fail) (by first | (simp only [List.size_toArray, List.length_cons, List.length_nil]; done) | (simp only [List.size_toArray, List.length_cons, List.length_nil]; omega) | omega) ?_) | ((first | replace hS := sat_mrg (by (repeat' first | (with_reducible exact .here) | (with_reducible apply Mrg.there)); first | done | fail) hT hS | (replace hS := sat_thaw (by (repeat' first | (with_reducible exact .here) | (with_reducible apply Pick.there)); first | done | fail) hT hS; simp only [List.cons_append, List.nil_append] at hS)); clear hT)) | (with_reducible refine gRd ?_; first | (with_reducible refine rd_pt hT (by (repeat' first | (with_reducible exact .here) | (with_reducible apply Pick.there)); first | done | fail) (by with_unfolding_all rfl) ?_)) | (with_reducible refine gRa ?_; first | (with_reducible refine rd_agg hT (by (repeat' first | (with_reducible exact .here) | (with_reducible apply Pick.there)); first | done | fail) (by first | (simp only [List.size_toArray, List.length_cons, List.length_nil]; done) | (simp only [List.size_toArray, List.length_cons, List.length_nil]; omega) | omega) ?_)) | (with_reducible refine gSt ?_; first | (with_reducible refine st_pt hS (by (repeat' first | (with_reducible exact .here) | (with_reducible apply Pick.there)); first | done | fail) (by first | (simp only [List.size_toArray, List.length_cons, List.length_nil]; done) | (simp only [List.size_toArray, List.length_cons, List.length_nil]; omega) | omega) (by simp only [spl, List.setIfInBounds_toArray, List.set_cons_succ, List.set_cons_zero] <;> rfl) (fun s_ hS => ?_)) | ((first | replace hS := sat_mrg (by (repeat' first | (with_reducible exact .here) | (with_reducible apply Mrg.there)); first | done | fail) hT hS | (replace hS := sat_thaw (by (repeat' first | (with_reducible exact .here) | (with_reducible apply Pick.there)); first | done | fail) hT hS; simp only [List.cons_append, List.nil_append] at hS)); clear hT)) | (with_reducible refine gNew ?_; with_reducible refine new_pt hS (fun p_ s_ hS => ?_)) | (with_reducible refine gLie ?_; first | (with_reducible refine lies_is hS (by (repeat' first | (with_reducible exact .here) | (with_reducible apply Pick.there)); first | done | fail) ?_) | (with_reducible refine lies_0 ?_)) | (with_reducible refine gateDraw ?_; first | ((first | replace hS := sat_mrg (by (repeat' first | (with_reducible exact .here) | (with_reducible apply Mrg.there)); first | done | fail) hT hS | (replace hS := sat_thaw (by (repeat' first | (with_reducible exact .here) | (with_reducible apply Pick.there)); first | done | fail) hT hS; simp only [List.cons_append, List.nil_append] at hS)); clear hT) | (with_reducible refine draw_L mixed hS (by decide +kernel) (fun hT hS => ?_)) | (with_reducible refine draw_S mixed hS (by decide +kernel) (fun hT hS => ?_))) | (with_reducible refine guardK_decn (fun h_ => ?_) (fun h_ => ?_) <;> (try (exfalso; omega))) | (with_reducible refine condK_decn (fun h_ => ?_) (fun h_ => ?_) <;> (try (exfalso; omega))) | (with_reducible refine guardK_dec (fun h_ => ?_) (fun h_ => ?_) <;> (try (exfalso; omega))) | (with_reducible refine condK_dec (fun h_ => ?_) (fun h_ => ?_) <;> (try (exfalso; omega))) | (with_reducible refine and_row (by assumption) (by omega) ?_) | (with_reducible refine and_row1 (by assumption) (by omega) (by omega) ?_) | (with_reducible refine and_row2 (by assumption) (by omega) ?_) | (with_reducible refine gateSom ?_; first | (with_reducible refine and_row2 (slb_some (sat_pick (by (repeat' first | (with_reducible exact .here) | (with_reducible apply Pick.there)); first | done | fail) hS)) (by omega) ?_) | (with_reducible refine and_row2 (slb_some (sat_pick (by (repeat' first | (with_reducible exact .here) | (with_reducible apply Pick.there)); first | done | fail) hT)) (by omega) ?_)) | (with_reducible refine gateSome3 ?_; first | (with_reducible refine and_row (slb_some (sat_pick (by (repeat' first | (with_reducible exact .here) | (with_reducible apply Pick.there)); first | done | fail) hS)) (by omega) ?_) | (with_reducible refine and_row (slb_some (sat_pick (by (repeat' first | (with_reducible exact .here) | (with_reducible apply Pick.there)); first | done | fail) hT)) (by omega) ?_) | (with_reducible refine and_row1 (slb_some (sat_pick (by (repeat' first | (with_reducible exact .here) | (with_reducible apply Pick.there)); first | done | fail) hS)) (by omega) (by omega) ?_) | (with_reducible refine and_row1 (slb_some (sat_pick (by (repeat' first | (with_reducible exact .here) | (with_reducible apply Pick.there)); first | done | fail) hT)) (by omega) (by omega) ?_)) | (with_reducible refine And.intro ?_ ?_; (first | assumption | omega)) | (simp (disch := first | assumption | omega) only [push_cast, Int.toNat_natCast, Nat.reduceAdd, Nat.reduceLeDiff, Nat.reduceMul, Nat.reduceSub, Int.reduceToNat, Int.reduceLT, Int.reduceLE, Int.reduceEq, Int.reduceAdd, Int.reduceSub, Int.reduceMul, Int.reduceNeg, Nat.reduceLT, Nat.reduceEqDiff, Int.reduceMod, Int.reduceDiv, Nat.reduceMod, Nat.reduceDiv, *]) | (with_reducible refine guardK_nbool (fun h_ => ?_) (fun h_ => ?_)) | (with_reducible refine guardK_bool (fun h_ => ?_) (fun h_ => ?_)) | (with_reducible refine condK_nbool (fun h_ => ?_) (fun h_ => ?_)) | (with_reducible refine condK_abool (fun h_ => ?_) (fun h_ => ?_))
  refine hloop [5, 6, 10, 11, 12, 13, 14, 15, 16, 17, 18, 19, 20, 21, 22, 23] (fun x : (Nat × Nat) × Option Addr × Nat × List (Int × Int) => [(6, .int .i64 x.1.1), (5, .slice x.2.1 x.1.2 x.2.2.1)]) (fun x s => (x.2.2.2.length = x.1.2 ∧ x.1.1 ≤ x.1.2 ∧ BelowI T (a, b) x.2.2.2 x.1.1) ∧ Sat (SlB x.2.1 x.1.2 x.2.2.1 29 2 (fl pcV x.2.2.2) :: TbT q T :: L) s) (fun x => T.length - x.1.1) ((0, (kidsP T (a, b)).length), a1_, c1_, kidsP T (a, b)) _ ⟨rfl, rfl, trivial⟩ (Lies.refl _) ⟨⟨rfl, Nat.zero_le _, hst⟩, sat_go (by (repeat' first | (with_reducible exact .here) | (with_reducible apply Pick.there) | (with_reducible exact sat_same) | (with_reducible exact sat_none) | (with_reducible apply sat_take') | (with_reducible apply sat_drop')); first | done | fail) hS⟩ ?_
  clear hS ch0 hst hl0
  intro a_ js_ s_ hjs_ hv_ hi_; obtain ⟨j5_, js_, rfl, hjs0_⟩ := len_cons hjs_; clear hjs_; obtain ⟨j6_, js_, rfl, hjs1_⟩ := len_cons hjs0_; clear hjs0_; obtain ⟨j10_, js_, rfl, hjs2_⟩ := len_cons hjs1_; clear hjs1_; obtain ⟨j11_, js_, rfl, hjs3_⟩ := len_cons hjs2_; clear hjs2_; obtain ⟨j12_, js_, rfl, hjs4_⟩ := len_cons hjs3_; clear hjs3_; obtain ⟨j13_, js_, rfl, hjs5_⟩ := len_cons hjs4_; clear hjs4_; obtain ⟨j14_, js_, rfl, hjs6_⟩ := len_cons hjs5_; clear hjs5_; obtain ⟨j15_, js_, rfl, hjs7_⟩ := len_cons hjs6_; clear hjs6_; obtain ⟨j16_, js_, rfl, hjs8_⟩ := len_cons hjs7_; clear hjs7_; obtain ⟨j17_, js_, rfl, hjs9_⟩ := len_cons hjs8_; clear hjs8_; obtain ⟨j18_, js_, rfl, hjs10_⟩ := len_cons hjs9_; clear hjs9_; obtain ⟨j19_, js_, rfl, hjs11_⟩ := len_cons hjs10_; clear hjs10_; obtain ⟨j20_, js_, rfl, hjs12_⟩ := len_cons hjs11_; clear hjs11_; obtain ⟨j21_, js_, rfl, hjs13_⟩ := len_cons hjs12_; clear hjs12_; obtain ⟨j22_, js_, rfl, hjs14_⟩ := len_cons hjs13_; clear hjs13_; obtain ⟨j23_, js_, rfl, hjs15_⟩ := len_cons hjs14_; clear hjs14_; obtain rfl := List.eq_nil_of_length_eq_zero hjs15_; clear hjs15_; simp only [setL_cons, setL_nil, List.set_cons_zero, List.set_cons_succ, List.getD_cons_zero, List.getD_cons_succ, holds_cons, holds_nil, and_true] at hv_; simp only [setL_cons, setL_nil, List.set_cons_zero, List.set_cons_succ, List.getD_cons_zero, List.getD_cons_succ, holds_cons, holds_nil, and_true]; generalize hB_ : Back _ _ _ _ _ _ = B_
  obtain ⟨⟨k, n⟩, ar, c, out⟩ := a_
  obtain ⟨rfl, rfl⟩ := hv_
  obtain ⟨⟨hn, hk, hI⟩, hS⟩ := hi_
  simp only at hn hk hI hS ⊢
  have hln := below_len hI
  by_cases hlt : k < n
  · have ag := fun {a c L s} hS => slf_agg (α := Int × Int) pcV_len (a := a) (n := n) (cap := c) (e := 29) (l := out) (L := L) (st := s) hS (0, 0) (i := k) (by omega) (by decide)
    have hI2 := below_next hs hTr hp hI (by omega)
    have hl2 := below_len hI2
    rw [List.length_append] at hl2
    have hin : out.getD k (0, 0) ∈ T.map sid := hI.sub _ (by
      rw [List.getD_eq_getElem?_getD, List.getElem?_eq_getElem (by omega)]
      exact List.getElem_mem _)
    generalize out.getD k (0, 0) = key at *
    have ck := fun {L s} hS => ch (L := L) (s := s) key hin hS
    obtain ⟨k1, k2⟩ := key
    simp only [pcV] at ag
    simp only at ck
    have ak := fun {K L s a' c' b' xc} ho hx h => app_pl (K := K) (a := a') (cap := c') (xb := b') (xc := xc) (L := L) (st := s) (l1 := out) (n := n) (m := (kidsP T (k1, k2)).length) (l2 := kidsP T (k1, k2)) rfl (by omega) ho hx h
    generalize kidsP T (k1, k2) = C at *
    clear ch hin
    repeat' first | (with_reducible refine gAg ?_; with_reducible refine ov_agg_at (ag (sat_pick (by (repeat' first | (with_reducible exact .here) | (with_reducible apply Pick.there)); first | done | fail) hS)) ?_) | (with_reducible refine gateSem ?_; with_reducible refine ak (sat_pick (A := SlB ar _ _ _ _ _) (by (repeat' first | (with_reducible exact .here) | (with_reducible apply Pick.there)); first | done | fail) hS) (slb_reads (sat_pick (A := SlB a2_ _ _ _ _ _) (by (repeat' first | (with_reducible exact .here) | (with_reducible apply Pick.there)); first | done | fail) hS)) (fun a3_ c3_ s_ hS => ?_)) | (with_reducible refine gateCall (f := 50) ?_; first | (with_reducible refine ⟨real50, ACalls.mono (ck (sat_pick (by (repeat' first | (with_reducible exact .here) | (with_reducible apply Pick.there)); first | done | fail) hS)) ?_⟩; rintro v_ s_ ⟨a2_, c2_, rfl, hS⟩)) | (with_reducible refine semK_build ?_) | (with_reducible refine semK_make ?_) | (with_reducible refine semK_slice ?_) | (with_reducible refine semK_makeFunc ?_) | (with_reducible refine roundsK_step ?_) | (with_reducible refine gateSem ?_; first | (with_reducible refine ap1_22 (by omega) hS (by (repeat' first | (with_reducible exact .here) | (with_reducible apply Pick.there)); first | done | fail) (by (repeat' first | (with_reducible exact .here) | (with_reducible apply Pick.there)); first | done | fail) (by with_unfolding_all rfl) (by with_unfolding_all rfl) (fun a1_ c1_ s_ hS => ?_)) | (with_reducible refine ap1_38 (by omega) hS (by (repeat' first | (with_reducible exact .here) | (with_reducible apply Pick.there)); first | done | fail) (by (repeat' first | (with_reducible exact .here) | (with_reducible apply Pick.there)); first | done | fail) (by with_unfolding_all rfl) (by with_unfolding_all rfl) (fun a1_ c1_ s_ hS => ?_)) | (with_reducible refine ap1_49 (by omega) hS (by (repeat' first | (with_reducible exact .here) | (with_reducible apply Pick.there)); first | done | fail) (by (repeat' first | (with_reducible exact .here) | (with_reducible apply Pick.there)); first | done | fail) (by with_unfolding_all rfl) (by with_unfolding_all rfl) (fun a1_ c1_ s_ hS => ?_)) | (with_reducible refine ap1_62 (by omega) hS (by (repeat' first | (with_reducible exact .here) | (with_reducible apply Pick.there)); first | done | fail) (by (repeat' first | (with_reducible exact .here) | (with_reducible apply Pick.there)); first | done | fail) (by with_unfolding_all rfl) (by with_unfolding_all rfl) (fun a1_ c1_ s_ hS => ?_))) | (with_reducible refine gOv ?_; first | (with_reducible refine ov_pt hS (by (repeat' first | (with_reducible exact .here) | (with_reducible apply Pick.there)); first | done | fail) (by with_unfolding_all rfl) ?_) | ((first | replace hS := sat_mrg (by (repeat' first | (with_reducible exact .here) | (with_reducible apply Mrg.there)); first | done | fail) hT hS | (replace hS := sat_thaw (by (repeat' first | (with_reducible exact .here) | (with_reducible apply Pick.there)); first | done | fail) hT hS; simp only [List.cons_append, List.nil_append] at hS)); clear hT)) | (with_reducible refine gAg ?_; first | (with_reducible refine ov_agg hS (by (repeat' first | (with_reducible exact .here) | (with_reducible apply Pick.there)); first | done | fail) (by first | (simp only [List.size_toArray, List.length_cons, List.length_nil]; done) | (simp only [List.size_toArray, List.length_cons, List.length_nil]; omega) | omega) ?_) | ((first | replace hS := sat_mrg (by (repeat' first | (with_reducible exact .here) | (with_reducible apply Mrg.there)); first | done | fail) hT hS | (replace hS := sat_thaw (by (repeat' first | (with_reducible exact .here) | (with_reducible apply Pick.there)); first | done | fail) hT hS; simp only [List.cons_append, List.nil_append] at hS)); clear hT)) | (with_reducible refine gRd ?_; first | (with_reducible refine rd_pt hT (by (repeat' first | (with_reducible exact .here) | (with_reducible apply Pick.there)); first | done | fail) (by with_unfolding_all rfl) ?_)) | (with_reducible refine gRa ?_; first | (with_reducible refine rd_agg hT (by (repeat' first | (with_reducible exact .here) | (with_reducible apply Pick.there)); first | done | fail) (by first | (simp only [List.size_toArray, List.length_cons, List.length_nil]; done) | (simp only [List.size_toArray, List.length_cons, List.length_nil]; omega) | omega) ?_)) | (with_reducible refine gSt ?_; first | (with_reducible refine st_pt hS (by (repeat' first | (with_reducible exact .here) | (with_reducible apply Pick.there)); first | done | fail) (by first | (simp only [List.size_toArray, List.length_cons, List.length_nil]; done) | (simp only [List.size_toArray, List.length_cons, List.length_nil]; omega) | omega) (by simp only [spl, List.setIfInBounds_toArray, List.set_cons_succ, List.set_cons_zero] <;> rfl) (fun s_ hS => ?_)) | ((first | replace hS := sat_mrg (by (repeat' first | (with_reducible exact .here) | (with_reducible apply Mrg.there)); first | done | fail) hT hS | (replace hS := sat_thaw (by (repeat' first | (with_reducible exact .here) | (with_reducible apply Pick.there)); first | done | fail) hT hS; simp only [List.cons_append, List.nil_append] at hS)); clear hT)) | (with_reducible refine gNew ?_; with_reducible refine new_pt hS (fun p_ s_ hS => ?_)) | (with_reducible refine gLie ?_; first | (with_reducible refine lies_is hS (by (repeat' first | (with_reducible exact .here) | (with_reducible apply Pick.there)); first | done | fail) ?_) | (with_reducible refine lies_0 ?_)) | (with_reducible refine gateDraw ?_; first | ((first | replace hS := sat_mrg (by (repeat' first | (with_reducible exact .here) | (with_reducible apply Mrg.there)); first | done | fail) hT hS | (replace hS := sat_thaw (by (repeat' first | (with_reducible exact .here) | (with_reducible apply Pick.there)); first | done | fail) hT hS; simp only [List.cons_append, List.nil_append] at hS)); clear hT) | (with_reducible refine draw_L mixed hS (by decide +kernel) (fun hT hS => ?_)) | (with_reducible refine draw_S mixed hS (by decide +kernel) (fun hT hS => ?_))) | (with_reducible refine guardK_decn (fun h_ => ?_) (fun h_ => ?_) <;> (try (exfalso; omega))) | (with_reducible refine condK_decn (fun h_ => ?_) (fun h_ => ?_) <;> (try (exfalso; omega))) | (with_reducible refine guardK_dec (fun h_ => ?_) (fun h_ => ?_) <;> (try (exfalso; omega))) | (with_reducible refine condK_dec (fun h_ => ?_) (fun h_ => ?_) <;> (try (exfalso; omega))) | (with_reducible refine and_row (by assumption) (by omega) ?_) | (with_reducible refine and_row1 (by assumption) (by omega) (by omega) ?_) | (with_reducible refine and_row2 (by assumption) (by omega) ?_) | (with_reducible refine gateSom ?_; first | (with_reducible refine and_row2 (slb_some (sat_pick (by (repeat' first | (with_reducible exact .here) | (with_reducible apply Pick.there)); first | done | fail) hS)) (by omega) ?_) | (with_reducible refine and_row2 (slb_some (sat_pick (by (repeat' first | (with_reducible exact .here) | (with_reducible apply Pick.there)); first | done | fail) hT)) (by omega) ?_)) | (with_reducible refine gateSome3 ?_; first | (with_reducible refine and_row (slb_some (sat_pick (by (repeat' first | (with_reducible exact .here) | (with_reducible apply Pick.there)); first | done | fail) hS)) (by omega) ?_) | (with_reducible refine and_row (slb_some (sat_pick (by (repeat' first | (with_reducible exact .here) | (with_reducible apply Pick.there)); first | done | fail) hT)) (by omega) ?_) | (with_reducible refine and_row1 (slb_some (sat_pick (by (repeat' first | (with_reducible exact .here) | (with_reducible apply Pick.there)); first | done | fail) hS)) (by omega) (by omega) ?_) | (with_reducible refine and_row1 (slb_some (sat_pick (by (repeat' first | (with_reducible exact .here) | (with_reducible apply Pick.there)); first | done | fail) hT)) (by omega) (by omega) ?_)) | (with_reducible refine And.intro ?_ ?_; (first | assumption | omega)) | (simp (disch := first | assumption | omega) only [push_cast, Int.toNat_natCast, Nat.reduceAdd, Nat.reduceLeDiff, Nat.reduceMul, Nat.reduceSub, Int.reduceToNat, Int.reduceLT, Int.reduceLE, Int.reduceEq, Int.reduceAdd, Int.reduceSub, Int.reduceMul, Int.reduceNeg, Nat.reduceLT, Nat.reduceEqDiff, Int.reduceMod, Int.reduceDiv, Nat.reduceMod, Nat.reduceDiv, *]) | (with_reducible refine guardK_nbool (fun h_ => ?_) (fun h_ => ?_)) | (with_reducible refine guardK_bool (fun h_ => ?_) (fun h_ => ?_)) | (with_reducible refine condK_nbool (fun h_ => ?_) (fun h_ => ?_)) | (with_reducible refine condK_abool (fun h_ => ?_) (fun h_ => ?_))
    (rw [← hB_]; refine back_intro ((k + 1, n + C.length), a3_, c3_, out ++ C) s_ ?_ ?_ ?_ ?_ ?_; rotate_left; (· simp only [setL_cons, setL_nil, getL_def, List.map_cons, List.map_nil, List.set_cons_zero, List.set_cons_succ, List.getD_cons_zero, List.getD_cons_succ]); (· simp only [holds_cons, holds_nil, List.getD_cons_zero, List.getD_cons_succ, and_true] <;> (repeat' first | (with_reducible rfl) | (refine And.intro ?_ ?_) | trivial | rfl | (congr 1; omega; done)); done); (· exact Lies.refl _))
    · refine ⟨⟨?_, ?_, hI2⟩, sat_go (by (repeat' first | (with_reducible exact .here) | (with_reducible apply Pick.there) | (with_reducible exact sat_same) | (with_reducible exact sat_none) | (with_reducible apply sat_take') | (with_reducible apply sat_drop')); first | done | fail) hS⟩
      · show (out ++ C).length = n + C.length
        rw [List.length_append, hn]
      · show k + 1 ≤ n + C.length
        omega
    · show T.length - (k + 1) < T.length - k
      omega
  · obtain rfl : k = n := by omega
    repeat' first | (with_reducible refine gateCall (f := 51) ?_; first | (with_reducible refine ⟨real51, ACalls.mono (plsort_sat (sat_pick (by (repeat' first | (with_reducible exact .here) | (with_reducible apply Pick.there)); first | done | fail) hS) hn (by omega)) ?_⟩; rintro v_ s_ ⟨rfl, C_, hp_, hs_, hS⟩)) | (with_reducible refine semK_build ?_) | (with_reducible refine semK_make ?_) | (with_reducible refine semK_slice ?_) | (with_reducible refine semK_makeFunc ?_) | (with_reducible refine roundsK_step ?_) | (with_reducible refine gateSem ?_; first | (with_reducible refine ap1_22 (by omega) hS (by (repeat' first | (with_reducible exact .here) | (with_reducible apply Pick.there)); first | done | fail) (by (repeat' first | (with_reducible exact .here) | (with_reducible apply Pick.there)); first | done | fail) (by with_unfolding_all rfl) (by with_unfolding_all rfl) (fun a1_ c1_ s_ hS => ?_)) | (with_reducible refine ap1_38 (by omega) hS (by (repeat' first | (with_reducible exact .here) | (with_reducible apply Pick.there)); first | done | fail) (by (repeat' first | (with_reducible exact .here) | (with_reducible apply Pick.there)); first | done | fail) (by with_unfolding_all rfl) (by with_unfolding_all rfl) (fun a1_ c1_ s_ hS => ?_)) | (with_reducible refine ap1_49 (by omega) hS (by (repeat' first | (with_reducible exact .here) | (with_reducible apply Pick.there)); first | done | fail) (by (repeat' first | (with_reducible exact .here) | (with_reducible apply Pick.there)); first | done | fail) (by with_unfolding_all rfl) (by with_unfolding_all rfl) (fun a1_ c1_ s_ hS => ?_)) | (with_reducible refine ap1_62 (by omega) hS (by (repeat' first | (with_reducible exact .here) | (with_reducible apply Pick.there)); first | done | fail) (by (repeat' first | (with_reducible exact .here) | (with_reducible apply Pick.there)); first | done | fail) (by with_unfolding_all rfl) (by with_unfolding_all rfl) (fun a1_ c1_ s_ hS => ?_))) | (with_reducible refine gOv ?_; first | (with_reducible refine ov_pt hS (by (repeat' first | (with_reducible exact .here) | (with_reducible apply Pick.there)); first | done | fail) (by with_unfolding_all rfl) ?_) | ((first | replace hS := sat_mrg (by (repeat' first | (with_reducible exact .here) | (with_reducible apply Mrg.there)); first | done | fail) hT hS | (replace hS := sat_thaw (by (repeat' first | (with_reducible exact .here) | (with_reducible apply Pick.there)); first | done | fail) hT hS; simp only [List.cons_append, List.nil_append] at hS)); clear hT)) | (with_reducible refine gAg ?_; first | (with_reducible refine ov_agg hS (by (repeat' first | (with_reducible exact .here) | (with_reducible apply Pick.there)); first | done | fail) (by first | (simp only [List.size_toArray, List.length_cons, List.length_nil]; done) | (simp only [List.size_toArray, List.length_cons, List.length_nil]; omega) | omega) ?_) | ((first | replace hS := sat_mrg (by (repeat' first | (with_reducible exact .here) | (with_reducible apply Mrg.there)); first | done | fail) hT hS | (replace hS := sat_thaw (by (repeat' first | (with_reducible exact .here) | (with_reducible apply Pick.there)); first | done | fail) hT hS; simp only [List.cons_append, List.nil_append] at hS)); clear hT)) | (with_reducible refine gRd ?_; first | (with_reducible refine rd_pt hT (by (repeat' first | (with_reducible exact .here) | (with_reducible apply Pick.there)); first | done | fail) (by with_unfolding_all rfl) ?_)) | (with_reducible refine gRa ?_; first | (with_reducible refine rd_agg hT (by (repeat' first | (with_reducible exact .here) | (with_reducible apply Pick.there)); first | done | fail) (by first | (simp only [List.size_toArray, List.length_cons, List.length_nil]; done) | (simp only [List.size_toArray, List.length_cons, List.length_nil]; omega) | omega) ?_)) | (with_reducible refine gSt ?_; first | (with_reducible refine st_pt hS (by (repeat' first | (with_reducible exact .here) | (with_reducible apply Pick.there)); first | done | fail) (by first | (simp only [List.size_toArray, List.length_cons, List.length_nil]; done) | (simp only [List.size_toArray, List.length_cons, List.length_nil]; omega) | omega) (by simp only [spl, List.setIfInBounds_toArray, List.set_cons_succ, List.set_cons_zero] <;> rfl) (fun s_ hS => ?_)) | ((first | replace hS := sat_mrg (by (repeat' first | (with_reducible exact .here) | (with_reducible apply Mrg.there)); first | done | fail) hT hS | (replace hS := sat_thaw (by (repeat' first | (with_reducible exact .here) | (with_reducible apply Pick.there)); first | done | fail) hT hS; simp only [List.cons_append, List.nil_append] at hS)); clear hT)) | (with_reducible refine gNew ?_; with_reducible refine new_pt hS (fun p_ s_ hS => ?_)) | (with_reducible refine gLie ?_; first | (with_reducible refine lies_is hS (by (repeat' first | (with_reducible exact .here) | (with_reducible apply Pick.there)); first | done | fail) ?_) | (with_reducible refine lies_0 ?_)) | (with_reducible refine gateDraw ?_; first | ((first | replace hS := sat_mrg (by (repeat' first | (with_reducible exact .here) | (with_reducible apply Mrg.there)); first | done | fail) hT hS | (replace hS := sat_thaw (by (repeat' first | (with_reducible exact .here) | (with_reducible apply Pick.there)); first | done | fail) hT hS; simp only [List.cons_append, List.nil_append] at hS)); clear hT) | (with_reducible refine draw_L mixed hS (by decide +kernel) (fun hT hS => ?_)) | (with_reducible refine draw_S mixed hS (by decide +kernel) (fun hT hS => ?_))) | (with_reducible refine guardK_decn (fun h_ => ?_) (fun h_ => ?_) <;> (try (exfalso; omega))) | (with_reducible refine condK_decn (fun h_ => ?_) (fun h_ => ?_) <;> (try (exfalso; omega))) | (with_reducible refine guardK_dec (fun h_ => ?_) (fun h_ => ?_) <;> (try (exfalso; omega))) | (with_reducible refine condK_dec (fun h_ => ?_) (fun h_ => ?_) <;> (try (exfalso; omega))) | (with_reducible refine and_row (by assumption) (by omega) ?_) | (with_reducible refine and_row1 (by assumption) (by omega) (by omega) ?_) | (with_reducible refine and_row2 (by assumption) (by omega) ?_) | (with_reducible refine gateSom ?_; first | (with_reducible refine and_row2 (slb_some (sat_pick (by (repeat' first | (with_reducible exact .here) | (with_reducible apply Pick.there)); first | done | fail) hS)) (by omega) ?_) | (with_reducible refine and_row2 (slb_some (sat_pick (by (repeat' first | (with_reducible exact .here) | (with_reducible apply Pick.there)); first | done | fail) hT)) (by omega) ?_)) | (with_reducible refine gateSome3 ?_; first | (with_reducible refine and_row (slb_some (sat_pick (by (repeat' first | (with_reducible exact .here) | (with_reducible apply Pick.there)); first | done | fail) hS)) (by omega) ?_) | (with_reducible refine and_row (slb_some (sat_pick (by (repeat' first | (with_reducible exact .here) | (with_reducible apply Pick.there)); first | done | fail) hT)) (by omega) ?_) | (with_reducible refine and_row1 (slb_some (sat_pick (by (repeat' first | (with_reducible exact .here) | (with_reducible apply Pick.there)); first | done | fail) hS)) (by omega) (by omega) ?_) | (with_reducible refine and_row1 (slb_some (sat_pick (by (repeat' first | (with_reducible exact .here) | (with_reducible apply Pick.there)); first | done | fail) hT)) (by omega) (by omega) ?_)) | (with_reducible refine And.intro ?_ ?_; (first | assumption | omega)) | (simp (disch := first | assumption | omega) only [push_cast, Int.toNat_natCast, Nat.reduceAdd, Nat.reduceLeDiff, Nat.reduceMul, Nat.reduceSub, Int.reduceToNat, Int.reduceLT, Int.reduceLE, Int.reduceEq, Int.reduceAdd, Int.reduceSub, Int.reduceMul, Int.reduceNeg, Nat.reduceLT, Nat.reduceEqDiff, Int.reduceMod, Int.reduceDiv, Nat.reduceMod, Nat.reduceDiv, *]) | (with_reducible refine guardK_nbool (fun h_ => ?_) (fun h_ => ?_)) | (with_reducible refine guardK_bool (fun h_ => ?_) (fun h_ => ?_)) | (with_reducible refine condK_nbool (fun h_ => ?_) (fun h_ => ?_)) | (with_reducible refine condK_abool (fun h_ => ?_) (fun h_ => ?_))
    have hI2 : BelowI T (a, b) out out.length := by rw [hn]; exact hI
    have hD := below_done hI2 hp_ hs_
    have hDl : k = C_.length := by rw [← hn]; exact hp_.length_eq.symm
    subst hDl
    exact gret1 rfl ⟨ar, c, C_, ⟨rfl, hD⟩, sat_go (by (repeat' first | (with_reducible exact .here) | (with_reducible apply Pick.there) | (with_reducible exact sat_same) | (with_reducible exact sat_none) | (with_reducible apply sat_take') | (with_reducible apply sat_drop')); first | done | fail) hS⟩
end
end Go.Proofs.Ytfmfkablbaoofaa.Ae
