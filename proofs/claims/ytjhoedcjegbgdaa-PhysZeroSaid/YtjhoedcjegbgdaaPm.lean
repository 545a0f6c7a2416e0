/- Memory's contracts where it is known whether bytes are within; no condition beyond the ones that each theorem names. -/
import Derived.Test.YtjhoedcjegbgdaaPl
set_option linter.unusedVariables false
set_option linter.unusedSimpArgs false
set_option maxRecDepth 100000
set_option maxHeartbeats 1000000
namespace Go.Proofs.Ytjhoedcjegbgdaa.Ae
open Go Go.Proofs.Ytjhoedcjegbgdaa.Bits
attribute [local irreducible] Ret ACalls
theorem inU_r {n : Nat} {u o m : Int} (h : inU n u o m) (hn : n ≤ 1000000) : (-9223372036854775808 ≤ u ∧ u ≤ 9223372036854775807) ∧ (-9223372036854775808 ≤ o ∧ o ≤ 9223372036854775807) ∧ (-9223372036854775808 ≤ m ∧ m ≤ 9223372036854775807) := by
  unfold inU at h; omega
theorem mrd_yes {f : FuncId} {M : Nat → List (List Int) → HA} (h : MRd f M) {q : Nat} {bs : List (List Int)} {L : List HA} {st : PH} (hS : Sat (M q bs :: L) st) {u o m : Int} {l : List Int} (hi : inU bs.length u o m) (he : readM bs u o m = l) (hb : bs.length ≤ 1000000) :
    ACalls Try.prog f [.pointer (some ⟨q, 0, none⟩), .int .i64 u, .int .i64 o, .int .i64 m].toArray st fun v s => ∃ a c, v = .tuple #[.slice a l.length c, .bool true] ∧ Sat (SlB a l.length c 5 1 (ints .u8 l) :: M q bs :: L) s := by
  obtain ⟨k1, k2, k3⟩ := inU_r hi hb
  have := h q bs L st hS u o m k1 k2 k3 hb
  rw [decide_eq_true hi, he] at this
  exact this
theorem mrd_no {f : FuncId} {M : Nat → List (List Int) → HA} (h : MRd f M) {q : Nat} {bs : List (List Int)} {L : List HA} {st : PH} (hS : Sat (M q bs :: L) st) {u o m : Int} (hi : ¬ inU bs.length u o m) (hu : -9223372036854775808 ≤ u ∧ u ≤ 9223372036854775807) (ho : -9223372036854775808 ≤ o ∧ o ≤ 9223372036854775807) (hm : -9223372036854775808 ≤ m ∧ m ≤ 9223372036854775807) (hb : bs.length ≤ 1000000) :
    ACalls Try.prog f [.pointer (some ⟨q, 0, none⟩), .int .i64 u, .int .i64 o, .int .i64 m].toArray st fun v s => ∃ a c, v = .tuple #[.slice a 0 c, .bool false] ∧ Sat (SlB a 0 c 5 1 (ints .u8 []) :: M q bs :: L) s := by
  have := h q bs L st hS u o m hu ho hm hb
  rw [decide_eq_false hi, show readM bs u o m = [] by unfold readM; rw [if_neg hi]] at this
  exact this
theorem mwr_yes {f : FuncId} {M : Nat → List (List Int) → HA} (h : MWr f M) {q : Nat} {bs : List (List Int)} {L : List HA} {st : PH} (hS : Sat (M q bs :: L) st) {ab : Option Addr} {n cb : Nat} {l : List Int} (hr : ∀ s, Sat L s → RowIn s.cell? .u8 ab n l) {u o : Int} (hi : inU bs.length u o n) (hb : bs.length ≤ 1000000) :
    ACalls Try.prog f [.pointer (some ⟨q, 0, none⟩), .int .i64 u, .int .i64 o, .slice ab n cb].toArray st fun v s => v = .bool true ∧ Sat (M q (writeM bs u o l) :: L) s := by
  obtain ⟨k1, k2, k3⟩ := inU_r hi hb
  have := h q bs L st hS ab n cb l hr u o k1 k2 hb
  rw [decide_eq_true hi] at this
  exact this
theorem mwr_no {f : FuncId} {M : Nat → List (List Int) → HA} (h : MWr f M) {q : Nat} {bs : List (List Int)} {L : List HA} {st : PH} (hS : Sat (M q bs :: L) st) {ab : Option Addr} {n cb : Nat} {l : List Int} (hr : ∀ s, Sat L s → RowIn s.cell? .u8 ab n l) {u o : Int} (hi : ¬ inU bs.length u o n) (hu : -9223372036854775808 ≤ u ∧ u ≤ 9223372036854775807) (ho : -9223372036854775808 ≤ o ∧ o ≤ 9223372036854775807) (hb : bs.length ≤ 1000000) :
    ACalls Try.prog f [.pointer (some ⟨q, 0, none⟩), .int .i64 u, .int .i64 o, .slice ab n cb].toArray st fun v s => v = .bool false ∧ Sat (M q bs :: L) s := by
  refine (h q bs L st hS ab n cb l hr u o hu ho hb).mono fun v s ⟨e, hs⟩ => ?_
  rw [decide_eq_false hi] at e
  have hl := (hr s (sat_drop hs)).length
  unfold writeM at hs
  rw [hl, if_neg hi] at hs
  exact ⟨e, hs⟩
theorem mby_eq {f : FuncId} {M : Nat → List (List Int) → HA} (h : MBy f M) {q : Nat} {bs : List (List Int)} {L : List HA} {st : PH} (hS : Sat (M q bs :: L) st) {u : Int} {l : List Int} {n : Nat} (he : readM bs u 0 512 = l) (hn : l.length = n) (hu : -9223372036854775808 ≤ u ∧ u ≤ 9223372036854775807) (hb : bs.length ≤ 1000000) :
    ACalls Try.prog f [.pointer (some ⟨q, 0, none⟩), .int .i64 u].toArray st fun v s => ∃ a c, v = .slice a n c ∧ Sat (SlB a n c 5 1 (ints .u8 l) :: M q bs :: L) s := by
  have := h q bs L st hS u hu hb
  rw [he, hn] at this
  exact this
theorem mrd_eq {f : FuncId} {M : Nat → List (List Int) → HA} (h : MRd f M) {q : Nat} {bs : List (List Int)} {L : List HA} {st : PH} (hS : Sat (M q bs :: L) st) {u o m : Int} {l : List Int} {n : Nat} (hi : inU bs.length u o m) (he : readM bs u o m = l) (hn : l.length = n) (hb : bs.length ≤ 1000000) :
    ACalls Try.prog f [.pointer (some ⟨q, 0, none⟩), .int .i64 u, .int .i64 o, .int .i64 m].toArray st fun v s => ∃ a c, v = .tuple #[.slice a n c, .bool true] ∧ Sat (SlB a n c 5 1 (ints .u8 l) :: M q bs :: L) s := by
  have := mrd_yes h hS hi he hb
  rw [hn] at this
  exact this
theorem mzr_yes {f : FuncId} {M : Nat → List (List Int) → HA} (h : MZr f M) {q : Nat} {bs : List (List Int)} {L : List HA} {st : PH} (hS : Sat (M q bs :: L) st) {u : Int} (hi : 1 ≤ u ∧ u ≤ bs.length) (hb : bs.length ≤ 1000000) :
    ACalls Try.prog f [.pointer (some ⟨q, 0, none⟩), .int .i64 u].toArray st fun v s => v = .bool true ∧ Sat (M q (zeroM bs u) :: L) s := by
  have := h q bs L st hS u (by omega) hb
  rw [decide_eq_true hi] at this
  exact this
theorem mzr_no {f : FuncId} {M : Nat → List (List Int) → HA} (h : MZr f M) {q : Nat} {bs : List (List Int)} {L : List HA} {st : PH} (hS : Sat (M q bs :: L) st) {u : Int} (hi : ¬ (1 ≤ u ∧ u ≤ bs.length)) (hu : -9223372036854775808 ≤ u ∧ u ≤ 9223372036854775807) (hb : bs.length ≤ 1000000) :
    ACalls Try.prog f [.pointer (some ⟨q, 0, none⟩), .int .i64 u].toArray st fun v s => v = .bool false ∧ Sat (M q bs :: L) s := by
  have := h q bs L st hS u hu hb
  rw [decide_eq_false hi, show zeroM bs u = bs by unfold zeroM; rw [if_neg hi]] at this
  exact this
theorem slb_row_cut {k : IntKind} {a : Option Addr} {n cap o m : Nat} {e : TypeId} {l : List Int} {L : List HA} {st : PH} (h : Sat (SlB a n cap e 1 (ints k l) :: L) st) (hw : Wf k l) (hom : o + m ≤ n) (hm : n ≤ 9223372036854775807) : RowIn st.cell? k (slAt a o cap 1) m ((l.drop o).take m) := by
  have hr := slb_row h hw hm
  have hl := hr.length
  have hcap := (sat_slb_len h).2
  rcases Nat.eq_zero_or_pos m with h0 | h0
  · subst h0
    rw [List.take_zero]
    exact ⟨rfl, by omega, fun _ h => (nomatch h), fun h => (by omega), fun i h => (by omega)⟩
  · have hs := hr.some (by omega)
    obtain ⟨b, rfl⟩ := Option.isSome_iff_exists.1 hs
    have e1 : slAt (some b) o cap 1 = some (b.add o) := by
      unfold slAt
      rw [if_neg (by omega), Option.map_some, Nat.mul_one]
    rw [e1]
    refine ⟨by simp; omega, by omega, wf_drop_take hw o m, fun _ => rfl, fun i hi => ?_⟩
    rw [Option.getD_some, add_add']
    have := hr.read (o + i) (by omega)
    rw [Option.getD_some] at this
    rw [this]
    congr 2
    simp only [List.getD_eq_getElem?_getD, List.getElem?_take, hi, if_true, List.getElem?_drop]
theorem unitsF_ret (n : Int) (hn : -9223372036854775808 ≤ n ∧ n ≤ 9223372036854775807) (st : PH) : Ret Try.prog 19 [.int .i64 n] st (.int .i64 (newU n)) := by
  have hS := sat_start st
  have hl := newM_length n
  refine Ret.of_lies ?_
  (refine acalls_of_hwp Try.func19 rfl rfl ?_; simp only [Try.ntmps19, List.length_cons, List.length_nil, Nat.reduceAdd, Nat.reduceSub, List.replicate_succ, List.replicate_zero, List.cons_append, List.nil_append])
  repeat' first | (with_reducible refine gateCall (f := 14) ?_; first | (with_reducible refine ⟨real14, ACalls.mono (new_sat n hn _ _ hS) ?_⟩; rintro v_ s_ ⟨q_, rfl, hS⟩)) | (with_reducible refine gateCall (f := 22) ?_; first | (with_reducible refine Ret.next (units_ret _ _ _ _ (sat_pick (by (repeat' first | (with_reducible exact .here) | (with_reducible apply Pick.there)); first | done | fail) hS)) real22 ?_)) | (with_reducible refine semK_build ?_) | (with_reducible refine semK_make ?_) | (with_reducible refine semK_slice ?_) | (with_reducible refine semK_makeFunc ?_) | (with_reducible refine roundsK_step ?_) | (with_reducible refine gateSem ?_; first | (with_reducible refine ap1_27 (by omega) hS (by (repeat' first | (with_reducible exact .here) | (with_reducible apply Pick.there)); first | done | fail) (by (repeat' first | (with_reducible exact .here) | (with_reducible apply Pick.there)); first | done | fail) (by with_unfolding_all rfl) (by with_unfolding_all rfl) (fun a1_ c1_ s_ hS => ?_)) | (with_reducible refine ap1_40 (by omega) hS (by (repeat' first | (with_reducible exact .here) | (with_reducible apply Pick.there)); first | done | fail) (by (repeat' first | (with_reducible exact .here) | (with_reducible apply Pick.there)); first | done | fail) (by with_unfolding_all rfl) (by with_unfolding_all rfl) (fun a1_ c1_ s_ hS => ?_)) | (with_reducible refine ap1_74 (by omega) hS (by (repeat' first | (with_reducible exact .here) | (with_reducible apply Pick.there)); first | done | fail) (by (repeat' first | (with_reducible exact .here) | (with_reducible apply Pick.there)); first | done | fail) (by with_unfolding_all rfl) (by with_unfolding_all rfl) (fun a1_ c1_ s_ hS => ?_))) | (with_reducible refine gOv ?_; first | (with_reducible refine ov_pt hS (by (repeat' first | (with_reducible exact .here) | (with_reducible apply Pick.there)); first | done | fail) (by with_unfolding_all rfl) ?_) | ((first | replace hS := sat_mrg (by (repeat' first | (with_reducible exact .here) | (with_reducible apply Mrg.there)); first | done | fail) hT hS | (replace hS := sat_thaw (by (repeat' first | (with_reducible exact .here) | (with_reducible apply Pick.there)); first | done | fail) hT hS; simp only [List.cons_append, List.nil_append] at hS)); clear hT)) | (with_reducible refine gAg ?_; first | (with_reducible refine ov_agg hS (by (repeat' first | (with_reducible exact .here) | (with_reducible apply Pick.there)); first | done | fail) (by first | (simp only [List.size_toArray, List.length_cons, List.length_nil]; done) | (simp only [List.size_toArray, List.length_cons, List.length_nil]; omega) | omega) ?_) | ((first | replace hS := sat_mrg (by (repeat' first | (with_reducible exact .here) | (with_reducible apply Mrg.there)); first | done | fail) hT hS | (replace hS := sat_thaw (by (repeat' first | (with_reducible exact .here) | (with_reducible apply Pick.there)); first | done | fail) hT hS; simp only [List.cons_append, List.nil_append] at hS)); clear hT)) | (with_reducible refine gRd ?_; first | (with_reducible refine rd_pt hT (by (repeat' first | (with_reducible exact .here) | (with_reducible apply Pick.there)); first | done | fail) (by with_unfolding_all rfl) ?_)) | (with_reducible refine gRa ?_; first | (with_reducible refine rd_agg hT (by (repeat' first | (with_reducible exact .here) | (with_reducible apply Pick.there)); first | done | fail) (by first | (simp only [List.size_toArray, List.length_cons, List.length_nil]; done) | (simp only [List.size_toArray, List.length_cons, List.length_nil]; omega) | omega) ?_)) | (with_reducible refine gSt ?_; first | (with_reducible refine st_pt hS (by (repeat' first | (with_reducible exact .here) | (with_reducible apply Pick.there)); first | done | fail) (by first | (simp only [List.size_toArray, List.length_cons, List.length_nil]; done) | (simp only [List.size_toArray, List.length_cons, List.length_nil]; omega) | omega) (by simp only [spl, List.setIfInBounds_toArray, List.set_cons_succ, List.set_cons_zero] <;> rfl) (fun s_ hS => ?_)) | ((first | replace hS := sat_mrg (by (repeat' first | (with_reducible exact .here) | (with_reducible apply Mrg.there)); first | done | fail) hT hS | (replace hS := sat_thaw (by (repeat' first | (with_reducible exact .here) | (with_reducible apply Pick.there)); first | done | fail) hT hS; simp only [List.cons_append, List.nil_append] at hS)); clear hT)) | (with_reducible refine gNew ?_; with_reducible refine new_pt hS (fun p_ s_ hS => ?_)) | (with_reducible refine gLie ?_; first | (with_reducible refine lies_is hS (by (repeat' first | (with_reducible exact .here) | (with_reducible apply Pick.there)); first | done | fail) ?_) | (with_reducible refine lies_0 ?_)) | (with_reducible refine gateDraw ?_; first | ((first | replace hS := sat_mrg (by (repeat' first | (with_reducible exact .here) | (with_reducible apply Mrg.there)); first | done | fail) hT hS | (replace hS := sat_thaw (by (repeat' first | (with_reducible exact .here) | (with_reducible apply Pick.there)); first | done | fail) hT hS; simp only [List.cons_append, List.nil_append] at hS)); clear hT) | (with_reducible refine draw_L mixed hS (by decide +kernel) (fun hT hS => ?_)) | (with_reducible refine draw_S mixed hS (by decide +kernel) (fun hT hS => ?_))) | (with_reducible refine guardK_decn (fun h_ => ?_) (fun h_ => ?_) <;> (try (exfalso; omega))) | (with_reducible refine condK_decn (fun h_ => ?_) (fun h_ => ?_) <;> (try (exfalso; omega))) | (with_reducible refine guardK_dec (fun h_ => ?_) (fun h_ => ?_) <;> (try (exfalso; omega))) | (with_reducible refine condK_dec (fun h_ => ?_) (fun h_ => ?_) <;> (try (exfalso; omega))) | (with_reducible refine and_row (by assumption) (by omega) ?_) | (with_reducible refine and_row1 (by assumption) (by omega) (by omega) ?_) | (with_reducible refine and_row2 (by assumption) (by omega) ?_) | (with_reducible refine gateSom ?_; first | (with_reducible refine and_row2 (slb_some (sat_pick (by (repeat' first | (with_reducible exact .here) | (with_reducible apply Pick.there)); first | done | fail) hS)) (by omega) ?_) | (with_reducible refine and_row2 (slb_some (sat_pick (by (repeat' first | (with_reducible exact .here) | (with_reducible apply Pick.there)); first | done | fail) hT)) (by omega) ?_)) | (with_reducible refine gateSome3 ?_; first | (with_reducible refine and_row (slb_some (sat_pick (by (repeat' first | (with_reducible exact .here) | (with_reducible apply Pick.there)); first | done | fail) hS)) (by omega) ?_) | (with_reducible refine and_row (slb_some (sat_pick (by (repeat' first | (with_reducible exact .here) | (with_reducible apply Pick.there)); first | done | fail) hT)) (by omega) ?_) | (with_reducible refine and_row1 (slb_some (sat_pick (by (repeat' first | (with_reducible exact .here) | (with_reducible apply Pick.there)); first | done | fail) hS)) (by omega) (by omega) ?_) | (with_reducible refine and_row1 (slb_some (sat_pick (by (repeat' first | (with_reducible exact .here) | (with_reducible apply Pick.there)); first | done | fail) hT)) (by omega) (by omega) ?_)) | (with_reducible refine And.intro ?_ ?_; (first | assumption | omega)) | (simp (disch := first | assumption | omega) only [push_cast, Int.toNat_natCast, Nat.reduceAdd, Nat.reduceLeDiff, Nat.reduceMul, Nat.reduceSub, Int.reduceToNat, Int.reduceLT, Int.reduceLE, Int.reduceEq, Int.reduceAdd, Int.reduceSub, Int.reduceMul, Int.reduceNeg, Nat.reduceLT, Nat.reduceEqDiff, Int.reduceMod, Int.reduceDiv, Nat.reduceMod, Nat.reduceDiv, *]) | (with_reducible refine guardK_nbool (fun h_ => ?_) (fun h_ => ?_)) | (with_reducible refine guardK_bool (fun h_ => ?_) (fun h_ => ?_)) | (with_reducible refine condK_nbool (fun h_ => ?_) (fun h_ => ?_)) | (with_reducible refine condK_abool (fun h_ => ?_) (fun h_ => ?_))
  all_goals ((first | ((first | replace hS := sat_mrg (by (repeat' first | (with_reducible exact .here) | (with_reducible apply Mrg.there)); first | done | fail) hT hS | (replace hS := sat_thaw (by (repeat' first | (with_reducible exact .here) | (with_reducible apply Pick.there)); first | done | fail) hT hS; simp only [List.cons_append, List.nil_append] at hS)); clear hT) | skip); exact gret1 rfl ⟨rfl, sat_is (sat_pick (by (repeat' first | (with_reducible exact .here) | (with_reducible apply Pick.there)); first | done | fail) hS)⟩)
end Go.Proofs.Ytjhoedcjegbgdaa.Ae
