/- Plain laws of entries as bytes; the examples of chapter 16. -/
import Derived.Test.YtlcjhffnbodkoaaEn
set_option linter.unusedVariables false
set_option linter.unusedSimpArgs false
set_option maxRecDepth 100000
set_option maxHeartbeats 4000000
namespace Go.Proofs.Ytlcjhffnbodkoaa.Ae
open Go Go.Proofs.Ytlcjhffnbodkoaa.Bits
theorem buildV_ok {P : Program} {t : TypeId} {len : Nat} {ps : List (Nat × Value)} {st : PH} {K : Value → PH → Prop} {e : TypeId} {z : Value} {cs : List Value} (he : tslice P t = some e) (hk : tok P e = true) (hz : tzero P e = some z) (hl : ps.length = len) (hsz : len * tsz P e ≤ 16777216) (hc : bcat (tsz P e) 0 ps = some cs) (h : NewK st (.cells cs.toArray e (0, 0)) (SlK K len len)) : BuildV P t len ps st K := by
  unfold BuildV
  simp only [he, hz, hc]
  exact ⟨⟨hk, hl, hsz⟩, h⟩
theorem gateSome3 {a : Option Addr} {A Q : Prop} (h : (a.isSome = true ∧ A) ∧ Q) : (a.isSome = true ∧ A) ∧ Q := h
theorem gN_same (l m : List Int) (len : Nat) (p : Int) : ∀ k : Nat, (∀ i : Nat, i < k → byteAt l len p i = byteAt m len p i) → gN l len p k = gN m len p k := by
  intro k
  induction k with
  | zero => intro _; rfl
  | succ k ih => intro h; rw [gN, gN, ih (fun i hi => h i (by omega)), h k (by omega)]
theorem entB_get (op fl : Int) : (entB op fl).getD 0 0 = op ∧ (entB op fl).getD 1 0 = fl ∧ (entB op fl).getD 2 0 = 0 ∧ (entB op fl).getD 3 0 = 0 ∧ gN (entB op fl) 32 28 4 = 0 := by
  refine ⟨rfl, rfl, rfl, rfl, ?_⟩
  show (0 : Int) + byteAt (entB op fl) 32 28 0 * 1 + byteAt (entB op fl) 32 28 1 * 256 + byteAt (entB op fl) 32 28 2 * 65536 + byteAt (entB op fl) 32 28 3 * 16777216 = 0
  have e : ∀ i : Int, 0 ≤ i → i < 4 → byteAt (entB op fl) 32 28 i = 0 := by
    intro i h0 h1
    unfold byteAt
    rw [if_pos (by omega)]
    have : (28 + i).toNat = 28 ∨ (28 + i).toNat = 29 ∨ (28 + i).toNat = 30 ∨ (28 + i).toNat = 31 := by omega
    rcases this with h | h | h | h <;> rw [h] <;> rfl
  rw [e 0 (by omega) (by omega), e 1 (by omega) (by omega), e 2 (by omega) (by omega), e 3 (by omega) (by omega)]; rfl
theorem entL_at {op fl t c a b d m : Int} (ht : 0 ≤ t ∧ t < 4294967296) (hc : 0 ≤ c ∧ c < 4294967296) (ha : 0 ≤ a ∧ a < 4294967296) (hb : 0 ≤ b ∧ b < 4294967296) (hd : 0 ≤ d ∧ d < 4294967296) (hm : 0 ≤ m ∧ m < 4294967296) :
    ((entL op fl t c a b d m).getD 0 0 = op ∧ (entL op fl t c a b d m).getD 1 0 = fl ∧ (entL op fl t c a b d m).getD 2 0 = 0 ∧ (entL op fl t c a b d m).getD 3 0 = 0) ∧
    gN (entL op fl t c a b d m) 32 4 4 = t ∧ gN (entL op fl t c a b d m) 32 8 4 = c ∧ gN (entL op fl t c a b d m) 32 12 4 = a ∧ gN (entL op fl t c a b d m) 32 16 4 = b ∧ gN (entL op fl t c a b d m) 32 20 4 = d ∧ gN (entL op fl t c a b d m) 32 24 4 = m ∧ gN (entL op fl t c a b d m) 32 28 4 = 0 := by
  have l0 := entB_length op fl
  have ll : ∀ (l : List Int) (p n : Int), l.length = 32 → (putL l p n 4).length = 32 := fun l p n h => by rw [putL_length]; exact h
  have put : ∀ (l : List Int) (p n : Int), l.length = 32 → 0 ≤ p → p + 4 ≤ 32 → 0 ≤ n ∧ n < 4294967296 → gN (putL l p n 4) 32 p 4 = n := by
    intro l p n hl h0 h1 hn
    rw [gN_put' l 32 hl p n 4 0 4 p (by omega) h0 (by omega) (by omega)]
    show n / 1 % 4294967296 = n
    omega
  have off : ∀ (l : List Int) (p n q : Int), l.length = 32 → (q + 4 ≤ p ∨ p + 4 ≤ q) → gN (putL l p n 4) 32 q 4 = gN l 32 q 4 := fun l p n q hl h => gN_put_off' l 32 hl p n q 4 4 (by omega)
  have get : ∀ (l : List Int) (p n : Int) (j : Nat), l.length = 32 → j < 4 → 4 ≤ p → (putL l p n 4).getD j 0 = l.getD j 0 := fun l p n j hl hj hp => by rw [putL_get l p n j (by omega) 4, if_neg (by omega)]
  obtain ⟨e0, e1, e2, e3, e4⟩ := entB_get op fl
  have l1 := ll _ 4 t l0
  have l2 := ll _ 8 c l1
  have l3 := ll _ 12 a l2
  have l4 := ll _ 16 b l3
  have l5 := ll _ 20 d l4
  unfold entL
  refine ⟨⟨?_, ?_, ?_, ?_⟩, ?_, ?_, ?_, ?_, ?_, ?_, ?_⟩
  · rw [get _ _ _ _ l5 (by omega) (by omega), get _ _ _ _ l4 (by omega) (by omega), get _ _ _ _ l3 (by omega) (by omega), get _ _ _ _ l2 (by omega) (by omega), get _ _ _ _ l1 (by omega) (by omega), get _ _ _ _ l0 (by omega) (by omega), e0]
  · rw [get _ _ _ _ l5 (by omega) (by omega), get _ _ _ _ l4 (by omega) (by omega), get _ _ _ _ l3 (by omega) (by omega), get _ _ _ _ l2 (by omega) (by omega), get _ _ _ _ l1 (by omega) (by omega), get _ _ _ _ l0 (by omega) (by omega), e1]
  · rw [get _ _ _ _ l5 (by omega) (by omega), get _ _ _ _ l4 (by omega) (by omega), get _ _ _ _ l3 (by omega) (by omega), get _ _ _ _ l2 (by omega) (by omega), get _ _ _ _ l1 (by omega) (by omega), get _ _ _ _ l0 (by omega) (by omega), e2]
  · rw [get _ _ _ _ l5 (by omega) (by omega), get _ _ _ _ l4 (by omega) (by omega), get _ _ _ _ l3 (by omega) (by omega), get _ _ _ _ l2 (by omega) (by omega), get _ _ _ _ l1 (by omega) (by omega), get _ _ _ _ l0 (by omega) (by omega), e3]
  · rw [off _ _ _ _ l5 (by omega), off _ _ _ _ l4 (by omega), off _ _ _ _ l3 (by omega), off _ _ _ _ l2 (by omega), off _ _ _ _ l1 (by omega), put _ _ _ l0 (by omega) (by omega) ht]
  · rw [off _ _ _ _ l5 (by omega), off _ _ _ _ l4 (by omega), off _ _ _ _ l3 (by omega), off _ _ _ _ l2 (by omega), put _ _ _ l1 (by omega) (by omega) hc]
  · rw [off _ _ _ _ l5 (by omega), off _ _ _ _ l4 (by omega), off _ _ _ _ l3 (by omega), put _ _ _ l2 (by omega) (by omega) ha]
  · rw [off _ _ _ _ l5 (by omega), off _ _ _ _ l4 (by omega), put _ _ _ l3 (by omega) (by omega) hb]
  · rw [off _ _ _ _ l5 (by omega), put _ _ _ l4 (by omega) (by omega) hd]
  · rw [put _ _ _ l5 (by omega) (by omega) hm]
  · rw [off _ _ _ _ l5 (by omega), off _ _ _ _ l4 (by omega), off _ _ _ _ l3 (by omega), off _ _ _ _ l2 (by omega), off _ _ _ _ l1 (by omega), off _ _ _ _ l0 (by omega), e4]
/-- An entry that may be is read as it was. -/
theorem entL_ok {op fl t c a b d m : Int} (h : ChkOK op fl) (ht : 0 ≤ t ∧ t < 4294967296) (hc : 0 ≤ c ∧ c < 4294967296) (ha : 0 ≤ a ∧ a < 4294967296) (hb : 0 ≤ b ∧ b < 4294967296) (hd : 0 ≤ d ∧ d < 4294967296) (hm : 0 ≤ m ∧ m < 4294967296) :
    EntOK (entL op fl t c a b d m) ∧ entV (entL op fl t c a b d m) = sqeV op fl t c a b d m := by
  obtain ⟨⟨e0, e1, e2, e3⟩, g1, g2, g3, g4, g5, g6, g7⟩ := entL_at (op := op) (fl := fl) ht hc ha hb hd hm
  refine ⟨⟨by rw [e0, e1]; exact h, ?_⟩, ?_⟩
  · unfold entE; rw [e0, e1, g1, g2, g3, g4, g5, g6]
  · unfold entV; rw [e0, e1, g1, g2, g3, g4, g5, g6]
theorem zer_not : ¬ EntOK (zer 32) := fun h => absurd h.1.1 (by unfold zer; decide)
theorem first16_ret (st : PH) : Ret Try.prog 39 [] st (.bool true) := by
  have hS := sat_start st
  have eb := ebytes_yes
  have er := eread_no
  unfold sqeV at eb er
  refine Ret.of_lies ?_
  (refine acalls_of_hwp Try.func39 rfl rfl ?_; simp only [Try.ntmps39, List.length_cons, List.length_nil, Nat.reduceAdd, Nat.reduceSub, List.replicate_succ, List.replicate_zero, List.cons_append, List.nil_append])
  repeat' first | (with_reducible refine gateCall (f := 40) ?_; first | (with_reducible refine ⟨real40, ACalls.mono (eb _ _ _ _ _ _ _ _ (by decide) (by omega) (by omega) (by omega) (by omega) (by omega) (by omega) _ _ hS) ?_⟩; rintro v_ s_ ⟨a1_, c1_, rfl, hS⟩)) | (with_reducible refine gateCall (f := 41) ?_; first | (with_reducible refine Ret.next (er _ _ _ _ (slb_row (zeros_slb (sat_pick (by (repeat' first | (with_reducible exact .here) | (with_reducible apply Pick.there)); first | done | fail) hS)) (rep_wf8 32) (by omega)) zer_not) real41 ?_)) | (with_reducible refine semK_build ?_) | (with_reducible refine semK_make ?_) | (with_reducible refine semK_slice ?_) | (with_reducible refine semK_makeFunc ?_) | (with_reducible refine roundsK_step ?_) | (with_reducible refine gateSem ?_; first | (with_reducible refine ap1_22 (by omega) hS (by (repeat' first | (with_reducible exact .here) | (with_reducible apply Pick.there)); first | done | fail) (by (repeat' first | (with_reducible exact .here) | (with_reducible apply Pick.there)); first | done | fail) (by with_unfolding_all rfl) (by with_unfolding_all rfl) (fun a1_ c1_ s_ hS => ?_))) | (with_reducible refine gOv ?_; first | (with_reducible refine ov_pt hS (by (repeat' first | (with_reducible exact .here) | (with_reducible apply Pick.there)); first | done | fail) (by with_unfolding_all rfl) ?_) | ((first | replace hS := sat_mrg (by (repeat' first | (with_reducible exact .here) | (with_reducible apply Mrg.there)); first | done | fail) hT hS | (replace hS := sat_thaw (by (repeat' first | (with_reducible exact .here) | (with_reducible apply Pick.there)); first | done | fail) hT hS; simp only [List.cons_append, List.nil_append] at hS)); clear hT)) | (with_reducible refine gAg ?_; first | (with_reducible refine ov_agg hS (by (repeat' first | (with_reducible exact .here) | (with_reducible apply Pick.there)); first | done | fail) (by first | (simp only [List.size_toArray, List.length_cons, List.length_nil]; done) | (simp only [List.size_toArray, List.length_cons, List.length_nil]; omega) | omega) ?_) | ((first | replace hS := sat_mrg (by (repeat' first | (with_reducible exact .here) | (with_reducible apply Mrg.there)); first | done | fail) hT hS | (replace hS := sat_thaw (by (repeat' first | (with_reducible exact .here) | (with_reducible apply Pick.there)); first | done | fail) hT hS; simp only [List.cons_append, List.nil_append] at hS)); clear hT)) | (with_reducible refine gRd ?_; first | (with_reducible refine rd_pt hT (by (repeat' first | (with_reducible exact .here) | (with_reducible apply Pick.there)); first | done | fail) (by with_unfolding_all rfl) ?_)) | (with_reducible refine gRa ?_; first | (with_reducible refine rd_agg hT (by (repeat' first | (with_reducible exact .here) | (with_reducible apply Pick.there)); first | done | fail) (by first | (simp only [List.size_toArray, List.length_cons, List.length_nil]; done) | (simp only [List.size_toArray, List.length_cons, List.length_nil]; omega) | omega) ?_)) | (with_reducible refine gSt ?_; first | (with_reducible refine st_pt hS (by (repeat' first | (with_reducible exact .here) | (with_reducible apply Pick.there)); first | done | fail) (by first | (simp only [List.size_toArray, List.length_cons, List.length_nil]; done) | (simp only [List.size_toArray, List.length_cons, List.length_nil]; omega) | omega) (by simp only [spl, List.setIfInBounds_toArray, List.set_cons_succ, List.set_cons_zero] <;> rfl) (fun s_ hS => ?_)) | ((first | replace hS := sat_mrg (by (repeat' first | (with_reducible exact .here) | (with_reducible apply Mrg.there)); first | done | fail) hT hS | (replace hS := sat_thaw (by (repeat' first | (with_reducible exact .here) | (with_reducible apply Pick.there)); first | done | fail) hT hS; simp only [List.cons_append, List.nil_append] at hS)); clear hT)) | (with_reducible refine gNew ?_; with_reducible refine new_pt hS (fun p_ s_ hS => ?_)) | (with_reducible refine gLie ?_; first | (with_reducible refine lies_is hS (by (repeat' first | (with_reducible exact .here) | (with_reducible apply Pick.there)); first | done | fail) ?_) | (with_reducible refine lies_0 ?_)) | (with_reducible refine gateDraw ?_; first | ((first | replace hS := sat_mrg (by (repeat' first | (with_reducible exact .here) | (with_reducible apply Mrg.there)); first | done | fail) hT hS | (replace hS := sat_thaw (by (repeat' first | (with_reducible exact .here) | (with_reducible apply Pick.there)); first | done | fail) hT hS; simp only [List.cons_append, List.nil_append] at hS)); clear hT) | (with_reducible refine draw_L mixed hS (by decide +kernel) (fun hT hS => ?_)) | (with_reducible refine draw_S mixed hS (by decide +kernel) (fun hT hS => ?_))) | (with_reducible refine guardK_decn (fun h_ => ?_) (fun h_ => ?_) <;> (try (exfalso; omega))) | (with_reducible refine condK_decn (fun h_ => ?_) (fun h_ => ?_) <;> (try (exfalso; omega))) | (with_reducible refine guardK_dec (fun h_ => ?_) (fun h_ => ?_) <;> (try (exfalso; omega))) | (with_reducible refine condK_dec (fun h_ => ?_) (fun h_ => ?_) <;> (try (exfalso; omega))) | (with_reducible refine and_row (by assumption) (by omega) ?_) | (with_reducible refine and_row1 (by assumption) (by omega) (by omega) ?_) | (with_reducible refine and_row2 (by assumption) (by omega) ?_) | (with_reducible refine gateSom ?_; first | (with_reducible refine and_row2 (slb_some (sat_pick (by (repeat' first | (with_reducible exact .here) | (with_reducible apply Pick.there)); first | done | fail) hS)) (by omega) ?_) | (with_reducible refine and_row2 (slb_some (sat_pick (by (repeat' first | (with_reducible exact .here) | (with_reducible apply Pick.there)); first | done | fail) hT)) (by omega) ?_)) | (with_reducible refine gateSome3 ?_; first | (with_reducible refine and_row (slb_some (sat_pick (by (repeat' first | (with_reducible exact .here) | (with_reducible apply Pick.there)); first | done | fail) hS)) (by omega) ?_) | (with_reducible refine and_row (slb_some (sat_pick (by (repeat' first | (with_reducible exact .here) | (with_reducible apply Pick.there)); first | done | fail) hT)) (by omega) ?_)) | (with_reducible refine And.intro ?_ ?_; (first | assumption | omega)) | (simp (disch := first | assumption | omega) only [push_cast, Int.toNat_natCast, Nat.reduceAdd, Nat.reduceLeDiff, Nat.reduceMul, Nat.reduceSub, Int.reduceToNat, Int.reduceLT, Int.reduceLE, Int.reduceEq, Int.reduceAdd, Int.reduceSub, Int.reduceMul, Int.reduceNeg, Nat.reduceLT, Nat.reduceEqDiff, Int.reduceMod, Int.reduceDiv, Nat.reduceMod, Nat.reduceDiv, *]) | (with_reducible refine guardK_nbool (fun h_ => ?_) (fun h_ => ?_)) | (with_reducible refine guardK_bool (fun h_ => ?_) (fun h_ => ?_)) | (with_reducible refine condK_nbool (fun h_ => ?_) (fun h_ => ?_)) | (with_reducible refine condK_abool (fun h_ => ?_) (fun h_ => ?_))
  all_goals exact gret1 rfl ⟨rfl, sat_is (sat_pick (by (repeat' first | (with_reducible exact .here) | (with_reducible apply Pick.there)); first | done | fail) hS)⟩
theorem num_some (a b : Int) (h0 : 0 < b) (h1 : b ≤ 4611686018427387904) : ∃ x, (∀ st, Ret Try.prog 16 [.int .i64 a, .int .i64 b] st (.int .i64 x)) ∧ 0 ≤ x ∧ x < b :=
  ⟨a % b, fun st => number_ret a b h0 h1 st, Int.emod_nonneg _ (by omega), Int.emod_lt_of_pos _ h0⟩
end Go.Proofs.Ytlcjhffnbodkoaa.Ae
