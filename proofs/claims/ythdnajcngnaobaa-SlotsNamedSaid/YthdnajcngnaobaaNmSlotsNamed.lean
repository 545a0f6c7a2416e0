/- All that name one object: the program's table, and the table of the statement SlotsNamed; for all that the lemmas name. -/
import Derived.Test.YthdnajcngnaobaaSeSlotsNamed
import Derived.Test.YthdnajcngnaobaaLiSlotsNamed
set_option linter.unusedVariables false
set_option linter.unusedSimpArgs false
set_option maxRecDepth 100000
set_option maxHeartbeats 4000000
namespace Go.Proofs.Ythdnajcngnaobaa.Ae
open Go Go.Proofs.Ythdnajcngnaobaa.Bits
section
attribute [local irreducible] Ret ACalls
def nmP (x y : SL) : Bool := decide (y.k = x.k ∧ y.o = x.o ∧ (¬ y.k = 1 ∨ y.s = x.s))
theorem named_clos (bp : Nat) (c x : SL) (L : List HA) (s : PH) (hS : Sat (Pt bp (.cells #[.int .i64 c.k, .int .i64 c.o, .int .i64 c.s, .int .i64 c.b, .int .i64 c.r] 32 (0, 0)) :: L) s) : ACalls Try.prog 55 [.agg #[.int .i64 x.k, .int .i64 x.o, .int .i64 x.s, .int .i64 x.b, .int .i64 x.r, .int .i64 x.pn, .int .i64 x.ps], .pointer (some ⟨bp, 0, none⟩)].toArray s fun v z => v = .bool (nmP c x) ∧ Sat (Pt bp (.cells #[.int .i64 c.k, .int .i64 c.o, .int .i64 c.s, .int .i64 c.b, .int .i64 c.r] 32 (0, 0)) :: L) z := by
  have nm := fun st => names_ret x.k x.o x.s x.b x.r c.k c.o c.s c.b c.r st
  unfold capV at nm
  unfold nmP
  (refine acalls_of_hwp Try.func55 rfl rfl ?_; simp only [Try.ntmps55, List.length_cons, List.length_nil, Nat.reduceAdd, Nat.reduceSub, List.replicate_succ, List.replicate_zero, List.cons_append, List.nil_append])
  repeat' first | (with_reducible refine gateCall (f := 56) ?_; first | (with_reducible refine Ret.next (nm _) real56 ?_)) | (with_reducible refine semK_build ?_) | (with_reducible refine semK_make ?_) | (with_reducible refine semK_slice ?_) | (with_reducible refine semK_makeFunc ?_) | (with_reducible refine roundsK_step ?_) | (with_reducible refine gateSem ?_; first | (with_reducible refine ap1_39 (by omega) hS (by (repeat' first | (with_reducible exact .here) | (with_reducible apply Pick.there)); first | done | fail) (by (repeat' first | (with_reducible exact .here) | (with_reducible apply Pick.there)); first | done | fail) (by with_unfolding_all rfl) (by with_unfolding_all rfl) (fun a1_ c1_ s_ hS => ?_)) | (with_reducible refine ap1_55 (by omega) hS (by (repeat' first | (with_reducible exact .here) | (with_reducible apply Pick.there)); first | done | fail) (by (repeat' first | (with_reducible exact .here) | (with_reducible apply Pick.there)); first | done | fail) (by with_unfolding_all rfl) (by with_unfolding_all rfl) (fun a1_ c1_ s_ hS => ?_)) | (with_reducible refine ap1_72 (by omega) hS (by (repeat' first | (with_reducible exact .here) | (with_reducible apply Pick.there)); first | done | fail) (by (repeat' first | (with_reducible exact .here) | (with_reducible apply Pick.there)); first | done | fail) (by with_unfolding_all rfl) (by with_unfolding_all rfl) (fun a1_ c1_ s_ hS => ?_))) | (with_reducible refine gOv ?_; first | (with_reducible refine ov_pt hS (by (repeat' first | (with_reducible exact .here) | (with_reducible apply Pick.there)); first | done | fail) (by with_unfolding_all rfl) ?_) | ((first | replace hS := sat_mrg (by (repeat' first | (with_reducible exact .here) | (with_reducible apply Mrg.there)); first | done | fail) hT hS | (replace hS := sat_thaw (by (repeat' first | (with_reducible exact .here) | (with_reducible apply Pick.there)); first | done | fail) hT hS; simp only [List.cons_append, List.nil_append] at hS)); clear hT)) | (with_reducible refine gAg ?_; first | (with_reducible refine ov_agg hS (by (repeat' first | (with_reducible exact .here) | (with_reducible apply Pick.there)); first | done | fail) (by first | (simp only [List.size_toArray, List.length_cons, List.length_nil]; done) | (simp only [List.size_toArray, List.length_cons, List.length_nil]; omega) | omega) ?_) | ((first | replace hS := sat_mrg (by (repeat' first | (with_reducible exact .here) | (with_reducible apply Mrg.there)); first | done | fail) hT hS | (replace hS := sat_thaw (by (repeat' first | (with_reducible exact .here) | (with_reducible apply Pick.there)); first | done | fail) hT hS; simp only [List.cons_append, List.nil_append] at hS)); clear hT)) | (with_reducible refine gRd ?_; first | (with_reducible refine rd_pt hT (by (repeat' first | (with_reducible exact .here) | (with_reducible apply Pick.there)); first | done | fail) (by with_unfolding_all rfl) ?_)) | (with_reducible refine gRa ?_; first | (with_reducible refine rd_agg hT (by (repeat' first | (with_reducible exact .here) | (with_reducible apply Pick.there)); first | done | fail) (by first | (simp only [List.size_toArray, List.length_cons, List.length_nil]; done) | (simp only [List.size_toArray, List.length_cons, List.length_nil]; omega) | omega) ?_)) | (with_reducible refine gSt ?_; first | (with_reducible refine st_pt hS (by (repeat' first | (with_reducible exact .here) | (with_reducible apply Pick.there)); first | done | fail) (by first | (simp only [List.size_toArray, List.length_cons, List.length_nil]; done) | (simp only [List.size_toArray, List.length_cons, List.length_nil]; omega) | omega) (by simp only [spl, List.setIfInBounds_toArray, List.set_cons_succ, List.set_cons_zero] <;> rfl) (fun s_ hS => ?_)) | ((first | replace hS := sat_mrg (by (repeat' first | (with_reducible exact .here) | (with_reducible apply Mrg.there)); first | done | fail) hT hS | (replace hS := sat_thaw (by (repeat' first | (with_reducible exact .here) | (with_reducible apply Pick.there)); first | done | fail) hT hS; simp only [List.cons_append, List.nil_append] at hS)); clear hT)) | (with_reducible refine gNew ?_; with_reducible refine new_pt hS (fun p_ s_ hS => ?_)) | (with_reducible refine gLie ?_; first | (with_reducible refine lies_is hS (by (repeat' first | (with_reducible exact .here) | (with_reducible apply Pick.there)); first | done | fail) ?_) | (with_reducible refine lies_0 ?_)) | (with_reducible refine gateDraw ?_; first | ((first | replace hS := sat_mrg (by (repeat' first | (with_reducible exact .here) | (with_reducible apply Mrg.there)); first | done | fail) hT hS | (replace hS := sat_thaw (by (repeat' first | (with_reducible exact .here) | (with_reducible apply Pick.there)); first | done | fail) hT hS; simp only [List.cons_append, List.nil_append] at hS)); clear hT) | (with_reducible refine draw_L mixed hS (by decide +kernel) (fun hT hS => ?_)) | (with_reducible refine draw_S mixed hS (by decide +kernel) (fun hT hS => ?_))) | (with_reducible refine guardK_decn (fun h_ => ?_) (fun h_ => ?_) <;> (try (exfalso; omega))) | (with_reducible refine condK_decn (fun h_ => ?_) (fun h_ => ?_) <;> (try (exfalso; omega))) | (with_reducible refine guardK_dec (fun h_ => ?_) (fun h_ => ?_) <;> (try (exfalso; omega))) | (with_reducible refine condK_dec (fun h_ => ?_) (fun h_ => ?_) <;> (try (exfalso; omega))) | (with_reducible refine and_row (by assumption) (by omega) ?_) | (with_reducible refine and_row1 (by assumption) (by omega) (by omega) ?_) | (with_reducible refine and_row2 (by assumption) (by omega) ?_) | (with_reducible refine gateSom ?_; first | (with_reducible refine and_row2 (slb_some (sat_pick (by (repeat' first | (with_reducible exact .here) | (with_reducible apply Pick.there)); first | done | fail) hS)) (by omega) ?_) | (with_reducible refine and_row2 (slb_some (sat_pick (by (repeat' first | (with_reducible exact .here) | (with_reducible apply Pick.there)); first | done | fail) hT)) (by omega) ?_)) | (with_reducible refine gateSome3 ?_; first | (with_reducible refine and_row (slb_some (sat_pick (by (repeat' first | (with_reducible exact .here) | (with_reducible apply Pick.there)); first | done | fail) hS)) (by omega) ?_) | (with_reducible refine and_row (slb_some (sat_pick (by (repeat' first | (with_reducible exact .here) | (with_reducible apply Pick.there)); first | done | fail) hT)) (by omega) ?_) | (with_reducible refine and_row1 (slb_some (sat_pick (by (repeat' first | (with_reducible exact .here) | (with_reducible apply Pick.there)); first | done | fail) hS)) (by omega) (by omega) ?_) | (with_reducible refine and_row1 (slb_some (sat_pick (by (repeat' first | (with_reducible exact .here) | (with_reducible apply Pick.there)); first | done | fail) hT)) (by omega) (by omega) ?_)) | (with_reducible refine And.intro ?_ ?_; (first | assumption | omega)) | (simp (disch := first | assumption | omega) only [push_cast, Int.toNat_natCast, Nat.reduceAdd, Nat.reduceLeDiff, Nat.reduceMul, Nat.reduceSub, Int.reduceToNat, Int.reduceLT, Int.reduceLE, Int.reduceEq, Int.reduceAdd, Int.reduceSub, Int.reduceMul, Int.reduceNeg, Nat.reduceLT, Nat.reduceEqDiff, Int.reduceMod, Int.reduceDiv, Nat.reduceMod, Nat.reduceDiv, *]) | (with_reducible refine guardK_nbool (fun h_ => ?_) (fun h_ => ?_)) | (with_reducible refine guardK_bool (fun h_ => ?_) (fun h_ => ?_)) | (with_reducible refine condK_nbool (fun h_ => ?_) (fun h_ => ?_)) | (with_reducible refine condK_abool (fun h_ => ?_) (fun h_ => ?_))
  exact gret1 rfl ⟨rfl, sat_go (by (repeat' first | (with_reducible exact .here) | (with_reducible apply Pick.there) | (with_reducible exact sat_same) | (with_reducible exact sat_none) | (with_reducible apply sat_take') | (with_reducible apply sat_drop')); first | done | fail) hS⟩
theorem tnamed_sat {q : Nat} {T : List SL} {L : List HA} {st : PH} (hS : Sat (TbT q T :: L) st) (c : SL) (hb : T.length ≤ 100000) :
    ACalls Try.prog 24 [.pointer (some ⟨q, 0, none⟩), .agg #[.int .i64 c.k, .int .i64 c.o, .int .i64 c.s, .int .i64 c.b, .int .i64 c.r]].toArray st fun v s => ∃ ar cp, v = .slice ar (tkids T (nmP c)).length cp ∧ Sat (SlB ar (tkids T (nmP c)).length cp 30 2 (fl pcV (tkids T (nmP c))) :: TbT q T :: L) s := by
  obtain ⟨hs, m, l, hm, hS⟩ := tbT_open hS
  have wh := fun {bp L s} hS => twhich_o (q := q) (L := L) (st := s) (m := m) hs hm 55 bp real55 (nmP c) _ (named_clos bp c) hS hb
  (refine acalls_of_hwp Try.func24 rfl rfl ?_; simp only [Try.ntmps24, List.length_cons, List.length_nil, Nat.reduceAdd, Nat.reduceSub, List.replicate_succ, List.replicate_zero, List.cons_append, List.nil_append])
  repeat' first | (with_reducible refine gateCall (f := 54) ?_; first | (with_reducible refine ⟨real54, ACalls.mono (wh (sat_pick3 (by (repeat' first | (with_reducible exact .here) | (with_reducible apply Pick.there)); first | done | fail) (by (repeat' first | (with_reducible exact .here) | (with_reducible apply Pick.there)); first | done | fail) (by (repeat' first | (with_reducible exact .here) | (with_reducible apply Pick.there)); first | done | fail) hS)) ?_⟩; rintro v_ s_ ⟨a1_, c1_, rfl, hS⟩)) | (with_reducible refine semK_build ?_) | (with_reducible refine semK_make ?_) | (with_reducible refine semK_slice ?_) | (with_reducible refine semK_makeFunc ?_) | (with_reducible refine roundsK_step ?_) | (with_reducible refine gateSem ?_; first | (with_reducible refine ap1_39 (by omega) hS (by (repeat' first | (with_reducible exact .here) | (with_reducible apply Pick.there)); first | done | fail) (by (repeat' first | (with_reducible exact .here) | (with_reducible apply Pick.there)); first | done | fail) (by with_unfolding_all rfl) (by with_unfolding_all rfl) (fun a1_ c1_ s_ hS => ?_)) | (with_reducible refine ap1_55 (by omega) hS (by (repeat' first | (with_reducible exact .here) | (with_reducible apply Pick.there)); first | done | fail) (by (repeat' first | (with_reducible exact .here) | (with_reducible apply Pick.there)); first | done | fail) (by with_unfolding_all rfl) (by with_unfolding_all rfl) (fun a1_ c1_ s_ hS => ?_)) | (with_reducible refine ap1_72 (by omega) hS (by (repeat' first | (with_reducible exact .here) | (with_reducible apply Pick.there)); first | done | fail) (by (repeat' first | (with_reducible exact .here) | (with_reducible apply Pick.there)); first | done | fail) (by with_unfolding_all rfl) (by with_unfolding_all rfl) (fun a1_ c1_ s_ hS => ?_))) | (with_reducible refine gOv ?_; first | (with_reducible refine ov_pt hS (by (repeat' first | (with_reducible exact .here) | (with_reducible apply Pick.there)); first | done | fail) (by with_unfolding_all rfl) ?_) | ((first | replace hS := sat_mrg (by (repeat' first | (with_reducible exact .here) | (with_reducible apply Mrg.there)); first | done | fail) hT hS | (replace hS := sat_thaw (by (repeat' first | (with_reducible exact .here) | (with_reducible apply Pick.there)); first | done | fail) hT hS; simp only [List.cons_append, List.nil_append] at hS)); clear hT)) | (with_reducible refine gAg ?_; first | (with_reducible refine ov_agg hS (by (repeat' first | (with_reducible exact .here) | (with_reducible apply Pick.there)); first | done | fail) (by first | (simp only [List.size_toArray, List.length_cons, List.length_nil]; done) | (simp only [List.size_toArray, List.length_cons, List.length_nil]; omega) | omega) ?_) | ((first | replace hS := sat_mrg (by (repeat' first | (with_reducible exact .here) | (with_reducible apply Mrg.there)); first | done | fail) hT hS | (replace hS := sat_thaw (by (repeat' first | (with_reducible exact .here) | (with_reducible apply Pick.there)); first | done | fail) hT hS; simp only [List.cons_append, List.nil_append] at hS)); clear hT)) | (with_reducible refine gRd ?_; first | (with_reducible refine rd_pt hT (by (repeat' first | (with_reducible exact .here) | (with_reducible apply Pick.there)); first | done | fail) (by with_unfolding_all rfl) ?_)) | (with_reducible refine gRa ?_; first | (with_reducible refine rd_agg hT (by (repeat' first | (with_reducible exact .here) | (with_reducible apply Pick.there)); first | done | fail) (by first | (simp only [List.size_toArray, List.length_cons, List.length_nil]; done) | (simp only [List.size_toArray, List.length_cons, List.length_nil]; omega) | omega) ?_)) | (with_reducible refine gSt ?_; first | (with_reducible refine st_pt hS (by (repeat' first | (with_reducible exact .here) | (with_reducible apply Pick.there)); first | done | fail) (by first | (simp only [List.size_toArray, List.length_cons, List.length_nil]; done) | (simp only [List.size_toArray, List.length_cons, List.length_nil]; omega) | omega) (by simp only [spl, List.setIfInBounds_toArray, List.set_cons_succ, List.set_cons_zero] <;> rfl) (fun s_ hS => ?_)) | ((first | replace hS := sat_mrg (by (repeat' first | (with_reducible exact .here) | (with_reducible apply Mrg.there)); first | done | fail) hT hS | (replace hS := sat_thaw (by (repeat' first | (with_reducible exact .here) | (with_reducible apply Pick.there)); first | done | fail) hT hS; simp only [List.cons_append, List.nil_append] at hS)); clear hT)) | (with_reducible refine gNew ?_; with_reducible refine new_pt hS (fun p_ s_ hS => ?_)) | (with_reducible refine gLie ?_; first | (with_reducible refine lies_is hS (by (repeat' first | (with_reducible exact .here) | (with_reducible apply Pick.there)); first | done | fail) ?_) | (with_reducible refine lies_0 ?_)) | (with_reducible refine gateDraw ?_; first | ((first | replace hS := sat_mrg (by (repeat' first | (with_reducible exact .here) | (with_reducible apply Mrg.there)); first | done | fail) hT hS | (replace hS := sat_thaw (by (repeat' first | (with_reducible exact .here) | (with_reducible apply Pick.there)); first | done | fail) hT hS; simp only [List.cons_append, List.nil_append] at hS)); clear hT) | (with_reducible refine draw_L mixed hS (by decide +kernel) (fun hT hS => ?_)) | (with_reducible refine draw_S mixed hS (by decide +kernel) (fun hT hS => ?_))) | (with_reducible refine guardK_decn (fun h_ => ?_) (fun h_ => ?_) <;> (try (exfalso; omega))) | (with_reducible refine condK_decn (fun h_ => ?_) (fun h_ => ?_) <;> (try (exfalso; omega))) | (with_reducible refine guardK_dec (fun h_ => ?_) (fun h_ => ?_) <;> (try (exfalso; omega))) | (with_reducible refine condK_dec (fun h_ => ?_) (fun h_ => ?_) <;> (try (exfalso; omega))) | (with_reducible refine and_row (by assumption) (by omega) ?_) | (with_reducible refine and_row1 (by assumption) (by omega) (by omega) ?_) | (with_reducible refine and_row2 (by assumption) (by omega) ?_) | (with_reducible refine gateSom ?_; first | (with_reducible refine and_row2 (slb_some (sat_pick (by (repeat' first | (with_reducible exact .here) | (with_reducible apply Pick.there)); first | done | fail) hS)) (by omega) ?_) | (with_reducible refine and_row2 (slb_some (sat_pick (by (repeat' first | (with_reducible exact .here) | (with_reducible apply Pick.there)); first | done | fail) hT)) (by omega) ?_)) | (with_reducible refine gateSome3 ?_; first | (with_reducible refine and_row (slb_some (sat_pick (by (repeat' first | (with_reducible exact .here) | (with_reducible apply Pick.there)); first | done | fail) hS)) (by omega) ?_) | (with_reducible refine and_row (slb_some (sat_pick (by (repeat' first | (with_reducible exact .here) | (with_reducible apply Pick.there)); first | done | fail) hT)) (by omega) ?_) | (with_reducible refine and_row1 (slb_some (sat_pick (by (repeat' first | (with_reducible exact .here) | (with_reducible apply Pick.there)); first | done | fail) hS)) (by omega) (by omega) ?_) | (with_reducible refine and_row1 (slb_some (sat_pick (by (repeat' first | (with_reducible exact .here) | (with_reducible apply Pick.there)); first | done | fail) hT)) (by omega) (by omega) ?_)) | (with_reducible refine And.intro ?_ ?_; (first | assumption | omega)) | (simp (disch := first | assumption | omega) only [push_cast, Int.toNat_natCast, Nat.reduceAdd, Nat.reduceLeDiff, Nat.reduceMul, Nat.reduceSub, Int.reduceToNat, Int.reduceLT, Int.reduceLE, Int.reduceEq, Int.reduceAdd, Int.reduceSub, Int.reduceMul, Int.reduceNeg, Nat.reduceLT, Nat.reduceEqDiff, Int.reduceMod, Int.reduceDiv, Nat.reduceMod, Nat.reduceDiv, *]) | (with_reducible refine guardK_nbool (fun h_ => ?_) (fun h_ => ?_)) | (with_reducible refine guardK_bool (fun h_ => ?_) (fun h_ => ?_)) | (with_reducible refine condK_nbool (fun h_ => ?_) (fun h_ => ?_)) | (with_reducible refine condK_abool (fun h_ => ?_) (fun h_ => ?_))
  exact gret1 rfl ⟨a1_, c1_, rfl, sat_tail (fun _ h => tbT_shut hs hm (sat_go (by (repeat' first | (with_reducible exact .here) | (with_reducible apply Pick.there) | (with_reducible exact sat_same) | (with_reducible exact sat_none) | (with_reducible apply sat_take') | (with_reducible apply sat_drop')); first | done | fail) h)) hS⟩
end
theorem tins_last {r : SL} : ∀ {T : List SL}, (∀ x ∈ T, slt x r) → tins r T = T ++ [r] := by
  intro T
  induction T with
  | nil => intro _; rfl
  | cons y T ih =>
    intro h
    unfold tins
    rw [if_pos (h y (List.mem_cons_self ..)), ih fun x hx => h x (List.mem_cons_of_mem _ hx)]
    rfl
def nPl (j : Nat) : Int × Int := (1 + ((j / 16 : Nat) : Int), ((j % 16 : Nat) : Int))
def nR (os : Nat → Int) (j : Nat) : SL := ⟨1 + ((j / 16 : Nat) : Int), ((j % 16 : Nat) : Int), 4, os j, 0, j, ((j % 8 : Nat) : Int), 0, 0⟩
def nT (os : Nat → Int) (i : Nat) : List SL := (List.range i).map (nR os)
theorem nR_lt (os : Nat → Int) {j k : Nat} (h : j < k) : slt (nR os j) (nR os k) := by
  unfold slt nR
  simp only
  omega
theorem nT_len (os : Nat → Int) (i : Nat) : (nT os i).length = i := by unfold nT; rw [List.length_map, List.length_range]
theorem nT_put {os : Nat → Int} (ho : ∀ j, 1 ≤ os j ∧ os j ≤ 5) {i : Nat} (hi : i < 30) : canPut (nT os i) (nR os i) = true ∧ tput (nT os i) (nR os i) = nT os (i + 1) := by
  have hl : ∀ x ∈ nT os i, slt x (nR os i) := fun x hx => by
    obtain ⟨j, hj, rfl⟩ := List.mem_map.1 hx
    exact nR_lt os (List.mem_range.1 hj)
  have h1 := ho i
  have hc : canPut (nT os i) (nR os i) = true := by
    refine canPut_flat ⟨rfl, rfl⟩ ⟨?_, ?_, ?_, ?_⟩ ?_ (capOK_iff.2 ⟨⟨?_, ?_, ?_, ?_, h1.1, ?_⟩, .inl ?_, .inl ?_, .inr ⟨rfl, ?_, ?_⟩, .inr (.inr (.inl rfl))⟩)
    · show 1 ≤ 1 + ((i / 16 : Nat) : Int); omega
    · show 1 + ((i / 16 : Nat) : Int) ≤ 64; omega
    · show 0 ≤ ((i % 16 : Nat) : Int); omega
    · show ((i % 16 : Nat) : Int) < 16; omega
    · exact tget_none.2 fun x hx => slt_ne (hl x hx)
    · show (1 : Int) ≤ 4; decide
    · show (4 : Int) ≤ 9; decide
    · show 0 ≤ ((i % 8 : Nat) : Int); omega
    · show ((i % 8 : Nat) : Int) ≤ 7; omega
    · show os i ≤ 64; omega
    · show ¬ (4 : Int) = 1; decide
    · show ¬ (4 : Int) = 2; decide
    · show 0 ≤ (i : Int); omega
    · show (i : Int) ≤ 2147483647; omega
  refine ⟨hc, ?_⟩
  rw [tput_can hc, tins_last hl]
  unfold nT
  rw [List.range_succ, List.map_append]
  rfl
/-- So many ahead of a number name the object. -/
def nC (os : Nat → Int) (o : Int) (i : Nat) : List Nat := (List.range i).filter fun j => decide (os j = o)
theorem nT_named (os : Nat → Int) (o b r : Int) (n : Nat) : tkids (nT os n) (nmP ⟨0, 0, 4, o, 0, b, r, 0, 0⟩) = (nC os o n).map nPl := by
  unfold tkids nT nC
  rw [List.filter_map, List.map_map]
  have e : ((nmP ⟨0, 0, 4, o, 0, b, r, 0, 0⟩) ∘ nR os) = fun j => decide (os j = o) := by
    funext j
    show decide ((4 : Int) = 4 ∧ os j = o ∧ (¬ (4 : Int) = 1 ∨ (0 : Int) = 0)) = _
    rw [decide_eq_decide]
    exact ⟨fun h => h.2.1, fun h => ⟨rfl, h, .inl (by decide)⟩⟩
  rw [e]
  rfl
theorem nT_none (os : Nat → Int) (o b r : Int) (n : Nat) : tkids (nT os n) (nmP ⟨0, 0, 5, o, 0, b, r, 0, 0⟩) = [] := by
  unfold tkids nT
  rw [List.filter_map]
  have e : ((nmP ⟨0, 0, 5, o, 0, b, r, 0, 0⟩) ∘ nR os) = fun j => false := by
    funext j
    show decide ((4 : Int) = 5 ∧ os j = o ∧ (¬ (4 : Int) = 1 ∨ (0 : Int) = 0)) = _
    exact decide_eq_false fun h => absurd h.1 (by decide)
  rw [e, List.filter_eq_nil_iff.2 fun _ _ => Bool.false_ne_true]
  rfl
theorem nC_next (os : Nat → Int) (o : Int) (i : Nat) : nC os o (i + 1) = if os i = o then nC os o i ++ [i] else nC os o i := by
  unfold nC
  rw [List.range_succ, List.filter_append, List.filter_cons]
  by_cases h : os i = o
  · rw [if_pos h, if_pos (decide_eq_true h)]; rfl
  · rw [if_neg h, if_neg (by rw [decide_eq_true_iff]; exact h), List.filter_nil, List.append_nil]
theorem nC_pre (os : Nat → Int) (o : Int) : ∀ (n i : Nat), i ≤ n → ∃ S, nC os o n = nC os o i ++ S := by
  intro n
  induction n with
  | zero => intro i hi; obtain rfl : i = 0 := by omega
            exact ⟨[], (List.append_nil _).symm⟩
  | succ n ih =>
    intro i hi
    by_cases e : i = n + 1
    · subst e; exact ⟨[], (List.append_nil _).symm⟩
    · obtain ⟨S, hS⟩ := ih i (by omega)
      rw [nC_next, hS]
      split
      · exact ⟨S ++ [n], by rw [List.append_assoc]⟩
      · exact ⟨S, rfl⟩
theorem nC_at {os : Nat → Int} {o : Int} {n i : Nat} (hi : i < n) (ho : os i = o) : (nC os o i).length < (nC os o n).length ∧ ((nC os o n).map nPl).getD (nC os o i).length (0, 0) = nPl i := by
  obtain ⟨S, hS⟩ := nC_pre os o n (i + 1) (by omega)
  rw [nC_next, if_pos ho] at hS
  rw [hS]
  constructor
  · simp only [List.length_append, List.length_cons]; omega
  · rw [List.getD_eq_getElem?_getD, List.map_append, List.map_append, List.append_assoc, List.getElem?_append_right (by rw [List.length_map]; exact Nat.le_refl _), List.length_map, Nat.sub_self]
    rfl
end Go.Proofs.Ythdnajcngnaobaa.Ae
