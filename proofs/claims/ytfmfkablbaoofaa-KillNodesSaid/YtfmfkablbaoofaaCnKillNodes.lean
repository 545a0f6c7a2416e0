/- What the statements' Number returns; for all numbers that the lemma names. -/
import Derived.Test.YtfmfkablbaoofaaTyKillNodes
import Derived.Test.YtfmfkablbaoofaaAkKillNodes
import Derived.Test.YtfmfkablbaoofaaBitsKillNodes
set_option linter.unusedVariables false
set_option linter.unusedSimpArgs false
set_option maxRecDepth 100000
namespace Go.Proofs.Ytfmfkablbaoofaa.Ae
open Go Go.Proofs.Ytfmfkablbaoofaa.Bits
theorem number_ret (a b : Int) (h0 : 0 < b) (h1 : b ≤ 4611686018427387904) (st : PH) : Ret Try.prog 15 [.int .i64 a, .int .i64 b] st (.int .i64 (a % b)) := by
  have r0 := Int.emod_nonneg (-a) (show b ≠ 0 by omega)
  have r1 := Int.emod_lt_of_pos (-a) h0
  have e : Int.tmod a b = a % b ∧ 0 ≤ a % b ∨ Int.tmod a b < 0 ∧ Int.tmod a b + b = a % b ∧ -b < Int.tmod a b := by
    rcases Int.le_total 0 a with ha | ha
    · exact .inl ⟨Int.tmod_eq_emod_of_nonneg ha, Int.emod_nonneg a (by omega)⟩
    · have e : Int.tmod a b = -((-a) % b) := by rw [← Int.tmod_eq_emod_of_nonneg (show 0 ≤ -a by omega), Int.neg_tmod, Int.neg_neg]
      have hd := Int.mul_ediv_add_emod (-a) b
      generalize hq : (-a) / b = q at hd
      generalize hr : (-a) % b = r at *
      by_cases hz : r = 0
      · have h2 : a = b * (-q) := by rw [Int.mul_neg]; omega
        have h3 : a % b = 0 := by rw [h2, Int.mul_emod_right]
        exact .inl ⟨by rw [e, h3, hz]; rfl, by rw [h3]; omega⟩
      · have h2 : a = (b - r) + b * (-q - 1) := by rw [Int.mul_sub, Int.mul_neg]; omega
        have h3 : a % b = b - r := by rw [h2, Int.add_mul_emod_self_left, Int.emod_eq_of_lt (by omega) (by omega)]
        exact .inr ⟨by omega, by omega, by omega⟩
  have hb : ¬ b = 0 := by omega
  have hlt := Int.emod_lt_of_pos a h0
  clear r0 r1
  (refine acalls_of_hwp Try.func15 rfl rfl ?_; simp only [Try.ntmps15, List.length_cons, List.length_nil, Nat.reduceAdd, Nat.reduceSub, List.replicate_succ, List.replicate_zero, List.cons_append, List.nil_append])
  repeat' first | (with_reducible refine semK_build ?_) | (with_reducible refine semK_make ?_) | (with_reducible refine semK_slice ?_) | (with_reducible refine semK_makeFunc ?_) | (with_reducible refine roundsK_step ?_) | (with_reducible refine guardK_dec (fun h_ => ?_) (fun h_ => ?_)) | (with_reducible refine condK_dec (fun h_ => ?_) (fun h_ => ?_)) | (with_reducible refine And.intro ?_ ?_; (first | assumption | omega)) | (with_reducible refine gateDraw ?_; with_reducible refine hwp_draw _ mixed (by decide +kernel) (Lies.refl _) ?_) | (with_reducible refine And.intro (Lies.refl _) ?_) | (with_reducible refine gateLies ?_; with_reducible refine liesK_intro (by (repeat' first | (with_reducible exact Lies.refl _) | (with_reducible refine Lies.both ?_) | (with_reducible refine Lies.upd ?_ ?_) | (with_reducible assumption) | (with_reducible refine (PH.upd_ne _ _ ?_).trans ?_) | solve_by_elim (maxDepth := 4)); done) ?_)  | (with_reducible refine newK_up12 fun p_ ha_ hb_ ha_ hb_ ha_ hb_ ha_ hb_ ha_ hb_ ha_ hb_ ha_ hb_ ha_ hb_ ha_ hb_ ha_ hb_ ha_ hb_ ha_ hb_ hp_ => ?_) | (with_reducible refine newK_up11 fun p_ ha_ hb_ ha_ hb_ ha_ hb_ ha_ hb_ ha_ hb_ ha_ hb_ ha_ hb_ ha_ hb_ ha_ hb_ ha_ hb_ ha_ hb_ hp_ => ?_) | (with_reducible refine newK_up10 fun p_ ha_ hb_ ha_ hb_ ha_ hb_ ha_ hb_ ha_ hb_ ha_ hb_ ha_ hb_ ha_ hb_ ha_ hb_ ha_ hb_ hp_ => ?_) | (with_reducible refine newK_up9 fun p_ ha_ hb_ ha_ hb_ ha_ hb_ ha_ hb_ ha_ hb_ ha_ hb_ ha_ hb_ ha_ hb_ ha_ hb_ hp_ => ?_) | (with_reducible refine newK_up8 fun p_ ha_ hb_ ha_ hb_ ha_ hb_ ha_ hb_ ha_ hb_ ha_ hb_ ha_ hb_ ha_ hb_ hp_ => ?_) | (with_reducible refine newK_up7 fun p_ ha_ hb_ ha_ hb_ ha_ hb_ ha_ hb_ ha_ hb_ ha_ hb_ ha_ hb_ hp_ => ?_) | (with_reducible refine newK_up6 fun p_ ha_ hb_ ha_ hb_ ha_ hb_ ha_ hb_ ha_ hb_ ha_ hb_ hp_ => ?_) | (with_reducible refine newK_up5 fun p_ ha_ hb_ ha_ hb_ ha_ hb_ ha_ hb_ ha_ hb_ hp_ => ?_) | (with_reducible refine newK_up4 fun p_ ha_ hb_ ha_ hb_ ha_ hb_ ha_ hb_ hp_ => ?_) | (with_reducible refine newK_up3 fun p_ ha_ hb_ ha_ hb_ ha_ hb_ hp_ => ?_) | (with_reducible refine newK_up2 fun p_ ha_ hb_ ha_ hb_ hp_ => ?_) | (with_reducible refine newK_up1 fun p_ ha_ hb_ hp_ => ?_) | (with_reducible refine newK_intro fun p_ hp_ => ?_) | (simp only [hwp_skip, hwp_exit, hwp_ret, hwp_seq, hwp_cond, hwp_block, hwp_region, hwp_loop, hlawp_nil, hlawp_cons, hlawp_guard, runOp_def, skipOp_def, fthen_normal, fthen_ret, fthen_exit, fthen_part, fblock_other, fblock_part, fblock_normal, fblock_ret, fblock_same, put_some, put_none, ev_tmp, ev_const, ev_func, cont_val, cont_need, cont_ov, cont_mem, cont_new, cont_call, cont_eqs, aft_def, stepV, intV, binV, unV, pickV, callV, sliceV, implies_true, true_implies, false_implies, builtinV, fieldAddrV, fieldV, indexAddrV, convertV, allocV, extractV, loadV, storeV_def, storeC_lit, guardK_tt, guardK_tf, guardK_ft, guardK_ff, condK_t, condK_f, gval_def, List.set_cons_zero, List.set_cons_succ, List.getD_cons_zero, List.getD_cons_succ, List.getElem?_toArray, List.getElem?_cons_zero, List.getElem?_cons_succ, Option.bind_some, true_and, List.map_cons, List.map_nil, List.map_toArray, decide_true, decide_false, Bool.not_true, Bool.not_false, not_dec, Classical.not_not, if_true, if_false, Bool.false_eq_true, and_self, and_true, List.append_toArray, List.nil_append, List.append_nil, List.cons_append, Option.map_some, not_true, not_false_iff, Addr.add_lit, Nat.zero_add, Nat.add_zero, dl_nil, dl_cons, dl_guard, runD_def, newOp, newR, readB, readK_val, readK_need, readK_ov, effK_def, cellsAt_lit, cell_lit, owned_lit, cont_semv, cont_semu, PH.upd_same, cells_agg, cells_int, cells_bool, cells_string, cells_pointer, cells_slice, cells_map, cells_func, cells_nilFunc, List.size_toArray, List.length_cons, List.length_nil, Nat.reduceAdd, Nat.reduceLeDiff, Nat.reduceMul, Option.isSome_some, Option.isSome_none, spl, List.setIfInBounds_toArray, List.extract_toArray, List.extract_eq_take_drop, List.drop_zero, List.drop_succ_cons, List.take_succ_cons, List.take_zero, Nat.sub_zero, Nat.reduceSub, beq_self_eq_true, Bool.true_and, Bool.false_and, Bool.and_false, Bool.true_or, Bool.false_or, Bool.or_true, Bool.or_false, Bool.not_not, dec_and, dec_or, Option.getD_some, Nat.mul_one, BuildV, bcat_nil, bcat_cons, MakeV, zrow_int, zrow_bool, zrow_slice, SliceV, boundV_none, boundV_some, slAt_zero, slK_def, Int.toNat_zero, Int.reduceToNat, Int.reduceLT, Int.reduceLE, Int.reduceEq, Int.reduceAdd, Int.reduceSub, Int.reduceMul, Int.reduceNeg, i64_lit, Nat.reduceLT, Nat.reduceLeDiff, Int.cast_ofNat_Int, false_and, and_false, false_or, or_false, true_or, or_true, not_true_eq_false, not_false_eq_true, eq_self, dec_beq, Bool.true_beq, beq_t, Bool.false_beq, beq_f, iff_self, Array.all_toList, List.all_toArray, List.all_cons, List.all_nil, Value.oneCell, Bool.and_self, Bool.and_true, PH.upd_upd, PH.upd_ne, PH.upd_swap, PH.upd_swap2, PH.upd_swap3, PH.upd_swap4, PH.upd_swap5, PH.upd_swap6, guardK_n, match_undef, fillL_nil, fillL_cons, fillK_some, buildS_def, ne_eq, Nat.reduceEqDiff, List.getElem_cons_zero, List.getElem_cons_succ, List.getElem_toArray, *]) | (with_reducible refine guardK_nbool (fun h_ => ?_) (fun h_ => ?_)) | (with_reducible refine guardK_bool (fun h_ => ?_) (fun h_ => ?_)) | (with_reducible refine condK_nbool (fun h_ => ?_) (fun h_ => ?_)) | (with_reducible refine condK_abool (fun h_ => ?_) (fun h_ => ?_))
  · refine gret1 rfl ⟨?_, rfl⟩
    show Value.int _ _ = _
    congr 1
    generalize Int.tmod a b = t at *
    rcases e with ⟨e1, e2⟩ | ⟨e1, e2, e3⟩
    · omega
    · rw [e2]; exact i64_id (by omega) (by omega)
  · refine gret1 rfl ⟨?_, rfl⟩
    show Value.int _ _ = _
    congr 1
    generalize Int.tmod a b = t at *
    omega
end Go.Proofs.Ytfmfkablbaoofaa.Ae
