/- The statement AddrWrong's call: whatever numbers it is given, it returns true. -/
import Derived.Test.YtnacpcbaiaakhaaCs
set_option linter.unusedVariables false
set_option linter.unusedSimpArgs false
namespace Go.Proofs.Ytnacpcbaiaakhaa.Ae
open Go Go.Proofs.Ytnacpcbaiaakhaa.Bits
set_option maxHeartbeats 8000000 in
set_option maxRecDepth 10000 in
theorem AddrWrong_walk (which n size : Int) (_ : (Lit.int .i64 which).wf = true) (_ : (Lit.int .i64 n).wf = true) (_ : (Lit.int .i64 size).wf = true) (st : PH) : ACalls Try.prog 10 [.int .i64 which, .int .i64 n, .int .i64 size].toArray st fun r s => r = .bool true := by
  have n0 := Int.emod_nonneg n (show (1000 : Int) ≠ 0 by omega)
  have n1 := Int.emod_lt_of_pos n (show (0 : Int) < 1000 by omega)
  have z0 := Int.emod_nonneg size (show (9 : Int) ≠ 0 by omega)
  have z1 := Int.emod_lt_of_pos size (show (0 : Int) < 9 by omega)
  have w0 := Int.emod_nonneg which (show (6 : Int) ≠ 0 by omega)
  have w1 := Int.emod_lt_of_pos which (show (0 : Int) < 6 by omega)
  generalize hw : which % 6 = w at *
  generalize hz : size % 9 = z at *
  generalize hn : n % 1000 = m at *
  have q1 : (1 : Int) ≤ 2 ^ z.toNat := by have := pow_pos' z.toNat; omega
  have q2 : (1 : Int) ≤ 2 ^ (z + 4).toNat := by have := pow_pos' (z + 4).toNat; omega
  have c1 : capOK 2 1 z 0 0 = true := by
    rw [capOK_iff]
    generalize (2 : Int) ^ z.toNat = q at *
    omega
  have Y : StepOK 2 1 z 0 0 0 (z + 4) := ⟨rfl, c1, by omega, by omega, by rw [Int.zero_ediv]⟩
  have sy := fun st => step_yes 2 1 z 0 0 0 (z + 4) Y st
  unfold capV stepYes at sy
  rw [show z + 4 - z - 4 = 0 by omega, show ((0 : Int) / 2 ^ (0 : Int).toNat) % 16 = 0 by decide] at sy
  have E1 : Go.RowKit.Hid (IntKind.i64.wrap (z + 4) = z + 4) := hid (i64_id (by omega) (by omega))
  have E2 : Go.RowKit.Hid (IntKind.u64.wrap (z + 4) = z + 4) := hid (u64_wrap (by omega) (by omega))
  have E3 : Go.RowKit.Hid (IntKind.i64.wrap (1 * 2 ^ min (z + 4).toNat IntKind.i64.bits) = 2 ^ (z + 4).toNat) := by
    have := shl64_1 (y := z + 4) (by omega) (by omega)
    unfold shl at this
    exact hid this
  have E4 : Go.RowKit.Hid (IntKind.i64.wrap (-1 - m) = -1 - m) := hid (i64_id (by omega) (by omega))
  have E5 : Go.RowKit.Hid (IntKind.i64.wrap (25 + m) = 25 + m) := hid (i64_id (by omega) (by omega))
  have r0 := Int.emod_nonneg m (show z + 4 ≠ 0 by omega)
  have r1 := Int.emod_lt_of_pos m (show 0 < z + 4 by omega)
  have N0 : ¬ StepOK 2 1 z 0 0 0 (m % (z + 4)) := fun h => by have := h.2.2.2.1; omega
  have N1 : ¬ StepOK 3 1 0 0 0 0 (z + 4) := fun h => by have := h.1; omega
  have N2 : ¬ StepOK 2 0 z 0 0 0 (z + 4) := fun h => by have := (capOK_iff.1 h.2.1).1; omega
  have N3 : ¬ StepOK 2 1 z 0 0 (2 ^ (z + 4).toNat) (z + 4) := fun h => by have := h.2.2.1.2.2.2; omega
  have N4 : ¬ StepOK 2 1 z 0 0 (-1 - m) (z + 4) := fun h => by have := h.2.2.1.2.2.1; omega
  have N5 : ¬ StepOK 2 1 z 0 0 0 (25 + m) := fun h => by have := h.2.2.1.2.1; omega
  have s0 := fun st => step_no _ _ _ _ _ _ _ N0 st
  have s1 := fun st => step_no _ _ _ _ _ _ _ N1 st
  have s2 := fun st => step_no _ _ _ _ _ _ _ N2 st
  have s3 := fun st => step_no _ _ _ _ _ _ _ N3 st
  have s4 := fun st => step_no _ _ _ _ _ _ _ N4 st
  have s5 := fun st => step_no _ _ _ _ _ _ _ N5 st
  unfold capV stepNo at s0 s1 s2 s3 s4 s5
  clear N0 N1 N2 N3 N4 N5 Y c1 r0 r1
  generalize hP : (2 : Int) ^ (z + 4).toNat = P at *
  rcases (show w = 0 ∨ w = 1 ∨ w = 2 ∨ w = 3 ∨ w = 4 ∨ w = 5 by omega) with h | h | h | h | h | h <;> subst h
  all_goals (refine acalls_of_hwp Try.func10 rfl rfl ?_; simp only [Try.ntmps10, List.length_cons, List.length_nil, Nat.reduceAdd, Nat.reduceSub, List.replicate_succ, List.replicate_zero, List.cons_append, List.nil_append])
  all_goals repeat' first | (with_reducible refine gateCall (f := 29) ?_; first | (with_reducible refine Ret.next (first4_ret _) real29 ?_)) | (with_reducible refine gateCall (f := 19) ?_; first | (with_reducible refine Ret.next (number_ret _ _ (by omega) (by omega) _) real19 ?_)) | (with_reducible refine gateCall (f := 32) ?_; first | (with_reducible refine Ret.next (sy _) real32 ?_) | (with_reducible refine Ret.next (s0 _) real32 ?_) | (with_reducible refine Ret.next (s1 _) real32 ?_) | (with_reducible refine Ret.next (s2 _) real32 ?_) | (with_reducible refine Ret.next (s3 _) real32 ?_) | (with_reducible refine Ret.next (s4 _) real32 ?_) | (with_reducible refine Ret.next (s5 _) real32 ?_)) | (with_reducible refine semK_build ?_) | (with_reducible refine semK_make ?_) | (with_reducible refine semK_slice ?_) | (with_reducible refine semK_makeFunc ?_) | (with_reducible refine roundsK_step ?_) | (with_reducible refine guardK_dec (fun h_ => ?_) (fun h_ => ?_)) | (with_reducible refine condK_dec (fun h_ => ?_) (fun h_ => ?_)) | (with_reducible refine And.intro ?_ ?_; (first | assumption | omega)) | (with_reducible refine gateDraw ?_; with_reducible refine hwp_draw _ mixed (by decide +kernel) (Lies.refl _) ?_) | (with_reducible refine And.intro (Lies.refl _) ?_) | (with_reducible refine gateLies ?_; with_reducible refine liesK_intro (by (repeat' first | (with_reducible exact Lies.refl _) | (with_reducible refine Lies.both ?_) | (with_reducible refine Lies.upd ?_ ?_) | (with_reducible assumption) | (with_reducible refine (PH.upd_ne _ _ ?_).trans ?_) | solve_by_elim); done) ?_)  | (with_reducible refine newK_up6 fun p_ ha_ hb_ ha_ hb_ ha_ hb_ ha_ hb_ ha_ hb_ ha_ hb_ hp_ => ?_) | (with_reducible refine newK_up5 fun p_ ha_ hb_ ha_ hb_ ha_ hb_ ha_ hb_ ha_ hb_ hp_ => ?_) | (with_reducible refine newK_up4 fun p_ ha_ hb_ ha_ hb_ ha_ hb_ ha_ hb_ hp_ => ?_) | (with_reducible refine newK_up3 fun p_ ha_ hb_ ha_ hb_ ha_ hb_ hp_ => ?_) | (with_reducible refine newK_up2 fun p_ ha_ hb_ ha_ hb_ hp_ => ?_) | (with_reducible refine newK_up1 fun p_ ha_ hb_ hp_ => ?_) | (with_reducible refine newK_intro fun p_ hp_ => ?_) | (simp only [hwp_skip, hwp_exit, hwp_ret, hwp_seq, hwp_cond, hwp_block, hwp_region, hwp_loop, hlawp_nil, hlawp_cons, hlawp_guard, runOp_def, skipOp_def, fthen_normal, fthen_ret, fthen_exit, fthen_part, fblock_part, fblock_normal, fblock_ret, fblock_same, put_some, put_none, ev_tmp, ev_const, ev_func, cont_val, cont_need, cont_ov, cont_mem, cont_new, cont_call, cont_eqs, aft_def, stepV, intV, binV, unV, pickV, callV, builtinV, fieldAddrV, fieldV, indexAddrV, convertV, allocV, extractV, loadV, storeV_def, storeC_lit, guardK_tt, guardK_tf, guardK_ft, guardK_ff, condK_t, condK_f, gval_def, List.set_cons_zero, List.set_cons_succ, List.getD_cons_zero, List.getD_cons_succ, List.getElem?_toArray, List.getElem?_cons_zero, List.getElem?_cons_succ, Option.bind_some, true_and, List.map_cons, List.map_nil, List.map_toArray, decide_true, decide_false, Bool.not_true, Bool.not_false, not_dec, Classical.not_not, if_true, if_false, Bool.false_eq_true, and_self, and_true, List.append_toArray, List.nil_append, List.append_nil, List.cons_append, Option.map_some, not_true, not_false_iff, Addr.add_lit, Nat.zero_add, Nat.add_zero, dl_nil, dl_cons, dl_guard, runD_def, readB, readK_val, readK_need, readK_ov, effK_def, cellsAt_lit, cell_lit, owned_lit, cont_semv, cont_semu, PH.upd_same, cells_agg, cells_int, cells_bool, cells_string, cells_pointer, cells_slice, cells_map, cells_func, cells_nilFunc, List.size_toArray, List.length_cons, List.length_nil, Nat.reduceAdd, Nat.reduceLeDiff, Nat.reduceMul, Option.isSome_some, Option.isSome_none, spl, List.setIfInBounds_toArray, List.extract_toArray, List.extract_eq_take_drop, List.drop_zero, List.drop_succ_cons, List.take_succ_cons, List.take_zero, Nat.sub_zero, Nat.reduceSub, Bool.true_and, Bool.false_and, Bool.and_false, Bool.true_or, Bool.false_or, Bool.or_true, Bool.or_false, Bool.not_not, dec_and, dec_or, Option.getD_some, Nat.mul_one, BuildV, bcat_nil, bcat_cons, MakeV, zrow_int, zrow_bool, zrow_slice, SliceV, boundV_none, boundV_some, slAt_zero, slK_def, Int.toNat_zero, Int.reduceToNat, Int.reduceLT, Int.reduceLE, Int.reduceEq, Int.reduceAdd, Int.reduceSub, Int.reduceMul, Int.reduceNeg, i64_lit, Nat.reduceLT, Nat.reduceLeDiff, Int.cast_ofNat_Int, false_and, and_false, false_or, or_false, true_or, or_true, not_true_eq_false, not_false_eq_true, eq_self, dec_beq, Bool.true_beq, beq_t, Bool.false_beq, beq_f, iff_self, Array.all_toList, List.all_toArray, List.all_cons, List.all_nil, Value.oneCell, Bool.and_self, Bool.and_true, PH.upd_upd, PH.upd_ne, PH.upd_swap, guardK_n, match_undef, fillL_nil, fillL_cons, fillK_some, buildS_def, ne_eq, Nat.reduceEqDiff, List.getElem_cons_zero, List.getElem_cons_succ, List.getElem_toArray, tok54, tsz54, tz54, tagg54, tok3, tsz3, tf54_0, tagg3, tf54_2, tf54_1, tp54, tu3, ti46, E1.out, E2.out, E3.out, E4.out, E5.out, *]) | (with_reducible refine guardK_nbool (fun h_ => ?_) (fun h_ => ?_)) | (with_reducible refine guardK_bool (fun h_ => ?_) (fun h_ => ?_)) | (with_reducible refine condK_nbool (fun h_ => ?_) (fun h_ => ?_)) | (with_reducible refine condK_abool (fun h_ => ?_) (fun h_ => ?_))
  all_goals first | (refine gret1 rfl ?_; rfl) | (exfalso; omega)
end Go.Proofs.Ytnacpcbaiaakhaa.Ae
