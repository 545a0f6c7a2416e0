/- What the program's words (mask, Field, Set, Signed, Dist) and the statements' Number return; for all numbers that the lemmas name. -/
import Derived.Test.YtnacpcbaiaakhaaTy
import Derived.Test.YtnacpcbaiaakhaaAj
import Derived.Test.YtnacpcbaiaakhaaBits
set_option linter.unusedVariables false
set_option linter.unusedSimpArgs false
namespace Go.Proofs.Ytnacpcbaiaakhaa.Ae
open Go Go.Proofs.Ytnacpcbaiaakhaa.Bits
theorem mask_ret (a m : Int) (st : PH) : Ret Try.prog 49 [.int .i64 a, .int .i64 m] st (.int .u32 ((2 ^ maskC a m - 1 : Nat) : Int)) := by
  refine acalls_of_hwp Try.func49 rfl rfl ?_
  simp only [Try.ntmps49, List.length_cons, List.length_nil, Nat.reduceAdd, Nat.reduceSub, List.replicate_succ, List.replicate_zero, List.cons_append, List.nil_append]
  repeat' first | (with_reducible refine guardK_dec (fun h_ => ?_) (fun h_ => ?_)) | (with_reducible refine condK_dec (fun h_ => ?_) (fun h_ => ?_)) | (with_reducible refine And.intro ?_ ?_; (first | assumption | omega)) | (with_reducible refine hwp_draw _ mixed (by decide +kernel) (Lies.refl _) ?_) | (simp only [hwp_skip, hwp_exit, hwp_ret, hwp_seq, hwp_cond, hwp_block, hwp_region, hwp_loop, hlawp_nil, hlawp_cons, hlawp_guard, runOp_def, skipOp_def, fthen_normal, fthen_ret, fthen_exit, fthen_part, fblock_part, fblock_normal, fblock_ret, fblock_same, put_some, put_none, ev_tmp, ev_const, ev_func, cont_val, cont_need, cont_ov, cont_mem, cont_new, cont_call, cont_eqs, aft_def, stepV, intV, binV, unV, pickV, callV, builtinV, fieldAddrV, fieldV, indexAddrV, convertV, allocV, extractV, loadV, storeV, guardK_tt, guardK_tf, guardK_ft, guardK_ff, condK_t, condK_f, gval_def, List.set_cons_zero, List.set_cons_succ, List.getD_cons_zero, List.getD_cons_succ, List.getElem?_toArray, List.getElem?_cons_zero, List.getElem?_cons_succ, Option.bind_some, true_and, List.map_cons, List.map_nil, List.map_toArray, decide_true, decide_false, Bool.not_true, Bool.not_false, not_dec, Classical.not_not, if_true, if_false, Bool.false_eq_true, and_self, and_true, List.append_toArray, List.nil_append, List.append_nil, List.cons_append, Option.map_some, not_true, not_false_iff, Addr.add_lit, Nat.zero_add, Nat.add_zero, dl_nil, dl_cons, dl_guard, runD_def, readB, readK_val, readK_need, readK_ov, effK_def, PH.cellsAt, PH.cell?, PH.owned, PH.upd_same, Value.cells, List.size_toArray, List.length_cons, List.length_nil, Nat.reduceAdd, Nat.reduceLeDiff, Nat.reduceMul, Option.isSome_some, Option.isSome_none, spl, List.setIfInBounds_toArray, List.extract_toArray, Array.all_toList, List.all_toArray, List.all_cons, List.all_nil, Value.oneCell, Bool.and_self, Bool.and_true, PH.upd_upd, ne_eq, Nat.reduceEqDiff, List.getElem_cons_zero, List.getElem_cons_succ, List.getElem_toArray, *])
  · refine gret1 rfl ⟨?_, rfl⟩
    have e : maskC a m = 0 := by unfold maskC; rw [if_neg (by omega)]
    rw [e]; rfl
  · refine gret1 rfl ⟨?_, rfl⟩
    have e : maskC a m = 0 := by unfold maskC; rw [if_neg (by omega)]
    rw [e]; rfl
  · refine gret1 rfl ⟨?_, rfl⟩
    have e : maskC a m = 0 := by unfold maskC; rw [if_neg (by omega)]
    rw [e]; rfl
  · have e0 : IntKind.i64.wrap (32 - a) = 32 - a := i64_id (by omega) (by omega)
    rw [e0]
    refine ⟨by split <;> omega, gret1 rfl ⟨?_, rfl⟩⟩
    have h4 := mask_val a m (if 32 - a < m then 32 - a else m) (by unfold maskC; rw [if_pos (And.intro (by omega) (And.intro (by omega) (by omega)))]; split <;> omega)
    exact congrArg (Value.int .u32) h4
theorem number_ret (a b : Int) (h0 : 0 < b) (h1 : b ≤ 4611686018427387904) (st : PH) : Ret Try.prog 19 [.int .i64 a, .int .i64 b] st (.int .i64 (a % b)) := by
  have r0 := Int.emod_nonneg (-a) (show b ≠ 0 by omega)
  have r1 := Int.emod_lt_of_pos (-a) h0
  have e : Int.tmod a b = a % b ∧ 0 ≤ a % b ∨ Int.tmod a b < 0 ∧ Int.tmod a b + b = a % b ∧ -b < Int.tmod a b := by
    rcases Int.le_total 0 a with ha | ha
    · exact .inl ⟨Int.tmod_eq_emod_of_nonneg ha, Int.emod_nonneg a (by omega)⟩
    · have e : Int.tmod a b = -((-a) % b) := by rw [← Int.tmod_eq_emod_of_nonneg (show 0 ≤ -a by omega), Int.neg_tmod, Int.neg_neg]
      have hd := Int.mul_ediv_add_emod (-a) b
      generalize hq : (-a) / b = q at hd
      generalize hr : (-a) % b = r at *
      by_cases hz : r = 0
      · have h2 : a = b * (-q) := by rw [Int.mul_neg]; omega
        have h3 : a % b = 0 := by rw [h2, Int.mul_emod_right]
        exact .inl ⟨by rw [e, h3, hz]; rfl, by rw [h3]; omega⟩
      · have h2 : a = (b - r) + b * (-q - 1) := by rw [Int.mul_sub, Int.mul_neg]; omega
        have h3 : a % b = b - r := by rw [h2, Int.add_mul_emod_self_left, Int.emod_eq_of_lt (by omega) (by omega)]
        exact .inr ⟨by omega, by omega, by omega⟩
  have hb : ¬ b = 0 := by omega
  have hlt := Int.emod_lt_of_pos a h0
  clear r0 r1
  refine acalls_of_hwp Try.func19 rfl rfl ?_
  simp only [Try.ntmps19, List.length_cons, List.length_nil, Nat.reduceAdd, Nat.reduceSub, List.replicate_succ, List.replicate_zero, List.cons_append, List.nil_append]
  repeat' first | (with_reducible refine guardK_dec (fun h_ => ?_) (fun h_ => ?_)) | (with_reducible refine condK_dec (fun h_ => ?_) (fun h_ => ?_)) | (with_reducible refine And.intro ?_ ?_; (first | assumption | omega)) | (with_reducible refine hwp_draw _ mixed (by decide +kernel) (Lies.refl _) ?_) | (simp only [hwp_skip, hwp_exit, hwp_ret, hwp_seq, hwp_cond, hwp_block, hwp_region, hwp_loop, hlawp_nil, hlawp_cons, hlawp_guard, runOp_def, skipOp_def, fthen_normal, fthen_ret, fthen_exit, fthen_part, fblock_part, fblock_normal, fblock_ret, fblock_same, put_some, put_none, ev_tmp, ev_const, ev_func, cont_val, cont_need, cont_ov, cont_mem, cont_new, cont_call, cont_eqs, aft_def, stepV, intV, binV, unV, pickV, callV, builtinV, fieldAddrV, fieldV, indexAddrV, convertV, allocV, extractV, loadV, storeV, guardK_tt, guardK_tf, guardK_ft, guardK_ff, condK_t, condK_f, gval_def, List.set_cons_zero, List.set_cons_succ, List.getD_cons_zero, List.getD_cons_succ, List.getElem?_toArray, List.getElem?_cons_zero, List.getElem?_cons_succ, Option.bind_some, true_and, List.map_cons, List.map_nil, List.map_toArray, decide_true, decide_false, Bool.not_true, Bool.not_false, not_dec, Classical.not_not, if_true, if_false, Bool.false_eq_true, and_self, and_true, List.append_toArray, List.nil_append, List.append_nil, List.cons_append, Option.map_some, not_true, not_false_iff, Addr.add_lit, Nat.zero_add, Nat.add_zero, dl_nil, dl_cons, dl_guard, runD_def, readB, readK_val, readK_need, readK_ov, effK_def, PH.cellsAt, PH.cell?, PH.owned, PH.upd_same, Value.cells, List.size_toArray, List.length_cons, List.length_nil, Nat.reduceAdd, Nat.reduceLeDiff, Nat.reduceMul, Option.isSome_some, Option.isSome_none, spl, List.setIfInBounds_toArray, List.extract_toArray, Array.all_toList, List.all_toArray, List.all_cons, List.all_nil, Value.oneCell, Bool.and_self, Bool.and_true, PH.upd_upd, ne_eq, Nat.reduceEqDiff, List.getElem_cons_zero, List.getElem_cons_succ, List.getElem_toArray, *])
  · refine gret1 rfl ⟨?_, rfl⟩
    show Value.int _ _ = _
    congr 1
    generalize Int.tmod a b = t at *
    rcases e with ⟨e1, e2⟩ | ⟨e1, e2, e3⟩
    · omega
    · rw [e2]; exact i64_id (by omega) (by omega)
  · refine gret1 rfl ⟨?_, rfl⟩
    show Value.int _ _ = _
    congr 1
    generalize Int.tmod a b = t at *
    omega
theorem field_ret (n : Nat) (a m : Int) (hn : n < 2 ^ 32) (st : PH) : Ret Try.prog 28 [.int .u32 n, .int .i64 a, .int .i64 m] st (.int .u32 ((fieldN n a.toNat (maskC a m) : Nat) : Int)) := by
  refine acalls_of_hwp Try.func28 rfl rfl ?_
  simp only [Try.ntmps28, List.length_cons, List.length_nil, Nat.reduceAdd, Nat.reduceSub, List.replicate_succ, List.replicate_zero, List.cons_append, List.nil_append]
  simp only [hwp_skip, hwp_exit, hwp_ret, hwp_seq, hwp_cond, hwp_block, hwp_region, hwp_loop, hlawp_nil, hlawp_cons, hlawp_guard, runOp_def, skipOp_def, fthen_normal, fthen_ret, fthen_exit, fthen_part, fblock_part, fblock_normal, fblock_ret, fblock_same, put_some, put_none, ev_tmp, ev_const, ev_func, cont_val, cont_need, cont_ov, cont_mem, cont_new, cont_call, cont_eqs, aft_def, stepV, intV, binV, unV, pickV, callV, builtinV, fieldAddrV, fieldV, indexAddrV, convertV, allocV, extractV, loadV, storeV, guardK_tt, guardK_tf, guardK_ft, guardK_ff, condK_t, condK_f, gval_def, List.set_cons_zero, List.set_cons_succ, List.getD_cons_zero, List.getD_cons_succ, List.getElem?_toArray, List.getElem?_cons_zero, List.getElem?_cons_succ, Option.bind_some, true_and, List.map_cons, List.map_nil, List.map_toArray, decide_true, decide_false, Bool.not_true, Bool.not_false, not_dec, Classical.not_not, if_true, if_false, Bool.false_eq_true, and_self, and_true, List.append_toArray, List.nil_append, List.append_nil, List.cons_append, Option.map_some, not_true, not_false_iff, Addr.add_lit, Nat.zero_add, Nat.add_zero, dl_nil, dl_cons, dl_guard, runD_def, readB, readK_val, readK_need, readK_ov, effK_def, PH.cellsAt, PH.cell?, PH.owned, PH.upd_same, Value.cells, List.size_toArray, List.length_cons, List.length_nil, Nat.reduceAdd, Nat.reduceLeDiff, Nat.reduceMul, Option.isSome_some, Option.isSome_none, spl, List.setIfInBounds_toArray, List.extract_toArray, Array.all_toList, List.all_toArray, List.all_cons, List.all_nil, Value.oneCell, Bool.and_self, Bool.and_true, PH.upd_upd, ne_eq, Nat.reduceEqDiff, List.getElem_cons_zero, List.getElem_cons_succ, List.getElem_toArray]
  refine (mask_ret a m st).next real49 ?_
  have h3 : 2 ^ maskC a m ≤ 2 ^ 32 := Nat.pow_le_pow_right (by decide) (maskC_32 a m)
  have h4 := Nat.two_pow_pos (maskC a m)
  by_cases hc : maskC a m = 0
  · have e0 : ((2 ^ maskC a m - 1 : Nat) : Int) = 0 := by rw [hc]; rfl
    rw [e0, hc, fieldN_0]
    repeat' first | (with_reducible refine guardK_dec (fun h_ => ?_) (fun h_ => ?_)) | (with_reducible refine condK_dec (fun h_ => ?_) (fun h_ => ?_)) | (with_reducible refine And.intro ?_ ?_; (first | assumption | omega)) | (with_reducible refine hwp_draw _ mixed (by decide +kernel) (Lies.refl _) ?_) | (simp only [hwp_skip, hwp_exit, hwp_ret, hwp_seq, hwp_cond, hwp_block, hwp_region, hwp_loop, hlawp_nil, hlawp_cons, hlawp_guard, runOp_def, skipOp_def, fthen_normal, fthen_ret, fthen_exit, fthen_part, fblock_part, fblock_normal, fblock_ret, fblock_same, put_some, put_none, ev_tmp, ev_const, ev_func, cont_val, cont_need, cont_ov, cont_mem, cont_new, cont_call, cont_eqs, aft_def, stepV, intV, binV, unV, pickV, callV, builtinV, fieldAddrV, fieldV, indexAddrV, convertV, allocV, extractV, loadV, storeV, guardK_tt, guardK_tf, guardK_ft, guardK_ff, condK_t, condK_f, gval_def, List.set_cons_zero, List.set_cons_succ, List.getD_cons_zero, List.getD_cons_succ, List.getElem?_toArray, List.getElem?_cons_zero, List.getElem?_cons_succ, Option.bind_some, true_and, List.map_cons, List.map_nil, List.map_toArray, decide_true, decide_false, Bool.not_true, Bool.not_false, not_dec, Classical.not_not, if_true, if_false, Bool.false_eq_true, and_self, and_true, List.append_toArray, List.nil_append, List.append_nil, List.cons_append, Option.map_some, not_true, not_false_iff, Addr.add_lit, Nat.zero_add, Nat.add_zero, dl_nil, dl_cons, dl_guard, runD_def, readB, readK_val, readK_need, readK_ov, effK_def, PH.cellsAt, PH.cell?, PH.owned, PH.upd_same, Value.cells, List.size_toArray, List.length_cons, List.length_nil, Nat.reduceAdd, Nat.reduceLeDiff, Nat.reduceMul, Option.isSome_some, Option.isSome_none, spl, List.setIfInBounds_toArray, List.extract_toArray, Array.all_toList, List.all_toArray, List.all_cons, List.all_nil, Value.oneCell, Bool.and_self, Bool.and_true, PH.upd_upd, ne_eq, Nat.reduceEqDiff, List.getElem_cons_zero, List.getElem_cons_succ, List.getElem_toArray, *])
    refine gret1 rfl ⟨rfl, rfl⟩
  · have h : 0 ≤ a ∧ a < 32 := by unfold maskC at hc; split at hc <;> omega
    have h2 : 2 ≤ 2 ^ maskC a m := Nat.le_trans (by decide : 2 ≤ 2 ^ 1) (Nat.pow_le_pow_right (by decide) (by omega))
    have e0 : ¬ ((2 ^ maskC a m - 1 : Nat) : Int) = 0 := by omega
    have e1 : Go.bits .and .u32 (shr .u32 n a) ((2 ^ maskC a m - 1 : Nat) : Int) = ((fieldN n a.toNat (maskC a m) : Nat) : Int) := by
      rw [shr32 n a h.2, and32 _ _ (Nat.lt_of_le_of_lt (Nat.shiftRight_le n _) hn) (by omega), Nat.and_two_pow_sub_one_eq_mod]; rfl
    have E1 := Lib.hid e1
    obtain ⟨h0, h1⟩ := h
    clear e1 h2 h3 h4
    repeat' first | (with_reducible refine guardK_dec (fun h_ => ?_) (fun h_ => ?_)) | (with_reducible refine condK_dec (fun h_ => ?_) (fun h_ => ?_)) | (with_reducible refine And.intro ?_ ?_; (first | assumption | omega)) | (with_reducible refine hwp_draw _ mixed (by decide +kernel) (Lies.refl _) ?_) | (simp only [hwp_skip, hwp_exit, hwp_ret, hwp_seq, hwp_cond, hwp_block, hwp_region, hwp_loop, hlawp_nil, hlawp_cons, hlawp_guard, runOp_def, skipOp_def, fthen_normal, fthen_ret, fthen_exit, fthen_part, fblock_part, fblock_normal, fblock_ret, fblock_same, put_some, put_none, ev_tmp, ev_const, ev_func, cont_val, cont_need, cont_ov, cont_mem, cont_new, cont_call, cont_eqs, aft_def, stepV, intV, binV, unV, pickV, callV, builtinV, fieldAddrV, fieldV, indexAddrV, convertV, allocV, extractV, loadV, storeV, guardK_tt, guardK_tf, guardK_ft, guardK_ff, condK_t, condK_f, gval_def, List.set_cons_zero, List.set_cons_succ, List.getD_cons_zero, List.getD_cons_succ, List.getElem?_toArray, List.getElem?_cons_zero, List.getElem?_cons_succ, Option.bind_some, true_and, List.map_cons, List.map_nil, List.map_toArray, decide_true, decide_false, Bool.not_true, Bool.not_false, not_dec, Classical.not_not, if_true, if_false, Bool.false_eq_true, and_self, and_true, List.append_toArray, List.nil_append, List.append_nil, List.cons_append, Option.map_some, not_true, not_false_iff, Addr.add_lit, Nat.zero_add, Nat.add_zero, dl_nil, dl_cons, dl_guard, runD_def, readB, readK_val, readK_need, readK_ov, effK_def, PH.cellsAt, PH.cell?, PH.owned, PH.upd_same, Value.cells, List.size_toArray, List.length_cons, List.length_nil, Nat.reduceAdd, Nat.reduceLeDiff, Nat.reduceMul, Option.isSome_some, Option.isSome_none, spl, List.setIfInBounds_toArray, List.extract_toArray, Array.all_toList, List.all_toArray, List.all_cons, List.all_nil, Value.oneCell, Bool.and_self, Bool.and_true, PH.upd_upd, ne_eq, Nat.reduceEqDiff, List.getElem_cons_zero, List.getElem_cons_succ, List.getElem_toArray, *])
    refine gret1 rfl ⟨?_, rfl⟩
    exact congrArg (Value.int .u32) E1.out
theorem set_ret (n v : Nat) (a m : Int) (hn : n < 2 ^ 32) (hv : v < 2 ^ 32) (st : PH) : Ret Try.prog 27 [.int .u32 n, .int .i64 a, .int .i64 m, .int .u32 v] st (.int .u32 ((setN n a.toNat (maskC a m) v : Nat) : Int)) := by
  refine acalls_of_hwp Try.func27 rfl rfl ?_
  simp only [Try.ntmps27, List.length_cons, List.length_nil, Nat.reduceAdd, Nat.reduceSub, List.replicate_succ, List.replicate_zero, List.cons_append, List.nil_append]
  simp only [hwp_skip, hwp_exit, hwp_ret, hwp_seq, hwp_cond, hwp_block, hwp_region, hwp_loop, hlawp_nil, hlawp_cons, hlawp_guard, runOp_def, skipOp_def, fthen_normal, fthen_ret, fthen_exit, fthen_part, fblock_part, fblock_normal, fblock_ret, fblock_same, put_some, put_none, ev_tmp, ev_const, ev_func, cont_val, cont_need, cont_ov, cont_mem, cont_new, cont_call, cont_eqs, aft_def, stepV, intV, binV, unV, pickV, callV, builtinV, fieldAddrV, fieldV, indexAddrV, convertV, allocV, extractV, loadV, storeV, guardK_tt, guardK_tf, guardK_ft, guardK_ff, condK_t, condK_f, gval_def, List.set_cons_zero, List.set_cons_succ, List.getD_cons_zero, List.getD_cons_succ, List.getElem?_toArray, List.getElem?_cons_zero, List.getElem?_cons_succ, Option.bind_some, true_and, List.map_cons, List.map_nil, List.map_toArray, decide_true, decide_false, Bool.not_true, Bool.not_false, not_dec, Classical.not_not, if_true, if_false, Bool.false_eq_true, and_self, and_true, List.append_toArray, List.nil_append, List.append_nil, List.cons_append, Option.map_some, not_true, not_false_iff, Addr.add_lit, Nat.zero_add, Nat.add_zero, dl_nil, dl_cons, dl_guard, runD_def, readB, readK_val, readK_need, readK_ov, effK_def, PH.cellsAt, PH.cell?, PH.owned, PH.upd_same, Value.cells, List.size_toArray, List.length_cons, List.length_nil, Nat.reduceAdd, Nat.reduceLeDiff, Nat.reduceMul, Option.isSome_some, Option.isSome_none, spl, List.setIfInBounds_toArray, List.extract_toArray, Array.all_toList, List.all_toArray, List.all_cons, List.all_nil, Value.oneCell, Bool.and_self, Bool.and_true, PH.upd_upd, ne_eq, Nat.reduceEqDiff, List.getElem_cons_zero, List.getElem_cons_succ, List.getElem_toArray]
  refine (mask_ret a m st).next real49 ?_
  have h3 : 2 ^ maskC a m ≤ 2 ^ 32 := Nat.pow_le_pow_right (by decide) (maskC_32 a m)
  have h4 := Nat.two_pow_pos (maskC a m)
  by_cases hc : maskC a m = 0
  · have e0 : ((2 ^ maskC a m - 1 : Nat) : Int) = 0 := by rw [hc]; rfl
    have e1 : setN n a.toNat 0 v = n := by
      unfold setN; simp [Nat.mod_one]
      have := Nat.and_two_pow_sub_one_eq_mod n 32
      rw [Nat.mod_eq_of_lt hn] at this
      exact this
    rw [e0, hc, e1]
    repeat' first | (with_reducible refine guardK_dec (fun h_ => ?_) (fun h_ => ?_)) | (with_reducible refine condK_dec (fun h_ => ?_) (fun h_ => ?_)) | (with_reducible refine And.intro ?_ ?_; (first | assumption | omega)) | (with_reducible refine hwp_draw _ mixed (by decide +kernel) (Lies.refl _) ?_) | (simp only [hwp_skip, hwp_exit, hwp_ret, hwp_seq, hwp_cond, hwp_block, hwp_region, hwp_loop, hlawp_nil, hlawp_cons, hlawp_guard, runOp_def, skipOp_def, fthen_normal, fthen_ret, fthen_exit, fthen_part, fblock_part, fblock_normal, fblock_ret, fblock_same, put_some, put_none, ev_tmp, ev_const, ev_func, cont_val, cont_need, cont_ov, cont_mem, cont_new, cont_call, cont_eqs, aft_def, stepV, intV, binV, unV, pickV, callV, builtinV, fieldAddrV, fieldV, indexAddrV, convertV, allocV, extractV, loadV, storeV, guardK_tt, guardK_tf, guardK_ft, guardK_ff, condK_t, condK_f, gval_def, List.set_cons_zero, List.set_cons_succ, List.getD_cons_zero, List.getD_cons_succ, List.getElem?_toArray, List.getElem?_cons_zero, List.getElem?_cons_succ, Option.bind_some, true_and, List.map_cons, List.map_nil, List.map_toArray, decide_true, decide_false, Bool.not_true, Bool.not_false, not_dec, Classical.not_not, if_true, if_false, Bool.false_eq_true, and_self, and_true, List.append_toArray, List.nil_append, List.append_nil, List.cons_append, Option.map_some, not_true, not_false_iff, Addr.add_lit, Nat.zero_add, Nat.add_zero, dl_nil, dl_cons, dl_guard, runD_def, readB, readK_val, readK_need, readK_ov, effK_def, PH.cellsAt, PH.cell?, PH.owned, PH.upd_same, Value.cells, List.size_toArray, List.length_cons, List.length_nil, Nat.reduceAdd, Nat.reduceLeDiff, Nat.reduceMul, Option.isSome_some, Option.isSome_none, spl, List.setIfInBounds_toArray, List.extract_toArray, Array.all_toList, List.all_toArray, List.all_cons, List.all_nil, Value.oneCell, Bool.and_self, Bool.and_true, PH.upd_upd, ne_eq, Nat.reduceEqDiff, List.getElem_cons_zero, List.getElem_cons_succ, List.getElem_toArray, *])
    refine gret1 rfl ⟨rfl, rfl⟩
  · have h : 0 ≤ a ∧ a < 32 := by unfold maskC at hc; split at hc <;> omega
    have h2 : 2 ≤ 2 ^ maskC a m := Nat.le_trans (by decide : 2 ≤ 2 ^ 1) (Nat.pow_le_pow_right (by decide) (by omega))
    have e0 : ¬ ((2 ^ maskC a m - 1 : Nat) : Int) = 0 := by omega
    have hle := maskC_le a m
    have hm := shiftl_lt (2 ^ maskC a m - 1) a.toNat (maskC a m) (two_lt _) (by omega)
    have hv2 := shiftl_lt (v % 2 ^ maskC a m) a.toNat (maskC a m) (Nat.mod_lt _ (Nat.two_pow_pos _)) (by omega)
    have e1 : Go.bits .or .u32 (Go.bits .andNot .u32 n (shl .u32 ((2 ^ maskC a m - 1 : Nat) : Int) a)) (shl .u32 (Go.bits .and .u32 v ((2 ^ maskC a m - 1 : Nat) : Int)) a) = ((setN n a.toNat (maskC a m) v : Nat) : Int) := by
      rw [shl32 _ (maskC a m) a (two_lt _) (by omega), andNot32 _ _ hn hm, and32 _ _ hv (by omega), Nat.and_two_pow_sub_one_eq_mod, shl32 _ (maskC a m) a (Nat.mod_lt _ (Nat.two_pow_pos _)) (by omega), or32 _ _ (Nat.lt_of_le_of_lt Nat.and_le_left hn) hv2]
      rfl
    have E1 := Lib.hid e1
    obtain ⟨h0, h1⟩ := h
    clear e1 h2 h3 h4 hm hv2 hle
    repeat' first | (with_reducible refine guardK_dec (fun h_ => ?_) (fun h_ => ?_)) | (with_reducible refine condK_dec (fun h_ => ?_) (fun h_ => ?_)) | (with_reducible refine And.intro ?_ ?_; (first | assumption | omega)) | (with_reducible refine hwp_draw _ mixed (by decide +kernel) (Lies.refl _) ?_) | (simp only [hwp_skip, hwp_exit, hwp_ret, hwp_seq, hwp_cond, hwp_block, hwp_region, hwp_loop, hlawp_nil, hlawp_cons, hlawp_guard, runOp_def, skipOp_def, fthen_normal, fthen_ret, fthen_exit, fthen_part, fblock_part, fblock_normal, fblock_ret, fblock_same, put_some, put_none, ev_tmp, ev_const, ev_func, cont_val, cont_need, cont_ov, cont_mem, cont_new, cont_call, cont_eqs, aft_def, stepV, intV, binV, unV, pickV, callV, builtinV, fieldAddrV, fieldV, indexAddrV, convertV, allocV, extractV, loadV, storeV, guardK_tt, guardK_tf, guardK_ft, guardK_ff, condK_t, condK_f, gval_def, List.set_cons_zero, List.set_cons_succ, List.getD_cons_zero, List.getD_cons_succ, List.getElem?_toArray, List.getElem?_cons_zero, List.getElem?_cons_succ, Option.bind_some, true_and, List.map_cons, List.map_nil, List.map_toArray, decide_true, decide_false, Bool.not_true, Bool.not_false, not_dec, Classical.not_not, if_true, if_false, Bool.false_eq_true, and_self, and_true, List.append_toArray, List.nil_append, List.append_nil, List.cons_append, Option.map_some, not_true, not_false_iff, Addr.add_lit, Nat.zero_add, Nat.add_zero, dl_nil, dl_cons, dl_guard, runD_def, readB, readK_val, readK_need, readK_ov, effK_def, PH.cellsAt, PH.cell?, PH.owned, PH.upd_same, Value.cells, List.size_toArray, List.length_cons, List.length_nil, Nat.reduceAdd, Nat.reduceLeDiff, Nat.reduceMul, Option.isSome_some, Option.isSome_none, spl, List.setIfInBounds_toArray, List.extract_toArray, Array.all_toList, List.all_toArray, List.all_cons, List.all_nil, Value.oneCell, Bool.and_self, Bool.and_true, PH.upd_upd, ne_eq, Nat.reduceEqDiff, List.getElem_cons_zero, List.getElem_cons_succ, List.getElem_toArray, *])
    refine gret1 rfl ⟨?_, rfl⟩
    exact congrArg (Value.int .u32) E1.out
theorem field_i (n a m : Int) (h0 : 0 ≤ n) (h1 : n < 4294967296) (st : PH) : Ret Try.prog 28 [.int .u32 n, .int .i64 a, .int .i64 m] st (.int .u32 ((fieldN n.toNat a.toNat (maskC a m) : Nat) : Int)) := by
  have := field_ret n.toNat a m (by omega) st
  rwa [Int.toNat_of_nonneg h0] at this
theorem set_i (n a m v : Int) (h0 : 0 ≤ n) (h1 : n < 4294967296) (h2 : 0 ≤ v) (h3 : v < 4294967296) (st : PH) : Ret Try.prog 27 [.int .u32 n, .int .i64 a, .int .i64 m, .int .u32 v] st (.int .u32 ((setN n.toNat a.toNat (maskC a m) v.toNat : Nat) : Int)) := by
  have := set_ret n.toNat v.toNat a m (by omega) (by omega) st
  rwa [Int.toNat_of_nonneg h0, Int.toNat_of_nonneg h2] at this
end Go.Proofs.Ytnacpcbaiaakhaa.Ae
