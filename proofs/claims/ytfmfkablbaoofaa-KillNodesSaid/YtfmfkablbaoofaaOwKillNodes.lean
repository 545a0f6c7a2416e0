/- The evaluator's words that no unifier opens, and what the parts side by side tell at loads, stores, new blocks and regions that draw their order; no condition beyond the ones that each theorem names. -/
import Derived.Test.YtfmfkablbaoofaaSqKillNodes
import Derived.Test.YtfmfkablbaoofaaSzKillNodes
set_option linter.unusedVariables false
set_option linter.unusedSimpArgs false
namespace Go.Proofs.Ytfmfkablbaoofaa.Ae
open Go

/-! ### words -/
@[irreducible] def wr (k : IntKind) (x : Int) : Int := k.wrap x
@[irreducible] def sl (k : IntKind) (x y : Int) : Int := k.wrap (x * 2 ^ min y.toNat k.bits)
@[irreducible] def sr (k : IntKind) (x y : Int) : Int := x / 2 ^ min y.toNat k.bits
@[irreducible] def ban (k : IntKind) (x y : Int) : Int := Go.bits .and k x y
@[irreducible] def bor (k : IntKind) (x y : Int) : Int := Go.bits .or k x y
@[irreducible] def bxo (k : IntKind) (x y : Int) : Int := Go.bits .xor k x y
@[irreducible] def bnn (k : IntKind) (x y : Int) : Int := Go.bits .andNot k x y
theorem wr_def (k : IntKind) (x : Int) : wr k x = k.wrap x := by unfold wr; rfl
theorem wr_wrap (k : IntKind) (x : Int) : k.wrap x = wr k x := (wr_def k x).symm
theorem sl_def (k : IntKind) (x y : Int) : sl k x y = k.wrap (x * 2 ^ min y.toNat k.bits) := by unfold sl; rfl
theorem sr_def (k : IntKind) (x y : Int) : sr k x y = x / 2 ^ min y.toNat k.bits := by unfold sr; rfl
theorem ban_def (k : IntKind) (x y : Int) : ban k x y = Go.bits .and k x y := by unfold ban; rfl
theorem bor_def (k : IntKind) (x y : Int) : bor k x y = Go.bits .or k x y := by unfold bor; rfl
theorem bxo_def (k : IntKind) (x y : Int) : bxo k x y = Go.bits .xor k x y := by unfold bxo; rfl
theorem bnn_def (k : IntKind) (x y : Int) : bnn k x y = Go.bits .andNot k x y := by unfold bnn; rfl
theorem wr_i64 {x : Int} (h0 : -9223372036854775808 ≤ x) (h1 : x ≤ 9223372036854775807) : wr .i64 x = x := by rw [wr_def]; exact Bits.i64_id h0 h1
theorem wr_u64 {x : Int} (h0 : 0 ≤ x) (h1 : x < 18446744073709551616) : wr .u64 x = x := by rw [wr_def]; exact Bits.u64_wrap h0 h1
theorem wr_u32 {x : Int} (h0 : 0 ≤ x) (h1 : x < 4294967296) : wr .u32 x = x := by rw [wr_def]; exact Bits.u32_id h0 h1
theorem wr_u16 {x : Int} (h0 : 0 ≤ x) (h1 : x < 65536) : wr .u16 x = x := by rw [wr_def, IntKind.wrap_u16]; omega
theorem wr_u8 {x : Int} (h0 : 0 ≤ x) (h1 : x < 256) : wr .u8 x = x := by rw [wr_def, IntKind.wrap_u8]; omega
theorem wr_i32 {x : Int} (h0 : -2147483648 ≤ x) (h1 : x < 2147483648) : wr .i32 x = x := by rw [wr_def, IntKind.wrap_i32]; omega
theorem unV_not {b : Bool} : unV .not (.bool b) = .val (.bool (!b)) := rfl
theorem unV_neg {k : IntKind} {n : Int} : unV .neg (.int k n) = .val (.int k (wr k (-n))) := by rw [wr_def]; rfl
theorem intV_add {k yk : IntKind} {a b : Int} : intV .add k yk a b = .need (k = yk) (.int k (wr k (a + b))) := by rw [wr_def]; rfl
theorem intV_sub {k yk : IntKind} {a b : Int} : intV .sub k yk a b = .need (k = yk) (.int k (wr k (a - b))) := by rw [wr_def]; rfl
theorem intV_mul {k yk : IntKind} {a b : Int} : intV .mul k yk a b = .need (k = yk) (.int k (wr k (a * b))) := by rw [wr_def]; rfl
theorem intV_quo {k yk : IntKind} {a b : Int} : intV .quo k yk a b = .need (k = yk ∧ b ≠ 0) (.int k (wr k (a.tdiv b))) := by rw [wr_def]; rfl
theorem intV_rem {k yk : IntKind} {a b : Int} : intV .rem k yk a b = .need (k = yk ∧ b ≠ 0) (.int k (a.tmod b)) := rfl
theorem intV_and {k yk : IntKind} {a b : Int} : intV .and k yk a b = .need (k = yk) (.int k (ban k a b)) := by rw [ban_def]; rfl
theorem intV_or {k yk : IntKind} {a b : Int} : intV .or k yk a b = .need (k = yk) (.int k (bor k a b)) := by rw [bor_def]; rfl
theorem intV_xor {k yk : IntKind} {a b : Int} : intV .xor k yk a b = .need (k = yk) (.int k (bxo k a b)) := by rw [bxo_def]; rfl
theorem intV_andNot {k yk : IntKind} {a b : Int} : intV .andNot k yk a b = .need (k = yk) (.int k (bnn k a b)) := by rw [bnn_def]; rfl
theorem intV_eql {k yk : IntKind} {a b : Int} : intV .eql k yk a b = .need (k = yk) (.bool (decide (a = b))) := rfl
theorem intV_neq {k yk : IntKind} {a b : Int} : intV .neq k yk a b = .need (k = yk) (.bool (decide (¬ a = b))) := rfl
theorem intV_lss {k yk : IntKind} {a b : Int} : intV .lss k yk a b = .need (k = yk) (.bool (decide (a < b))) := rfl
theorem intV_leq {k yk : IntKind} {a b : Int} : intV .leq k yk a b = .need (k = yk) (.bool (decide (a ≤ b))) := rfl
theorem intV_gtr {k yk : IntKind} {a b : Int} : intV .gtr k yk a b = .need (k = yk) (.bool (decide (b < a))) := rfl
theorem intV_geq {k yk : IntKind} {a b : Int} : intV .geq k yk a b = .need (k = yk) (.bool (decide (b ≤ a))) := rfl
theorem intV_shl {k yk : IntKind} {a b : Int} : intV .shl k yk a b = .need (0 ≤ b) (.int k (sl k a b)) := by rw [sl_def]; rfl
theorem intV_shr {k yk : IntKind} {a b : Int} : intV .shr k yk a b = .need (0 ≤ b) (.int k (sr k a b)) := by rw [sr_def]; rfl
/-! ### loads and stores by parts -/
section
variable {P : Program} {st : PH} {K : FR → PH → Prop} {d : Option Tmp} {F : FR} {L L' : List HA} {r off n : Nat} {c c' : Array Value} {e : TypeId} {f : Nat × Nat} {v : Value} {o : Obj} {KV : Value → PH → Prop}
def storeD (a : Addr) (l : List Value) (st : PH) : VRes := .mem ((st.owned a l.length).map fun x => st.upd a.block (.cells (spl x.1 a.off l) x.2 (0, 0)))
theorem storeC_D {t : TypeId} {a : Addr} {l : List Value} : storeC P t a l.toArray st = if tok P t = true ∧ l.length = tsz P t ∧ l.all Value.oneCell = true then storeD a l st else .bad := storeC_lit
theorem ov_pt (hS : Sat L st) (p : Pick (Pt r (.cells c e f)) L L') (hc : c[off]? = some v) (k : K (put F d v) st) : cont P st K d F (.ov (st.cell? ⟨r, off, none⟩)) := by
  have h := sat_pt (sat_pick p hS)
  rw [show st.cell? ⟨r, off, none⟩ = some v by rw [cell_lit, h]; exact hc]
  exact k
theorem ov_agg (hS : Sat L st) (p : Pick (Pt r (.cells c e f)) L L') (hn : off + n ≤ c.size) (k : K (put F d (.agg (c.extract off (off + n)))) st) : cont P st K d F (.ov ((st.cellsAt ⟨r, off, none⟩ n).map .agg)) := by
  have h := sat_pt (sat_pick p hS)
  rw [show st.cellsAt ⟨r, off, none⟩ n = some (c.extract off (off + n)) by rw [cellsAt_lit, h]; exact if_pos hn]
  exact k
theorem rd_pt {S T : PH} (hS : Sat L T) (p : Pick (Pt r (.cells c e f)) L L') (hc : c[off]? = some v) (k : K (put F d v) S) : readK K d F S (.ov (T.cell? ⟨r, off, none⟩)) := by
  have h := sat_pt (sat_pick p hS)
  rw [show T.cell? ⟨r, off, none⟩ = some v by rw [cell_lit, h]; exact hc]
  exact k
theorem rd_agg {S T : PH} (hS : Sat L T) (p : Pick (Pt r (.cells c e f)) L L') (hn : off + n ≤ c.size) (k : K (put F d (.agg (c.extract off (off + n)))) S) : readK K d F S (.ov ((T.cellsAt ⟨r, off, none⟩ n).map .agg)) := by
  have h := sat_pt (sat_pick p hS)
  rw [show T.cellsAt ⟨r, off, none⟩ n = some (c.extract off (off + n)) by rw [cellsAt_lit, h]; exact if_pos hn]
  exact k
theorem st_pt {l : List Value} (hS : Sat L st) (p : Pick (Pt r (.cells c e (0, 0))) L L') (hn : off + l.length ≤ c.size) (hc : spl c off l = c') (k : ∀ s, Sat (Pt r (.cells c' e (0, 0)) :: L') s → K (put F d undef) s) : cont P st K d F (storeD ⟨r, off, none⟩ l st) := by
  have h0 := sat_pick p hS
  have h := sat_pt h0
  unfold storeD
  rw [show st.owned ⟨r, off, none⟩ l.length = some (c, e) by rw [owned_lit, h]; exact if_pos hn]
  subst hc
  exact k _ (sat_upd h0)
theorem new_pt (hS : Sat L st) (k : ∀ p s, Sat (Pt p o :: L) s → KV (.pointer (some ⟨p, 0, none⟩)) s) : NewK st o KV := fun p hp => k p _ (sat_new hp hS)
/-- A cell of what lay there. -/
theorem ov_is {T : PH} {x : Addr} (hS : Sat L st) (p : Pick (Is T) L L') (hl : T.cell? x = some v) (k : K (put F d v) st) : cont P st K d F (.ov (st.cell? x)) := cont_rd hl (sat_is (sat_pick p hS)) k
theorem ov_agg_at {x : Addr} {cs : Array Value} (hl : st.cellsAt x n = some cs) (k : K (put F d (.agg cs)) st) : cont P st K d F (.ov ((st.cellsAt x n).map .agg)) := by rw [hl]; exact k
theorem rd_agg_at {S T : PH} {x : Addr} {cs : Array Value} (hl : T.cellsAt x n = some cs) (k : K (put F d (.agg cs)) S) : readK K d F S (.ov ((T.cellsAt x n).map .agg)) := by rw [hl]; exact k
theorem slb_cellsAt {a : Option Addr} {m cap sz : Nat} {cs : List Value} (k : Sat (SlB a m cap e sz cs :: L) st) (j n : Nat) (hj : j + n ≤ cs.length) (hn : 0 < n) : st.cellsAt ((a.getD ⟨0, 0, none⟩).add j) n = some (((cs.drop j).take n).toArray) := by
  obtain ⟨x, b, dd, hA, hL, rfl⟩ := k
  rcases hA with ⟨rfl, rfl, rfl⟩ | ⟨q, pre, junk, rfl, h1, h2, h3, h4⟩
  · simp at hj; omega
  · rw [Option.getD_some, add_off _ rfl]
    show (uni x b).cellsAt ⟨q, pre.length + j, none⟩ n = _
    rw [cellsAt_lit, uni_some h4]
    show (if _ then _ else _) = _
    rw [if_pos (by simp; omega)]
    congr 1
    apply Array.ext'
    simp only [List.extract_toArray, List.extract_eq_take_drop]
    rw [show pre.length + j + n - (pre.length + j) = n by omega, List.append_assoc, List.drop_append, List.drop_eq_nil_of_le (show pre.length ≤ pre.length + j by omega), Nat.add_sub_cancel_left, List.nil_append]
    rw [List.drop_append_of_le_length (by omega), List.take_append_of_le_length (by simp; omega)]
end
theorem resS_cell_pt {P : Program} {F : FR} {st : PH} {Q : List Value → Prop} {a : Tmp} {t : TypeId} {rs : List ResultVar} {r off : Nat} {c : Array Value} {e : TypeId} {f : Nat × Nat} {L L' : List HA} (h : F.getD a undef = .pointer (some ⟨r, off, none⟩)) (hS : Sat L st) (p : Pick (Pt r (.cells c e f)) L L')
    (ha : tagg P t = some true) (hk : tok P t = true) (hn : off + tsz P t ≤ c.size) (k : resS P F st rs fun l => Q (.agg (c.extract off (off + tsz P t)) :: l)) : resS P F st (.cell a t :: rs) Q := by
  refine resS_cell h ?_
  have h1 := sat_pt (sat_pick p hS)
  have h2 : st.cellsAt ⟨r, off, none⟩ (tsz P t) = some (c.extract off (off + tsz P t)) := by rw [cellsAt_lit, h1]; exact if_pos hn
  unfold loadV
  rw [ha]
  simp only
  rw [if_pos hk, h2]
  exact k
theorem resS_cell_p1 {P : Program} {F : FR} {st : PH} {Q : List Value → Prop} {a : Tmp} {t : TypeId} {rs : List ResultVar} {r off : Nat} {c : Array Value} {e : TypeId} {f : Nat × Nat} {v : Value} {L L' : List HA} (h : F.getD a undef = .pointer (some ⟨r, off, none⟩)) (hS : Sat L st) (p : Pick (Pt r (.cells c e f)) L L')
    (ha : tagg P t = some false) (hc : c[off]? = some v) (k : resS P F st rs fun l => Q (v :: l)) : resS P F st (.cell a t :: rs) Q := by
  refine resS_cell h ?_
  have h1 := sat_pt (sat_pick p hS)
  have h2 : st.cell? ⟨r, off, none⟩ = some v := by rw [cell_lit, h1]; exact hc
  unfold loadV
  rw [ha]
  simp only
  rw [h2]
  exact k
/-! ### regions that draw their order -/
inductive Mrg (T : PH) (L : List HA) : List HA → List HA → Prop
  | here : Mrg T L [Is T] L
  | there {A : HA} {L1 L2 : List HA} : Mrg T L L1 L2 → Mrg T L (A :: L1) (A :: L2)
theorem sat_mrg {T : PH} {L L1 L2 : List HA} (m : Mrg T L L1 L2) (hT : Sat L T) : ∀ {s : PH}, Sat L1 s → Sat L2 s := by
  induction m with
  | here => exact fun h => sat_lies (sat_is h) hT
  | there m ih => exact fun h => sat_tail (fun _ => ih) h
theorem draw_S {P : Program} {id : Nat} {l : List Oper} {Q : Exit → FR → PH → Prop} {F : FR} {st : PH} {L : List HA} (hm : P.follows .mixedOrders = true) (hS : Sat L st) (hok : (noSel l.toArray && regOK l.toArray (effOf l.toArray) (nwOf l.toArray)) = true)
    (h : Sat L st → Sat [Is st] st → dl P l.toArray st (Q .normal) l F st) : hwp P (.region id l.toArray true) Q F st := hwp_draw st hm hok (Lies.refl _) (h hS (sat_start st))
theorem draw_L {P : Program} {id : Nat} {l : List Oper} {Q : Exit → FR → PH → Prop} {F : FR} {st : PH} {L : List HA} (hm : P.follows .mixedOrders = true) (hS : Sat L st) (hok : (noSel l.toArray && regOK l.toArray (effOf l.toArray) (nwOf l.toArray) && lastOK l.toArray) = true)
    (h : Sat L st → Sat [Is st] st → dlL P l.toArray st (Q .normal) l F st) : hwp P (.region id l.toArray true) Q F st := hwp_drawL st hm hok (Lies.refl _) (h hS (sat_start st))
theorem sat_thaw {T : PH} {M L1 L1' : List HA} (p : Pick (Is T) L1 L1') (hT : Sat M T) {s : PH} (h : Sat L1 s) : Sat (M ++ L1') s := sat_app.1 (sat_imp (fun h' hl => sat_lies hl hT) (sat_pick p h))
theorem lies_0 {T : PH} {K : Prop} (h : K) : Lies (fun _ => none) T ∧ K := ⟨fun _ _ h => (by cases h), h⟩
theorem lies_is {T s : PH} {L L' : List HA} {K : Prop} (hS : Sat L s) (p : Pick (Is T) L L') (k : K) : Lies T s ∧ K := ⟨sat_is (sat_pick p hS), k⟩

theorem guardK_decn {p : Prop} [Decidable p] {w : Bool} {X Y : FR → PH → Prop} {F : FR} {st : PH} (h1 : ¬ p → guardK (some true) w X Y F st) (h2 : p → guardK (some false) w X Y F st) : guardK (some (decide (¬ p))) w X Y F st := guardK_dec h1 fun h => h2 (Classical.not_not.1 h)
theorem condK_decn {p : Prop} [Decidable p] {X Y : (Exit → FR → PH → Prop) → FR → PH → Prop} {Q : Exit → FR → PH → Prop} {F : FR} {st : PH} (h1 : ¬ p → X Q F st) (h2 : p → Y Q F st) : condK (.bool (decide (¬ p))) X Y Q F st := condK_dec h1 fun h => h2 (Classical.not_not.1 h)
/-! ### gates -/
section
variable {P : Program} {st : PH} {K : FR → PH → Prop} {d : Option Tmp} {F : FR} {a : Addr} {n : Nat} {l : List Value} {o : Obj} {KV : Value → PH → Prop}
theorem gOv (h : cont P st K d F (.ov (st.cell? a))) : cont P st K d F (.ov (st.cell? a)) := h
theorem gAg (h : cont P st K d F (.ov ((st.cellsAt a n).map .agg))) : cont P st K d F (.ov ((st.cellsAt a n).map .agg)) := h
theorem gSt (h : cont P st K d F (storeD a l st)) : cont P st K d F (storeD a l st) := h
theorem gRd {S T : PH} (h : readK K d F S (.ov (T.cell? a))) : readK K d F S (.ov (T.cell? a)) := h
theorem gRa {S T : PH} (h : readK K d F S (.ov ((T.cellsAt a n).map .agg))) : readK K d F S (.ov ((T.cellsAt a n).map .agg)) := h
theorem gQr {s : Sem Value} {T : PH} {KP : Value → Prop} (h : QrK P s T KP) : QrK P s T KP := h
theorem gSu {s : Sem Unit} (h : SemU P s st KV) : SemU P s st KV := h
theorem gNew (h : NewK st o KV) : NewK st o KV := h
theorem gLie {T s : PH} {K : Prop} (h : Lies T s ∧ K) : Lies T s ∧ K := h
end

theorem gateSome3 {a : Option Addr} {A Q : Prop} (h : (a.isSome = true ∧ A) ∧ Q) : (a.isSome = true ∧ A) ∧ Q := h
/-! ### what slices of numbers of one's own tell -/
def ints (k : IntKind) (l : List Int) : List Value := l.map fun n => .int k n
theorem ints_length {k : IntKind} {l : List Int} : (ints k l).length = l.length := List.length_map ..
/-! ### what the walk's simp knows -/
attribute [push_cast] cont_qr readK_qr implies_true true_implies false_implies sliceV newOp newR hwp_skip hwp_exit hwp_ret hwp_seq hwp_cond hwp_block hwp_region hwp_loop hlawp_nil hlawp_cons hlawp_guard runOp_def skipOp_def fthen_normal fthen_ret fthen_exit fthen_part fblock_other fblock_part fblock_normal fblock_ret fblock_same put_some put_none ev_tmp ev_const ev_func cont_val cont_need cont_ov cont_mem cont_new cont_call cont_eqs aft_def stepV binV unV_not unV_neg pickV callV builtinV fieldAddrV fieldV indexAddrV convertV allocV extractV loadV storeV_def guardK_tt guardK_tf guardK_ft guardK_ff condK_t condK_f gval_def List.set_cons_zero List.set_cons_succ List.getD_cons_zero List.getD_cons_succ List.getElem?_toArray List.getElem?_cons_zero List.getElem?_cons_succ Option.bind_some true_and List.map_cons List.map_nil List.map_toArray decide_true decide_false Bool.not_true Bool.not_false not_dec Classical.not_not if_true if_false Bool.false_eq_true and_self and_true List.append_toArray List.nil_append List.append_nil List.cons_append Option.map_some not_true not_false_iff Addr.add_lit Nat.zero_add Nat.add_zero dl_nil dl_cons dl_guard runD_def readB readK_val readK_need readK_ov effK_def cont_semv cont_semu cells_agg cells_int cells_bool cells_string cells_pointer cells_slice cells_map cells_func cells_nilFunc List.size_toArray List.length_cons List.length_nil Option.isSome_some Option.isSome_none spl List.setIfInBounds_toArray List.extract_toArray List.extract_eq_take_drop List.drop_zero List.drop_succ_cons List.take_succ_cons List.take_zero Nat.sub_zero beq_self_eq_true Bool.true_and Bool.false_and Bool.and_false Bool.true_or Bool.false_or Bool.or_true Bool.or_false Bool.not_not dec_and dec_or Option.getD_some Nat.mul_one BuildV bcat_nil bcat_cons MakeV zrow_int zrow_bool zrow_slice SliceV boundV_none boundV_some slAt_zero slK_def Int.toNat_zero Int.cast_ofNat_Int false_and and_false false_or or_false true_or or_true not_true_eq_false not_false_eq_true eq_self dec_beq Bool.true_beq beq_t Bool.false_beq beq_f iff_self Array.all_toList List.all_toArray List.all_cons List.all_nil Value.oneCell Bool.and_self Bool.and_true guardK_n match_undef fillL_nil fillL_cons fillK_some buildS_def ne_eq List.getElem_cons_zero List.getElem_cons_succ List.getElem_toArray intV_add intV_sub intV_mul intV_quo intV_rem intV_and intV_or intV_xor intV_andNot intV_eql intV_neq intV_lss intV_leq intV_gtr intV_geq intV_shl intV_shr wr_wrap List.append_eq Option.map_none wr_i64 wr_u64 wr_u32 wr_u16 wr_u8 wr_i32 storeC_D Int.toNat_natCast dlL_one dlL_cons dlL_guard List.length_append List.length_set List.length_map List.length_replicate ints_length
end Go.Proofs.Ytfmfkablbaoofaa.Ae
