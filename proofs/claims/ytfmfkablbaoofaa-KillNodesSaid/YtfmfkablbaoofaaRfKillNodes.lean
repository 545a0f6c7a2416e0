/- Ranges over functions: the rules of the walk for an iterator that asks for rounds, for a round's body, for the statement, for the function that holds it; no condition beyond the ones that each theorem names. -/
import Derived.Test.YtfmfkablbaoofaaFmKillNodes
import Derived.RangeFuncRecord
import Derived.TacticsIn
import Derived.OwnWalkIn
import Derived.RangeFuncCalls
set_option linter.unusedVariables false
set_option linter.unusedSimpArgs false
set_option maxRecDepth 100000
set_option maxHeartbeats 1000000
namespace Go.Proofs.Ytfmfkablbaoofaa.Ae
open Go Go.Proofs.Ytfmfkablbaoofaa.Bits
/-! ### operations at a fence that lets all in -/
structure FAll (F : Fence) : Prop where
  fn : ∀ f, F.fn f
  depth : F.depth = none
  calls : ∀ {P : Program} {f : FuncId} {args : Array Value} {w : World} {R : Ending → World → Prop}, Calls P f args w R → CallsIn F 0 P f args w R
theorem fall_wide : FAll Fence.wide := ⟨fun _ => trivial, rfl, fun h => callsIn_wide.2 h⟩
theorem fall_round (l : Nat) : FAll (Fence.wide.inRound l) := ⟨fun _ => trivial, rfl, fun h => CallsIn.inRound l (callsIn_wide.2 h)⟩
def noDefer (ops : List Oper) : Bool := ops.all fun o => match o.op with | .defer _ => false | _ => true
theorem noDefer_at {ops : List Oper} (h : noDefer ops = true) {o : Oper} (ho : o ∈ ops) : ∀ c, o.op ≠ .defer c := by
  intro c e
  have := List.all_eq_true.1 h o ho
  rw [e] at this
  cases this
theorem oawp_in {F : Fence} (hF : FAll F) {P : Program} {o : Oper} {a : Act} {st : PH} {K : Act → PH → Prop} {K' : Act → World → Prop} {Q : Exit → Act → World → Prop} {w : World} (ho : ∀ c, o.op ≠ .defer c)
    (h : oawp P o a st K) (hs : Sub st w) (hk : ∀ a' st' w', K a' st' → Next st w st' w' → K' a' w') : o.wpIn F 0 P a w K' Q := by
  refine ⟨fun f _ => hF.fn f, ?_⟩
  rw [Oper.semAt_plain F _ _ ho]
  obtain ⟨x, st', w', hr, hq, hn⟩ := h _ hs
  rw [hr]
  cases x <;> first
    | exact hq.elim
    | exact hk _ _ _ hq hn
    | exact ⟨by simp [hF.depth], hF.calls ((hq w' hn.sub).mono fun e w2 ⟨v, st2, he, hk2, hn2⟩ => by subst he; exact hk _ _ _ hk2 (hn.trans hn2))⟩
theorem lawp_in {F : Fence} (hF : FAll F) {P : Program} {ops : Array Oper} {K : Act → PH → Prop} {Q : Exit → Act → World → Prop} {rest : List Oper} : ∀ (l : List Oper), noDefer l = true → ∀ (a : Act) (st : PH) (w : World), lawp P ops K l a st → Sub st w →
    (∀ a' st' w', K a' st' → Next st w st' w' → wpListIn F 0 P ops Q rest a' w') → wpListIn F 0 P ops Q (l ++ rest) a w := by
  intro l
  induction l with
  | nil => exact fun _ a st w h hs hk => hk _ _ _ h (Next.refl hs)
  | cons o l ih =>
    intro hd a st w h hs hk
    have hd2 : noDefer l = true := by
      unfold noDefer at hd ⊢
      rw [List.all_cons, Bool.and_eq_true] at hd
      exact hd.2
    have ho := noDefer_at hd (List.mem_cons_self ..)
    unfold lawp at h
    rw [List.cons_append]
    unfold wpListIn
    split
    · rename_i hw
      rw [if_pos hw] at h
      exact oawp_in hF ho h hs fun a' st' w' hl hn => ih hd2 a' st' w' hl hn.sub fun a2 st2 w2 k2 n2 => hk _ _ _ k2 (hn.trans n2)
    · rename_i hw
      rw [if_neg hw] at h
      exact ⟨fun f _ => hF.fn f, ih hd2 _ _ _ h hs hk⟩
/-! ### a round -/
def cwpR (l : Nat) (P : Program) (c : Code) (Q : Exit → Act → PH → Prop) (a : Act) (st : PH) : Prop :=
  ∀ w, Sub st w → c.wpIn (Fence.wide.inRound l) 0 P (fun e a' w' => ∃ st', Q e a' st' ∧ Next st w st' w') a w
theorem cwpR_region {l : Nat} {P : Program} {Q : Exit → Act → PH → Prop} {a : Act} {st : PH} {id : Nat} {ops : Array Oper} (hd : noDefer ops.toList = true) (h : lawp P ops (Q .normal) ops.toList a st) : cwpR l P (.region id ops false) Q a st := by
  intro w hs
  refine wpIn_region_list ?_
  have := lawp_in (fall_round l) (Q := fun e a' w' => ∃ st', Q e a' st' ∧ Next st w st' w') (rest := []) ops.toList hd a st w h hs fun a' st' w' k n => ⟨st', k, n⟩
  rwa [List.append_nil] at this
theorem cwpR_block {l : Nat} {P : Program} {Q : Exit → Act → PH → Prop} {a : Act} {st : PH} {id : Nat} {c : Code} (h : cwpR l P c (InBlock id Q) a st) : cwpR l P (.block id c) Q a st := by
  intro w hs
  refine wpIn_block (wpIn_mono (h w hs) fun e a' w' ⟨st', q, n⟩ => ?_)
  cases e with
  | exit id' =>
    simp only [InBlock] at q
    simp only [Exit.inBlock]
    split
    · rename_i hid; rw [if_pos hid] at q; exact ⟨st', q, n⟩
    · rename_i hid; rw [if_neg hid] at q; exact ⟨st', q, n⟩
  | _ => exact ⟨st', q, n⟩
/-- A region walked as everywhere. -/
theorem cwpR_hwp {l : Nat} {P : Program} {Q : Exit → FR → PH → Prop} {F : FR} {st : PH} {id : Nat} {ops : Array Oper} (hd : noDefer ops.toList = true) (h : hwp P (.region id ops false) Q F st) : cwpR l P (.region id ops false) (fun e a st' => ∃ F', a = mk F' ∧ Q e F' st') (mk F) st :=
  cwpR_region hd (flawp_sound (fun F st h => ⟨F, rfl, h⟩) _ _ _ (hlawp_ok _ _ _ h))
/-- A call of yield: the round is run, and it comes back. -/
def AYield (P : Program) (l : Nat) (args : Array Value) (st : PH) (R : Value → PH → Prop) : Prop :=
  ∀ w, Sub st w → ∃ fn tmps assign body, (Instr.yield l args).run P w = .ok (.round l fn tmps assign body) w ∧ RoundIn Fence.wide 0 P l fn tmps assign body w fun e w' => ∃ v st', e = .returned v ∧ R v st' ∧ Next st w st' w'
theorem AYield.mono {P : Program} {l : Nat} {args : Array Value} {st : PH} {R R' : Value → PH → Prop} (h : AYield P l args st R) (k : ∀ v st', R v st' → R' v st') : AYield P l args st R' := by
  intro w hs
  obtain ⟨fn, tmps, assign, body, hy, hR⟩ := h w hs
  exact ⟨fn, tmps, assign, body, hy, hR.mono fun e w' ⟨v, st', e1, r, n⟩ => ⟨v, st', e1, k _ _ r, n⟩⟩
def YK (P : Program) (ops : Array Oper) (o : Oper) (suf : List Oper) (Q : FR → PH → Prop) (F : FR) (st : PH) : Prop :=
  ∃ l args, execOp (ev F) o = Instr.yield l args ∧ AYield P l args st fun v st2 => hlawp P ops Q suf (put F o.dst v) st2
theorem fsem_yield {P : Program} {id : Nat} {ops : Array Oper} {pre suf : List Oper} {o : Oper} {Q : Exit → FR → PH → Prop} {F : FR} {st : PH} (he : ops.toList = pre ++ o :: suf) (hg : o.guard = none) (hd : noDefer ops.toList = true)
    (h : hlawp P ops (YK P ops o suf (Q .normal)) pre F st) : FSem P (.region id ops false) Q F st := by
  intro w hs
  refine wpIn_wide.1 (wpIn_region_list (n := 0) ?_)
  rw [he] at hd ⊢
  have hd1 : noDefer pre = true := by unfold noDefer at hd ⊢; rw [List.all_append, Bool.and_eq_true] at hd; exact hd.1
  have hd2 : noDefer (o :: suf) = true := by unfold noDefer at hd ⊢; rw [List.all_append, Bool.and_eq_true] at hd; exact hd.2
  have hd3 : noDefer suf = true := by unfold noDefer at hd2 ⊢; rw [List.all_cons, Bool.and_eq_true] at hd2; exact hd2.2
  refine lawp_in fall_wide (K := fun a st' => ∃ F', a = mk F' ∧ YK P ops o suf (Q .normal) F' st') pre hd1 (mk F) st w (flawp_sound (fun F st h => ⟨F, rfl, h⟩) _ _ _ (hlawp_ok _ _ _ h)) hs ?_
  rintro a' st' w' ⟨F', rfl, l, args, hx, hY⟩ hn
  obtain ⟨fn, tmps, assign, body, hy, hR⟩ := hY w' hn.sub
  unfold wpListIn
  rw [if_pos (by simp [Region.wanted, hg])]
  refine ⟨fun f _ => trivial, ?_⟩
  rw [Oper.semAt_plain Fence.wide _ _ (noDefer_at hd2 (List.mem_cons_self ..)), ev_mk, hx, hy]
  refine ⟨fun h => (by cases h), hR.mono ?_⟩
  rintro e w2 ⟨v, st2, rfl, hl, hn2⟩
  have := lawp_in fall_wide (P := P) (ops := ops) (K := fun a st' => ∃ F', a = mk F' ∧ Q .normal F' st') (Q := fun e a' w' => ∃ st', (∃ F', a' = mk F' ∧ Q e F' st') ∧ Next st w st' w') (rest := []) suf hd3 (mk (put F' o.dst v)) st2 w2 (flawp_sound (fun F st h => ⟨F, rfl, h⟩) _ _ _ (hlawp_ok _ _ _ hl)) hn2.sub (fun a2 st3 w3 k3 n3 => ⟨st3, k3, hn.trans (hn2.trans n3)⟩)
  rw [List.append_nil] at this
  dsimp only
  rw [put_mk]
  exact this
/-! ### code by its parts -/
theorem fsem_seq {P : Program} {x y : Code} {Q : Exit → FR → PH → Prop} {F : FR} {st : PH} (h : FSem P x (FThen (FSem P y Q) Q) F st) : FSem P (.seq x y) Q F st := by
  refine cwp_seq (cwp_mono h ?_)
  rintro e a st' ⟨F', rfl, hq⟩
  cases e with
  | normal => exact hq
  | _ => exact ⟨F', rfl, hq⟩
theorem fsem_seq_h {P : Program} {x y : Code} {Q : Exit → FR → PH → Prop} {F : FR} {st : PH} (h : hwp P x (FThen (FSem P y Q) Q) F st) : FSem P (.seq x y) Q F st := fsem_seq (hwp_sem _ _ _ _ h)
theorem fsem_block {P : Program} {id : Nat} {c : Code} {Q : Exit → FR → PH → Prop} {F : FR} {st : PH} (h : FSem P c (FBlock id Q) F st) : FSem P (.block id c) Q F st := by
  refine cwp_block (cwp_mono h ?_)
  rintro e a st' ⟨F', rfl, hq⟩
  cases e with
  | exit id' =>
    simp only [InBlock]
    simp only [FBlock] at hq
    split
    · rename_i hid; rw [if_pos hid] at hq; exact ⟨F', rfl, hq⟩
    · rename_i hid; rw [if_neg hid] at hq; exact ⟨F', rfl, hq⟩
  | _ => exact ⟨F', rfl, hq⟩
theorem floop {P : Program} {c : Code} {Q : Exit → FR → PH → Prop} {F0 : FR} {st : PH} {α : Type} (M : List Nat) (vals : α → List (Nat × Value)) (inv : α → PH → Prop) (μ : α → Nat) (a0 : α) (st0 : PH)
    (h0 : Holds F0 (vals a0)) (hl : Lies st0 st) (hi : inv a0 st0)
    (round : ∀ a js st, js.length = M.length → Holds (setL F0 M js) (vals a) → inv a st → FSem P c (FThen (Back F0 M vals inv μ a) Q) (setL F0 M js) st) : FSem P (.loop c) Q F0 st := by
  refine cwp_loop (fun n a st => ∃ x js st2, a = mk (setL F0 M js) ∧ n = μ x ∧ js.length = M.length ∧ Holds (setL F0 M js) (vals x) ∧ Lies st2 st ∧ inv x st2) (μ a0) ⟨a0, getL F0 M, st0, by rw [setL_getL], rfl, by simp [getL], by rw [setL_getL]; exact h0, hl, hi⟩ ?_
  rintro n a st ⟨x, js, st2, rfl, rfl, hlen, hv, hl2, hinv⟩
  refine cwp_forget hl2 (cwp_mono (round x js st2 hlen hv hinv) ?_)
  rintro e a' st' ⟨F', rfl, hq⟩
  cases e with
  | normal =>
    obtain ⟨b, hb, hF, hv2, st3, hl3, hi3⟩ := hq
    exact ⟨μ b, hb, b, getL F' M, st3, congrArg mk hF, rfl, by simp [getL], hF ▸ hv2, hl3, hi3⟩
  | _ => exact ⟨F', rfl, hq⟩
/-! ### the statement -/
def recOf (fn : FuncId) (tmps : Array Value) (ps : Array Tmp) (assign body : Code) (b : Nat) (s : LoopState) : Obj := .loop { state := s, pending := none, fn, tmps, params := ps, assign, body, defers := b }
theorem cwp_rangeFunc {P : Program} {g : Operand} {ps : Array Tmp} {assign body : Code} {Q : Exit → Act → PH → Prop} {a : Act} {st : PH} {gf : FuncId} {cap : Array Value} (hg : a.eval g = .func (.func gf) #[] cap)
    (eg : ∀ args w, (callFunc gf args).run P w = .ok (.enter gf args) w)
    (h : ∀ fn b l rec rec2, rec = recOf fn a.tmps ps assign body b .ready → rec2 = recOf fn a.tmps ps assign body b .exhausted → st b = none → (st.upd b (.deferred (some []))) l = none →
      ACalls P gf (#[.func (.yield l) #[] #[]] ++ cap) ((st.upd b (.deferred (some []))).upd l rec) fun _ s =>
        s l = some rec ∧ Q .normal { a with defers := { target := .collected b, args := #[] } :: a.defers } (s.upd l rec2)) :
    cwp P (.rangeFunc g ps assign body) Q a st := by
  intro w hs
  refine wpIn_wide.1 (wpIn_rangeFunc (n := 0) fun fn _ => ?_)
  have n1 : Next st w (st.upd w.heap.size (.deferred (some []))) (w.alloc (.deferred (some []))) := Next.new hs _
  have e1 : st w.heap.size = none := fresh_none hs
  have hsz : (w.alloc (.deferred (some []))).heap.size = w.heap.size + 1 := World.size_alloc ..
  obtain ⟨W1, hW1⟩ : ∃ W1, (w.alloc (.deferred (some []))).alloc (recOf fn a.tmps ps assign body w.heap.size .ready) = W1 := ⟨_, rfl⟩
  have n2 : Next (st.upd w.heap.size (.deferred (some []))) (w.alloc (.deferred (some []))) ((st.upd w.heap.size (.deferred (some []))).upd (w.heap.size + 1) (recOf fn a.tmps ps assign body w.heap.size .ready)) W1 := by
    rw [← hW1, ← hsz]; exact Next.new n1.sub _
  have e2 : (st.upd w.heap.size (.deferred (some []))) (w.heap.size + 1) = none := by
    rw [← hsz]; exact fresh_none n1.sub
  have hc := h fn w.heap.size (w.heap.size + 1) _ _ rfl rfl e1 e2 W1 n2.sub
  refine ⟨w.heap.size + 1, [{ target := .collected w.heap.size, args := #[] }], W1, { target := .fn (.func gf) cap, args := #[.func (.yield (w.heap.size + 1)) #[] #[]] }, W1, gf, #[.func (.yield (w.heap.size + 1)) #[] #[]] ++ cap, W1, ?_, ?_, ?_, ?_, ?_, ?_⟩
  · rw [← hW1]; exact run_enterLoop_outer _ _ _ _ _
  · simp only [resolve, hg]
    simp [go_sem]
  · exact fun _ _ => trivial
  · simp [invoke, go_sem, eg]
  · exact fun h => (by cases h)
  · refine callsIn_wide.2 (hc.mono ?_)
    rintro e w3 ⟨v, s, rfl, ⟨hl, hQ⟩, n3⟩
    have n4 := Next.setObj n3.sub (o := recOf fn a.tmps ps assign body w.heap.size .exhausted) hl
    exact ⟨none, _, run_endLoop (n3.sub _ _ hl) (show LoopState.ready ≠ LoopState.busy by decide), _, hQ, (n1.trans n2).trans (n3.trans n4)⟩
/-! ### a round's contract -/
theorem ayield_of {P : Program} {l : Nat} {fn : FuncId} {tmps tmps' : Array Value} {ps : Array Tmp} {assign body : Code} {b : Nat} {args : Array Value} {st : PH} {R : Value → PH → Prop}
    (hl : st l = some (recOf fn tmps ps assign body b .ready)) (hsz : args.size = ps.size) (ht : (ps.zip args).foldl (fun tmps (t, a) => tmps.setIfInBounds t a) tmps = tmps')
    (h : cwpR l P assign (fun e a1 s1 => e = .normal ∧ s1 l = some (recOf fn tmps ps assign body b .ready) ∧ cwpR l P body (fun e a2 s2 => e = .normal ∧ s2 l = some (recOf fn tmps ps assign body b .busy) ∧ R (.bool true) (s2.upd l (recOf fn tmps ps assign body b .ready))) a1 (s1.upd l (recOf fn tmps ps assign body b .busy))) { tmps := tmps', defers := [] } st) :
    AYield P l args st R := by
  intro w hs
  refine ⟨fn, tmps', assign, body, ?_, ?_⟩
  · rw [run_yield (hs _ _ hl) hsz, ht]
  · refine roundIn_of_wpIn (F := Fence.wide) trivial (wpIn_mono (h w hs) ?_)
    rintro e a1 w1 ⟨s1, ⟨rfl, hl1, hb⟩, n1⟩
    have n2 := Next.setObj n1.sub (o := recOf fn tmps ps assign body b .busy) hl1
    refine ⟨_, run_beginRound (n1.sub _ _ hl1) rfl, wpIn_mono (hb _ n2.sub) ?_⟩
    rintro e a2 w2 ⟨s2, ⟨rfl, hl2, hR⟩, n3⟩
    have n4 := Next.setObj n3.sub (o := recOf fn tmps ps assign body b .ready) hl2
    exact ⟨_, _, run_endRound none (n3.sub _ _ hl2), _, _, rfl, hR, (n1.trans n2).trans (n3.trans n4)⟩
/-! ### the function that holds the statement -/
def abodyM (P : Program) (fn : Func) (R : Value → PH → Prop) : Exit → Act → PH → Prop
  | .normal, a, st | .ret, a, st => ∃ b, a.defers = [{ target := .collected b, args := #[] }] ∧ st b = some (.deferred (some [])) ∧ qwp P (results fn a.tmps) (st.upd b (.deferred none)) (fun v => R v (st.upd b (.deferred none)))
  | _, _, _ => False
theorem acalls_of_marks {P : Program} {f : FuncId} {fn : Func} {c : Code} {args : Array Value} {st : PH} {R : Value → PH → Prop}
    (hf : P.funcs[f]? = some fn) (hb : fn.body = some c)
    (h : cwp P c (abodyM P fn R) { tmps := args ++ Array.replicate (fn.ntmps - args.size) undef, defers := [] } st) : ACalls P f args st R := by
  intro w hs
  refine (callsIn_wide (n := 0)).1 (callsIn_of_wp_marks hf hb trivial (wpIn_mono (wpIn_wide.2 (h w hs)) ?_))
  rintro e a' w' ⟨st', q, n⟩
  cases e <;> first
    | exact q.elim
    | (obtain ⟨b, hd, hk, hq⟩ := q
       have n2 := Next.setObj n.sub (o := .deferred none) hk
       obtain ⟨v, hr, hv⟩ := qwp_sound _ _ _ hq n2.sub
       show LeavesInM _ _ _ _ _ _ a'.defers _ _
       rw [hd]
       exact ⟨by simp, .inl ⟨_, _, rfl, run_takeDeferred (n.sub _ _ hk), v, hr, v, _, rfl, hv, n.trans n2⟩⟩)
/-- What is walked without deferred calls is walked with them. -/
theorem lawp_defers {P : Program} {ops : Array Oper} {K : Act → PH → Prop} (ds : List Deferred) : ∀ (l : List Oper) (t : Array Value) (st : PH), lawp P ops K l { tmps := t, defers := [] } st →
    lawp P ops (fun a s => ∃ t, a = { tmps := t, defers := ds } ∧ K { tmps := t, defers := [] } s) l { tmps := t, defers := ds } st := by
  intro l
  induction l with
  | nil => exact fun t st h => ⟨t, rfl, h⟩
  | cons o l ih =>
    intro t st h
    unfold lawp at h ⊢
    have hp : ∀ (d : Option Tmp) (v : Value) (dd : List Deferred), Act.put { tmps := t, defers := dd } d v = { tmps := (Act.put { tmps := t, defers := [] } d v).tmps, defers := dd } := fun d v dd => by cases d <;> rfl
    split
    · rename_i hw
      rw [if_pos hw] at h
      refine swp_mono ?_ _ _ h
      intro n st' hn
      cases n <;> first
        | exact hn.elim
        | (simp only [nextwp] at hn ⊢; rw [hp] at hn ⊢; exact ih _ _ hn)
        | (simp only [nextwp] at hn ⊢; exact ACalls.mono hn fun v s hk => by rw [hp] at hk ⊢; exact ih _ _ hk)
    · rename_i hw
      rw [if_neg hw] at h
      rw [hp] at h ⊢
      exact ih _ _ h
theorem cwpR_mono {l : Nat} {P : Program} {c : Code} {Q Q' : Exit → Act → PH → Prop} {a : Act} {st : PH} (h : cwpR l P c Q a st) (k : ∀ e a st, Q e a st → Q' e a st) : cwpR l P c Q' a st :=
  fun w hs => wpIn_mono (h w hs) fun _ _ _ ⟨st', q, n⟩ => ⟨st', k _ _ _ q, n⟩
/-- The body's end. -/
def RB (l : Nat) (o2 o3 : Obj) (R : Value → PH → Prop) : Exit → FR → PH → Prop
  | .normal, _, s => s l = some o2 ∧ R (.bool true) (s.upd l o3)
  | _, _, _ => False
/-- The assignment's end: the body. -/
def RA (P : Program) (l : Nat) (o1 ob : Obj) (idb : Nat) (opsb : Array Oper) (R : Value → PH → Prop) : Exit → FR → PH → Prop
  | .normal, F, s => s l = some o1 ∧ ∀ o2, o2 = ob → hwp P (.region idb opsb false) (RB l o2 o1 R) F (s.upd l o2)
  | _, _, _ => False
theorem ayield_h {P : Program} {l : Nat} {fn : FuncId} {F0 F1 : FR} {ps : Array Tmp} {ida idb blk : Nat} {opsa opsb : Array Oper} {b : Nat} {args : Array Value} {st : PH} {R : Value → PH → Prop} {rec : Obj}
    (hrec : rec = recOf fn F0.toArray ps (.region ida opsa false) (.block blk (.region idb opsb false)) b .ready)
    (hl : st l = some rec) (hsz : args.size = ps.size) (ht : (ps.zip args).foldl (fun tmps (t, a) => tmps.setIfInBounds t a) F0.toArray = F1.toArray)
    (hd1 : noDefer opsa.toList = true) (hd2 : noDefer opsb.toList = true)
    (h : hwp P (.region ida opsa false) (RA P l rec (recOf fn F0.toArray ps (.region ida opsa false) (.block blk (.region idb opsb false)) b .busy) idb opsb R) F1 st) : AYield P l args st R := by
  subst hrec
  refine ayield_of (tmps' := F1.toArray) hl hsz ht ?_
  refine cwpR_mono (cwpR_hwp (F := F1) hd1 h) ?_
  rintro e a s ⟨F2, rfl, hq⟩
  cases e with
  | normal =>
    obtain ⟨h1, h2⟩ := hq
    refine ⟨rfl, h1, cwpR_block (cwpR_mono (cwpR_hwp hd2 (h2 _ rfl)) ?_)⟩
    rintro e a s ⟨F3, rfl, hq⟩
    cases e with
    | normal => exact ⟨rfl, hq.1, hq.2⟩
    | _ => exact hq.elim
  | _ => exact hq.elim
theorem cseq_h {P : Program} {x y : Code} {Q : Exit → Act → PH → Prop} {F : FR} {st : PH} (h : hwp P x (FThen (fun F' s => cwp P y Q (mk F') s) (fun _ _ _ => False)) F st) : cwp P (.seq x y) Q (mk F) st := by
  refine cwp_seq (cwp_mono (hwp_sem _ _ _ _ h) ?_)
  rintro e a s ⟨F', rfl, hq⟩
  cases e with
  | normal => exact hq
  | _ => exact hq.elim
/-- Behind the statement: a region, and the return. -/
theorem cwp_marks_ret {P : Program} {fn : Func} {R : Value → PH → Prop} {id : Nat} {ops : Array Oper} {F : FR} {ds : List Deferred} {b : Nat} {st : PH} (hds : ds = [{ target := .collected b, args := #[] }])
    (h : hwp P (.region id ops false) (FThen (fun F' s => s b = some (.deferred (some [])) ∧ qwp P (results fn F'.toArray) (s.upd b (.deferred none)) (fun v => R v (s.upd b (.deferred none)))) (fun _ _ _ => False)) F st) :
    cwp P (.seq (.region id ops false) .ret) (abodyM P fn R) { tmps := F.toArray, defers := ds } st := by
  subst hds
  refine cwp_seq (cwp_mono (cwp_region (Q := fun e a s => e = .normal ∧ ∃ t, a = { tmps := t, defers := [{ target := .collected b, args := #[] }] } ∧ s b = some (.deferred (some [])) ∧ qwp P (results fn t) (s.upd b (.deferred none)) (fun v => R v (s.upd b (.deferred none)))) ?_) ?_)
  · refine lawp_mono ?_ _ _ _ (lawp_defers (K := fun a s => s b = some (.deferred (some [])) ∧ qwp P (results fn a.tmps) (s.upd b (.deferred none)) (fun v => R v (s.upd b (.deferred none)))) [{ target := .collected b, args := #[] }] _ _ _ (flawp_sound (fun F st h => h) _ _ _ (hlawp_ok _ _ _ h)))
    rintro a s ⟨t, rfl, h1, h2⟩
    exact ⟨rfl, t, rfl, h1, h2⟩
  · rintro e a s ⟨rfl, t, rfl, h1, h2⟩
    exact cwp_ret ⟨b, rfl, h1, h2⟩
theorem acalls_of_mh {P : Program} {f : FuncId} {fn : Func} {c : Code} {args : List Value} {st : PH} {R : Value → PH → Prop}
    (hf : P.funcs[f]? = some fn) (hb : fn.body = some c) {F : FR} (hF : args ++ List.replicate (fn.ntmps - args.length) undef = F)
    (h : cwp P c (abodyM P fn R) (mk F) st) : ACalls P f args.toArray st R := by
  refine acalls_of_marks hf hb ?_
  have e : ({ tmps := args.toArray ++ Array.replicate (fn.ntmps - args.toArray.size) undef, defers := [] } : Act) = mk F := by
    rw [← hF]; unfold mk; simp
  rw [e]
  exact h
theorem exec_yield {ρ : Operand → Value} {d : Option Tmp} {fo : Operand} {l : Nat} {xs : Array Operand} {ts : Array TypeId} {ty : TypeId} {pos : String} {af : Array Edge} {g : Option (Nat × Bool)} {args : Array Value}
    (h : ρ fo = .func (.yield l) #[] #[]) (ha : #[] ++ xs.map ρ = args) : execOp ρ ⟨d, .call ⟨.value fo, xs, ts⟩, ty, pos, af, g⟩ = Instr.yield l args := by
  subst ha
  simp only [execOp, resolve, h, Deferred.ofValue]
  rfl
theorem qwp_ret1 {P : Program} {fn : Func} {t : Tmp} {R : Value → Prop} {F : FR} {st : PH} (h : fn.results = #[.tmp t]) (k : R (F.getD t undef)) : qwp P (results fn F.toArray) st R :=
  gret_ok (P := P) (fn := fn) (R := fun v _ => R v) .ret F st (gret1 h k)
end Go.Proofs.Ytfmfkablbaoofaa.Ae
