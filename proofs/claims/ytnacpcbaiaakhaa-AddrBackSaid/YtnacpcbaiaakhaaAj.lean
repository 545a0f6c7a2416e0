/- The evaluator for a region that draws its order, in a form that simp runs; its soundness; no condition beyond the ones that the theorem names. -/
import Derived.Test.YtnacpcbaiaakhaaAi
set_option linter.unusedVariables false
set_option linter.unusedSimpArgs false
namespace Go.Proofs.Ytnacpcbaiaakhaa.Ae
open Go

/-- It only reads. -/
def readB : Op → Bool
  | .move _ | .assign _ | .pick .. | .load .. | .nilCheck _ | .binOp .. | .unOp .. | .convert .. | .fieldAddr .. | .field .. | .indexAddr .. | .index .. | .extract .. => true
  | .call ⟨.builtin .len, _, _⟩ | .call ⟨.builtin .min, _, _⟩ | .call ⟨.builtin .max, _, _⟩ => true
  | _ => false
def effOf (ops : Array Oper) (i : Nat) : Bool :=
  match ops[i]? with
  | some o => !readB o.op
  | none => false
/-- What a reading step yields. -/
def VRes.yields : VRes → Value → Prop
  | .val v, u => u = v
  | .need p v, u => p ∧ u = v
  | .ov x, u => x = some u
  | _, _ => False
theorem yields_told {P : Program} {st : PH} {K : Value → PH → Prop} {x : VRes} {v : Value} (h : x.yields v) (k : K v st) : x.told P st K := by
  cases x <;> simp only [VRes.yields] at h <;> simp only [VRes.told]
  · subst h; exact k
  · exact ⟨h.1, h.2 ▸ k⟩
  · exact ⟨v, h, k⟩
theorem still_of {P : Program} {ops : Array Oper} {o : Oper} {F : FR} {T : PH} {v : Value} (hr : readB o.op = true) (hw : Region.wanted o (yielded ops (mk F).tmps) = true) (h : (stepV P F T o.op).yields v) : StillAt P ops o (mk F) T v := by
  refine .inl ⟨hw, fun w hs => ?_⟩
  have h1 : awp P (execOp (ev F) o) T (fun n st' => n = .value v ∧ st' = T) := by
    refine opS_ok (K := fun u st' => u = v ∧ st' = T) (stepV_ok _ (yields_told h ⟨rfl, rfl⟩)) ?_ ?_ ?_
    · rintro u st' ⟨rfl, rfl⟩; exact ⟨rfl, rfl⟩
    · rintro ⟨t, x, y, e⟩; rw [e] at hr; cases hr
    · rintro ⟨f, x, t, e⟩; rw [e] at hr; cases hr
  obtain ⟨x, st', w', hr', ⟨rfl, rfl⟩, hn⟩ := awp_sound _ _ _ h1 hs
  rw [ev_mk]
  exact ⟨w', hr', hn⟩
/-- What follows an operation that does more: what the others read still lies there. -/
def EffK (T : PH) (K : FR → PH → Prop) (F : FR) (S : PH) : Prop := Lies T S ∧ K F S
def readK (K : FR → PH → Prop) (d : Option Tmp) (F : FR) (S : PH) : VRes → Prop
  | .val v => K (put F d v) S
  | .need p v => p ∧ K (put F d v) S
  | .ov (some v) => K (put F d v) S
  | _ => False
def runD (P : Program) (T : PH) (K : FR → PH → Prop) (o : Oper) (F : FR) (S : PH) : Prop :=
  if readB o.op = true then readK K o.dst F S (stepV P F T o.op) else cont P S (EffK T K) o.dst F (stepV P F S o.op)
def dl (P : Program) (ops : Array Oper) (T : PH) (Q : FR → PH → Prop) : List Oper → FR → PH → Prop
  | [], F, S => Q F S
  | o :: rest, F, S =>
    match o.guard with
    | none => runD P T (dl P ops T Q rest) o F S
    | some (j, want) => guardK (gval ops F j) want (runD P T (dl P ops T Q rest) o) (skipOp (dl P ops T Q rest) o.dst) F S
theorem readK_ok {K : FR → PH → Prop} {d : Option Tmp} {F : FR} {S : PH} {x : VRes} (h : readK K d F S x) : ∃ v, x.yields v ∧ K (put F d v) S := by
  unfold readK at h
  split at h
  · exact ⟨_, rfl, h⟩
  · exact ⟨_, ⟨h.1, rfl⟩, h.2⟩
  · exact ⟨_, rfl, h⟩
  · exact h.elim
theorem dl_ok {P : Program} {ops : Array Oper} {T : PH} {Q : FR → PH → Prop} : ∀ (l : List Oper) (k : Nat) (F : FR) (S : PH), (∀ j, l[j]? = ops[k + j]?) → dl P ops T Q l F S →
    rl P ops T (effOf ops) (fun a st' => ∃ F', a = mk F' ∧ Q F' st') (List.range' k l.length) (mk F) S := by
  intro l
  induction l with
  | nil => exact fun k F S _ h => ⟨F, rfl, h⟩
  | cons o l ih =>
    intro k F S hl h
    have h0 : ops[k]? = some o := by simpa using (hl 0).symm
    have ih' := fun F S => ih (k + 1) F S (fun j => by have := hl (j + 1); simpa [Nat.add_assoc, Nat.add_comm 1 j] using this)
    rw [List.length_cons, List.range'_succ]
    refine ⟨o, h0, ?_⟩
    have he : effOf ops k = !readB o.op := by unfold effOf; rw [h0]
    have skip : Region.wanted o (yielded ops (mk F).tmps) = false → dl P ops T Q l (put F o.dst undef) S → (if effOf ops k = true ∧ Region.wanted o (yielded ops (mk F).tmps) = true then oawp P o (mk F) S (fun a' S' => Lies T S' ∧ rl P ops T (effOf ops) (fun a st' => ∃ F', a = mk F' ∧ Q F' st') (List.range' (k + 1) l.length) a' S')
        else ∃ v, StillAt P ops o (mk F) T v ∧ rl P ops T (effOf ops) (fun a st' => ∃ F', a = mk F' ∧ Q F' st') (List.range' (k + 1) l.length) ((mk F).put o.dst v) S) := by
      intro hw h
      rw [if_neg (by rw [hw]; simp)]
      exact ⟨undef, .inr ⟨hw, rfl⟩, by rw [put_mk]; exact ih' _ _ h⟩
    have run : Region.wanted o (yielded ops (mk F).tmps) = true → runD P T (dl P ops T Q l) o F S → (if effOf ops k = true ∧ Region.wanted o (yielded ops (mk F).tmps) = true then oawp P o (mk F) S (fun a' S' => Lies T S' ∧ rl P ops T (effOf ops) (fun a st' => ∃ F', a = mk F' ∧ Q F' st') (List.range' (k + 1) l.length) a' S')
        else ∃ v, StillAt P ops o (mk F) T v ∧ rl P ops T (effOf ops) (fun a st' => ∃ F', a = mk F' ∧ Q F' st') (List.range' (k + 1) l.length) ((mk F).put o.dst v) S) := by
      intro hw h
      unfold runD at h
      split at h
      · rename_i hr
        rw [if_neg (by rw [he, hr]; simp)]
        obtain ⟨v, hv, hk⟩ := readK_ok h
        exact ⟨v, still_of hr hw hv, by rw [put_mk]; exact ih' _ _ hk⟩
      · rename_i hr
        rw [if_pos ⟨by rw [he]; simpa using hr, hw⟩]
        refine fop_sound (K := EffK T (dl P ops T Q l)) ?_ (fun F' st' ⟨h1, h2⟩ => ⟨h1, ih' _ _ h2⟩)
        exact opS_ok (stepV_ok _ (cont_ok h)) (fun v st' k => k) (fun _ st' k => k) (fun _ f args st' k => k)
    unfold dl at h
    cases hg : o.guard with
    | none => simp only [hg] at h; exact run (by simp [Region.wanted, hg]) h
    | some g =>
      obtain ⟨j, want⟩ := g
      simp only [hg] at h
      cases hv : gval ops F j with
      | none => rw [hv] at h; exact h.elim
      | some b =>
        rw [hv] at h
        simp only [guardK] at h
        by_cases hb : b = want
        · exact run (by simp [Region.wanted, hg, gval_mk, hv, hb]) (h.1 hb)
        · exact skip (by simp [Region.wanted, hg, gval_mk, hv, hb]) (h.2 hb)
/-- A region that draws its order, told in the text's. -/
theorem hwp_draw {P : Program} {id : Nat} {l : List Oper} {Q : Exit → FR → PH → Prop} {F : FR} {st : PH} (T : PH) (hm : P.follows .mixedOrders = true) (hok : (noSel l.toArray && regOK l.toArray (effOf l.toArray)) = true) (hT : Lies T st)
    (h : dl P l.toArray T (Q .normal) l F st) : hwp P (.region id l.toArray true) Q F st := by
  rw [Bool.and_eq_true] at hok
  refine fsem_draw (effOf l.toArray) T hm hok.1 hok.2 hT ?_
  have := dl_ok l 0 F st (fun j => by simp) h
  rw [List.range_eq_range']
  simpa using this
section
variable {P : Program} {T : PH} {Q : Exit → FR → PH → Prop} {F : FR} {st : PH} {ops : Array Oper} {K : FR → PH → Prop} {d : Option Tmp} {op : Op} {ty : TypeId} {pos : String} {af : Array Edge} {j : Nat} {w : Bool} {rest : List Oper}
theorem dl_nil : dl P ops T K [] F st = K F st := rfl
theorem dl_cons : dl P ops T K (⟨d, op, ty, pos, af, none⟩ :: rest) F st = runD P T (dl P ops T K rest) ⟨d, op, ty, pos, af, none⟩ F st := rfl
theorem dl_guard : dl P ops T K (⟨d, op, ty, pos, af, some (j, w)⟩ :: rest) F st = guardK (gval ops F j) w (runD P T (dl P ops T K rest) ⟨d, op, ty, pos, af, some (j, w)⟩) (skipOp (dl P ops T K rest) d) F st := rfl
theorem runD_def {g : Option (Nat × Bool)} : runD P T K ⟨d, op, ty, pos, af, g⟩ F st = if readB op = true then readK K d F st (stepV P F T op) else cont P st (EffK T K) d F (stepV P F st op) := rfl
theorem readK_val {v : Value} : readK K d F st (.val v) = K (put F d v) st := rfl
theorem readK_need {p : Prop} {v : Value} : readK K d F st (.need p v) = (p ∧ K (put F d v) st) := rfl
theorem readK_ov {v : Value} : readK K d F st (.ov (some v)) = K (put F d v) st := rfl
theorem effK_def : EffK T K F st = (Lies T st ∧ K F st) := rfl
end
end Go.Proofs.Ytnacpcbaiaakhaa.Ae
namespace Go.Proofs.Ytnacpcbaiaakhaa.Ae
open Go
/-- The call returns this, the part of the heap is as it was. -/
def Ret (P : Program) (f : FuncId) (args : List Value) (st : PH) (v : Value) : Prop := ACalls P f args.toArray st fun r s => r = v ∧ s = st
theorem Ret.next {P : Program} {f : FuncId} {args : List Value} {st : PH} {v : Value} {K : Value → PH → Prop} (h : Ret P f args st v) (hr : Real P f) (hk : K v st) : Real P f ∧ ACalls P f args.toArray st K :=
  ⟨hr, h.mono fun r s ⟨h1, h2⟩ => by rw [h1, h2]; exact hk⟩
theorem not_dec {p : Prop} [Decidable p] : (!decide p) = decide (¬ p) := by by_cases h : p <;> simp [h]
theorem gret1 {fn : Func} {t : Tmp} {R : Value → PH → Prop} {F : FR} {st : PH} (h : fn.results = #[.tmp t]) (k : R (F.getD t undef) st) : gret fn R .ret F st := by
  refine ⟨[F.getD t undef], by rw [h]; rfl, k⟩
theorem gret2 {fn : Func} {t u : Tmp} {R : Value → PH → Prop} {F : FR} {st : PH} (h : fn.results = #[.tmp t, .tmp u]) (k : R (.tuple #[F.getD t undef, F.getD u undef]) st) : gret fn R .ret F st := by
  refine ⟨[F.getD t undef, F.getD u undef], by rw [h]; rfl, k⟩
theorem gret3 {fn : Func} {t u x : Tmp} {R : Value → PH → Prop} {F : FR} {st : PH} (h : fn.results = #[.tmp t, .tmp u, .tmp x]) (k : R (.tuple #[F.getD t undef, F.getD u undef, F.getD x undef]) st) : gret fn R .ret F st := by
  refine ⟨[F.getD t undef, F.getD u undef, F.getD x undef], by rw [h]; rfl, k⟩
theorem below_of {st st' : PH} {W W' : World} (hs : Sub st W) (n : Next st W st' W') (hl : Lies st st') : Go.RowKit.Below W.heap.size W W' := by
  refine ⟨n.os, n.tape, n.output, n.size, fun i hi => ?_⟩
  cases e : st i with
  | none => exact (n.rest i hi e).2
  | some o => rw [n.sub i o (hl i o e), hs i o e]
/-- A law's call, its arguments being numbers. -/
theorem law_plain {P : Program} {f : FuncId} {args : Array Value} {W : World} (h : ACalls P f args (fun _ => none) fun v _ => v = .bool true) : Calls P f args W fun e W' => e = .returned (.bool true) ∧ Go.RowKit.Below W.heap.size W W' := by
  have hs : Sub (fun _ => none) W := fun r o e => by cases e
  refine (h W hs).mono fun e W' ⟨v, st', he, hv, n⟩ => ⟨by rw [he, hv], below_of hs n fun r o e => by cases e⟩
end Go.Proofs.Ytnacpcbaiaakhaa.Ae
