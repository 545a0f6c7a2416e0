/- The same precondition over a frame as a list, told along the code; its soundness; no condition. -/
import Derived.Test.YtfmfkablbaoofaaAeKillNodes
import Derived.Laws.Entries
set_option linter.unusedVariables false
namespace Go.Proofs.Ytfmfkablbaoofaa.Ae
open Go

abbrev FR := List Value
def mk (F : FR) : Act := ⟨F.toArray, []⟩
def ev (F : FR) : Operand → Value
  | .tmp t => F.getD t undef
  | .const v => v
  | .global g => .pointer (some ⟨g, 0, none⟩)
  | .func f => .func (.func f) #[] #[]
def put (F : FR) (d : Option Tmp) (v : Value) : FR :=
  match d with
  | some d => F.set d v
  | none => F
theorem ev_mk (F : FR) : (mk F).eval = ev F := by
  funext x
  cases x <;> simp [mk, Act.eval, ev]
theorem put_mk (F : FR) (d : Option Tmp) (v : Value) : (mk F).put d v = mk (put F d v) := by
  cases d <;> simp [mk, Act.put, put]
def gval (ops : Array Oper) (F : FR) (j : Nat) : Option Bool :=
  match ((ops[j]?).bind (·.dst)).bind (F[·]?) with
  | some (.bool b) => some b
  | _ => none
theorem gval_mk (ops : Array Oper) (F : FR) (j : Nat) : yielded ops (mk F).tmps j = gval ops F j := by
  unfold yielded gval mk
  simp only [List.getElem?_toArray]
  rfl

def fnext (P : Program) (d : Option Tmp) (F : FR) (K : FR → PH → Prop) : Go.Next → PH → Prop
  | .value v, st => K (put F d v) st
  | .skip, st => K (put F d undef) st
  | .enter f args, st => ACalls P f args st fun v st' => K (put F d v) st'
  | _, _ => False
def fop (P : Program) (o : Oper) (F : FR) (st : PH) (K : FR → PH → Prop) : Prop := swp P (execOp (ev F) o) st (fnext P o.dst F K)
def flawp (P : Program) (ops : Array Oper) (Q : FR → PH → Prop) : List Oper → FR → PH → Prop
  | [], F, st => Q F st
  | o :: rest, F, st =>
    match o.guard with
    | none => fop P o F st (flawp P ops Q rest)
    | some (j, want) => if gval ops F j = some want then fop P o F st (flawp P ops Q rest) else flawp P ops Q rest (put F o.dst undef) st
/-- A loop, or what else has no rule of its own here. -/
def FSem (P : Program) (c : Code) (Q : Exit → FR → PH → Prop) (F : FR) (st : PH) : Prop :=
  cwp P c (fun e a st' => ∃ F', a = mk F' ∧ Q e F' st') (mk F) st
def FThen (K : FR → PH → Prop) (Q : Exit → FR → PH → Prop) : Exit → FR → PH → Prop
  | .normal, F, st => K F st
  | e, F, st => Q e F st
def FBlock (id : Nat) (Q : Exit → FR → PH → Prop) : Exit → FR → PH → Prop
  | .exit id', F, st => if id' = id then Q .normal F st else Q (.exit id') F st
  | e, F, st => Q e F st
def onBool (v : Value) (K : Bool → Prop) : Prop :=
  match v with
  | .bool b => K b
  | _ => False
def fwp (P : Program) : Code → (Exit → FR → PH → Prop) → FR → PH → Prop
  | .skip, Q, F, st => Q .normal F st
  | .exit id, Q, F, st => Q (.exit id) F st
  | .ret, Q, F, st => Q .ret F st
  | .seq x y, Q, F, st => fwp P x (FThen (fwp P y Q) Q) F st
  | .cond c x y, Q, F, st => onBool (ev F c) fun b => (b = true → fwp P x Q F st) ∧ (b = false → fwp P y Q F st)
  | .block id c, Q, F, st => fwp P c (FBlock id Q) F st
  | .region _ ops false, Q, F, st => flawp P ops (Q .normal) ops.toList F st
  | c, Q, F, st => FSem P c Q F st

theorem fop_sound {P : Program} {o : Oper} {F : FR} {st : PH} {K : FR → PH → Prop} {K' : Act → PH → Prop} (h : fop P o F st K) (hk : ∀ F' st', K F' st' → K' (mk F') st') : oawp P o (mk F) st K' := by
  unfold oawp
  rw [ev_mk]
  refine swp_mono ?_ _ _ h
  intro n st' hn
  cases n <;> first
    | exact hn.elim
    | (simp only [nextwp, put_mk]; exact hk _ _ hn)
    | (simp only [nextwp, put_mk]; exact ACalls.mono hn fun _ _ h => hk _ _ h)
theorem flawp_sound {P : Program} {ops : Array Oper} {Q : FR → PH → Prop} {Q' : Act → PH → Prop} (hq : ∀ F st, Q F st → Q' (mk F) st) : ∀ (l : List Oper) (F : FR) (st : PH), flawp P ops Q l F st → lawp P ops Q' l (mk F) st := by
  intro l
  induction l with
  | nil => exact fun F st h => hq _ _ h
  | cons o l ih =>
    intro F st h
    unfold flawp at h
    unfold lawp
    cases hg : o.guard with
    | none =>
      simp only [hg] at h
      rw [if_pos (by simp [Region.wanted, hg])]
      exact fop_sound h ih
    | some g =>
      obtain ⟨j, want⟩ := g
      simp only [hg] at h
      simp only [Region.wanted, hg, gval_mk, beq_iff_eq]
      split
      · rename_i hw; rw [if_pos hw] at h; exact fop_sound h ih
      · rename_i hw; rw [if_neg hw] at h; rw [put_mk]; exact ih _ _ h
theorem fwp_sound {P : Program} : ∀ (c : Code) (Q : Exit → FR → PH → Prop) (F : FR) (st : PH), fwp P c Q F st → FSem P c Q F st := by
  intro c
  induction c with
  | skip => exact fun Q F st h => cwp_skip ⟨F, rfl, h⟩
  | exit id => exact fun Q F st h => cwp_exit ⟨F, rfl, h⟩
  | ret => exact fun Q F st h => cwp_ret ⟨F, rfl, h⟩
  | seq x y ihx ihy =>
    intro Q F st h
    refine cwp_seq (cwp_mono (ihx _ _ _ h) ?_)
    rintro e a st' ⟨F', rfl, hq⟩
    cases e with
    | normal => exact ihy _ _ _ hq
    | _ => exact ⟨F', rfl, hq⟩
  | cond c x y ihx ihy =>
    intro Q F st h
    simp only [fwp, onBool] at h
    split at h
    · rename_i b hb
      refine cwp_cond (t := b) (by rw [ev_mk]; exact hb) ?_
      cases b with
      | true => exact ihx _ _ _ (h.1 rfl)
      | false => exact ihy _ _ _ (h.2 rfl)
    · exact h.elim
  | block id c ih =>
    intro Q F st h
    refine cwp_block (cwp_mono (ih _ _ _ h) ?_)
    rintro e a st' ⟨F', rfl, hq⟩
    cases e with
    | exit id' =>
      simp only [InBlock]
      simp only [FBlock] at hq
      split
      · rename_i hid; rw [if_pos hid] at hq; exact ⟨F', rfl, hq⟩
      · rename_i hid; rw [if_neg hid] at hq; exact ⟨F', rfl, hq⟩
    | _ => exact ⟨F', rfl, hq⟩
  | region id ops draw =>
    intro Q F st h
    cases draw with
    | true => exact h
    | false => exact cwp_region (flawp_sound (fun F st h => ⟨F, rfl, h⟩) _ _ _ h)
  | _ => exact fun Q F st h => h

/-- A function's end. -/
def fret (P : Program) (fn : Func) (R : Value → PH → Prop) : Exit → FR → PH → Prop
  | .normal, F, st | .ret, F, st => qwp P (results fn F.toArray) st (fun v => R v st)
  | _, _, _ => False
end Go.Proofs.Ytfmfkablbaoofaa.Ae
