/- The model's code over a part of the heap: a weakest precondition that speaks of the owned blocks alone, and its soundness; no condition. -/
import Derived.Tactics
import Derived.LoopN
import Derived.Below
set_option linter.unusedVariables false
namespace Go.Proofs.Ytfmfkablbaoofaa.Ae
open Go

/-! ### a part of a heap -/
abbrev PH := Nat → Option Obj
def PH.upd (st : PH) (r : Nat) (o : Obj) : PH := fun i => if i = r then some o else st i
def PH.cell? (st : PH) (a : Addr) : Option Value :=
  match st a.block with
  | some (.cells c _ _) => if a.spot.isSome then none else c[a.off]?
  | _ => none
def PH.shape? (st : PH) (r : Nat) : Option (TypeId × Nat) :=
  match st r with
  | some (.cells c e _) => some (e, c.size)
  | _ => none
def PH.frozen? (st : PH) (a : Addr) : Bool :=
  match st a.block with
  | some (.cells _ _ (lo, hi)) => lo ≤ a.off && a.off < hi
  | _ => false
def PH.setCell (st : PH) (a : Addr) (v : Value) : PH :=
  match st a.block with
  | some (.cells c e f) => st.upd a.block (.cells (if a.spot.isSome then c else c.setIfInBounds a.off v) e f)
  | _ => st
def Obj.isCells : Obj → Bool
  | .cells .. => true
  | _ => false
def Value.oneCell : Value → Bool
  | .agg _ | .tuple _ => false
  | _ => true

/-- The part lies in the world. -/
def Sub (st : PH) (w : World) : Prop := ∀ r o, st r = some o → w.heap[r]? = some o
/-- From one part and world to another: what isn't of the part stays. -/
structure Next (st : PH) (w : World) (st' : PH) (w' : World) : Prop where
  sub : Sub st' w'
  os : w'.os = w.os
  tape : w'.tape = w.tape
  output : w'.output = w.output
  drawn : w.drawn ≤ w'.drawn
  size : w.heap.size ≤ w'.heap.size
  rest : ∀ i, i < w.heap.size → st i = none → st' i = none ∧ w'.heap[i]? = w.heap[i]?

theorem Sub.lt {st : PH} {w : World} (h : Sub st w) {r : Nat} {o : Obj} (e : st r = some o) : r < w.heap.size := by
  have := h r o e
  exact (Array.getElem?_eq_some_iff.1 this).1
theorem Next.refl {st : PH} {w : World} (h : Sub st w) : Next st w st w := ⟨h, rfl, rfl, rfl, Nat.le_refl _, Nat.le_refl _, fun _ _ h => ⟨h, rfl⟩⟩
theorem Next.trans {st st1 st2 : PH} {w w1 w2 : World} (h : Next st w st1 w1) (k : Next st1 w1 st2 w2) : Next st w st2 w2 :=
  ⟨k.sub, k.os.trans h.os, k.tape.trans h.tape, k.output.trans h.output, Nat.le_trans h.drawn k.drawn, Nat.le_trans h.size k.size, fun i hi e => by
    obtain ⟨e1, h1⟩ := h.rest i hi e
    obtain ⟨e2, h2⟩ := k.rest i (Nat.lt_of_lt_of_le hi h.size) e1
    exact ⟨e2, h2.trans h1⟩⟩
theorem Next.shrink {st st1 st2 : PH} {w w1 : World} (h : Next st w st1 w1) (k : ∀ r o, st2 r = some o → st1 r = some o) : Next st w st2 w1 :=
  ⟨fun r o e => h.sub r o (k r o e), h.os, h.tape, h.output, h.drawn, h.size, fun i hi e => by
    obtain ⟨e1, h1⟩ := h.rest i hi e
    refine ⟨?_, h1⟩
    cases e2 : st2 i with
    | none => rfl
    | some o => rw [k i o e2] at e1; cases e1⟩
theorem Next.widen {st st1 st2 : PH} {w w1 : World} (h : Next st1 w st2 w1) (k : ∀ r o, st1 r = some o → st r = some o) : Next st w st2 w1 :=
  ⟨h.sub, h.os, h.tape, h.output, h.drawn, h.size, fun i hi e => h.rest i hi (by
    cases e1 : st1 i with
    | none => rfl
    | some o => rw [k i o e1] at e; cases e)⟩

/-! ### what the model's actions do there -/
def awp (P : Program) {α : Type} : Sem α → PH → (α → PH → Prop) → Prop
  | .pure a, st, Q => Q a st
  | .load _ a k, st, Q => ∃ v, st.cell? a = some v ∧ awp P (k v) st Q
  | .store _ a v k, st, Q => (st.cell? a).isSome = true ∧ st.frozen? a = false ∧ Value.oneCell v = true ∧ awp P k (st.setCell a v) Q
  | .new o k, st, Q => ∀ r, st r = none → awp P (k r) (st.upd r o) Q
  | .shape r k, st, Q => (st r).isSome = true ∧ awp P (k (st.shape? r)) st Q
  | .freeze _ _ _, _, _ => False
  | .frozen a k, st, Q => (st a.block).isSome = true ∧ awp P (k (st.frozen? a)) st Q
  | .getObj r k, st, Q => ∃ o, st r = some o ∧ Obj.isCells o = false ∧ awp P (k o) st Q
  | .setObj r o k, st, Q => ∃ o', st r = some o' ∧ Obj.isCells o' = false ∧ awp P k (st.upd r o) Q
  | .choose q k, st, Q => if q.forced then awp P (k 0) st Q else ∀ t, awp P (k (q.cut t)) st Q
  | .sys _ _, _, _ => False
  | .program k, st, Q => awp P (k P) st Q
  | .mark _ k, st, Q => awp P k st Q
  | .halt _, _, _ => False

theorem awp_mono {P : Program} {α : Type} {Q Q' : α → PH → Prop} (hq : ∀ a st, Q a st → Q' a st) : ∀ (s : Sem α) (st : PH), awp P s st Q → awp P s st Q' := by
  intro s
  induction s with
  | pure a => exact fun st h => hq _ _ h
  | load m a k ih => exact fun st ⟨v, h, h2⟩ => ⟨v, h, ih v st h2⟩
  | store m a v k ih => exact fun st ⟨h1, h2, h3, h4⟩ => ⟨h1, h2, h3, ih _ h4⟩
  | new o k ih => exact fun st h r hr => ih r _ (h r hr)
  | shape r k ih => exact fun st ⟨h1, h2⟩ => ⟨h1, ih _ _ h2⟩
  | freeze a n k ih => exact fun st h => h
  | frozen a k ih => exact fun st ⟨h1, h2⟩ => ⟨h1, ih _ _ h2⟩
  | getObj r k ih => exact fun st ⟨o, h1, h2, h3⟩ => ⟨o, h1, h2, ih _ _ h3⟩
  | setObj r o k ih => exact fun st ⟨o', h1, h2, h3⟩ => ⟨o', h1, h2, ih _ h3⟩
  | choose q k ih =>
    intro st h
    unfold awp at h ⊢
    split
    · rename_i hf; rw [if_pos hf] at h; exact ih _ _ h
    · rename_i hf; rw [if_neg hf] at h; exact fun t => ih _ _ (h t)
  | sys c k ih => exact fun st h => h
  | program k ih => exact fun st h => ih _ _ h
  | mark m k ih => exact fun st h => ih _ h
  | halt h => exact fun st h => h

theorem awp_bind {P : Program} {α β : Type} (s : Sem α) (f : α → Sem β) (Q : β → PH → Prop) : ∀ st, awp P (s >>= f) st Q = awp P s st (fun x st' => awp P (f x) st' Q) := by
  show ∀ st, awp P (Sem.bind s f) st Q = _
  induction s with
  | pure a => intro st; rfl
  | load m a k ih => intro st; simp only [Sem.bind, awp, ih]
  | store m a v k ih => intro st; simp only [Sem.bind, awp, ih]
  | new o k ih => intro st; simp only [Sem.bind, awp, ih]
  | shape r k ih => intro st; simp only [Sem.bind, awp, ih]
  | freeze a n k ih => intro st; simp only [Sem.bind, awp]
  | frozen a k ih => intro st; simp only [Sem.bind, awp, ih]
  | getObj r k ih => intro st; simp only [Sem.bind, awp, ih]
  | setObj r o k ih => intro st; simp only [Sem.bind, awp, ih]
  | choose q k ih => intro st; simp only [Sem.bind, awp, ih]
  | sys c k ih => intro st; simp only [Sem.bind, awp]
  | program k ih => intro st; simp only [Sem.bind, awp, ih]
  | mark m k ih => intro st; simp only [Sem.bind, awp, ih]
  | halt h => intro st; simp only [Sem.bind, awp]

section
variable {st : PH} {w : World} (hs : Sub st w)
include hs
theorem Sub.cell {a : Addr} {v : Value} (h : st.cell? a = some v) : w.cell? a = some v := by
  unfold PH.cell? at h
  cases e : st a.block with
  | none => rw [e] at h; cases h
  | some o =>
    rw [e] at h
    have := hs _ _ e
    unfold World.cell?
    rw [this]
    exact h
theorem Sub.frozen {a : Addr} (h : (st a.block).isSome = true) : w.frozen? a = st.frozen? a := by
  obtain ⟨o, e⟩ := Option.isSome_iff_exists.1 h
  have := hs _ _ e
  unfold World.frozen? PH.frozen?
  rw [this, e]
  rfl
theorem Sub.shape {r : Nat} (h : (st r).isSome = true) : w.shape? r = st.shape? r := by
  obtain ⟨o, e⟩ := Option.isSome_iff_exists.1 h
  have := hs _ _ e
  unfold World.shape? PH.shape?
  rw [this, e]
  rfl
theorem Next.new (o : Obj) : Next st w (st.upd w.heap.size o) { w with heap := w.heap.push o } := by
  refine ⟨fun r o' e => ?_, rfl, rfl, rfl, Nat.le_refl _, by simp, fun i hi e => ⟨?_, ?_⟩⟩
  · unfold PH.upd at e
    show (w.heap.push o)[r]? = some o'
    by_cases hr : r = w.heap.size
    · rw [if_pos hr] at e; subst hr; rw [← e]; simp
    · rw [if_neg hr] at e
      have := hs.lt e
      rw [Array.getElem?_push, if_neg hr]
      exact hs r o' e
  · unfold PH.upd; rw [if_neg (by omega)]; exact e
  · show (w.heap.push o)[i]? = _
    rw [Array.getElem?_push, if_neg (by omega)]
theorem fresh_none : st w.heap.size = none := by
  cases e : st w.heap.size with
  | none => rfl
  | some o => exact absurd (hs.lt e) (by omega)
theorem Next.setObj {r : Nat} {o o' : Obj} (e : st r = some o') : Next st w (st.upd r o) { w with heap := w.heap.setIfInBounds r o } := by
  have hlt := hs.lt e
  refine ⟨fun i p hp => ?_, rfl, rfl, rfl, Nat.le_refl _, by simp, fun i hi hn => ⟨?_, ?_⟩⟩
  · unfold PH.upd at hp
    show (w.heap.setIfInBounds r o)[i]? = some p
    rw [Array.getElem?_setIfInBounds]
    by_cases hr : i = r
    · subst hr; rw [if_pos rfl] at hp; rw [if_pos rfl, if_pos hlt]; exact hp
    · rw [if_neg hr] at hp; rw [if_neg (fun h => hr h.symm)]; exact hs i p hp
  · unfold PH.upd; rw [if_neg (by rintro rfl; rw [hn] at e; cases e)]; exact hn
  · show (w.heap.setIfInBounds r o)[i]? = _
    rw [Array.getElem?_setIfInBounds, if_neg (by rintro rfl; rw [hn] at e; cases e)]
theorem Next.setCell {a : Addr} {v : Value} (h : (st.cell? a).isSome = true) : Next st w (st.setCell a v) (w.setCell a v) := by
  obtain ⟨u, hu⟩ := Option.isSome_iff_exists.1 h
  unfold PH.cell? at hu
  split at hu
  · rename_i c e f he
    have h1 := hs _ _ he
    have hlt := hs.lt he
    refine ⟨fun i p hp => ?_, rfl, rfl, rfl, Nat.le_refl _, by simp [World.setCell], fun i hi hn => ⟨?_, ?_⟩⟩
    · unfold PH.setCell at hp
      rw [he] at hp
      simp only [PH.upd] at hp
      simp only [World.setCell, Array.getElem?_modify]
      by_cases hr : i = a.block
      · subst hr
        rw [if_pos rfl] at hp
        rw [if_pos rfl, h1, ← hp]; rfl
      · rw [if_neg hr] at hp
        rw [if_neg (fun h => hr h.symm)]
        exact hs i p hp
    · unfold PH.setCell; rw [he]; simp only [PH.upd]
      rw [if_neg (by rintro rfl; rw [hn] at he; cases he)]; exact hn
    · simp only [World.setCell, Array.getElem?_modify]
      rw [if_neg (by rintro rfl; rw [hn] at he; cases he)]
  · cases hu
end

theorem awp_sound {P : Program} {α : Type} {Q : α → PH → Prop} : ∀ (s : Sem α) (st : PH) (w : World), awp P s st Q → Sub st w →
    ∃ x st' w', s.run P w = .ok x w' ∧ Q x st' ∧ Next st w st' w' := by
  intro s
  induction s with
  | pure a => exact fun st w h hs => ⟨a, st, w, rfl, h, Next.refl hs⟩
  | load m a k ih =>
    rintro st w ⟨v, h, h2⟩ hs
    obtain ⟨x, st', w', hr, hq, hn⟩ := ih v st w h2 hs
    exact ⟨x, st', w', by simp only [Sem.run, hs.cell h]; exact hr, hq, hn⟩
  | store m a v k ih =>
    rintro st w ⟨h1, h2, h3, h4⟩ hs
    have hn := Next.setCell (v := v) hs h1
    obtain ⟨x, st', w', hr, hq, hn'⟩ := ih _ _ h4 hn.sub
    refine ⟨x, st', w', ?_, hq, hn.trans hn'⟩
    obtain ⟨u, hu⟩ := Option.isSome_iff_exists.1 h1
    have hb : (st a.block).isSome = true := by
      unfold PH.cell? at hu
      cases e : st a.block with
      | none => rw [e] at hu; cases hu
      | some o => rfl
    have hf := (hs.frozen hb).trans h2
    have hc := hs.cell hu
    cases v <;> first | (simp [Value.oneCell] at h3; done) | (simp only [Sem.run, hc, hf]; exact hr)
  | new o k ih =>
    rintro st w h hs
    have hn := Next.new hs o
    obtain ⟨x, st', w', hr, hq, hn'⟩ := ih _ _ _ (h _ (fresh_none hs)) hn.sub
    exact ⟨x, st', w', hr, hq, hn.trans hn'⟩
  | shape r k ih =>
    rintro st w ⟨h1, h2⟩ hs
    obtain ⟨x, st', w', hr, hq, hn⟩ := ih _ st w h2 hs
    exact ⟨x, st', w', by simp only [Sem.run, hs.shape h1]; exact hr, hq, hn⟩
  | freeze a n k ih => exact fun st w h hs => h.elim
  | frozen a k ih =>
    rintro st w ⟨h1, h2⟩ hs
    obtain ⟨x, st', w', hr, hq, hn⟩ := ih _ st w h2 hs
    exact ⟨x, st', w', by simp only [Sem.run, hs.frozen h1]; exact hr, hq, hn⟩
  | getObj r k ih =>
    rintro st w ⟨o, h1, h2, h3⟩ hs
    obtain ⟨x, st', w', hr, hq, hn⟩ := ih _ st w h3 hs
    refine ⟨x, st', w', ?_, hq, hn⟩
    have := hs _ _ h1
    cases o <;> first | (simp [Obj.isCells] at h2; done) | (simp only [Sem.run, this]; exact hr)
  | setObj r o k ih =>
    rintro st w ⟨o', h1, h2, h3⟩ hs
    have hn := Next.setObj (o := o) hs h1
    obtain ⟨x, st', w', hr, hq, hn'⟩ := ih _ _ h3 hn.sub
    refine ⟨x, st', w', ?_, hq, hn.trans hn'⟩
    have := hs _ _ h1
    cases o' <;> first | (simp [Obj.isCells] at h2; done) | (simp only [Sem.run, this]; exact hr)
  | choose q k ih =>
    intro st w h hs
    unfold awp at h
    by_cases hf : q.forced = true
    · rw [if_pos hf] at h
      obtain ⟨x, st', w', hr, hq, hn⟩ := ih _ st w h hs
      exact ⟨x, st', w', by simp only [Sem.run, hf, if_true]; exact hr, hq, hn⟩
    · rw [if_neg hf] at h
      obtain ⟨x, st', w', hr, hq, hn⟩ := ih _ st { w with drawn := w.drawn + 1 } (h (w.tape w.drawn q)) hs
      exact ⟨x, st', w', by simp only [Sem.run, hf]; exact hr, hq, ⟨hn.sub, hn.os, hn.tape, hn.output, Nat.le_trans (Nat.le_succ _) hn.drawn, hn.size, hn.rest⟩⟩
  | sys c k ih => exact fun st w h hs => h.elim
  | program k ih => exact fun st w h hs => ih _ st w h hs
  | mark m k ih => exact fun st w h hs => ih st w h hs
  | halt h => exact fun st w h hs => h.elim

/-! ### calls, operations, code -/
/-- The call returns, from any world that has this part. -/
def ACalls (P : Program) (f : FuncId) (args : Array Value) (st : PH) (R : Value → PH → Prop) : Prop :=
  ∀ w, Sub st w → Calls P f args w fun e w' => ∃ v st', e = .returned v ∧ R v st' ∧ Next st w st' w'
def nextwp (P : Program) (o : Oper) (a : Act) (K : Act → PH → Prop) : Go.Next → PH → Prop
  | .value v, st => K (a.put o.dst v) st
  | .skip, st => K (a.put o.dst undef) st
  | .enter f args, st => ACalls P f args st fun v st' => K (a.put o.dst v) st'
  | _, _ => False
/-- From any world that has this part: what isn't needed may be forgotten. -/
def swp (P : Program) {α : Type} (s : Sem α) (st : PH) (Q : α → PH → Prop) : Prop := ∀ w, Sub st w → ∃ x st' w', s.run P w = .ok x w' ∧ Q x st' ∧ Next st w st' w'
theorem swp_mono {P : Program} {α : Type} {Q Q' : α → PH → Prop} (hq : ∀ a st, Q a st → Q' a st) (s : Sem α) (st : PH) (h : swp P s st Q) : swp P s st Q' :=
  fun w hs => by obtain ⟨x, st', w', hr, q, n⟩ := h w hs; exact ⟨x, st', w', hr, hq _ _ q, n⟩
theorem swp_of_awp {P : Program} {α : Type} {Q : α → PH → Prop} {s : Sem α} {st : PH} (h : awp P s st Q) : swp P s st Q := fun w hs => awp_sound _ _ _ h hs
theorem swp_bind {P : Program} {α β : Type} {s : Sem α} {f : α → Sem β} {st : PH} {Q : β → PH → Prop} (h : swp P s st fun x st' => swp P (f x) st' Q) : swp P (s >>= f) st Q :=
  fun w hs => by
    obtain ⟨x, st', w', hr, q, n⟩ := h w hs
    obtain ⟨y, st2, w2, hr2, q2, n2⟩ := q w' n.sub
    exact ⟨y, st2, w2, by rw [Sem.run_bind, hr]; exact hr2, q2, n.trans n2⟩
theorem swp_pure {P : Program} {α : Type} {a : α} {st : PH} {Q : α → PH → Prop} (h : Q a st) : swp P (pure a) st Q := fun w hs => ⟨a, st, w, rfl, h, Next.refl hs⟩
def oawp (P : Program) (o : Oper) (a : Act) (st : PH) (K : Act → PH → Prop) : Prop := swp P (execOp a.eval o) st (nextwp P o a K)
def lawp (P : Program) (ops : Array Oper) (Q : Act → PH → Prop) : List Oper → Act → PH → Prop
  | [], a, st => Q a st
  | o :: rest, a, st => if Region.wanted o (yielded ops a.tmps) then oawp P o a st (lawp P ops Q rest) else lawp P ops Q rest (a.put o.dst undef) st
def cwp (P : Program) (c : Code) (Q : Exit → Act → PH → Prop) (a : Act) (st : PH) : Prop :=
  ∀ w, Sub st w → c.wp P (fun e a' w' => ∃ st', Q e a' st' ∧ Next st w st' w') a w

theorem ACalls.mono {P : Program} {f : FuncId} {args : Array Value} {st : PH} {R R' : Value → PH → Prop} (h : ACalls P f args st R) (k : ∀ v st', R v st' → R' v st') : ACalls P f args st R' :=
  fun w hs => (h w hs).mono fun _ _ ⟨v, st', e, r, n⟩ => ⟨v, st', e, k _ _ r, n⟩
/-- What a call has made, and nobody needs, is forgotten. -/
theorem ACalls.forget {P : Program} {f : FuncId} {args : Array Value} {st : PH} {R R' : Value → PH → Prop} (h : ACalls P f args st R)
    (k : ∀ v st', R v st' → ∃ st2, (∀ r o, st2 r = some o → st' r = some o) ∧ R' v st2) : ACalls P f args st R' :=
  fun w hs => (h w hs).mono fun _ _ ⟨v, st', e, r, n⟩ => by
    obtain ⟨st2, hsub, r2⟩ := k _ _ r
    exact ⟨v, st2, e, r2, n.shrink hsub⟩
theorem nextwp_mono {P : Program} {o : Oper} {a : Act} {K K' : Act → PH → Prop} (h : ∀ a st, K a st → K' a st) : ∀ n st, nextwp P o a K n st → nextwp P o a K' n st := by
  intro n st hn
  cases n <;> first | exact hn.elim | exact h _ _ hn | exact ACalls.mono hn fun _ _ => h _ _
theorem oawp_mono {P : Program} {o : Oper} {a : Act} {st : PH} {K K' : Act → PH → Prop} (h : ∀ a st, K a st → K' a st) (k : oawp P o a st K) : oawp P o a st K' :=
  swp_mono (nextwp_mono h) _ _ k
theorem lawp_mono {P : Program} {ops : Array Oper} {Q Q' : Act → PH → Prop} (h : ∀ a st, Q a st → Q' a st) : ∀ l a st, lawp P ops Q l a st → lawp P ops Q' l a st := by
  intro l
  induction l with
  | nil => exact fun a st k => h _ _ k
  | cons o l ih =>
    intro a st k
    unfold lawp at k ⊢
    split
    · rename_i hw; rw [if_pos hw] at k; exact oawp_mono ih k
    · rename_i hw; rw [if_neg hw] at k; exact ih _ _ k
theorem oawp_sound {P : Program} {o : Oper} {a : Act} {st : PH} {K : Act → PH → Prop} {K' : Act → World → Prop} {Q : Exit → Act → World → Prop} {w : World}
    (h : oawp P o a st K) (hs : Sub st w) (hk : ∀ a' st' w', K a' st' → Next st w st' w' → K' a' w') : o.wp P a w K' Q := by
  obtain ⟨x, st', w', hr, hq, hn⟩ := h _ hs
  unfold Oper.wp
  rw [hr]
  cases x <;> first
    | exact hq.elim
    | exact hk _ _ _ hq hn
    | exact (hq w' hn.sub).mono fun e w2 ⟨v, st2, he, hk2, hn2⟩ => by subst he; exact hk _ _ _ hk2 (hn.trans hn2)
theorem lawp_sound {P : Program} {ops : Array Oper} {K : Act → PH → Prop} {Q : Exit → Act → World → Prop} : ∀ (l : List Oper) (a : Act) (st : PH) (w : World), lawp P ops K l a st → Sub st w →
    (∀ a' st' w', K a' st' → Next st w st' w' → Q .normal a' w') → wpList P ops Q l a w := by
  intro l
  induction l with
  | nil => exact fun a st w h hs hk => hk _ _ _ h (Next.refl hs)
  | cons o l ih =>
    intro a st w h hs hk
    unfold lawp at h
    unfold wpList
    split
    · rename_i hw
      rw [if_pos hw] at h
      exact .inl (oawp_sound h hs fun a' st' w' hl hn => ih a' st' w' hl hn.sub fun a2 st2 w2 k2 n2 => hk _ _ _ k2 (hn.trans n2))
    · rename_i hw
      rw [if_neg hw] at h
      exact ih _ _ _ h hs hk

section
variable {P : Program} {Q : Exit → Act → PH → Prop} {a : Act} {st : PH}
theorem cwp_mono {c : Code} {Q' : Exit → Act → PH → Prop} (h : cwp P c Q a st) (k : ∀ e a st, Q e a st → Q' e a st) : cwp P c Q' a st :=
  fun w hs => wp_mono (h w hs) fun _ _ _ ⟨st', q, n⟩ => ⟨st', k _ _ _ q, n⟩
/-- What isn't needed any more is forgotten. -/
theorem cwp_forget {c : Code} {st2 : PH} (hsub : ∀ r o, st2 r = some o → st r = some o) (h : cwp P c Q a st2) : cwp P c Q a st :=
  fun w hs => wp_mono (h w fun r o e => hs r o (hsub r o e)) fun _ _ _ ⟨st', q, n⟩ => ⟨st', q, n.widen hsub⟩
theorem cwp_skip (h : Q .normal a st) : cwp P .skip Q a st := fun w hs => wp_skip ⟨st, h, Next.refl hs⟩
theorem cwp_exit {id : Nat} (h : Q (.exit id) a st) : cwp P (.exit id) Q a st := fun w hs => wp_exit ⟨st, h, Next.refl hs⟩
theorem cwp_ret (h : Q .ret a st) : cwp P .ret Q a st := fun w hs => wp_ret ⟨st, h, Next.refl hs⟩
/-- What follows, and the other ends. -/
def Then (K : Act → PH → Prop) (Q : Exit → Act → PH → Prop) : Exit → Act → PH → Prop
  | .normal, a, st => K a st
  | e, a, st => Q e a st
theorem cwp_seq {x y : Code} (h : cwp P x (Then (cwp P y Q) Q) a st) : cwp P (.seq x y) Q a st := by
  intro w hs
  refine wp_seq (wp_mono (h w hs) fun e a' w' ⟨st', q, n⟩ => ?_)
  cases e with
  | normal => exact wp_mono (q w' n.sub) fun e2 a2 w2 ⟨st2, q2, n2⟩ => ⟨st2, q2, n.trans n2⟩
  | _ => exact ⟨st', q, n⟩
theorem cwp_cond {c : Operand} {x y : Code} {t : Bool} (hc : a.eval c = .bool t) (h : cwp P (if t then x else y) Q a st) : cwp P (.cond c x y) Q a st :=
  fun w hs => wp_cond hc (h w hs)
def InBlock (id : Nat) (Q : Exit → Act → PH → Prop) : Exit → Act → PH → Prop
  | .exit id', a, st => if id' = id then Q .normal a st else Q (.exit id') a st
  | e, a, st => Q e a st
theorem cwp_block {id : Nat} {c : Code} (h : cwp P c (InBlock id Q) a st) : cwp P (.block id c) Q a st := by
  intro w hs
  refine wp_block (wp_mono (h w hs) fun e a' w' ⟨st', q, n⟩ => ?_)
  cases e with
  | exit id' =>
    simp only [InBlock] at q
    simp only [Exit.inBlock]
    split
    · rename_i hid; rw [if_pos hid] at q; exact ⟨st', q, n⟩
    · rename_i hid; rw [if_neg hid] at q; exact ⟨st', q, n⟩
  | _ => exact ⟨st', q, n⟩
theorem cwp_region {id : Nat} {ops : Array Oper} (h : lawp P ops (Q .normal) ops.toList a st) : cwp P (.region id ops false) Q a st :=
  fun w hs => wp_region_list (lawp_sound _ _ _ _ h hs fun a' st' w' k n => ⟨st', k, n⟩)
/-- A loop, by an invariant and a measure. -/
theorem cwp_loop {c : Code} (I : Nat → Act → PH → Prop) (n : Nat) (h0 : I n a st)
    (round : ∀ n a st, I n a st → cwp P c (Then (fun a' st' => ∃ m, m < n ∧ I m a' st') Q) a st) : cwp P (.loop c) Q a st := by
  intro w hs
  have key : ∀ m n a' st' w', n < m → I n a' st' → Next st w st' w' → Code.rounds P c (fun e a2 w2 => ∃ st2, Q e a2 st2 ∧ Next st w st2 w2) m a' w' := by
    intro m
    induction m with
    | zero => exact fun n a' st' w' h => absurd h (by omega)
    | succ m ih =>
      intro n a' st' w' hlt hI hn
      rw [rounds_succ]
      refine wp_mono (round n a' st' hI w' hn.sub) fun e a2 w2 ⟨st2, q, n2⟩ => ?_
      cases e with
      | normal =>
        obtain ⟨k, hk, hI2⟩ := q
        exact ih k a2 st2 w2 (by omega) hI2 (hn.trans n2)
      | _ => exact ⟨st2, q, hn.trans n2⟩
  exact wp_loop_rounds (n + 1) (key (n + 1) n a st w (by omega) h0 (Next.refl hs))
end

/-- What the model's actions read there, nothing being written or made. -/
def qwp (P : Program) {α : Type} : Sem α → PH → (α → Prop) → Prop
  | .pure a, _, Q => Q a
  | .load _ a k, st, Q => ∃ v, st.cell? a = some v ∧ qwp P (k v) st Q
  | .shape r k, st, Q => (st r).isSome = true ∧ qwp P (k (st.shape? r)) st Q
  | .frozen a k, st, Q => (st a.block).isSome = true ∧ qwp P (k (st.frozen? a)) st Q
  | .getObj r k, st, Q => ∃ o, st r = some o ∧ Obj.isCells o = false ∧ qwp P (k o) st Q
  | .program k, st, Q => qwp P (k P) st Q
  | .mark _ k, st, Q => qwp P k st Q
  | _, _, _ => False
theorem qwp_sound {P : Program} {α : Type} {Q : α → Prop} : ∀ (s : Sem α) (st : PH) (w : World), qwp P s st Q → Sub st w → ∃ x, s.run P w = .ok x w ∧ Q x := by
  intro s
  induction s with
  | pure a => exact fun st w h _ => ⟨a, rfl, h⟩
  | load m a k ih =>
    rintro st w ⟨v, h, h2⟩ hs
    obtain ⟨x, hr, hq⟩ := ih v st w h2 hs
    exact ⟨x, by simp only [Sem.run, hs.cell h]; exact hr, hq⟩
  | shape r k ih =>
    rintro st w ⟨h1, h2⟩ hs
    obtain ⟨x, hr, hq⟩ := ih _ st w h2 hs
    exact ⟨x, by simp only [Sem.run, hs.shape h1]; exact hr, hq⟩
  | frozen a k ih =>
    rintro st w ⟨h1, h2⟩ hs
    obtain ⟨x, hr, hq⟩ := ih _ st w h2 hs
    exact ⟨x, by simp only [Sem.run, hs.frozen h1]; exact hr, hq⟩
  | getObj r k ih =>
    rintro st w ⟨o, h1, h2, h3⟩ hs
    obtain ⟨x, hr, hq⟩ := ih _ st w h3 hs
    refine ⟨x, ?_, hq⟩
    have := hs _ _ h1
    cases o <;> first | (simp [Obj.isCells] at h2; done) | (simp only [Sem.run, this]; exact hr)
  | program k ih => exact fun st w h hs => ih _ st w h hs
  | mark m k ih => exact fun st w h hs => ih st w h hs
  | _ => exact fun st w h _ => h.elim
theorem qwp_bind {P : Program} {α β : Type} (s : Sem α) (f : α → Sem β) (Q : β → Prop) : ∀ st, qwp P (s >>= f) st Q = qwp P s st (fun x => qwp P (f x) st Q) := by
  show ∀ st, qwp P (Sem.bind s f) st Q = _
  induction s with
  | pure a => intro st; rfl
  | load m a k ih => intro st; simp only [Sem.bind, qwp, ih]
  | shape r k ih => intro st; simp only [Sem.bind, qwp, ih]
  | frozen a k ih => intro st; simp only [Sem.bind, qwp, ih]
  | getObj r k ih => intro st; simp only [Sem.bind, qwp, ih]
  | program k ih => intro st; simp only [Sem.bind, qwp, ih]
  | mark m k ih => intro st; simp only [Sem.bind, qwp, ih]
  | _ => intro st; simp only [Sem.bind, qwp]

/-- A function's end. -/
def abody (P : Program) (fn : Func) (R : Value → PH → Prop) : Exit → Act → PH → Prop
  | .normal, a, st | .ret, a, st => a.defers = [] ∧ qwp P (results fn a.tmps) st (fun v => R v st)
  | _, _, _ => False
theorem acalls_of_cwp {P : Program} {f : FuncId} {fn : Func} {c : Code} {args : Array Value} {st : PH} {R : Value → PH → Prop}
    (hf : P.funcs[f]? = some fn) (hb : fn.body = some c)
    (h : cwp P c (abody P fn R) { tmps := args ++ Array.replicate (fn.ntmps - args.size) undef, defers := [] } st) : ACalls P f args st R := by
  intro w hs
  refine calls_of_wp hf hb (wp_mono (h w hs) fun e a' w' ⟨st', q, n⟩ => ?_)
  cases e <;> first
    | exact q.elim
    | (obtain ⟨hd, hq⟩ := q
       obtain ⟨v, hr, hv⟩ := qwp_sound _ _ _ hq n.sub
       exact ⟨hd, v, hr, v, st', rfl, hv, n⟩)
end Go.Proofs.Ytfmfkablbaoofaa.Ae
