/- A region that draws its order: whatever order its edges allow comes to what the text's order comes to, if what only reads reads what nothing in the region turns; no condition beyond the ones that the theorem names. -/
import Derived.Test.YtfmfkablbaoofaaAhKillNodes
import Derived.Orders
set_option linter.unusedVariables false
set_option linter.unusedSimpArgs false
namespace Go.Proofs.Ytfmfkablbaoofaa.Ae
open Go

/-- An operation that only reads: it yields v wherever T lies. -/
def StillAt (P : Program) (ops : Array Oper) (o : Oper) (a : Act) (T : PH) (v : Value) : Prop :=
  (Region.wanted o (yielded ops a.tmps) = true ∧ ∀ w, Sub T w → ∃ w', (execOp a.eval o).run P w = .ok (.value v) w' ∧ Next T w T w') ∨ (Region.wanted o (yielded ops a.tmps) = false ∧ v = undef)
def Lies (T S : PH) : Prop := ∀ r o, T r = some o → S r = some o
theorem Lies.refl (T : PH) : Lies T T := fun _ _ h => h
theorem Lies.sub {T S : PH} {w : World} (h : Lies T S) (hs : Sub S w) : Sub T w := fun r o e => hs r o (h r o e)
theorem Next.frame {T S : PH} {w w' : World} (n : Next T w T w') (hT : Lies T S) (hs : Sub S w) : Next S w S w' := by
  refine ⟨fun r o e => ?_, n.os, n.tape, n.output, n.drawn, n.size, fun i hi e => ⟨e, ?_⟩⟩
  · cases e1 : T r with
    | none => rw [(n.rest r (hs.lt e) e1).2]; exact hs r o e
    | some o' =>
      have := hT r o' e1
      rw [this] at e
      injection e with e
      subst e
      exact n.sub r o' e1
  · cases e1 : T i with
    | none => exact (n.rest i hi e1).2
    | some o' => rw [hT i o' e1] at e; cases e
def blk : Value → Option Nat
  | .pointer (some a) => some a.block
  | .slice (some a) _ _ => some a.block
  | _ => none
/-- An operation that makes one new block. -/
def IsNew (P : Program) (s : Sem Go.Next) (ob : Obj) (f : Nat → Value) : Prop :=
  (∀ r, blk (f r) = some r) ∧ ∀ w : World, ∃ r w', w.heap.size ≤ r ∧ s.run P w = .ok (.value (f r)) w' ∧ (∀ i, i < w.heap.size → w'.heap[i]? = w.heap[i]?) ∧ w'.heap[r]? = some ob ∧ w'.os = w.os ∧ w'.tape = w.tape ∧ w'.output = w.output ∧ w.drawn ≤ w'.drawn
def NewB (P : Program) (o : Oper) (a : Act) (S : PH) (K : Act → PH → Prop) : Prop :=
  ∃ ob f, IsNew P (execOp a.eval o) ob f ∧ ∀ r, S r = none → K (a.put o.dst (f r)) (S.upd r ob)
def EffB (P : Program) (n : Bool) (o : Oper) (a : Act) (S : PH) (K : Act → PH → Prop) : Prop := if n = true then NewB P o a S K else oawp P o a S K
theorem Next.newAt {S : PH} {w w' : World} (hs : Sub S w) {ob : Obj} {r : Nat} (h0 : w.heap.size ≤ r) (h1 : ∀ i, i < w.heap.size → w'.heap[i]? = w.heap[i]?) (hr : w'.heap[r]? = some ob) (h2 : w'.os = w.os) (h3 : w'.tape = w.tape) (h4 : w'.output = w.output) (h6 : w.drawn ≤ w'.drawn) : Next S w (S.upd r ob) w' := by
  refine ⟨fun q o e => ?_, h2, h3, h4, h6, ?_, fun i hi e => ⟨?_, h1 i hi⟩⟩
  · unfold PH.upd at e
    split at e
    · rename_i hq; subst hq; rw [hr]; exact e
    · rw [h1 q (hs.lt e)]; exact hs q o e
  · have := (Array.getElem?_eq_some_iff.1 hr).1
    omega
  · unfold PH.upd; rw [if_neg (by omega)]; exact e
theorem Sub.none_of {S : PH} {w : World} (hs : Sub S w) {r : Nat} (h : w.heap.size ≤ r) : S r = none := by
  cases e : S r with
  | none => rfl
  | some o => exact absurd (hs.lt e) (by omega)
theorem newB_oawp {P : Program} {o : Oper} {a : Act} {S : PH} {K : Act → PH → Prop} (h : NewB P o a S K) : oawp P o a S K := by
  obtain ⟨ob, f, ⟨_, hn⟩, hk⟩ := h
  intro w hs
  obtain ⟨r, w', h0, hr, h1, h5, h2, h3, h4, h6⟩ := hn w
  exact ⟨_, _, w', hr, hk _ (hs.none_of h0), Next.newAt hs h0 h1 h5 h2 h3 h4 h6⟩
theorem isNew_of_swp {P : Program} {s : Sem Go.Next} {ob : Obj} {f : Nat → Value} (hb : ∀ r, blk (f r) = some r) (h : swp P s (fun _ => none) fun n st' => ∃ r, n = .value (f r) ∧ st' = PH.upd (fun _ => none) r ob) : IsNew P s ob f := by
  refine ⟨hb, fun w => ?_⟩
  obtain ⟨x, st', w', hr, ⟨r, rfl, rfl⟩, hn⟩ := h w (fun _ _ e => by cases e)
  have hu : PH.upd (fun _ => none) r ob r = some ob := by unfold PH.upd; rw [if_pos rfl]
  refine ⟨r, w', ?_, hr, fun i hi => (hn.rest i hi rfl).2, hn.sub r ob hu, hn.os, hn.tape, hn.output, hn.drawn⟩
  rcases Nat.lt_or_ge r w.heap.size with hlt | hge
  · have := (hn.rest r hlt rfl).1
    rw [hu] at this; cases this
  · exact hge
theorem effB_oawp {P : Program} {n : Bool} {o : Oper} {a : Act} {S : PH} {K : Act → PH → Prop} (h : EffB P n o a S K) : oawp P o a S K := by
  unfold EffB at h
  split at h
  · exact newB_oawp h
  · exact h
theorem Next.framed {S S' : PH} {w w' : World} {p : Nat} {ob : Obj} (hn : Next S w S' w') (hp : S p = none) (hw : w.heap[p]? = some ob) : S' p = none ∧ Next (S.upd p ob) w (S'.upd p ob) w' := by
  have hlt : p < w.heap.size := (Array.getElem?_eq_some_iff.1 hw).1
  obtain ⟨r1, r2⟩ := hn.rest p hlt hp
  refine ⟨r1, fun r o e => ?_, hn.os, hn.tape, hn.output, hn.drawn, hn.size, fun i hi e => ?_⟩
  · unfold PH.upd at e
    split at e
    · rename_i hr; subst hr; rw [r2, hw]; exact e
    · exact hn.sub r o e
  · unfold PH.upd at e ⊢
    split at e
    · cases e
    · rename_i hne
      rw [if_neg hne]
      exact hn.rest i hi e
theorem sub_upd {S : PH} {w : World} {p : Nat} {ob : Obj} (hs : Sub (S.upd p ob) w) (hp : S p = none) : Sub S w ∧ w.heap[p]? = some ob := by
  refine ⟨fun r o e => hs r o ?_, hs p ob ?_⟩
  · unfold PH.upd; rw [if_neg (by rintro rfl; rw [hp] at e; cases e)]; exact e
  · unfold PH.upd; rw [if_pos rfl]
theorem acalls_frame {P : Program} {f : FuncId} {args : Array Value} {S : PH} {R : Value → PH → Prop} {p : Nat} {ob : Obj} (h : ACalls P f args S R) (hp : S p = none) : ACalls P f args (S.upd p ob) fun v s => ∃ s0, s0 p = none ∧ s = s0.upd p ob ∧ R v s0 := by
  intro w hs
  obtain ⟨hs0, hw⟩ := sub_upd hs hp
  refine (h w hs0).mono fun e w' ⟨v, st', he, hr, hn⟩ => ?_
  obtain ⟨h1, h2⟩ := hn.framed hp hw
  exact ⟨v, _, he, ⟨st', h1, rfl, hr⟩, h2⟩
theorem oawp_frame {P : Program} {o : Oper} {a : Act} {S : PH} {K : Act → PH → Prop} {p : Nat} {ob : Obj} (h : oawp P o a S K) (hp : S p = none) : oawp P o a (S.upd p ob) fun a' s => ∃ s0, s0 p = none ∧ s = s0.upd p ob ∧ K a' s0 := by
  intro w hs
  obtain ⟨hs0, hw⟩ := sub_upd hs hp
  obtain ⟨x, st', w', hr, hq, hn⟩ := h w hs0
  obtain ⟨h1, h2⟩ := hn.framed hp hw
  refine ⟨x, _, w', hr, ?_, h2⟩
  cases x <;> first
    | exact hq.elim
    | exact ⟨st', h1, rfl, hq⟩
    | exact acalls_frame hq h1
/-- In the text's order. -/
def rl (P : Program) (ops : Array Oper) (T : PH) (eff need nw : Nat → Bool) (Q : Act → PH → Prop) : List Nat → Act → PH → Prop
  | [], a, S => Q a S
  | i :: rest, a, S => ∃ o, ops[i]? = some o ∧
    if eff i = true ∧ Region.wanted o (yielded ops a.tmps) = true then EffB P (nw i) o a S (fun a' S' => (need i = true → Lies T S') ∧ rl P ops T eff need nw Q rest a' S')
    else ∃ v, StillAt P ops o a T v ∧ rl P ops T eff need nw Q rest (a.put o.dst v) S

section
variable {P : Program} {ops : Array Oper} {T : PH} {eff need nw : Nat → Bool} {Q : Act → PH → Prop}
theorem StillAt.put {o o' : Oper} {a : Act} {v u : Value} (hs : ∀ cs b, o.op ≠ .select cs b) (h : ∀ d, o'.dst = some d → d ∉ o.looksAt ops) : StillAt P ops o (a.put o'.dst u) T v ↔ StillAt P ops o a T v := by
  unfold StillAt
  rw [wanted_put o a o'.dst u h, execOp_put o hs a o'.dst u h]
theorem StillAt.same {o : Oper} {a : Act} {v v' : Value} {w : World} (hw : Sub T w) (h : StillAt P ops o a T v) (h' : StillAt P ops o a T v') : v = v' := by
  rcases h with ⟨h1, h2⟩ | ⟨h1, h2⟩ <;> rcases h' with ⟨h3, h4⟩ | ⟨h3, h4⟩
  · obtain ⟨w1, e1, _⟩ := h2 w hw
    obtain ⟨w2, e2, _⟩ := h4 w hw
    have := e1.symm.trans e2
    injection this with e
    injection e
  · rw [h1] at h3; cases h3
  · rw [h1] at h3; cases h3
  · rw [h2, h4]
theorem EffB.act {n : Bool} {o : Oper} {a b : Act} {S : PH} {K K' : Act → PH → Prop} (e : execOp b.eval o = execOp a.eval o) (hK : ∀ v S, K (a.put o.dst v) S → K' (b.put o.dst v) S) (h : EffB P n o a S K) : EffB P n o b S K' := by
  unfold EffB at h ⊢
  split at h
  · rename_i hn
    rw [if_pos hn]
    obtain ⟨ob, f, h1, h2⟩ := h
    exact ⟨ob, f, by rw [e]; exact h1, fun r hr => hK _ _ (h2 r hr)⟩
  · rename_i hn
    rw [if_neg hn]
    unfold oawp at h ⊢
    rw [e]
    refine swp_mono ?_ _ _ h
    intro n S hn
    cases n <;> first | exact hn.elim | exact hK _ _ hn | exact ACalls.mono hn fun _ _ => hK _ _
theorem nextwp_act {o : Oper} {a b : Act} {K K' : Act → PH → Prop} (h : ∀ v S, K (a.put o.dst v) S → K' (b.put o.dst v) S) : ∀ n S, nextwp P o a K n S → nextwp P o b K' n S := by
  intro n S hn
  cases n <;> first | exact hn.elim | exact h _ _ hn | exact ACalls.mono hn fun _ _ => h _ _

variable (hsel : ∀ (j : Nat) (o : Oper) cs b, ops[j]? = some o → o.op ≠ .select cs b)
include hsel
/-- What a reading operation yields doesn't hang on those that it is apart from. -/
theorem rl_value {i : Nat} {oi : Oper} (hi : ops[i]? = some oi) (he : eff i = false) {rest : List Nat} : ∀ (ks : List Nat) (a : Act) (S : PH) (w : World), (∀ k ∈ ks, ∀ ok, ops[k]? = some ok → ok.apart ops oi = true) →
    Sub S w → rl P ops T eff need nw Q (ks ++ i :: rest) a S → ∃ v, StillAt P ops oi a T v := by
  intro ks
  induction ks with
  | nil =>
    rintro a S w _ hs ⟨o, ho, h⟩
    rw [hi] at ho
    injection ho with ho
    subst ho
    rw [if_neg (by simp [he])] at h
    obtain ⟨v, hv, _⟩ := h
    exact ⟨v, hv⟩
  | cons k ks ih =>
    rintro a S w hap hs ⟨o, ho, h⟩
    have hk := Oper.apart_spec (hap k (by simp) o ho)
    have ih' := fun a S w => ih a S w (fun k' hk' => hap k' (by simp [hk']))
    split at h
    · obtain ⟨n, S', w', hr, hn, hx⟩ := (effB_oawp h) _ hs
      have fin : ∀ u S1 w1, Sub S1 w1 → ((need k = true → Lies T S1) ∧ rl P ops T eff need nw Q (ks ++ i :: rest) (a.put o.dst u) S1) → ∃ v, StillAt P ops oi a T v := by
        rintro u S1 w1 h1 ⟨_, h2⟩
        obtain ⟨v, hv⟩ := ih' _ _ _ h1 h2
        exact ⟨v, (StillAt.put (hsel i oi · · hi) hk.1).1 hv⟩
      cases n <;> first
        | exact hn.elim
        | exact fin _ _ _ hx.sub hn
        | (obtain ⟨e, w2, fr, ⟨v, S2, _, h3, h4⟩, _⟩ := hn w' hx.sub []
           exact fin _ _ _ h4.sub h3)
    · obtain ⟨v, hv, h⟩ := h
      obtain ⟨u, hu⟩ := ih' _ _ _ hs h
      exact ⟨u, (StillAt.put (hsel i oi · · hi) hk.1).1 hu⟩
/-- A reading operation taken ahead. -/
theorem rl_read {i : Nat} {oi : Oper} (hi : ops[i]? = some oi) (he : eff i = false) {rest : List Nat} {v : Value} {w : World} (hw : Sub T w) : ∀ (ks : List Nat) (a : Act) (S : PH), (∀ k ∈ ks, ∀ ok, ops[k]? = some ok → ok.apart ops oi = true) →
    StillAt P ops oi a T v → rl P ops T eff need nw Q (ks ++ i :: rest) a S → rl P ops T eff need nw Q (ks ++ rest) (a.put oi.dst v) S := by
  intro ks
  induction ks with
  | nil =>
    rintro a S _ hv ⟨o, ho, h⟩
    rw [hi] at ho
    injection ho with ho
    subst ho
    rw [if_neg (by simp [he])] at h
    obtain ⟨u, hu, h⟩ := h
    rw [StillAt.same hw hv hu]
    exact h
  | cons k ks ih =>
    rintro a S hap hv ⟨o, ho, h⟩
    have hk := Oper.apart_spec (hap k (by simp) o ho)
    have ih' := fun a S => ih a S (fun k' hk' => hap k' (by simp [hk']))
    refine ⟨o, ho, ?_⟩
    rw [wanted_put o a oi.dst v hk.2.2]
    split at h
    · rename_i hc
      rw [if_pos hc]
      refine EffB.act (execOp_put o (hsel k o · · ho) a oi.dst v hk.2.2) (fun u S1 ⟨h1, h2⟩ => ⟨h1, ?_⟩) h
      have := ih' _ _ ((StillAt.put (u := u) (hsel i oi · · hi) hk.1).2 hv) h2
      rw [Act.put_comm a u v hk.2.1] at this
      exact this
    · rename_i hc
      rw [if_neg hc]
      obtain ⟨u, hu, h⟩ := h
      refine ⟨u, (StillAt.put (hsel k o · · ho) hk.2.2).2 hu, ?_⟩
      have := ih' _ _ ((StillAt.put (u := u) (hsel i oi · · hi) hk.1).2 hv) h
      rw [Act.put_comm a u v hk.2.1] at this
      exact this
/-- One that does more, taken ahead of some that only read. -/
theorem rl_acts {i : Nat} {oi : Oper} (hi : ops[i]? = some oi) (he : eff i = true) {rest : List Nat} : ∀ (ks : List Nat) (a : Act) (S : PH), (∀ k ∈ ks, eff k = false ∧ ∀ ok, ops[k]? = some ok → ok.apart ops oi = true) →
    rl P ops T eff need nw Q (ks ++ i :: rest) a S → rl P ops T eff need nw Q (i :: (ks ++ rest)) a S := by
  intro ks
  induction ks with
  | nil => exact fun a S _ h => h
  | cons k ks ih =>
    rintro a S hap ⟨o, ho, h⟩
    obtain ⟨hek, hapk⟩ := hap k (by simp)
    have hk := Oper.apart_spec (hapk o ho)
    have ih' := fun a S => ih a S (fun k' hk' => hap k' (by simp [hk']))
    rw [if_neg (by simp [hek])] at h
    obtain ⟨u, hu, h⟩ := h
    obtain ⟨o', ho', h⟩ := ih' _ _ h
    rw [hi] at ho'
    injection ho' with ho'
    subst ho'
    refine ⟨oi, hi, ?_⟩
    rw [wanted_put oi a o.dst u hk.1] at h
    split at h
    · rename_i hc
      rw [if_pos hc]
      refine EffB.act (execOp_put oi (hsel i oi · · hi) a o.dst u hk.1).symm (fun v S1 ⟨h1, h2⟩ => ⟨h1, o, ho, ?_⟩) h
      rw [if_neg (by simp [hek])]
      refine ⟨u, (StillAt.put (hsel k o · · ho) hk.2.2).2 hu, ?_⟩
      rw [Act.put_comm a u v hk.2.1] at h2
      exact h2
    · rename_i hc
      rw [if_neg hc]
      obtain ⟨v, hv, h⟩ := h
      refine ⟨v, (StillAt.put (hsel i oi · · hi) hk.1).1 hv, o, ho, ?_⟩
      rw [if_neg (by simp [hek])]
      refine ⟨u, (StillAt.put (hsel k o · · ho) hk.2.2).2 hu, ?_⟩
      rw [Act.put_comm a u v hk.2.1] at h
      exact h
/-- One that isn't wanted, taken ahead. -/
theorem rl_skip {i : Nat} {oi : Oper} (hi : ops[i]? = some oi) {rest : List Nat} : ∀ (ks : List Nat) (a : Act) (S : PH), (∀ k ∈ ks, ∀ ok, ops[k]? = some ok → ok.apart ops oi = true) →
    Region.wanted oi (yielded ops a.tmps) = false → rl P ops T eff need nw Q (ks ++ i :: rest) a S → rl P ops T eff need nw Q (ks ++ rest) (a.put oi.dst undef) S := by
  intro ks
  induction ks with
  | nil =>
    rintro a S _ hv ⟨o, ho, h⟩
    rw [hi] at ho
    injection ho with ho
    subst ho
    rw [if_neg (by simp [hv])] at h
    obtain ⟨u, hu, h⟩ := h
    rcases hu with ⟨h1, _⟩ | ⟨_, rfl⟩
    · rw [hv] at h1; cases h1
    · exact h
  | cons k ks ih =>
    rintro a S hap hv ⟨o, ho, h⟩
    have hk := Oper.apart_spec (hap k (by simp) o ho)
    have ih' := fun a S => ih a S (fun k' hk' => hap k' (by simp [hk']))
    have hv' : ∀ u, Region.wanted oi (yielded ops (a.put o.dst u).tmps) = false := fun u => by rw [wanted_put oi a o.dst u hk.1]; exact hv
    refine ⟨o, ho, ?_⟩
    rw [wanted_put o a oi.dst undef hk.2.2]
    split at h
    · rename_i hc
      rw [if_pos hc]
      refine EffB.act (execOp_put o (hsel k o · · ho) a oi.dst undef hk.2.2) (fun u S1 ⟨h1, h2⟩ => ⟨h1, ?_⟩) h
      have := ih' _ _ (hv' u) h2
      rw [Act.put_comm a u undef hk.2.1] at this
      exact this
    · rename_i hc
      rw [if_neg hc]
      obtain ⟨u, hu, h⟩ := h
      refine ⟨u, (StillAt.put (hsel k o · · ho) hk.2.2).2 hu, ?_⟩
      have := ih' _ _ (hv' u) h
      rw [Act.put_comm a u undef hk.2.1] at this
      exact this
/-- What a new block is doesn't hang on those that its making is apart from. -/
theorem rl_isnew {i : Nat} {oi : Oper} (hi : ops[i]? = some oi) (he : eff i = true) (hn : nw i = true) {rest : List Nat} : ∀ (ks : List Nat) (a : Act) (S : PH) (w : World), (∀ k ∈ ks, ∀ ok, ops[k]? = some ok → ok.apart ops oi = true) →
    Region.wanted oi (yielded ops a.tmps) = true → Sub S w → rl P ops T eff need nw Q (ks ++ i :: rest) a S → ∃ ob f, IsNew P (execOp a.eval oi) ob f := by
  intro ks
  induction ks with
  | nil =>
    rintro a S w _ hv hs ⟨o, ho, h⟩
    rw [hi] at ho
    injection ho with ho
    subst ho
    rw [if_pos ⟨he, hv⟩] at h
    unfold EffB at h
    rw [if_pos hn] at h
    obtain ⟨ob, f, h1, _⟩ := h
    exact ⟨ob, f, h1⟩
  | cons k ks ih =>
    rintro a S w hap hv hs ⟨o, ho, h⟩
    have hk := Oper.apart_spec (hap k (by simp) o ho)
    have ih' := fun a S w => ih a S w (fun k' hk' => hap k' (by simp [hk']))
    have hv' : ∀ u, Region.wanted oi (yielded ops (a.put o.dst u).tmps) = true := fun u => by rw [wanted_put oi a o.dst u hk.1]; exact hv
    have back : ∀ u, (∃ ob f, IsNew P (execOp (a.put o.dst u).eval oi) ob f) → ∃ ob f, IsNew P (execOp a.eval oi) ob f := fun u ⟨ob, f, h⟩ => ⟨ob, f, by rw [execOp_put oi (hsel i oi · · hi) a o.dst u hk.1] at h; exact h⟩
    split at h
    · obtain ⟨n, S', w', hr, hn', hx⟩ := (effB_oawp h) _ hs
      cases n <;> first
        | exact hn'.elim
        | exact back _ (ih' _ _ _ (hv' _) hx.sub hn'.2)
        | (obtain ⟨e, w2, fr, ⟨v, S2, _, h3, h4⟩, _⟩ := hn' w' hx.sub []
           exact back _ (ih' _ _ _ (hv' _) h4.sub h3.2))
    · obtain ⟨v, hv2, h⟩ := h
      exact back _ (ih' _ _ _ (hv' _) hs h)
/-- A new block, made ahead of whatever it is apart from. -/
theorem rl_new {i : Nat} {oi : Oper} (hi : ops[i]? = some oi) (he : eff i = true) (hn : nw i = true) {rest : List Nat} {ob : Obj} {x : Value} {w w' : World} {p : Nat} (hb : blk x = some p) (hob : w'.heap[p]? = some ob) : ∀ (ks : List Nat) (a : Act) (S : PH), (∀ k ∈ ks, ∀ ok, ops[k]? = some ok → ok.apart ops oi = true) →
    Region.wanted oi (yielded ops a.tmps) = true → (execOp a.eval oi).run P w = .ok (.value x) w' → S p = none → rl P ops T eff need nw Q (ks ++ i :: rest) a S → rl P ops T eff need nw Q (ks ++ rest) (a.put oi.dst x) (S.upd p ob) := by
  intro ks
  induction ks with
  | nil =>
    rintro a S _ hv hN hp ⟨o, ho, h⟩
    rw [hi] at ho
    injection ho with ho
    subst ho
    rw [if_pos ⟨he, hv⟩] at h
    unfold EffB at h
    rw [if_pos hn] at h
    obtain ⟨ob', f', ⟨hb', h1⟩, h2⟩ := h
    obtain ⟨r, w2, _, e1, _, e2, _⟩ := h1 w
    rw [hN] at e1
    injection e1 with e3 e4
    injection e3 with e3
    subst e4
    have hpr : p = r := by
      have := hb' r
      rw [← e3, hb] at this
      injection this
    subst hpr
    rw [hob] at e2
    injection e2 with e2
    subst e2
    rw [e3]
    exact (h2 p hp).2
  | cons k ks ih =>
    rintro a S hap hv hN hp ⟨o, ho, h⟩
    have hk := Oper.apart_spec (hap k (by simp) o ho)
    have ih' := fun a S => ih a S (fun k' hk' => hap k' (by simp [hk']))
    have hv' : ∀ u, Region.wanted oi (yielded ops (a.put o.dst u).tmps) = true := fun u => by rw [wanted_put oi a o.dst u hk.1]; exact hv
    have hN' : ∀ u, (execOp (a.put o.dst u).eval oi).run P w = .ok (.value x) w' := fun u => by rw [execOp_put oi (hsel i oi · · hi) a o.dst u hk.1]; exact hN
    have next : ∀ u S1, S1 p = none → rl P ops T eff need nw Q (ks ++ i :: rest) (a.put o.dst u) S1 → rl P ops T eff need nw Q (ks ++ rest) ((a.put oi.dst x).put o.dst u) (S1.upd p ob) := by
      intro u S1 h1 h2
      have := ih' _ _ (hv' u) (hN' u) h1 h2
      rw [Act.put_comm a u x hk.2.1] at this
      exact this
    have lies : ∀ {S1 : PH}, S1 p = none → Lies T S1 → Lies T (S1.upd p ob) := by
      intro S1 h1 h2 r o' e
      have := h2 r o' e
      unfold PH.upd
      rw [if_neg (by rintro rfl; rw [h1] at this; cases this)]
      exact this
    refine ⟨o, ho, ?_⟩
    rw [wanted_put o a oi.dst x hk.2.2]
    split at h
    · rename_i hc
      rw [if_pos hc]
      unfold EffB at h ⊢
      split at h
      · rename_i hnk
        rw [if_pos hnk]
        obtain ⟨ok, fk, h1, h2⟩ := h
        refine ⟨ok, fk, by rw [execOp_put o (hsel k o · · ho) a oi.dst x hk.2.2]; exact h1, fun r hr => ?_⟩
        have hr1 : ¬ r = p ∧ S r = none := by
          unfold PH.upd at hr
          split at hr
          · cases hr
          · rename_i hne; exact ⟨hne, hr⟩
        obtain ⟨h3, h4⟩ := h2 r hr1.2
        have hp' : (S.upd r ok) p = none := by unfold PH.upd; rw [if_neg (fun e => hr1.1 e.symm)]; exact hp
        have es : (S.upd r ok).upd p ob = (S.upd p ob).upd r ok := by
          funext j
          unfold PH.upd
          by_cases e1 : j = p
          · subst e1; rw [if_pos rfl, if_neg (fun e => hr1.1 e.symm), if_pos rfl]
          · rw [if_neg e1]
            by_cases e2 : j = r
            · subst e2; rw [if_pos rfl, if_pos rfl]
            · rw [if_neg e2, if_neg e2, if_neg e1]
        refine ⟨fun hne => ?_, ?_⟩
        · rw [← es]; exact lies hp' (h3 hne)
        · rw [← es]; exact next _ _ hp' h4
      · rename_i hnk
        rw [if_neg hnk]
        have h' := oawp_frame (ob := ob) h hp
        unfold oawp at h' ⊢
        rw [execOp_put o (hsel k o · · ho) a oi.dst x hk.2.2]
        refine swp_mono (nextwp_act fun u S1 ⟨S0, g1, g2, g3, g4⟩ => ?_) _ _ h'
        subst g2
        exact ⟨fun hne => lies g1 (g3 hne), next _ _ g1 g4⟩
    · rename_i hc
      rw [if_neg hc]
      obtain ⟨u, hu, h⟩ := h
      exact ⟨u, (StillAt.put (hsel k o · · ho) hk.2.2).2 hu, next _ _ hp h⟩
end

/-! ### what must come ahead of what -/
def deps (ops : Array Oper) (i : Nat) : List Nat :=
  match ops[i]? with
  | some o => (o.after.toList.filter (Region.binds .any)).map (·.on)
  | none => []
def anc (ops : Array Oper) (k : Nat) : Nat → Nat → Bool
  | 0, _ => false
  | n + 1, i => (deps ops i).any fun j => j == k || anc ops k n j
/-- Any two of open order are apart, and one of them only reads. -/
def regOK (ops : Array Oper) (eff nw : Nat → Bool) : Bool :=
  (List.range ops.size).all fun i => (deps ops i).all (fun e => decide (e < i)) && (List.range i).all fun k =>
    anc ops k ops.size i || ((!(eff k && eff i) || nw i) && match ops[k]?, ops[i]? with | some x, some y => x.apart ops y | _, _ => true)
def noSel (ops : Array Oper) : Bool := ops.toList.all fun o => match o.op with | .select .. => false | _ => true

theorem anc_listed {ops : Array Oper} {k : Nat} {listed : Array Bool} (hcl : ∀ j, listed.getD j false = true → ∀ e ∈ deps ops j, listed.getD e false = true) :
    ∀ n i, (∀ e ∈ deps ops i, listed.getD e false = true) → anc ops k n i = true → listed.getD k false = true := by
  intro n
  induction n with
  | zero => intro i _ h; cases h
  | succ n ih =>
    intro i hd h
    simp only [anc, List.any_eq_true, Bool.or_eq_true, beq_iff_eq] at h
    obtain ⟨j, hj, h⟩ := h
    rcases h with h | h
    · subst h; exact hd _ hj
    · exact ih j (hcl j (hd j hj)) h
theorem deps_ready {ops : Array Oper} {i : Nat} {listed : Array Bool} (h : i ∈ Region.ready .any ops listed) : ∀ e ∈ deps ops i, listed.getD e false = true := by
  obtain ⟨_, o, ho, hall⟩ := mem_ready.1 h
  intro e he
  unfold deps at he
  rw [ho] at he
  simp only [List.mem_map, List.mem_filter] at he
  obtain ⟨x, ⟨hx, hb⟩, rfl⟩ := he
  exact hall x (by simpa using hx) hb
/-- Those that are still to come, in the text's order. -/
def todo (ops : Array Oper) (listed : Array Bool) : List Nat := (List.range ops.size).filter fun i => !listed.getD i true
theorem todo_split {ops : Array Oper} {listed : Array Bool} {i : Nat} (hi : i < ops.size) (hs : listed.size = ops.size) (hl : listed.getD i true = false) :
    ∃ ks rest, todo ops listed = ks ++ i :: rest ∧ todo ops (listed.setIfInBounds i true) = ks ++ rest ∧ ∀ k ∈ ks, k < i ∧ listed.getD k true = false := by
  have er : List.range ops.size = List.range i ++ i :: List.range' (i + 1) (ops.size - i - 1) := by
    rw [List.range_eq_range', List.range_eq_range', show ops.size = i + (1 + (ops.size - i - 1)) by omega, ← List.range'_append_1, ← List.range'_append_1]
    simp
  have hg : ∀ k, k ≠ i → (listed.setIfInBounds i true).getD k true = listed.getD k true := fun k hk => getD_set_ne true (Ne.symm hk)
  have hii : (listed.setIfInBounds i true).getD i true = true := by simp [show i < listed.size by omega]
  refine ⟨(List.range i).filter fun k => !listed.getD k true, (List.range' (i + 1) (ops.size - i - 1)).filter fun k => !listed.getD k true, ?_, ?_, ?_⟩
  · unfold todo
    rw [er, List.filter_append, List.filter_cons, if_pos (by simp [hl])]
  · unfold todo
    rw [er, List.filter_append, List.filter_cons, if_neg (by simp [hii])]
    congr 1
    · apply List.filter_congr
      intro k hk
      have := List.mem_range.1 hk
      rw [hg k (by omega)]
    · apply List.filter_congr
      intro k hk
      have := List.mem_range'_1.1 hk
      rw [hg k (by omega)]
  · intro k hk
    simp only [List.mem_filter, List.mem_range, Bool.not_eq_true'] at hk
    exact hk
theorem getD_false {listed : Array Bool} {k : Nat} (h : listed.getD k true = false) : listed.getD k false = false := by
  rcases Nat.lt_or_ge k listed.size with h' | h'
  · simp [h'] at h ⊢; exact h
  · simp [Array.getElem?_eq_none h'] at h
theorem regOK_at {ops : Array Oper} {eff nw : Nat → Bool} (h : regOK ops eff nw = true) {i : Nat} (hi : i < ops.size) : (∀ e ∈ deps ops i, e < i) ∧
    ∀ k < i, anc ops k ops.size i = true ∨ ((eff k = true → eff i = false ∨ nw i = true) ∧ ∀ x y, ops[k]? = some x → ops[i]? = some y → x.apart ops y = true) := by
  have h1 := (List.all_eq_true.1 h) i (List.mem_range.2 hi)
  rw [Bool.and_eq_true] at h1
  refine ⟨fun e he => by simpa using List.all_eq_true.1 h1.1 e he, fun k hk => ?_⟩
  have h2 := (List.all_eq_true.1 h1.2) k (List.mem_range.2 hk)
  rw [Bool.or_eq_true, Bool.and_eq_true] at h2
  rcases h2 with h2 | ⟨h2, h3⟩
  · exact .inl h2
  · refine .inr ⟨fun e => ?_, fun x y hx hy => ?_⟩
    · rw [e] at h2
      cases h5 : eff i with
      | false => exact .inl rfl
      | true => rw [h5] at h2; exact .inr (by simpa using h2)
    · rw [hx, hy] at h3; exact h3
theorem noSel_at {ops : Array Oper} (h : noSel ops = true) (j : Nat) (o : Oper) (cs : Array SelectCase) (b : Bool) (ho : ops[j]? = some o) : o.op ≠ .select cs b := by
  intro e
  have := List.all_eq_true.1 h o (by
    obtain ⟨hj, rfl⟩ := Array.getElem?_eq_some_iff.1 ho
    simp)
  rw [e] at this
  cases this
theorem getD_set_self {l : Array Bool} {i : Nat} (d : Bool) (h : i < l.size) : (l.setIfInBounds i true).getD i d = true := by simp [h]
theorem wpAny_rl {P : Program} {ops : Array Oper} {T : PH} {eff need nw : Nat → Bool} {Q : Act → PH → Prop} {Q' : Exit → Act → World → Prop} (hsel : noSel ops = true) (hok : regOK ops eff nw = true)
    (hneed : ∀ i j, i < ops.size → j < ops.size → need i = false → eff j = false → j ≠ i → anc ops j ops.size i = true) :
    ∀ (fuel : Nat) (listed : Array Bool) (a : Act) (S : PH) (w : World), listed.size = ops.size → (todo ops listed).length ≤ fuel → (∀ j, listed.getD j false = true → ∀ e ∈ deps ops j, listed.getD e false = true) →
      ((∃ j ∈ todo ops listed, eff j = false) → Lies T S) → Sub S w → rl P ops T eff need nw Q (todo ops listed) a S → (∀ a' S' w', Q a' S' → Next S w S' w' → Q' .normal a' w') → wpAny P .any ops Q' fuel listed a w := by
  have hsel' := noSel_at hsel
  have none_ready : ∀ listed : Array Bool, listed.size = ops.size → Region.ready .any ops listed = [] → todo ops listed = [] := by
    intro listed hsz hr
    have key : ∀ n i, i < n → i < ops.size → listed.getD i true = true := by
      intro n
      induction n with
      | zero => intro i h; omega
      | succ n ih =>
        intro i hlt hi
        cases hl : listed.getD i true with
        | true => rfl
        | false =>
          obtain ⟨hd, _⟩ := regOK_at hok hi
          have : i ∈ Region.ready .any ops listed := by
            refine mem_ready.2 ⟨hl, ops[i], Array.getElem?_eq_getElem hi, fun e he hb => ?_⟩
            have hm : e.on ∈ deps ops i := by
              unfold deps; rw [Array.getElem?_eq_getElem hi]
              exact List.mem_map.2 ⟨e, List.mem_filter.2 ⟨by simpa using he, hb⟩, rfl⟩
            have hlt' := hd _ hm
            have h1 := ih e.on (by omega) (by omega)
            have h2 : e.on < listed.size := by omega
            simp [h2] at h1 ⊢; exact h1
          rw [hr] at this; cases this
    unfold todo
    rw [List.filter_eq_nil_iff]
    intro i hi
    rw [key ops.size i (List.mem_range.1 hi) (List.mem_range.1 hi)]
    simp
  intro fuel
  induction fuel with
  | zero =>
    intro listed a S w hsz hlen hcl hT hs h hQ
    have ht : todo ops listed = [] := List.eq_nil_of_length_eq_zero (by omega)
    refine ⟨?_, ?_⟩
    · rw [List.eq_nil_iff_forall_not_mem]
      intro i hi
      obtain ⟨h0, o, ho, _⟩ := mem_ready.1 hi
      have : i ∈ todo ops listed := List.mem_filter.2 ⟨List.mem_range.2 (Array.getElem?_eq_some_iff.1 ho).1, by simp [h0]⟩
      rw [ht] at this; cases this
    · rw [ht] at h; exact hQ _ _ _ h (Next.refl hs)
  | succ fuel ih =>
    intro listed a S w hsz hlen hcl hT hs h hQ
    refine ⟨fun hr => ?_, fun i hi => ?_⟩
    · rw [none_ready listed hsz hr] at h; exact hQ _ _ _ h (Next.refl hs)
    · obtain ⟨hl, oi, ho, hall⟩ := mem_ready.1 hi
      have hlt : i < ops.size := (Array.getElem?_eq_some_iff.1 ho).1
      obtain ⟨ks, rest, e1, e2, hks⟩ := todo_split hlt hsz hl
      obtain ⟨_, hpair⟩ := regOK_at hok hlt
      have hpair' : ∀ k ∈ ks, (eff k = true → eff i = false ∨ nw i = true) ∧ ∀ ok, ops[k]? = some ok → ok.apart ops oi = true := by
        intro k hk
        obtain ⟨h1, h2⟩ := hks k hk
        rcases hpair k h1 with h3 | ⟨h3, h4⟩
        · have := anc_listed hcl _ _ (deps_ready hi) h3
          rw [getD_false h2] at this; cases this
        · exact ⟨h3, fun ok hok => h4 ok oi hok ho⟩
      have hlen' : (todo ops (listed.setIfInBounds i true)).length ≤ fuel := by
        rw [e1] at hlen; rw [e2]; simp at hlen ⊢; omega
      have hcl' : ∀ j, (listed.setIfInBounds i true).getD j false = true → ∀ e ∈ deps ops j, (listed.setIfInBounds i true).getD e false = true := by
        intro j hj e he
        by_cases hji : i = j
        · subst hji; exact getD_set_true (deps_ready hi e he)
        · rw [getD_set_ne false hji] at hj
          exact getD_set_true (hcl j hj e he)
      have next : ∀ a' S' w', ((∃ j ∈ ks ++ rest, eff j = false) → Lies T S') → Next S w S' w' → rl P ops T eff need nw Q (ks ++ rest) a' S' → wpAny P .any ops Q' fuel (listed.setIfInBounds i true) a' w' := by
        intro a' S' w' h1 h2 h3
        refine ih _ a' S' w' (by simpa using hsz) hlen' hcl' (by rw [e2]; exact h1) h2.sub (by rw [e2]; exact h3) ?_
        exact fun a2 S2 w2 q n => hQ _ _ _ q (h2.trans n)
      have hT2 : (∃ j ∈ ks ++ rest, eff j = false) → Lies T S := fun ⟨j, hj, hej⟩ => hT ⟨j, by rw [e1]; simp at hj ⊢; rcases hj with hj | hj <;> simp [hj], hej⟩
      rw [e1] at h hT
      unfold wpOp
      simp only [ho]
      have reads : (Region.wanted oi (yielded ops a.tmps) = true → Lies T S) → ∀ v, StillAt P ops oi a T v → rl P ops T eff need nw Q (ks ++ rest) (a.put oi.dst v) S →
          (if Region.wanted oi (yielded ops a.tmps) = true then oi.wp P a w (wpAny P .any ops Q' fuel (listed.setIfInBounds i true)) Q' ∨ (oi.asks P a w ∧ LetsOut Q') else wpAny P .any ops Q' fuel (listed.setIfInBounds i true) (a.put oi.dst undef) w) := by
        intro hTr v hv hr
        rcases hv with ⟨h1, h2⟩ | ⟨h1, h2⟩
        · rw [if_pos h1]
          have hT' := hTr h1
          refine .inl ?_
          unfold Oper.wp
          obtain ⟨w1, e1, n1⟩ := h2 w (hT'.sub hs)
          rw [e1]
          exact next _ _ _ hT2 (n1.frame hT' hs) hr
        · rw [if_neg (by rw [h1]; decide)]
          rw [h2] at hr
          exact next _ _ _ hT2 (Next.refl hs) hr
      cases he : eff i with
      | false =>
        obtain ⟨v, hv⟩ := rl_value hsel' ho he ks a S w (fun k hk => (hpair' k hk).2) hs h
        have hT' : Lies T S := hT ⟨i, by simp, he⟩
        exact reads (fun _ => hT') v hv (rl_read hsel' ho he (hT'.sub hs) ks a S (fun k hk => (hpair' k hk).2) hv h)
      | true =>
        have hap : ∀ k ∈ ks, ∀ ok, ops[k]? = some ok → ok.apart ops oi = true := fun k hk => (hpair' k hk).2
        cases hw : Region.wanted oi (yielded ops a.tmps) with
        | false =>
          rw [if_neg (by decide)]
          exact next _ _ _ hT2 (Next.refl hs) (rl_skip hsel' ho ks a S hap hw h)
        | true =>
          rw [if_pos rfl]
          refine .inl ?_
          cases hnw : nw i with
          | true =>
            obtain ⟨ob, f, hN⟩ := rl_isnew hsel' ho he hnw ks a S w hap hw hs h
            obtain ⟨hb, hN⟩ := hN
            obtain ⟨r, w', g0, hr, g1, g5, g2, g3, g4, g6⟩ := hN w
            have hp := hs.none_of g0
            unfold Oper.wp
            rw [hr]
            refine next _ _ _ (fun hex r o' e => ?_) (Next.newAt hs g0 g1 g5 g2 g3 g4 g6) (rl_new hsel' ho he hnw (hb r) g5 ks a S hap hw hr hp h)
            have := hT2 hex r o' e
            unfold PH.upd
            rw [if_neg (by rintro rfl; rw [hp] at this; cases this)]
            exact this
          | false =>
            have hef : ∀ k ∈ ks, eff k = false := by
              intro k hk
              cases hek : eff k with
              | false => rfl
              | true =>
                rcases (hpair' k hk).1 hek with h5 | h5
                · rw [h5] at he; cases he
                · rw [h5] at hnw; cases hnw
            obtain ⟨o', ho', h⟩ := rl_acts hsel' ho he ks a S (fun k hk => ⟨hef k hk, (hpair' k hk).2⟩) h
            rw [ho] at ho'
            injection ho' with ho'
            subst ho'
            rw [if_pos ⟨he, hw⟩] at h
            unfold EffB at h
            rw [hnw, if_neg (by decide)] at h
            refine oawp_sound h hs fun a' S' w' ⟨h1, h2⟩ hn => next _ _ _ (fun ⟨j, hj, hej⟩ => h1 ?_) hn h2
            cases hni : need i with
            | true => rfl
            | false =>
              exfalso
              rw [← e2] at hj
              simp only [todo, List.mem_filter, List.mem_range, Bool.not_eq_true'] at hj
              have hji : j ≠ i := by
                rintro rfl
                rw [getD_set_self true (by omega)] at hj
                cases hj.2
              rw [getD_set_ne true (Ne.symm hji)] at hj
              have := anc_listed hcl _ _ (deps_ready hi) (hneed i j hlt hj.1 hni hej hji)
              rw [getD_false hj.2] at this; cases this
/-- A region that draws its order. -/
theorem fsem_draw {P : Program} {id : Nat} {ops : Array Oper} {Q : Exit → FR → PH → Prop} {F : FR} {st : PH} (eff need nw : Nat → Bool) (T : PH) (hm : P.follows .mixedOrders = true) (hsel : noSel ops = true) (hok : regOK ops eff nw = true) (hneed : ∀ i j, i < ops.size → j < ops.size → need i = false → eff j = false → j ≠ i → anc ops j ops.size i = true) (hT : Lies T st)
    (h : rl P ops T eff need nw (fun a st' => ∃ F', a = mk F' ∧ Q .normal F' st') (List.range ops.size) (mk F) st) : FSem P (.region id ops true) Q F st := by
  intro w hs
  refine wp_region_any hm ?_
  have hn : Next st w st { w with drawn := w.drawn + 1 } := ⟨hs, rfl, rfl, rfl, Nat.le_succ _, Nat.le_refl _, fun i hi e => ⟨e, rfl⟩⟩
  have et : todo ops (Array.replicate ops.size false) = List.range ops.size := by
    unfold todo
    rw [List.filter_eq_self]
    intro i hi
    have := List.mem_range.1 hi
    simp [this]
  refine wpAny_rl (T := T) (eff := eff) (need := need) (nw := nw) hsel hok hneed ops.size _ _ st _ (by simp) (by rw [et]; simp) ?_ (fun _ => hT) hn.sub (by rw [et]; exact h) ?_
  · intro j hj
    simp [Array.getElem?_replicate] at hj
    split at hj <;> simp at hj
  · rintro a' S' w' ⟨F', rfl, q⟩ n
    exact ⟨S', ⟨F', rfl, q⟩, hn.trans n⟩
end Go.Proofs.Ytfmfkablbaoofaa.Ae
