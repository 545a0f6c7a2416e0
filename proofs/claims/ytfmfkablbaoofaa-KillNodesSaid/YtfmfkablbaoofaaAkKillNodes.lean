/- What is told of actions that make, cut and lengthen slices, and of loops; no condition beyond the ones that each theorem names. -/
import Derived.Test.YtfmfkablbaoofaaAjKillNodes
set_option linter.unusedVariables false
set_option linter.unusedSimpArgs false
namespace Go.Proofs.Ytfmfkablbaoofaa.Ae
open Go

/-! ### loops -/
def setL (F : FR) : List Nat → List Value → FR
  | i :: M, v :: js => setL (F.set i v) M js
  | _, _ => F
def getL (F : FR) (M : List Nat) : List Value := M.map fun i => F.getD i undef
def Holds (F : FR) : List (Nat × Value) → Prop
  | [] => True
  | (k, v) :: r => F.getD k undef = v ∧ Holds F r
theorem holds_nil {F : FR} : Holds F [] = True := rfl
theorem holds_cons {F : FR} {k : Nat} {v : Value} {r : List (Nat × Value)} : Holds F ((k, v) :: r) = (F.getD k undef = v ∧ Holds F r) := rfl
theorem setL_nil {F : FR} {js : List Value} : setL F [] js = F := by cases js <;> rfl
theorem setL_cons {F : FR} {i : Nat} {M : List Nat} {v : Value} {js : List Value} : setL F (i :: M) (v :: js) = setL (F.set i v) M js := rfl
theorem getL_def {F : FR} {M : List Nat} : getL F M = M.map fun i => F.getD i undef := rfl
theorem set_getD (F : FR) (i : Nat) : F.set i (F.getD i undef) = F := by
  rcases Nat.lt_or_ge i F.length with h | h
  · rw [List.getD_eq_getElem?_getD, List.getElem?_eq_getElem h]; simp
  · exact List.set_eq_of_length_le h
theorem setL_getL (M : List Nat) : ∀ F : FR, setL F M (getL F M) = F := by
  induction M with
  | nil => intro F; exact setL_nil
  | cons i M ih => intro F; unfold getL; rw [List.map_cons, setL_cons, set_getD]; exact ih F
theorem len_cons {js : List Value} {n : Nat} (h : js.length = n + 1) : ∃ j js', js = j :: js' ∧ js'.length = n := by
  cases js with
  | nil => cases h
  | cons j js => exact ⟨j, js, rfl, by simpa using h⟩
/-- Back to a loop's head. -/
def Back {α : Type} (F0 : FR) (M : List Nat) (vals : α → List (Nat × Value)) (inv : α → PH → Prop) (μ : α → Nat) (a : α) (F' : FR) (st' : PH) : Prop :=
  ∃ b, μ b < μ a ∧ F' = setL F0 M (getL F' M) ∧ Holds F' (vals b) ∧ ∃ st2, Lies st2 st' ∧ inv b st2
theorem back_intro {α : Type} {F0 : FR} {M : List Nat} {vals : α → List (Nat × Value)} {inv : α → PH → Prop} {μ : α → Nat} {a : α} {F' : FR} {st' : PH} (b : α) (st2 : PH) (h1 : μ b < μ a) (h2 : F' = setL F0 M (getL F' M)) (h3 : Holds F' (vals b)) (h4 : Lies st2 st') (h5 : inv b st2) :
    Back F0 M vals inv μ a F' st' := ⟨b, h1, h2, h3, st2, h4, h5⟩
theorem hloop {P : Program} {c : Code} {Q : Exit → FR → PH → Prop} {F0 : FR} {st : PH} {α : Type} (M : List Nat) (vals : α → List (Nat × Value)) (inv : α → PH → Prop) (μ : α → Nat) (a0 : α) (st0 : PH)
    (h0 : Holds F0 (vals a0)) (hl : Lies st0 st) (hi : inv a0 st0)
    (round : ∀ a js st, js.length = M.length → Holds (setL F0 M js) (vals a) → inv a st → hwp P c (FThen (Back F0 M vals inv μ a) Q) (setL F0 M js) st) : FSem P (.loop c) Q F0 st := by
  refine cwp_loop (fun n a st => ∃ x js st2, a = mk (setL F0 M js) ∧ n = μ x ∧ js.length = M.length ∧ Holds (setL F0 M js) (vals x) ∧ Lies st2 st ∧ inv x st2) (μ a0) ⟨a0, getL F0 M, st0, by rw [setL_getL], rfl, by simp [getL], by rw [setL_getL]; exact h0, hl, hi⟩ ?_
  rintro n a st ⟨x, js, st2, rfl, rfl, hlen, hv, hl2, hinv⟩
  refine cwp_forget hl2 (cwp_mono (hwp_sem _ _ _ _ (round x js st2 hlen hv hinv)) ?_)
  rintro e a' st' ⟨F', rfl, hq⟩
  cases e with
  | normal =>
    obtain ⟨b, hb, hF, hvb, st3, hl3, hi3⟩ := hq
    refine ⟨μ b, hb, b, getL F' M, st3, by rw [← hF], rfl, by simp [getL], by rw [← hF]; exact hvb, hl3, hi3⟩
  | _ => exact ⟨F', rfl, hq⟩
theorem Lies.both {st s : PH} {r : Nat} {o : Obj} (h : Lies st s) : Lies (st.upd r o) (s.upd r o) := by
  intro i p e
  unfold PH.upd at e ⊢
  split
  · rename_i hi; rw [if_pos hi] at e; exact e
  · rename_i hi; rw [if_neg hi] at e; exact h i p e

/-- So many rounds at most. -/
def RoundsK (P : Program) (c : Code) (Q : Exit → FR → PH → Prop) : Nat → FR → PH → Prop
  | 0, _, _ => False
  | n + 1, F, st => hwp P c (FThen (RoundsK P c Q n) Q) F st
theorem roundsK_step {P : Program} {c : Code} {Q : Exit → FR → PH → Prop} {n : Nat} {F : FR} {st : PH} (h : hwp P c (FThen (RoundsK P c Q n) Q) F st) : RoundsK P c Q (n + 1) F st := h
theorem hrounds {P : Program} {c : Code} {Q : Exit → FR → PH → Prop} (n : Nat) {F : FR} {st : PH} (h : RoundsK P c Q n F st) : FSem P (.loop c) Q F st := by
  intro w hs
  refine wp_loop_rounds n ?_
  have key : ∀ m F st w', RoundsK P c Q m F st → Sub st w' → ∀ st0 w0, Next st0 w0 st w' → Code.rounds P c (fun e a2 w2 => ∃ st2, (∃ F', a2 = mk F' ∧ Q e F' st2) ∧ Next st0 w0 st2 w2) m (mk F) w' := by
    intro m
    induction m with
    | zero => exact fun F st w' h => h.elim
    | succ m ih =>
      intro F st w' h hs st0 w0 hn
      rw [rounds_succ]
      refine wp_mono (hwp_sem _ _ _ _ h w' hs) fun e a2 w2 ⟨st2, ⟨F', ha, q⟩, n2⟩ => ?_
      subst ha
      cases e with
      | normal => exact ih F' st2 w2 q n2.sub st0 w0 (hn.trans n2)
      | _ => exact ⟨st2, ⟨F', rfl, q⟩, hn.trans n2⟩
  exact key n F st w h hs st w (Next.refl hs)

/-! ### new slices -/
theorem zrow_int {k : IntKind} {n : Nat} : zrow (.int k 0) n = Array.replicate n (.int k 0) := zrow_one rfl n
theorem zrow_bool {n : Nat} : zrow (.bool false) n = Array.replicate n (.bool false) := zrow_one rfl n
theorem zrow_slice {n : Nat} : zrow (.slice none 0 0) n = Array.replicate n (.slice none 0 0) := zrow_one rfl n

/-! ### cut -/
def SliceK (P : Program) (t : TypeId) (x : Value) (lo hi : Option Value) (st : PH) (K : Value → PH → Prop) : Prop :=
  ∃ e a len cap l h, tslice P t = some e ∧ tok P e = true ∧ x = .slice a len cap ∧ boundV lo 0 = some l ∧ boundV hi len = some h ∧ 0 ≤ l ∧ l ≤ h ∧ h ≤ cap ∧ (len ≤ cap) ∧ K (.slice (slAt a l.toNat cap (tsz P e)) (h.toNat - l.toNat) (cap - l.toNat)) st
theorem semK_slice' {P : Program} {t : TypeId} {x : Value} {lo hi : Option Value} {st : PH} {K : Value → PH → Prop} (h : SliceK P t x lo hi st K) : SemK P (Instr.sliceAt t x lo hi none) st K := by
  obtain ⟨e, a, len, cap, l, hh, he, hk, rfl, hlo, hhi, h0, h1, h2, h3, hK⟩ := h
  refine swp_of_awp ?_
  have hu := tslice_und he
  unfold Instr.sliceAt
  rw [awp_bind, awp_underlying hu]
  show awp P (Instr.slice t (.slice a len cap) lo hi none) st K
  unfold Instr.slice
  rw [awp_bind, awp_underlying hu]
  show awp P (Instr.sliceBounds true len cap lo hi none >>= _) st K
  have sb : ∀ (k : IntKind) (i : Int) (y : Nat) (code : BoundsCode) (R : Nat → PH → Prop), 0 ≤ i → i ≤ y → R i.toNat st → awp P (Instr.sliceBound (.int k i) y code) st R := by
    intro k i y code R g0 g1 g2
    unfold Instr.sliceBound
    rw [awp_bind]
    show awp P (if 0 ≤ i ∧ i ≤ y then pure i.toNat else boundsPanic k i y code) st R
    rw [if_pos ⟨g0, g1⟩]; exact g2
  have hend : awp P ((do let size ← sizeOf e; pure (Value.slice (if cap = l.toNat then a else a.map (·.add (l.toNat * size))) (hh.toNat - l.toNat) (cap - l.toNat))) : Sem Value) st K := by
    rw [awp_bind, awp_sizeOf hk]
    exact hK
  have hend2 : ∀ L H : Nat, L = l.toNat → H = hh.toNat → awp P (sizeOf e) st fun x st' => K (.slice (if cap = L then a else a.map (·.add (L * x))) (H - L) (cap - L)) st' := by
    intro L H hL hH
    subst hL; subst hH
    rw [awp_sizeOf hk]; exact hK
  rw [awp_bind]
  unfold Instr.sliceBounds
  cases lo with
  | none =>
    simp only [boundV] at hlo
    injection hlo with hlo; subst hlo
    cases hi with
    | none => simp only [boundV] at hhi; injection hhi with hhi; subst hhi; exact hend
    | some v =>
      cases v <;> simp only [boundV] at hhi <;> first | (cases hhi; done) | skip
      injection hhi with hhi; subst hhi
      simp only [awp_bind, awp_pure]
      exact sb _ _ _ _ _ (by omega) (by omega) (hend2 _ _ (by omega) (by omega))
  | some u =>
    cases u <;> simp only [boundV] at hlo <;> first | (cases hlo; done) | skip
    injection hlo with hlo; subst hlo
    cases hi with
    | none =>
      simp only [boundV] at hhi; injection hhi with hhi; subst hhi
      simp only [awp_bind, awp_pure]
      exact sb _ _ _ _ _ (by omega) (by omega) (hend2 _ _ (by omega) (by omega))
    | some v =>
      cases v <;> simp only [boundV] at hhi <;> first | (cases hhi; done) | skip
      injection hhi with hhi; subst hhi
      simp only [awp_bind, awp_pure]
      refine sb _ _ _ _ _ (by omega) (by omega) ?_
      exact sb _ _ _ _ _ (by omega) (by omega) (hend2 _ _ (by omega) (by omega))
def SliceV (P : Program) (t : TypeId) (x : Value) (lo hi : Option Value) (st : PH) (K : Value → PH → Prop) : Prop :=
  match tslice P t, x with
  | some e, .slice a len cap => match boundV lo 0, boundV hi len with
    | some l, some h => (tok P e = true ∧ 0 ≤ l ∧ l ≤ h ∧ h ≤ cap ∧ len ≤ cap) ∧ K (.slice (slAt a l.toNat cap (tsz P e)) (h.toNat - l.toNat) (cap - l.toNat)) st
    | _, _ => False
  | _, _ => False
theorem semK_slice {P : Program} {t : TypeId} {x : Value} {lo hi : Option Value} {st : PH} {K : Value → PH → Prop} (h : SliceV P t x lo hi st K) : SemK P (Instr.sliceAt t x lo hi none) st K := by
  unfold SliceV at h
  split at h
  · rename_i e a len cap he
    split at h
    · rename_i l hh hl hhh; exact semK_slice' ⟨e, a, len, cap, l, hh, he, h.1.1, rfl, hl, hhh, h.1.2.1, h.1.2.2.1, h.1.2.2.2.1, h.1.2.2.2.2, h.2⟩
    · exact h.elim
  · exact h.elim
theorem boundV_none {d : Int} : boundV none d = some d := rfl
theorem boundV_some {d n : Int} {k : IntKind} : boundV (some (.int k n)) d = some n := rfl
theorem semK_makeFunc {P : Program} {fn : Fn} {a b : Array Value} {st : PH} {K : Value → PH → Prop} (h : K (.func fn a b) st) : SemK P (Instr.makeFunc fn a b) st K := swp_pure h
theorem slAt_zero {a : Option Addr} {c sz : Nat} : slAt a 0 c sz = a := by
  unfold slAt
  split
  · rfl
  · cases a with
    | none => rfl
    | some a => simp [Addr.add]
/-- The call returns this, and leaves this part of the heap. -/
def Does (P : Program) (f : FuncId) (args : List Value) (st : PH) (v : Value) (st' : PH) : Prop := ACalls P f args.toArray st fun r s => r = v ∧ s = st'
theorem Does.next {P : Program} {f : FuncId} {args : List Value} {st st' : PH} {v : Value} {K : Value → PH → Prop} (h : Does P f args st v st') (hr : Real P f) (hk : K v st') : Real P f ∧ ACalls P f args.toArray st K :=
  ⟨hr, h.mono fun r s ⟨h1, h2⟩ => by rw [h1, h2]; exact hk⟩
theorem Does.of_lies {P : Program} {f : FuncId} {args : List Value} {st st' : PH} {v : Value} (h : ACalls P f args.toArray st fun r s => r = v ∧ Lies st' s) : Does P f args st v st' :=
  h.forget fun v' s ⟨e, hl⟩ => ⟨st', hl, e, rfl⟩
theorem liesK_intro {T S : PH} {K : Prop} (h : Lies T S) (k : K) : Lies T S ∧ K := ⟨h, k⟩
theorem gateCall {P : Program} {f : FuncId} {args : Array Value} {st : PH} {K : Value → PH → Prop} (h : Real P f ∧ ACalls P f args st K) : Real P f ∧ ACalls P f args st K := h
theorem gateLies {T S : PH} {K : Prop} (h : Lies T S ∧ K) : Lies T S ∧ K := h
theorem gateDraw {P : Program} {id : Nat} {l : List Oper} {Q : Exit → FR → PH → Prop} {F : FR} {st : PH} (h : hwp P (.region id l.toArray true) Q F st) : hwp P (.region id l.toArray true) Q F st := h
theorem gateSem {P : Program} {s : Sem Value} {st : PH} {K : Value → PH → Prop} (h : SemK P s st K) : SemK P s st K := h
end Go.Proofs.Ytfmfkablbaoofaa.Ae
