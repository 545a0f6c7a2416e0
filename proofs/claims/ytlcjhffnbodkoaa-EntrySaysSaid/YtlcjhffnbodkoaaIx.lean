/- Reading an array's part, cutting a walk in two, freezing some parts only; no condition beyond the ones that each theorem names. -/
import Derived.Test.YtlcjhffnbodkoaaOw
set_option linter.unusedVariables false
set_option linter.unusedSimpArgs false
namespace Go.Proofs.Ytlcjhffnbodkoaa.Ae
open Go
def tarr (P : Program) (t : TypeId) : Option (Nat × TypeId) :=
  match P.underlying t with
  | some (.array n e) => some (n, e)
  | _ => none
theorem tarr_und {P : Program} {t e : TypeId} {n : Nat} (h : tarr P t = some (n, e)) : P.underlying t = some (.array n e) := by
  unfold tarr at h
  split at h
  · rename_i n' e' hx; injection h with h; injection h with h1 h2; subst h1; subst h2; exact hx
  · cases h
theorem semK_index {P : Program} {t e : TypeId} {n : Nat} {cs : Array Value} {k : IntKind} {i : Int} {v : Value} {st : PH} {K : Value → PH → Prop} (he : tarr P t = some (n, e)) (hk : tok P e = true) (h0 : 0 ≤ i) (h1 : i < n) (hv : partV P e cs (i.toNat * tsz P e) = some v) (h : K v st) :
    SemK P (Instr.index t (.agg cs) (.int k i)) st K := by
  refine swp_of_awp ?_
  unfold Instr.index
  show awp P (underlying t >>= _) st K
  rw [awp_bind, awp_underlying (tarr_und he)]
  show awp P (if 0 ≤ i ∧ i < n then _ else _) st K
  rw [if_pos ⟨h0, h1⟩]
  show awp P (sizeOf e >>= _) st K
  rw [awp_bind, awp_sizeOf hk]
  exact awp_part hv h
theorem condK_mono {v : Value} {X Y X' Y' : (Exit → FR → PH → Prop) → FR → PH → Prop} {Q Q' : Exit → FR → PH → Prop} {F : FR} {st : PH} (hX : X Q F st → X' Q' F st) (hY : Y Q F st → Y' Q' F st) : condK v X Y Q F st → condK v X' Y' Q' F st := by
  unfold condK
  split
  · exact fun h => ⟨fun e => hX (h.1 e), fun e => hY (h.2 e)⟩
  · exact fun h => h
theorem newK_mono {st : PH} {o : Obj} {K K' : Value → PH → Prop} (h : ∀ v s, K v s → K' v s) (k : NewK st o K) : NewK st o K' := fun r hr => h _ _ (k r hr)
theorem cont_mono {P : Program} {st : PH} {K K' : FR → PH → Prop} {d : Option Tmp} {F : FR} (h : ∀ F s, K F s → K' F s) (x : VRes) (hx : ∀ p, x ≠ .sem p) : cont P st K d F x → cont P st K' d F x := by
  cases x with
  | val v => exact h _ _
  | need p v => exact fun ⟨h1, h2⟩ => ⟨h1, h _ _ h2⟩
  | ov x => cases x with
    | none => exact fun k => k
    | some v => exact h _ _
  | new o => exact newK_mono fun v s => h _ _
  | mem x => cases x with
    | none => exact fun k => k
    | some s => exact h _ _
  | call f args => exact fun ⟨h1, h2⟩ => ⟨h1, h2.mono fun v s => h _ _⟩
  | eqs t u v n => exact fun ⟨b, h1, h2⟩ => ⟨b, h1, h _ _ h2⟩
  | sem p => exact absurd rfl (hx p)
  | semv s => exact fun k => swp_mono (fun v s => h _ _) _ _ k
  | semu s => exact fun k => swp_mono (fun v s => h _ _) _ _ k
  | bad => exact fun k => k
theorem intV_nosem {op : BinOp} {k yk : IntKind} {a b : Int} (p : (Value → PH → Prop) → Prop) : intV op k yk a b ≠ .sem p := by cases op <;> (intro h; cases h)
theorem stepV_nosem {P : Program} {F : FR} {st : PH} {o : Op} (p : (Value → PH → Prop) → Prop) : stepV P F st o ≠ .sem p := by
  intro h
  cases o with
  | call c =>
    obtain ⟨callee, xs, ts⟩ := c
    cases callee with
    | value fo => simp only [stepV, callV] at h; split at h <;> cases h
    | builtin b =>
      simp only [stepV, builtinV] at h
      split at h <;> first | cases h | (split at h <;> cases h)
    | invoke r n => simp only [stepV] at h; cases h
  | binOp op t x y t' =>
    simp only [stepV, binV] at h
    split at h
    · exact intV_nosem _ h
    · split at h <;> cases h
  | _ =>
    simp only [stepV, pickV, allocV, loadV, storeV, fieldAddrV, fieldV, indexAddrV, convertV, unV, extractV] at h
    repeat' split at h
    all_goals cases h
theorem guardK_mono {b : Option Bool} {w : Bool} {X Y X' Y' : FR → PH → Prop} {F : FR} {st : PH} (hX : X F st → X' F st) (hY : Y F st → Y' F st) : guardK b w X Y F st → guardK b w X' Y' F st := by
  unfold guardK
  cases b with
  | none => exact hY
  | some b => exact fun h => ⟨fun e => hX (h.1 e), fun e => hY (h.2 e)⟩
theorem hlawp_mono {P : Program} {ops : Array Oper} {Q Q' : FR → PH → Prop} (h : ∀ F s, Q F s → Q' F s) : ∀ (l : List Oper) (F : FR) (st : PH), hlawp P ops Q l F st → hlawp P ops Q' l F st := by
  intro l
  induction l with
  | nil => exact fun F st => h F st
  | cons o l ih =>
    intro F st k
    obtain ⟨d, op, ty, pos, af, g⟩ := o
    cases g with
    | none =>
      rw [hlawp_cons] at k ⊢
      exact cont_mono ih _ stepV_nosem k
    | some g =>
      obtain ⟨j, w⟩ := g
      rw [hlawp_guard] at k ⊢
      refine guardK_mono ?_ ?_ k
      · rw [runOp_def, runOp_def]; exact cont_mono ih _ stepV_nosem
      · rw [skipOp_def, skipOp_def]; exact ih _ _
theorem hwp_mono {P : Program} : ∀ (c : Code) {Q Q' : Exit → FR → PH → Prop} (h : ∀ e F s, Q e F s → Q' e F s) (F : FR) (st : PH), hwp P c Q F st → hwp P c Q' F st := by
  intro c
  induction c with
  | skip => exact fun h F st k => h _ _ _ k
  | exit id => exact fun h F st k => h _ _ _ k
  | ret => exact fun h F st k => h _ _ _ k
  | seq x y ihx ihy =>
    intro Q Q' h F st k
    rw [hwp_seq] at k ⊢
    refine ihx ?_ F st k
    intro e F s q
    cases e with
    | normal => exact ihy h F s q
    | _ => exact h _ _ _ q
  | cond c x y ihx ihy =>
    intro Q Q' h F st k
    rw [hwp_cond] at k ⊢
    exact condK_mono (ihx h F st) (ihy h F st) k
  | block id c ih =>
    intro Q Q' h F st k
    rw [hwp_block] at k ⊢
    refine ih ?_ F st k
    intro e F s q
    cases e with
    | exit id' =>
      simp only [FBlock] at q ⊢
      split
      · rename_i hid; rw [if_pos hid] at q; exact h _ _ _ q
      · rename_i hid; rw [if_neg hid] at q; exact h _ _ _ q
    | _ => exact h _ _ _ q
  | region id ops draw =>
    intro Q Q' h F st k
    cases draw with
    | true => exact fsem_mono h k
    | false => exact hlawp_mono (h .normal) _ _ _ k
  | _ => exact fun h F st k => fsem_mono h k
/-- A walk cut in two: what stands between. -/
theorem hcut {P : Program} {x y : Code} {Q : Exit → FR → PH → Prop} {F : FR} {st : PH} (I : FR → PH → Prop) (hx : hwp P x (FThen I Q) F st) (hy : ∀ F s, I F s → hwp P y Q F s) : hwp P (.seq x y) Q F st := by
  rw [hwp_seq]
  refine hwp_mono x ?_ F st hx
  intro e F s q
  cases e with
  | normal => exact hy F s q
  | _ => exact q
/-- The same, told by the variables that the first part writes. -/
def Mid {α : Type} (F0 : FR) (M : List Nat) (vals : α → List (Nat × Value)) (inv : α → PH → Prop) (F' : FR) (st' : PH) : Prop := ∃ a, F' = setL F0 M (getL F' M) ∧ Holds F' (vals a) ∧ inv a st'
theorem mid_intro {α : Type} {F0 : FR} {M : List Nat} {vals : α → List (Nat × Value)} {inv : α → PH → Prop} {F' : FR} {st' : PH} (a : α) (h1 : F' = setL F0 M (getL F' M)) (h2 : Holds F' (vals a)) (h3 : inv a st') : Mid F0 M vals inv F' st' := ⟨a, h1, h2, h3⟩
theorem hmid {P : Program} {x y : Code} {Q : Exit → FR → PH → Prop} {F : FR} {st : PH} {α : Type} (M : List Nat) (vals : α → List (Nat × Value)) (inv : α → PH → Prop)
    (hx : hwp P x (FThen (Mid F M vals inv) Q) F st) (hy : ∀ a js s, js.length = M.length → Holds (setL F M js) (vals a) → inv a s → hwp P y Q (setL F M js) s) : hwp P (.seq x y) Q F st := by
  refine hcut _ hx ?_
  rintro F' s ⟨a, h1, h2, h3⟩
  rw [h1] at h2 ⊢
  exact hy a _ s (by simp [getL]) h2 h3
/-- What follows, told but not yet walked. -/
@[irreducible] def hwpS (P : Program) (c : Code) (Q : Exit → FR → PH → Prop) (F : FR) (st : PH) : Prop := hwp P c Q F st
theorem hwpS_go {P : Program} {c : Code} {Q : Exit → FR → PH → Prop} {F : FR} {st : PH} (h : hwp P c Q F st) : hwpS P c Q F st := by unfold hwpS; exact h
theorem hseqS {P : Program} {x y : Code} {Q : Exit → FR → PH → Prop} {F : FR} {st : PH} (h : hwp P x (FThen (hwpS P y Q) Q) F st) : hwp P (.seq x y) Q F st := by
  have e : hwpS P y Q = hwp P y Q := by funext F s; unfold hwpS; rfl
  rw [e] at h
  exact h
theorem mid_unit {F0 : FR} {M : List Nat} {inv : Unit → PH → Prop} {F' : FR} {st' : PH} (h1 : F' = setL F0 M (getL F' M)) (h3 : inv () st') : Mid F0 M (fun _ : Unit => []) inv F' st' := ⟨(), h1, trivial, h3⟩
end Go.Proofs.Ytlcjhffnbodkoaa.Ae
