/- What single operations come to under the precondition over a part of the heap: an evaluator and its soundness; no condition. -/
import Derived.Test.YtfmfkablbaoofaaAfKillNodes
import Derived.Laws.ShiftsVarLaws
import Derived.RowKit
set_option linter.unusedVariables false
set_option linter.unusedSimpArgs false
namespace Go.Proofs.Ytfmfkablbaoofaa.Ae
open Go

/-! ### types -/
def tsz (P : Program) (t : TypeId) : Nat := ((P.info? t).map (·.size)).getD 0
def tby (P : Program) (t : TypeId) : Nat := ((P.info? t).map (·.bytes)).getD 0
def tok (P : Program) (t : TypeId) : Bool := (P.info? t).isSome
def tzero (P : Program) (t : TypeId) : Option Value := (P.info? t).bind (·.zero)
/-- Is it a struct or an array? -/
def tagg (P : Program) (t : TypeId) : Option Bool :=
  match P.underlying t with
  | some (.struct _) | some (.array ..) => some true
  | some _ => some false
  | none => none
/-- A field's place, and its type. -/
def tfield (P : Program) (t : TypeId) (f : Nat) : Option (Nat × TypeId) :=
  match P.underlying t with
  | some (.struct fs) => (fs[f]?).map fun x => (x.offset, x.type)
  | _ => none
def tint (P : Program) (t : TypeId) : Option IntKind :=
  match P.underlying t with
  | some (.int k) => some k
  | _ => none
def tslice (P : Program) (t : TypeId) : Option TypeId :=
  match P.underlying t with
  | some (.slice e) => some e
  | _ => none

theorem awp_pure {P : Program} {α : Type} {a : α} {st : PH} {Q : α → PH → Prop} : awp P (pure a) st Q = Q a st := rfl
theorem awp_underlying {P : Program} {t : TypeId} {x : TypeDesc} (h : P.underlying t = some x) {st : PH} {Q : TypeDesc → PH → Prop} : awp P (underlying t) st Q = Q x st := by
  unfold underlying; rw [awp_bind]; show awp P (match P.underlying t with | some d => pure d | none => stuck "no such type") st Q = _; rw [h]; rfl
theorem awp_typeInfo {P : Program} {t : TypeId} {x : TypeInfo} (h : P.info? t = some x) {st : PH} {Q : TypeInfo → PH → Prop} : awp P (typeInfo t) st Q = Q x st := by
  unfold typeInfo; rw [awp_bind]; show awp P (match P.info? t with | some d => pure d | none => stuck "no such type") st Q = _; rw [h]; rfl
theorem awp_sizeOf {P : Program} {t : TypeId} (h : tok P t = true) {st : PH} {Q : Nat → PH → Prop} : awp P (sizeOf t) st Q = Q (tsz P t) st := by
  obtain ⟨x, hx⟩ := Option.isSome_iff_exists.1 h
  unfold sizeOf tsz; rw [awp_bind, awp_typeInfo hx, hx]; rfl
theorem awp_zeroValue {P : Program} {t : TypeId} {v : Value} (h : tzero P t = some v) {st : PH} {Q : Value → PH → Prop} : awp P (zeroValue t) st Q = Q v st := by
  unfold tzero at h
  cases hi : P.info? t with
  | none => rw [hi] at h; cases h
  | some x => rw [hi] at h; unfold zeroValue; rw [awp_bind, awp_typeInfo hi]; rw [show x.zero = some v from h]; rfl
theorem awp_isAgg {P : Program} {t : TypeId} {b : Bool} (h : tagg P t = some b) {st : PH} {Q : Bool → PH → Prop} : awp P (isAgg t) st Q = Q b st := by
  unfold tagg at h
  cases hu : P.underlying t with
  | none => rw [hu] at h; cases h
  | some x =>
    rw [hu] at h
    unfold isAgg; rw [awp_bind, awp_underlying hu]
    cases x <;> simp_all <;> (subst h; rfl)

/-! ### memory -/
def PH.cellsAt (st : PH) (a : Addr) (n : Nat) : Option (Array Value) :=
  match st a.block with
  | some (.cells c _ _) => if a.spot = none ∧ a.off + n ≤ c.size then some (c.extract a.off (a.off + n)) else none
  | _ => none
/-- Some cells, written anew from a place on. -/
def spl (c : Array Value) (off : Nat) : List Value → Array Value
  | [] => c
  | v :: vs => spl (c.setIfInBounds off v) (off + 1) vs
/-- They may be written there: the cells, their type. -/
def PH.owned (st : PH) (a : Addr) (n : Nat) : Option (Array Value × TypeId) :=
  match st a.block with
  | some (.cells c e (0, 0)) => if a.spot = none ∧ a.off + n ≤ c.size then some (c, e) else none
  | _ => none
def loadS (P : Program) (t : TypeId) (a : Addr) (st : PH) (K : Value → Prop) : Prop :=
  match tagg P t with
  | some true => tok P t = true ∧ ∃ cs, st.cellsAt a (tsz P t) = some cs ∧ K (.agg cs)
  | some false => ∃ v, st.cell? a = some v ∧ K v
  | none => False
def storeS (P : Program) (t : TypeId) (a : Addr) (v : Value) (st : PH) (K : PH → Prop) : Prop :=
  tok P t = true ∧ v.cells.size = tsz P t ∧ v.cells.all Value.oneCell = true ∧ ∃ c e, st.owned a v.cells.size = some (c, e) ∧ K (st.upd a.block (.cells (spl c a.off v.cells.toList) e (0, 0)))

theorem add_off (a : Addr) (h : a.spot = none) (i : Nat) : a.add i = ⟨a.block, a.off + i, none⟩ := by
  unfold Addr.add
  split
  · rename_i hi; subst hi; cases a; simp_all
  · rfl
theorem loadCells_ok {P : Program} {st : PH} {a : Addr} {c : Array Value} {e : TypeId} {f : Nat × Nat} (hb : st a.block = some (.cells c e f)) (hs : a.spot = none) {Q : Array Value → PH → Prop} :
    ∀ n i acc, a.off + i + n ≤ c.size → Q (acc ++ c.extract (a.off + i) (a.off + i + n)) st → awp P (loadCellsFrom a i n acc) st Q := by
  intro n
  induction n with
  | zero =>
    intro i acc _ h
    have e0 : c.extract (a.off + i) (a.off + i + 0) = #[] := by apply Array.ext'; simp
    rw [e0, Array.append_empty] at h
    exact h
  | succ n ih =>
    intro i acc hle h
    unfold loadCellsFrom
    rw [awp_bind]
    refine ⟨c[a.off + i]'(by omega), ?_, ?_⟩
    · rw [add_off a hs]; unfold PH.cell?; simp only [hb]; simp [Array.getElem?_eq_getElem (show a.off + i < c.size by omega)]
    · refine ih (i + 1) _ (by omega) ?_
      have e1 : acc ++ c.extract (a.off + i) (a.off + i + (n + 1)) = acc.push (c[a.off + i]'(by omega)) ++ c.extract (a.off + (i + 1)) (a.off + (i + 1) + n) := by
        apply Array.ext'
        simp only [Array.toList_append, Array.toList_extract, Array.toList_push, List.append_assoc]
        congr 1
        rw [List.extract_eq_take_drop, List.extract_eq_take_drop]
        have h1 : a.off + i + (n + 1) - (a.off + i) = n + 1 := by omega
        have h2 : a.off + (i + 1) + n - (a.off + (i + 1)) = n := by omega
        rw [h1, h2, List.drop_eq_getElem_cons (by simpa using (show a.off + i < c.size by omega))]
        simp [Nat.add_assoc]
      rw [e1] at h; exact h
theorem loadS_ok {P : Program} {t : TypeId} {a : Addr} {st : PH} {K : Value → Prop} {Q : Value → PH → Prop} (h : loadS P t a st K) (hq : ∀ v, K v → Q v st) : awp P (loadVar t a) st Q := by
  unfold loadS at h
  unfold loadVar
  rw [awp_bind]
  split at h
  · rename_i ht
    obtain ⟨hk, cs, hc, hK⟩ := h
    rw [awp_isAgg ht, if_pos rfl, awp_bind, awp_sizeOf hk, awp_bind]
    unfold PH.cellsAt at hc
    split at hc
    · rename_i c e f hb
      split at hc
      · rename_i hcond
        injection hc with hc
        refine loadCells_ok hb hcond.1 _ 0 #[] (by omega) ?_
        simp only [Nat.add_zero]
        rw [hc]
        simp only [Array.empty_append]
        exact hq _ hK
      · cases hc
    · cases hc
  · rename_i ht
    obtain ⟨v, hv, hK⟩ := h
    rw [awp_isAgg ht, if_neg (by decide)]
    exact ⟨v, hv, hq _ hK⟩
  · exact h.elim
theorem PH.upd_upd (st : PH) (r : Nat) (o o' : Obj) : (st.upd r o).upd r o' = st.upd r o' := by
  funext i; unfold PH.upd; split <;> rfl
theorem PH.upd_same (st : PH) (r : Nat) (o : Obj) : (st.upd r o) r = some o := by unfold PH.upd; rw [if_pos rfl]
theorem PH.upd_ne (st : PH) {r i : Nat} (o : Obj) (h : i ≠ r) : (st.upd r o) i = st i := by unfold PH.upd; rw [if_neg h]
theorem PH.upd_self (st : PH) {r : Nat} {o : Obj} (h : st r = some o) : st.upd r o = st := by
  funext i; unfold PH.upd; split
  · rename_i e; rw [e, h]
  · rfl
theorem storeCells_ok {P : Program} {a : Addr} {e : TypeId} (hs : a.spot = none) {Q : Unit → PH → Prop} : ∀ (vs : List Value) (i : Nat) (st : PH) (c : Array Value), st a.block = some (.cells c e (0, 0)) →
    a.off + i + vs.length ≤ c.size → vs.all Value.oneCell = true → Q () (st.upd a.block (.cells (spl c (a.off + i) vs) e (0, 0))) → awp P (storeCells a vs i) st Q := by
  intro vs
  induction vs with
  | nil => intro i st c hb _ _ h; unfold spl at h; rw [PH.upd_self st hb] at h; exact h
  | cons v vs ih =>
    intro i st c hb hle hall h
    unfold storeCells
    rw [awp_bind]
    simp only [List.all_cons, Bool.and_eq_true, List.length_cons] at hall hle
    rw [add_off a hs]
    have hcell : PH.cell? st ⟨a.block, a.off + i, none⟩ = some (c[a.off + i]'(by omega)) := by
      unfold PH.cell?; simp only [hb]; simp [Array.getElem?_eq_getElem (show a.off + i < c.size by omega)]
    refine ⟨by rw [hcell]; rfl, by unfold PH.frozen?; simp only [hb]; simp, hall.1, ?_⟩
    have e1 : PH.setCell st ⟨a.block, a.off + i, none⟩ v = st.upd a.block (.cells (c.setIfInBounds (a.off + i) v) e (0, 0)) := by
      unfold PH.setCell; simp only [hb]; rfl
    rw [e1]
    refine ih (i + 1) _ (c.setIfInBounds (a.off + i) v) (PH.upd_same ..) (by simp; omega) hall.2 ?_
    rw [PH.upd_upd]
    unfold spl at h
    exact h
theorem storeS_ok {P : Program} {t : TypeId} {a : Addr} {v : Value} {st : PH} {K : PH → Prop} {Q : Unit → PH → Prop} (h : storeS P t a v st K) (hq : ∀ st', K st' → Q () st') : awp P (storeVar t a v) st Q := by
  obtain ⟨hk, hsz, hall, c, e, ho, hK⟩ := h
  unfold storeVar
  rw [awp_bind, awp_sizeOf hk, if_neg (by simpa using hsz)]
  unfold PH.owned at ho
  split at ho
  · rename_i c' e' hb
    split at ho
    · rename_i hc
      injection ho with ho
      injection ho with h1 h2
      subst h1; subst h2
      refine storeCells_ok hc.1 v.cells.toList 0 st c' hb (by simpa using hc.2) (by rw [Array.all_toList]; exact hall) ?_
      exact hq _ hK
    · cases ho
  · cases ho

/-! ### single operations -/
/-- Two whole numbers. -/
def binI (op : BinOp) (k yk : IntKind) (a b : Int) (K : Value → Prop) : Prop :=
  match op with
  | .add => k = yk ∧ K (.int k (k.wrap (a + b)))
  | .sub => k = yk ∧ K (.int k (k.wrap (a - b)))
  | .mul => k = yk ∧ K (.int k (k.wrap (a * b)))
  | .quo => k = yk ∧ b ≠ 0 ∧ K (.int k (k.wrap (a.tdiv b)))
  | .rem => k = yk ∧ b ≠ 0 ∧ K (.int k (a.tmod b))
  | .and => k = yk ∧ K (.int k (Go.bits .and k a b))
  | .or => k = yk ∧ K (.int k (Go.bits .or k a b))
  | .xor => k = yk ∧ K (.int k (Go.bits .xor k a b))
  | .andNot => k = yk ∧ K (.int k (Go.bits .andNot k a b))
  | .eql => k = yk ∧ K (.bool (decide (a = b)))
  | .neq => k = yk ∧ K (.bool (decide (¬ a = b)))
  | .lss => k = yk ∧ K (.bool (decide (a < b)))
  | .leq => k = yk ∧ K (.bool (decide (a ≤ b)))
  | .gtr => k = yk ∧ K (.bool (decide (b < a)))
  | .geq => k = yk ∧ K (.bool (decide (b ≤ a)))
  | .shl => 0 ≤ b ∧ K (.int k (k.wrap (a * 2 ^ min b.toNat k.bits)))
  | .shr => 0 ≤ b ∧ K (.int k (a / 2 ^ min b.toNat k.bits))
theorem decide_beq (a b : Int) : (a == b) = decide (a = b) := by by_cases h : a = b <;> simp [h]
theorem decide_bne (a b : Int) : (a != b) = decide (¬ a = b) := by by_cases h : a = b <;> simp [h]
theorem binI_ok {P : Program} {op : BinOp} {t : TypeId} {x y : Operand} {k yk : IntKind} {a b : Int} {st : PH} {K : Value → Prop} {Q : Value → PH → Prop}
    (h : binI op k yk a b K) (hq : ∀ v, K v → Q v st) : awp P (do eqGuard op t x y (.int k a) (.int yk b); binOp op t (.int k a) (.int yk b)) st Q := by
  cases op <;> simp only [binI] at h <;> (try (obtain ⟨rfl, h⟩ := h))
  case shl =>
    obtain ⟨h0, h⟩ := h
    simp only [eqGuard_shl, binOp_shl, Op.shift, show ¬ b < 0 by omega, if_false]
    exact hq _ h
  case shr =>
    obtain ⟨h0, h⟩ := h
    have hp : (0 : Int) ≤ 2 ^ min b.toNat k.bits := Int.pow_nonneg (by decide)
    simp only [eqGuard_shr, binOp_shr, Op.shift, show ¬ b < 0 by omega, if_false, Int.fdiv_eq_ediv_of_nonneg _ hp]
    exact hq _ h
  case quo =>
    obtain ⟨h0, h⟩ := h
    simp only [eqGuard_quo, binOp_quo, Op.intDiv, h0, if_false]
    exact hq _ h
  case rem =>
    obtain ⟨h0, h⟩ := h
    simp only [eqGuard_rem, binOp_rem, Op.intDiv, h0, if_false]
    exact hq _ h
  case eql => simp only [eqGuard_at_int, binOp_eql, decide_beq]; exact hq _ h
  case neq => simp only [eqGuard_at_int, binOp_neq, decide_bne]; exact hq _ h
  case add => simp only [eqGuard_add, binOp_add]; exact hq _ h
  case sub => simp only [eqGuard_sub, binOp_sub]; exact hq _ h
  case mul => simp only [eqGuard_mul, binOp_mul]; exact hq _ h
  case and => simp only [eqGuard_and, binOp_and]; exact hq _ h
  case or => simp only [eqGuard_or, binOp_or]; exact hq _ h
  case xor => simp only [eqGuard_xor, binOp_xor]; exact hq _ h
  case andNot => simp only [eqGuard_andNot, binOp_andNot]; exact hq _ h
  case lss => simp only [eqGuard_lss, binOp_lss]; exact hq _ h
  case leq => simp only [eqGuard_leq, binOp_leq]; exact hq _ h
  case gtr => simp only [eqGuard_gtr, binOp_gtr]; exact hq _ h
  case geq => simp only [eqGuard_geq, binOp_geq]; exact hq _ h
/-- Equal, as values: what the test of a type tells of two values; proved for each type that is compared. -/
def EqAt (P : Program) (t : TypeId) (u v : Value) (b : Bool) : Prop := ∀ (neg : Bool) (x y : Operand) st (Q : Value → PH → Prop), Q (.bool (if neg then !b else b)) st → awp P (do eqGuard (if neg then .neq else .eql) t x y u v; binOp (if neg then .neq else .eql) t u v) st Q
def binS (P : Program) (op : BinOp) (t : TypeId) (u v : Value) (K : Value → Prop) : Prop :=
  match u, v with
  | .int k a, .int yk b => binI op k yk a b K
  | _, _ =>
    match op with
    | .eql => ∃ b, EqAt P t u v b ∧ K (.bool b)
    | .neq => ∃ b, EqAt P t u v b ∧ K (.bool (!b))
    | _ => False
theorem binS_ok {P : Program} {op : BinOp} {t : TypeId} {x y : Operand} {u v : Value} {st : PH} {K : Value → Prop} {Q : Value → PH → Prop}
    (h : binS P op t u v K) (hq : ∀ v, K v → Q v st) : awp P (do eqGuard op t x y u v; binOp op t u v) st Q := by
  unfold binS at h
  split at h
  · exact binI_ok h hq
  · split at h
    · obtain ⟨b, hb, hK⟩ := h; exact hb false x y st Q (hq _ hK)
    · obtain ⟨b, hb, hK⟩ := h; exact hb true x y st Q (hq _ hK)
    · exact h.elim
def unS (op : UnOp) (u : Value) (K : Value → Prop) : Prop :=
  match op, u with
  | .not, .bool b => K (.bool (!b))
  | .neg, .int k n => K (.int k (k.wrap (-n)))
  | _, _ => False
/-- A function that is entered. -/
def Real (P : Program) (f : FuncId) : Prop := ∃ fn, P.funcs[f]? = some fn ∧ (fn.name == "runtime.NumGoroutine") = false ∧ fn.body.isNone = false
def builtinS (P : Program) (b : Builtin) (ts : List TypeId) (vs : List Value) (st : PH) (K : Value → PH → Prop) : Prop :=
  match b, ts, vs with
  | .min, _, [.int k a, .int _ b] => K (.int k (if b < a then b else a)) st
  | .max, _, [.int k a, .int _ b] => K (.int k (if a < b then b else a)) st
  | .len, [t], [.slice _ n _] => (tslice P t).isSome = true ∧ K (.int .i64 n) st
  | _, _, _ => False
/-- The cells of a value that is built out of parts. -/
def fillL (pl : List (Nat × Nat)) (cs : Array Value) : List (Nat × Value) → Option (Array Value)
  | [] => some cs
  | (i, v) :: rest =>
    match pl[i]? with
    | none => none
    | some (off, size) => if v.cells.size = size ∧ off + v.cells.size ≤ cs.size then fillL pl (spl cs off v.cells.toList) rest else none
theorem spl_fold (l : List Value) : ∀ (k off : Nat) (cs : Array Value), (l.zipIdx k).foldl (fun cs (x : Value × Nat) => cs.setIfInBounds (off + x.2) x.1) cs = spl cs (off + k) l := by
  induction l with
  | nil => intro k off cs; rfl
  | cons v l ih =>
    intro k off cs
    rw [List.zipIdx_cons, List.foldl_cons, ih]
    rfl
theorem fillL_ok {place : Nat → Option (Nat × Nat)} {pl : List (Nat × Nat)} (hp : ∀ i x, pl[i]? = some x → place i = some x) : ∀ (parts : List (Nat × Value)) (cs r : Array Value), fillL pl cs parts = some r → Instr.fill place cs parts = some r := by
  intro parts
  induction parts with
  | nil => intro cs r h; exact h
  | cons p parts ih =>
    intro cs r h
    obtain ⟨i, v⟩ := p
    unfold fillL at h
    unfold Instr.fill
    split at h
    · cases h
    · rename_i off size hx
      rw [hp _ _ hx]
      have e : v.cells.zipIdx.foldl (fun cs (x : Value × Nat) => cs.setIfInBounds (off + x.2) x.1) cs = spl cs off v.cells.toList := by
        rw [← Array.foldl_toList, Array.toList_zipIdx, spl_fold]; rfl
      split at h
      · rename_i hc
        simp only
        rw [if_neg (show ¬ ((decide (v.cells.size ≠ size) || decide (off + v.cells.size > cs.size)) = true) by simp only [Bool.or_eq_true, decide_eq_true_eq]; omega)]
        refine ih _ _ ?_
        rw [e]; exact h
      · cases h
theorem awp_places {P : Program} {st : PH} : ∀ (l : List Field) (Q : List (Nat × Nat) → PH → Prop), (l.all fun f => tok P f.type) = true → Q (l.map fun f => (f.offset, tsz P f.type)) st →
    awp P (l.mapM fun f => do pure (f.offset, ← sizeOf f.type)) st Q := by
  intro l
  induction l with
  | nil => intro Q _ h; exact h
  | cons f l ih =>
    intro Q hk h
    rw [List.all_cons, Bool.and_eq_true] at hk
    rw [List.mapM_cons, awp_bind, awp_bind, awp_sizeOf hk.1]
    show awp P (_ >>= _) st Q
    rw [awp_bind]
    exact ih _ hk.2 h
def tparts (P : Program) (t : TypeId) : Option (List (Nat × Nat)) :=
  match P.underlying t with
  | some (.struct fs) => if fs.all (fun f => tok P f.type) then some (fs.toList.map fun f => (f.offset, tsz P f.type)) else none
  | some (.array n e) => if tok P e then some ((List.range n).map fun i => (i * tsz P e, tsz P e)) else none
  | _ => none
def buildS (P : Program) (t : TypeId) (parts : List (Nat × Value)) : Option Value :=
  (tparts P t).bind fun pl => (tzero P t).bind fun z => (fillL pl z.cells parts).map .agg
/-! ### cut -/
def slAt (a : Option Addr) (l c sz : Nat) : Option Addr := if c = l then a else a.map (·.add (l * sz))
def boundV (v : Option Value) (d : Int) : Option Int :=
  match v with
  | none => some d
  | some (.int _ n) => some n
  | _ => none
def SlicedK (P : Program) (t : TypeId) (x : Value) (lo hi mx : Option Value) (st : PH) (K : Value → PH → Prop) : Prop :=
  ∃ e a len cap l h m, tslice P t = some e ∧ tok P e = true ∧ x = .slice a len cap ∧ boundV lo 0 = some l ∧ boundV hi len = some h ∧ boundV mx cap = some m ∧ (mx.isSome = true → hi.isSome = true) ∧ 0 ≤ l ∧ l ≤ h ∧ h ≤ m ∧ m ≤ cap ∧ K (.slice (slAt a l.toNat m.toNat (tsz P e)) (h.toNat - l.toNat) (m.toNat - l.toNat)) st
/-- What an operation comes to: the value that it yields, the part of the heap behind it. -/
def opS (P : Program) (ρ : Operand → Value) (st : PH) (K : Value → PH → Prop) : Op → Prop
  | .move x | .assign x => K (ρ x) st
  | .pick c a b => onBool (ρ c) fun z => K (if z = true then ρ a else ρ b) st
  | .alloc t => ∃ z, tzero P t = some z ∧ ∀ r, st r = none → K (.pointer (some ⟨r, 0, none⟩)) (st.upd r (.cells z.cells t (0, 0)))
  | .box t x => ∀ r, st r = none → K (.pointer (some ⟨r, 0, none⟩)) (st.upd r (.cells (ρ x).cells t (0, 0)))
  | .build t ps => ∃ v, buildS P t (ps.toList.map fun x => (x.1, ρ x.2)) = some v ∧ K v st
  | .load t x => match ρ x with
    | .pointer (some a) => loadS P t a st fun v => K v st
    | _ => False
  | .store t x y => match ρ x with
    | .pointer (some a) => storeS P t a (ρ y) st fun st' => K undef st'
    | _ => False
  | .nilCheck x => match ρ x with
    | .pointer (some a) => K (.pointer (some a)) st
    | _ => False
  | .binOp op t x y _ => binS P op t (ρ x) (ρ y) fun v => K v st
  | .unOp op _ x => unS op (ρ x) fun v => K v st
  | .convert src dst x => match ρ x with
    | .int _ n => (P.underlying src).isSome = true ∧ ∃ k, tint P dst = some k ∧ K (.int k (k.wrap n)) st
    | _ => False
  | .fieldAddr s x f => match ρ x with
    | .pointer (some a) => ∃ o ft, tfield P s f = some (o, ft) ∧ tok P ft = true ∧ tsz P ft ≠ 0 ∧ K (.pointer (some (a.add o))) st
    | _ => False
  | .field s x f => match ρ x with
    | .agg cs => ∃ o ft, tfield P s f = some (o, ft) ∧ match tagg P ft with
      | some true => tok P ft = true ∧ K (.agg (cs.extract o (o + tsz P ft))) st
      | some false => ∃ v, cs[o]? = some v ∧ K v st
      | none => False
    | _ => False
  | .indexAddr t x i => match ρ x, ρ i with
    | .slice (some a) len _, .int _ n => ∃ e, tslice P t = some e ∧ tok P e = true ∧ 0 ≤ n ∧ n < len ∧ K (.pointer (some (a.add (n.toNat * tsz P e)))) st
    | _, _ => False
  | .extract x i => match ρ x with
    | .tuple vs => ∃ v, vs[i]? = some v ∧ K v st
    | _ => False
  | .slice t x lo hi mx => SlicedK P t (ρ x) (lo.map ρ) (hi.map ρ) (mx.map ρ) st K
  | .call c => match c.callee with
    | .value fo => match ρ fo with
      | .func (.func f) first cap => Real P f ∧ ACalls P f (first ++ c.args.map ρ ++ cap) st K
      | _ => False
    | .builtin b => builtinS P b c.argTypes.toList (c.args.toList.map ρ) st K
    | .invoke _ _ => False
  | _ => False

theorem tslice_und {P : Program} {t e : TypeId} (h : tslice P t = some e) : P.underlying t = some (.slice e) := by
  unfold tslice at h; split at h
  · rename_i e' hu; injection h with h; subst h; exact hu
  · cases h
theorem awp_program {P : Program} {st : PH} {Q : Program → PH → Prop} : awp P program st Q = Q P st := rfl
theorem execOp_builtin {ρ : Operand → Value} {d : Option Tmp} {b : Builtin} {xs : Array Operand} {ts : Array TypeId} {ty : TypeId} {pos : String} {af : Array Edge} {g : Option (Nat × Bool)} :
    execOp ρ ⟨d, .call ⟨.builtin b, xs, ts⟩, ty, pos, af, g⟩ = builtin b ts ty (xs.map fun | .const _ => true | _ => false) (xs.map ρ) := rfl
theorem execOp_value {ρ : Operand → Value} {d : Option Tmp} {fo : Operand} {f : FuncId} {first cap : Array Value} {xs : Array Operand} {ts : Array TypeId} {ty : TypeId} {pos : String} {af : Array Edge} {g : Option (Nat × Bool)}
    (h : ρ fo = .func (.func f) first cap) : execOp ρ ⟨d, .call ⟨.value fo, xs, ts⟩, ty, pos, af, g⟩ = callFunc f (first ++ xs.map ρ ++ cap) := by
  simp only [execOp, resolve, h, Deferred.ofValue]
  rfl
theorem awp_callFunc {P : Program} {f : FuncId} {args : Array Value} {st : PH} {Q : Go.Next → PH → Prop} (h : Real P f) : awp P (callFunc f args) st Q = Q (.enter f args) st := by
  obtain ⟨fn, hf, hn, hb⟩ := h
  unfold callFunc
  rw [awp_bind, awp_program]
  simp only [hf, hn, hb, Bool.false_eq_true, if_false]
  rfl
theorem builtinS_ok {P : Program} {b : Builtin} {ts : List TypeId} {vs : List Value} {cs : Array Bool} {ty : TypeId} {st : PH} {K : Value → PH → Prop} {Q : Go.Next → PH → Prop} (h : builtinS P b ts vs st K)
    (h1 : ∀ v st', K v st' → Q (.value v) st') : awp P (builtin b ts.toArray ty cs vs.toArray) st Q := by
  have v_ok : ∀ (s : Sem Value), awp P s st (fun v st' => K v st') → awp P (s >>= fun v => pure (Go.Next.value v)) st Q := by
    intro s hs; rw [awp_bind]; exact awp_mono (fun v st' hk => h1 _ _ hk) _ _ hs
  unfold builtinS at h
  split at h
  · exact v_ok (Builtin.min_ _ _ _) h
  · exact v_ok (Builtin.max_ _ _ _) h
  · rename_i t a n cp
    obtain ⟨hs, h⟩ := h
    obtain ⟨e, he⟩ := Option.isSome_iff_exists.1 hs
    refine v_ok (Builtin.len_ _ _ _) ?_
    unfold Builtin.len_
    show awp P (underlying t >>= _) st _
    rw [awp_bind, awp_underlying (tslice_und he)]
    exact h
  · exact h.elim
theorem sliced_ok {P : Program} {t : TypeId} {x : Value} {lo hi mx : Option Value} {st : PH} {K : Value → PH → Prop} (hk : SlicedK P t x lo hi mx st K) : awp P (Instr.sliceAt t x lo hi mx) st K := by
  obtain ⟨e, a, len, cap, l, hh, m, he, hk, rfl, hlo, hhi, hmx, hmh, h0, h1, h2, h3, hK⟩ := hk
  have hu := tslice_und he
  unfold Instr.sliceAt
  rw [awp_bind, awp_underlying hu]
  show awp P (Instr.slice t (.slice a len cap) lo hi mx) st K
  unfold Instr.slice
  rw [awp_bind, awp_underlying hu]
  show awp P (Instr.sliceBounds true len cap lo hi mx >>= _) st K
  have sb : ∀ (k : IntKind) (i : Int) (y : Nat) (code : BoundsCode) (R : Nat → PH → Prop), 0 ≤ i → i ≤ y → R i.toNat st → awp P (Instr.sliceBound (.int k i) y code) st R := by
    intro k i y code R g0 g1 g2
    unfold Instr.sliceBound
    rw [awp_bind]
    show awp P (if 0 ≤ i ∧ i ≤ y then pure i.toNat else boundsPanic k i y code) st R
    rw [if_pos ⟨g0, g1⟩]; exact g2
  have hend : ∀ L H M : Nat, L = l.toNat → H = hh.toNat → M = m.toNat → awp P (sizeOf e) st fun x st' => K (.slice (if M = L then a else a.map (·.add (L * x))) (H - L) (M - L)) st' := by
    intro L H M hL hH hM
    subst hL; subst hH; subst hM
    rw [awp_sizeOf hk]; exact hK
  rw [awp_bind]
  unfold Instr.sliceBounds
  cases lo with
  | none =>
    simp only [boundV] at hlo
    injection hlo with hlo; subst hlo
    cases hi with
    | none =>
      simp only [boundV] at hhi; injection hhi with hhi; subst hhi
      cases mx with
      | none => simp only [boundV] at hmx; injection hmx with hmx; subst hmx; (simp only [awp_bind, awp_pure]; exact hend 0 len cap rfl (by omega) (by omega))
      | some w => simp at hmh
    | some v =>
      cases v <;> simp only [boundV] at hhi <;> first | (cases hhi; done) | skip
      injection hhi with hhi; subst hhi
      cases mx with
      | none =>
        simp only [boundV] at hmx; injection hmx with hmx; subst hmx
        simp only [awp_bind, awp_pure]
        refine sb _ _ _ _ _ (by omega) (by omega) (hend _ _ _ ?_ ?_ ?_) <;> omega
      | some w =>
        cases w <;> simp only [boundV] at hmx <;> first | (cases hmx; done) | skip
        injection hmx with hmx; subst hmx
        simp only [awp_bind, awp_pure]
        refine sb _ _ _ _ _ (by omega) (by omega) ?_
        refine sb _ _ _ _ _ (by omega) (by omega) (hend _ _ _ ?_ ?_ ?_) <;> omega
  | some u =>
    cases u <;> simp only [boundV] at hlo <;> first | (cases hlo; done) | skip
    injection hlo with hlo; subst hlo
    cases hi with
    | none =>
      simp only [boundV] at hhi; injection hhi with hhi; subst hhi
      cases mx with
      | none =>
        simp only [boundV] at hmx; injection hmx with hmx; subst hmx
        simp only [awp_bind, awp_pure]
        refine sb _ _ _ _ _ (by omega) (by omega) (hend _ _ _ ?_ ?_ ?_) <;> omega
      | some w => simp at hmh
    | some v =>
      cases v <;> simp only [boundV] at hhi <;> first | (cases hhi; done) | skip
      injection hhi with hhi; subst hhi
      cases mx with
      | none =>
        simp only [boundV] at hmx; injection hmx with hmx; subst hmx
        simp only [awp_bind, awp_pure]
        refine sb _ _ _ _ _ (by omega) (by omega) ?_
        refine sb _ _ _ _ _ (by omega) (by omega) (hend _ _ _ ?_ ?_ ?_) <;> omega
      | some w =>
        cases w <;> simp only [boundV] at hmx <;> first | (cases hmx; done) | skip
        injection hmx with hmx; subst hmx
        simp only [awp_bind, awp_pure]
        refine sb _ _ _ _ _ (by omega) (by omega) ?_
        refine sb _ _ _ _ _ (by omega) (by omega) ?_
        refine sb _ _ _ _ _ (by omega) (by omega) (hend _ _ _ ?_ ?_ ?_) <;> omega
theorem opS_ok {P : Program} {ρ : Operand → Value} {o : Oper} {st : PH} {K : Value → PH → Prop} {Q : Go.Next → PH → Prop} (h : opS P ρ st K o.op)
    (h1 : ∀ v st', K v st' → Q (.value v) st') (h2 : (∃ t x y, o.op = .store t x y) → ∀ st', K undef st' → Q .skip st') (h3 : (∃ f x t, o.op = .call ⟨.value f, x, t⟩) → ∀ f args st', ACalls P f args st' K → Q (.enter f args) st') :
    awp P (execOp ρ o) st Q := by
  obtain ⟨d, op, ty, pos, af, g⟩ := o
  have v_ok : ∀ (s : Sem Value), awp P s st (fun v st' => K v st') → awp P (s >>= fun v => pure (Go.Next.value v)) st Q := by
    intro s hs; rw [awp_bind]; exact awp_mono (fun v st' hk => h1 _ _ hk) _ _ hs
  cases op with
  | move x => exact h1 _ _ h
  | assign x => exact h1 _ _ h
  | slice t x lo hi mx => exact v_ok (Instr.sliceAt t (ρ x) (lo.map ρ) (hi.map ρ) (mx.map ρ)) (sliced_ok h)
  | pick c x y =>
    simp only [opS] at h
    show awp P (asBool (ρ c) >>= fun b => pure (Go.Next.value (if b then ρ x else ρ y))) st Q
    rw [awp_bind]
    unfold onBool at h
    split at h
    · rename_i b hb; rw [hb]; exact h1 _ _ h
    · exact h.elim
  | alloc t =>
    obtain ⟨z, hz, h⟩ := h
    refine v_ok (Instr.alloc t true (.tuple #[])) ?_
    unfold Instr.alloc
    rw [awp_bind, awp_zeroValue hz]
    exact h
  | box t x => exact v_ok (Instr.box _ _) h
  | build t ps =>
    obtain ⟨v, hv, h⟩ := h
    have key : awp P (Instr.build t (ps.map fun (i, x) => (i, ρ x))) st fun v st' => K v st' := by
      unfold buildS at hv
      obtain ⟨pl, hpl, hv⟩ := Option.bind_eq_some_iff.1 hv
      obtain ⟨z, hz, hv⟩ := Option.bind_eq_some_iff.1 hv
      obtain ⟨cs, hcs, rfl⟩ := Option.map_eq_some_iff.1 hv
      unfold Instr.build
      rw [awp_bind, awp_zeroValue hz]
      unfold tparts at hpl
      have ep : (ps.map fun (x : Nat × Operand) => (x.1, ρ x.2)).toList = ps.toList.map fun x => (x.1, ρ x.2) := by simp
      split at hpl
      · rename_i fs hu
        split at hpl
        · rename_i hall
          injection hpl with hpl
          rw [awp_bind, awp_underlying hu]
          show awp P (fs.mapM _ >>= _) st _
          rw [Array.mapM_eq_mapM_toList, awp_bind]
          show awp P (_ >>= _) st _
          rw [awp_bind]
          refine awp_places fs.toList _ (by simpa using hall) ?_
          show awp P (match Instr.fill _ _ _ with | some cells => _ | _ => _) st _
          rw [fillL_ok (pl := pl) (by intro i x hx; rw [← hpl] at hx; simpa using hx) _ _ _ (by rw [ep]; exact hcs)]
          exact h
        · cases hpl
      · rename_i n e hu
        split at hpl
        · rename_i hk
          injection hpl with hpl
          rw [awp_bind, awp_underlying hu]
          show awp P (sizeOf e >>= _) st _
          rw [awp_bind, awp_sizeOf hk]
          show awp P (match Instr.fill _ _ _ with | some cells => _ | _ => _) st _
          rw [fillL_ok (pl := pl) (by
            intro i x hx; rw [← hpl] at hx
            rw [List.getElem?_map] at hx
            obtain ⟨y, hy, rfl⟩ := Option.map_eq_some_iff.1 hx
            rw [List.getElem?_range (by have := List.getElem?_eq_some_iff.1 hy; simpa using this.1)] at hy
            injection hy with hy; subst hy; rfl) _ _ _ (by rw [ep]; exact hcs)]
          exact h
        · cases hpl
      · cases hpl
    exact v_ok _ key
  | load t x =>
    simp only [opS] at h
    split at h
    · rename_i a hx
      refine v_ok (Instr.loadAt t (ρ x)) ?_
      rw [hx]
      unfold Instr.loadAt
      rw [awp_bind]
      exact loadS_ok h fun v hv => hv
    · exact h.elim
  | store t x y =>
    simp only [opS] at h
    split at h
    · rename_i a hx
      show awp P (Instr.storeAt t (ρ x) (ρ y) >>= fun _ => pure Go.Next.skip) st Q
      rw [hx, awp_bind]
      unfold Instr.storeAt
      rw [awp_bind]
      exact storeS_ok h fun st' hv => h2 ⟨_, _, _, rfl⟩ _ hv
    · exact h.elim
  | nilCheck x =>
    simp only [opS] at h
    split at h
    · rename_i a hx
      have e : execOp ρ ⟨d, .nilCheck x, ty, pos, af, g⟩ = pure (.value (.pointer (some a))) := by simp only [execOp, hx]
      rw [e]
      exact h1 _ _ h
    · exact h.elim
  | binOp op t x y ty' => exact v_ok (do eqGuard op t x y (ρ x) (ρ y); binOp op t (ρ x) (ρ y)) (binS_ok h fun v hv => hv)
  | unOp op t x =>
    simp only [opS] at h
    refine v_ok (Op.unary op (ρ x)) ?_
    unfold unS at h
    split at h
    · rename_i hu; rw [hu]; exact h
    · rename_i k n hu; rw [hu]
      show K (.int k (k.wrap (0 - n))) st
      rw [Int.zero_sub]; exact h
    · exact h.elim
  | convert src dst x =>
    simp only [opS] at h
    split at h
    · rename_i k n hx
      obtain ⟨hs, k', hk, h⟩ := h
      refine v_ok (convert src dst (ρ x)) ?_
      rw [hx]
      obtain ⟨sd, hsd⟩ := Option.isSome_iff_exists.1 hs
      unfold tint at hk
      split at hk
      · rename_i k2 hd
        injection hk with hk; subst hk
        unfold convert
        rw [awp_bind, awp_underlying hsd, awp_bind, awp_underlying hd]
        exact h
      · cases hk
    · exact h.elim
  | fieldAddr s x f =>
    simp only [opS] at h
    split at h
    · rename_i a hx
      obtain ⟨o, ft, hf, hk, hz, h⟩ := h
      refine v_ok (Instr.fieldAt s (ρ x) f) ?_
      rw [hx]
      unfold tfield at hf
      split at hf
      · rename_i fs hu
        obtain ⟨fl, hfl, he⟩ := Option.map_eq_some_iff.1 hf
        injection he with h4 h5
        subst h4; subst h5
        unfold Instr.fieldAt
        rw [awp_bind, awp_underlying hu]
        simp only [hfl]
        show awp P (fieldPlace a fl >>= fun x => pure (Value.pointer (some x))) st _
        rw [awp_bind]
        unfold fieldPlace
        rw [awp_bind, awp_sizeOf hk, if_neg hz]
        exact h
      · cases hf
    · exact h.elim
  | field s x f =>
    simp only [opS] at h
    split at h
    · rename_i cs hx
      obtain ⟨o, ft, hf, h⟩ := h
      refine v_ok (Instr.field s (ρ x) f) ?_
      rw [hx]
      unfold tfield at hf
      split at hf
      · rename_i fs hu
        obtain ⟨fl, hfl, he⟩ := Option.map_eq_some_iff.1 hf
        injection he with h4 h5
        subst h4; subst h5
        unfold Instr.field
        rw [awp_bind, awp_underlying hu]
        simp only [hfl]
        show awp P (part fl.type cs fl.offset) st _
        unfold part
        rw [awp_bind]
        split at h
        · rename_i ht
          rw [awp_isAgg ht, if_pos rfl, awp_bind, awp_sizeOf h.1]
          exact h.2
        · rename_i ht
          obtain ⟨v, hv, h⟩ := h
          rw [awp_isAgg ht, if_neg (by decide), hv]
          exact h
        · exact h.elim
      · cases hf
    · exact h.elim
  | indexAddr t x i =>
    simp only [opS] at h
    split at h
    · rename_i a len cap k n hx hi
      obtain ⟨e, he, hk, h0, hlt, h⟩ := h
      refine v_ok (Instr.indexAt t (ρ x) (ρ i)) ?_
      rw [hx, hi]
      unfold Instr.indexAt
      rw [awp_bind]
      show awp P (underlying t >>= _) st _
      rw [awp_bind, awp_underlying (tslice_und he)]
      show awp P (underlying t >>= _) st _
      rw [awp_bind, awp_underlying (tslice_und he)]
      show awp P (if 0 ≤ n ∧ n < len then _ else _) st _
      rw [if_pos ⟨h0, hlt⟩, awp_bind, awp_sizeOf hk]
      exact h
    · exact h.elim
  | extract x i =>
    simp only [opS] at h
    split at h
    · rename_i vs hx
      obtain ⟨v, hv, h⟩ := h
      refine v_ok (Instr.extract (ρ x) i) ?_
      rw [hx]
      unfold Instr.extract
      simp only [hv]
      exact h
    · exact h.elim
  | call c =>
    obtain ⟨callee, xs, ts⟩ := c
    simp only [opS] at h
    cases callee with
    | value fo =>
      simp only at h
      split at h
      · rename_i f first cap hfo
        rw [execOp_value hfo, awp_callFunc h.1]
        exact h3 ⟨_, _, _, rfl⟩ _ _ _ h.2
      · exact h.elim
    | builtin b =>
      rw [execOp_builtin]
      have e1 : xs.map ρ = (xs.toList.map ρ).toArray := by apply Array.ext'; simp
      have e2 := builtinS_ok (cs := xs.map fun | .const _ => true | _ => false) (ty := ty) h h1
      rw [Array.toArray_toList] at e2
      rw [e1]
      exact e2
    | invoke r n => exact h.elim
  | _ => exact h.elim

theorem fsem_mono {P : Program} {c : Code} {Q Q' : Exit → FR → PH → Prop} {F : FR} {st : PH} (hq : ∀ e F st, Q e F st → Q' e F st) (h : FSem P c Q F st) : FSem P c Q' F st :=
  cwp_mono h fun e a st' ⟨F', ha, q⟩ => ⟨F', ha, hq _ _ _ q⟩
theorem qwp_isAgg {P : Program} {t : TypeId} {b : Bool} (h : tagg P t = some b) {st : PH} {Q : Bool → Prop} : qwp P (isAgg t) st Q = Q b := by
  unfold tagg at h
  cases hu : P.underlying t with
  | none => rw [hu] at h; cases h
  | some x =>
    rw [hu] at h
    unfold isAgg; rw [qwp_bind]
    have e : ∀ R : TypeDesc → Prop, qwp P (underlying t) st R = R x := by
      intro R; unfold underlying; rw [qwp_bind]; show qwp P (match P.underlying t with | some d => pure d | none => stuck "no such type") st R = _; rw [hu]; rfl
    rw [e]
    cases x <;> simp_all <;> (subst h; rfl)
theorem qwp_sizeOf {P : Program} {t : TypeId} (h : tok P t = true) {st : PH} {Q : Nat → Prop} : qwp P (sizeOf t) st Q = Q (tsz P t) := by
  obtain ⟨x, hx⟩ := Option.isSome_iff_exists.1 h
  have e : ∀ R : TypeInfo → Prop, qwp P (typeInfo t) st R = R x := by
    intro R; unfold typeInfo; rw [qwp_bind]; show qwp P (match P.info? t with | some d => pure d | none => stuck "no such type") st R = _; rw [hx]; rfl
  unfold sizeOf tsz; rw [qwp_bind, e, hx]; rfl
theorem qloadCells_ok {P : Program} {st : PH} {a : Addr} {c : Array Value} {e : TypeId} {f : Nat × Nat} (hb : st a.block = some (.cells c e f)) (hs : a.spot = none) {Q : Array Value → Prop} :
    ∀ n i acc, a.off + i + n ≤ c.size → Q (acc ++ c.extract (a.off + i) (a.off + i + n)) → qwp P (loadCellsFrom a i n acc) st Q := by
  intro n
  induction n with
  | zero =>
    intro i acc _ h
    have e0 : c.extract (a.off + i) (a.off + i + 0) = #[] := by apply Array.ext'; simp
    rw [e0, Array.append_empty] at h
    exact h
  | succ n ih =>
    intro i acc hle h
    unfold loadCellsFrom
    rw [qwp_bind]
    refine ⟨c[a.off + i]'(by omega), ?_, ?_⟩
    · rw [add_off a hs]; unfold PH.cell?; simp only [hb]; simp [Array.getElem?_eq_getElem (show a.off + i < c.size by omega)]
    · refine ih (i + 1) _ (by omega) ?_
      have e1 : acc ++ c.extract (a.off + i) (a.off + i + (n + 1)) = acc.push (c[a.off + i]'(by omega)) ++ c.extract (a.off + (i + 1)) (a.off + (i + 1) + n) := by
        apply Array.ext'
        simp only [Array.toList_append, Array.toList_extract, Array.toList_push, List.append_assoc]
        congr 1
        rw [List.extract_eq_take_drop, List.extract_eq_take_drop]
        have h1 : a.off + i + (n + 1) - (a.off + i) = n + 1 := by omega
        have h2 : a.off + (i + 1) + n - (a.off + (i + 1)) = n := by omega
        rw [h1, h2, List.drop_eq_getElem_cons (by simpa using (show a.off + i < c.size by omega))]
        simp [Nat.add_assoc]
      rw [e1] at h; exact h
theorem qloadS_ok {P : Program} {t : TypeId} {a : Addr} {st : PH} {K : Value → Prop} {Q : Value → Prop} (h : loadS P t a st K) (hq : ∀ v, K v → Q v) : qwp P (loadVar t a) st Q := by
  unfold loadS at h
  unfold loadVar
  rw [qwp_bind]
  split at h
  · rename_i ht
    obtain ⟨hk, cs, hc, hK⟩ := h
    rw [qwp_isAgg ht, if_pos rfl, qwp_bind, qwp_sizeOf hk, qwp_bind]
    unfold PH.cellsAt at hc
    split at hc
    · rename_i c e f hb
      split at hc
      · rename_i hcond
        injection hc with hc
        refine qloadCells_ok hb hcond.1 _ 0 #[] (by omega) ?_
        simp only [Nat.add_zero]
        rw [hc]
        simp only [Array.empty_append]
        exact hq _ hK
      · cases hc
    · cases hc
  · rename_i ht
    obtain ⟨v, hv, hK⟩ := h
    rw [qwp_isAgg ht, if_neg (by decide)]
    exact ⟨v, hv, hq _ hK⟩
  · exact h.elim
/-- A function's results: variables, cells. -/
def resS (P : Program) (F : FR) (st : PH) : List ResultVar → (List Value → Prop) → Prop
  | [], Q => Q []
  | .tmp t :: rs, Q => resS P F st rs fun l => Q (F.getD t undef :: l)
  | .cell a t :: rs, Q => match F.getD a undef with
    | .pointer (some x) => loadS P t x st fun v => resS P F st rs fun l => Q (v :: l)
    | _ => False
def oneV : List Value → Value
  | [v] => v
  | vs => .tuple vs.toArray
def gret (P : Program) (fn : Func) (R : Value → PH → Prop) : Exit → FR → PH → Prop
  | .normal, F, st | .ret, F, st => resS P F st fn.results.toList fun vs => R (oneV vs) st
  | _, _, _ => False
theorem resS_ok {P : Program} {F : FR} {st : PH} : ∀ (rs : List ResultVar) (Q : List Value → Prop), resS P F st rs Q →
    qwp P (rs.mapM fun | .tmp t => pure (F.toArray.getD t undef) | .cell a t => do loadVar t (← asAddr (F.toArray.getD a undef))) st Q := by
  intro rs
  induction rs with
  | nil => intro Q hq; exact hq
  | cons r rs ih =>
    intro Q h
    cases r with
    | cell a t =>
      simp only [resS] at h
      rw [List.mapM_cons, qwp_bind]
      have e : F.toArray.getD a undef = F.getD a undef := by simp
      show qwp P (asAddr (F.toArray.getD a undef) >>= fun x => loadVar t x) st _
      rw [qwp_bind, e]
      generalize F.getD a undef = u at h ⊢
      split at h
      · rename_i x
        show qwp P (loadVar t x) st _
        refine qloadS_ok h fun v hv => ?_
        rw [qwp_bind]
        exact ih _ hv
      · exact h.elim
    | tmp t =>
      simp only [resS] at h
      rw [List.mapM_cons, qwp_bind]
      show qwp P (_ >>= _) st Q
      rw [qwp_bind]
      refine ih _ ?_
      have e : F.toArray.getD t undef = F.getD t undef := by simp
      rw [e]
      exact h
theorem gret_ok {P : Program} {fn : Func} {R : Value → PH → Prop} : ∀ e F st, gret P fn R e F st → fret P fn R e F st := by
  have key : ∀ F st, (resS P F st fn.results.toList fun vs => R (oneV vs) st) → qwp P (results fn F.toArray) st (fun v => R v st) := by
    intro F st h
    unfold results
    rw [Array.mapM_eq_mapM_toList, qwp_bind]
    show qwp P (_ >>= _) st _
    rw [qwp_bind]
    refine resS_ok fn.results.toList _ ?_
    have mono : ∀ (rs : List ResultVar) (A B : List Value → Prop), (∀ l, A l → B l) → resS P F st rs A → resS P F st rs B := by
      intro rs
      induction rs with
      | nil => intro A B hab h; exact hab _ h
      | cons r rs ih =>
        intro A B hab h
        cases r with
        | tmp t => exact ih _ _ (fun l => hab _) h
        | cell a t =>
          simp only [resS] at h ⊢
          split at h
          · unfold loadS at h ⊢
            split at h
            · obtain ⟨hk, cs, hc, h⟩ := h; exact ⟨hk, cs, hc, ih _ _ (fun l => hab _) h⟩
            · obtain ⟨v, hv, h⟩ := h; exact ⟨v, hv, ih _ _ (fun l => hab _) h⟩
            · exact h.elim
          · exact h.elim
    refine mono _ _ _ (fun vs hR => ?_) h
    show R _ st
    match vs, hR with
    | [], hR => exact hR
    | [v], hR => exact hR
    | v :: v2 :: vs, hR =>
      rw [dif_neg (by simp)]
      exact hR
  intro e F st h
  cases e <;> first | exact h.elim | exact key F st h
end Go.Proofs.Ytfmfkablbaoofaa.Ae
