/- The evaluator in a form that simp runs: one step of an operation as data, what follows as a name; its soundness; no condition. -/
import Derived.Test.YtfmfkablbaoofaaAqKillNodes
set_option linter.unusedVariables false
set_option linter.unusedSimpArgs false
namespace Go.Proofs.Ytfmfkablbaoofaa.Ae
open Go

inductive VRes where
  | val (v : Value)
  | need (p : Prop) (v : Value)
  | ov (x : Option Value)
  | new (o : Obj)
  | mem (x : Option PH)
  | call (f : FuncId) (args : Array Value)
  | eqs (t : TypeId) (u v : Value) (neg : Bool)
  | sem (p : (Value → PH → Prop) → Prop)
  | semv (s : Sem Value)
  | semu (s : Sem Unit)
  | qr (P : Program) (T : PH) (s : Sem Value)
  | bad

def VRes.told (P : Program) (st : PH) (K : Value → PH → Prop) : VRes → Prop
  | .val v => K v st
  | .need p v => p ∧ K v st
  | .ov x => ∃ v, x = some v ∧ K v st
  | .new o => ∀ r, st r = none → K (.pointer (some ⟨r, 0, none⟩)) (st.upd r o)
  | .mem x => ∃ st', x = some st' ∧ K undef st'
  | .call f args => Real P f ∧ ACalls P f args st K
  | .eqs t u v neg => ∃ b, EqAt P t u v b ∧ K (.bool (if neg then !b else b)) st
  | .sem p => p K
  | .semv _ => False
  | .semu _ => False
  | .qr P' T s => ∃ v, swp P' s T (fun u st' => u = v ∧ st' = T) ∧ K v st
  | .bad => False

def intV (op : BinOp) (k yk : IntKind) (a b : Int) : VRes :=
  match op with
  | .add => .need (k = yk) (.int k (k.wrap (a + b)))
  | .sub => .need (k = yk) (.int k (k.wrap (a - b)))
  | .mul => .need (k = yk) (.int k (k.wrap (a * b)))
  | .quo => .need (k = yk ∧ b ≠ 0) (.int k (k.wrap (a.tdiv b)))
  | .rem => .need (k = yk ∧ b ≠ 0) (.int k (a.tmod b))
  | .and => .need (k = yk) (.int k (Go.bits .and k a b))
  | .or => .need (k = yk) (.int k (Go.bits .or k a b))
  | .xor => .need (k = yk) (.int k (Go.bits .xor k a b))
  | .andNot => .need (k = yk) (.int k (Go.bits .andNot k a b))
  | .eql => .need (k = yk) (.bool (decide (a = b)))
  | .neq => .need (k = yk) (.bool (decide (¬ a = b)))
  | .lss => .need (k = yk) (.bool (decide (a < b)))
  | .leq => .need (k = yk) (.bool (decide (a ≤ b)))
  | .gtr => .need (k = yk) (.bool (decide (b < a)))
  | .geq => .need (k = yk) (.bool (decide (b ≤ a)))
  | .shl => .need (0 ≤ b) (.int k (k.wrap (a * 2 ^ min b.toNat k.bits)))
  | .shr => .need (0 ≤ b) (.int k (a / 2 ^ min b.toNat k.bits))
def binV (P : Program) (op : BinOp) (t : TypeId) (u v : Value) : VRes :=
  match u, v with
  | .int k a, .int yk b => intV op k yk a b
  | _, _ =>
    match op with
    | .eql => .ov ((eqS P t u v).map .bool)
    | .neq => .ov ((eqS P t u v).map fun b => .bool (!b))
    | _ => .bad
def loadV (P : Program) (t : TypeId) (a : Addr) (st : PH) : VRes :=
  match tagg P t with
  | some true => if tok P t = true then .ov ((st.cellsAt a (tsz P t)).map .agg) else .bad
  | some false => .ov (st.cell? a)
  | none => .bad
def storeV (P : Program) (t : TypeId) (a : Addr) (v : Value) (st : PH) : VRes :=
  if tok P t = true ∧ v.cells.size = tsz P t ∧ v.cells.all Value.oneCell = true then
    .mem ((st.owned a v.cells.size).map fun x => st.upd a.block (.cells (spl x.1 a.off v.cells.toList) x.2 (0, 0)))
  else .bad
def builtinV (P : Program) (b : Builtin) (ts : List TypeId) (vs : List Value) (st : PH) : VRes :=
  match b, ts, vs with
  | .min, _, [.int k a, .int _ b] => .val (.int k (if b < a then b else a))
  | .max, _, [.int k a, .int _ b] => .val (.int k (if a < b then b else a))
  | .len, [t], [.slice _ n _] => if (tslice P t).isSome = true then .val (.int .i64 n) else .bad
  | .append, _, _ => .semv (Builtin.append_ ts.toArray 0 vs.toArray)
  | .copy, _, _ => .semv (Builtin.copy_ ts.toArray 0 vs.toArray)
  | .clear, _, _ => .semv (Builtin.clear_ ts.toArray 0 vs.toArray)
  | .cap, _, _ => .qr P st (Builtin.cap_ ts.toArray 0 vs.toArray)
  | .delete, _, _ => .semv (Builtin.delete_ ts.toArray 0 vs.toArray)
  | .len, _, _ => .qr P st (Builtin.len_ ts.toArray 0 vs.toArray)
  | _, _, _ => .bad
def callV (P : Program) (fo : Value) (args : Array Value) : VRes :=
  match fo with
  | .func (.func f) first cap => .call f (first ++ args ++ cap)
  | _ => .bad
def fieldAddrV (P : Program) (s : TypeId) (x : Value) (f : Nat) : VRes :=
  match x, tfield P s f with
  | .pointer (some a), some (o, ft) => if tok P ft = true ∧ tsz P ft ≠ 0 then .val (.pointer (some (a.add o))) else .bad
  | _, _ => .bad
def fieldV (P : Program) (s : TypeId) (x : Value) (f : Nat) : VRes :=
  match x, tfield P s f with
  | .agg cs, some (o, ft) => match tagg P ft with
    | some true => if tok P ft = true then .val (.agg (cs.extract o (o + tsz P ft))) else .bad
    | some false => .ov cs[o]?
    | none => .bad
  | _, _ => .bad
def indexAddrV (P : Program) (t : TypeId) (x i : Value) : VRes :=
  match x, i, tslice P t with
  | .slice a len _, .int _ n, some e => if tok P e = true then .need (a.isSome = true ∧ 0 ≤ n ∧ n < len) (.pointer (some ((a.getD ⟨0, 0, none⟩).add (n.toNat * tsz P e)))) else .bad
  | _, _, _ => .bad
def convertV (P : Program) (src dst : TypeId) (x : Value) : VRes :=
  match x, tint P dst with
  | .int _ n, some k => if (P.underlying src).isSome = true then .val (.int k (k.wrap n)) else .bad
  | _, _ => .bad
def unV (op : UnOp) (u : Value) : VRes :=
  match op, u with
  | .not, .bool b => .val (.bool (!b))
  | .neg, .int k n => .val (.int k (k.wrap (-n)))
  | _, _ => .bad
def pickV (c a b : Value) : VRes :=
  match c with
  | .bool z => .val (if z = true then a else b)
  | _ => .bad
def allocV (P : Program) (t : TypeId) : VRes :=
  match tzero P t with
  | some z => .new (.cells z.cells t (0, 0))
  | none => .bad
def extractV (x : Value) (i : Nat) : VRes :=
  match x with
  | .tuple vs => .ov vs[i]?
  | _ => .bad
def sliceV (P : Program) (t : TypeId) (x : Value) (lo hi mx : Option Value) : VRes :=
  match tslice P t, x with
  | some e, .slice a len cap => match boundV lo 0, boundV hi len, boundV mx cap with
    | some l, some h, some m => if tok P e = true ∧ (mx.isSome = true → hi.isSome = true) then .need (0 ≤ l ∧ l ≤ h ∧ h ≤ m ∧ m ≤ cap) (.slice (slAt a l.toNat m.toNat (tsz P e)) (h.toNat - l.toNat) (m.toNat - l.toNat)) else .bad
    | _, _, _ => .bad
  | _, _ => .bad
def stepV (P : Program) (F : FR) (st : PH) : Op → VRes
  | .move x | .assign x => .val (ev F x)
  | .pick c a b => pickV (ev F c) (ev F a) (ev F b)
  | .alloc t => allocV P t
  | .box t x => .new (.cells (ev F x).cells t (0, 0))
  | .build t ps => .ov (buildS P t (ps.toList.map fun x => (x.1, ev F x.2)))
  | .load t x => match ev F x with
    | .pointer (some a) => loadV P t a st
    | _ => .bad
  | .store t x y => match ev F x with
    | .pointer (some a) => storeV P t a (ev F y) st
    | _ => .bad
  | .nilCheck x => match ev F x with
    | .pointer (some a) => .val (.pointer (some a))
    | _ => .bad
  | .binOp op t x y _ => binV P op t (ev F x) (ev F y)
  | .unOp op _ x => unV op (ev F x)
  | .convert src dst x => convertV P src dst (ev F x)
  | .fieldAddr s x f => fieldAddrV P s (ev F x) f
  | .field s x f => fieldV P s (ev F x) f
  | .indexAddr t x i => indexAddrV P t (ev F x) (ev F i)
  | .extract x i => extractV (ev F x) i
  | .call c => match c.callee with
    | .value fo => callV P (ev F fo) (c.args.map (ev F))
    | .builtin b => builtinV P b c.argTypes.toList (c.args.toList.map (ev F)) st
    | .invoke _ _ => .bad
  | .buildSlice t len ps => .semv (Instr.buildSlice t len (ps.map fun (i, x) => (i, ev F x)))
  | .makeSlice t l c => .semv (Instr.makeSlice t (ev F l) (ev F c))
  | .slice t x lo hi mx => sliceV P t (ev F x) (lo.map (ev F)) (hi.map (ev F)) (mx.map (ev F))
  | .index t x i => .semv (Instr.index t (ev F x) (ev F i))
  | .makeFunc fn first cap => .semv (Instr.makeFunc fn (first.map (ev F)) (cap.map (ev F)))
  | .makeMap t r => .semv (Instr.makeMap t (r.map (ev F)))
  | .lookup t x i ok => .qr P st (Instr.lookup t (ev F x) (ev F i) ok)
  | .range t x => .semv (Instr.range t (ev F x))
  | .next x s => .semv (Instr.next (ev F x) s 0)
  | .entry x => .qr P st (Instr.entry (ev F x))
  | .mapUpdate t m k x | .insert t m k x => .semu (Instr.mapUpdate t (ev F m) (ev F k) (ev F x))
  | _ => .bad

theorem intV_ok {P : Program} {op : BinOp} {k yk : IntKind} {a b : Int} {st : PH} {K : Value → PH → Prop} (h : (intV op k yk a b).told P st K) : binI op k yk a b fun v => K v st := by
  cases op <;> simp only [intV, VRes.told] at h <;> simp only [binI] <;> first | exact h | exact ⟨h.1.1, h.1.2, h.2⟩
theorem stepV_ok {P : Program} {F : FR} {st : PH} {K : Value → PH → Prop} (o : Op) (hq : ∀ P' T s, stepV P F st o ≠ .qr P' T s) (h : (stepV P F st o).told P st K) : opS P (ev F) st K o := by
  cases o with
  | move x => exact h
  | assign x => exact h
  | pick c a b =>
    simp only [stepV, pickV] at h
    simp only [opS, onBool]
    generalize ev F c = u at h ⊢
    split at h
    · exact h
    · exact h.elim
  | alloc t =>
    simp only [stepV, allocV] at h
    split at h
    · rename_i z hz; exact ⟨z, hz, h⟩
    · exact h.elim
  | box t x => exact h
  | build t ps => exact h
  | load t x =>
    simp only [stepV] at h
    simp only [opS]
    generalize ev F x = u at h ⊢
    split at h
    · unfold loadV at h
      simp only
      unfold loadS
      generalize tagg P t = g at h ⊢
      split at h
      · split at h
        · rename_i hk
          obtain ⟨v, hv, hK⟩ := h
          obtain ⟨cs, hc, rfl⟩ := Option.map_eq_some_iff.1 hv
          exact ⟨hk, cs, hc, hK⟩
        · exact h.elim
      · exact h
      · exact h.elim
    · exact h.elim
  | store t x y =>
    simp only [stepV] at h
    simp only [opS]
    generalize ev F x = u at h ⊢
    split at h
    · unfold storeV at h
      split at h
      · rename_i hc
        obtain ⟨st', hs, hK⟩ := h
        obtain ⟨⟨c, e⟩, ho, rfl⟩ := Option.map_eq_some_iff.1 hs
        exact ⟨hc.1, hc.2.1, hc.2.2, c, e, ho, hK⟩
      · exact h.elim
    · exact h.elim
  | nilCheck x =>
    simp only [stepV] at h
    simp only [opS]
    generalize ev F x = u at h ⊢
    split at h
    · exact h
    · exact h.elim
  | binOp op t x y t' =>
    simp only [stepV] at h
    simp only [opS]
    generalize ev F x = u at h ⊢
    generalize ev F y = u2 at h ⊢
    unfold binV at h
    unfold binS
    cases u <;> cases u2 <;> first
      | exact intV_ok h
      | (cases op <;> first | exact h.elim | (obtain ⟨w, hw, hK⟩ := h; obtain ⟨b, hb, rfl⟩ := Option.map_eq_some_iff.1 hw; exact ⟨b, eqS_ok hb, hK⟩))
  | unOp op t x =>
    simp only [stepV] at h
    simp only [opS]
    generalize ev F x = u at h ⊢
    unfold unV at h
    unfold unS
    split at h
    · exact h
    · exact h
    · exact h.elim
  | convert src dst x =>
    simp only [stepV, convertV] at h
    simp only [opS]
    split at h
    · rename_i k n k2 hx hk
      split at h
      · rename_i hs
        rw [hx]
        exact ⟨hs, k2, hk, h⟩
      · exact h.elim
    · exact h.elim
  | fieldAddr s x f =>
    simp only [stepV, fieldAddrV] at h
    simp only [opS]
    split at h
    · rename_i a o ft hx hf
      split at h
      · rename_i hc
        rw [hx]
        exact ⟨o, ft, hf, hc.1, hc.2, h⟩
      · exact h.elim
    · exact h.elim
  | field s x f =>
    simp only [stepV, fieldV] at h
    simp only [opS]
    split at h
    · rename_i cs o ft hx hf
      rw [hx]
      refine ⟨o, ft, hf, ?_⟩
      split at h
      · rename_i ht
        split at h
        · rename_i hk; rw [ht]; exact ⟨hk, h⟩
        · exact h.elim
      · rename_i ht; rw [ht]; exact h
      · exact h.elim
    · exact h.elim
  | indexAddr t x i =>
    simp only [stepV, indexAddrV] at h
    simp only [opS]
    split at h
    · rename_i a len cap k n e hx hi he
      split at h
      · rename_i hk
        obtain ⟨⟨hs, h0, h1⟩, hK⟩ := h
        obtain ⟨b, rfl⟩ := Option.isSome_iff_exists.1 hs
        rw [hx, hi]
        exact ⟨e, he, hk, h0, h1, hK⟩
      · exact h.elim
    · exact h.elim
  | slice t x lo hi mx =>
    simp only [stepV, sliceV] at h
    simp only [opS]
    generalize ev F x = u at h ⊢
    split at h
    · rename_i e a len cap he
      split at h
      · rename_i l hh m hl hhi hm
        split at h
        · rename_i hc
          obtain ⟨⟨h0, h1, h2, h3⟩, hK⟩ := h
          exact ⟨e, a, len, cap, l, hh, m, he, hc.1, rfl, hl, hhi, hm, hc.2, h0, h1, h2, h3, hK⟩
        · exact h.elim
      · exact h.elim
    · exact h.elim
  | extract x i =>
    simp only [stepV, extractV] at h
    simp only [opS]
    generalize ev F x = u at h ⊢
    split at h
    · exact h
    · exact h.elim
  | call c =>
    obtain ⟨callee, xs, ts⟩ := c
    cases callee with
    | value fo =>
      simp only [stepV] at h
      simp only [opS]
      generalize ev F fo = u at h ⊢
      unfold callV at h
      split at h
      · exact h
      · exact h.elim
    | builtin b =>
      simp only [stepV] at h
      simp only [opS]
      have hq' : ∀ P' T s, builtinV P b ts.toList (xs.toList.map (ev F)) st ≠ .qr P' T s := hq
      clear hq
      generalize xs.toList.map (ev F) = vs at h hq' ⊢
      generalize ts.toList = tl at h hq' ⊢
      generalize hb : builtinV P b tl vs st = r at h hq'
      unfold builtinV at hb
      split at hb
      · subst hb; exact h
      · subst hb; exact h
      · split at hb
        · rename_i hs; subst hb; exact ⟨hs, h⟩
        · subst hb; exact h.elim
      all_goals (subst hb; first | exact h.elim | exact absurd rfl (hq' _ _ _))
    | invoke r n => exact h.elim
  | _ => first | exact h.elim | exact absurd rfl (hq _ _ _)

/-! ### along the code, what follows being a name -/
/-- What follows an operation. -/
def Aft (K : FR → PH → Prop) (d : Option Tmp) (F : FR) (v : Value) (st : PH) : Prop := K (put F d v) st
/-- A new block. -/
def NewK (st : PH) (o : Obj) (K : Value → PH → Prop) : Prop := ∀ r, st r = none → K (.pointer (some ⟨r, 0, none⟩)) (st.upd r o)
def EqK (P : Program) (t : TypeId) (u v : Value) (neg : Bool) (st : PH) (K : Value → PH → Prop) : Prop := ∃ b, EqAt P t u v b ∧ K (.bool (if neg then !b else b)) st
/-- What an action that isn't told as data comes to. -/
def SemK (P : Program) (s : Sem Value) (st : PH) (K : Value → PH → Prop) : Prop := swp P s st K
def SemU (P : Program) (s : Sem Unit) (st : PH) (K : Value → PH → Prop) : Prop := swp P s st fun _ st' => K undef st'
/-- What is read, nothing being turned. -/
def QrK (P : Program) (s : Sem Value) (T : PH) (K : Value → Prop) : Prop := ∃ v, swp P s T (fun u st' => u = v ∧ st' = T) ∧ K v
def cont (P : Program) (st : PH) (K : FR → PH → Prop) (d : Option Tmp) (F : FR) : VRes → Prop
  | .val v => K (put F d v) st
  | .need p v => p ∧ K (put F d v) st
  | .ov (some v) => K (put F d v) st
  | .ov none => False
  | .new o => NewK st o (Aft K d F)
  | .mem (some st') => K (put F d undef) st'
  | .mem none => False
  | .call f args => Real P f ∧ ACalls P f args st (Aft K d F)
  | .eqs t u v neg => EqK P t u v neg st (Aft K d F)
  | .sem p => p (Aft K d F)
  | .semv s => SemK P s st (Aft K d F)
  | .semu s => SemU P s st (Aft K d F)
  | .qr P' T s => QrK P' s T fun v => K (put F d v) st
  | .bad => False
theorem cont_ok {P : Program} {st : PH} {K : FR → PH → Prop} {d : Option Tmp} {F : FR} {x : VRes} (h1 : ∀ s, x ≠ .semv s) (h2 : ∀ s, x ≠ .semu s) (h3 : ∀ P' T s, x ≠ .qr P' T s) (h : cont P st K d F x) : x.told P st (Aft K d F) := by
  cases x with
  | semv s => exact absurd rfl (h1 s)
  | semu s => exact absurd rfl (h2 s)
  | qr P' T s => exact absurd rfl (h3 P' T s)
  | ov x => cases x with
    | none => exact h.elim
    | some v => exact ⟨v, rfl, h⟩
  | mem x => cases x with
    | none => exact h.elim
    | some v => exact ⟨v, rfl, h⟩
  | _ => exact h
def guardK (b : Option Bool) (want : Bool) (X Y : FR → PH → Prop) (F : FR) (st : PH) : Prop :=
  match b with
  | some b => (b = want → X F st) ∧ (¬ b = want → Y F st)
  | none => Y F st
def runOp (P : Program) (K : FR → PH → Prop) (o : Oper) (F : FR) (st : PH) : Prop := cont P st K o.dst F (stepV P F st o.op)
def skipOp (K : FR → PH → Prop) (d : Option Tmp) (F : FR) (st : PH) : Prop := K (put F d undef) st
def hlawp (P : Program) (ops : Array Oper) (Q : FR → PH → Prop) : List Oper → FR → PH → Prop
  | [], F, st => Q F st
  | o :: rest, F, st =>
    match o.guard with
    | none => runOp P (hlawp P ops Q rest) o F st
    | some (j, want) => guardK (gval ops F j) want (runOp P (hlawp P ops Q rest) o) (skipOp (hlawp P ops Q rest) o.dst) F st
theorem semv_fop {P : Program} {o : Oper} {F : FR} {st : PH} {K : FR → PH → Prop} {s : Sem Value} (he : execOp (ev F) o = s >>= fun v => pure (Go.Next.value v)) (h : SemK P s st (Aft K o.dst F)) : fop P o F st K := by
  unfold fop; rw [he]
  exact swp_bind (swp_mono (fun v st' k => swp_pure (a := Go.Next.value v) (Q := fnext P o.dst F K) k) _ _ h)
theorem semu_fop {P : Program} {o : Oper} {F : FR} {st : PH} {K : FR → PH → Prop} {s : Sem Unit} (he : execOp (ev F) o = s >>= fun _ => pure Go.Next.skip) (h : SemU P s st (Aft K o.dst F)) : fop P o F st K := by
  unfold fop; rw [he]
  exact swp_bind (swp_mono (fun v st' k => swp_pure (a := Go.Next.skip) (Q := fnext P o.dst F K) k) _ _ h)
theorem builtin_semv {P : Program} {b : Builtin} {ts : List TypeId} {vs : List Value} {st : PH} {s : Sem Value} (h : builtinV P b ts vs st = .semv s) (ty : TypeId) (cs : Array Bool) : builtin b ts.toArray ty cs vs.toArray = s >>= fun v => pure (Go.Next.value v) := by
  unfold builtinV at h
  split at h <;> first
    | (injection h with h; subst h; rfl)
    | cases h
    | (split at h <;> cases h)
theorem builtin_semu {P : Program} {b : Builtin} {ts : List TypeId} {vs : List Value} {st : PH} {s : Sem Unit} (h : builtinV P b ts vs st = .semu s) : False := by
  unfold builtinV at h
  split at h <;> first
    | cases h
    | (split at h <;> cases h)
theorem intV_semv {op : BinOp} {k yk : IntKind} {a b : Int} {s : Sem Value} : intV op k yk a b ≠ .semv s := by cases op <;> (intro h; cases h)
theorem intV_semu {op : BinOp} {k yk : IntKind} {a b : Int} {s : Sem Unit} : intV op k yk a b ≠ .semu s := by cases op <;> (intro h; cases h)
theorem binV_semv {P : Program} {op : BinOp} {t : TypeId} {u v : Value} {s : Sem Value} : binV P op t u v ≠ .semv s := by
  unfold binV; intro h
  split at h
  · exact intV_semv h
  · split at h <;> cases h
theorem binV_semu {P : Program} {op : BinOp} {t : TypeId} {u v : Value} {s : Sem Unit} : binV P op t u v ≠ .semu s := by
  unfold binV; intro h
  split at h
  · exact intV_semu h
  · split at h <;> cases h
theorem stepV_semv {P : Program} {F : FR} {st : PH} {o : Oper} {s : Sem Value} (h : stepV P F st o.op = .semv s) : execOp (ev F) o = s >>= fun v => pure (Go.Next.value v) := by
  obtain ⟨d, op, ty, pos, af, g⟩ := o
  cases op with
  | call c =>
    obtain ⟨callee, xs, ts⟩ := c
    cases callee with
    | value fo => simp only [stepV, callV] at h; split at h <;> cases h
    | builtin b =>
      simp only [stepV] at h
      rw [execOp_builtin]
      have := builtin_semv h ty (xs.map fun | .const _ => true | _ => false)
      have e1 : xs.map (ev F) = (xs.toList.map (ev F)).toArray := by apply Array.ext'; simp
      rw [e1]
      rw [Array.toArray_toList] at this
      exact this
    | invoke r n => simp only [stepV] at h; cases h
  | binOp op t x y t' => exact absurd h binV_semv
  | buildSlice t len ps => injection h with h; subst h; rfl
  | makeSlice t l c => injection h with h; subst h; rfl
  | index t x i => injection h with h; subst h; rfl
  | makeMap t r => injection h with h; subst h; rfl
  | makeFunc fn a b => injection h with h; subst h; rfl
  | range t x => injection h with h; subst h; rfl
  | next x s => injection h with h; subst h; rfl
  | _ =>
    simp only [stepV, pickV, allocV, loadV, storeV, fieldAddrV, fieldV, indexAddrV, convertV, unV, extractV, sliceV] at h
    repeat' split at h
    all_goals cases h
theorem stepV_semu {P : Program} {F : FR} {st : PH} {o : Oper} {s : Sem Unit} (h : stepV P F st o.op = .semu s) : execOp (ev F) o = s >>= fun _ => pure Go.Next.skip := by
  obtain ⟨d, op, ty, pos, af, g⟩ := o
  cases op with
  | call c =>
    obtain ⟨callee, xs, ts⟩ := c
    cases callee with
    | value fo => simp only [stepV, callV] at h; split at h <;> cases h
    | builtin b => exact (builtin_semu (st := st) h).elim
    | invoke r n => simp only [stepV] at h; cases h
  | binOp op t x y t' => exact absurd h binV_semu
  | mapUpdate t m k x => injection h with h; subst h; rfl
  | insert t m k x => injection h with h; subst h; rfl
  | _ =>
    simp only [stepV, pickV, allocV, loadV, storeV, fieldAddrV, fieldV, indexAddrV, convertV, unV, extractV, sliceV] at h
    repeat' split at h
    all_goals cases h
theorem builtin_qr {P P' : Program} {T : PH} {b : Builtin} {ts : List TypeId} {vs : List Value} {st : PH} {s : Sem Value} (h : builtinV P b ts vs st = .qr P' T s) (ty : TypeId) (cs : Array Bool) : P' = P ∧ T = st ∧ builtin b ts.toArray ty cs vs.toArray = s >>= fun v => pure (Go.Next.value v) := by
  unfold builtinV at h
  split at h <;> first
    | (injection h with h1 h2 h3; subst h1; subst h2; subst h3; exact ⟨rfl, rfl, rfl⟩)
    | cases h
    | (split at h <;> cases h)
theorem intV_qr {op : BinOp} {k yk : IntKind} {a b : Int} {P : Program} {T : PH} {s : Sem Value} : intV op k yk a b ≠ .qr P T s := by cases op <;> (intro h; cases h)
theorem binV_qr {P P' : Program} {T : PH} {op : BinOp} {t : TypeId} {u v : Value} {s : Sem Value} : binV P op t u v ≠ .qr P' T s := by
  unfold binV; intro h
  split at h
  · exact intV_qr h
  · split at h <;> cases h
theorem stepV_qr {P P' : Program} {T : PH} {F : FR} {st : PH} {o : Oper} {s : Sem Value} (h : stepV P F st o.op = .qr P' T s) : P' = P ∧ T = st ∧ execOp (ev F) o = s >>= fun v => pure (Go.Next.value v) := by
  obtain ⟨d, op, ty, pos, af, g⟩ := o
  cases op with
  | call c =>
    obtain ⟨callee, xs, ts⟩ := c
    cases callee with
    | value fo => simp only [stepV, callV] at h; split at h <;> cases h
    | builtin b =>
      simp only [stepV] at h
      rw [execOp_builtin]
      have := builtin_qr h ty (xs.map fun | .const _ => true | _ => false)
      have e1 : xs.map (ev F) = (xs.toList.map (ev F)).toArray := by apply Array.ext'; simp
      rw [e1]
      rw [Array.toArray_toList] at this
      exact this
    | invoke r n => simp only [stepV] at h; cases h
  | binOp op t x y t' => exact absurd h binV_qr
  | lookup t x i ok => injection h with h1 h2 h3; subst h1; subst h2; subst h3; exact ⟨rfl, rfl, rfl⟩
  | entry x => injection h with h1 h2 h3; subst h1; subst h2; subst h3; exact ⟨rfl, rfl, rfl⟩
  | _ =>
    simp only [stepV, pickV, allocV, loadV, storeV, fieldAddrV, fieldV, indexAddrV, convertV, unV, extractV, sliceV] at h
    repeat' split at h
    all_goals cases h
theorem qr_run {P : Program} {s : Sem Value} {T : PH} {v : Value} (h : swp P s T (fun u st' => u = v ∧ st' = T)) {w : World} (hs : Sub T w) : ∃ w', (s >>= fun v => pure (Go.Next.value v)).run P w = .ok (Go.Next.value v) w' ∧ Next T w T w' := by
  obtain ⟨x, st', w', hr, ⟨rfl, rfl⟩, hn⟩ := h w hs
  exact ⟨w', by rw [Sem.run_bind, hr]; rfl, hn⟩
theorem step_fop {P : Program} {o : Oper} {F : FR} {st : PH} {K : FR → PH → Prop} (h : cont P st K o.dst F (stepV P F st o.op)) : fop P o F st K := by
  by_cases h1 : ∃ s, stepV P F st o.op = .semv s
  · obtain ⟨s, hs⟩ := h1
    rw [hs] at h
    exact semv_fop (stepV_semv hs) h
  by_cases h2 : ∃ s, stepV P F st o.op = .semu s
  · obtain ⟨s, hs⟩ := h2
    rw [hs] at h
    exact semu_fop (stepV_semu hs) h
  by_cases h3 : ∃ P' T s, stepV P F st o.op = .qr P' T s
  · obtain ⟨P', T, s, hs⟩ := h3
    rw [hs] at h
    obtain ⟨rfl, rfl, he⟩ := stepV_qr hs
    obtain ⟨v, hv, hk⟩ := h
    exact semv_fop he (swp_mono (fun u st' ⟨e1, e2⟩ => by subst e1; subst e2; exact hk) _ _ hv)
  have h3' : ∀ P' T s, stepV P F st o.op ≠ .qr P' T s := fun P' T s e => h3 ⟨P', T, s, e⟩
  exact swp_of_awp (opS_ok (stepV_ok _ h3' (cont_ok (fun s e => h1 ⟨s, e⟩) (fun s e => h2 ⟨s, e⟩) h3' h)) (fun v st' k => k) (fun _ st' k => k) (fun _ f args st' k => k))
theorem hlawp_ok {P : Program} {ops : Array Oper} {Q : FR → PH → Prop} : ∀ (l : List Oper) (F : FR) (st : PH), hlawp P ops Q l F st → flawp P ops Q l F st := by
  intro l
  induction l with
  | nil => intro F st h; exact h
  | cons o l ih =>
    intro F st h
    unfold hlawp at h
    unfold flawp
    have one : ∀ F st, cont P st (hlawp P ops Q l) o.dst F (stepV P F st o.op) → fop P o F st (flawp P ops Q l) := fun F st h =>
      swp_mono (fun n st' hn => by cases n <;> first | exact hn.elim | exact ih _ _ hn | exact ACalls.mono hn fun _ _ => ih _ _) _ _ (step_fop h)
    cases hg : o.guard with
    | none => simp only [hg] at h; exact one _ _ h
    | some g =>
      obtain ⟨j, want⟩ := g
      simp only [hg] at h
      simp only
      cases hv : gval ops F j with
      | none => rw [hv] at h; rw [if_neg (by intro e; cases e)]; exact ih _ _ h
      | some b =>
        rw [hv] at h
        simp only [guardK] at h
        by_cases hb : b = want
        · rw [if_pos (by rw [hb])]; exact one _ _ (h.1 hb)
        · rw [if_neg (by intro e; injection e with e; exact hb e)]; exact ih _ _ (h.2 hb)
def condK (v : Value) (X Y : (Exit → FR → PH → Prop) → FR → PH → Prop) (Q : Exit → FR → PH → Prop) (F : FR) (st : PH) : Prop :=
  match v with
  | .bool b => (b = true → X Q F st) ∧ (b = false → Y Q F st)
  | _ => False
def hwp (P : Program) : Code → (Exit → FR → PH → Prop) → FR → PH → Prop
  | .skip, Q, F, st => Q .normal F st
  | .exit id, Q, F, st => Q (.exit id) F st
  | .ret, Q, F, st => Q .ret F st
  | .seq x y, Q, F, st => hwp P x (FThen (hwp P y Q) Q) F st
  | .cond c x y, Q, F, st => condK (ev F c) (hwp P x) (hwp P y) Q F st
  | .block id c, Q, F, st => hwp P c (FBlock id Q) F st
  | .region _ ops false, Q, F, st => hlawp P ops (Q .normal) ops.toList F st
  | c, Q, F, st => FSem P c Q F st
theorem guardK_n {w : Bool} {X Y : FR → PH → Prop} {F : FR} {st : PH} : guardK none w X Y F st = Y F st := rfl
theorem guardK_tt {X Y : FR → PH → Prop} {F : FR} {st : PH} : guardK (some true) true X Y F st = X F st := by simp [guardK]
theorem guardK_tf {X Y : FR → PH → Prop} {F : FR} {st : PH} : guardK (some true) false X Y F st = Y F st := by simp [guardK]
theorem guardK_ft {X Y : FR → PH → Prop} {F : FR} {st : PH} : guardK (some false) true X Y F st = Y F st := by simp [guardK]
theorem guardK_ff {X Y : FR → PH → Prop} {F : FR} {st : PH} : guardK (some false) false X Y F st = X F st := by simp [guardK]
theorem condK_t {X Y : (Exit → FR → PH → Prop) → FR → PH → Prop} {Q : Exit → FR → PH → Prop} {F : FR} {st : PH} : condK (.bool true) X Y Q F st = X Q F st := by simp [condK]
theorem condK_f {X Y : (Exit → FR → PH → Prop) → FR → PH → Prop} {Q : Exit → FR → PH → Prop} {F : FR} {st : PH} : condK (.bool false) X Y Q F st = Y Q F st := by simp [condK]
/-- A guard that isn't decided: both ways. -/
theorem guardK_dec {p : Prop} [Decidable p] {w : Bool} {X Y : FR → PH → Prop} {F : FR} {st : PH} (h1 : p → guardK (some true) w X Y F st) (h2 : ¬ p → guardK (some false) w X Y F st) : guardK (some (decide p)) w X Y F st := by
  by_cases h : p
  · rw [decide_eq_true h]; exact h1 h
  · rw [decide_eq_false h]; exact h2 h
theorem guardK_bool {b w : Bool} {X Y : FR → PH → Prop} {F : FR} {st : PH} (h1 : b = true → guardK (some true) w X Y F st) (h2 : b = false → guardK (some false) w X Y F st) : guardK (some b) w X Y F st := by
  cases b
  · exact h2 rfl
  · exact h1 rfl
theorem condK_dec {p : Prop} [Decidable p] {X Y : (Exit → FR → PH → Prop) → FR → PH → Prop} {Q : Exit → FR → PH → Prop} {F : FR} {st : PH} (h1 : p → X Q F st) (h2 : ¬ p → Y Q F st) : condK (.bool (decide p)) X Y Q F st := by
  refine ⟨fun h => h1 (of_decide_eq_true h), fun h => h2 (of_decide_eq_false h)⟩
theorem hwp_sem {P : Program} : ∀ (c : Code) (Q : Exit → FR → PH → Prop) (F : FR) (st : PH), hwp P c Q F st → FSem P c Q F st := by
  intro c
  induction c with
  | skip => exact fun Q F st h => fwp_sound .skip Q F st h
  | exit id => exact fun Q F st h => fwp_sound (.exit id) Q F st h
  | ret => exact fun Q F st h => fwp_sound .ret Q F st h
  | seq x y ihx ihy =>
    intro Q F st h
    refine cwp_seq (cwp_mono (ihx _ _ _ h) ?_)
    rintro e a st' ⟨F', rfl, hq⟩
    cases e with
    | normal => exact ihy _ _ _ hq
    | _ => exact ⟨F', rfl, hq⟩
  | cond c x y ihx ihy =>
    intro Q F st h
    simp only [hwp, condK] at h
    split at h
    · rename_i b hb
      refine cwp_cond (t := b) (by rw [ev_mk]; exact hb) ?_
      cases b with
      | true => exact ihx _ _ _ (h.1 rfl)
      | false => exact ihy _ _ _ (h.2 rfl)
    · exact h.elim
  | block id c ih =>
    intro Q F st h
    refine cwp_block (cwp_mono (ih _ _ _ h) ?_)
    rintro e a st' ⟨F', rfl, hq⟩
    cases e with
    | exit id' =>
      simp only [InBlock]
      simp only [FBlock] at hq
      split
      · rename_i hid; rw [if_pos hid] at hq; exact ⟨F', rfl, hq⟩
      · rename_i hid; rw [if_neg hid] at hq; exact ⟨F', rfl, hq⟩
    | _ => exact ⟨F', rfl, hq⟩
  | region id ops draw =>
    intro Q F st h
    cases draw with
    | true => exact h
    | false => exact cwp_region (flawp_sound (fun F st h => ⟨F, rfl, h⟩) _ _ _ (hlawp_ok _ _ _ h))
  | _ => exact fun Q F st h => h
section
variable {P : Program} {Q : Exit → FR → PH → Prop} {F : FR} {st : PH} {x y : Code} {ops : Array Oper} {K : FR → PH → Prop} {d : Option Tmp} {op : Op} {ty : TypeId} {pos : String} {af : Array Edge} {j id : Nat} {w : Bool} {rest : List Oper} {l : List Oper}
theorem hwp_skip : hwp P .skip Q F st = Q .normal F st := rfl
theorem hwp_exit : hwp P (.exit id) Q F st = Q (.exit id) F st := rfl
theorem hwp_ret : hwp P .ret Q F st = Q .ret F st := rfl
theorem hwp_seq : hwp P (.seq x y) Q F st = hwp P x (FThen (hwp P y Q) Q) F st := rfl
theorem hwp_cond {c : Operand} : hwp P (.cond c x y) Q F st = condK (ev F c) (hwp P x) (hwp P y) Q F st := rfl
theorem hwp_block : hwp P (.block id x) Q F st = hwp P x (FBlock id Q) F st := rfl
theorem hwp_region : hwp P (.region id l.toArray false) Q F st = hlawp P l.toArray (Q .normal) l F st := rfl
theorem hwp_loop : hwp P (.loop x) Q F st = FSem P (.loop x) Q F st := rfl
theorem hlawp_nil : hlawp P ops K [] F st = K F st := rfl
theorem hlawp_cons : hlawp P ops K (⟨d, op, ty, pos, af, none⟩ :: rest) F st = cont P st (hlawp P ops K rest) d F (stepV P F st op) := rfl
theorem hlawp_guard : hlawp P ops K (⟨d, op, ty, pos, af, some (j, w)⟩ :: rest) F st = guardK (gval ops F j) w (runOp P (hlawp P ops K rest) ⟨d, op, ty, pos, af, some (j, w)⟩) (skipOp (hlawp P ops K rest) d) F st := rfl
theorem runOp_def {g : Option (Nat × Bool)} : runOp P K ⟨d, op, ty, pos, af, g⟩ F st = cont P st K d F (stepV P F st op) := rfl
theorem skipOp_def : skipOp K d F st = K (put F d undef) st := rfl
theorem fthen_normal : FThen K Q .normal F st = K F st := rfl
theorem fthen_ret : FThen K Q .ret F st = Q .ret F st := rfl
theorem fthen_exit : FThen K Q (.exit id) F st = Q (.exit id) F st := rfl
theorem fthen_part : FThen K Q .normal = K := rfl
theorem fblock_part : FBlock id Q .normal = Q .normal := rfl
theorem fblock_normal : FBlock id Q .normal F st = Q .normal F st := rfl
theorem fblock_ret : FBlock id Q .ret F st = Q .ret F st := rfl
theorem fblock_same : FBlock id Q (.exit id) F st = Q .normal F st := by simp [FBlock]
theorem fblock_other (h : j ≠ id) : FBlock id Q (.exit j) F st = Q (.exit j) F st := by simp [FBlock, h]
theorem put_some {t : Nat} {v : Value} : put F (some t) v = F.set t v := rfl
theorem put_none {v : Value} : put F none v = F := rfl
theorem ev_tmp {t : Nat} : ev F (.tmp t) = F.getD t undef := rfl
theorem ev_const {v : Value} : ev F (.const v) = v := rfl
theorem ev_func {f : FuncId} : ev F (.func f) = .func (.func f) #[] #[] := rfl
theorem cont_val {v : Value} : cont P st K d F (.val v) = K (put F d v) st := rfl
theorem cont_need {p : Prop} {v : Value} : cont P st K d F (.need p v) = (p ∧ K (put F d v) st) := rfl
theorem cont_ov {v : Value} : cont P st K d F (.ov (some v)) = K (put F d v) st := rfl
theorem cont_mem {st' : PH} : cont P st K d F (.mem (some st')) = K (put F d undef) st' := rfl
theorem cont_new {o : Obj} : cont P st K d F (.new o) = NewK st o (Aft K d F) := rfl
theorem cont_call {f : FuncId} {args : Array Value} : cont P st K d F (.call f args) = (Real P f ∧ ACalls P f args st (Aft K d F)) := rfl
theorem cont_eqs {t : TypeId} {u v : Value} {n : Bool} : cont P st K d F (.eqs t u v n) = EqK P t u v n st (Aft K d F) := rfl
theorem cont_semv {s : Sem Value} : cont P st K d F (.semv s) = SemK P s st (Aft K d F) := rfl
theorem cont_qr {P' : Program} {T : PH} {s : Sem Value} : cont P st K d F (.qr P' T s) = QrK P' s T fun v => K (put F d v) st := rfl
theorem cont_semu {s : Sem Unit} : cont P st K d F (.semu s) = SemU P s st (Aft K d F) := rfl
theorem aft_def {v : Value} : Aft K d F v st = K (put F d v) st := rfl
theorem match_undef : (match some undef with | some (Value.bool b) => some b | _ => none) = (none : Option Bool) := rfl
theorem gval_def : gval ops F j = match ((ops[j]?).bind (·.dst)).bind (F[·]?) with | some (.bool b) => some b | _ => none := rfl
end
theorem acalls_of_hwp {P : Program} {f : FuncId} {fn : Func} {c : Code} {args : List Value} {st : PH} {R : Value → PH → Prop}
    (hf : P.funcs[f]? = some fn) (hb : fn.body = some c) {F : FR} (hF : args ++ List.replicate (fn.ntmps - args.length) undef = F)
    (h : hwp P c (gret P fn R) F st) : ACalls P f args.toArray st R := by
  refine acalls_of_cwp hf hb (cwp_mono (Q := fun e a st' => ∃ F', a = mk F' ∧ fret P fn R e F' st') ?_ ?_)
  · have e : ({ tmps := args.toArray ++ Array.replicate (fn.ntmps - args.toArray.size) undef, defers := [] } : Act) = mk F := by
      rw [← hF]; unfold mk; simp
    rw [e]
    exact fsem_mono gret_ok (hwp_sem _ _ _ _ h)
  · rintro e a st' ⟨F', rfl, hq⟩
    cases e <;> first | exact hq.elim | exact ⟨rfl, hq⟩
end Go.Proofs.Ytfmfkablbaoofaa.Ae
