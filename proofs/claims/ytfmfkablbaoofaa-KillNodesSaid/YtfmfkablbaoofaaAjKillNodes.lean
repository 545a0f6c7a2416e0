/- The evaluator for a region that draws its order, in a form that simp runs; its soundness; no condition beyond the ones that the theorem names. -/
import Derived.Test.YtfmfkablbaoofaaAiKillNodes
set_option linter.unusedVariables false
set_option linter.unusedSimpArgs false
namespace Go.Proofs.Ytfmfkablbaoofaa.Ae
open Go

theorem cell_lit {st : PH} {p off : Nat} : st.cell? ⟨p, off, none⟩ = match st p with | some (.cells c _ _) => c[off]? | _ => none := rfl
theorem cellsAt_lit {st : PH} {p off n : Nat} : st.cellsAt ⟨p, off, none⟩ n = match st p with | some (.cells c _ _) => if off + n ≤ c.size then some (c.extract off (off + n)) else none | _ => none := by
  unfold PH.cellsAt; simp only [true_and]; rfl
theorem owned_lit {st : PH} {p off n : Nat} : st.owned ⟨p, off, none⟩ n = match st p with | some (.cells c e (0, 0)) => if off + n ≤ c.size then some (c, e) else none | _ => none := by
  unfold PH.owned; simp only [true_and]; rfl
theorem cell_lies {T S : PH} (h : Lies T S) {a : Addr} {v : Value} (e : T.cell? a = some v) : S.cell? a = some v := by
  unfold PH.cell? at e ⊢
  split at e
  · rename_i c t f hb; rw [h _ _ hb]; exact e
  · cases e
/-- A reading of what lay there ahead. -/
theorem cont_rd {P : Program} {T st : PH} {K : FR → PH → Prop} {d : Option Tmp} {F : FR} {a : Addr} {v : Value} (hl : T.cell? a = some v) (h : Lies T st) (k : K (put F d v) st) : cont P st K d F (.ov (st.cell? a)) := by
  rw [cell_lies h hl]; exact k
/-- It only reads. -/
def readB : Op → Bool
  | .move _ | .assign _ | .pick .. | .load .. | .nilCheck _ | .binOp .. | .unOp .. | .convert .. | .fieldAddr .. | .field .. | .indexAddr .. | .index .. | .extract .. | .slice .. | .lookup .. | .entry .. | .build .. => true
  | .call ⟨.builtin .len, _, _⟩ | .call ⟨.builtin .min, _, _⟩ | .call ⟨.builtin .max, _, _⟩ => true
  | _ => false
def effOf (ops : Array Oper) (i : Nat) : Bool :=
  match ops[i]? with
  | some o => !readB o.op
  | none => false
/-- Operations that make one new block. -/
def newOp : Op → Bool
  | .alloc _ | .box .. | .makeSlice .. | .buildSlice .. => true
  | _ => false
def nwOf (ops : Array Oper) (i : Nat) : Bool :=
  match ops[i]? with
  | some o => newOp o.op
  | none => false
/-- What a reading step yields. -/
def VRes.yields : VRes → Value → Prop
  | .val v, u => u = v
  | .need p v, u => p ∧ u = v
  | .ov x, u => x = some u
  | .qr P T s, u => swp P s T (fun x st' => x = u ∧ st' = T)
  | _, _ => False
theorem yields_told {P : Program} {st : PH} {K : Value → PH → Prop} {x : VRes} {v : Value} (h : x.yields v) (k : K v st) : x.told P st K := by
  cases x <;> simp only [VRes.yields] at h <;> simp only [VRes.told]
  · subst h; exact k
  · exact ⟨h.1, h.2 ▸ k⟩
  · exact ⟨v, h, k⟩
  · exact ⟨v, h, k⟩
theorem still_of {P : Program} {ops : Array Oper} {o : Oper} {F : FR} {T : PH} {v : Value} (hr : readB o.op = true) (hw : Region.wanted o (yielded ops (mk F).tmps) = true) (h : (stepV P F T o.op).yields v) : StillAt P ops o (mk F) T v := by
  refine .inl ⟨hw, fun w hs => ?_⟩
  by_cases hq : ∃ P' T' s, stepV P F T o.op = .qr P' T' s
  · obtain ⟨P', T', s, hq⟩ := hq
    rw [hq] at h
    obtain ⟨rfl, rfl, he⟩ := stepV_qr hq
    rw [ev_mk, he]
    exact qr_run h hs
  have hq' : ∀ P' T' s, stepV P F T o.op ≠ .qr P' T' s := fun P' T' s e => hq ⟨P', T', s, e⟩
  have h1 : awp P (execOp (ev F) o) T (fun n st' => n = .value v ∧ st' = T) := by
    refine opS_ok (K := fun u st' => u = v ∧ st' = T) (stepV_ok _ hq' (yields_told h ⟨rfl, rfl⟩)) ?_ ?_ ?_
    · rintro u st' ⟨rfl, rfl⟩; exact ⟨rfl, rfl⟩
    · rintro ⟨t, x, y, e⟩; rw [e] at hr; cases hr
    · rintro ⟨f, x, t, e⟩; rw [e] at hr; cases hr
  obtain ⟨x, st', w', hr', ⟨rfl, rfl⟩, hn⟩ := awp_sound _ _ _ h1 hs
  rw [ev_mk]
  exact ⟨w', hr', hn⟩
def slOf (v : Value) (l c : Nat) : Value :=
  match v with
  | .pointer a => .slice a l c
  | v => v
def SlK (K : Value → PH → Prop) (l c : Nat) (v : Value) (st : PH) : Prop := K (slOf v l c) st
theorem slK_def {K : Value → PH → Prop} {l c : Nat} {a : Option Addr} {st : PH} : SlK K l c (.pointer a) st = K (.slice a l c) st := rfl
theorem awp_newRow {P : Program} {e : TypeId} {cs : Array Value} {st : PH} {Q : Addr → PH → Prop} (h : ∀ r, st r = none → Q ⟨r, 0, none⟩ (st.upd r (.cells cs e (0, 0)))) : awp P (newRow e cs) st Q := fun r hr => h r hr
/-- Some zeros. -/
def zrow (z : Value) (n : Nat) : Array Value := (Array.range n).map fun i => z.cells[i % z.cells.size]!
theorem zrow_one {z v : Value} (h : z.cells = #[v]) (n : Nat) : zrow z n = Array.replicate n v := by
  unfold zrow; rw [h]; apply Array.ext
  · simp
  · intro i h1 h2; simp [Nat.mod_one]
def MakeK (P : Program) (t : TypeId) (l c : Value) (st : PH) (K : Value → PH → Prop) : Prop :=
  ∃ e z k k' n m, l = .int k n ∧ c = .int k' m ∧ tslice P t = some e ∧ tok P e = true ∧ tzero P e = some z ∧ 0 ≤ n ∧ n ≤ m ∧ m ≤ 4294967296 ∧ tby P e ≤ 4096 ∧ NewK st (.cells (zrow z (m.toNat * tsz P e)) e (0, 0)) (SlK K n.toNat m.toNat)
theorem semK_make' {P : Program} {t : TypeId} {l c : Value} {st : PH} {K : Value → PH → Prop} (h : MakeK P t l c st K) : SemK P (Instr.makeSlice t l c) st K := by
  obtain ⟨e, z, k, k', n, m, rfl, rfl, he, hk, hz, h0, h1, h2, h3, hn⟩ := h
  refine swp_of_awp ?_
  obtain ⟨x, hx⟩ := Option.isSome_iff_exists.1 hk
  unfold Instr.makeSlice
  rw [awp_bind, awp_underlying (tslice_und he)]
  show awp P (asInt (.int k n) >>= _) st K
  rw [awp_bind]
  show awp P (asInt (.int k' m) >>= _) st K
  rw [awp_bind]
  show awp P (typeInfo e >>= _) st K
  rw [awp_bind, awp_typeInfo hx]
  have hb : x.bytes = tby P e := by unfold tby; rw [hx]; rfl
  have w1 : IntKind.i64.wrap n = n := by rw [IntKind.wrap_i64]; omega
  have w2 : IntKind.i64.wrap m = m := by rw [IntKind.wrap_i64]; omega
  have hm0 : 0 ≤ m := by omega
  have hmul : (x.bytes : Int) * m ≤ 4096 * 4294967296 := Int.mul_le_mul (by omega) h2 hm0 (by decide)
  simp only [w1, w2]
  rw [if_neg (by simp only [Bool.or_eq_true, decide_eq_true_eq]; omega)]
  unfold askRoom
  have fin : ∀ zs : Array Value, zs = z.cells ∨ m.toNat * tsz P e = 0 → awp P ((do pure (Value.slice (some (← newRow e ((Array.range (m.toNat * tsz P e)).map (fun x => zs[x % zs.size]!)))) n.toNat m.toNat) : Sem Value)) st K := by
    intro zs hzs
    rw [awp_bind]
    refine awp_newRow fun r hr => ?_
    have e1 : (Array.range (m.toNat * tsz P e)).map (fun x => zs[x % zs.size]!) = zrow z (m.toNat * tsz P e) := by
      unfold zrow
      rcases hzs with rfl | h0
      · rfl
      · rw [h0]; apply Array.ext'; simp
    rw [e1]
    exact hn r hr
  have room : ∀ (b : Nat) (s : Sem Value) (R : Value → PH → Prop), awp P s st R → awp P ((if b > roomBytes then mark .noRoom else pure ()) >>= fun _ => s) st R := by
    intro b s R hs
    rw [awp_bind]
    split <;> exact hs
  refine room _ _ _ ?_
  show awp P (sizeOf e >>= _) st K
  rw [awp_bind, awp_sizeOf hk]
  split
  · rename_i h0; exact fin #[] (.inr h0)
  · rw [awp_bind, awp_zeroValue hz, awp_bind]; exact fin z.cells (.inl rfl)

def MakeV (P : Program) (t : TypeId) (l c : Value) (st : PH) (K : Value → PH → Prop) : Prop :=
  match tslice P t, l, c with
  | some e, .int _ n, .int _ m => match tzero P e with
    | some z => (tok P e = true ∧ 0 ≤ n ∧ n ≤ m ∧ m ≤ 4294967296 ∧ tby P e ≤ 4096) ∧ NewK st (.cells (zrow z (m.toNat * tsz P e)) e (0, 0)) (SlK K n.toNat m.toNat)
    | none => False
  | _, _, _ => False
theorem semK_make {P : Program} {t : TypeId} {l c : Value} {st : PH} {K : Value → PH → Prop} (h : MakeV P t l c st K) : SemK P (Instr.makeSlice t l c) st K := by
  unfold MakeV at h
  split at h
  · rename_i e k n k' m he
    split at h
    · rename_i z hz; exact semK_make' ⟨e, z, k, k', n, m, rfl, rfl, he, h.1.1, hz, h.1.2.1, h.1.2.2.1, h.1.2.2.2.1, h.1.2.2.2.2, h.2⟩
    · exact h.elim
  · exact h.elim
theorem fillL_nil {pl : List (Nat × Nat)} {cs : Array Value} : fillL pl cs [] = some cs := rfl
def fillK (pl : List (Nat × Nat)) (cs : Array Value) (v : Value) (rest : List (Nat × Value)) : Option (Nat × Nat) → Option (Array Value)
  | none => none
  | some (off, size) => if v.cells.size = size ∧ off + v.cells.size ≤ cs.size then fillL pl (spl cs off v.cells.toList) rest else none
theorem fillL_cons {pl : List (Nat × Nat)} {cs : Array Value} {i : Nat} {v : Value} {rest : List (Nat × Value)} : fillL pl cs ((i, v) :: rest) = fillK pl cs v rest pl[i]? := by
  rw [fillL]; unfold fillK; rfl
theorem fillK_some {pl : List (Nat × Nat)} {cs : Array Value} {v : Value} {rest : List (Nat × Value)} {off size : Nat} : fillK pl cs v rest (some (off, size)) = if v.cells.size = size ∧ off + v.cells.size ≤ cs.size then fillL pl (spl cs off v.cells.toList) rest else none := rfl
def bcat (sz : Nat) : Nat → List (Nat × Value) → Option (List Value)
  | _, [] => some []
  | i, (j, v) :: rest => if j = i ∧ v.cells.size = sz then (bcat sz (i + 1) rest).map (v.cells.toList ++ ·) else none
theorem bcat_nil {sz i : Nat} : bcat sz i [] = some [] := rfl
theorem bcat_cons {sz i j : Nat} {v : Value} {rest : List (Nat × Value)} : bcat sz i ((j, v) :: rest) = if j = i ∧ v.cells.size = sz then (bcat sz (i + 1) rest).map (v.cells.toList ++ ·) else none := rfl
theorem spl_app (l : List Value) : ∀ (pre rest : List Value), rest.length ≥ l.length → spl (pre ++ rest).toArray pre.length l = (pre ++ l ++ rest.drop l.length).toArray := by
  induction l with
  | nil => intro pre rest _; simp [spl]
  | cons v l ih =>
    intro pre rest h
    cases rest with
    | nil => simp at h
    | cons x rest =>
      unfold spl
      have e : ((pre ++ x :: rest).toArray.setIfInBounds pre.length v) = ((pre ++ [v]) ++ rest).toArray := by simp
      rw [e]
      have := ih (pre ++ [v]) rest (by simp at h; omega)
      rw [show (pre ++ [v]).length = pre.length + 1 by simp] at this
      rw [this]
      simp
theorem bcat_fill {sz n : Nat} : ∀ (parts : List (Nat × Value)) (i : Nat) (pre rest l : List Value), bcat sz i parts = some l → pre.length = i * sz → rest.length = parts.length * sz → i + parts.length ≤ n →
    fillL ((List.range n).map fun i => (i * sz, sz)) (pre ++ rest).toArray parts = some (pre ++ l).toArray := by
  intro parts
  induction parts with
  | nil => intro i pre rest l h _ hr _; injection h with h; subst h; simp at hr; subst hr; rfl
  | cons p parts ih =>
    intro i pre rest l h hp hr hn
    obtain ⟨j, v⟩ := p
    rw [bcat_cons] at h
    split at h
    · rename_i hc
      obtain ⟨rfl, hv⟩ := hc
      obtain ⟨l2, hl2, rfl⟩ := Option.map_eq_some_iff.1 h
      have hm : (parts.length + 1) * sz = parts.length * sz + sz := Nat.succ_mul ..
      simp only [List.length_cons] at hr hn
      have hj : ((List.range n).map fun i => (i * sz, sz))[j]? = some (j * sz, sz) := by simp [show j < n by omega]
      rw [fillL_cons, hj, fillK_some, if_pos ⟨hv, by simp; omega⟩]
      have hvl : v.cells.toList.length = sz := by simpa using hv
      rw [← hp, spl_app _ _ _ (by rw [hvl]; omega)]
      rw [ih (j + 1) (pre ++ v.cells.toList) (rest.drop v.cells.toList.length) l2 hl2 (by simp [hp, hv, Nat.succ_mul]) (by simp [hv]; omega) (by omega)]
      simp
    · cases h
/-- A slice that is built out of all its parts. -/
def BuildK (P : Program) (t : TypeId) (len : Nat) (ps : List (Nat × Value)) (st : PH) (K : Value → PH → Prop) : Prop :=
  ∃ e z cs, tslice P t = some e ∧ tok P e = true ∧ tzero P e = some z ∧ ps.length = len ∧ len * tsz P e ≤ 16777216 ∧ bcat (tsz P e) 0 ps = some cs ∧ NewK st (.cells cs.toArray e (0, 0)) (SlK K len len)
theorem semK_build' {P : Program} {t : TypeId} {len : Nat} {ps : List (Nat × Value)} {st : PH} {K : Value → PH → Prop} (h : BuildK P t len ps st K) : SemK P (Instr.buildSlice t len ps.toArray) st K := by
  obtain ⟨e, z, cs, he, hk, hz, hl, hsz, hc, hn⟩ := h
  refine swp_of_awp ?_
  unfold Instr.buildSlice
  rw [awp_bind, awp_underlying (tslice_und he)]
  show awp P (sizeOf e >>= _) st K
  rw [awp_bind, awp_sizeOf hk]
  simp only
  rw [if_neg (by omega)]
  have key : ∀ zs : Array Value, (Array.range (len * tsz P e)).map (fun x => zs[x % zs.size]!) = ((List.range (len * tsz P e)).map fun x => zs[x % zs.size]!).toArray := by intro zs; apply Array.ext'; simp
  have go : ∀ zs : Array Value, Instr.fill (fun i => some (i * tsz P e, tsz P e)) ((Array.range (len * tsz P e)).map (fun x => zs[x % zs.size]!)) ps = some cs.toArray := by
    intro zs
    have hf := bcat_fill (n := len) ps 0 [] ((List.range (len * tsz P e)).map fun x => zs[x % zs.size]!) cs hc (by simp) (by simp [hl]) (by omega)
    rw [List.nil_append, List.nil_append] at hf
    have hf' := fillL_ok (place := fun i => some (i * tsz P e, tsz P e)) (by
      intro i x hx
      rw [List.getElem?_map] at hx
      obtain ⟨y, hy, rfl⟩ := Option.map_eq_some_iff.1 hx
      rw [List.getElem?_range (by have := List.getElem?_eq_some_iff.1 hy; simpa using this.1)] at hy
      injection hy with hy; subst hy; rfl) _ _ _ hf
    rw [key]; exact hf'
  split
  · rw [awp_bind]
    show awp P (match Instr.fill _ _ _ with | some cells => _ | _ => _) st K
    rw [go]
    show awp P (newRow e cs.toArray >>= _) st K
    rw [awp_bind]
    exact awp_newRow fun r hr => hn r hr
  · rw [awp_bind, awp_zeroValue hz, awp_bind]
    show awp P (match Instr.fill _ _ _ with | some cells => _ | _ => _) st K
    rw [go]
    show awp P (newRow e cs.toArray >>= _) st K
    rw [awp_bind]
    exact awp_newRow fun r hr => hn r hr
def BuildV (P : Program) (t : TypeId) (len : Nat) (ps : List (Nat × Value)) (st : PH) (K : Value → PH → Prop) : Prop :=
  match tslice P t with
  | some e => match tzero P e, bcat (tsz P e) 0 ps with
    | some z, some cs => (tok P e = true ∧ ps.length = len ∧ len * tsz P e ≤ 16777216) ∧ NewK st (.cells cs.toArray e (0, 0)) (SlK K len len)
    | _, _ => False
  | none => False
theorem semK_build {P : Program} {t : TypeId} {len : Nat} {ps : List (Nat × Value)} {st : PH} {K : Value → PH → Prop} (h : BuildV P t len ps st K) : SemK P (Instr.buildSlice t len ps.toArray) st K := by
  unfold BuildV at h
  split at h
  · rename_i e he
    split at h
    · rename_i z cs hz hc; exact semK_build' ⟨e, z, cs, he, h.1.1, hz, h.1.2.1, h.1.2.2, hc, h.2⟩
    · exact h.elim
  · exact h.elim
/-- What an operation that makes one new block comes to. -/
def newR (P : Program) (K : FR → PH → Prop) (d : Option Tmp) (F : FR) (S : PH) : Op → Prop
  | .alloc t => cont P S K d F (allocV P t)
  | .box t x => NewK S (.cells (ev F x).cells t (0, 0)) (Aft K d F)
  | .makeSlice t l c => MakeV P t (ev F l) (ev F c) S (Aft K d F)
  | .buildSlice t len ps => BuildV P t len (ps.toList.map fun x => (x.1, ev F x.2)) S (Aft K d F)
  | _ => False
theorem newR_ok {P : Program} {K : Act → PH → Prop} {K' : FR → PH → Prop} {o : Oper} {F : FR} {S : PH} (hK : ∀ F S, K' F S → K (mk F) S) (h : newR P K' o.dst F S o.op) : NewB P o (mk F) S K := by
  have one : ∀ (ob : Obj) (v : Nat → Value), (∀ r, blk (v r) = some r) → (∀ r, S r = none → K' (put F o.dst (v r)) (S.upd r ob)) → swp P (execOp (ev F) o) (fun _ => none) (fun n st' => ∃ r, n = .value (v r) ∧ st' = PH.upd (fun _ => none) r ob) → NewB P o (mk F) S K := by
    intro ob v hb hk hs
    refine ⟨ob, v, ?_, fun r hr => ?_⟩
    · rw [ev_mk]; exact isNew_of_swp hb hs
    · rw [put_mk]; exact hK _ _ (hk r hr)
  obtain ⟨d, op, ty, pos, af, g⟩ := o
  cases op with
  | alloc t =>
    simp only [newR, allocV] at h
    split at h
    · rename_i z hz
      refine one _ (fun r => .pointer (some ⟨r, 0, none⟩)) (fun r => rfl) (fun r hr => h r hr) (swp_of_awp ?_)
      refine opS_ok (K := fun u st' => ∃ r, u = .pointer (some ⟨r, 0, none⟩) ∧ st' = PH.upd (fun _ => none) r (.cells z.cells t (0, 0))) (stepV_ok _ (fun _ _ _ e => by simp only [stepV, allocV] at e; split at e <;> cases e) ?_) ?_ ?_ ?_
      · show (allocV P t).told P _ _
        unfold allocV; rw [hz]
        exact fun r _ => ⟨r, rfl, rfl⟩
      · rintro u st' ⟨r, rfl, rfl⟩; exact ⟨r, rfl, rfl⟩
      · rintro ⟨t', x, y, e⟩; cases e
      · rintro ⟨f, x, t', e⟩; cases e
    · exact h.elim
  | box t x =>
    refine one _ (fun r => .pointer (some ⟨r, 0, none⟩)) (fun r => rfl) (fun r hr => h r hr) (swp_of_awp ?_)
    refine opS_ok (K := fun u st' => ∃ r, u = .pointer (some ⟨r, 0, none⟩) ∧ st' = PH.upd (fun _ => none) r (.cells (ev F x).cells t (0, 0))) (stepV_ok _ (fun _ _ _ e => by cases e) ?_) ?_ ?_ ?_
    · exact fun r _ => ⟨r, rfl, rfl⟩
    · rintro u st' ⟨r, rfl, rfl⟩; exact ⟨r, rfl, rfl⟩
    · rintro ⟨t', x', y, e⟩; cases e
    · rintro ⟨f, x', t', e⟩; cases e
  | makeSlice t l c =>
    simp only [newR, MakeV] at h
    split at h
    · rename_i e k n k' m he hl hc
      split at h
      · rename_i z hz
        obtain ⟨hc', hk⟩ := h
        refine one _ (fun r => .slice (some ⟨r, 0, none⟩) n.toNat m.toNat) (fun r => rfl) (fun r hr => hk r hr) ?_
        rw [stepV_semv (P := P) (st := fun _ => none) (s := Instr.makeSlice t (ev F l) (ev F c)) rfl]
        refine swp_bind (swp_mono (Q := fun v st' => ∃ r, v = .slice (some ⟨r, 0, none⟩) n.toNat m.toNat ∧ st' = PH.upd (fun _ => none) r (.cells (zrow z (m.toNat * tsz P e)) e (0, 0))) (fun v st' ⟨r, q1, q2⟩ => swp_pure ⟨r, by rw [q1], q2⟩) _ _ ?_)
        exact semK_make (K := fun v st' => ∃ r, v = .slice (some ⟨r, 0, none⟩) n.toNat m.toNat ∧ st' = PH.upd (fun _ => none) r (.cells (zrow z (m.toNat * tsz P e)) e (0, 0))) (by
          rw [hl, hc]
          unfold MakeV
          rw [he]
          simp only
          rw [hz]
          exact ⟨hc', fun r _ => ⟨r, rfl, rfl⟩⟩)
      · exact h.elim
    · exact h.elim
  | buildSlice t len ps =>
    simp only [newR, BuildV] at h
    split at h
    · rename_i e he
      split at h
      · rename_i z cs hz hcs
        obtain ⟨hc', hk⟩ := h
        refine one _ (fun r => .slice (some ⟨r, 0, none⟩) len len) (fun r => rfl) (fun r hr => hk r hr) ?_
        rw [stepV_semv (P := P) (st := fun _ => none) (s := Instr.buildSlice t len (ps.map fun (i, x) => (i, ev F x))) rfl]
        refine swp_bind (swp_mono (Q := fun v st' => ∃ r, v = .slice (some ⟨r, 0, none⟩) len len ∧ st' = PH.upd (fun _ => none) r (.cells cs.toArray e (0, 0))) (fun v st' ⟨r, q1, q2⟩ => swp_pure ⟨r, by rw [q1], q2⟩) _ _ ?_)
        rw [show (ps.map fun (i, x) => (i, ev F x)) = (ps.toList.map fun x => (x.1, ev F x.2)).toArray by apply Array.ext'; simp]
        exact semK_build (K := fun v st' => ∃ r, v = .slice (some ⟨r, 0, none⟩) len len ∧ st' = PH.upd (fun _ => none) r (.cells cs.toArray e (0, 0))) (by
          unfold BuildV
          rw [he]
          simp only
          rw [hz, hcs]
          exact ⟨hc', fun r _ => ⟨r, rfl, rfl⟩⟩)
      · exact h.elim
    · exact h.elim
  | _ => exact h.elim
/-- What follows an operation that does more: what the others read still lies there. -/
def EffK (T : PH) (K : FR → PH → Prop) (F : FR) (S : PH) : Prop := Lies T S ∧ K F S
def readK (K : FR → PH → Prop) (d : Option Tmp) (F : FR) (S : PH) : VRes → Prop
  | .val v => K (put F d v) S
  | .need p v => p ∧ K (put F d v) S
  | .ov (some v) => K (put F d v) S
  | .qr P T s => QrK P s T fun v => K (put F d v) S
  | _ => False
def runD (P : Program) (T : PH) (K : FR → PH → Prop) (o : Oper) (F : FR) (S : PH) : Prop :=
  if readB o.op = true then readK K o.dst F S (stepV P F T o.op) else if newOp o.op = true then newR P (EffK T K) o.dst F S o.op else cont P S (EffK T K) o.dst F (stepV P F S o.op)
def dl (P : Program) (ops : Array Oper) (T : PH) (Q : FR → PH → Prop) : List Oper → FR → PH → Prop
  | [], F, S => Q F S
  | o :: rest, F, S =>
    match o.guard with
    | none => runD P T (dl P ops T Q rest) o F S
    | some (j, want) => guardK (gval ops F j) want (runD P T (dl P ops T Q rest) o) (skipOp (dl P ops T Q rest) o.dst) F S
theorem readK_ok {K : FR → PH → Prop} {d : Option Tmp} {F : FR} {S : PH} {x : VRes} (h : readK K d F S x) : ∃ v, x.yields v ∧ K (put F d v) S := by
  unfold readK at h
  split at h
  · exact ⟨_, rfl, h⟩
  · exact ⟨_, ⟨h.1, rfl⟩, h.2⟩
  · exact ⟨_, rfl, h⟩
  · obtain ⟨v, h1, h2⟩ := h; exact ⟨v, h1, h2⟩
  · exact h.elim
theorem dl_ok {P : Program} {ops : Array Oper} {T : PH} {need : Nat → Bool} {Q : FR → PH → Prop} : ∀ (l : List Oper) (k : Nat) (F : FR) (S : PH), (∀ j, l[j]? = ops[k + j]?) → dl P ops T Q l F S →
    rl P ops T (effOf ops) need (nwOf ops) (fun a st' => ∃ F', a = mk F' ∧ Q F' st') (List.range' k l.length) (mk F) S := by
  intro l
  induction l with
  | nil => exact fun k F S _ h => ⟨F, rfl, h⟩
  | cons o l ih =>
    intro k F S hl h
    have h0 : ops[k]? = some o := by simpa using (hl 0).symm
    have ih' := fun F S => ih (k + 1) F S (fun j => by have := hl (j + 1); simpa [Nat.add_assoc, Nat.add_comm 1 j] using this)
    rw [List.length_cons, List.range'_succ]
    refine ⟨o, h0, ?_⟩
    have he : effOf ops k = !readB o.op := by unfold effOf; rw [h0]
    have skip : Region.wanted o (yielded ops (mk F).tmps) = false → dl P ops T Q l (put F o.dst undef) S → (if effOf ops k = true ∧ Region.wanted o (yielded ops (mk F).tmps) = true then EffB P (nwOf ops k) o (mk F) S (fun a' S' => (need k = true → Lies T S') ∧ rl P ops T (effOf ops) need (nwOf ops) (fun a st' => ∃ F', a = mk F' ∧ Q F' st') (List.range' (k + 1) l.length) a' S')
        else ∃ v, StillAt P ops o (mk F) T v ∧ rl P ops T (effOf ops) need (nwOf ops) (fun a st' => ∃ F', a = mk F' ∧ Q F' st') (List.range' (k + 1) l.length) ((mk F).put o.dst v) S) := by
      intro hw h
      rw [if_neg (by rw [hw]; simp)]
      exact ⟨undef, .inr ⟨hw, rfl⟩, by rw [put_mk]; exact ih' _ _ h⟩
    have run : Region.wanted o (yielded ops (mk F).tmps) = true → runD P T (dl P ops T Q l) o F S → (if effOf ops k = true ∧ Region.wanted o (yielded ops (mk F).tmps) = true then EffB P (nwOf ops k) o (mk F) S (fun a' S' => (need k = true → Lies T S') ∧ rl P ops T (effOf ops) need (nwOf ops) (fun a st' => ∃ F', a = mk F' ∧ Q F' st') (List.range' (k + 1) l.length) a' S')
        else ∃ v, StillAt P ops o (mk F) T v ∧ rl P ops T (effOf ops) need (nwOf ops) (fun a st' => ∃ F', a = mk F' ∧ Q F' st') (List.range' (k + 1) l.length) ((mk F).put o.dst v) S) := by
      intro hw h
      unfold runD at h
      split at h
      · rename_i hr
        rw [if_neg (by rw [he, hr]; simp)]
        obtain ⟨v, hv, hk⟩ := readK_ok h
        exact ⟨v, still_of hr hw hv, by rw [put_mk]; exact ih' _ _ hk⟩
      · rename_i hr
        rw [if_pos ⟨by rw [he]; simpa using hr, hw⟩]
        have hn : nwOf ops k = newOp o.op := by unfold nwOf; rw [h0]
        unfold EffB
        rw [hn]
        split at h
        · rename_i hnw
          rw [if_pos hnw]
          exact newR_ok (K' := EffK T (dl P ops T Q l)) (fun F' st' ⟨h1, h2⟩ => ⟨fun _ => h1, ih' _ _ h2⟩) h
        · rename_i hnw
          rw [if_neg hnw]
          refine fop_sound (K := EffK T (dl P ops T Q l)) ?_ (fun F' st' ⟨h1, h2⟩ => ⟨fun _ => h1, ih' _ _ h2⟩)
          exact step_fop h
    unfold dl at h
    cases hg : o.guard with
    | none => simp only [hg] at h; exact run (by simp [Region.wanted, hg]) h
    | some g =>
      obtain ⟨j, want⟩ := g
      simp only [hg] at h
      cases hv : gval ops F j with
      | none => rw [hv] at h; exact skip (by simp [Region.wanted, hg, gval_mk, hv]) h
      | some b =>
        rw [hv] at h
        simp only [guardK] at h
        by_cases hb : b = want
        · exact run (by simp [Region.wanted, hg, gval_mk, hv, hb]) (h.1 hb)
        · exact skip (by simp [Region.wanted, hg, gval_mk, hv, hb]) (h.2 hb)
/-- A region that draws its order, told in the text's. -/
theorem hwp_draw {P : Program} {id : Nat} {l : List Oper} {Q : Exit → FR → PH → Prop} {F : FR} {st : PH} (T : PH) (hm : P.follows .mixedOrders = true) (hok : (noSel l.toArray && regOK l.toArray (effOf l.toArray) (nwOf l.toArray)) = true) (hT : Lies T st)
    (h : dl P l.toArray T (Q .normal) l F st) : hwp P (.region id l.toArray true) Q F st := by
  rw [Bool.and_eq_true] at hok
  refine fsem_draw (effOf l.toArray) (fun _ => true) (nwOf l.toArray) T hm hok.1 hok.2 (fun _ _ _ _ h => by cases h) hT ?_
  have := dl_ok (need := fun _ => true) l 0 F st (fun j => by simp) h
  rw [List.range_eq_range']
  simpa using this
/-- The last operation comes last, whatever the order, and nothing is read behind it. -/
def lastOK (ops : Array Oper) : Bool := (List.range (ops.size - 1)).all fun j => anc ops j ops.size (ops.size - 1)
def needOf (n : Nat) (i : Nat) : Bool := i + 1 != n
/-- The same, the last operation free to turn what the others read. -/
def dlL (P : Program) (ops : Array Oper) (T : PH) (Q : FR → PH → Prop) : List Oper → FR → PH → Prop
  | [], F, S => Q F S
  | [o], F, S => if (readB o.op || newOp o.op) = true then dl P ops T Q [o] F S else
    match o.guard with
    | none => cont P S Q o.dst F (stepV P F S o.op)
    | some (j, want) => guardK (gval ops F j) want (fun F S => cont P S Q o.dst F (stepV P F S o.op)) (skipOp Q o.dst) F S
  | o :: o2 :: rest, F, S =>
    match o.guard with
    | none => runD P T (dlL P ops T Q (o2 :: rest)) o F S
    | some (j, want) => guardK (gval ops F j) want (runD P T (dlL P ops T Q (o2 :: rest)) o) (skipOp (dlL P ops T Q (o2 :: rest)) o.dst) F S
theorem dlL_ok {P : Program} {ops : Array Oper} {T : PH} {Q : FR → PH → Prop} : ∀ (l : List Oper) (k : Nat) (F : FR) (S : PH), (∀ j, l[j]? = ops[k + j]?) → k + l.length = ops.size → dlL P ops T Q l F S →
    rl P ops T (effOf ops) (needOf ops.size) (nwOf ops) (fun a st' => ∃ F', a = mk F' ∧ Q F' st') (List.range' k l.length) (mk F) S := by
  intro l
  induction l with
  | nil => exact fun k F S _ _ h => ⟨F, rfl, h⟩
  | cons o l ih =>
    intro k F S hl hk h
    have h0 : ops[k]? = some o := by simpa using (hl 0).symm
    cases l with
    | nil =>
      unfold dlL at h
      split at h
      · exact dl_ok _ _ _ _ hl h
      · rename_i hr
        rw [Bool.or_eq_true, not_or] at hr
        have he : effOf ops k = true := by unfold effOf; rw [h0]; simpa using hr.1
        have hnw : nwOf ops k = false := by unfold nwOf; rw [h0]; simpa using hr.2
        have hn : needOf ops.size k = false := by unfold needOf; simp at hk ⊢; omega
        refine ⟨o, h0, ?_⟩
        have fin : ∀ F' st', Q F' st' → (needOf ops.size k = true → Lies T st') ∧ rl P ops T (effOf ops) (needOf ops.size) (nwOf ops) (fun a st' => ∃ F', a = mk F' ∧ Q F' st') [] (mk F') st' := fun F' st' q => ⟨fun h => (by rw [hn] at h; cases h), F', rfl, q⟩
        cases hg : o.guard with
        | none =>
          simp only [hg] at h
          rw [if_pos ⟨he, by simp [Region.wanted, hg]⟩]
          unfold EffB
          rw [hnw, if_neg (by decide)]
          exact fop_sound (step_fop h) fin
        | some g =>
          obtain ⟨j, want⟩ := g
          simp only [hg] at h
          cases hv : gval ops F j with
          | none =>
            rw [hv] at h
            rw [if_neg (by simp [Region.wanted, hg, gval_mk, hv])]
            exact ⟨undef, .inr ⟨by simp [Region.wanted, hg, gval_mk, hv], rfl⟩, by rw [put_mk]; exact ⟨_, rfl, h⟩⟩
          | some b =>
            rw [hv] at h
            simp only [guardK] at h
            by_cases hb : b = want
            · rw [if_pos ⟨he, by simp [Region.wanted, hg, gval_mk, hv, hb]⟩]
              unfold EffB
              rw [hnw, if_neg (by decide)]
              exact fop_sound (step_fop (h.1 hb)) fin
            · rw [if_neg (by simp [Region.wanted, hg, gval_mk, hv, hb])]
              exact ⟨undef, .inr ⟨by simp [Region.wanted, hg, gval_mk, hv, hb], rfl⟩, by rw [put_mk]; exact ⟨_, rfl, h.2 hb⟩⟩
    | cons o2 l2 =>
      have ih' := fun F S => ih (k + 1) F S (fun j => by have := hl (j + 1); simpa [Nat.add_assoc, Nat.add_comm 1 j] using this) (by simp at hk ⊢; omega)
      rw [List.length_cons, List.range'_succ]
      refine ⟨o, h0, ?_⟩
      have he : effOf ops k = !readB o.op := by unfold effOf; rw [h0]
      have skip : Region.wanted o (yielded ops (mk F).tmps) = false → dlL P ops T Q (o2 :: l2) (put F o.dst undef) S → (if effOf ops k = true ∧ Region.wanted o (yielded ops (mk F).tmps) = true then EffB P (nwOf ops k) o (mk F) S (fun a' S' => (needOf ops.size k = true → Lies T S') ∧ rl P ops T (effOf ops) (needOf ops.size) (nwOf ops) (fun a st' => ∃ F', a = mk F' ∧ Q F' st') (List.range' (k + 1) (o2 :: l2).length) a' S')
          else ∃ v, StillAt P ops o (mk F) T v ∧ rl P ops T (effOf ops) (needOf ops.size) (nwOf ops) (fun a st' => ∃ F', a = mk F' ∧ Q F' st') (List.range' (k + 1) (o2 :: l2).length) ((mk F).put o.dst v) S) := by
        intro hw h
        rw [if_neg (by rw [hw]; simp)]
        exact ⟨undef, .inr ⟨hw, rfl⟩, by rw [put_mk]; exact ih' _ _ h⟩
      have run : Region.wanted o (yielded ops (mk F).tmps) = true → runD P T (dlL P ops T Q (o2 :: l2)) o F S → (if effOf ops k = true ∧ Region.wanted o (yielded ops (mk F).tmps) = true then EffB P (nwOf ops k) o (mk F) S (fun a' S' => (needOf ops.size k = true → Lies T S') ∧ rl P ops T (effOf ops) (needOf ops.size) (nwOf ops) (fun a st' => ∃ F', a = mk F' ∧ Q F' st') (List.range' (k + 1) (o2 :: l2).length) a' S')
          else ∃ v, StillAt P ops o (mk F) T v ∧ rl P ops T (effOf ops) (needOf ops.size) (nwOf ops) (fun a st' => ∃ F', a = mk F' ∧ Q F' st') (List.range' (k + 1) (o2 :: l2).length) ((mk F).put o.dst v) S) := by
        intro hw h
        unfold runD at h
        split at h
        · rename_i hr
          rw [if_neg (by rw [he, hr]; simp)]
          obtain ⟨v, hv, hk⟩ := readK_ok h
          exact ⟨v, still_of hr hw hv, by rw [put_mk]; exact ih' _ _ hk⟩
        · rename_i hr
          rw [if_pos ⟨by rw [he]; simpa using hr, hw⟩]
          have hn : nwOf ops k = newOp o.op := by unfold nwOf; rw [h0]
          unfold EffB
          rw [hn]
          split at h
          · rename_i hnw
            rw [if_pos hnw]
            exact newR_ok (K' := EffK T (dlL P ops T Q (o2 :: l2))) (fun F' st' ⟨h1, h2⟩ => ⟨fun _ => h1, ih' _ _ h2⟩) h
          · rename_i hnw
            rw [if_neg hnw]
            refine fop_sound (K := EffK T (dlL P ops T Q (o2 :: l2))) ?_ (fun F' st' ⟨h1, h2⟩ => ⟨fun _ => h1, ih' _ _ h2⟩)
            exact step_fop h
      unfold dlL at h
      cases hg : o.guard with
      | none => simp only [hg] at h; exact run (by simp [Region.wanted, hg]) h
      | some g =>
        obtain ⟨j, want⟩ := g
        simp only [hg] at h
        cases hv : gval ops F j with
        | none => rw [hv] at h; exact skip (by simp [Region.wanted, hg, gval_mk, hv]) h
        | some b =>
          rw [hv] at h
          simp only [guardK] at h
          by_cases hb : b = want
          · exact run (by simp [Region.wanted, hg, gval_mk, hv, hb]) (h.1 hb)
          · exact skip (by simp [Region.wanted, hg, gval_mk, hv, hb]) (h.2 hb)
theorem hwp_drawL {P : Program} {id : Nat} {l : List Oper} {Q : Exit → FR → PH → Prop} {F : FR} {st : PH} (T : PH) (hm : P.follows .mixedOrders = true) (hok : (noSel l.toArray && regOK l.toArray (effOf l.toArray) (nwOf l.toArray) && lastOK l.toArray) = true) (hT : Lies T st)
    (h : dlL P l.toArray T (Q .normal) l F st) : hwp P (.region id l.toArray true) Q F st := by
  rw [Bool.and_eq_true, Bool.and_eq_true] at hok
  obtain ⟨⟨h1, h2⟩, h3⟩ := hok
  refine fsem_draw (effOf l.toArray) (needOf l.toArray.size) (nwOf l.toArray) T hm h1 h2 ?_ hT ?_
  · intro i j hi hj hn _ hji
    have e : i = l.toArray.size - 1 := by unfold needOf at hn; simp at hn hi ⊢; omega
    have := List.all_eq_true.1 h3 j (List.mem_range.2 (by omega))
    rw [e]; exact this
  · have := dlL_ok l 0 F st (fun j => by simp) (by simp) h
    rw [List.range_eq_range']
    simpa using this
section
variable {P : Program} {T : PH} {Q : Exit → FR → PH → Prop} {F : FR} {st : PH} {ops : Array Oper} {K : FR → PH → Prop} {d : Option Tmp} {op : Op} {ty : TypeId} {pos : String} {af : Array Edge} {j : Nat} {w : Bool} {rest : List Oper}
theorem dl_nil : dl P ops T K [] F st = K F st := rfl
theorem dlL_one : dlL P ops T K [⟨d, op, ty, pos, af, none⟩] F st = if (readB op || newOp op) = true then runD P T (dl P ops T K []) ⟨d, op, ty, pos, af, none⟩ F st else cont P st K d F (stepV P F st op) := by
  rfl
theorem dlL_cons {o2 : Oper} : dlL P ops T K (⟨d, op, ty, pos, af, none⟩ :: o2 :: rest) F st = runD P T (dlL P ops T K (o2 :: rest)) ⟨d, op, ty, pos, af, none⟩ F st := rfl
theorem dlL_guard {o2 : Oper} : dlL P ops T K (⟨d, op, ty, pos, af, some (j, w)⟩ :: o2 :: rest) F st = guardK (gval ops F j) w (runD P T (dlL P ops T K (o2 :: rest)) ⟨d, op, ty, pos, af, some (j, w)⟩) (skipOp (dlL P ops T K (o2 :: rest)) d) F st := rfl
theorem dl_cons : dl P ops T K (⟨d, op, ty, pos, af, none⟩ :: rest) F st = runD P T (dl P ops T K rest) ⟨d, op, ty, pos, af, none⟩ F st := rfl
theorem dl_guard : dl P ops T K (⟨d, op, ty, pos, af, some (j, w)⟩ :: rest) F st = guardK (gval ops F j) w (runD P T (dl P ops T K rest) ⟨d, op, ty, pos, af, some (j, w)⟩) (skipOp (dl P ops T K rest) d) F st := rfl
theorem runD_def {g : Option (Nat × Bool)} : runD P T K ⟨d, op, ty, pos, af, g⟩ F st = if readB op = true then readK K d F st (stepV P F T op) else if newOp op = true then newR P (EffK T K) d F st op else cont P st (EffK T K) d F (stepV P F st op) := rfl
theorem readK_val {v : Value} : readK K d F st (.val v) = K (put F d v) st := rfl
theorem readK_need {p : Prop} {v : Value} : readK K d F st (.need p v) = (p ∧ K (put F d v) st) := rfl
theorem readK_qr {P' : Program} {T' : PH} {s : Sem Value} : readK K d F st (.qr P' T' s) = QrK P' s T' fun v => K (put F d v) st := rfl
theorem readK_ov {v : Value} : readK K d F st (.ov (some v)) = K (put F d v) st := rfl
theorem effK_def : EffK T K F st = (Lies T st ∧ K F st) := rfl
end
end Go.Proofs.Ytfmfkablbaoofaa.Ae
namespace Go.Proofs.Ytfmfkablbaoofaa.Ae
open Go
/-- The call returns this, the part of the heap is as it was. -/
def Ret (P : Program) (f : FuncId) (args : List Value) (st : PH) (v : Value) : Prop := ACalls P f args.toArray st fun r s => r = v ∧ s = st
theorem Ret.next {P : Program} {f : FuncId} {args : List Value} {st : PH} {v : Value} {K : Value → PH → Prop} (h : Ret P f args st v) (hr : Real P f) (hk : K v st) : Real P f ∧ ACalls P f args.toArray st K :=
  ⟨hr, h.mono fun r s ⟨h1, h2⟩ => by rw [h1, h2]; exact hk⟩
theorem not_dec {p : Prop} [Decidable p] : (!decide p) = decide (¬ p) := by by_cases h : p <;> simp [h]
theorem gret1 {P : Program} {fn : Func} {t : Tmp} {R : Value → PH → Prop} {F : FR} {st : PH} (h : fn.results = #[.tmp t]) (k : R (F.getD t undef) st) : gret P fn R .ret F st := by
  unfold gret; rw [h]; exact k
theorem gret_ret {P : Program} {fn : Func} {rs : List ResultVar} {R : Value → PH → Prop} {F : FR} {st : PH} (h : fn.results.toList = rs) (k : resS P F st rs fun vs => R (oneV vs) st) : gret P fn R .ret F st := by
  unfold gret; rw [h]; exact k
theorem gret_normal {P : Program} {fn : Func} {rs : List ResultVar} {R : Value → PH → Prop} {F : FR} {st : PH} (h : fn.results.toList = rs) (k : resS P F st rs fun vs => R (oneV vs) st) : gret P fn R .normal F st := by
  unfold gret; rw [h]; exact k
theorem resS_nil {P : Program} {F : FR} {st : PH} {Q : List Value → Prop} : resS P F st [] Q = Q [] := rfl
theorem resS_tmp {P : Program} {F : FR} {st : PH} {Q : List Value → Prop} {t : Tmp} {rs : List ResultVar} : resS P F st (.tmp t :: rs) Q = resS P F st rs fun l => Q (F.getD t undef :: l) := rfl
def readR (K : Value → Prop) : VRes → Prop
  | .ov (some v) => K v
  | _ => False
theorem resS_cell {P : Program} {F : FR} {st : PH} {Q : List Value → Prop} {a : Tmp} {t : TypeId} {rs : List ResultVar} {x : Addr} (h : F.getD a undef = .pointer (some x)) : readR (fun v => resS P F st rs fun l => Q (v :: l)) (loadV P t x st) → resS P F st (.cell a t :: rs) Q := by
  intro k
  simp only [resS, h]
  unfold loadV at k
  unfold loadS
  split at k
  · rename_i hg
    rw [hg]
    split at k
    · rename_i ht
      cases hc : st.cellsAt x (tsz P t) with
      | none => rw [hc] at k; exact k.elim
      | some cs => rw [hc] at k; exact ⟨ht, cs, rfl, k⟩
    · exact k.elim
  · rename_i hg
    rw [hg]
    cases hc : st.cell? x with
    | none => rw [hc] at k; exact k.elim
    | some v => rw [hc] at k; exact ⟨v, rfl, k⟩
  · exact k.elim
theorem below_of {st st' : PH} {W W' : World} (hs : Sub st W) (n : Next st W st' W') (hl : Lies st st') : Go.RowKit.Below W.heap.size W W' := by
  refine ⟨n.os, n.tape, n.output, n.size, fun i hi => ?_⟩
  cases e : st i with
  | none => exact (n.rest i hi e).2
  | some o => rw [n.sub i o (hl i o e), hs i o e]
end Go.Proofs.Ytfmfkablbaoofaa.Ae
namespace Go.Proofs.Ytfmfkablbaoofaa.Ae
open Go
theorem newK_intro {st : PH} {o : Obj} {K : Value → PH → Prop} (h : ∀ r, st r = none → K (.pointer (some ⟨r, 0, none⟩)) (st.upd r o)) : NewK st o K := h
theorem Ret.of_lies {P : Program} {f : FuncId} {args : List Value} {st : PH} {v : Value} (h : ACalls P f args.toArray st fun r s => r = v ∧ Lies st s) : Ret P f args st v :=
  h.forget fun v' s ⟨e, hl⟩ => ⟨st, hl, e, rfl⟩
theorem lies_upd {st : PH} {r : Nat} {o : Obj} (hr : st r = none) : Lies st (st.upd r o) := by
  intro i p e
  unfold PH.upd
  rw [if_neg (by rintro rfl; rw [hr] at e; cases e)]
  exact e
theorem Lies.trans {a b c : PH} (h : Lies a b) (k : Lies b c) : Lies a c := fun r o e => k r o (h r o e)
theorem upd_none {st : PH} {r i : Nat} {o : Obj} (h : (st.upd r o) i = none) : i ≠ r ∧ st i = none := by
  unfold PH.upd at h
  split at h
  · cases h
  · rename_i hne; exact ⟨hne, h⟩
theorem upd_none3 {st : PH} {r i : Nat} {o : Obj} (h : (st.upd r o) i = none) : ¬ i = r ∧ ¬ r = i ∧ st i = none := by
  obtain ⟨a, b⟩ := upd_none h
  exact ⟨a, fun e => a e.symm, b⟩
theorem newK_up1 {st : PH} {a0 : Nat} {o0 o : Obj} {K : Value → PH → Prop} (h : ∀ r, ¬ r = a0 → ¬ a0 = r → st r = none → K (.pointer (some ⟨r, 0, none⟩)) ((st.upd a0 o0).upd r o)) : NewK (st.upd a0 o0) o K := by
  intro r hr
  obtain ⟨x0, y0, h0⟩ := upd_none3 hr
  exact h r x0 y0 h0
theorem newK_up2 {st : PH} {a0 a1 : Nat} {o0 o1 o : Obj} {K : Value → PH → Prop} (h : ∀ r, ¬ r = a0 → ¬ a0 = r → ¬ r = a1 → ¬ a1 = r → st r = none → K (.pointer (some ⟨r, 0, none⟩)) (((st.upd a0 o0).upd a1 o1).upd r o)) : NewK ((st.upd a0 o0).upd a1 o1) o K := by
  intro r hr
  obtain ⟨x1, y1, h1⟩ := upd_none3 hr
  obtain ⟨x0, y0, h0⟩ := upd_none3 h1
  exact h r x0 y0 x1 y1 h0
theorem newK_up3 {st : PH} {a0 a1 a2 : Nat} {o0 o1 o2 o : Obj} {K : Value → PH → Prop} (h : ∀ r, ¬ r = a0 → ¬ a0 = r → ¬ r = a1 → ¬ a1 = r → ¬ r = a2 → ¬ a2 = r → st r = none → K (.pointer (some ⟨r, 0, none⟩)) ((((st.upd a0 o0).upd a1 o1).upd a2 o2).upd r o)) : NewK (((st.upd a0 o0).upd a1 o1).upd a2 o2) o K := by
  intro r hr
  obtain ⟨x2, y2, h2⟩ := upd_none3 hr
  obtain ⟨x1, y1, h1⟩ := upd_none3 h2
  obtain ⟨x0, y0, h0⟩ := upd_none3 h1
  exact h r x0 y0 x1 y1 x2 y2 h0
theorem newK_up4 {st : PH} {a0 a1 a2 a3 : Nat} {o0 o1 o2 o3 o : Obj} {K : Value → PH → Prop} (h : ∀ r, ¬ r = a0 → ¬ a0 = r → ¬ r = a1 → ¬ a1 = r → ¬ r = a2 → ¬ a2 = r → ¬ r = a3 → ¬ a3 = r → st r = none → K (.pointer (some ⟨r, 0, none⟩)) (((((st.upd a0 o0).upd a1 o1).upd a2 o2).upd a3 o3).upd r o)) : NewK ((((st.upd a0 o0).upd a1 o1).upd a2 o2).upd a3 o3) o K := by
  intro r hr
  obtain ⟨x3, y3, h3⟩ := upd_none3 hr
  obtain ⟨x2, y2, h2⟩ := upd_none3 h3
  obtain ⟨x1, y1, h1⟩ := upd_none3 h2
  obtain ⟨x0, y0, h0⟩ := upd_none3 h1
  exact h r x0 y0 x1 y1 x2 y2 x3 y3 h0
theorem newK_up5 {st : PH} {a0 a1 a2 a3 a4 : Nat} {o0 o1 o2 o3 o4 o : Obj} {K : Value → PH → Prop} (h : ∀ r, ¬ r = a0 → ¬ a0 = r → ¬ r = a1 → ¬ a1 = r → ¬ r = a2 → ¬ a2 = r → ¬ r = a3 → ¬ a3 = r → ¬ r = a4 → ¬ a4 = r → st r = none → K (.pointer (some ⟨r, 0, none⟩)) ((((((st.upd a0 o0).upd a1 o1).upd a2 o2).upd a3 o3).upd a4 o4).upd r o)) : NewK (((((st.upd a0 o0).upd a1 o1).upd a2 o2).upd a3 o3).upd a4 o4) o K := by
  intro r hr
  obtain ⟨x4, y4, h4⟩ := upd_none3 hr
  obtain ⟨x3, y3, h3⟩ := upd_none3 h4
  obtain ⟨x2, y2, h2⟩ := upd_none3 h3
  obtain ⟨x1, y1, h1⟩ := upd_none3 h2
  obtain ⟨x0, y0, h0⟩ := upd_none3 h1
  exact h r x0 y0 x1 y1 x2 y2 x3 y3 x4 y4 h0
theorem newK_up6 {st : PH} {a0 a1 a2 a3 a4 a5 : Nat} {o0 o1 o2 o3 o4 o5 o : Obj} {K : Value → PH → Prop} (h : ∀ r, ¬ r = a0 → ¬ a0 = r → ¬ r = a1 → ¬ a1 = r → ¬ r = a2 → ¬ a2 = r → ¬ r = a3 → ¬ a3 = r → ¬ r = a4 → ¬ a4 = r → ¬ r = a5 → ¬ a5 = r → st r = none → K (.pointer (some ⟨r, 0, none⟩)) (((((((st.upd a0 o0).upd a1 o1).upd a2 o2).upd a3 o3).upd a4 o4).upd a5 o5).upd r o)) : NewK ((((((st.upd a0 o0).upd a1 o1).upd a2 o2).upd a3 o3).upd a4 o4).upd a5 o5) o K := by
  intro r hr
  obtain ⟨x5, y5, h5⟩ := upd_none3 hr
  obtain ⟨x4, y4, h4⟩ := upd_none3 h5
  obtain ⟨x3, y3, h3⟩ := upd_none3 h4
  obtain ⟨x2, y2, h2⟩ := upd_none3 h3
  obtain ⟨x1, y1, h1⟩ := upd_none3 h2
  obtain ⟨x0, y0, h0⟩ := upd_none3 h1
  exact h r x0 y0 x1 y1 x2 y2 x3 y3 x4 y4 x5 y5 h0
theorem PH.upd_swap {st : PH} {r i : Nat} {a b c : Obj} (h : ¬ i = r) : ((st.upd r a).upd i b).upd r c = (st.upd r c).upd i b := by
  funext j
  unfold PH.upd
  by_cases e : j = r
  · subst e; rw [if_pos rfl, if_neg (fun e => h e.symm), if_pos rfl]
  · rw [if_neg e]; split
    · rfl
    · rfl
theorem Lies.upd {st s : PH} {r : Nat} {o : Obj} (h : Lies st s) (hr : st r = none) : Lies st (s.upd r o) := by
  intro i p e
  unfold PH.upd
  rw [if_neg (by rintro rfl; rw [hr] at e; cases e)]
  exact h i p e
theorem buildS_def {P : Program} {t : TypeId} {parts : List (Nat × Value)} : buildS P t parts = (tparts P t).bind fun pl => (tzero P t).bind fun z => (fillL pl z.cells parts).map .agg := rfl
theorem oneV_one {v : Value} : oneV [v] = v := rfl
theorem oneV_two {v u : Value} {l : List Value} : oneV (v :: u :: l) = .tuple (v :: u :: l).toArray := rfl
theorem cells_agg {cs : Array Value} : (Value.agg cs).cells = cs := rfl
theorem cells_int {k : IntKind} {n : Int} : (Value.int k n).cells = #[.int k n] := rfl
theorem cells_bool {b : Bool} : (Value.bool b).cells = #[.bool b] := rfl
theorem cells_string {b : ByteArray} : (Value.string b).cells = #[.string b] := rfl
theorem cells_pointer {a : Option Addr} : (Value.pointer a).cells = #[.pointer a] := rfl
theorem cells_slice {a : Option Addr} {l c : Nat} : (Value.slice a l c).cells = #[.slice a l c] := rfl
theorem cells_map {a : Option Nat} : (Value.map a).cells = #[.map a] := rfl
theorem cells_func {f : Fn} {a b : Array Value} : (Value.func f a b).cells = #[.func f a b] := rfl
theorem cells_nilFunc : (Value.nilFunc).cells = #[.nilFunc] := rfl
def storeC (P : Program) (t : TypeId) (a : Addr) (cs : Array Value) (st : PH) : VRes :=
  if tok P t = true ∧ cs.size = tsz P t ∧ cs.all Value.oneCell = true then .mem ((st.owned a cs.size).map fun x => st.upd a.block (.cells (spl x.1 a.off cs.toList) x.2 (0, 0))) else .bad
theorem storeV_def {P : Program} {t : TypeId} {a : Addr} {v : Value} {st : PH} : storeV P t a v st = storeC P t a v.cells st := rfl
theorem storeC_lit {P : Program} {t : TypeId} {a : Addr} {l : List Value} {st : PH} : storeC P t a l.toArray st = if tok P t = true ∧ l.length = tsz P t ∧ l.all Value.oneCell = true then .mem ((st.owned a l.length).map fun x => st.upd a.block (.cells (spl x.1 a.off l) x.2 (0, 0))) else .bad := by
  have e : l.toArray.all Value.oneCell = l.all Value.oneCell := by rw [List.all_toArray]
  unfold storeC; rw [e]; rfl
theorem condK_nbool {b : Bool} {X Y : (Exit → FR → PH → Prop) → FR → PH → Prop} {Q : Exit → FR → PH → Prop} {F : FR} {st : PH} (h1 : b = true → condK (.bool false) X Y Q F st) (h2 : b = false → condK (.bool true) X Y Q F st) : condK (.bool (!b)) X Y Q F st := by
  cases b
  · exact h2 rfl
  · exact h1 rfl
theorem condK_abool {b : Bool} {X Y : (Exit → FR → PH → Prop) → FR → PH → Prop} {Q : Exit → FR → PH → Prop} {F : FR} {st : PH} (h1 : b = true → condK (.bool true) X Y Q F st) (h2 : b = false → condK (.bool false) X Y Q F st) : condK (.bool b) X Y Q F st := by
  cases b
  · exact h2 rfl
  · exact h1 rfl
theorem guardK_nbool {b w : Bool} {X Y : FR → PH → Prop} {F : FR} {st : PH} (h1 : b = true → guardK (some false) w X Y F st) (h2 : b = false → guardK (some true) w X Y F st) : guardK (some (!b)) w X Y F st := by
  cases b
  · exact h2 rfl
  · exact h1 rfl
theorem dec_beq {p q : Prop} [Decidable p] [Decidable q] : (decide p == decide q) = decide (p ↔ q) := by
  by_cases hp : p <;> by_cases hq : q <;> simp [hp, hq]
theorem beq_t (b : Bool) : (b == true) = b := by cases b <;> rfl
theorem beq_f (b : Bool) : (b == false) = !b := by cases b <;> rfl
theorem dec_and {p q : Prop} [Decidable p] [Decidable q] : (decide p && decide q) = decide (p ∧ q) := by
  by_cases hp : p <;> by_cases hq : q <;> simp [hp, hq]
theorem dec_or {p q : Prop} [Decidable p] [Decidable q] : (decide p || decide q) = decide (p ∨ q) := by
  by_cases hp : p <;> by_cases hq : q <;> simp [hp, hq]
theorem PH.upd_swap2 {st : PH} {r i0 i1 : Nat} {a b0 b1 c : Obj} (h0 : ¬ i0 = r) (h1 : ¬ i1 = r) : (((st.upd r a).upd i0 b0).upd i1 b1).upd r c = ((st.upd r c).upd i0 b0).upd i1 b1 := by
  funext j
  unfold PH.upd
  by_cases e : j = r
  · subst e; simp only [if_true, show ¬ j = i0 ∧ ¬ j = i1 from ⟨fun e => h0 e.symm, fun e => h1 e.symm⟩, if_false]
  · simp only [e, if_false]
theorem PH.upd_swap3 {st : PH} {r i0 i1 i2 : Nat} {a b0 b1 b2 c : Obj} (h0 : ¬ i0 = r) (h1 : ¬ i1 = r) (h2 : ¬ i2 = r) : ((((st.upd r a).upd i0 b0).upd i1 b1).upd i2 b2).upd r c = (((st.upd r c).upd i0 b0).upd i1 b1).upd i2 b2 := by
  funext j
  unfold PH.upd
  by_cases e : j = r
  · subst e; simp only [if_true, show ¬ j = i0 ∧ ¬ j = i1 ∧ ¬ j = i2 from ⟨fun e => h0 e.symm, fun e => h1 e.symm, fun e => h2 e.symm⟩, if_false]
  · simp only [e, if_false]
theorem PH.upd_swap4 {st : PH} {r i0 i1 i2 i3 : Nat} {a b0 b1 b2 b3 c : Obj} (h0 : ¬ i0 = r) (h1 : ¬ i1 = r) (h2 : ¬ i2 = r) (h3 : ¬ i3 = r) : (((((st.upd r a).upd i0 b0).upd i1 b1).upd i2 b2).upd i3 b3).upd r c = ((((st.upd r c).upd i0 b0).upd i1 b1).upd i2 b2).upd i3 b3 := by
  funext j
  unfold PH.upd
  by_cases e : j = r
  · subst e; simp only [if_true, show ¬ j = i0 ∧ ¬ j = i1 ∧ ¬ j = i2 ∧ ¬ j = i3 from ⟨fun e => h0 e.symm, fun e => h1 e.symm, fun e => h2 e.symm, fun e => h3 e.symm⟩, if_false]
  · simp only [e, if_false]
theorem PH.upd_swap5 {st : PH} {r i0 i1 i2 i3 i4 : Nat} {a b0 b1 b2 b3 b4 c : Obj} (h0 : ¬ i0 = r) (h1 : ¬ i1 = r) (h2 : ¬ i2 = r) (h3 : ¬ i3 = r) (h4 : ¬ i4 = r) : ((((((st.upd r a).upd i0 b0).upd i1 b1).upd i2 b2).upd i3 b3).upd i4 b4).upd r c = (((((st.upd r c).upd i0 b0).upd i1 b1).upd i2 b2).upd i3 b3).upd i4 b4 := by
  funext j
  unfold PH.upd
  by_cases e : j = r
  · subst e; simp only [if_true, show ¬ j = i0 ∧ ¬ j = i1 ∧ ¬ j = i2 ∧ ¬ j = i3 ∧ ¬ j = i4 from ⟨fun e => h0 e.symm, fun e => h1 e.symm, fun e => h2 e.symm, fun e => h3 e.symm, fun e => h4 e.symm⟩, if_false]
  · simp only [e, if_false]
theorem PH.upd_swap6 {st : PH} {r i0 i1 i2 i3 i4 i5 : Nat} {a b0 b1 b2 b3 b4 b5 c : Obj} (h0 : ¬ i0 = r) (h1 : ¬ i1 = r) (h2 : ¬ i2 = r) (h3 : ¬ i3 = r) (h4 : ¬ i4 = r) (h5 : ¬ i5 = r) : (((((((st.upd r a).upd i0 b0).upd i1 b1).upd i2 b2).upd i3 b3).upd i4 b4).upd i5 b5).upd r c = ((((((st.upd r c).upd i0 b0).upd i1 b1).upd i2 b2).upd i3 b3).upd i4 b4).upd i5 b5 := by
  funext j
  unfold PH.upd
  by_cases e : j = r
  · subst e; simp only [if_true, show ¬ j = i0 ∧ ¬ j = i1 ∧ ¬ j = i2 ∧ ¬ j = i3 ∧ ¬ j = i4 ∧ ¬ j = i5 from ⟨fun e => h0 e.symm, fun e => h1 e.symm, fun e => h2 e.symm, fun e => h3 e.symm, fun e => h4 e.symm, fun e => h5 e.symm⟩, if_false]
  · simp only [e, if_false]
theorem newK_up7 {st : PH} {a0 a1 a2 a3 a4 a5 a6 : Nat} {o0 o1 o2 o3 o4 o5 o6 o : Obj} {K : Value → PH → Prop} (h : ∀ r, ¬ r = a0 → ¬ a0 = r → ¬ r = a1 → ¬ a1 = r → ¬ r = a2 → ¬ a2 = r → ¬ r = a3 → ¬ a3 = r → ¬ r = a4 → ¬ a4 = r → ¬ r = a5 → ¬ a5 = r → ¬ r = a6 → ¬ a6 = r → st r = none → K (.pointer (some ⟨r, 0, none⟩)) ((((((((st.upd a0 o0).upd a1 o1).upd a2 o2).upd a3 o3).upd a4 o4).upd a5 o5).upd a6 o6).upd r o)) : NewK (((((((st.upd a0 o0).upd a1 o1).upd a2 o2).upd a3 o3).upd a4 o4).upd a5 o5).upd a6 o6) o K := by
  intro r hr
  obtain ⟨x6, y6, h6⟩ := upd_none3 hr
  obtain ⟨x5, y5, h5⟩ := upd_none3 h6
  obtain ⟨x4, y4, h4⟩ := upd_none3 h5
  obtain ⟨x3, y3, h3⟩ := upd_none3 h4
  obtain ⟨x2, y2, h2⟩ := upd_none3 h3
  obtain ⟨x1, y1, h1⟩ := upd_none3 h2
  obtain ⟨x0, y0, h0⟩ := upd_none3 h1
  exact h r x0 y0 x1 y1 x2 y2 x3 y3 x4 y4 x5 y5 x6 y6 h0
theorem newK_up8 {st : PH} {a0 a1 a2 a3 a4 a5 a6 a7 : Nat} {o0 o1 o2 o3 o4 o5 o6 o7 o : Obj} {K : Value → PH → Prop} (h : ∀ r, ¬ r = a0 → ¬ a0 = r → ¬ r = a1 → ¬ a1 = r → ¬ r = a2 → ¬ a2 = r → ¬ r = a3 → ¬ a3 = r → ¬ r = a4 → ¬ a4 = r → ¬ r = a5 → ¬ a5 = r → ¬ r = a6 → ¬ a6 = r → ¬ r = a7 → ¬ a7 = r → st r = none → K (.pointer (some ⟨r, 0, none⟩)) (((((((((st.upd a0 o0).upd a1 o1).upd a2 o2).upd a3 o3).upd a4 o4).upd a5 o5).upd a6 o6).upd a7 o7).upd r o)) : NewK ((((((((st.upd a0 o0).upd a1 o1).upd a2 o2).upd a3 o3).upd a4 o4).upd a5 o5).upd a6 o6).upd a7 o7) o K := by
  intro r hr
  obtain ⟨x7, y7, h7⟩ := upd_none3 hr
  obtain ⟨x6, y6, h6⟩ := upd_none3 h7
  obtain ⟨x5, y5, h5⟩ := upd_none3 h6
  obtain ⟨x4, y4, h4⟩ := upd_none3 h5
  obtain ⟨x3, y3, h3⟩ := upd_none3 h4
  obtain ⟨x2, y2, h2⟩ := upd_none3 h3
  obtain ⟨x1, y1, h1⟩ := upd_none3 h2
  obtain ⟨x0, y0, h0⟩ := upd_none3 h1
  exact h r x0 y0 x1 y1 x2 y2 x3 y3 x4 y4 x5 y5 x6 y6 x7 y7 h0
theorem newK_up9 {st : PH} {a0 a1 a2 a3 a4 a5 a6 a7 a8 : Nat} {o0 o1 o2 o3 o4 o5 o6 o7 o8 o : Obj} {K : Value → PH → Prop} (h : ∀ r, ¬ r = a0 → ¬ a0 = r → ¬ r = a1 → ¬ a1 = r → ¬ r = a2 → ¬ a2 = r → ¬ r = a3 → ¬ a3 = r → ¬ r = a4 → ¬ a4 = r → ¬ r = a5 → ¬ a5 = r → ¬ r = a6 → ¬ a6 = r → ¬ r = a7 → ¬ a7 = r → ¬ r = a8 → ¬ a8 = r → st r = none → K (.pointer (some ⟨r, 0, none⟩)) ((((((((((st.upd a0 o0).upd a1 o1).upd a2 o2).upd a3 o3).upd a4 o4).upd a5 o5).upd a6 o6).upd a7 o7).upd a8 o8).upd r o)) : NewK (((((((((st.upd a0 o0).upd a1 o1).upd a2 o2).upd a3 o3).upd a4 o4).upd a5 o5).upd a6 o6).upd a7 o7).upd a8 o8) o K := by
  intro r hr
  obtain ⟨x8, y8, h8⟩ := upd_none3 hr
  obtain ⟨x7, y7, h7⟩ := upd_none3 h8
  obtain ⟨x6, y6, h6⟩ := upd_none3 h7
  obtain ⟨x5, y5, h5⟩ := upd_none3 h6
  obtain ⟨x4, y4, h4⟩ := upd_none3 h5
  obtain ⟨x3, y3, h3⟩ := upd_none3 h4
  obtain ⟨x2, y2, h2⟩ := upd_none3 h3
  obtain ⟨x1, y1, h1⟩ := upd_none3 h2
  obtain ⟨x0, y0, h0⟩ := upd_none3 h1
  exact h r x0 y0 x1 y1 x2 y2 x3 y3 x4 y4 x5 y5 x6 y6 x7 y7 x8 y8 h0
theorem newK_up10 {st : PH} {a0 a1 a2 a3 a4 a5 a6 a7 a8 a9 : Nat} {o0 o1 o2 o3 o4 o5 o6 o7 o8 o9 o : Obj} {K : Value → PH → Prop} (h : ∀ r, ¬ r = a0 → ¬ a0 = r → ¬ r = a1 → ¬ a1 = r → ¬ r = a2 → ¬ a2 = r → ¬ r = a3 → ¬ a3 = r → ¬ r = a4 → ¬ a4 = r → ¬ r = a5 → ¬ a5 = r → ¬ r = a6 → ¬ a6 = r → ¬ r = a7 → ¬ a7 = r → ¬ r = a8 → ¬ a8 = r → ¬ r = a9 → ¬ a9 = r → st r = none → K (.pointer (some ⟨r, 0, none⟩)) (((((((((((st.upd a0 o0).upd a1 o1).upd a2 o2).upd a3 o3).upd a4 o4).upd a5 o5).upd a6 o6).upd a7 o7).upd a8 o8).upd a9 o9).upd r o)) : NewK ((((((((((st.upd a0 o0).upd a1 o1).upd a2 o2).upd a3 o3).upd a4 o4).upd a5 o5).upd a6 o6).upd a7 o7).upd a8 o8).upd a9 o9) o K := by
  intro r hr
  obtain ⟨x9, y9, h9⟩ := upd_none3 hr
  obtain ⟨x8, y8, h8⟩ := upd_none3 h9
  obtain ⟨x7, y7, h7⟩ := upd_none3 h8
  obtain ⟨x6, y6, h6⟩ := upd_none3 h7
  obtain ⟨x5, y5, h5⟩ := upd_none3 h6
  obtain ⟨x4, y4, h4⟩ := upd_none3 h5
  obtain ⟨x3, y3, h3⟩ := upd_none3 h4
  obtain ⟨x2, y2, h2⟩ := upd_none3 h3
  obtain ⟨x1, y1, h1⟩ := upd_none3 h2
  obtain ⟨x0, y0, h0⟩ := upd_none3 h1
  exact h r x0 y0 x1 y1 x2 y2 x3 y3 x4 y4 x5 y5 x6 y6 x7 y7 x8 y8 x9 y9 h0
theorem newK_up11 {st : PH} {a0 a1 a2 a3 a4 a5 a6 a7 a8 a9 a10 : Nat} {o0 o1 o2 o3 o4 o5 o6 o7 o8 o9 o10 o : Obj} {K : Value → PH → Prop} (h : ∀ r, ¬ r = a0 → ¬ a0 = r → ¬ r = a1 → ¬ a1 = r → ¬ r = a2 → ¬ a2 = r → ¬ r = a3 → ¬ a3 = r → ¬ r = a4 → ¬ a4 = r → ¬ r = a5 → ¬ a5 = r → ¬ r = a6 → ¬ a6 = r → ¬ r = a7 → ¬ a7 = r → ¬ r = a8 → ¬ a8 = r → ¬ r = a9 → ¬ a9 = r → ¬ r = a10 → ¬ a10 = r → st r = none → K (.pointer (some ⟨r, 0, none⟩)) ((((((((((((st.upd a0 o0).upd a1 o1).upd a2 o2).upd a3 o3).upd a4 o4).upd a5 o5).upd a6 o6).upd a7 o7).upd a8 o8).upd a9 o9).upd a10 o10).upd r o)) : NewK (((((((((((st.upd a0 o0).upd a1 o1).upd a2 o2).upd a3 o3).upd a4 o4).upd a5 o5).upd a6 o6).upd a7 o7).upd a8 o8).upd a9 o9).upd a10 o10) o K := by
  intro r hr
  obtain ⟨x10, y10, h10⟩ := upd_none3 hr
  obtain ⟨x9, y9, h9⟩ := upd_none3 h10
  obtain ⟨x8, y8, h8⟩ := upd_none3 h9
  obtain ⟨x7, y7, h7⟩ := upd_none3 h8
  obtain ⟨x6, y6, h6⟩ := upd_none3 h7
  obtain ⟨x5, y5, h5⟩ := upd_none3 h6
  obtain ⟨x4, y4, h4⟩ := upd_none3 h5
  obtain ⟨x3, y3, h3⟩ := upd_none3 h4
  obtain ⟨x2, y2, h2⟩ := upd_none3 h3
  obtain ⟨x1, y1, h1⟩ := upd_none3 h2
  obtain ⟨x0, y0, h0⟩ := upd_none3 h1
  exact h r x0 y0 x1 y1 x2 y2 x3 y3 x4 y4 x5 y5 x6 y6 x7 y7 x8 y8 x9 y9 x10 y10 h0
theorem newK_up12 {st : PH} {a0 a1 a2 a3 a4 a5 a6 a7 a8 a9 a10 a11 : Nat} {o0 o1 o2 o3 o4 o5 o6 o7 o8 o9 o10 o11 o : Obj} {K : Value → PH → Prop} (h : ∀ r, ¬ r = a0 → ¬ a0 = r → ¬ r = a1 → ¬ a1 = r → ¬ r = a2 → ¬ a2 = r → ¬ r = a3 → ¬ a3 = r → ¬ r = a4 → ¬ a4 = r → ¬ r = a5 → ¬ a5 = r → ¬ r = a6 → ¬ a6 = r → ¬ r = a7 → ¬ a7 = r → ¬ r = a8 → ¬ a8 = r → ¬ r = a9 → ¬ a9 = r → ¬ r = a10 → ¬ a10 = r → ¬ r = a11 → ¬ a11 = r → st r = none → K (.pointer (some ⟨r, 0, none⟩)) (((((((((((((st.upd a0 o0).upd a1 o1).upd a2 o2).upd a3 o3).upd a4 o4).upd a5 o5).upd a6 o6).upd a7 o7).upd a8 o8).upd a9 o9).upd a10 o10).upd a11 o11).upd r o)) : NewK ((((((((((((st.upd a0 o0).upd a1 o1).upd a2 o2).upd a3 o3).upd a4 o4).upd a5 o5).upd a6 o6).upd a7 o7).upd a8 o8).upd a9 o9).upd a10 o10).upd a11 o11) o K := by
  intro r hr
  obtain ⟨x11, y11, h11⟩ := upd_none3 hr
  obtain ⟨x10, y10, h10⟩ := upd_none3 h11
  obtain ⟨x9, y9, h9⟩ := upd_none3 h10
  obtain ⟨x8, y8, h8⟩ := upd_none3 h9
  obtain ⟨x7, y7, h7⟩ := upd_none3 h8
  obtain ⟨x6, y6, h6⟩ := upd_none3 h7
  obtain ⟨x5, y5, h5⟩ := upd_none3 h6
  obtain ⟨x4, y4, h4⟩ := upd_none3 h5
  obtain ⟨x3, y3, h3⟩ := upd_none3 h4
  obtain ⟨x2, y2, h2⟩ := upd_none3 h3
  obtain ⟨x1, y1, h1⟩ := upd_none3 h2
  obtain ⟨x0, y0, h0⟩ := upd_none3 h1
  exact h r x0 y0 x1 y1 x2 y2 x3 y3 x4 y4 x5 y5 x6 y6 x7 y7 x8 y8 x9 y9 x10 y10 x11 y11 h0
end Go.Proofs.Ytfmfkablbaoofaa.Ae
