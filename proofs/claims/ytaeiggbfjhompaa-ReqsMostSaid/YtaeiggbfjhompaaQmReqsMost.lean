/- Requests: what a table of them holds; the keys of its map; plain laws. -/
import Derived.Test.YtaeiggbfjhompaaMpReqsMost
import Derived.Test.YtaeiggbfjhompaaTzReqsMost
import Derived.Test.YtaeiggbfjhompaaFmReqsMost
set_option linter.unusedVariables false
set_option linter.unusedSimpArgs false
set_option maxRecDepth 100000
namespace Go.Proofs.Ytaeiggbfjhompaa.Ae
open Go Go.Proofs.Ytaeiggbfjhompaa.Bits
/-- A request. -/
structure RQ where
  ring : Int
  seq : Int
  op : Int
  fg : Int
  tag : Int
  cap : Int
  a : Int
  b : Int
  c : Int
  tm : Int
  prev : Int
  soft : Bool
  started : Bool
def rq0 : RQ := ⟨0, 0, 0, 0, 0, 0, 0, 0, 0, 0, 0, false, false⟩
instance : Inhabited RQ := ⟨rq0⟩
def rid (r : RQ) : Int × Int := (r.ring, r.seq)
def rqV (r : RQ) : List Value := [.int .i64 r.ring, .int .i64 r.seq, .int .i64 r.op, .int .i64 r.fg, .int .u32 r.tag, .int .u32 r.cap, .int .u32 r.a, .int .u32 r.b, .int .u32 r.c, .int .u32 r.tm, .int .i64 r.prev, .bool r.soft, .bool r.started]
def rqA (r : RQ) : Value := .agg (rqV r).toArray
def idV (k : Int × Int) : Value := .agg #[.int .i64 k.1, .int .i64 k.2]
theorem rqV_len (r : RQ) : (rqV r).length = 13 := rfl
theorem dec_two (a b c d : Int) : (decide (a = b) && (decide (c = d) && true)) = decide ((a, c) = (b, d)) := by
  by_cases h1 : a = b <;> by_cases h2 : c = d <;> simp [h1, h2]
theorem idV_law : KeyLaw Try.prog 48 idV := by
  obtain ⟨desc, hd⟩ := Option.isSome_iff_exists.1 (by kernel_rfl : (Try.prog.underlying 48).isSome = true)
  refine ⟨⟨desc, hd, .inr fun x y => ⟨by cases desc <;> rfl, ?_⟩⟩, ?_⟩
  · obtain ⟨a, c⟩ := x
    obtain ⟨b, d⟩ := y
    rw [← dec_two]
    show eqV Try.prog 4 48 (.agg #[.int .i64 a, .int .i64 c]) (.agg #[.int .i64 b, .int .i64 d]) = some ((decide (a = b) && (decide (c = d) && true)))
    kernel_rfl
  · intro e x st Q q
    obtain ⟨a, c⟩ := x
    have h : awp Try.prog (Instr.checkKey e 10000 48 (.agg #[.int .i64 a, .int .i64 c])) st Q = Q () st := by kernel_rfl
    show awp Try.prog (Instr.checkKey e 10000 48 (.agg #[.int .i64 a, .int .i64 c])) st Q
    rw [h]; exact q
theorem idV_def (k : Int × Int) : idV k = .agg #[.int .i64 k.1, .int .i64 k.2] := rfl
theorem rqA_def (r : RQ) : rqA r = .agg #[.int .i64 r.ring, .int .i64 r.seq, .int .i64 r.op, .int .i64 r.fg, .int .u32 r.tag, .int .u32 r.cap, .int .u32 r.a, .int .u32 r.b, .int .u32 r.c, .int .u32 r.tm, .int .i64 r.prev, .bool r.soft, .bool r.started] := rfl
/-! ### what a table holds -/
def rlt (x y : RQ) : Prop := x.ring < y.ring ∨ (x.ring = y.ring ∧ x.seq < y.seq)
instance (x y : RQ) : Decidable (rlt x y) := by unfold rlt; infer_instance
def RSorted (T : List RQ) : Prop := T.Pairwise rlt
theorem rlt_ne {x y : RQ} (h : rlt x y) : rid x ≠ rid y := fun e => by
  unfold rid at e
  injection e with e1 e2
  unfold rlt at h
  omega
theorem rs_inj {T : List RQ} (h : RSorted T) {x y : RQ} (hx : x ∈ T) (hy : y ∈ T) (e : rid x = rid y) : x = y := by
  induction T with
  | nil => cases hx
  | cons z T ih =>
    obtain ⟨h1, h2⟩ := List.pairwise_cons.1 h
    rcases List.mem_cons.1 hx with ex | hx1
    · rcases List.mem_cons.1 hy with ey | hy1
      · rw [ex, ey]
      · exact absurd e (by rw [ex]; exact rlt_ne (h1 _ hy1))
    · rcases List.mem_cons.1 hy with ey | hy1
      · exact absurd e.symm (by rw [ey]; exact rlt_ne (h1 _ hx1))
      · exact ih h2 hx1 hy1
def rget (T : List RQ) (k : Int × Int) : Option RQ := T.find? fun r => decide (rid r = k)
def rof (T : List RQ) (ring : Int) : List RQ := T.filter fun r => decide (r.ring = ring)
def rins (r : RQ) : List RQ → List RQ
  | [] => [r]
  | x :: T => if rlt x r then x :: rins r T else r :: x :: T
def rdrop (T : List RQ) (k : Int × Int) : List RQ := T.filter fun r => decide (¬ rid r = k)
theorem rget_some {T : List RQ} (h : RSorted T) {k : Int × Int} {r : RQ} : rget T k = some r ↔ r ∈ T ∧ rid r = k := by
  unfold rget
  constructor
  · intro e
    exact ⟨List.mem_of_find?_eq_some e, of_decide_eq_true (List.find?_some (p := fun r => decide (rid r = k)) e)⟩
  · rintro ⟨h1, h2⟩
    cases e : T.find? fun r => decide (rid r = k) with
    | none =>
      have := List.find?_eq_none.1 e r h1
      simp [h2] at this
    | some x =>
      have a1 := List.mem_of_find?_eq_some e
      have a2 : rid x = k := of_decide_eq_true (List.find?_some (p := fun r => decide (rid r = k)) e)
      rw [rs_inj h a1 h1 (a2.trans h2.symm)]
theorem rget_none {T : List RQ} {k : Int × Int} : rget T k = none ↔ ∀ r ∈ T, rid r ≠ k := by
  unfold rget
  rw [List.find?_eq_none]
  constructor
  · intro h r hr e; have := h r hr; simp [e] at this
  · intro h r hr; simpa using h r hr
theorem mem_rins {r x : RQ} : ∀ {T : List RQ}, x ∈ rins r T ↔ x = r ∨ x ∈ T := by
  intro T
  induction T with
  | nil => simp [rins]
  | cons y T ih =>
    unfold rins
    split
    · rw [List.mem_cons, ih, List.mem_cons]
      constructor
      · rintro (h | h | h)
        · exact .inr (.inl h)
        · exact .inl h
        · exact .inr (.inr h)
      · rintro (h | h | h)
        · exact .inr (.inl h)
        · exact .inl h
        · exact .inr (.inr h)
    · rw [List.mem_cons]
theorem rlt_tot {x y : RQ} (h : ¬ rlt x y) (e : rid x ≠ rid y) : rlt y x := by
  unfold rlt at h ⊢
  unfold rid at e
  have : ¬ (x.ring = y.ring ∧ x.seq = y.seq) := fun ⟨h1, h2⟩ => e (by rw [h1, h2])
  omega
theorem rlt_trans {x y z : RQ} (h : rlt x y) (k : rlt y z) : rlt x z := by
  unfold rlt at *
  omega
theorem rins_sorted {r : RQ} : ∀ {T : List RQ}, RSorted T → (∀ x ∈ T, rid x ≠ rid r) → RSorted (rins r T) := by
  intro T
  induction T with
  | nil => intro _ _; exact List.pairwise_singleton _ _
  | cons y T ih =>
    intro h hn
    obtain ⟨h1, h2⟩ := List.pairwise_cons.1 h
    unfold rins
    split
    · rename_i hy
      refine List.pairwise_cons.2 ⟨fun x hx => ?_, ih h2 fun x hx => hn x (List.mem_cons_of_mem _ hx)⟩
      rcases mem_rins.1 hx with rfl | hx
      · exact hy
      · exact h1 x hx
    · rename_i hy
      have hry := rlt_tot hy (hn y (List.mem_cons_self ..))
      refine List.pairwise_cons.2 ⟨fun x hx => ?_, h⟩
      rcases List.mem_cons.1 hx with rfl | hx
      · exact hry
      · exact rlt_trans hry (h1 x hx)
theorem rins_length (r : RQ) : ∀ T : List RQ, (rins r T).length = T.length + 1 := by
  intro T
  induction T with
  | nil => rfl
  | cons y T ih =>
    unfold rins
    split
    · rw [List.length_cons, ih, List.length_cons]
    · rfl
theorem rdrop_sorted {T : List RQ} (k : Int × Int) (h : RSorted T) : RSorted (rdrop T k) := h.sublist (List.filter_sublist ..)
theorem rdrop_length (T : List RQ) (k : Int × Int) : (rdrop T k).length ≤ T.length := List.length_filter_le ..
/-- What a map holds is what the table holds. -/
def RMap (l : List ((Int × Int) × RQ)) (T : List RQ) : Prop := ∀ k r, mlook l k = some r ↔ (r ∈ T ∧ rid r = k)
theorem rmap_get {l : List ((Int × Int) × RQ)} {T : List RQ} (h : RMap l T) (hT : RSorted T) (k : Int × Int) : mlook l k = rget T k := by
  cases e : rget T k with
  | some r => exact (h k r).2 ((rget_some hT).1 e)
  | none =>
    cases e2 : mlook l k with
    | none => rfl
    | some r =>
      obtain ⟨h1, h2⟩ := (h k r).1 e2
      exact absurd h2 (rget_none.1 e r h1)
theorem rmap_nil : RMap [] [] := fun k r => ⟨fun h => (nomatch h), fun h => (nomatch h.1)⟩
theorem rmap_put {l : List ((Int × Int) × RQ)} {T : List RQ} (h : RMap l T) {r : RQ} (hn : ∀ x ∈ T, rid x ≠ rid r) : RMap (mput l (rid r) r) (rins r T) := by
  intro k x
  rw [mlook_mput, mem_rins]
  by_cases hk : k = rid r
  · rw [if_pos hk]
    constructor
    · intro e; injection e with e; subst e; exact ⟨.inl rfl, hk.symm⟩
    · rintro ⟨h1 | h1, h2⟩
      · rw [h1]
      · exact absurd (h2.trans hk) (hn x h1)
  · rw [if_neg hk, h k x]
    constructor
    · rintro ⟨h1, h2⟩; exact ⟨.inr h1, h2⟩
    · rintro ⟨h1 | h1, h2⟩
      · subst h1; exact absurd h2.symm hk
      · exact ⟨h1, h2⟩
theorem rmap_drop {l : List ((Int × Int) × RQ)} {T : List RQ} (h : RMap l T) (hl : (l.map (·.1)).Nodup) (k : Int × Int) : RMap (mdel l k) (rdrop T k) := by
  intro j x
  rw [mlook_mdel hl]
  unfold rdrop
  rw [List.mem_filter]
  by_cases hj : j = k
  · rw [if_pos hj]
    constructor
    · intro e; cases e
    · rintro ⟨⟨_, h1⟩, h2⟩
      exact absurd (h2.trans hj) (of_decide_eq_true h1)
  · rw [if_neg hj, h j x]
    constructor
    · rintro ⟨a1, a2⟩; exact ⟨⟨a1, decide_eq_true (fun e => hj (a2.symm.trans e))⟩, a2⟩
    · rintro ⟨⟨a1, _⟩, a2⟩; exact ⟨a1, a2⟩
/-- The map's values are the table's, in some order. -/
theorem rmap_perm {l : List ((Int × Int) × RQ)} {T : List RQ} (h : RMap l T) (hl : (l.map (·.1)).Nodup) (hT : RSorted T) : (l.map (·.2)).Perm T := by
  have hk : ∀ x ∈ l, x.1 = rid x.2 := fun x hx => ((h x.1 x.2).1 ((mem_mlook hl).2 hx)).2.symm
  refine (List.perm_ext_iff_of_nodup ?_ ?_).2 fun r => ?_
  · unfold List.Nodup
    rw [List.pairwise_map]
    have := List.pairwise_map.1 hl
    refine (List.Pairwise.and_mem.1 this).imp ?_
    intro x y hxy e
    obtain ⟨hx, hy, hne⟩ := hxy
    exact hne (by rw [hk x hx, hk y hy, e])
  · refine hT.imp ?_
    intro x y hxy e
    exact rlt_ne hxy (by rw [e])
  · rw [List.mem_map]
    constructor
    · rintro ⟨x, hx, rfl⟩
      exact ((h x.1 x.2).1 ((mem_mlook hl).2 hx)).1
    · intro hr
      exact ⟨(rid r, r), (mem_mlook hl).1 ((h (rid r) r).2 ⟨hr, rfl⟩), rfl⟩
/-- Sorted two ways, the same ones: one list. -/
theorem sort_unique {α : Type} {R : α → α → Prop} : ∀ {l1 l2 : List α}, l1.Perm l2 → (∀ x y, R x y → R y x → False) → l2.Pairwise R → l1.Pairwise (fun x y => ¬ R y x) → (∀ x ∈ l2, ∀ y ∈ l2, x = y ∨ R x y ∨ R y x) → l1 = l2 := by
  intro l1
  induction l1 with
  | nil => intro l2 hp _ _ _ _; exact (List.nil_perm.1 hp).symm
  | cons x l1 ih =>
    intro l2 hp hA h2 h1 ht
    cases l2 with
    | nil => exact absurd hp.length_eq (by simp)
    | cons y l2 =>
      obtain ⟨a1, a2⟩ := List.pairwise_cons.1 h1
      obtain ⟨b1, b2⟩ := List.pairwise_cons.1 h2
      have hxy : x = y := by
        have hx : x ∈ y :: l2 := hp.subset (List.mem_cons_self ..)
        have hy : y ∈ x :: l1 := hp.symm.subset (List.mem_cons_self ..)
        rcases List.mem_cons.1 hx with e | hx
        · exact e
        · rcases List.mem_cons.1 hy with e | hy
          · exact e.symm
          · exact absurd (b1 x hx) (a1 y hy)
      subst hxy
      rw [ih (List.Perm.cons_inv hp) hA b2 a2 fun p hp' q hq => ht p (List.mem_cons_of_mem _ hp') q (List.mem_cons_of_mem _ hq)]
theorem rof_unique {T C : List RQ} {ring : Int} (hT : RSorted T) (hp : C.Perm (rof T ring)) (hs : C.Pairwise (fun x y => ¬ y.seq < x.seq)) : C = rof T ring := by
  have hr : ∀ x ∈ rof T ring, x.ring = ring := fun x hx => of_decide_eq_true (List.mem_filter.1 hx).2
  refine sort_unique (R := fun x y => x.seq < y.seq) hp (fun x y h1 h2 => by omega) ?_ hs ?_
  · have := List.Pairwise.and_mem.1 (List.Pairwise.sublist (List.filter_sublist (p := fun r : RQ => decide (r.ring = ring))) hT)
    refine this.imp fun {x y} ⟨hx, hy, hxy⟩ => ?_
    have e1 := hr x hx
    have e2 := hr y hy
    unfold rlt at hxy
    omega
  · intro x hx y hy
    have e1 := hr x hx
    have e2 := hr y hy
    by_cases h1 : x.seq < y.seq
    · exact .inr (.inl h1)
    · by_cases h2 : y.seq < x.seq
      · exact .inr (.inr h2)
      · refine .inl (rs_inj hT (List.mem_filter.1 hx).1 (List.mem_filter.1 hy).1 ?_)
        unfold rid
        rw [e1, e2, show x.seq = y.seq by omega]
/-- The first that will do, by its place. -/
def scan (p : Nat → RQ → Bool) : List RQ → Nat → Option RQ
  | [], _ => none
  | x :: l, k => if p k x then some x else scan p l (k + 1)
theorem scan_at {p : Nat → RQ → Bool} {C : List RQ} {k : Nat} (h : k < C.length) : scan p (C.drop k) k = if p k (C.getD k rq0) then some (C.getD k rq0) else scan p (C.drop (k + 1)) (k + 1) := by
  have e : C.drop k = C.getD k rq0 :: C.drop (k + 1) := by rw [List.drop_eq_getElem_cons h, List.getD_eq_getElem?_getD, List.getElem?_eq_getElem h]; rfl
  rw [e]; rfl
theorem scan_end {p : Nat → RQ → Bool} {C : List RQ} : scan p (C.drop C.length) C.length = none := by rw [List.drop_length]; rfl
def nextP (T : List RQ) (ring : Int) (k : Nat) (r : RQ) : Bool := decide (r.started = false ∧ (r.prev = 0 ∨ (rget T (ring, r.prev)).isSome = false) ∧ (ban .i64 r.fg 4 = 0 ∨ k = 0))
def rnext (T : List RQ) (ring : Int) : Option RQ := scan (nextP T ring) (rof T ring) 0
def orId (r : Option RQ) : RQ := r.getD rq0
end Go.Proofs.Ytaeiggbfjhompaa.Ae
