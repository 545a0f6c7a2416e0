/- Slots: what a table of them holds; the keys of its map; plain laws. -/
import Derived.Test.YtfmfkablbaoofaaMpKillNodes
import Derived.Test.YtfmfkablbaoofaaTzKillNodes
import Derived.Test.YtfmfkablbaoofaaFmKillNodes
import Derived.Test.YtfmfkablbaoofaaCcKillNodes
set_option linter.unusedVariables false
set_option linter.unusedSimpArgs false
set_option maxRecDepth 100000
namespace Go.Proofs.Ytfmfkablbaoofaa.Ae
open Go Go.Proofs.Ytfmfkablbaoofaa.Bits
/-- A slot: its place, its capability, whose child it is. -/
structure SL where
  nd : Int
  sl : Int
  k : Int
  o : Int
  s : Int
  b : Int
  r : Int
  pn : Int
  ps : Int
def sl0 : SL := ⟨0, 0, 0, 0, 0, 0, 0, 0, 0⟩
instance : Inhabited SL := ⟨sl0⟩
def sid (r : SL) : Int × Int := (r.nd, r.sl)
def slV (r : SL) : List Value := [.int .i64 r.k, .int .i64 r.o, .int .i64 r.s, .int .i64 r.b, .int .i64 r.r, .int .i64 r.pn, .int .i64 r.ps]
def slA (r : SL) : Value := .agg (slV r).toArray
theorem slA_def (r : SL) : slA r = .agg #[.int .i64 r.k, .int .i64 r.o, .int .i64 r.s, .int .i64 r.b, .int .i64 r.r, .int .i64 r.pn, .int .i64 r.ps] := rfl
def plV (k : Int × Int) : Value := .agg #[.int .i64 k.1, .int .i64 k.2]
theorem plV_def (k : Int × Int) : plV k = .agg #[.int .i64 k.1, .int .i64 k.2] := rfl
theorem dec_pair (a b c d : Int) : (decide (a = b) && (decide (c = d) && true)) = decide ((a, c) = (b, d)) := by
  by_cases h1 : a = b <;> by_cases h2 : c = d <;> simp [h1, h2]
theorem plV_law : KeyLaw Try.prog 29 plV := by
  obtain ⟨desc, hd⟩ := Option.isSome_iff_exists.1 (by kernel_rfl : (Try.prog.underlying 29).isSome = true)
  refine ⟨⟨desc, hd, .inr fun x y => ⟨by cases desc <;> rfl, ?_⟩⟩, ?_⟩
  · obtain ⟨a, c⟩ := x
    obtain ⟨b, d⟩ := y
    rw [← dec_pair]
    show eqV Try.prog 4 29 (.agg #[.int .i64 a, .int .i64 c]) (.agg #[.int .i64 b, .int .i64 d]) = some ((decide (a = b) && (decide (c = d) && true)))
    kernel_rfl
  · intro e x st Q q
    obtain ⟨a, c⟩ := x
    have h : awp Try.prog (Instr.checkKey e 10000 29 (.agg #[.int .i64 a, .int .i64 c])) st Q = Q () st := by kernel_rfl
    show awp Try.prog (Instr.checkKey e 10000 29 (.agg #[.int .i64 a, .int .i64 c])) st Q
    rw [h]; exact q
def slt (x y : SL) : Prop := x.nd < y.nd ∨ (x.nd = y.nd ∧ x.sl < y.sl)
instance (x y : SL) : Decidable (slt x y) := by unfold slt; infer_instance
def TSorted (T : List SL) : Prop := T.Pairwise slt
theorem slt_ne {x y : SL} (h : slt x y) : sid x ≠ sid y := fun e => by
  unfold sid at e
  injection e with e1 e2
  unfold slt at h
  omega
theorem ts_inj {T : List SL} (h : TSorted T) {x y : SL} (hx : x ∈ T) (hy : y ∈ T) (e : sid x = sid y) : x = y := by
  induction T with
  | nil => cases hx
  | cons z T ih =>
    obtain ⟨h1, h2⟩ := List.pairwise_cons.1 h
    rcases List.mem_cons.1 hx with ex | hx1
    · rcases List.mem_cons.1 hy with ey | hy1
      · rw [ex, ey]
      · exact absurd e (by rw [ex]; exact slt_ne (h1 _ hy1))
    · rcases List.mem_cons.1 hy with ey | hy1
      · exact absurd e.symm (by rw [ey]; exact slt_ne (h1 _ hx1))
      · exact ih h2 hx1 hy1
def tget (T : List SL) (k : Int × Int) : Option SL := T.find? fun r => decide (sid r = k)
def tins (r : SL) : List SL → List SL
  | [] => [r]
  | x :: T => if slt x r then x :: tins r T else r :: x :: T
def tdrop (T : List SL) (k : Int × Int) : List SL := T.filter fun r => decide (¬ sid r = k)
theorem tget_some {T : List SL} (h : TSorted T) {k : Int × Int} {r : SL} : tget T k = some r ↔ r ∈ T ∧ sid r = k := by
  unfold tget
  constructor
  · intro e
    exact ⟨List.mem_of_find?_eq_some e, of_decide_eq_true (List.find?_some (p := fun r => decide (sid r = k)) e)⟩
  · rintro ⟨h1, h2⟩
    cases e : T.find? fun r => decide (sid r = k) with
    | none =>
      have := List.find?_eq_none.1 e r h1
      simp [h2] at this
    | some x =>
      have a1 := List.mem_of_find?_eq_some e
      have a2 : sid x = k := of_decide_eq_true (List.find?_some (p := fun r => decide (sid r = k)) e)
      rw [ts_inj h a1 h1 (a2.trans h2.symm)]
theorem tget_none {T : List SL} {k : Int × Int} : tget T k = none ↔ ∀ r ∈ T, sid r ≠ k := by
  unfold tget
  rw [List.find?_eq_none]
  constructor
  · intro h r hr e; have := h r hr; simp [e] at this
  · intro h r hr; simpa using h r hr
theorem mem_tins {r x : SL} : ∀ {T : List SL}, x ∈ tins r T ↔ x = r ∨ x ∈ T := by
  intro T
  induction T with
  | nil => simp [tins]
  | cons y T ih =>
    unfold tins
    split
    · rw [List.mem_cons, ih, List.mem_cons]
      constructor
      · rintro (h | h | h)
        · exact .inr (.inl h)
        · exact .inl h
        · exact .inr (.inr h)
      · rintro (h | h | h)
        · exact .inr (.inl h)
        · exact .inl h
        · exact .inr (.inr h)
    · rw [List.mem_cons]
theorem slt_tot {x y : SL} (h : ¬ slt x y) (e : sid x ≠ sid y) : slt y x := by
  unfold slt at h ⊢
  unfold sid at e
  have : ¬ (x.nd = y.nd ∧ x.sl = y.sl) := fun ⟨h1, h2⟩ => e (by rw [h1, h2])
  omega
theorem slt_trans {x y z : SL} (h : slt x y) (k : slt y z) : slt x z := by
  unfold slt at *
  omega
theorem tins_sorted {r : SL} : ∀ {T : List SL}, TSorted T → (∀ x ∈ T, sid x ≠ sid r) → TSorted (tins r T) := by
  intro T
  induction T with
  | nil => intro _ _; exact List.pairwise_singleton _ _
  | cons y T ih =>
    intro h hn
    obtain ⟨h1, h2⟩ := List.pairwise_cons.1 h
    unfold tins
    split
    · rename_i hy
      refine List.pairwise_cons.2 ⟨fun x hx => ?_, ih h2 fun x hx => hn x (List.mem_cons_of_mem _ hx)⟩
      rcases mem_tins.1 hx with rfl | hx
      · exact hy
      · exact h1 x hx
    · rename_i hy
      have hry := slt_tot hy (hn y (List.mem_cons_self ..))
      refine List.pairwise_cons.2 ⟨fun x hx => ?_, h⟩
      rcases List.mem_cons.1 hx with rfl | hx
      · exact hry
      · exact slt_trans hry (h1 x hx)
theorem tdrop_sorted {T : List SL} (k : Int × Int) (h : TSorted T) : TSorted (tdrop T k) := h.sublist (List.filter_sublist ..)
/-- What a map holds is what the table holds. -/
def TMap (l : List ((Int × Int) × SL)) (T : List SL) : Prop := ∀ k r, mlook l k = some r ↔ (r ∈ T ∧ sid r = k)
theorem tmap_get {l : List ((Int × Int) × SL)} {T : List SL} (h : TMap l T) (hT : TSorted T) (k : Int × Int) : mlook l k = tget T k := by
  cases e : tget T k with
  | some r => exact (h k r).2 ((tget_some hT).1 e)
  | none =>
    cases e2 : mlook l k with
    | none => rfl
    | some r =>
      obtain ⟨h1, h2⟩ := (h k r).1 e2
      exact absurd h2 (tget_none.1 e r h1)
theorem tmap_nil : TMap [] [] := fun k r => ⟨fun h => (nomatch h), fun h => (nomatch h.1)⟩
theorem tmap_put {l : List ((Int × Int) × SL)} {T : List SL} (h : TMap l T) {r : SL} (hn : ∀ x ∈ T, sid x ≠ sid r) : TMap (mput l (sid r) r) (tins r T) := by
  intro k x
  rw [mlook_mput, mem_tins]
  by_cases hk : k = sid r
  · rw [if_pos hk]
    constructor
    · intro e; injection e with e; subst e; exact ⟨.inl rfl, hk.symm⟩
    · rintro ⟨h1 | h1, h2⟩
      · rw [h1]
      · exact absurd (h2.trans hk) (hn x h1)
  · rw [if_neg hk, h k x]
    constructor
    · rintro ⟨h1, h2⟩; exact ⟨.inr h1, h2⟩
    · rintro ⟨h1 | h1, h2⟩
      · subst h1; exact absurd h2.symm hk
      · exact ⟨h1, h2⟩
theorem tmap_drop {l : List ((Int × Int) × SL)} {T : List SL} (h : TMap l T) (hl : (l.map (·.1)).Nodup) (k : Int × Int) : TMap (mdel l k) (tdrop T k) := by
  intro j x
  rw [mlook_mdel hl]
  unfold tdrop
  rw [List.mem_filter]
  by_cases hj : j = k
  · rw [if_pos hj]
    constructor
    · intro e; cases e
    · rintro ⟨⟨_, h1⟩, h2⟩
      exact absurd (h2.trans hj) (of_decide_eq_true h1)
  · rw [if_neg hj, h j x]
    constructor
    · rintro ⟨a1, a2⟩; exact ⟨⟨a1, decide_eq_true (fun e => hj (a2.symm.trans e))⟩, a2⟩
    · rintro ⟨⟨a1, _⟩, a2⟩; exact ⟨a1, a2⟩
/-- The map's values are the table's, in some order. -/
theorem tmap_perm {l : List ((Int × Int) × SL)} {T : List SL} (h : TMap l T) (hl : (l.map (·.1)).Nodup) (hT : TSorted T) : (l.map (·.2)).Perm T := by
  have hk : ∀ x ∈ l, x.1 = sid x.2 := fun x hx => ((h x.1 x.2).1 ((mem_mlook hl).2 hx)).2.symm
  refine (List.perm_ext_iff_of_nodup ?_ ?_).2 fun r => ?_
  · unfold List.Nodup
    rw [List.pairwise_map]
    have := List.pairwise_map.1 hl
    refine (List.Pairwise.and_mem.1 this).imp ?_
    intro x y hxy e
    obtain ⟨hx, hy, hne⟩ := hxy
    exact hne (by rw [hk x hx, hk y hy, e])
  · refine hT.imp ?_
    intro x y hxy e
    exact slt_ne hxy (by rw [e])
  · rw [List.mem_map]
    constructor
    · rintro ⟨x, hx, rfl⟩
      exact ((h x.1 x.2).1 ((mem_mlook hl).2 hx)).1
    · intro hr
      exact ⟨(sid r, r), (mem_mlook hl).1 ((h (sid r) r).2 ⟨hr, rfl⟩), rfl⟩
end Go.Proofs.Ytfmfkablbaoofaa.Ae
