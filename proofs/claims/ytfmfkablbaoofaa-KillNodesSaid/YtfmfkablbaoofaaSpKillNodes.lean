/- Parts of a heap side by side: what is told of each, and what an operation does to one of them; no condition. -/
import Derived.Test.YtfmfkablbaoofaaAmKillNodes
set_option linter.unusedVariables false
set_option linter.unusedSimpArgs false
namespace Go.Proofs.Ytfmfkablbaoofaa.Ae
open Go

abbrev HA := PH → Prop
def Dis (a b : PH) : Prop := ∀ p, a p = none ∨ b p = none
def uni (a b : PH) : PH := fun p => match a p with | some o => some o | none => b p
/-- All of these, each of a part of its own; what is left may be whatever it is. -/
def Sat : List HA → PH → Prop
  | [], _ => True
  | A :: L, h => ∃ a b, Dis a b ∧ A a ∧ Sat L b ∧ h = uni a b
inductive Pick : HA → List HA → List HA → Prop
  | here {A : HA} {L : List HA} : Pick A (A :: L) L
  | there {A B : HA} {L L' : List HA} : Pick A L L' → Pick A (B :: L) (B :: L')
theorem uni_some {a b : PH} {p : Nat} {o : Obj} (h : a p = some o) : uni a b p = some o := by unfold uni; rw [h]
theorem uni_none {a b : PH} {p : Nat} (h : a p = none) : uni a b p = b p := by unfold uni; rw [h]
theorem Dis.some {a b : PH} (d : Dis a b) {p : Nat} {o : Obj} (h : b p = .some o) : a p = none := by
  rcases d p with h1 | h1
  · exact h1
  · rw [h1] at h; cases h
theorem Dis.some' {a b : PH} (d : Dis a b) {p : Nat} {o : Obj} (h : a p = .some o) : b p = none := by
  rcases d p with h1 | h1
  · rw [h1] at h; cases h
  · exact h1
theorem Dis.right {a b : PH} (d : Dis a b) : Lies b (uni a b) := fun p o h => by rw [uni_none (d.some h)]; exact h
theorem Dis.left {a b : PH} : Lies a (uni a b) := fun p o h => uni_some h
theorem sat_lies {L : List HA} : ∀ {h h' : PH}, Lies h h' → Sat L h → Sat L h' := by
  induction L with
  | nil => intro h h' _ _; trivial
  | cons A L ih =>
    rintro h h' hl ⟨a, b, d, hA, hL, rfl⟩
    refine ⟨a, fun p => if (a p).isSome then none else h' p, fun p => ?_, hA, ih ?_ hL, ?_⟩
    · cases e : a p with
      | none => exact .inl rfl
      | some o => exact .inr (by simp [e])
    · intro p o hp
      have h1 := d.some hp
      simp only [h1, Option.isSome_none, Bool.false_eq_true, if_false]
      exact hl p o (d.right p o hp)
    · funext p
      cases e : a p with
      | none => rw [uni_none e]; simp only [e, Option.isSome_none, Bool.false_eq_true, if_false]
      | some o => rw [uni_some e]; exact hl p o (Dis.left p o e)
theorem uni_swap {a b c : PH} (d : Dis a (uni b c)) : uni a (uni b c) = uni b (uni a c) := by
  funext p
  cases e : a p with
  | none =>
    rw [uni_none e]
    cases e2 : b p with
    | none => rw [uni_none e2, uni_none e2, uni_none e]
    | some o => rw [uni_some e2, uni_some e2]
  | some o =>
    have h1 := d.some' e
    have h2 : b p = none := by
      cases e2 : b p with
      | none => rfl
      | some o2 => rw [uni_some e2] at h1; cases h1
    rw [uni_some e, uni_none h2, uni_some e]
theorem dis_uni {a b c : PH} (d : Dis a (uni b c)) : Dis a b ∧ Dis a c := by
  constructor
  · intro p
    rcases d p with h | h
    · exact .inl h
    · cases e : b p with
      | none => exact .inr rfl
      | some o => rw [uni_some e] at h; cases h
  · intro p
    rcases d p with h | h
    · exact .inl h
    · cases e : b p with
      | none => rw [uni_none e] at h; exact .inr h
      | some o => rw [uni_some e] at h; cases h
theorem uni_dis {a b c : PH} (d : Dis a c) (e : Dis b c) : Dis (uni a b) c := by
  intro p
  rcases d p with h | h
  · rcases e p with h2 | h2
    · exact .inl (by rw [uni_none h]; exact h2)
    · exact .inr h2
  · exact .inr h
theorem dis_comm {a b : PH} (d : Dis a b) : Dis b a := fun p => (d p).symm
theorem sat_swap {A B : HA} {L : List HA} {h : PH} : Sat (A :: B :: L) h → Sat (B :: A :: L) h := by
  rintro ⟨a, r, d, hA, ⟨b, l, d2, hB, hL, rfl⟩, rfl⟩
  obtain ⟨d3, d4⟩ := dis_uni d
  refine ⟨b, uni a l, ?_, hB, ⟨a, l, d4, hA, hL, rfl⟩, uni_swap d⟩
  exact dis_comm (uni_dis d3 (dis_comm d2))
theorem sat_tail {A : HA} {L L' : List HA} (k : ∀ h, Sat L h → Sat L' h) {h : PH} : Sat (A :: L) h → Sat (A :: L') h := by
  rintro ⟨a, b, d, hA, hL, rfl⟩
  exact ⟨a, b, d, hA, k _ hL, rfl⟩
theorem sat_imp {A A' : HA} {L : List HA} (k : ∀ h, A h → A' h) {h : PH} : Sat (A :: L) h → Sat (A' :: L) h := by
  rintro ⟨a, b, d, hA, hL, rfl⟩
  exact ⟨a, b, d, k _ hA, hL, rfl⟩
theorem sat_drop {A : HA} {L : List HA} {h : PH} : Sat (A :: L) h → Sat L h := by
  rintro ⟨a, b, d, hA, hL, rfl⟩
  exact sat_lies d.right hL
theorem sat_pick {A : HA} {L L' : List HA} (p : Pick A L L') : ∀ {h : PH}, Sat L h → Sat (A :: L') h := by
  induction p with
  | here => exact fun h => h
  | there p ih => exact fun h => sat_swap (sat_tail (fun _ => ih) h)
theorem sat_take {A : HA} {L1 L1' L2 : List HA} (p : Pick A L1 L1') (k : ∀ h, Sat L1' h → Sat L2 h) {h : PH} (s : Sat L1 h) : Sat (A :: L2) h := sat_tail k (sat_pick p s)
theorem sat_take' {A : HA} {L1 L1' L2 : List HA} (p : Pick A L1 L1') (k : ∀ h, Sat L1' h → Sat L2 h) : ∀ h, Sat L1 h → Sat (A :: L2) h := fun h s => sat_take p k s
theorem sat_drop' {A : HA} {L L2 : List HA} (k : ∀ h, Sat L h → Sat L2 h) : ∀ h, Sat (A :: L) h → Sat L2 h := fun h s => k h (sat_drop s)
theorem sat_pick2 {A B : HA} {L L1 L2 : List HA} (p1 : Pick A L L1) (p2 : Pick B L1 L2) {h : PH} (s : Sat L h) : Sat (A :: B :: L2) h := sat_tail (fun _ => sat_pick p2) (sat_pick p1 s)
theorem sat_same {L : List HA} : ∀ h, Sat L h → Sat L h := fun _ s => s
theorem sat_none {L : List HA} : ∀ h, Sat L h → Sat [] h := fun _ _ => trivial
theorem sat_go {L L2 : List HA} {h : PH} (k : ∀ h, Sat L h → Sat L2 h) (s : Sat L h) : Sat L2 h := k h s
theorem sat_ex {α : Type} {A : α → HA} {L : List HA} {h : PH} : Sat ((fun h => ∃ x, A x h) :: L) h ↔ ∃ x, Sat (A x :: L) h := by
  constructor
  · rintro ⟨a, b, d, ⟨x, hA⟩, hL, rfl⟩
    exact ⟨x, a, b, d, hA, hL, rfl⟩
  · rintro ⟨x, a, b, d, hA, hL, rfl⟩
    exact ⟨a, b, d, ⟨x, hA⟩, hL, rfl⟩
theorem sat_and {p : Prop} {A : HA} {L : List HA} {h : PH} : Sat ((fun h => p ∧ A h) :: L) h ↔ p ∧ Sat (A :: L) h := by
  constructor
  · rintro ⟨a, b, d, ⟨hp, hA⟩, hL, rfl⟩
    exact ⟨hp, a, b, d, hA, hL, rfl⟩
  · rintro ⟨hp, a, b, d, hA, hL, rfl⟩
    exact ⟨a, b, d, ⟨hp, hA⟩, hL, rfl⟩
theorem uni_assoc {a b c : PH} : uni (uni a b) c = uni a (uni b c) := by
  funext p
  cases e : a p with
  | none => rw [uni_none e]; unfold uni; rw [e]
  | some o => rw [uni_some e, uni_some (uni_some e)]
theorem sat_app {M : List HA} : ∀ {L : List HA} {h : PH}, Sat (Sat M :: L) h ↔ Sat (M ++ L) h := by
  induction M with
  | nil =>
    intro L h
    exact ⟨sat_drop, fun hL => ⟨fun _ => none, h, fun _ => .inl rfl, trivial, hL, rfl⟩⟩
  | cons A M ih =>
    intro L h
    constructor
    · rintro ⟨x, l, d, ⟨a, m, d2, hA, hM, rfl⟩, hL, rfl⟩
      have d3 := dis_uni (dis_comm d)
      refine ⟨a, uni m l, ?_, hA, ih.1 ⟨m, l, dis_comm d3.2, hM, hL, rfl⟩, uni_assoc⟩
      exact dis_comm (uni_dis (dis_comm d2) d3.1)
    · rintro ⟨a, r, d, hA, hr, rfl⟩
      obtain ⟨m, l, d2, hM, hL, rfl⟩ := ih.2 hr
      have d3 := dis_uni d
      exact ⟨uni a m, l, uni_dis d3.2 d2, ⟨a, m, d3.1, hA, hM, rfl⟩, hL, uni_assoc.symm⟩
/-- One block. -/
def Pt (r : Nat) (o : Obj) : HA := fun h => h r = some o
/-- All that lay there. -/
def Is (B : PH) : HA := fun h => Lies B h
theorem sat_is {B : PH} {L : List HA} {st : PH} (h : Sat (Is B :: L) st) : Lies B st := by
  obtain ⟨a, b, d, hA, hL, rfl⟩ := h
  exact hA.trans Dis.left
theorem sat_start (st : PH) : Sat [Is st] st := ⟨st, fun _ => none, fun _ => .inr rfl, Lies.refl _, trivial, by funext p; unfold uni; cases st p <;> rfl⟩
theorem sat_pt {r : Nat} {o : Obj} {L : List HA} {st : PH} (h : Sat (Pt r o :: L) st) : st r = some o := by
  obtain ⟨a, b, d, hA, hL, rfl⟩ := h
  exact uni_some hA
theorem sat_upd {r : Nat} {o o' : Obj} {L : List HA} {st : PH} (h : Sat (Pt r o :: L) st) : Sat (Pt r o' :: L) (st.upd r o') := by
  obtain ⟨a, b, d, hA, hL, rfl⟩ := h
  have h1 : a r = some o := hA
  refine ⟨a.upd r o', b, fun p => ?_, PH.upd_same _ _ _, hL, ?_⟩
  · by_cases e : p = r
    · subst e; exact .inr (d.some' h1)
    · rcases d p with h2 | h2
      · exact .inl (by rw [PH.upd_ne _ _ e]; exact h2)
      · exact .inr h2
  · funext p
    by_cases e : p = r
    · subst e; rw [PH.upd_same, uni_some (PH.upd_same _ _ _)]
    · rw [PH.upd_ne _ _ e]; unfold uni; rw [PH.upd_ne _ _ e]
theorem sat_new {r : Nat} {o : Obj} {L : List HA} {st : PH} (hr : st r = none) (h : Sat L st) : Sat (Pt r o :: L) (st.upd r o) := by
  refine ⟨PH.upd (fun _ => none) r o, st, fun p => ?_, PH.upd_same _ _ _, h, ?_⟩
  · by_cases e : p = r
    · subst e; exact .inr hr
    · exact .inl (PH.upd_ne _ _ e)
  · funext p
    by_cases e : p = r
    · subst e; rw [PH.upd_same, uni_some (PH.upd_same _ _ _)]
    · rw [PH.upd_ne _ _ e, uni_none (PH.upd_ne _ _ e)]
/-! ### slices of one's own -/
/-- Some cells, as a slice's: with room behind, and whatever lies ahead. -/
def SlB (a : Option Addr) (n cap : Nat) (e : TypeId) (sz : Nat) (cs : List Value) : HA := fun h =>
  (cap = 0 ∧ n = 0 ∧ cs = []) ∨ ∃ q pre junk, a = some ⟨q, pre.length, none⟩ ∧ cs.length = n * sz ∧ cs.length + junk.length = cap * sz ∧ n ≤ cap ∧ h q = some (.cells (pre ++ cs ++ junk).toArray e (0, 0))
theorem slb_nil {a : Option Addr} {e : TypeId} {sz : Nat} {h : PH} : SlB a 0 0 e sz [] h := .inl ⟨rfl, rfl, rfl⟩
theorem sat_slb_nil {a : Option Addr} {e : TypeId} {sz : Nat} {L : List HA} {h : PH} (k : Sat L h) : Sat (SlB a 0 0 e sz [] :: L) h := ⟨fun _ => none, h, fun _ => .inl rfl, slb_nil, k, rfl⟩
theorem slb_len {a : Option Addr} {n cap : Nat} {e : TypeId} {sz : Nat} {cs : List Value} {h : PH} (k : SlB a n cap e sz cs h) : cs.length = n * sz ∧ n ≤ cap := by
  rcases k with ⟨rfl, rfl, rfl⟩ | ⟨q, pre, junk, rfl, h1, h2, h3, _⟩
  · simp
  · exact ⟨h1, h3⟩
theorem sat_slb_len {a : Option Addr} {n cap : Nat} {e : TypeId} {sz : Nat} {cs : List Value} {L : List HA} {st : PH} (k : Sat (SlB a n cap e sz cs :: L) st) : cs.length = n * sz ∧ n ≤ cap := by
  obtain ⟨a, b, d, hA, hL, rfl⟩ := k
  exact slb_len hA
theorem cell_off {st : PH} {q off : Nat} {c : Array Value} {e : TypeId} {f : Nat × Nat} (h : st q = some (.cells c e f)) (i : Nat) : st.cell? ((⟨q, off, none⟩ : Addr).add i) = c[off + i]? := by
  rw [add_off _ rfl]; unfold PH.cell?; simp only [h]; rfl
theorem slb_some {a : Option Addr} {n cap : Nat} {e : TypeId} {sz : Nat} {cs : List Value} {L : List HA} {st : PH} (k : Sat (SlB a n cap e sz cs :: L) st) (hn : 0 < n) : a.isSome = true := by
  obtain ⟨x, b, d, hA, hL, rfl⟩ := k
  rcases hA with ⟨rfl, rfl, rfl⟩ | ⟨q, pre, junk, rfl, h1, h2, h3, _⟩
  · omega
  · rfl
theorem mid_get {pre cs junk : List Value} {j : Nat} (h : j < cs.length) : (pre ++ cs ++ junk).toArray[pre.length + j]? = cs[j]? := by
  rw [List.getElem?_toArray, List.append_assoc, List.getElem?_append_right (by omega), Nat.add_sub_cancel_left, List.getElem?_append_left h]
theorem slb_reads {a : Option Addr} {n cap : Nat} {e : TypeId} {sz : Nat} {cs : List Value} {L : List HA} {st : PH} (k : Sat (SlB a n cap e sz cs :: L) st) : Reads st a cs := by
  obtain ⟨x, b, d, hA, hL, rfl⟩ := k
  rcases hA with ⟨rfl, rfl, rfl⟩ | ⟨q, pre, junk, rfl, h1, h2, h3, h4⟩
  · exact .inl rfl
  · refine .inr ⟨_, rfl, fun j hj => ?_⟩
    rw [cell_off (uni_some h4), mid_get hj]
theorem sat_slb_new {p n : Nat} {cs : List Value} {e : TypeId} {sz cap : Nat} {junk : List Value} {L : List HA} {st : PH} (h1 : cs.length = n * sz) (h2 : cs.length + junk.length = cap * sz) (h3 : n ≤ cap) (h : Sat (Pt p (.cells (cs ++ junk).toArray e (0, 0)) :: L) st) : Sat (SlB (some ⟨p, 0, none⟩) n cap e sz cs :: L) st :=
  sat_imp (fun s hs => .inr ⟨p, [], junk, rfl, h1, h2, h3, hs⟩) h
theorem sat_slb_made {p n : Nat} {cs : Array Value} {e : TypeId} {sz : Nat} {L : List HA} {st : PH} (h1 : cs.size = n * sz) (h : Sat (Pt p (.cells cs e (0, 0)) :: L) st) : Sat (SlB (some ⟨p, 0, none⟩) n n e sz cs.toList :: L) st :=
  sat_slb_new (junk := []) (by simpa using h1) (by simpa using h1) (Nat.le_refl _) (by simpa using h)
end Go.Proofs.Ytfmfkablbaoofaa.Ae
