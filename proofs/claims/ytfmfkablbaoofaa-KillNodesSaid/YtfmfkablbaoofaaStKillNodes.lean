/- Arguments that are structs, or slices of structs, of numbers and bools: their cells, each of its kind; no condition. -/
import Derived.Test.YtfmfkablbaoofaaSzKillNodes
import Derived.Deep.Slices
import Derived.Deep.Fields
set_option linter.unusedVariables false
set_option linter.unusedSimpArgs false
set_option maxRecDepth 100000
namespace Go.Proofs.Ytfmfkablbaoofaa.Ae
open Go Go.ChangeShapes Go.WideShapes Go.Deep
/-- A cell's kind: a number's, or none: a bool. -/
def IsKind : Option IntKind → Value → Prop
  | some k, v => ∃ n, v = .int k n ∧ (Lit.int k n).wf = true
  | none, v => ∃ b, v = .bool b
def Typed : List (Option IntKind) → List Value → Prop
  | [], [] => True
  | k :: ks, v :: vs => IsKind k v ∧ Typed ks vs
  | _, _ => False
theorem Typed.length : ∀ {ks : List (Option IntKind)} {vs : List Value}, Typed ks vs → vs.length = ks.length
  | [], [], _ => rfl
  | _ :: _, _ :: _, h => by rw [List.length_cons, List.length_cons, h.2.length]
  | [], _ :: _, h => h.elim
  | _ :: _, [], h => h.elim
theorem typed_cons {k : Option IntKind} {ks : List (Option IntKind)} : ∀ {cs : List Value}, Typed (k :: ks) cs → ∃ v vs, cs = v :: vs ∧ IsKind k v ∧ Typed ks vs
  | [], h => h.elim
  | v :: vs, h => ⟨v, vs, rfl, h.1, h.2⟩
theorem typed_nil : ∀ {cs : List Value}, Typed [] cs → cs = []
  | [], _ => rfl
  | _ :: _, h => h.elim
theorem Typed.append : ∀ {ks ks' : List (Option IntKind)} {vs vs' : List Value}, Typed ks vs → Typed ks' vs' → Typed (ks ++ ks') (vs ++ vs')
  | [], _, [], _, _, h => h
  | _ :: _, _, _ :: _, _, h, h' => ⟨h.1, h.2.append h'⟩
  | [], _, _ :: _, _, h, _ => h.elim
  | _ :: _, _, [], _, h, _ => h.elim
def leafs (P : Program) (g : TypeId → Option (List (Option IntKind))) : Nat → List Field → Option (List (Option IntKind))
  | _, [] => some []
  | o, f :: fs => if f.offset = o then (g f.type).bind fun k => if P.cellsOf f.type = k.length then (leafs P g (o + k.length) fs).map (k ++ ·) else none else none
def leaf (P : Program) : Nat → TypeId → Option (List (Option IntKind))
  | 0, _ => none
  | d + 1, t =>
    match P.underlying t with
    | some (.int k) => some [some k]
    | some .bool => some [none]
    | some (.struct fs) => (leafs P (leaf P d) 0 fs.toList).bind fun ks => if P.cellsOf t = ks.length then some ks else none
    | _ => none
section
variable {H : Type} {enc : TypeId × Value → H} {P : Program} {w : World} {base : Nat} {spare : Nat → Bool} {held : Bool}
theorem leafs_ok {g : TypeId → Option (List (Option IntKind))} {n : Nat} (hg : ∀ t ks cs x, g t = some ks → DataW.trod enc P w base spare held n t cs = some x → Typed ks cs) : ∀ (l : List Field) (o : Nat) (ks : List (Option IntKind)) (cs : List Value), leafs P g o l = some ks →
    (∀ f ∈ l, ∃ x, DataW.trod enc P w base spare held n f.type ((cs.drop f.offset).take (P.cellsOf f.type)) = some x) → cs.length = o + ks.length → Typed ks (cs.drop o) := by
  intro l
  induction l with
  | nil =>
    intro o ks cs h _ hl
    injection h with h; subst h
    rw [List.drop_eq_nil_of_le (by simp at hl; omega)]; trivial
  | cons f l ih =>
    intro o ks cs h hx hl
    unfold leafs at h
    split at h
    · rename_i ho
      obtain ⟨k, hk, h⟩ := Option.bind_eq_some_iff.1 h
      split at h
      · rename_i hc
        obtain ⟨ks2, h2, rfl⟩ := Option.map_eq_some_iff.1 h
        obtain ⟨x, hx1⟩ := hx f (by simp)
        have t1 := hg _ _ _ _ hk hx1
        rw [ho, hc] at t1
        have t2 := ih (o + k.length) ks2 cs h2 (fun f' hf' => hx f' (by simp [hf'])) (by rw [List.length_append] at hl; omega)
        have := t1.append t2
        rw [← List.drop_drop, List.take_append_drop] at this
        exact this
      · cases h
    · cases h
theorem leaf_ok : ∀ (d : Nat) {t : TypeId} {ks : List (Option IntKind)} {n : Nat} {cs : List Value} {x : DataW H × List MemPlace}, leaf P d t = some ks → DataW.trod enc P w base spare held n t cs = some x → Typed ks cs := by
  intro d
  induction d with
  | zero => intro t ks n cs x h; cases h
  | succ d ih =>
    intro t ks n cs x h hx
    unfold leaf at h
    split at h
    · rename_i k hu
      injection h with h; subst h
      obtain ⟨m, rfl, _, hw⟩ := DataW.trod_int hu hx
      exact ⟨⟨m, rfl, hw⟩, trivial⟩
    · rename_i hu
      injection h with h; subst h
      obtain ⟨b, rfl, _⟩ := DataW.trod_bool hu hx
      exact ⟨⟨b, rfl⟩, trivial⟩
    · rename_i fs hu
      obtain ⟨xs, m, rfl, _, hlen, hxl, hf⟩ := DataW.trod_struct hu hx
      have hall : ∀ f ∈ fs.toList, ∃ y, DataW.trod enc P w base spare held m f.type ((cs.drop f.offset).take (P.cellsOf f.type)) = some y := by
        intro f hfm
        obtain ⟨i, hi, rfl⟩ := List.getElem_of_mem hfm
        have hi' : i < fs.size := by simpa using hi
        have := hf i fs[i] (Array.getElem?_eq_getElem hi')
        have hx2 : xs[i]? = some (xs[i]'(by omega)) := List.getElem?_eq_getElem (by omega)
        exact ⟨_, by rw [Array.getElem_toList]; exact this.trans hx2⟩
      obtain ⟨ks', hk, h⟩ := Option.bind_eq_some_iff.1 h
      split at h
      · rename_i hc
        injection h with h; subst h
        have := leafs_ok (fun t ks cs x h1 h2 => ih h1 h2) fs.toList 0 ks' cs hk hall (by rw [hlen, hc]; omega)
        rwa [List.drop_zero] at this
      · cases h
    · cases h
/-- Structs lie there, one behind the other. -/
structure RowsIn (c : Addr → Option Value) (ks : List (Option IntKind)) (a : Option Addr) (len : Nat) (g : Nat → List Value) : Prop where
  most : len ≤ 9223372036854775807
  some : 0 < len → a.isSome = true
  typed : ∀ i, i < len → Typed ks (g i)
  read : ∀ i, i < len → ∀ j, j < ks.length → c ((a.getD ⟨0, 0, none⟩).add (i * ks.length + j)) = (g i)[j]?
theorem open_rows {t e : TypeId} {ks : List (Option IntKind)} {v : Value} {d : DataW H} {p : List MemPlace} {a : Option Addr} {len cap : Nat} (ht : P.underlying t = some (.slice e)) (hl : leaf P 8 e = some ks) (hc : P.cellsOf e = ks.length)
    (h : DataW.Trod enc P w base spare held t (.slice a len cap) d p) : ∃ g, RowsIn w.cell? ks a len g := by
  obtain ⟨fuel, hf⟩ := h
  rcases open_slice ht hf with ⟨hcs, _⟩ | ⟨b, len', cap', m, n, D, Pl, hcs, _, h1, h2, hm, _, hi⟩
  · simp [Value.cells] at hcs
    obtain ⟨rfl, rfl, rfl⟩ := hcs
    exact ⟨fun _ => [], by omega, fun h => by omega, fun i h => by omega, fun i h => by omega⟩
  · simp [Value.cells] at hcs
    obtain ⟨rfl, rfl, rfl⟩ := hcs
    have hmm : len ≤ m := by rw [hm]; split <;> omega
    have ex : ∀ i, ∃ cs', i < len → w.cells? base (b.add (i * P.cellsOf e)) (P.cellsOf e) = .some cs' ∧ DataW.trod enc P w base spare held n e cs' = .some (D i, Pl i) := fun i => by
      by_cases h : i < len
      · obtain ⟨cs', h3⟩ := hi i (by omega); exact ⟨cs', fun _ => h3⟩
      · exact ⟨[], fun h' => absurd h' h⟩
    refine ⟨fun i => (ex i).choose, by unfold maxLen at h2; omega, fun _ => rfl, fun i h => leaf_ok 8 hl ((ex i).choose_spec h).2, fun i h j hj => ?_⟩
    obtain ⟨h3, h4⟩ := (ex i).choose_spec h
    obtain ⟨_, hcl, hat⟩ := World.cells?_some h3
    rw [← hat j (by omega), Option.getD_some, hc, add_add]
theorem RowsIn.lies {T S : PH} {ks : List (Option IntKind)} {a : Option Addr} {len : Nat} {g : Nat → List Value} (h : RowsIn T.cell? ks a len g) (e : Lies T S) : RowsIn S.cell? ks a len g :=
  ⟨h.most, h.some, h.typed, fun i hi j hj => by
    have h1 := h.read i hi j hj
    have h2 : j < (g i).length := by rw [(h.typed i hi).length]; exact hj
    rw [List.getElem?_eq_getElem h2] at h1 ⊢
    exact cell_lies e h1⟩
theorem RowsIn.same {c d : Addr → Option Value} {ks : List (Option IntKind)} {a : Option Addr} {len : Nat} {g : Nat → List Value} (h : RowsIn c ks a len g) (e : ∀ a, c a = d a) : RowsIn d ks a len g :=
  ⟨h.most, h.some, h.typed, fun i hi j hj => by rw [← e]; exact h.read i hi j hj⟩
end
end Go.Proofs.Ytfmfkablbaoofaa.Ae
