/- Arguments that are structs, or slices of structs, of numbers and bools: their cells, each of its kind; no condition. -/
import Derived.Test.YtjhoedcjegbgdaaSzRingKeeps
import Derived.Deep.Slices
import Derived.Deep.Fields
set_option linter.unusedVariables false
set_option linter.unusedSimpArgs false
namespace Go.Proofs.Ytjhoedcjegbgdaa.Ae
open Go Go.ChangeShapes Go.WideShapes Go.Deep
/-- A cell's kind: a number's, or none: a bool. -/
def IsKind : Option IntKind → Value → Prop
  | some k, v => ∃ n, v = .int k n ∧ (Lit.int k n).wf = true
  | none, v => ∃ b, v = .bool b
def Typed : List (Option IntKind) → List Value → Prop
  | [], [] => True
  | k :: ks, v :: vs => IsKind k v ∧ Typed ks vs
  | _, _ => False
theorem Typed.length : ∀ {ks : List (Option IntKind)} {vs : List Value}, Typed ks vs → vs.length = ks.length
  | [], [], _ => rfl
  | _ :: _, _ :: _, h => by rw [List.length_cons, List.length_cons, h.2.length]
  | [], _ :: _, h => h.elim
  | _ :: _, [], h => h.elim
theorem Typed.append : ∀ {ks ks' : List (Option IntKind)} {vs vs' : List Value}, Typed ks vs → Typed ks' vs' → Typed (ks ++ ks') (vs ++ vs')
  | [], _, [], _, _, h => h
  | _ :: _, _, _ :: _, _, h, h' => ⟨h.1, h.2.append h'⟩
  | [], _, _ :: _, _, h, _ => h.elim
  | _ :: _, _, [], _, h, _ => h.elim
section
variable {H : Type} {enc : TypeId × Value → H} {P : Program} {w : World} {base : Nat} {spare : Nat → Bool} {held : Bool}
/-- Structs lie there, one behind the other. -/
structure RowsIn (c : Addr → Option Value) (ks : List (Option IntKind)) (a : Option Addr) (len : Nat) (g : Nat → List Value) : Prop where
  most : len ≤ 9223372036854775807
  some : 0 < len → a.isSome = true
  typed : ∀ i, i < len → Typed ks (g i)
  read : ∀ i, i < len → ∀ j, j < ks.length → c ((a.getD ⟨0, 0, none⟩).add (i * ks.length + j)) = (g i)[j]?
theorem RowsIn.lies {T S : PH} {ks : List (Option IntKind)} {a : Option Addr} {len : Nat} {g : Nat → List Value} (h : RowsIn T.cell? ks a len g) (e : Lies T S) : RowsIn S.cell? ks a len g :=
  ⟨h.most, h.some, h.typed, fun i hi j hj => by
    have h1 := h.read i hi j hj
    have h2 : j < (g i).length := by rw [(h.typed i hi).length]; exact hj
    rw [List.getElem?_eq_getElem h2] at h1 ⊢
    exact cell_lies e h1⟩
theorem RowsIn.same {c d : Addr → Option Value} {ks : List (Option IntKind)} {a : Option Addr} {len : Nat} {g : Nat → List Value} (h : RowsIn c ks a len g) (e : ∀ a, c a = d a) : RowsIn d ks a len g :=
  ⟨h.most, h.some, h.typed, fun i hi j hj => by rw [← e]; exact h.read i hi j hj⟩
end
end Go.Proofs.Ytjhoedcjegbgdaa.Ae
