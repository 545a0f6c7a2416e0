/- Arguments that are slices: what lies there, told in a part of the heap; a law's call with such arguments. -/
import Derived.Test.YtfmfkablbaoofaaAkKillNodes
import Derived.Test.YtfmfkablbaoofaaBitsKillNodes
import Derived.ChangeSlices
set_option linter.unusedVariables false
set_option linter.unusedSimpArgs false
set_option maxRecDepth 100000
namespace Go.Proofs.Ytfmfkablbaoofaa.Ae
open Go
/-- Numbers lie there. -/
structure RowIn (c : Addr → Option Value) (k : IntKind) (a : Option Addr) (len : Nat) (l : List Int) : Prop where
  length : l.length = len
  most : len ≤ 9223372036854775807
  wf : ∀ n ∈ l, (Lit.int k n).wf = true
  some : 0 < len → a.isSome = true
  read : ∀ i, i < len → c ((a.getD ⟨0, 0, none⟩).add i) = .some (.int k (l.getD i 0))
abbrev RowAt (W : World) := RowIn W.cell?
theorem RowAt.nil {W : World} {k : IntKind} : RowAt W k none 0 [] := ⟨rfl, by omega, fun _ h => (nomatch h), fun h => (by omega), fun i h => (by omega)⟩
theorem and_row {a : Option Addr} {len : Nat} {n : Int} {Q : Prop} (h : 0 < len → a.isSome = true) (h0 : 0 ≤ n ∧ n < len) (k : Q) : (a.isSome = true ∧ 0 ≤ n ∧ n < len) ∧ Q := ⟨⟨h (by omega), h0⟩, k⟩
theorem and_row1 {a : Option Addr} {len : Nat} {A Q : Prop} (h : 0 < len → a.isSome = true) (hl : 0 < len) (h0 : A) (k : Q) : (a.isSome = true ∧ A) ∧ Q := ⟨⟨h hl, h0⟩, k⟩
theorem and_row2 {a : Option Addr} {len : Nat} {Q : Prop} (h : 0 < len → a.isSome = true) (hl : 0 < len) (k : Q) : a.isSome = true ∧ Q := ⟨h hl, k⟩
theorem gateSom {a : Option Addr} {Q : Prop} (h : a.isSome = true ∧ Q) : a.isSome = true ∧ Q := h
/-- A law's call, whatever its arguments: what lay there is as it was. -/
theorem law_rows {P : Program} {f : FuncId} {args : Array Value} {W : World} (h : ∀ st : PH, (∀ a, W.cell? a = st.cell? a) → ACalls P f args st fun v s => v = .bool true ∧ Lies st s) : Calls P f args W fun e W' => e = .returned (.bool true) ∧ Go.RowKit.Below W.heap.size W W' := by
  have hs : Sub (fun r => W.heap[r]?) W := fun r o e => e
  refine (h (fun r => W.heap[r]?) (fun a => rfl) W hs).mono fun e W' ⟨v, st', he, hv, n⟩ => ⟨by rw [he, hv.1], below_of hs n hv.2⟩
theorem RowIn.same {c d : Addr → Option Value} {k : IntKind} {a : Option Addr} {len : Nat} {l : List Int} (h : RowIn c k a len l) (e : ∀ a, c a = d a) : RowIn d k a len l :=
  ⟨h.length, h.most, h.wf, h.some, fun i hi => by rw [← e]; exact h.read i hi⟩
theorem RowIn.lies {T S : PH} {k : IntKind} {a : Option Addr} {len : Nat} {l : List Int} (h : RowIn T.cell? k a len l) (e : Lies T S) : RowIn S.cell? k a len l :=
  ⟨h.length, h.most, h.wf, h.some, fun i hi => cell_lies e (h.read i hi)⟩
theorem Lies.none {T S : PH} (h : Lies T S) : ∀ p, S p = .none → T p = .none := fun p hp => by
  cases e : T p with
  | none => rfl
  | some o => rw [h p o e] at hp; cases hp
end Go.Proofs.Ytfmfkablbaoofaa.Ae
