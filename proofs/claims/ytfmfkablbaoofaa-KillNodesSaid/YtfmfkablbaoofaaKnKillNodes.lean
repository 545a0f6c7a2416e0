/- Nodes in nodes, one deleted: plain laws for KillNodes; for all that the lemmas name. -/
import Derived.Test.YtfmfkablbaoofaaKjKillNodes
set_option linter.unusedVariables false
set_option linter.unusedSimpArgs false
set_option maxRecDepth 100000
set_option maxHeartbeats 8000000
namespace Go.Proofs.Ytfmfkablbaoofaa.Ae
open Go Go.Proofs.Ytfmfkablbaoofaa.Bits
def knF (i : Nat) : SL := ⟨((i + 1 : Nat) : Int), 2, 3, 30 + ((i + 1 : Nat) : Int), 0, 0, 0, 0, 0⟩
def knS (i : Nat) : SL := ⟨21, ((i + 1 : Nat) : Int), 3, 30 + ((i + 1 : Nat) : Int), 0, 0, 0, 0, 0⟩
def knN (i : Nat) : SL := ⟨((i + 1 : Nat) : Int), 9, 2, ((i + 1 : Nat) : Int) + 1, 0, 0, 0, 0, 0⟩
def knA (T : List SL) (i : Nat) : List SL := tput T (knF i)
def knB (l : List Bool) (T : List SL) (i : Nat) : List SL := cond (l.getD i false) (tput (knA T i) (knS i)) (knA T i)
def knC (l : List Bool) (T : List SL) (i : Nat) : List SL := if i + 1 < l.length then tput (knB l T i) (knN i) else knB l T i
def knT (l : List Bool) : Nat → List SL
  | 0 => tput [] ⟨20, 0, 2, 1, 0, 0, 0, 0, 0⟩
  | i + 1 => knC l (knT l i) i
def knW (l : List Bool) : Nat → List (Int × Int)
  | 0 => [(2, 1)]
  | i + 1 => (knW l i ++ cond (l.getD i false) [] [(3, 30 + ((i + 1 : Nat) : Int))]) ++ if i + 1 < l.length then [(2, ((i + 1 : Nat) : Int) + 1)] else []
def knY (l : List Bool) : Nat → Nat
  | 0 => 0
  | i + 1 => cond (l.getD i false) (knY l i + 1) (knY l i)
def bools : Nat → List (List Bool)
  | 0 => [[]]
  | n + 1 => (bools n).map (true :: ·) ++ (bools n).map (false :: ·)
theorem mem_bools : ∀ (l : List Bool), l ∈ bools l.length
  | [] => List.mem_singleton.2 rfl
  | true :: l => List.mem_append.2 (.inl (List.mem_map.2 ⟨l, mem_bools l, rfl⟩))
  | false :: l => List.mem_append.2 (.inr (List.mem_map.2 ⟨l, mem_bools l, rfl⟩))
def knR (l : List Bool) (i : Nat) : Bool := canPut (knT l i) (knF i) && ((!l.getD i false || canPut (knA (knT l i) i) (knS i)) && (decide (l.length ≤ i + 1) || canPut (knB l (knT l i) i) (knN i)))
def knE (l : List Bool) : Bool := (List.range l.length).all (knR l) && ((tget (knT l l.length) (20, 0)).isSome && (decide ((kdel (knT l l.length) (20, 0)).1 = knW l l.length) && (decide ((kdel (knT l l.length) (20, 0)).2.length = knY l l.length) && decide ((knT l l.length).length ≤ 30))))
theorem kn_ok : ([1, 2, 3, 4, 5, 6].all fun N => (bools N).all knE) = true := by decide +kernel
theorem kn_put0 : canPut [] ⟨20, 0, 2, 1, 0, 0, 0, 0, 0⟩ = true := by decide +kernel
theorem kn_all {l : List Bool} (h1 : 1 ≤ l.length) (h6 : l.length ≤ 6) : knE l = true := by
  have hm : l.length ∈ [1, 2, 3, 4, 5, 6] := by simp only [List.mem_cons, List.not_mem_nil, or_false]; omega
  exact List.all_eq_true.1 (List.all_eq_true.1 kn_ok _ hm) l (mem_bools l)
theorem kn_round {l : List Bool} (h1 : 1 ≤ l.length) (h6 : l.length ≤ 6) {i : Nat} (hi : i < l.length) : canPut (knT l i) (knF i) = true ∧ (l.getD i false = true → canPut (knA (knT l i) i) (knS i) = true) ∧ (i + 1 < l.length → canPut (knB l (knT l i) i) (knN i) = true) := by
  have h := kn_all h1 h6
  unfold knE at h
  rw [Bool.and_eq_true] at h
  have h := List.all_eq_true.1 h.1 i (List.mem_range.2 hi)
  unfold knR at h
  rw [Bool.and_eq_true, Bool.and_eq_true, Bool.or_eq_true, Bool.or_eq_true, decide_eq_true_iff] at h
  obtain ⟨a, b, c⟩ := h
  refine ⟨a, fun e => ?_, fun e => c.resolve_left (by omega)⟩
  rcases b with b | b
  · rw [e] at b; cases b
  · exact b
theorem kn_end {l : List Bool} (h1 : 1 ≤ l.length) (h6 : l.length ≤ 6) : (tget (knT l l.length) (20, 0)).isSome = true ∧ (kdel (knT l l.length) (20, 0)).1 = knW l l.length ∧ (kdel (knT l l.length) (20, 0)).2.length = knY l l.length ∧ (knT l l.length).length ≤ 30 := by
  have h := kn_all h1 h6
  unfold knE at h
  rw [Bool.and_eq_true, Bool.and_eq_true, Bool.and_eq_true, Bool.and_eq_true, decide_eq_true_iff, decide_eq_true_iff, decide_eq_true_iff] at h
  exact h.2
theorem knW_len (l : List Bool) : ∀ i, (knW l i).length ≤ 2 * i + 1
  | 0 => Nat.le_refl _
  | i + 1 => by
    have := knW_len l i
    rw [knW, List.length_append, List.length_append]
    have a : (cond (l.getD i false) [] [((3 : Int), 30 + ((i + 1 : Nat) : Int))]).length ≤ 1 := by cases l.getD i false <;> simp
    have b : (if i + 1 < l.length then [((2 : Int), ((i + 1 : Nat) : Int) + 1)] else []).length ≤ 1 := by split <;> simp
    omega
theorem knY_le (l : List Bool) : ∀ i, knY l i ≤ i
  | 0 => Nat.le_refl _
  | i + 1 => by
    have := knY_le l i
    rw [knY]
    cases l.getD i false
    · show knY l i ≤ _; omega
    · show knY l i + 1 ≤ _; omega
end Go.Proofs.Ytfmfkablbaoofaa.Ae
