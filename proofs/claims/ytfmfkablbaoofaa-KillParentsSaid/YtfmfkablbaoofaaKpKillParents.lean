/- A row of slots, one below the other, one deleted, all revoked: plain laws for KillParents; for all that the lemmas name. -/
import Derived.Test.YtfmfkablbaoofaaKrKillParents
import Derived.Test.YtfmfkablbaoofaaKjKillParents
set_option linter.unusedVariables false
set_option linter.unusedSimpArgs false
set_option maxRecDepth 100000
set_option maxHeartbeats 8000000
namespace Go.Proofs.Ytfmfkablbaoofaa.Ae
open Go Go.Proofs.Ytfmfkablbaoofaa.Bits
def upP : Nat → Int × Int
  | 0 => (0, 0)
  | j + 1 => (2, j)
def pR (j : Nat) : SL := ⟨2, j, 4, 9, 0, 0, 7, (upP j).1, (upP j).2⟩
def pT (n : Nat) : List SL := (List.range n).map pR
deriving instance DecidableEq for SL
theorem pT_len (n : Nat) : (pT n).length = n := by unfold pT; rw [List.length_map, List.length_range]
theorem pT_put : ∀ i, i < 10 → canPut (pT i) (pR i) = true ∧ tput (pT i) (pR i) = pT (i + 1) := by decide +kernel
def kp1 (N A : Nat) : List (Int × Int) × List SL := kdel (pT N) (2, (A : Int))
def kp2 (N A : Nat) : List (Int × Int) × List SL := krevT (kp1 N A).2 (2, 0)
def kp3 (N A : Nat) : List (Int × Int) × List SL := kdel (kp2 N A).2 (2, 0)
abbrev kpP (N A : Nat) : Prop := (tget (pT N) (2, (A : Int))).isSome = true ∧ (kp1 N A).1 = [] ∧ (blw (kp1 N A).2 (2, 0)).length + 2 = N ∧ (kp1 N A).2.length ≤ 10 ∧ (tget (kp1 N A).2 (2, 0)).isSome = true ∧ (kp2 N A).1 = [] ∧ (kp2 N A).2.length = 1 ∧ (tget (kp2 N A).2 (2, 0)).isSome = true ∧ (kp3 N A).1 = [((4 : Int), (9 : Int))]
theorem kp_ok : ((List.range 11).all fun N => (List.range N).all fun A => decide (N < 3) || decide (A < 1) || decide (kpP N A)) = true := by decide +kernel
theorem kp_all (N : Nat) (h : N < 11) (A : Nat) (hA : A < N) (h3 : 3 ≤ N) (h1 : 1 ≤ A) : kpP N A := by
  have := List.all_eq_true.1 (List.all_eq_true.1 kp_ok N (List.mem_range.2 h)) A (List.mem_range.2 hA)
  rw [Bool.or_eq_true, Bool.or_eq_true, decide_eq_true_iff, decide_eq_true_iff, decide_eq_true_iff] at this
  rcases this with (h | h) | h
  · omega
  · omega
  · exact h
theorem pT_tree : ∀ i, i ≤ 10 → Tree (pT i) := by
  intro i
  induction i with
  | zero => intro _; exact tree_nil
  | succ i ih =>
    intro h
    rw [← (pT_put i (by omega)).2]
    exact tree_put (ih (by omega)) _
theorem kp1_tree {N A : Nat} (h : N ≤ 10) : Tree (kp1 N A).2 := tree_kdrop _ _ _ (pT_tree N h)
end Go.Proofs.Ytfmfkablbaoofaa.Ae
