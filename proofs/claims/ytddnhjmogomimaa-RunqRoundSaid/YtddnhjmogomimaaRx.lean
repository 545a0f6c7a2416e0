/- Chapter 11: one queue after another, all of them looked at: what RunqRound's loops find. -/
import Derived.Test.YtddnhjmogomimaaRu
set_option linter.unusedVariables false
set_option linter.unusedSimpArgs false
set_option maxRecDepth 100000
set_option maxHeartbeats 1000000
namespace Go.Proofs.Ytddnhjmogomimaa.Ae
open Go Go.Proofs.Ytddnhjmogomimaa.Bits
/-- Threads 100.. of the lesser priority, then threads 1.. of the greater one. -/
def lowS (p : Int) : Nat → List TP
  | 0 => []
  | i + 1 => addQ (lowS p i) (100 + i) (p - 1)
def highS (p : Int) (low : Nat) : Nat → List TP
  | 0 => lowS p low
  | i + 1 => addQ (highS p low i) (1 + i) p
def chkA (p : Int) (low : Nat) : Bool := (List.range low).all fun i => decide (addOK (lowS p i) (100 + i) (p - 1))
def chkB (p : Int) (low n : Nat) : Bool := (List.range n).all fun i => decide (addOK (highS p low i) (1 + i) p)
def pickS (l : List TP) : Nat → List TP
  | 0 => l
  | k + 1 => pickQ (pickS l k) 0
def remS (l : List TP) : Nat → List TP
  | 0 => l
  | i + 1 => remQ (remS l i) (1 + i)
def chkK (low n k : Nat) (l : List TP) : Bool := decide (¬ (readyQ l).length = 0) && decide (pickT l 0 = 1 + (k : Int)) && (List.range n).all (fun i => decide (0 ≤ qat (remS l i) (1 + i))) && decide ((readyQ (remS l n)).length = low) && decide (qat (remS l n) 7 < 0)
def chkC (low n : Nat) : Nat → Nat → List TP → Bool
  | 0, _, _ => true
  | R + 1, k, l => chkK low n k l && chkC low n R (k + 1) (pickQ l 0)
def chkAll (p : Int) (low n : Nat) : Bool := chkA p low && chkB p low n && chkC low n n 0 (highS p low n) && decide (pickS (highS p low n) n = highS p low n)
theorem chk_all : (List.range 7).all (fun p => (List.range 5).all fun low => (List.range 8).all fun n => chkAll ((p : Int) + 1) low (n + 1)) = true := by decide +kernel
theorem pickS_add (l : List TP) (a : Nat) : ∀ b, pickS l (a + b) = pickS (pickS l a) b := by
  intro b
  induction b with
  | zero => rfl
  | succ b ih => show pickQ (pickS l (a + b)) 0 = pickQ (pickS (pickS l a) b) 0; rw [ih]
theorem pickS_per {l : List TP} {n : Nat} (h : pickS l n = l) : ∀ m, pickS l (n * m) = l := by
  intro m
  induction m with
  | zero => rfl
  | succ m ih => rw [Nat.mul_succ, pickS_add, ih, h]
theorem pickS_mod {l : List TP} {n : Nat} (h : pickS l n = l) (k : Nat) : pickS l k = pickS l (k % n) := by
  have := pickS_add l (n * (k / n)) (k % n)
  rw [Nat.div_add_mod, pickS_per h] at this
  exact this
theorem pickS_one (l : List TP) : ∀ k, pickS (pickQ l 0) k = pickS l (k + 1) := by
  intro k
  have := pickS_add l 1 k
  rw [Nat.add_comm 1 k] at this
  exact this.symm
theorem chkC_at {low n : Nat} : ∀ (R k : Nat) (l : List TP), chkC low n R k l = true → ∀ j, j < R → chkK low n (k + j) (pickS l j) = true := by
  intro R
  induction R with
  | zero => intro k l _ j hj; omega
  | succ R ih =>
    intro k l h j hj
    simp only [chkC, Bool.and_eq_true] at h
    cases j with
    | zero => exact h.1
    | succ j =>
      have := ih (k + 1) (pickQ l 0) h.2 j (by omega)
      rw [pickS_one] at this
      rw [show k + (j + 1) = k + 1 + j by omega]; exact this
end Go.Proofs.Ytddnhjmogomimaa.Ae
