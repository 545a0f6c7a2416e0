/- Plain laws of entries as bytes; the examples of chapter 16. -/
import Derived.Test.YtjhoedcjegbgdaaEnRingTakes
set_option linter.unusedVariables false
set_option linter.unusedSimpArgs false
set_option maxRecDepth 100000
set_option maxHeartbeats 4000000
namespace Go.Proofs.Ytjhoedcjegbgdaa.Ae
open Go Go.Proofs.Ytjhoedcjegbgdaa.Bits
theorem entB_get (op fl : Int) : (entB op fl).getD 0 0 = op ∧ (entB op fl).getD 1 0 = fl ∧ (entB op fl).getD 2 0 = 0 ∧ (entB op fl).getD 3 0 = 0 ∧ gN (entB op fl) 32 28 4 = 0 := by
  refine ⟨rfl, rfl, rfl, rfl, ?_⟩
  show (0 : Int) + byteAt (entB op fl) 32 28 0 * 1 + byteAt (entB op fl) 32 28 1 * 256 + byteAt (entB op fl) 32 28 2 * 65536 + byteAt (entB op fl) 32 28 3 * 16777216 = 0
  have e : ∀ i : Int, 0 ≤ i → i < 4 → byteAt (entB op fl) 32 28 i = 0 := by
    intro i h0 h1
    unfold byteAt
    rw [if_pos (by omega)]
    have : (28 + i).toNat = 28 ∨ (28 + i).toNat = 29 ∨ (28 + i).toNat = 30 ∨ (28 + i).toNat = 31 := by omega
    rcases this with h | h | h | h <;> rw [h] <;> rfl
  rw [e 0 (by omega) (by omega), e 1 (by omega) (by omega), e 2 (by omega) (by omega), e 3 (by omega) (by omega)]; rfl
theorem entL_at {op fl t c a b d m : Int} (ht : 0 ≤ t ∧ t < 4294967296) (hc : 0 ≤ c ∧ c < 4294967296) (ha : 0 ≤ a ∧ a < 4294967296) (hb : 0 ≤ b ∧ b < 4294967296) (hd : 0 ≤ d ∧ d < 4294967296) (hm : 0 ≤ m ∧ m < 4294967296) :
    ((entL op fl t c a b d m).getD 0 0 = op ∧ (entL op fl t c a b d m).getD 1 0 = fl ∧ (entL op fl t c a b d m).getD 2 0 = 0 ∧ (entL op fl t c a b d m).getD 3 0 = 0) ∧
    gN (entL op fl t c a b d m) 32 4 4 = t ∧ gN (entL op fl t c a b d m) 32 8 4 = c ∧ gN (entL op fl t c a b d m) 32 12 4 = a ∧ gN (entL op fl t c a b d m) 32 16 4 = b ∧ gN (entL op fl t c a b d m) 32 20 4 = d ∧ gN (entL op fl t c a b d m) 32 24 4 = m ∧ gN (entL op fl t c a b d m) 32 28 4 = 0 := by
  have l0 := entB_length op fl
  have ll : ∀ (l : List Int) (p n : Int), l.length = 32 → (putL l p n 4).length = 32 := fun l p n h => by rw [putL_length]; exact h
  have put : ∀ (l : List Int) (p n : Int), l.length = 32 → 0 ≤ p → p + 4 ≤ 32 → 0 ≤ n ∧ n < 4294967296 → gN (putL l p n 4) 32 p 4 = n := by
    intro l p n hl h0 h1 hn
    rw [gN_put' l 32 hl p n 4 0 4 p (by omega) h0 (by omega) (by omega)]
    show n / 1 % 4294967296 = n
    omega
  have off : ∀ (l : List Int) (p n q : Int), l.length = 32 → (q + 4 ≤ p ∨ p + 4 ≤ q) → gN (putL l p n 4) 32 q 4 = gN l 32 q 4 := fun l p n q hl h => gN_put_off' l 32 hl p n q 4 4 (by omega)
  have get : ∀ (l : List Int) (p n : Int) (j : Nat), l.length = 32 → j < 4 → 4 ≤ p → (putL l p n 4).getD j 0 = l.getD j 0 := fun l p n j hl hj hp => by rw [putL_get l p n j (by omega) 4, if_neg (by omega)]
  obtain ⟨e0, e1, e2, e3, e4⟩ := entB_get op fl
  have l1 := ll _ 4 t l0
  have l2 := ll _ 8 c l1
  have l3 := ll _ 12 a l2
  have l4 := ll _ 16 b l3
  have l5 := ll _ 20 d l4
  unfold entL
  refine ⟨⟨?_, ?_, ?_, ?_⟩, ?_, ?_, ?_, ?_, ?_, ?_, ?_⟩
  · rw [get _ _ _ _ l5 (by omega) (by omega), get _ _ _ _ l4 (by omega) (by omega), get _ _ _ _ l3 (by omega) (by omega), get _ _ _ _ l2 (by omega) (by omega), get _ _ _ _ l1 (by omega) (by omega), get _ _ _ _ l0 (by omega) (by omega), e0]
  · rw [get _ _ _ _ l5 (by omega) (by omega), get _ _ _ _ l4 (by omega) (by omega), get _ _ _ _ l3 (by omega) (by omega), get _ _ _ _ l2 (by omega) (by omega), get _ _ _ _ l1 (by omega) (by omega), get _ _ _ _ l0 (by omega) (by omega), e1]
  · rw [get _ _ _ _ l5 (by omega) (by omega), get _ _ _ _ l4 (by omega) (by omega), get _ _ _ _ l3 (by omega) (by omega), get _ _ _ _ l2 (by omega) (by omega), get _ _ _ _ l1 (by omega) (by omega), get _ _ _ _ l0 (by omega) (by omega), e2]
  · rw [get _ _ _ _ l5 (by omega) (by omega), get _ _ _ _ l4 (by omega) (by omega), get _ _ _ _ l3 (by omega) (by omega), get _ _ _ _ l2 (by omega) (by omega), get _ _ _ _ l1 (by omega) (by omega), get _ _ _ _ l0 (by omega) (by omega), e3]
  · rw [off _ _ _ _ l5 (by omega), off _ _ _ _ l4 (by omega), off _ _ _ _ l3 (by omega), off _ _ _ _ l2 (by omega), off _ _ _ _ l1 (by omega), put _ _ _ l0 (by omega) (by omega) ht]
  · rw [off _ _ _ _ l5 (by omega), off _ _ _ _ l4 (by omega), off _ _ _ _ l3 (by omega), off _ _ _ _ l2 (by omega), put _ _ _ l1 (by omega) (by omega) hc]
  · rw [off _ _ _ _ l5 (by omega), off _ _ _ _ l4 (by omega), off _ _ _ _ l3 (by omega), put _ _ _ l2 (by omega) (by omega) ha]
  · rw [off _ _ _ _ l5 (by omega), off _ _ _ _ l4 (by omega), put _ _ _ l3 (by omega) (by omega) hb]
  · rw [off _ _ _ _ l5 (by omega), put _ _ _ l4 (by omega) (by omega) hd]
  · rw [put _ _ _ l5 (by omega) (by omega) hm]
  · rw [off _ _ _ _ l5 (by omega), off _ _ _ _ l4 (by omega), off _ _ _ _ l3 (by omega), off _ _ _ _ l2 (by omega), off _ _ _ _ l1 (by omega), off _ _ _ _ l0 (by omega), e4]
/-- An entry that may be is read as it was. -/
theorem entL_ok {op fl t c a b d m : Int} (h : ChkOK op fl) (ht : 0 ≤ t ∧ t < 4294967296) (hc : 0 ≤ c ∧ c < 4294967296) (ha : 0 ≤ a ∧ a < 4294967296) (hb : 0 ≤ b ∧ b < 4294967296) (hd : 0 ≤ d ∧ d < 4294967296) (hm : 0 ≤ m ∧ m < 4294967296) :
    EntOK (entL op fl t c a b d m) ∧ entV (entL op fl t c a b d m) = sqeV op fl t c a b d m := by
  obtain ⟨⟨e0, e1, e2, e3⟩, g1, g2, g3, g4, g5, g6, g7⟩ := entL_at (op := op) (fl := fl) ht hc ha hb hd hm
  refine ⟨⟨by rw [e0, e1]; exact h, ?_⟩, ?_⟩
  · unfold entE; rw [e0, e1, g1, g2, g3, g4, g5, g6]
  · unfold entV; rw [e0, e1, g1, g2, g3, g4, g5, g6]
end Go.Proofs.Ytjhoedcjegbgdaa.Ae
