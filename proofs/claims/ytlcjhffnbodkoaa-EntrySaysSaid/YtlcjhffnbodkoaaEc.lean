/- Entries' bytes turned: what is no entry. -/
import Derived.Test.YtlcjhffnbodkoaaEb
import Derived.Test.YtlcjhffnbodkoaaAz
set_option linter.unusedVariables false
set_option linter.unusedSimpArgs false
set_option maxRecDepth 100000
set_option maxHeartbeats 4000000
namespace Go.Proofs.Ytlcjhffnbodkoaa.Ae
open Go Go.Proofs.Ytlcjhffnbodkoaa.Bits
/-- A number stored into one's own slice. -/
theorem st_ints {P : Program} {st : PH} {K : FR → PH → Prop} {d : Option Tmp} {F : FR} {L L' : List HA} {a : Option Addr} {off m cap : Nat} {e : TypeId} {k : IntKind} {l : List Int} {v : Int} (hS : Sat L st) (p : Pick (SlB a m cap e 1 (ints k l)) L L') (hoff : off < l.length)
    (h : ∀ s, Sat (SlB a m cap e 1 (ints k (l.set off v)) :: L') s → K (put F d undef) s) : cont P st K d F (storeD ((a.getD ⟨0, 0, none⟩).add off) [.int k v] st) := by
  refine st_slb hS p (by simp only [ints_length, List.length_cons, List.length_nil]; omega) (by simp) fun s hs => h s ?_
  have e1 := set_one (ints k l) off (.int k v) (by rw [ints_length]; exact hoff)
  simp only [List.length_cons, List.length_nil, Nat.zero_add] at hs
  rw [e1, ints_set] at hs
  exact hs
theorem set_wf {k : IntKind} {l : List Int} (h : Wf k l) {off : Nat} {v : Int} (hv : (Lit.int k v).wf = true) : Wf k (l.set off v) := by
  intro x hx
  rcases List.mem_or_eq_of_mem_set hx with h1 | h1
  · exact h x h1
  · rw [h1]; exact hv
theorem set_get {l : List Int} {i j : Nat} {v : Int} (h : i < l.length) : (l.set i v).getD j 0 = if i = j then v else l.getD j 0 := by
  rw [List.getD_eq_getElem?_getD, List.getElem?_set, List.getD_eq_getElem?_getD]
  split <;> simp_all
theorem entB_zero (op fl : Int) (j : Nat) (h : 2 ≤ j) : (entB op fl).getD j 0 = 0 := by
  unfold entB
  rw [set_get (by simp [zer]), if_neg (by omega), set_get (by simp [zer]), if_neg (by omega)]
  unfold zer
  rw [List.getD_eq_getElem?_getD, List.getElem?_replicate]
  split <;> rfl
def zpos (j : Nat) : Prop := j = 2 ∨ j = 3 ∨ j = 28 ∨ j = 29 ∨ j = 30 ∨ j = 31
theorem entL_zero (op fl t c a b d m : Int) (j : Nat) (h : zpos j) : (entL op fl t c a b d m).getD j 0 = 0 := by
  unfold zpos at h
  have l0 := entB_length op fl
  have ll : ∀ (l : List Int) (p n : Int), l.length = 32 → (putL l p n 4).length = 32 := fun l p n h => by rw [putL_length]; exact h
  have get : ∀ (l : List Int) (p n : Int), l.length = 32 → ((j : Int) < p ∨ p + 4 ≤ j) → (putL l p n 4).getD j 0 = l.getD j 0 := fun l p n hl hp => by rw [putL_get l p n j (by omega) 4, if_neg (by omega)]
  unfold entL
  rw [get _ _ _ (ll _ _ _ (ll _ _ _ (ll _ _ _ (ll _ _ _ (ll _ _ _ l0))))) (by omega), get _ _ _ (ll _ _ _ (ll _ _ _ (ll _ _ _ (ll _ _ _ l0)))) (by omega), get _ _ _ (ll _ _ _ (ll _ _ _ (ll _ _ _ l0))) (by omega), get _ _ _ (ll _ _ _ (ll _ _ _ l0)) (by omega), get _ _ _ (ll _ _ _ l0) (by omega), get _ _ _ l0 (by omega), entB_zero _ _ _ (by omega)]
theorem not_ok_zero {l : List Int} {j : Nat} (hj : zpos j) (h : l.getD j 0 ≠ 0) : ¬ EntOK l := fun ⟨_, h2⟩ => by
  have := entL_zero (l.getD 0 0) (l.getD 1 0) (gN l 32 4 4) (gN l 32 8 4) (gN l 32 12 4) (gN l 32 16 4) (gN l 32 20 4) (gN l 32 24 4) j hj
  unfold entE at h2
  rw [h2] at this
  exact h this
theorem not_ok_op {l : List Int} (h : l.getD 0 0 < 1 ∨ 20 < l.getD 0 0) : ¬ EntOK l := fun ⟨h1, _⟩ => by unfold ChkOK at h1; omega
theorem not_ok_fl {l : List Int} (h : 15 < l.getD 1 0 ∨ l.getD 1 0 % 4 = 3) : ¬ EntOK l := fun ⟨h1, _⟩ => by unfold ChkOK at h1; omega
/-- Two lists that are read alike are the same. -/
theorem ent_same {l m : List Int} (hl : EntOK l) (hm : EntOK m) (h0 : l.getD 0 0 = m.getD 0 0) (h1 : l.getD 1 0 = m.getD 1 0) (h2 : gN l 32 4 4 = gN m 32 4 4) (h3 : gN l 32 8 4 = gN m 32 8 4) (h4 : gN l 32 12 4 = gN m 32 12 4) (h5 : gN l 32 16 4 = gN m 32 16 4) (h6 : gN l 32 20 4 = gN m 32 20 4) (h7 : gN l 32 24 4 = gN m 32 24 4) : l = m := by
  have e1 := hl.2
  have e2 := hm.2
  unfold entE at e1 e2
  rw [h0, h1, h2, h3, h4, h5, h6, h7, e2] at e1
  exact e1.symm
/-- An entry's own bytes are read as it was. -/
theorem eread_ent {op fl t c a b d m : Int} (h : ChkOK op fl) (ht : 0 ≤ t ∧ t < 4294967296) (hc : 0 ≤ c ∧ c < 4294967296) (ha : 0 ≤ a ∧ a < 4294967296) (hb : 0 ≤ b ∧ b < 4294967296) (hd : 0 ≤ d ∧ d < 4294967296) (hm : 0 ≤ m ∧ m < 4294967296) (x : Option Addr) (cap : Nat) (st : PH) (hr : RowIn st.cell? .u8 x 32 (entL op fl t c a b d m)) :
    Ret Try.prog 41 [.slice x 32 cap] st (.tuple #[sqeV op fl t c a b d m, .bool true]) := by
  obtain ⟨h1, h2⟩ := entL_ok h ht hc ha hb hd hm
  rw [← h2]
  exact eread_yes x cap _ st hr h1
theorem check_yes {op fl : Int} (h : ChkOK op fl) (t c a b d m : Int) (st : PH) : Ret Try.prog 43 [sqeV op fl t c a b d m] st (.bool true) := by
  have := check_ret op fl t c a b d m st
  rwa [decide_eq_true h] at this
theorem check_no {op fl : Int} (h : ¬ ChkOK op fl) (t c a b d m : Int) (st : PH) : Ret Try.prog 43 [sqeV op fl t c a b d m] st (.bool false) := by
  have := check_ret op fl t c a b d m st
  rwa [decide_eq_false h] at this
theorem entL_wfc {op fl : Int} (h : ChkOK op fl) (t c a b d m : Int) : Wf .u8 (entL op fl t c a b d m) := by
  obtain ⟨h1, h2, h3, h4, _⟩ := h
  exact entL_wf _ _ _ _ _ _ _ _ (by omega) (by omega)
/-- A byte turned is another byte. -/
theorem bxo8 {x y : Int} (h0 : 0 ≤ x ∧ x < 256) (h1 : 0 ≤ y ∧ y < 256) (hy : ¬ y = 0) : bxo .u8 x y ≠ x ∧ 0 ≤ bxo .u8 x y ∧ bxo .u8 x y < 256 := by
  obtain ⟨a, rfl⟩ := Int.eq_ofNat_of_zero_le h0.1
  obtain ⟨b, rfl⟩ := Int.eq_ofNat_of_zero_le h1.1
  have ha : a < 2 ^ 8 := by omega
  have hb : b < 2 ^ 8 := by omega
  have e1 : a % 2 ^ 8 = a := Nat.mod_eq_of_lt ha
  have e2 : b % 2 ^ 8 = b := Nat.mod_eq_of_lt hb
  have hk : IntKind.bits .u8 = 8 := rfl
  have h3 := Nat.xor_lt_two_pow ha hb
  have e : bxo .u8 (a : Int) (b : Int) = ((a ^^^ b : Nat) : Int) := by
    rw [bxo_def]
    simp only [Go.bits, hk, BitVec.ofInt_natCast, BitVec.toNat_xor, BitVec.toNat_ofNat, e1, e2]
    rw [IntKind.wrap_u8]
    omega
  rw [e]
  refine ⟨fun h => hy ?_, by omega, by omega⟩
  have h4 : a ^^^ b = a := by omega
  have h5 : a ^^^ (a ^^^ b) = b := by rw [← Nat.xor_assoc, Nat.xor_self, Nat.zero_xor]
  rw [h4, Nat.xor_self] at h5
  omega
end Go.Proofs.Ytlcjhffnbodkoaa.Ae
