/- Rings: what the document says of them, as plain functions; the words the walks use. -/
import Derived.Test.YtjhoedcjegbgdaaPmRingKeeps
import Derived.Test.YtjhoedcjegbgdaaCbRingKeeps
import Derived.Test.YtjhoedcjegbgdaaWnRingKeeps
import Derived.Test.YtjhoedcjegbgdaaDlRingKeeps
set_option linter.unusedVariables false
set_option linter.unusedSimpArgs false
namespace Go.Proofs.Ytjhoedcjegbgdaa.Ae
open Go Go.Proofs.Ytjhoedcjegbgdaa.Bits
/-- A word of a unit. -/
def wordM (bs : List (List Int)) (u at_ : Int) : Int := gN (readM bs u at_ 4) (readM bs u at_ 4).length 0 4
/-- The bytes of a word. -/
def b4 (n : Int) : List Int := putL (zer 4) 0 n 4
theorem b4_length (n : Int) : (b4 n).length = 4 := by unfold b4; rw [putL_length, zer_length]
theorem b4_wf (n : Int) : Wf .u8 (b4 n) := putL_wf (rep_wf8 4) 4
/-- Ring sizes: 2 to the so many. -/
def p2 (b : Int) : Int := 2 ^ b.toNat
theorem p2_le {b : Int} (h0 : 0 ≤ b) (h4 : b ≤ 4) : 1 ≤ p2 b ∧ p2 b ≤ 16 := by
  have : b = 0 ∨ b = 1 ∨ b = 2 ∨ b = 3 ∨ b = 4 := by omega
  rcases this with h | h | h | h | h <;> subst h <;> decide
theorem sl_p2 {k : IntKind} (hk : k = .u32 ∨ k = .i64) {b : Int} (h0 : 0 ≤ b) (h4 : b ≤ 4) : sl k 1 b = p2 b := by
  have : b = 0 ∨ b = 1 ∨ b = 2 ∨ b = 3 ∨ b = 4 := by omega
  rw [sl_def]
  rcases hk with rfl | rfl <;> rcases this with h | h | h | h | h <;> subst h <;> decide
theorem field_p2 {n b : Int} (h0 : 0 ≤ b) (h4 : b ≤ 4) (hn : 0 ≤ n) : ((fieldN n.toNat (0 : Int).toNat (maskC 0 b) : Nat) : Int) = n % p2 b := by
  have : b = 0 ∨ b = 1 ∨ b = 2 ∨ b = 3 ∨ b = 4 := by omega
  obtain ⟨m, rfl⟩ := Int.eq_ofNat_of_zero_le hn
  rw [Int.toNat_natCast]
  unfold fieldN
  rcases this with h | h | h | h | h <;> subst h
  · show ((m % 1 : Nat) : Int) = (m : Int) % 1
    omega
  · show ((m % 2 : Nat) : Int) = (m : Int) % 2
    omega
  · show ((m % 4 : Nat) : Int) = (m : Int) % 4
    omega
  · show ((m % 8 : Nat) : Int) = (m : Int) % 8
    omega
  · show ((m % 16 : Nat) : Int) = (m : Int) % 16
    omega
theorem ban_p2 {n b : Int} (h0 : 0 ≤ b) (h4 : b ≤ 4) (hn : 0 ≤ n) (hn2 : n < 4294967296) : ban .u32 n (p2 b - 1) = n % p2 b := by
  have : b = 0 ∨ b = 1 ∨ b = 2 ∨ b = 3 ∨ b = 4 := by omega
  obtain ⟨m, rfl⟩ := Int.eq_ofNat_of_zero_le hn
  rw [ban_def]
  have key : ∀ k : Nat, k ≤ 4 → Go.bits .and .u32 (m : Int) ((2 ^ k - 1 : Nat) : Int) = ((m % 2 ^ k : Nat) : Int) := fun k hk => by
    have : 2 ^ k ≤ 2 ^ 4 := Nat.pow_le_pow_right (by decide) hk
    rw [and32 _ _ (by omega) (by omega), Nat.and_two_pow_sub_one_eq_mod]
  rcases this with h | h | h | h | h <;> subst h
  · exact (key 0 (by decide)).trans (Int.natCast_emod m 1)
  · exact (key 1 (by decide)).trans (Int.natCast_emod m 2)
  · exact (key 2 (by decide)).trans (Int.natCast_emod m 4)
  · exact (key 3 (by decide)).trans (Int.natCast_emod m 8)
  · exact (key 4 (by decide)).trans (Int.natCast_emod m 16)
/-- Where number n of a ring is. -/
def plc (n b size : Int) : Int := 16 + n % p2 b * size
theorem mod_p2 (n : Int) {b : Int} (h0 : 0 ≤ b) (h4 : b ≤ 4) : 0 ≤ n % p2 b ∧ n % p2 b < p2 b := by
  have := p2_le h0 h4
  exact ⟨Int.emod_nonneg _ (by omega), Int.emod_lt_of_pos _ (by omega)⟩
/-- What waits, what there is room for. -/
def waitD (bs : List (List Int)) (sq h : Int) : Int := wr .u32 (wordM bs sq 4 - h)
def waitOK (bs : List (List Int)) (sq sb h : Int) : Prop := waitD bs sq h ≤ p2 sb
instance (bs : List (List Int)) (sq sb h : Int) : Decidable (waitOK bs sq sb h) := by unfold waitOK; infer_instance
def roomD (bs : List (List Int)) (cq t : Int) : Int := wr .u32 (t - wordM bs cq 0)
def roomOK (bs : List (List Int)) (cq cb t : Int) : Prop := roomD bs cq t ≤ p2 cb
instance (bs : List (List Int)) (cq cb t : Int) : Decidable (roomOK bs cq cb t) := by unfold roomOK; infer_instance
def roomN (bs : List (List Int)) (cq cb t : Int) : Int := if roomOK bs cq cb t then p2 cb - roomD bs cq t else 0
/-- A completion: its tag, result, value, number. -/
abbrev C4 := Int × Int × Int × Int
def c4d : C4 := (0, 0, 0, 0)
def c4 (c : C4) : List Value := [.int .u32 c.1, .int .i32 c.2.1, .int .u32 c.2.2.1, .int .u32 c.2.2.2]
theorem c4_len (c : C4) : (c4 c).length = 4 := rfl
theorem c4_one (l : List C4) : (fl c4 l).all Value.oneCell = true := by
  rw [List.all_eq_true]
  intro v hv
  unfold fl at hv
  obtain ⟨x, _, hx⟩ := List.mem_flatMap.1 hv
  simp only [c4, List.mem_cons, List.not_mem_nil, or_false] at hx
  rcases hx with rfl | rfl | rfl | rfl <;> rfl
def C4ok (c : C4) : Prop := (0 ≤ c.1 ∧ c.1 < 4294967296) ∧ (-2147483648 ≤ c.2.1 ∧ c.2.1 < 2147483648) ∧ (0 ≤ c.2.2.1 ∧ c.2.2.1 < 4294967296) ∧ (0 ≤ c.2.2.2 ∧ c.2.2.2 < 4294967296)
def compB (c : C4) : List Int := compL c.1 (wr .u32 c.2.1) c.2.2.1 c.2.2.2
theorem compB_length (c : C4) : (compB c).length = 16 := compL_length _ _ _ _
theorem compB_wf (c : C4) : Wf .u8 (compB c) := compL_wf _ _ _ _
/-- A completion is written, where there is room. -/
def canW (bs : List (List Int)) (cq cb t : Int) : Prop := roomD bs cq t < p2 cb
instance (bs : List (List Int)) (cq cb t : Int) : Decidable (canW bs cq cb t) := by unfold canW; infer_instance
def wrB (bs : List (List Int)) (cq cb t : Int) (c : C4) : List (List Int) := writeM (writeM bs cq (plc t cb 16) (compB c)) cq 4 (b4 (wr .u32 (t + 1)))
def wrM (bs : List (List Int)) (cq cb t : Int) (c : C4) : List (List Int) := if canW bs cq cb t then wrB bs cq cb t c else bs
def wrT (bs : List (List Int)) (cq cb t : Int) : Int := if canW bs cq cb t then wr .u32 (t + 1) else t
theorem wrB_ok {bs : List (List Int)} (h : UnitsOK bs) (cq cb t : Int) (c : C4) : UnitsOK (wrB bs cq cb t c) := writeM_ok (writeM_ok h (compB_wf c)) (b4_wf _)
theorem wrB_length (bs : List (List Int)) (cq cb t : Int) (c : C4) : (wrB bs cq cb t c).length = bs.length := by unfold wrB; rw [writeM_length, writeM_length]
/-- A ring's state: memory, head, tail, what waits. -/
structure RS where
  bs : List (List Int)
  h : Int
  t : Int
  ov : List C4
def postOK (s : RS) (cq cb : Int) : Prop := s.ov.length = 0 ∧ canW s.bs cq cb s.t
instance (s : RS) (cq cb : Int) : Decidable (postOK s cq cb) := by unfold postOK; infer_instance
def postR (s : RS) (cq cb : Int) (c : C4) : RS := if postOK s cq cb then { s with bs := wrB s.bs cq cb s.t c, t := wr .u32 (s.t + 1) } else { s with ov := s.ov ++ [c] }
def flushN (cq cb : Int) : List C4 → List (List Int) → Int → Nat
  | [], _, _ => 0
  | c :: l, bs, t => if canW bs cq cb t then flushN cq cb l (wrB bs cq cb t c) (wr .u32 (t + 1)) + 1 else 0
def flushR (cq cb : Int) : List C4 → List (List Int) → Int → Int → RS
  | [], bs, h, t => ⟨bs, h, t, []⟩
  | c :: l, bs, h, t => if canW bs cq cb t then flushR cq cb l (wrB bs cq cb t c) h (wr .u32 (t + 1)) else ⟨bs, h, t, c :: l⟩
end Go.Proofs.Ytjhoedcjegbgdaa.Ae
