/- Rings: the program's ring, what waits told: room, head, tail, what can be; no condition beyond the ones that each theorem names. -/
import Derived.Test.YtjhoedcjegbgdaaRoRingRoom
import Derived.Test.YtjhoedcjegbgdaaRtRingRoom
set_option linter.unusedVariables false
set_option linter.unusedSimpArgs false
set_option maxRecDepth 100000
set_option maxHeartbeats 4000000
namespace Go.Proofs.Ytjhoedcjegbgdaa.Ae
open Go Go.Proofs.Ytjhoedcjegbgdaa.Bits
section
variable {q mp : Nat} {sq cq sb cb h t : Int} {bs : List (List Int)} {ov : List C4} {L : List HA} {st : PH}
theorem ra_pt (hS : Sat (PR q mp sq cq sb cb h t ov :: PMem mp bs :: L) st) : ∃ a n cap L', Sat (Pt q (.cells (rcs mp sq cq sb cb h t a n cap) 96 (0, 0)) :: PMem mp bs :: L') st := by
  obtain ⟨a, cap, hS⟩ := ra_open hS
  exact ⟨a, _, cap, _, sat_tail (fun _ => sat_pick (.there .here)) hS⟩
theorem ra_pt1 (hS : Sat (PR q mp sq cq sb cb h t ov :: L) st) : ∃ a n cap L', Sat (Pt q (.cells (rcs mp sq cq sb cb h t a n cap) 96 (0, 0)) :: L') st := by
  obtain ⟨a, cap, hS⟩ := ra_open hS
  exact ⟨a, _, cap, _, hS⟩
theorem roomA (hS : Sat (PR q mp sq cq sb cb h t ov :: PMem mp bs :: L) st) (hcq : I64 cq) (h0 : 0 ≤ cb) (h4 : cb ≤ 4) (hb : bs.length ≤ 1000000) :
    Ret Try.prog 44 [.pointer (some ⟨q, 0, none⟩)] st (.tuple #[.int .i64 (roomN bs cq cb t), .bool (decide (roomOK bs cq cb t))]) := by
  obtain ⟨a, n, cap, L', hS⟩ := ra_pt hS
  exact room_ret hS hcq h0 h4 hb
theorem validA (hS : Sat (PR q mp sq cq sb cb h t ov :: PMem mp bs :: L) st) (hsq : I64 sq) (hcq : I64 cq) (h0 : 0 ≤ sb) (h4 : sb ≤ 4) (g0 : 0 ≤ cb) (g4 : cb ≤ 4) (hb : bs.length ≤ 1000000) :
    Ret Try.prog 45 [.pointer (some ⟨q, 0, none⟩)] st (.bool (decide (waitOK bs sq sb h ∧ roomOK bs cq cb t))) := by
  obtain ⟨a, n, cap, L', hS⟩ := ra_pt hS
  exact valid_ret hS hsq hcq h0 h4 g0 g4 hb
theorem tailA (hS : Sat (PR q mp sq cq sb cb h t ov :: L) st) : Ret Try.prog 39 [.pointer (some ⟨q, 0, none⟩)] st (.int .u32 t) := by
  obtain ⟨a, n, cap, L', hS⟩ := ra_pt1 hS
  exact tail_ret hS
end
/-- The law's own four bytes, and the store of them. -/
theorem put4_sat (x : Int) (hx : U32 x) (p : Nat) (e : TypeId) (L : List HA) (st : PH) (hS : Sat (Pt p (.cells (Array.replicate 4 (.int .u8 0)) e (0, 0)) :: L) st) :
    ACalls Try.prog 32 [.slice (some ⟨p, 0, none⟩) 4 4, .int .i64 0, .int .u32 x].toArray st fun v s => ∃ a' c', v = .slice a' 4 c' ∧ Sat (SlB a' 4 c' 5 1 (ints .u8 (b4 x)) :: L) s :=
  (rput32_sat _ _ _ _ 0 x (by decide) hx (by decide) _ _ hS (zero_row hS rfl (by decide))).mono fun v s ⟨a', c', e, h⟩ => ⟨a', c', e, sat_tail (fun _ => sat_drop) h⟩
theorem ban_or (x : Int) (hx : U32 x) : 32 ≤ bor .u32 x 32 ∧ bor .u32 x 32 < 4294967296 := by
  obtain ⟨n, rfl⟩ := Int.eq_ofNat_of_zero_le hx.1
  rw [bor_def]
  have := or32 n 32 (by have := hx.2; omega) (by decide)
  rw [show ((32 : Nat) : Int) = 32 from rfl] at this
  rw [this]
  have h1 : 32 ≤ n ||| 32 := Nat.right_le_or
  have h2 : n ||| 32 < 2 ^ 32 := Nat.or_lt_two_pow (by have := hx.2; omega) (by decide)
  omega
end Go.Proofs.Ytjhoedcjegbgdaa.Ae
