/- Rings: the program's ring, what waits told: room, head, tail, what can be; no condition beyond the ones that each theorem names. -/
import Derived.Test.YtjhoedcjegbgdaaRoRingTakes
import Derived.Test.YtjhoedcjegbgdaaRtRingTakes
set_option linter.unusedVariables false
set_option linter.unusedSimpArgs false
set_option maxRecDepth 100000
set_option maxHeartbeats 4000000
namespace Go.Proofs.Ytjhoedcjegbgdaa.Ae
open Go Go.Proofs.Ytjhoedcjegbgdaa.Bits
section
variable {q mp : Nat} {sq cq sb cb h t : Int} {bs : List (List Int)} {ov : List C4} {L : List HA} {st : PH}
theorem ra_pt (hS : Sat (PR q mp sq cq sb cb h t ov :: PMem mp bs :: L) st) : ∃ a n cap L', Sat (Pt q (.cells (rcs mp sq cq sb cb h t a n cap) 96 (0, 0)) :: PMem mp bs :: L') st := by
  obtain ⟨a, cap, hS⟩ := ra_open hS
  exact ⟨a, _, cap, _, sat_tail (fun _ => sat_pick (.there .here)) hS⟩
theorem ra_pt1 (hS : Sat (PR q mp sq cq sb cb h t ov :: L) st) : ∃ a n cap L', Sat (Pt q (.cells (rcs mp sq cq sb cb h t a n cap) 96 (0, 0)) :: L') st := by
  obtain ⟨a, cap, hS⟩ := ra_open hS
  exact ⟨a, _, cap, _, hS⟩
theorem waitA (hS : Sat (PR q mp sq cq sb cb h t ov :: PMem mp bs :: L) st) (hsq : I64 sq) (h0 : 0 ≤ sb) (h4 : sb ≤ 4) (hb : bs.length ≤ 1000000) :
    Ret Try.prog 33 [.pointer (some ⟨q, 0, none⟩)] st (.tuple #[.int .i64 (waitN bs sq sb h), .bool (decide (waitOK bs sq sb h))]) := by
  obtain ⟨a, n, cap, L', hS⟩ := ra_pt hS
  exact waiting_ret hS hsq h0 h4 hb
theorem headA (hS : Sat (PR q mp sq cq sb cb h t ov :: L) st) : Ret Try.prog 37 [.pointer (some ⟨q, 0, none⟩)] st (.int .u32 h) := by
  obtain ⟨a, n, cap, L', hS⟩ := ra_pt1 hS
  exact head_ret hS
theorem advA (hS : Sat (PR q mp sq cq sb cb h t ov :: PMem mp bs :: L) st) (i : Int) (hsq : I64 sq) (hb : bs.length ≤ 1000000) :
    ACalls Try.prog 36 [.pointer (some ⟨q, 0, none⟩), .int .i64 i].toArray st fun v s => v = .tuple #[] ∧ Sat (PR q mp sq cq sb cb (wr .u32 (h + wr .u32 i)) t ov :: PMem mp (writeM bs sq 0 (b4 (wr .u32 (h + wr .u32 i)))) :: L) s := by
  obtain ⟨a, cap, hS⟩ := ra_open hS
  exact (advance_sat (sat_pick2 .here (.there .here) hS) i hsq hb).mono fun v s ⟨e, h⟩ => ⟨e, ra_shut rfl (sat_pick2 .here (.there .here) h)⟩
theorem fetchA (hS : Sat (PR q mp sq cq sb cb h t ov :: PMem mp bs :: L) st) (i : Int) (hsq : I64 sq) (hh : U32 h) (h0 : 0 ≤ sb) (h4 : sb ≤ 4) (hb : bs.length ≤ 1000000) :
    ACalls Try.prog 35 [.pointer (some ⟨q, 0, none⟩), .int .i64 i].toArray st fun v s => ∃ a' c', v = .slice a' (readM bs sq (plc (wr .u32 (h + wr .u32 i)) sb 32) 32).length c' ∧ Sat (SlB a' (readM bs sq (plc (wr .u32 (h + wr .u32 i)) sb 32) 32).length c' 5 1 (ints .u8 (readM bs sq (plc (wr .u32 (h + wr .u32 i)) sb 32) 32)) :: PR q mp sq cq sb cb h t ov :: PMem mp bs :: L) s := by
  obtain ⟨a, cap, hS⟩ := ra_open hS
  refine (fetch_sat (sat_pick2 .here (.there .here) hS) i hsq hh h0 h4 hb).mono ?_
  rintro v s ⟨a', c', e, h⟩
  exact ⟨a', c', e, sat_tail (fun _ h => ra_shut rfl (sat_pick2 .here (.there .here) h)) h⟩
end
/-- The law's own four bytes, and the store of them. -/
theorem put4_sat (x : Int) (hx : U32 x) (p : Nat) (e : TypeId) (L : List HA) (st : PH) (hS : Sat (Pt p (.cells (Array.replicate 4 (.int .u8 0)) e (0, 0)) :: L) st) :
    ACalls Try.prog 32 [.slice (some ⟨p, 0, none⟩) 4 4, .int .i64 0, .int .u32 x].toArray st fun v s => ∃ a' c', v = .slice a' 4 c' ∧ Sat (SlB a' 4 c' 5 1 (ints .u8 (b4 x)) :: L) s :=
  (rput32_sat _ _ _ _ 0 x (by decide) hx (by decide) _ _ hS (zero_row hS rfl (by decide))).mono fun v s ⟨a', c', e, h⟩ => ⟨a', c', e, sat_tail (fun _ => sat_drop) h⟩
end Go.Proofs.Ytjhoedcjegbgdaa.Ae
