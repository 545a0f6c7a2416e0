/- Blocks of bytes side by side; what copying and clearing does to one; no condition beyond the ones that each theorem names. -/
import Derived.Test.YtjhoedcjegbgdaaOwRingKeeps
set_option linter.unusedVariables false
set_option linter.unusedSimpArgs false
namespace Go.Proofs.Ytjhoedcjegbgdaa.Ae
open Go
/-- Some parts alone are frozen; the last operation may turn what others read. -/
theorem draw_TL {P : Program} {id : Nat} {l : List Oper} {Q : Exit → FR → PH → Prop} {F : FR} {st : PH} {M L : List HA} (hm : P.follows .mixedOrders = true) (hS : Sat (Sat M :: L) st) (hok : (noSel l.toArray && regOK l.toArray (effOf l.toArray) (nwOf l.toArray) && lastOK l.toArray) = true)
    (h : ∀ T, Sat M T → Sat (Is T :: L) st → dlL P l.toArray T (Q .normal) l F st) : hwp P (.region id l.toArray true) Q F st := by
  obtain ⟨a, b, d, hM, hL, rfl⟩ := hS
  exact hwp_drawL a hm hok Dis.left (h a hM ⟨a, b, d, Lies.refl _, hL, rfl⟩)
def blks (e : TypeId) : List Nat → List (List Int) → List HA
  | p :: ps, b :: bs => Pt p (.cells (ints .u8 b).toArray e (0, 0)) :: blks e ps bs
  | _, _ => []
theorem blks_pick {e : TypeId} : ∀ (ps : List Nat) (bs : List (List Int)) (i : Nat), i < ps.length → i < bs.length → Pick (Pt (ps.getD i 0) (.cells (ints .u8 (bs.getD i [])).toArray e (0, 0))) (blks e ps bs) (blks e (ps.eraseIdx i) (bs.eraseIdx i)) := by
  intro ps
  induction ps with
  | nil => intro bs i h _; simp at h
  | cons p ps ih =>
    intro bs i hp hb
    cases bs with
    | nil => simp at hb
    | cons b bs =>
      cases i with
      | zero => exact .here
      | succ i => exact .there (ih bs i (by simpa using hp) (by simpa using hb))
theorem blks_pick_set {e : TypeId} {b' : List Int} : ∀ (ps : List Nat) (bs : List (List Int)) (i : Nat), i < ps.length → i < bs.length → Pick (Pt (ps.getD i 0) (.cells (ints .u8 b').toArray e (0, 0))) (blks e ps (bs.set i b')) (blks e (ps.eraseIdx i) (bs.eraseIdx i)) := by
  intro ps
  induction ps with
  | nil => intro bs i h _; simp at h
  | cons p ps ih =>
    intro bs i hp hb
    cases bs with
    | nil => simp at hb
    | cons b bs =>
      cases i with
      | zero => exact .here
      | succ i => exact .there (ih bs i (by simpa using hp) (by simpa using hb))
theorem pick_app {A : HA} {M M' L : List HA} (p : Pick A M M') : Pick A (M ++ L) (M' ++ L) := by
  induction p with
  | here => exact .here
  | there p ih => exact .there ih
theorem sat_cut {A : HA} {M M' L : List HA} {st : PH} (p : Pick A M M') (h : Sat (Sat M :: L) st) : Sat (A :: Sat M' :: L) st :=
  sat_tail (fun _ => sat_app.2) (sat_pick (pick_app p) (sat_app.1 h))
theorem sat_uncut {A : HA} {M M' L : List HA} {st : PH} (p : Pick A M M') (h : Sat (A :: Sat M' :: L) st) : Sat (Sat M :: L) st :=
  sat_app.2 (sat_unpick (pick_app p) (sat_tail (fun _ => sat_app.1) h))
theorem wf_drop_take {k : IntKind} {b : List Int} (h : Wf k b) (off n : Nat) : Wf k ((b.drop off).take n) := fun x hx => h x (List.mem_of_mem_drop (List.mem_of_mem_take hx))
theorem pt_row {k : IntKind} {p off n : Nat} {b : List Int} {e : TypeId} {f : Nat × Nat} {L : List HA} {st : PH} (h : Sat (Pt p (.cells (ints k b).toArray e f) :: L) st) (hw : Wf k b) (ho : off + n ≤ b.length) (hm : n ≤ 9223372036854775807) : RowIn st.cell? k (some ⟨p, off, none⟩) n ((b.drop off).take n) := by
  have hp := sat_pt h
  refine ⟨by simp; omega, hm, wf_drop_take hw off n, fun _ => rfl, fun i hi => ?_⟩
  rw [Option.getD_some, cell_off hp, List.getElem?_toArray, ints_get (by omega)]
  congr 2
  simp only [List.getD_eq_getElem?_getD, List.getElem?_take, hi, if_true, List.getElem?_drop]
/-- The address of a slice cut out of a block of its own. -/
theorem slAt_some {p off len : Nat} (h : ¬ len = off) : slAt (some ⟨p, 0, none⟩) off len 1 = some ⟨p, off, none⟩ := by
  unfold slAt
  rw [if_neg h]
  simp only [Option.map_some, Addr.add, Nat.mul_one, Nat.zero_add]
  split
  · rename_i h0; subst h0; rfl
  · rfl
theorem pt_row_at {k : IntKind} {p off n len : Nat} {b : List Int} {e : TypeId} {f : Nat × Nat} {L : List HA} {st : PH} (h : Sat (Pt p (.cells (ints k b).toArray e f) :: L) st) (hw : Wf k b) (hl : b.length = len) (ho : off + n ≤ len) (hm : n ≤ 9223372036854775807) : RowIn st.cell? k (slAt (some ⟨p, 0, none⟩) off len 1) n ((b.drop off).take n) := by
  by_cases h0 : len = off
  · obtain rfl : n = 0 := by omega
    rw [List.take_zero]
    exact ⟨rfl, hm, fun _ h => (nomatch h), fun h => (by omega), fun i h => (by omega)⟩
  · rw [slAt_some h0]
    exact pt_row h hw (by omega) hm
/-- What lies behind a place is laid anew. -/
def lay (b : List Int) (off : Nat) (l : List Int) : List Int := b.take off ++ l ++ b.drop (off + l.length)
theorem lay_length {b l : List Int} {off : Nat} (h : off + l.length ≤ b.length) : (lay b off l).length = b.length := by unfold lay; simp; omega
theorem lay_wf {k : IntKind} {b l : List Int} {off : Nat} (hb : Wf k b) (hl : Wf k l) : Wf k (lay b off l) := by
  intro x hx
  unfold lay at hx
  simp only [List.mem_append] at hx
  rcases hx with (h | h) | h
  · exact hb x (List.mem_of_mem_take h)
  · exact hl x h
  · exact hb x (List.mem_of_mem_drop h)
theorem lay_nil {b : List Int} {off : Nat} : lay b off [] = b := by unfold lay; simp
theorem spl_lay {k : IntKind} {b l : List Int} {off : Nat} (h : off + l.length ≤ b.length) : spl (ints k b).toArray off (ints k l) = (ints k (lay b off l)).toArray := by
  have e0 : ints k b = ints k (b.take off) ++ ints k (b.drop off) := by rw [ints_app, List.take_append_drop]
  have := spl_app (ints k l) (ints k (b.take off)) (ints k (b.drop off)) (by simp only [ints_length, List.length_drop]; omega)
  rw [ints_length, List.length_take, Nat.min_eq_left (by omega)] at this
  rw [e0, this]
  congr 1
  rw [ints_length, ints_app]
  unfold lay ints
  simp only [List.map_append, List.map_drop, List.drop_drop]
theorem spl_nil (c : Array Value) (off : Nat) : spl c off [] = c := rfl
theorem copy_pt {P : Program} {t t2 e : TypeId} {st : PH} {K : Value → PH → Prop} {p off len dCap n xc : Nat} {xb : Option Addr} {b l : List Int} {e' : TypeId} {L L' : List HA} (he : tslice P t = some e) (hk : tok P e = true) (hsz : tsz P e = 1)
    (hS : Sat L st) (pk : Pick (Pt p (.cells (ints .u8 b).toArray e' (0, 0))) L L') (hx : RowIn st.cell? .u8 xb n l) (hl : b.length = len) (ho : off + n ≤ len)
    (h : ∀ s, Sat (Pt p (.cells (ints .u8 (lay b off l)).toArray e' (0, 0)) :: L') s → K (.int .i64 n) s) : SemK P (Builtin.copy_ [t, t2].toArray 0 [.slice (slAt (some ⟨p, 0, none⟩) off len 1) n dCap, .slice xb n xc].toArray) st K := by
  have hS1 := sat_pick pk hS
  have hp := sat_pt hS1
  have hxl := hx.length
  by_cases h0 : len = off
  · obtain rfl : n = 0 := by omega
    have hl0 : l = [] := List.eq_nil_of_length_eq_zero hxl
    subst hl0
    have e1 : slAt (some ⟨p, 0, none⟩) off len 1 = some ⟨p, 0, none⟩ := by unfold slAt; rw [if_pos h0]
    rw [e1]
    refine semK_copy (new := []) he hk hsz (by simp) (.inl rfl) rfl hp rfl (by simp) ?_
    rw [spl_nil]
    have := h _ (sat_upd hS1)
    rw [lay_nil] at this
    exact this
  · rw [slAt_some h0]
    refine semK_copy (new := ints .u8 l) he hk hsz (by simp only [ints_length, hxl]; exact (Nat.min_self n).symm) (row_reads hx) ints_one hp rfl (by simp only [ints_length, hxl, List.size_toArray]; omega) ?_
    rw [ints_length, hxl]
    show K _ (st.upd p (.cells (spl (ints .u8 b).toArray off (ints .u8 l)) e' (0, 0)))
    rw [spl_lay (by omega)]
    exact h _ (sat_upd hS1)
theorem copy_nil {P : Program} {t t2 e : TypeId} {st : PH} {K : Value → PH → Prop} {n xc : Nat} {xb : Option Addr} (he : tslice P t = some e) (hk : tok P e = true) (hsz : tsz P e = 1)
    (h : K (.int .i64 0) st) : SemK P (Builtin.copy_ [t, t2].toArray 0 [.slice none 0 0, .slice xb n xc].toArray) st K := by
  refine swp_of_awp ?_
  unfold Builtin.copy_
  show awp P (underlying t >>= _) st K
  rw [awp_bind, awp_underlying (tslice_und he)]
  show awp P (Builtin.lenOf (.slice xb n xc) >>= _) st K
  rw [awp_bind]
  show awp P (sizeOf e >>= _) st K
  rw [awp_bind, awp_sizeOf hk, hsz]
  show awp P (Builtin.firstCells 1 (Nat.min n 0) (.slice xb n xc) >>= _) st K
  rw [awp_bind, show Nat.min n 0 = 0 from Nat.min_zero n]
  cases xb with
  | none => exact h
  | some a => exact h
/-! ### memory: units of bytes -/
def hdrs (ps : List Nat) : List Value := ps.map fun p => .slice (some ⟨p, 0, none⟩) 512 512
def UnitsOK (bs : List (List Int)) : Prop := ∀ b ∈ bs, b.length = 512 ∧ Wf .u8 b
theorem UnitsOK.at {bs : List (List Int)} (h : UnitsOK bs) {i : Nat} (hi : i < bs.length) : (bs.getD i []).length = 512 ∧ Wf .u8 (bs.getD i []) := by
  rw [List.getD_eq_getElem?_getD, List.getElem?_eq_getElem hi]
  exact h _ (List.getElem_mem hi)
theorem UnitsOK.set {bs : List (List Int)} (h : UnitsOK bs) {i : Nat} {b : List Int} (hb : b.length = 512 ∧ Wf .u8 b) : UnitsOK (bs.set i b) := by
  intro x hx
  rcases List.mem_or_eq_of_mem_set hx with h1 | h1
  · exact h x h1
  · rw [h1]; exact hb
/-- A memory: its own block (of type T), the slice of its units (elements of type U), the units (of type B). -/
def MemA (T U B : TypeId) (q : Nat) (bs : List (List Int)) : HA := fun h => ∃ a cap ps, (ps.length = bs.length ∧ UnitsOK bs) ∧ Sat [Pt q (.cells #[.slice a bs.length cap] T (0, 0)), SlB a bs.length cap U 1 (hdrs ps), Sat (blks B ps bs)] h
theorem mem_open {T U B : TypeId} {q : Nat} {bs : List (List Int)} {L : List HA} {st : PH} (h : Sat (MemA T U B q bs :: L) st) : ∃ a cap ps, (ps.length = bs.length ∧ UnitsOK bs) ∧ Sat (Pt q (.cells #[.slice a bs.length cap] T (0, 0)) :: SlB a bs.length cap U 1 (hdrs ps) :: Sat (blks B ps bs) :: L) st := by
  obtain ⟨a, h⟩ := sat_ex.1 h
  obtain ⟨cap, h⟩ := sat_ex.1 h
  obtain ⟨ps, h⟩ := sat_ex.1 h
  obtain ⟨h1, h⟩ := sat_and.1 h
  exact ⟨a, cap, ps, h1, sat_app.1 h⟩
theorem mem_shut {T U B : TypeId} {q : Nat} {bs : List (List Int)} {L : List HA} {st : PH} {a : Option Addr} {cap : Nat} {ps : List Nat} (h1 : ps.length = bs.length) (h2 : UnitsOK bs) (h : Sat (Pt q (.cells #[.slice a bs.length cap] T (0, 0)) :: SlB a bs.length cap U 1 (hdrs ps) :: Sat (blks B ps bs) :: L) st) : Sat (MemA T U B q bs :: L) st := by
  refine sat_ex.2 ⟨a, sat_ex.2 ⟨cap, sat_ex.2 ⟨ps, sat_and.2 ⟨⟨h1, h2⟩, ?_⟩⟩⟩⟩
  exact sat_app.2 h
theorem mem_ok {T U B : TypeId} {q : Nat} {bs : List (List Int)} {L : List HA} {st : PH} (h : Sat (MemA T U B q bs :: L) st) : UnitsOK bs := by
  obtain ⟨_, _, _, h1, _⟩ := mem_open h
  exact h1.2
theorem hdrs_get {ps : List Nat} {i : Nat} (h : i < ps.length) : (hdrs ps)[i]? = some (.slice (some ⟨ps.getD i 0, 0, none⟩) 512 512) := by
  unfold hdrs
  rw [List.getElem?_map, List.getElem?_eq_getElem h, List.getD_eq_getElem?_getD, List.getElem?_eq_getElem h]; rfl
theorem hdr_cell {a : Option Addr} {n cap : Nat} {U : TypeId} {ps : List Nat} {L : List HA} {st : PH} (h : Sat (SlB a n cap U 1 (hdrs ps) :: L) st) {i : Nat} (hi : i < ps.length) : st.cell? ((a.getD ⟨0, 0, none⟩).add i) = some (.slice (some ⟨ps.getD i 0, 0, none⟩) 512 512) := by
  rw [slb_cell h i (by unfold hdrs; simpa using hi), hdrs_get hi]
/-- Within a unit? -/
def inU (n : Nat) (u o m : Int) : Prop := 1 ≤ u ∧ u ≤ n ∧ 0 ≤ o ∧ o ≤ 512 ∧ 0 ≤ m ∧ m ≤ 512 - o
instance (n : Nat) (u o m : Int) : Decidable (inU n u o m) := by unfold inU; infer_instance
abbrev unitAt (bs : List (List Int)) (u : Int) : List Int := bs.getD (u - 1).toNat []
def readM (bs : List (List Int)) (u o m : Int) : List Int := if inU bs.length u o m then ((unitAt bs u).drop o.toNat).take m.toNat else []
def writeM (bs : List (List Int)) (u o : Int) (l : List Int) : List (List Int) := if inU bs.length u o l.length then bs.set (u - 1).toNat (lay (unitAt bs u) o.toNat l) else bs
theorem unitAt_ok {bs : List (List Int)} (h : UnitsOK bs) {u : Int} (h1 : 1 ≤ u) (h2 : u ≤ bs.length) : (unitAt bs u).length = 512 ∧ Wf .u8 (unitAt bs u) := h.at (by omega)
theorem writeM_length (bs : List (List Int)) (u o : Int) (l : List Int) : (writeM bs u o l).length = bs.length := by unfold writeM; split <;> simp
theorem writeM_ok {bs : List (List Int)} (h : UnitsOK bs) {u o : Int} {l : List Int} (hl : Wf .u8 l) : UnitsOK (writeM bs u o l) := by
  unfold writeM
  split
  · rename_i hi
    obtain ⟨h1, h2, h3, h4, h5, h6⟩ := hi
    obtain ⟨g1, g2⟩ := unitAt_ok h h1 h2
    exact h.set ⟨by rw [lay_length (by omega)]; exact g1, lay_wf g2 hl⟩
  · exact h
theorem readM_wf {bs : List (List Int)} (h : UnitsOK bs) (u o m : Int) : Wf .u8 (readM bs u o m) := by
  unfold readM
  split
  · rename_i hi; exact wf_drop_take (unitAt_ok h hi.1 hi.2.1).2 _ _
  · exact fun x hx => (nomatch hx)
theorem readM_length {bs : List (List Int)} (h : UnitsOK bs) (u o m : Int) : (readM bs u o m).length = if inU bs.length u o m then m.toNat else 0 := by
  unfold readM
  split
  · rename_i hi
    obtain ⟨h1, h2, h3, h4, h5, h6⟩ := hi
    have g := (unitAt_ok h h1 h2).1
    simp only [List.length_take, List.length_drop, g]; omega
  · rfl
def newU (n : Int) : Nat := (if 64 < (if n < 1 then 1 else n) then 64 else (if n < 1 then 1 else n) : Int).toNat
theorem newU_le (n : Int) : 1 ≤ newU n ∧ newU n ≤ 64 := by unfold newU; split <;> (try split) <;> omega
def newM (n : Int) : List (List Int) := List.replicate (newU n) (zer 512)
theorem unitsOK_rep (n : Nat) : UnitsOK (List.replicate n (zer 512)) := fun b hb => by rw [(List.mem_replicate.1 hb).2]; exact ⟨zer_length _, wf_rep (by decide)⟩
theorem blks_snoc {e : TypeId} {b : List Int} {p : Nat} : ∀ (ps : List Nat) (bs : List (List Int)), ps.length = bs.length → blks e (ps ++ [p]) (bs ++ [b]) = blks e ps bs ++ [Pt p (.cells (ints .u8 b).toArray e (0, 0))] := by
  intro ps
  induction ps with
  | nil => intro bs h; cases bs with | nil => rfl | cons b bs => cases h
  | cons q ps ih =>
    intro bs h
    cases bs with
    | nil => cases h
    | cons c bs => show _ :: blks e (ps ++ [p]) (bs ++ [b]) = _; rw [ih bs (by simpa using h)]; rfl
theorem sat_rot {A : HA} {M L : List HA} {st : PH} (h : Sat (A :: Sat M :: L) st) : Sat (Sat (M ++ [A]) :: L) st := by
  refine sat_app.2 ?_
  have h1 := sat_tail (fun _ => sat_app.1) h
  have pk : ∀ M : List HA, Pick A (M ++ [A] ++ L) (M ++ L) := by
    intro M
    induction M with
    | nil => exact .here
    | cons B M ih => exact .there ih
  exact sat_unpick (pk M) h1
theorem mem_grow {T U B : TypeId} {q p k c : Nat} {a : Option Addr} {ps : List Nat} {L : List HA} {s : PH} (hps : ps.length = k) (h : Sat (Pt q (.cells #[.slice a (k + 1) c] T (0, 0)) :: SlB a (k + 1) c U 1 (hdrs ps ++ [.slice (some ⟨p, 0, none⟩) 512 512]) :: Pt p (.cells (Array.replicate 512 (.int .u8 0)) B (0, 0)) :: Sat (blks B ps (List.replicate k (zer 512))) :: L) s) :
    Sat (MemA T U B q (List.replicate (k + 1) (zer 512)) :: L) s := by
  refine mem_shut (a := a) (cap := c) (ps := ps ++ [p]) (by simp [hps]) (unitsOK_rep _) ?_
  rw [List.length_replicate]
  refine sat_tail (fun s h => ?_) h
  have e1 : hdrs (ps ++ [p]) = hdrs ps ++ [.slice (some ⟨p, 0, none⟩) 512 512] := by unfold hdrs; simp
  rw [e1]
  refine sat_tail (fun s h => ?_) h
  rw [List.replicate_succ', blks_snoc _ _ (by rw [hps, List.length_replicate])]
  have e2 : Array.replicate 512 (Value.int .u8 0) = (ints .u8 (zer 512)).toArray := by unfold ints zer; rw [List.map_replicate]; rfl
  rw [e2] at h
  exact sat_rot h
theorem readM_small {bs : List (List Int)} (h : UnitsOK bs) (u o m : Int) : (readM bs u o m).length ≤ 9223372036854775807 := by
  rw [readM_length h]
  split
  · rename_i hi
    have := hi.2.2.2.2.2
    have := hi.2.2.1
    omega
  · omega
end Go.Proofs.Ytjhoedcjegbgdaa.Ae
