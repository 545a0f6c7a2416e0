/- What append does to a slice of one's own; no condition beyond the ones that the theorem names. -/
import Derived.Test.YtddnhjmogomimaaAk
set_option linter.unusedVariables false
set_option linter.unusedSimpArgs false
namespace Go.Proofs.Ytddnhjmogomimaa.Ae
open Go
/-- Some cells lie there. -/
def Reads (st : PH) (a : Option Addr) (l : List Value) : Prop := l = [] ∨ ∃ x, a = some x ∧ ∀ i, i < l.length → st.cell? (x.add i) = l[i]?
theorem Reads.lies {T S : PH} {a : Option Addr} {l : List Value} (h : Reads T a l) (e : Lies T S) : Reads S a l := by
  rcases h with h | ⟨x, hx, hr⟩
  · exact .inl h
  · refine .inr ⟨x, hx, fun i hi => ?_⟩
    have := hr i hi
    rw [List.getElem?_eq_getElem hi] at this ⊢
    exact cell_lies e this
/-- A slice of one's own beside the rest B: nothing yet, or a block with room behind. -/
def Own (B : PH) (s : Value) (e : TypeId) (l : List Value) (st : PH) : Prop :=
  (s = .slice none 0 0 ∧ l = [] ∧ st = B) ∨ ∃ r junk, B r = none ∧ s = .slice (some ⟨r, 0, none⟩) l.length (l.length + junk.length) ∧ st = B.upd r (.cells (l ++ junk).toArray e (0, 0))
theorem add_add' (a : Addr) (i j : Nat) : (a.add i).add j = a.add (i + j) := by
  unfold Addr.add
  by_cases h1 : i = 0
  · subst h1; simp
  · by_cases h2 : j = 0
    · subst h2; simp [h1]
    · simp [h1, h2]; omega
theorem awp_loadCells {P : Program} {st : PH} {x : Addr} {Q : Array Value → PH → Prop} : ∀ (l : List Value) (i : Nat) (acc : Array Value), (∀ j, j < l.length → st.cell? (x.add (i + j)) = l[j]?) → Q (acc ++ l.toArray) st → awp P (loadCellsFrom x i l.length acc) st Q := by
  intro l
  induction l with
  | nil => intro i acc _ h; rw [show acc ++ ([] : List Value).toArray = acc by simp] at h; exact h
  | cons v l ih =>
    intro i acc hr h
    unfold loadCellsFrom
    simp only [List.length_cons]
    rw [awp_bind]
    refine ⟨v, by simpa using hr 0 (by simp), ?_⟩
    refine ih (i + 1) _ (fun j hj => ?_) ?_
    · have := hr (j + 1) (by simp; omega)
      rw [show i + 1 + j = i + (j + 1) by omega, this]; simp
    · have e : acc.push v ++ l.toArray = acc ++ (v :: l).toArray := by apply Array.ext'; simp
      rw [e]; exact h
theorem growBy_le (n : Nat) : ∀ k c, Builtin.growBy n k c ≤ max c (2 * n + 768) := by
  intro k
  induction k with
  | zero => intro c; exact Nat.le_max_left ..
  | succ k ih =>
    intro c
    unfold Builtin.growBy
    split
    · exact Nat.le_max_left ..
    · have := ih (c + (c + 768) / 4)
      omega
theorem nextcap_le {n c : Nat} (h : c < n) : Builtin.nextslicecap n c ≤ 2 * n + 768 := by
  unfold Builtin.nextslicecap
  have := growBy_le n 4 c
  split
  · omega
  · split <;> omega
theorem app_new {P : Program} {t t2 e e2 : TypeId} {z : Value} {st : PH} {K : Value → PH → Prop} {base xb : Option Addr} {sCap xc : Nat} {old new : List Value} (he : tslice P t = some e) (hk : tok P e = true) (hsz : tsz P e = 1) (hz : tzero P e = some z)
    (he2 : tslice P t2 = some e2) (hb0 : tby P e ≠ 0) (hb1 : tby P e ≤ 4096) (hlen : old.length + new.length ≤ 4294967296) (hcap : sCap < old.length + new.length) (hsc : old.length ≤ sCap)
    (ho : Reads st base old) (hx : Reads st xb new)
    (h : ∀ r m, st r = none → old.length + new.length ≤ m → K (.slice (some ⟨r, 0, none⟩) (old.length + new.length) m) (st.upd r (.cells (old.toArray ++ new.toArray ++ Builtin.zeroCells z.cells (m - (old.length + new.length))) e (0, 0)))) :
    awp P (Builtin.append_ #[t, t2] 0 #[.slice base old.length sCap, .slice xb new.length xc]) st K := by
  obtain ⟨x, hx0⟩ := Option.isSome_iff_exists.1 hk
  have hb : x.bytes = tby P e := by unfold tby; rw [hx0]; rfl
  have fc : ∀ (a : Option Addr) (c : Nat) (l : List Value) (Q : Array Value → PH → Prop), Reads st a l → Q l.toArray st → awp P (Builtin.firstCells 1 l.length (.slice a l.length c)) st Q := by
    intro a c l Q hr q
    rcases hr with rfl | ⟨y, rfl, hy⟩
    · cases a with
      | none => exact q
      | some y => exact q
    · show awp P (loadCellsFrom y 0 (l.length * 1) #[]) st Q
      rw [Nat.mul_one]
      exact awp_loadCells l 0 #[] (fun j hj => by rw [Nat.zero_add]; exact hy j hj) (by simpa using q)
  unfold Builtin.append_
  show awp P (underlying t >>= _) st K
  rw [awp_bind, awp_underlying (tslice_und he)]
  show awp P (sizeOf e >>= _) st K
  rw [awp_bind, awp_sizeOf hk, hsz]
  show awp P (_ >>= _) st K
  rw [awp_bind]
  show awp P (underlying t2) st _
  rw [awp_underlying (tslice_und he2)]
  show awp P (pure false >>= _) st K
  rw [awp_bind, awp_pure]
  simp only [Bool.false_eq_true, if_false, Bool.not_false, if_true]
  show awp P (Builtin.lenOf (.slice xb new.length xc) >>= _) st K
  rw [awp_bind]
  show awp P (if old.length + new.length ≤ sCap then _ else _) st K
  rw [if_neg (by omega)]
  show awp P (typeInfo e >>= _) st K
  rw [awp_bind, awp_typeInfo hx0]
  have hmax : IntKind.i64.max = 9223372036854775807 := rfl
  show awp P (if _ ∧ _ then _ else _) st K
  rw [if_neg (by rintro ⟨h1, _⟩; omega)]
  show awp P (typeInfo e >>= _) st K
  rw [awp_bind, awp_typeInfo hx0]
  have hc := nextcap_le hcap
  have hmul : Builtin.nextslicecap (old.length + new.length) sCap * x.bytes ≤ (2 * 4294967296 + 768) * 4096 := Nat.mul_le_mul (by omega) (by omega)
  show awp P (if _ > _ then _ else _) st K
  rw [if_neg (by omega)]
  show awp P (choose _ >>= _) st K
  rw [awp_bind]
  show (if (Question.appendCap _ _ _).forced = true then _ else _)
  rw [if_neg (by simp [Question.forced])]
  intro tt
  have hm : old.length + new.length ≤ (Question.appendCap (old.length + new.length) sCap e).cut tt := Nat.le_add_right ..
  generalize (Question.appendCap (old.length + new.length) sCap e).cut tt = m at hm ⊢
  show awp P (typeInfo e >>= _) st K
  rw [awp_bind, awp_typeInfo hx0]
  have room : ∀ (b : Nat) (s : Sem Value) (R : Value → PH → Prop), awp P s st R → awp P (askRoom b >>= fun _ => s) st R := by
    intro b s R hs
    unfold askRoom
    rw [awp_bind]
    split <;> exact hs
  refine room _ _ _ ?_
  show awp P (Builtin.firstCells 1 old.length (.slice base old.length sCap) >>= _) st K
  rw [awp_bind]
  refine fc base sCap old _ ho ?_
  show awp P (Builtin.firstCells 1 new.length (.slice xb new.length xc) >>= _) st K
  rw [awp_bind]
  refine fc xb xc new _ hx ?_
  show awp P (zeroValue e >>= _) st K
  rw [awp_bind, awp_zeroValue hz]
  show awp P (newRow e _ >>= _) st K
  rw [awp_bind]
  exact awp_newRow fun r hr => h r m hr hm
theorem app_old {P : Program} {t t2 e e2 : TypeId} {st : PH} {K : Value → PH → Prop} {a : Addr} {xb : Option Addr} {n sCap xc : Nat} {new : List Value} {c : Array Value} {e' : TypeId} (he : tslice P t = some e) (hk : tok P e = true) (hsz : tsz P e = 1)
    (he2 : tslice P t2 = some e2) (hle : n + new.length ≤ sCap) (hx : Reads st xb new) (hn : new.all Value.oneCell = true) (hb : st a.block = some (.cells c e' (0, 0))) (hs : a.spot = none) (hc : a.off + n + new.length ≤ c.size)
    (h : K (.slice (some a) (n + new.length) sCap) (st.upd a.block (.cells (spl c (a.off + n) new) e' (0, 0)))) :
    awp P (Builtin.append_ #[t, t2] 0 #[.slice (some a) n sCap, .slice xb new.length xc]) st K := by
  have fc : ∀ (a : Option Addr) (c : Nat) (l : List Value) (Q : Array Value → PH → Prop), Reads st a l → Q l.toArray st → awp P (Builtin.firstCells 1 l.length (.slice a l.length c)) st Q := by
    intro a c l Q hr q
    rcases hr with rfl | ⟨y, rfl, hy⟩
    · cases a with
      | none => exact q
      | some y => exact q
    · show awp P (loadCellsFrom y 0 (l.length * 1) #[]) st Q
      rw [Nat.mul_one]
      exact awp_loadCells l 0 #[] (fun j hj => by rw [Nat.zero_add]; exact hy j hj) (by simpa using q)
  unfold Builtin.append_
  show awp P (underlying t >>= _) st K
  rw [awp_bind, awp_underlying (tslice_und he)]
  show awp P (sizeOf e >>= _) st K
  rw [awp_bind, awp_sizeOf hk, hsz]
  show awp P (_ >>= _) st K
  rw [awp_bind]
  show awp P (underlying t2) st _
  rw [awp_underlying (tslice_und he2)]
  show awp P (pure false >>= _) st K
  rw [awp_bind, awp_pure]
  simp only [Bool.false_eq_true, if_false, Bool.not_false, if_true]
  show awp P (Builtin.lenOf (.slice xb new.length xc) >>= _) st K
  rw [awp_bind]
  show awp P (if n + new.length ≤ sCap then _ else _) st K
  rw [if_pos hle]
  show awp P (Builtin.firstCells 1 new.length (.slice xb new.length xc) >>= _) st K
  rw [awp_bind]
  refine fc xb xc new _ hx ?_
  show awp P (storeCells (a.add (n * 1)) new >>= _) st K
  rw [awp_bind, Nat.mul_one, add_off a hs]
  refine storeCells_ok (a := ⟨a.block, a.off + n, none⟩) rfl new 0 st c hb (by simpa using hc) hn ?_
  exact h
theorem lies_none {T S : PH} (h : Lies T S) {p : Nat} (hp : S p = none) : T p = none := by
  cases e : T p with
  | none => rfl
  | some o => rw [h p o e] at hp; cases hp
theorem own_new {B T : PH} {e : TypeId} {z : Value} {l new : List Value} {r m : Nat} {K : Value → PH → Prop} (hzc : z.cells.size = 1) (h : ∀ v s', Own B v e (l ++ new) s' → K v s') (hT : Lies B T) (hr : T r = none) (hm : l.length + new.length ≤ m) :
    ∃ st2, (∀ r' o, st2 r' = some o → (T.upd r (.cells (l.toArray ++ new.toArray ++ Builtin.zeroCells z.cells (m - (l.length + new.length))) e (0, 0))) r' = some o) ∧ K (.slice (some ⟨r, 0, none⟩) (l.length + new.length) m) st2 := by
  generalize hZ : Builtin.zeroCells z.cells (m - (l.length + new.length)) = Z
  have hzs : Z.toList.length = m - (l.length + new.length) := by rw [← hZ]; simp [Builtin.zeroCells, hzc]
  refine ⟨B.upd r (.cells ((l ++ new) ++ Z.toList).toArray e (0, 0)), ?_, ?_⟩
  · have e1 : (l.toArray ++ new.toArray ++ Z) = ((l ++ new) ++ Z.toList).toArray := by apply Array.ext'; simp
    rw [e1]
    exact Lies.both hT
  · refine h _ _ (.inr ⟨r, Z.toList, lies_none hT hr, ?_, rfl⟩)
    rw [hzs, List.length_append]
    congr 1; omega
/-- A slice of one's own is lengthened, in place or anew: it is one's own. -/
theorem semK_append {P : Program} {t t2 e e2 : TypeId} {z : Value} {B st : PH} {K : Value → PH → Prop} {s : Value} {l new : List Value} {xb : Option Addr} {xc : Nat} (he : tslice P t = some e) (hk : tok P e = true) (hsz : tsz P e = 1) (hz : tzero P e = some z) (hzc : z.cells.size = 1)
    (he2 : tslice P t2 = some e2) (hb0 : tby P e ≠ 0) (hb1 : tby P e ≤ 4096) (hlen : l.length + new.length ≤ 4294967296) (ho : Own B s e l st) (hx : Reads B xb new) (hn : new.all Value.oneCell = true)
    (h : ∀ v s', Own B v e (l ++ new) s' → K v s') : SemK P (Builtin.append_ [t, t2].toArray 0 [s, .slice xb new.length xc].toArray) st K := by
  refine swp_forget (swp_of_awp ?_)
  rcases ho with ⟨rfl, rfl, rfl⟩ | ⟨r, junk, hr, rfl, rfl⟩
  · by_cases hnew : new.length = 0
    · have hn0 : new = [] := List.eq_nil_of_length_eq_zero hnew
      subst hn0
      unfold Builtin.append_
      show awp P (underlying t >>= _) st _
      rw [awp_bind, awp_underlying (tslice_und he)]
      show awp P (sizeOf e >>= _) st _
      rw [awp_bind, awp_sizeOf hk, hsz]
      show awp P (_ >>= _) st _
      rw [awp_bind]
      show awp P (underlying t2) st _
      rw [awp_underlying (tslice_und he2)]
      show awp P (pure false >>= _) st _
      rw [awp_bind, awp_pure]
      cases xb with
      | none => exact ⟨st, fun _ _ h => h, h _ _ (.inl ⟨rfl, rfl, rfl⟩)⟩
      | some y => exact ⟨st, fun _ _ h => h, h _ _ (.inl ⟨rfl, rfl, rfl⟩)⟩
    · exact app_new (old := []) he hk hsz hz he2 hb0 hb1 hlen (by simp; omega) (by simp) (.inl rfl) hx fun r m h1 h2 => own_new (l := []) hzc h (Lies.refl _) h1 h2
  · by_cases hroom : new.length ≤ junk.length
    · refine app_old (a := ⟨r, 0, none⟩) he hk hsz he2 (by omega) (hx.lies (lies_upd hr)) hn (PH.upd_same ..) rfl (by simp; omega) ?_
      refine ⟨_, fun _ _ h => h, h _ _ (.inr ⟨r, junk.drop new.length, hr, ?_, ?_⟩)⟩
      · rw [List.length_append, List.length_drop]; congr 1; omega
      · rw [PH.upd_upd]
        have := spl_app new l junk hroom
        simp only [Nat.zero_add]
        rw [this]
    · refine app_new (old := l) he hk hsz hz he2 hb0 hb1 hlen (by omega) (by omega) (.inr ⟨⟨r, 0, none⟩, rfl, fun i hi => ?_⟩) (hx.lies (lies_upd hr)) fun r' m h1 h2 => own_new hzc h (lies_upd hr) h1 h2
      rw [add_off _ rfl]
      unfold PH.cell?
      rw [PH.upd_same]
      simp [List.getElem?_append_left hi]
theorem first_cells {P : Program} {st : PH} (a : Option Addr) (n c : Nat) (l : List Value) (Q : Array Value → PH → Prop) (hr : Reads st a l) (q : Q l.toArray st) : awp P (Builtin.firstCells 1 l.length (.slice a n c)) st Q := by
  rcases hr with rfl | ⟨y, rfl, hy⟩
  · cases a with
    | none => exact q
    | some y => exact q
  · show awp P (loadCellsFrom y 0 (l.length * 1) #[]) st Q
    rw [Nat.mul_one]
    exact awp_loadCells l 0 #[] (fun j hj => by rw [Nat.zero_add]; exact hy j hj) (by simpa using q)
/-- Cells are copied. -/
theorem semK_copy {P : Program} {t t2 e : TypeId} {st : PH} {K : Value → PH → Prop} {a : Addr} {xb : Option Addr} {dLen dCap n xc : Nat} {new : List Value} {c : Array Value} {e' : TypeId} (he : tslice P t = some e) (hk : tok P e = true) (hsz : tsz P e = 1)
    (hl : new.length = Nat.min n dLen) (hx : Reads st xb new) (hn : new.all Value.oneCell = true) (hb : st a.block = some (.cells c e' (0, 0))) (hs : a.spot = none) (hc : a.off + new.length ≤ c.size)
    (h : K (.int .i64 new.length) (st.upd a.block (.cells (spl c a.off new) e' (0, 0)))) : SemK P (Builtin.copy_ [t, t2].toArray 0 [.slice (some a) dLen dCap, .slice xb n xc].toArray) st K := by
  refine swp_of_awp ?_
  unfold Builtin.copy_
  show awp P (underlying t >>= _) st K
  rw [awp_bind, awp_underlying (tslice_und he)]
  show awp P (Builtin.lenOf (.slice xb n xc) >>= _) st K
  rw [awp_bind]
  show awp P (sizeOf e >>= _) st K
  rw [awp_bind, awp_sizeOf hk, hsz]
  show awp P (Builtin.firstCells 1 (Nat.min n dLen) (.slice xb n xc) >>= _) st K
  rw [awp_bind, ← hl]
  refine first_cells xb n xc new _ hx ?_
  show awp P (storeCells a new >>= _) st K
  rw [awp_bind]
  refine storeCells_ok hs new 0 st c hb (by simpa using hc) hn ?_
  exact h
theorem zeroCells_one (v : Value) (n : Nat) : Builtin.zeroCells #[v] n = (List.replicate n v).toArray := by
  unfold Builtin.zeroCells
  apply Array.ext
  · simp
  · intro i h1 h2; simp [Nat.mod_one]
/-- Cells are cleared. -/
theorem semK_clear {P : Program} {t e : TypeId} {z v : Value} {st : PH} {K : Value → PH → Prop} {a : Addr} {n cap : Nat} {c : Array Value} {e' : TypeId} (he : tslice P t = some e) (hz : tzero P e = some z) (hv : z.cells = #[v]) (h1 : Value.oneCell v = true)
    (hb : st a.block = some (.cells c e' (0, 0))) (hs : a.spot = none) (hc : a.off + n ≤ c.size)
    (h : K (.tuple #[]) (st.upd a.block (.cells (spl c a.off (List.replicate n v)) e' (0, 0)))) : SemK P (Builtin.clear_ [t].toArray 0 [.slice (some a) n cap].toArray) st K := by
  refine swp_of_awp ?_
  unfold Builtin.clear_
  show awp P (underlying t >>= _) st K
  rw [awp_bind, awp_underlying (tslice_und he)]
  cases n with
  | zero =>
    have e1 : st.upd a.block (.cells (spl c a.off (List.replicate 0 v)) e' (0, 0)) = st := by
      rw [show spl c a.off (List.replicate 0 v) = c from rfl]; exact PH.upd_self st hb
    rw [e1] at h
    exact h
  | succ n =>
    show awp P (zeroValue e >>= _) st K
    rw [awp_bind, awp_zeroValue hz]
    show awp P (storeCells a (Builtin.zeroCells z.cells (n + 1)).toList >>= _) st K
    rw [awp_bind, hv, zeroCells_one]
    refine storeCells_ok hs (List.replicate (n + 1) v) 0 st c hb (by simpa using hc) ?_ ?_
    · rw [List.all_eq_true]; intro x hx; rw [(List.mem_replicate.1 hx).2]; exact h1
    · exact h
end Go.Proofs.Ytddnhjmogomimaa.Ae
