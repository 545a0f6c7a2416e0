/- Append to a slice of one's own, elements of any number of cells; no condition beyond the ones that the theorem names. -/
import Derived.Test.YtfmfkablbaoofaaSpKillNodes
set_option linter.unusedVariables false
set_option linter.unusedSimpArgs false
namespace Go.Proofs.Ytfmfkablbaoofaa.Ae
open Go
theorem first_cellsN {P : Program} {st : PH} {a : Option Addr} {sz n k c : Nat} {l : List Value} {Q : Array Value → PH → Prop} (hr : Reads st a l) (hl : l.length = n * sz) (q : Q l.toArray st) : awp P (Builtin.firstCells sz n (.slice a k c)) st Q := by
  rcases hr with rfl | ⟨y, rfl, hy⟩
  · cases a with
    | none => exact q
    | some y =>
      show awp P (loadCellsFrom y 0 (n * sz) #[]) st Q
      rw [← hl]
      exact q
  · show awp P (loadCellsFrom y 0 (n * sz) #[]) st Q
    rw [← hl]
    exact awp_loadCells l 0 #[] (fun j hj => by rw [Nat.zero_add]; exact hy j hj) (by simpa using q)
theorem app_newN {P : Program} {t t2 e e2 : TypeId} {z : Value} {st : PH} {K : Value → PH → Prop} {base xb : Option Addr} {n m sz sCap xc : Nat} {old new : List Value} (he : tslice P t = some e) (hk : tok P e = true) (hsz : tsz P e = sz) (hz : tzero P e = some z)
    (he2 : tslice P t2 = some e2) (hb0 : tby P e ≠ 0) (hb1 : tby P e ≤ 4096) (hlen : n + m ≤ 4294967296) (hcap : sCap < n + m) (ho : Reads st base old) (hol : old.length = n * sz) (hx : Reads st xb new) (hnl : new.length = m * sz)
    (h : ∀ r c, st r = none → n + m ≤ c → K (.slice (some ⟨r, 0, none⟩) (n + m) c) (st.upd r (.cells (old.toArray ++ new.toArray ++ Builtin.zeroCells z.cells (c - (n + m))) e (0, 0)))) :
    awp P (Builtin.append_ #[t, t2] 0 #[.slice base n sCap, .slice xb m xc]) st K := by
  obtain ⟨x, hx0⟩ := Option.isSome_iff_exists.1 hk
  have hb : x.bytes = tby P e := by unfold tby; rw [hx0]; rfl
  unfold Builtin.append_
  show awp P (underlying t >>= _) st K
  rw [awp_bind, awp_underlying (tslice_und he)]
  show awp P (sizeOf e >>= _) st K
  rw [awp_bind, awp_sizeOf hk, hsz]
  show awp P (_ >>= _) st K
  rw [awp_bind]
  show awp P (underlying t2) st _
  rw [awp_underlying (tslice_und he2)]
  show awp P (pure false >>= _) st K
  rw [awp_bind, awp_pure]
  simp only [Bool.false_eq_true, if_false, Bool.not_false, if_true]
  show awp P (Builtin.lenOf (.slice xb m xc) >>= _) st K
  rw [awp_bind]
  show awp P (if n + m ≤ sCap then _ else _) st K
  rw [if_neg (by omega)]
  show awp P (typeInfo e >>= _) st K
  rw [awp_bind, awp_typeInfo hx0]
  have hmax : IntKind.i64.max = 9223372036854775807 := rfl
  show awp P (if _ ∧ _ then _ else _) st K
  rw [if_neg (by rintro ⟨h1, _⟩; omega)]
  show awp P (typeInfo e >>= _) st K
  rw [awp_bind, awp_typeInfo hx0]
  have hc := nextcap_le hcap
  have hmul : Builtin.nextslicecap (n + m) sCap * x.bytes ≤ (2 * 4294967296 + 768) * 4096 := Nat.mul_le_mul (by omega) (by omega)
  show awp P (if _ > _ then _ else _) st K
  rw [if_neg (by omega)]
  show awp P (choose _ >>= _) st K
  rw [awp_bind]
  show (if (Question.appendCap _ _ _).forced = true then _ else _)
  rw [if_neg (by simp [Question.forced])]
  intro tt
  have hm : n + m ≤ (Question.appendCap (n + m) sCap e).cut tt := Nat.le_add_right ..
  generalize (Question.appendCap (n + m) sCap e).cut tt = c at hm ⊢
  show awp P (typeInfo e >>= _) st K
  rw [awp_bind, awp_typeInfo hx0]
  have room : ∀ (b : Nat) (s : Sem Value) (R : Value → PH → Prop), awp P s st R → awp P (askRoom b >>= fun _ => s) st R := by
    intro b s R hs
    unfold askRoom
    rw [awp_bind]
    split <;> exact hs
  refine room _ _ _ ?_
  show awp P (Builtin.firstCells sz n (.slice base n sCap) >>= _) st K
  rw [awp_bind]
  refine first_cellsN ho hol ?_
  show awp P (Builtin.firstCells sz m (.slice xb m xc) >>= _) st K
  rw [awp_bind]
  refine first_cellsN hx hnl ?_
  show awp P (zeroValue e >>= _) st K
  rw [awp_bind, awp_zeroValue hz]
  show awp P (newRow e _ >>= _) st K
  rw [awp_bind]
  exact awp_newRow fun r hr => h r c hr hm
theorem app_oldN {P : Program} {t t2 e e2 : TypeId} {st : PH} {K : Value → PH → Prop} {a : Option Addr} {xb : Option Addr} {n m sz sCap xc : Nat} {new : List Value} (he : tslice P t = some e) (hk : tok P e = true) (hsz : tsz P e = sz)
    (he2 : tslice P t2 = some e2) (hle : n + m ≤ sCap) (hx : Reads st xb new) (hnl : new.length = m * sz) (hn : new.all Value.oneCell = true)
    (h : (new = [] ∧ K (.slice a (n + m) sCap) st) ∨ ∃ b c e', a = some b ∧ st b.block = some (.cells c e' (0, 0)) ∧ b.spot = none ∧ b.off + n * sz + new.length ≤ c.size ∧ K (.slice a (n + m) sCap) (st.upd b.block (.cells (spl c (b.off + n * sz) new) e' (0, 0)))) :
    awp P (Builtin.append_ #[t, t2] 0 #[.slice a n sCap, .slice xb m xc]) st K := by
  unfold Builtin.append_
  show awp P (underlying t >>= _) st K
  rw [awp_bind, awp_underlying (tslice_und he)]
  show awp P (sizeOf e >>= _) st K
  rw [awp_bind, awp_sizeOf hk, hsz]
  show awp P (_ >>= _) st K
  rw [awp_bind]
  show awp P (underlying t2) st _
  rw [awp_underlying (tslice_und he2)]
  show awp P (pure false >>= _) st K
  rw [awp_bind, awp_pure]
  simp only [Bool.false_eq_true, if_false, Bool.not_false, if_true]
  show awp P (Builtin.lenOf (.slice xb m xc) >>= _) st K
  rw [awp_bind]
  show awp P (if n + m ≤ sCap then _ else _) st K
  rw [if_pos hle]
  show awp P (Builtin.firstCells sz m (.slice xb m xc) >>= _) st K
  rw [awp_bind]
  refine first_cellsN hx hnl ?_
  rcases h with ⟨rfl, h⟩ | ⟨b, c, e', rfl, hb, hs, hc, h⟩
  · cases a with
    | none => exact h
    | some b => exact h
  · show awp P (storeCells (b.add (n * sz)) new >>= _) st K
    rw [awp_bind, add_off b hs]
    refine storeCells_ok (a := ⟨b.block, b.off + n * sz, none⟩) rfl new 0 st c hb (by simpa using hc) hn ?_
    exact h
/-- A slice of one's own is lengthened, in place or anew. -/
theorem semK_app {P : Program} {t t2 e e2 : TypeId} {z : Value} {st : PH} {K : Value → PH → Prop} {a xb : Option Addr} {n m cap sz xc : Nat} {cs new : List Value} {L : List HA} (he : tslice P t = some e) (hk : tok P e = true) (hsz : tsz P e = sz) (hz : tzero P e = some z) (hzc : z.cells.size = sz)
    (he2 : tslice P t2 = some e2) (hb0 : tby P e ≠ 0) (hb1 : tby P e ≤ 4096) (hlen : n + m ≤ 4294967296) (ho : Sat (SlB a n cap e sz cs :: L) st) (hx : Reads st xb new) (hnl : new.length = m * sz) (hn : new.all Value.oneCell = true)
    (h : ∀ a' cap' s', Sat (SlB a' (n + m) cap' e sz (cs ++ new) :: L) s' → K (.slice a' (n + m) cap') s') : SemK P (Builtin.append_ [t, t2].toArray 0 [.slice a n cap, .slice xb m xc].toArray) st K := by
  refine swp_of_awp ?_
  by_cases hle : n + m ≤ cap
  · refine app_oldN he hk hsz he2 hle hx hnl hn ?_
    have ho' := ho
    obtain ⟨x, b, d, hA, hL, rfl⟩ := ho
    rcases hA with ⟨rfl, rfl, rfl⟩ | ⟨q, pre, junk, rfl, h1, h2, h3, h4⟩
    · have : m = 0 := by omega
      subst this
      have hn0 : new = [] := List.eq_nil_of_length_eq_zero (by simpa using hnl)
      subst hn0
      exact .inl ⟨rfl, h _ _ _ (by simpa using ho')⟩
    · have hS : Sat (Pt q (.cells (pre ++ cs ++ junk).toArray e (0, 0)) :: L) (uni x b) := ⟨x, b, d, h4, hL, rfl⟩
      have hml : (n + m) * sz ≤ cap * sz := Nat.mul_le_mul_right _ hle
      rw [Nat.add_mul] at hml
      have hj : new.length ≤ junk.length := by omega
      refine .inr ⟨_, _, _, rfl, sat_pt hS, rfl, by simp; omega, h _ _ _ ?_⟩
      have e1 : spl (pre ++ cs ++ junk).toArray (pre.length + n * sz) new = (pre ++ (cs ++ new) ++ junk.drop new.length).toArray := by
        have := spl_app new (pre ++ cs) junk hj
        rw [List.length_append, h1] at this
        rw [this]; simp
      have hS2 := sat_upd (o' := .cells (pre ++ (cs ++ new) ++ junk.drop new.length).toArray e (0, 0)) hS
      rw [e1]
      refine sat_imp (fun s hs => .inr ⟨q, pre, junk.drop new.length, rfl, ?_, ?_, by omega, hs⟩) hS2
      · rw [List.length_append, Nat.add_mul]; omega
      · simp; omega
  · refine app_newN he hk hsz hz he2 hb0 hb1 hlen (by omega) (slb_reads ho) (sat_slb_len ho).1 hx hnl fun r c hr hc => h _ _ _ ?_
    have hl := (sat_slb_len ho).1
    generalize hZ : Builtin.zeroCells z.cells (c - (n + m)) = Z
    have hzs : Z.toList.length = (c - (n + m)) * sz := by rw [← hZ]; simp [Builtin.zeroCells, hzc]
    have e1 : cs.toArray ++ new.toArray ++ Z = ((cs ++ new) ++ Z.toList).toArray := by apply Array.ext'; simp
    rw [e1]
    refine sat_slb_new (by rw [List.length_append, Nat.add_mul]; omega) ?_ hc (sat_new hr (sat_drop ho))
    rw [hzs, List.length_append, hl, hnl, ← Nat.add_mul, ← Nat.add_mul]
    congr 1; omega
/-- The same, what is added being a block of its own, that is dropped. -/
theorem semK_app1 {P : Program} {t t2 e e2 : TypeId} {z : Value} {st : PH} {K : Value → PH → Prop} {a : Option Addr} {p n m cap sz xc : Nat} {cs new : List Value} {e' : TypeId} {f : Nat × Nat} {L L1 L2 : List HA} (he : tslice P t = some e) (hk : tok P e = true) (hsz : tsz P e = sz) (hz : tzero P e = some z) (hzc : z.cells.size = sz)
    (he2 : tslice P t2 = some e2) (hb0 : tby P e ≠ 0) (hb1 : tby P e ≤ 4096) (hlen : n + m ≤ 4294967296) (hS : Sat L st) (p1 : Pick (SlB a n cap e sz cs) L L1) (p2 : Pick (Pt p (.cells new.toArray e' f)) L1 L2) (hnl : new.length = m * sz) (hn : new.all Value.oneCell = true)
    (h : ∀ a' cap' s', Sat (SlB a' (n + m) cap' e sz (cs ++ new) :: L2) s' → K (.slice a' (n + m) cap') s') : SemK P (Builtin.append_ [t, t2].toArray 0 [.slice a n cap, .slice (some ⟨p, 0, none⟩) m xc].toArray) st K := by
  have h1 := sat_pick p1 hS
  refine semK_app he hk hsz hz hzc he2 hb0 hb1 hlen h1 (.inr ⟨_, rfl, fun j hj => ?_⟩) hnl hn (fun a' c' s' hS' => h a' c' s' (sat_tail (fun _ h => sat_drop (sat_pick p2 h)) hS'))
  have hp := sat_pt (sat_pick (.there p2) h1)
  rw [cell_off hp]; simp
end Go.Proofs.Ytfmfkablbaoofaa.Ae
