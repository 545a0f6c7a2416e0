/- Append of so many zeros (append(s, make([]T, n)...)) to a slice of one's own. -/
import Derived.Test.YtlcjhffnbodkoaaSq
set_option linter.unusedVariables false
set_option linter.unusedSimpArgs false
namespace Go.Proofs.Ytlcjhffnbodkoaa.Ae
open Go
theorem zero_cells_len {P : Program} {z : Value} {sz m : Nat} (hzc : z.cells.size = sz) : (Builtin.zeroCells z.cells m).toList.length = m * sz := by simp [Builtin.zeroCells, hzc]
theorem zero_cells_one {z : Value} {m : Nat} (hz : z.cells.toList.all Value.oneCell = true) : (Builtin.zeroCells z.cells m).toList.all Value.oneCell = true := by
  rw [List.all_eq_true] at hz ⊢
  intro x hx
  unfold Builtin.zeroCells at hx
  rw [Array.toList_map, List.mem_map] at hx
  obtain ⟨i, hi, rfl⟩ := hx
  have h0 : 0 < z.cells.size := by
    rcases Nat.eq_zero_or_pos z.cells.size with h | h
    · rw [h] at hi; simp at hi
    · exact h
  have hb : i % z.cells.size < z.cells.size := Nat.mod_lt _ h0
  rw [getElem!_pos z.cells _ hb]
  exact hz _ (by simp [Array.getElem_mem_toList])
section
variable {P : Program} {t t2 e : TypeId} {k2 k3 : IntKind} {z : Value} {st : PH} {K : Value → PH → Prop} {n m sz sCap : Nat}
/-- What append comes to, up to the question whether there is room. -/
theorem app_zero {base : Option Addr} (he : tslice P t = some e) (hk : tok P e = true) (hsz : tsz P e = sz) (hz : tzero P e = some z) (hzc : z.cells.size = sz)
    (he2 : tint P t2 = some k2) (hb0 : tby P e ≠ 0) (hb1 : tby P e ≤ 4096) (hlen : n + m ≤ 4294967296)
    (hold : n + m ≤ sCap → awp P (do
      if let some a := base then storeCells (a.add (n * sz)) (Builtin.zeroCells z.cells m).toList
      pure (.slice base (n + m) sCap)) st K)
    (hnew : sCap < n + m → ∃ old : List Value, Reads st base old ∧ old.length = n * sz ∧ ∀ r c, st r = none → n + m ≤ c → K (.slice (some ⟨r, 0, none⟩) (n + m) c) (st.upd r (.cells (old.toArray ++ Builtin.zeroCells z.cells m ++ Builtin.zeroCells z.cells (c - (n + m))) e (0, 0)))) :
    awp P (Builtin.append_ #[t, t2] 0 #[.slice base n sCap, .int k3 m]) st K := by
  obtain ⟨x, hx0⟩ := Option.isSome_iff_exists.1 hk
  have hb : x.bytes = tby P e := by unfold tby; rw [hx0]; rfl
  have hw : IntKind.i64.wrap (m : Int) = m := by rw [IntKind.wrap_i64]; omega
  have hmul : (m : Int) * x.bytes ≤ 4294967296 * 4096 := by
    have : m * x.bytes ≤ 4294967296 * 4096 := Nat.mul_le_mul (by omega) (by omega)
    rw [← Int.natCast_mul]; omega
  have happ : ∀ R : Array Value → PH → Prop, R (Builtin.zeroCells z.cells m) st → awp P (if (!true) = true then Builtin.firstCells sz m (.int k3 m) else if m * sz = 0 then pure #[] else do pure (Builtin.zeroCells (← zeroValue e).cells m)) st R := by
    intro R hR
    rw [if_neg (by simp)]
    split
    · rename_i h0
      have : Builtin.zeroCells z.cells m = #[] := by
        apply Array.ext'
        exact List.eq_nil_of_length_eq_zero (by rw [zero_cells_len (P := P) hzc, h0])
      rw [this] at hR; exact hR
    · rw [awp_bind, awp_zeroValue hz]; exact hR
  unfold Builtin.append_
  show awp P (underlying t >>= _) st K
  rw [awp_bind, awp_underlying (tslice_und he)]
  show awp P (sizeOf e >>= _) st K
  rw [awp_bind, awp_sizeOf hk, hsz]
  have hu : P.underlying t2 = some (.int k2) := by
    unfold tint at he2
    split at he2
    · rename_i k hk; rw [hk]; injection he2 with he2; rw [he2]
    · cases he2
  show awp P (underlying t2 >>= _) st K
  rw [awp_bind, awp_underlying hu]
  show awp P (pure true >>= _) st K
  rw [awp_bind, awp_pure]
  simp only [if_true]
  show awp P (asInt (.int k3 m) >>= _) st K
  rw [awp_bind]
  show awp P (if IntKind.i64.wrap (m : Int) < 0 then _ else _) st K
  rw [hw, if_neg (by omega)]
  show awp P (typeInfo e >>= _) st K
  rw [awp_bind, awp_typeInfo hx0]
  show awp P (if (m : Int) * x.bytes > 2 ^ 48 then _ else _) st K
  rw [if_neg (by omega)]
  show awp P (pure (m : Int).toNat >>= _) st K
  rw [awp_bind, awp_pure, Int.toNat_natCast]
  show awp P (if n + m ≤ sCap then _ else _) st K
  by_cases hle : n + m ≤ sCap
  · rw [if_pos hle]
    show awp P ((if (!true) = true then Builtin.firstCells sz m (.int k3 m) else if m * sz = 0 then pure #[] else do pure (Builtin.zeroCells (← zeroValue e).cells m)) >>= _) st K
    rw [awp_bind]
    exact happ _ (hold hle)
  · rw [if_neg hle]
    obtain ⟨old, hr, hol, hK⟩ := hnew (by omega)
    show awp P (typeInfo e >>= _) st K
    rw [awp_bind, awp_typeInfo hx0]
    have hmax : IntKind.i64.max = 9223372036854775807 := rfl
    show awp P (if _ ∧ _ then _ else _) st K
    rw [if_neg (by rintro ⟨h1, _⟩; omega)]
    show awp P (typeInfo e >>= _) st K
    rw [awp_bind, awp_typeInfo hx0]
    have hc := nextcap_le (n := n + m) (c := sCap) (by omega)
    have hmul : Builtin.nextslicecap (n + m) sCap * x.bytes ≤ (2 * 4294967296 + 768) * 4096 := Nat.mul_le_mul (by omega) (by omega)
    show awp P (if _ > _ then _ else _) st K
    rw [if_neg (by omega)]
    show awp P (choose _ >>= _) st K
    rw [awp_bind]
    show (if (Question.appendCap _ _ _).forced = true then _ else _)
    rw [if_neg (by simp [Question.forced])]
    intro tt
    have hm : n + m ≤ (Question.appendCap (n + m) sCap e).cut tt := Nat.le_add_right ..
    generalize (Question.appendCap (n + m) sCap e).cut tt = c at hm ⊢
    show awp P (typeInfo e >>= _) st K
    rw [awp_bind, awp_typeInfo hx0]
    have room : ∀ (b : Nat) (s : Sem Value) (R : Value → PH → Prop), awp P s st R → awp P (askRoom b >>= fun _ => s) st R := by
      intro b s R hs
      unfold askRoom
      rw [awp_bind]
      split <;> exact hs
    refine room _ _ _ ?_
    show awp P (Builtin.firstCells sz n (.slice base n sCap) >>= _) st K
    rw [awp_bind]
    refine first_cellsN hr hol ?_
    show awp P ((if (!true) = true then Builtin.firstCells sz m (.int k3 m) else if m * sz = 0 then pure #[] else do pure (Builtin.zeroCells (← zeroValue e).cells m)) >>= _) st K
    rw [awp_bind]
    refine happ _ ?_
    show awp P (zeroValue e >>= _) st K
    rw [awp_bind, awp_zeroValue hz]
    show awp P (newRow e _ >>= _) st K
    rw [awp_bind]
    exact awp_newRow fun r hr => hK r c hr hm
theorem semK_appZ {a : Option Addr} {cs : List Value} {L : List HA} (he : tslice P t = some e) (hk : tok P e = true) (hsz : tsz P e = sz) (hz : tzero P e = some z) (hzc : z.cells.size = sz) (hzo : z.cells.toList.all Value.oneCell = true)
    (he2 : tint P t2 = some k2) (hb0 : tby P e ≠ 0) (hb1 : tby P e ≤ 4096) (mi : Int) (hm0 : 0 ≤ mi) (hlen : n + mi.toNat ≤ 4294967296) (ho : Sat (SlB a n sCap e sz cs :: L) st)
    (h : ∀ a' cap' s', Sat (SlB a' (n + mi.toNat) cap' e sz (cs ++ (Builtin.zeroCells z.cells mi.toNat).toList) :: L) s' → K (.slice a' (n + mi.toNat) cap') s') : SemK P (Builtin.append_ [t, t2].toArray 0 [.slice a n sCap, .int k3 mi].toArray) st K := by
  obtain ⟨m, rfl⟩ := Int.eq_ofNat_of_zero_le hm0
  rw [Int.toNat_natCast] at h hlen
  have hnl := zero_cells_len (P := P) (m := m) hzc
  have hn := zero_cells_one (z := z) (m := m) hzo
  generalize hnew : Builtin.zeroCells z.cells m = new at h hnl hn
  have hns : new.size = m * sz := by simpa using hnl
  refine swp_of_awp ?_
  refine app_zero he hk hsz hz hzc he2 hb0 hb1 hlen ?_ ?_
  · intro hle
    rw [hnew]
    have ho' := ho
    obtain ⟨x, b, d, hA, hL, rfl⟩ := ho
    rcases hA with ⟨rfl, rfl, rfl⟩ | ⟨q, pre, junk, rfl, h1, h2, h3, h4⟩
    · have : m = 0 := by omega
      subst this
      have hn0 : new.toList = [] := List.eq_nil_of_length_eq_zero (by simpa using hnl)
      rw [hn0] at h
      cases a with
      | none => exact h _ _ _ (by simpa using ho')
      | some b =>
        show awp P (storeCells _ new.toList >>= _) _ K
        rw [hn0]
        exact h _ _ _ (by simpa using ho')
    · have hS : Sat (Pt q (.cells (pre ++ cs ++ junk).toArray e (0, 0)) :: L) (uni x b) := ⟨x, b, d, h4, hL, rfl⟩
      have hml : (n + m) * sz ≤ sCap * sz := Nat.mul_le_mul_right _ hle
      rw [Nat.add_mul] at hml
      have hj : new.toList.length ≤ junk.length := by omega
      show awp P (storeCells _ new.toList >>= _) _ K
      rw [awp_bind, add_off _ rfl]
      refine storeCells_ok (a := ⟨q, pre.length + n * sz, none⟩) rfl new.toList 0 _ _ (sat_pt hS) (by simp; omega) hn ?_
      show K (.slice _ (n + m) sCap) _
      have e1 : spl (pre ++ cs ++ junk).toArray (pre.length + n * sz) new.toList = (pre ++ (cs ++ new.toList) ++ junk.drop new.toList.length).toArray := by
        have := spl_app new.toList (pre ++ cs) junk hj
        rw [List.length_append, h1] at this
        rw [this]; simp
      have hS2 := sat_upd (o' := .cells (pre ++ (cs ++ new.toList) ++ junk.drop new.toList.length).toArray e (0, 0)) hS
      refine h _ _ _ ?_
      show Sat _ ((uni x b).upd q (.cells (spl (pre ++ cs ++ junk).toArray (pre.length + n * sz) new.toList) e (0, 0)))
      rw [e1]
      refine sat_imp (fun s hs => .inr ⟨q, pre, junk.drop new.toList.length, rfl, ?_, ?_, by omega, hs⟩) hS2
      · rw [List.length_append, Nat.add_mul]; omega
      · simp; omega
  · intro hlt
    refine ⟨cs, slb_reads ho, (sat_slb_len ho).1, fun r c hr hc => h _ _ _ ?_⟩
    have hl := (sat_slb_len ho).1
    rw [hnew]
    generalize hZ : Builtin.zeroCells z.cells (c - (n + m)) = Z
    have hzs : Z.toList.length = (c - (n + m)) * sz := by rw [← hZ]; simp [Builtin.zeroCells, hzc]
    have e1 : cs.toArray ++ new ++ Z = ((cs ++ new.toList) ++ Z.toList).toArray := by apply Array.ext'; simp
    rw [e1]
    refine sat_slb_new (by rw [List.length_append, Nat.add_mul]; omega) ?_ hc (sat_new hr (sat_drop ho))
    rw [hzs, List.length_append, hl, hnl, ← Nat.add_mul, ← Nat.add_mul]
    congr 1; omega
end
end Go.Proofs.Ytlcjhffnbodkoaa.Ae
