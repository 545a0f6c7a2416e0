/- slices.SortFunc over a slice of one's own: what it had, in the order's order; no condition beyond the ones that each theorem names. -/
import Derived.Test.YtfmfkablbaoofaaFmKillNodes
import Derived.Shelf.SlSortCmp.NoneTotal
set_option linter.unusedVariables false
set_option linter.unusedSimpArgs false
namespace Go.Proofs.Ytfmfkablbaoofaa.Ae
open Go Go.Sort Go.Proofs
theorem grow_of_next {W w' : World} {st' : PH} (n : Next (fun _ => none) W st' w') : ∃ q os', w' = grow (W.drewN q) os' := by
  refine ⟨w'.drawn - W.drawn, w'.heap.extract W.heap.size w'.heap.size, ?_⟩
  have h1 := n.os; have h2 := n.tape; have h3 := n.output; have h4 := n.drawn; have h5 := n.size
  obtain ⟨heap, tape, drawn, os, output⟩ := w'
  obtain ⟨heap0, tape0, drawn0, os0, output0⟩ := W
  simp only at h1 h2 h3 h4 h5
  subst h1; subst h2; subst h3
  unfold grow World.drewN
  simp only
  have e : heap = heap0 ++ heap.extract heap0.size heap.size := by
    apply Array.ext_getElem?
    intro i
    by_cases hi : i < heap0.size
    · rw [Array.getElem?_append_left hi]
      exact (n.rest i hi rfl).2
    · rw [Array.getElem?_append_right (by omega), Array.getElem?_extract]
      by_cases h : i < heap.size
      · rw [if_pos (by omega)]; congr 1; omega
      · rw [if_neg (by omega), Array.getElem?_eq_none (by omega)]
  rw [← e]
  congr 1
  omega
theorem flK_at {α : Type} [Inhabited α] {enc : α → List Value} {k : Nat} (hk : ∀ x, (enc x).length = k) : ∀ (l : List α) (t : Nat), t < l.length * k → (fl enc l)[t]? = (enc l[t / k]!)[t % k]? := by
  intro l
  induction l with
  | nil => intro t h; simp at h
  | cons x l ih =>
    intro t h
    have k0 : 0 < k := by rcases Nat.eq_zero_or_pos k with h0 | h0; · subst h0; simp at h
                          · exact h0
    show (enc x ++ fl enc l)[t]? = _
    by_cases ht : t < k
    · rw [List.getElem?_append_left (by rw [hk]; exact ht), Nat.div_eq_of_lt ht, Nat.mod_eq_of_lt ht]; rfl
    · rw [List.getElem?_append_right (by rw [hk]; omega), hk, ih (t - k) (by rw [List.length_cons, Nat.add_mul] at h; omega)]
      have e1 : t / k = (t - k) / k + 1 := by
        have := Nat.add_div_right (t - k) k0
        rw [Nat.sub_add_cancel (by omega)] at this; exact this
      have e2 : t % k = (t - k) % k := by
        have := Nat.add_mod_right (t - k) k
        rw [Nat.sub_add_cancel (by omega)] at this; exact this
      rw [e1, e2]; rfl
theorem flat_get {α : Type} [Inhabited α] {enc : α → List Value} {k : Nat} (hk : ∀ x, (enc x).length = k) (l : List α) (t : Nat) (h : t < l.length * k) : (fl enc l)[t]? = some (flatK enc k l.toArray)[t]! := by
  have k0 : 0 < k := by rcases Nat.eq_zero_or_pos k with h0 | h0; · subst h0; simp at h
                        · exact h0
  rw [get_flatK _ _ _ _ (by simpa using h), flK_at hk l t h]
  have e : (l.toArray)[t / k]! = l[t / k]! := by simp
  rw [e]
  have hm : t % k < (enc l[t / k]!).length := by rw [hk]; exact Nat.mod_lt _ k0
  rw [getElem!_pos (enc l[t / k]!) (t % k) hm, List.getElem?_eq_getElem hm]
theorem modify_get {h : Array Obj} {q i : Nat} {f : Obj → Obj} : (h.modify q f)[i]? = if q = i then (h[i]?).map f else h[i]? := Array.getElem?_modify
theorem sort_sat {P : Program} {ρ : Go.Shelf.Ren} {α : Type} [Inhabited α] (L : SlLaysF0.n6 P ρ) (k : Nat) (aE : ∀ w, (isAgg (ρ.t 24)).run P w = .ok true w) (zE : ∀ w, (Go.sizeOf (ρ.t 24)).run P w = .ok k w) (enc : α → List Value) (hk : ∀ x, (enc x).length = k) (h1 : ∀ x, ∀ v ∈ enc x, v.oneCell' = true)
    (cf : α → α → Int) (hO : SWO (ltOf cf)) (g : Nat) (eg : ∀ args w, (callFunc g args).run P w = .ok (.enter g args) w) (hcmp : ∀ x y, ACalls P g #[.agg (enc x).toArray, .agg (enc y).toArray] (fun _ => none) fun v _ => v = .int .i64 (cf x y))
    {a : Option Addr} {n cap : Nat} {e : TypeId} {l : List α} {Lh : List HA} {st : PH} (hS : Sat (SlB a n cap e k (fl enc l) :: Lh) st) (hn : l.length = n) (hsz : n ≤ 1000000) :
    ACalls P (ρ.f 6) #[.slice a n cap, .func (.func g) #[] #[]] st fun v s => v = .tuple #[] ∧ ∃ l', l'.Perm l ∧ l'.Pairwise (fun x y => ltOf cf y x = false) ∧ Sat (SlB a n cap e k (fl enc l') :: Lh) s := by
  intro w hs
  rcases Nat.eq_zero_or_pos n with h0 | hpos
  · subst h0
    have hl := List.eq_nil_of_length_eq_zero hn
    subst hl
    refine (AnyF.slices_SortFunc_none L a cap _ w).mono ?_
    rintro e' w' ⟨rfl, rfl⟩
    exact ⟨_, st, rfl, ⟨rfl, [], List.Perm.refl _, List.Pairwise.nil, hS⟩, Next.refl hs⟩
  · obtain ⟨x, b, d, hA, hL, rfl⟩ := hS
    rcases hA with ⟨_, h2, _⟩ | ⟨q, pre, junk, rfl, g1, g2, g3, g4⟩
    · omega
    subst hn
    have hq : uni x b q = some (.cells (pre ++ fl enc l ++ junk).toArray e (0, 0)) := uni_some g4
    have hw : w.heap[q]? = some (.cells (pre ++ fl enc l ++ junk).toArray e (0, 0)) := hs q _ hq
    have hlt : q < w.heap.size := hs.lt hq
    have fz : ∀ off, w.frozen? ⟨q, off, none⟩ = false := fun off => by
      unfold World.frozen?
      simp only [hw]
      simp
    have cl : ∀ t, t < l.length * k → w.cell? ⟨q, pre.length + t, none⟩ = some (flatK enc k l.toArray)[t]! := fun t ht => by
      unfold World.cell?
      simp only [hw]
      show (pre ++ fl enc l ++ junk).toArray[pre.length + t]? = _
      rw [mid_get (by omega), flat_get hk l t ht]
    have hH : HoldsK enc k w q pre.length l.toArray := fun j hj => by
      have hj' : j < l.length * k := by simpa using hj
      exact ⟨cl j hj', fz _⟩
    have hC : CmpLays P g #[] enc k cf q pre.length l.toArray.size w := fun m os dk _ x y => by
      refine (hcmp x y _ (fun r o h => by cases h)).mono ?_
      rintro e' w' ⟨v, st', rfl, rfl, hn⟩
      exact ⟨rfl, grow_of_next hn⟩
    have hlen : l.toArray.size = l.length := by simp
    have key := AnyQ.slices_SortFunc L k aE zE enc hk h1 cf hO g #[] q pre.length cap l.toArray w eg hC hH hlt (by rw [hlen]; omega)
    rw [hlen] at key
    refine key.mono ?_
    rintro e' w' ⟨rfl, d', nn, os, hp, hsrt, rfl⟩
    obtain ⟨p1, p2, p3⟩ := hp
    have hdl : d'.size = l.length := by rw [p1, hlen]
    have p3' : d'.toList.Perm l := by
      have e1 : d'.extract 0 l.length = d' := by rw [← hdl]; simp
      have e2 : l.toArray.extract 0 l.length = l.toArray := by simp
      rw [e1, e2] at p3
      simpa using p3
    have hpw : d'.toList.Pairwise (fun x y => ltOf cf y x = false) := by
      rw [List.pairwise_iff_getElem]
      intro i j hi hj hij
      have hj2 : j < d'.size := by simpa using hj
      have := hsrt i j (Nat.zero_le _) hij (by omega)
      simpa [getElem!_pos, show i < d'.size by simpa using hi, show j < d'.size by simpa using hj] using this
    have hfl : (fl enc d'.toList).length = (fl enc l).length := by rw [fl_length hk, fl_length hk]; simp [hdl]
    have hcells : putCells id pre.length (flatK enc k d') (pre ++ fl enc l ++ junk).toArray = (pre ++ fl enc d'.toList ++ junk).toArray := by
      apply Array.ext_getElem?
      intro i
      unfold putCells
      rw [Array.getElem?_mapIdx, size_flatK, hdl]
      by_cases h1' : i < pre.length
      · simp only [List.getElem?_toArray]
        rw [List.append_assoc, List.append_assoc, List.getElem?_append_left h1', List.getElem?_append_left h1', List.getElem?_eq_getElem h1', Option.map_some, if_neg (by omega)]
      · obtain ⟨t, rfl⟩ : ∃ t, i = pre.length + t := ⟨i - pre.length, by omega⟩
        by_cases h2' : t < l.length * k
        · rw [mid_get (by omega), mid_get (by rw [fl_length hk]; simpa [hdl] using h2'), flat_get hk l t h2', Option.map_some, if_pos (by omega), Nat.add_sub_cancel_left]
          have := flat_get hk d'.toList t (by simpa [hdl] using h2')
          rw [this]; simp
        · simp only [List.getElem?_toArray]
          rw [List.append_assoc, List.append_assoc, List.getElem?_append_right (by omega), List.getElem?_append_right (by omega), Nat.add_sub_cancel_left, List.getElem?_append_right (by omega), List.getElem?_append_right (by rw [hfl]; omega), hfl]
          rw [Nat.add_sub_cancel_left]
          cases (junk[t - (fl enc l).length]?) with
          | none => rfl
          | some v => rw [Option.map_some, if_neg (by omega)]
    have hheap : ∀ i, i < w.heap.size → (sortWorldK enc k w q pre.length nn d' os).heap[i]? = if q = i then some (.cells (pre ++ fl enc d'.toList ++ junk).toArray e (0, 0)) else w.heap[i]? := by
      intro i hi
      show ((w.heap.modify q (onCells (putCells id pre.length (flatK enc k d')))) ++ os)[i]? = _
      rw [Array.getElem?_append_left (by rw [Array.size_modify]; exact hi), modify_get]
      by_cases hqi : q = i
      · rw [if_pos hqi, if_pos hqi, ← hqi, hw, Option.map_some]
        show some (Obj.cells (putCells id pre.length (flatK enc k d') (pre ++ fl enc l ++ junk).toArray) e (0, 0)) = _
        rw [hcells]
      · rw [if_neg hqi, if_neg hqi]
    have hS2 : Sat (Pt q (.cells (pre ++ fl enc l ++ junk).toArray e (0, 0)) :: Lh) (uni x b) := ⟨x, b, d, g4, hL, rfl⟩
    refine ⟨_, (uni x b).upd q (.cells (pre ++ fl enc d'.toList ++ junk).toArray e (0, 0)), rfl, ⟨rfl, d'.toList, p3', hpw, ?_⟩, ?_⟩
    · exact sat_imp (fun s hs => .inr ⟨q, pre, junk, rfl, by rw [hfl]; exact g1, by rw [hfl]; exact g2, g3, hs⟩) (sat_upd hS2)
    · refine ⟨fun r o h => ?_, rfl, rfl, rfl, Nat.le_add_right _ _, ?_, fun i hi hnone => ?_⟩
      · by_cases hr : r = q
        · subst hr
          rw [PH.upd_same] at h
          rw [hheap r hlt, if_pos rfl]; exact h
        · rw [PH.upd_ne _ _ hr] at h
          rw [hheap r (hs.lt h), if_neg (fun e => hr e.symm)]
          exact hs r o h
      · show w.heap.size ≤ ((w.heap.modify q _) ++ os).size
        rw [Array.size_append, Array.size_modify]; omega
      · have hne : ¬ i = q := fun e => by rw [e, hq] at hnone; cases hnone
        exact ⟨by rw [PH.upd_ne _ _ hne]; exact hnone, by rw [hheap i hi, if_neg (fun e => hne e.symm)]⟩
end Go.Proofs.Ytfmfkablbaoofaa.Ae
