/- A row of slots, one of which goes or moves: plain laws for SlotsDrop; for all that the lemmas name. -/
import Derived.Test.YthdnajcngnaobaaNmSlotsDrop
set_option linter.unusedVariables false
set_option linter.unusedSimpArgs false
set_option linter.unusedSectionVars false
set_option maxRecDepth 100000
set_option maxHeartbeats 4000000
namespace Go.Proofs.Ythdnajcngnaobaa.Ae
open Go Go.Proofs.Ythdnajcngnaobaa.Bits
theorem below_count {T : List SL} {p : Int × Int} {D : List (Int × Int)} (h : BelowL T p D) (S : List (Int × Int)) (hn : S.Nodup) (h1 : ∀ y ∈ S, y ∈ D) (h2 : ∀ y ∈ D, y ∈ S) : D.length = S.length :=
  Nat.le_antisymm (nodup_len (plt_nodup h.sorted) h2) (nodup_len hn h1)
def dR : Nat → SL
  | 0 => ⟨3, 0, 3, 1, 0, 0, 0, 0, 0⟩
  | j + 1 => ⟨3, j + 1, 3, 1 + (j + 1), 0, 0, 0, 3, j⟩
theorem dR_k (j : Nat) : (dR j).nd = 3 ∧ (dR j).sl = j := by
  cases j with
  | zero => exact ⟨rfl, rfl⟩
  | succ j => exact ⟨rfl, by show (j : Int) + 1 = _; omega⟩
theorem dR_sid (j : Nat) : sid (dR j) = (3, (j : Int)) := Prod.ext (dR_k j).1 (dR_k j).2
theorem dR_lt {j k : Nat} (h : j < k) : slt (dR j) (dR k) := by
  unfold slt
  rw [(dR_k j).1, (dR_k j).2, (dR_k k).1, (dR_k k).2]
  omega
def dT (n : Nat) : List SL := (List.range n).map dR
theorem dT_sorted (n : Nat) : TSorted (dT n) := List.pairwise_map.2 (List.pairwise_lt_range.imp fun h => dR_lt h)
theorem dT_len (n : Nat) : (dT n).length = n := by unfold dT; rw [List.length_map, List.length_range]
theorem dT_mem {n : Nat} {x : SL} : x ∈ dT n ↔ ∃ j, j < n ∧ dR j = x := by
  unfold dT
  rw [List.mem_map]
  constructor
  · rintro ⟨j, h1, h2⟩; exact ⟨j, List.mem_range.1 h1, h2⟩
  · rintro ⟨j, h1, h2⟩; exact ⟨j, List.mem_range.2 h1, h2⟩
theorem dT_get {n j : Nat} (h : j < n) : tget (dT n) (3, (j : Int)) = some (dR j) := (tget_some (dT_sorted n)).2 ⟨dT_mem.2 ⟨j, h, rfl⟩, dR_sid j⟩
/-- What the parent's place is, as a pair: none ahead of the first. -/
def upN : Nat → Int × Int
  | 0 => (0, 0)
  | j + 1 => (3, (j : Int))
theorem dR_par (j : Nat) : par (dR j) = upN j := by cases j <;> rfl
theorem dT_put {i : Nat} (hi : i < 15) : canPut (dT i) (dR i) = true ∧ tput (dT i) (dR i) = dT (i + 1) := by
  have hl : ∀ x ∈ dT i, slt x (dR i) := fun x hx => by
    obtain ⟨j, hj, rfl⟩ := dT_mem.1 hx
    exact dR_lt hj
  have hg : tget (dT i) (sid (dR i)) = none := tget_none.2 fun x hx => slt_ne (hl x hx)
  have hc : canPut (dT i) (dR i) = true := by
    unfold canPut
    rw [hg]
    cases i with
    | zero => decide +kernel
    | succ i =>
      show (canPl 3 ((i : Int) + 1) && (true && (capOK 3 (1 + ((i : Int) + 1)) 0 0 0 && (decide ((3 : Int) = 0 ∧ (i : Int) = 0) || (tget (dT (i + 1)) (3, (i : Int))).isSome)))) = true
      rw [dT_get (Nat.lt_succ_self i), show canPl 3 ((i : Int) + 1) = true from decide_eq_true (by omega), show capOK 3 (1 + ((i : Int) + 1)) 0 0 0 = true from frame_cap (by omega)]
      simp
  refine ⟨hc, ?_⟩
  rw [tput_can hc, tins_last hl]
  unfold dT
  rw [List.range_succ, List.map_append]
  rfl
section
variable {n A : Nat} (hA : A < n) (hn : n ≤ 15)
/-- Those below the one that goes have its parent. -/
def eR (A : Nat) (c d : Int) (j : Nat) : SL := if j = A + 1 then upx (dR j) c d else dR j
theorem eR_sid (A : Nat) (c d : Int) (j : Nat) : sid (eR A c d j) = (3, (j : Int)) := by
  unfold eR
  split
  · exact dR_sid j
  · exact dR_sid j
theorem dT_turn (n A : Nat) (c d : Int) : tturn (dT n) 3 A c d = (List.range n).map (eR A c d) := by
  unfold tturn dT
  rw [List.map_map]
  refine List.map_congr_left fun j _ => ?_
  show (if (dR j).pn = 3 ∧ (dR j).ps = (A : Int) then upx (dR j) c d else dR j) = eR A c d j
  unfold eR
  cases j with
  | zero =>
    rw [if_neg (by show ¬ ((0 : Int) = 3 ∧ _); omega), if_neg (by omega)]
  | succ j =>
    by_cases e : j = A
    · subst e
      rw [if_pos ⟨rfl, rfl⟩, if_pos rfl]
    · rw [if_neg (by show ¬ ((3 : Int) = 3 ∧ (j : Int) = (A : Int)); omega), if_neg (by omega)]
def eT (n A : Nat) (c d : Int) : List SL := tdrop ((List.range n).map (eR A c d)) (3, (A : Int))
theorem eT_sorted (n A : Nat) (c d : Int) : TSorted (eT n A c d) := by
  unfold eT
  rw [← dT_turn]
  exact tdrop_sorted _ (tsorted_ids (tturn_ids ..) (dT_sorted n))
theorem eT_mem {n A : Nat} {c d : Int} {x : SL} : x ∈ eT n A c d ↔ ∃ j, j < n ∧ j ≠ A ∧ eR A c d j = x := by
  unfold eT tdrop
  rw [List.mem_filter, List.mem_map]
  constructor
  · rintro ⟨⟨j, h1, rfl⟩, h2⟩
    refine ⟨j, List.mem_range.1 h1, fun e => ?_, rfl⟩
    have := of_decide_eq_true h2
    rw [eR_sid] at this
    exact this (by rw [e])
  · rintro ⟨j, h1, h2, rfl⟩
    refine ⟨⟨j, List.mem_range.2 h1, rfl⟩, decide_eq_true ?_⟩
    rw [eR_sid]
    intro e
    have := congrArg Prod.snd e
    simp only at this
    omega
theorem eT_get {n A : Nat} {c d : Int} {j : Nat} (h : j < n) (hj : j ≠ A) : tget (eT n A c d) (3, (j : Int)) = some (eR A c d j) := (tget_some (eT_sorted ..)).2 ⟨eT_mem.2 ⟨j, h, hj, rfl⟩, eR_sid ..⟩
theorem eT_gone {n A : Nat} {c d : Int} : tget (eT n A c d) (3, (A : Int)) = none := tget_tdrop_self _ _
theorem eT_len {n A : Nat} {c d : Int} (hA : A < n) : (eT n A c d).length = n - 1 := by
  have h1 : ((eT n A c d).map sid).length = (((List.range n).erase A).map fun j : Nat => ((3 : Int), (j : Int))).length := by
    refine Nat.le_antisymm (nodup_len ?_ ?_) (nodup_len ?_ ?_)
    · exact plt_nodup (List.pairwise_map.2 ((eT_sorted n A c d).imp fun h => slt_plt.1 h))
    · intro y hy
      obtain ⟨x, hx, rfl⟩ := List.mem_map.1 hy
      obtain ⟨j, h1, h2, rfl⟩ := eT_mem.1 hx
      rw [eR_sid]
      exact List.mem_map.2 ⟨j, (List.mem_erase_of_ne h2).2 (List.mem_range.2 h1), rfl⟩
    · refine List.pairwise_map.2 ((List.nodup_range.erase _).imp fun {a b} hab e => hab ?_)
      have := congrArg Prod.snd e
      simp only at this
      omega
    · intro y hy
      obtain ⟨j, hj, rfl⟩ := List.mem_map.1 hy
      obtain ⟨h1, h2⟩ := (List.Nodup.mem_erase_iff List.nodup_range).1 hj
      exact List.mem_map.2 ⟨_, eT_mem.2 ⟨j, List.mem_range.1 h2, h1, rfl⟩, eR_sid ..⟩
  rw [List.length_map, List.length_map, List.length_erase_of_mem (List.mem_range.2 hA), List.length_range] at h1
  exact h1
include hA in
theorem dT_kill : tkill (dT n) (3, (A : Int)) = eT n A (upN A).1 (upN A).2 ∧ (tget (dT n) (3, (A : Int))).isSome = true := by
  unfold tkill
  rw [dT_get hA]
  refine ⟨?_, rfl⟩
  show tdrop (tturn (dT n) 3 (A : Int) (dR A).pn (dR A).ps) (3, (A : Int)) = _
  rw [dT_turn]
  unfold eT
  rw [show (dR A).pn = (upN A).1 from congrArg Prod.fst (dR_par A), show (dR A).ps = (upN A).2 from congrArg Prod.snd (dR_par A)]
/-- What stands above each: the one ahead; behind the one that went what stood above it. -/
theorem eR_par (A : Nat) (c d : Int) (j : Nat) : par (eR A c d j) = if j = A + 1 then (c, d) else upN j := by
  unfold eR
  split
  · rfl
  · exact dR_par j
theorem up_ids {j : Nat} : upN j = (0, 0) ∨ ∃ i : Nat, upN j = (3, (i : Int)) ∧ i + 1 = j := by
  cases j with
  | zero => exact .inl rfl
  | succ j => exact .inr ⟨j, rfl, rfl⟩
include hA in
theorem drop_tree : Tree (eT n A (upN A).1 (upN A).2) := by
  refine ⟨fun x hx => ?_, fun x hx e => ?_, fun k => if k.1 = 3 then k.2.toNat + 1 else 0, fun x hx h => ?_⟩
  · obtain ⟨j, h1, h2, rfl⟩ := eT_mem.1 hx
    rw [eR_par]
    have hin : ∀ i : Nat, i < n → i ≠ A → ((3 : Int), (i : Int)) ∈ (eT n A (upN A).1 (upN A).2).map sid := fun i h3 h4 => List.mem_map.2 ⟨_, eT_mem.2 ⟨i, h3, h4, rfl⟩, eR_sid ..⟩
    split
    · rcases up_ids (j := A) with e | ⟨i, e, hi⟩
      · exact .inl e
      · refine .inr ?_
        show upN A ∈ _
        have hi2 := hin i (by omega) (by omega)
        rw [← e] at hi2
        exact hi2
    · rcases up_ids (j := j) with e | ⟨i, e, hi⟩
      · exact .inl e
      · refine .inr ?_
        rw [e]
        exact hin i (by omega) (by omega)
  · obtain ⟨j, h1, h2, rfl⟩ := eT_mem.1 hx
    rw [eR_sid] at e
    exact absurd (show (3 : Int) = 0 from congrArg Prod.fst e) (by decide)
  · obtain ⟨j, h1, h2, rfl⟩ := eT_mem.1 hx
    rw [eR_sid, eR_par] at *
    have hlt : ∀ i : Nat, i < j → (if ((3 : Int), (i : Int)).1 = 3 then ((3 : Int), (i : Int)).2.toNat + 1 else 0) < (if ((3 : Int), (j : Int)).1 = 3 then ((3 : Int), (j : Int)).2.toNat + 1 else 0) := fun i hi => by
      rw [if_pos rfl, if_pos rfl]
      show (i : Int).toNat + 1 < (j : Int).toNat + 1
      omega
    have h0 : (if ((0 : Int), (0 : Int)).1 = 3 then ((0 : Int), (0 : Int)).2.toNat + 1 else 0) < (if ((3 : Int), (j : Int)).1 = 3 then ((3 : Int), (j : Int)).2.toNat + 1 else 0) := by
      rw [if_neg (by decide), if_pos rfl]
      omega
    split
    · show (if (upN A).1 = 3 then (upN A).2.toNat + 1 else 0) < _
      rcases up_ids (j := A) with e | ⟨i, e, hi⟩
      · rw [e]; exact h0
      · rw [e]; exact hlt i (by omega)
    · rcases up_ids (j := j) with e | ⟨i, e, hi⟩
      · rw [e]; exact h0
      · rw [e]; exact hlt i (by omega)
include hA in
theorem drop_below (h0 : 0 < A) {D : List (Int × Int)} (hD : BelowL (eT n A (upN A).1 (upN A).2) (3, 0) D) : D.length = n - 2 := by
  have hin : ∀ i : Nat, i < n → i ≠ A → eR A (upN A).1 (upN A).2 i ∈ eT n A (upN A).1 (upN A).2 := fun i h3 h4 => eT_mem.2 ⟨i, h3, h4, rfl⟩
  have hz : ((0 : Int), (0 : Int)) ∉ D := fun hm => by
    obtain ⟨x, hx, e⟩ := List.mem_map.1 (hD.sub _ hm)
    exact (drop_tree hA).2.1 x hx e
  have hup : ∀ j : Nat, 0 < j → j < n → j ≠ A → ((3 : Int), (j : Int)) ∈ D := by
    intro j
    induction j using Nat.strongRecOn with
    | _ j ih =>
      intro hj hjn hjA
      have hm := hD.iff _ (hin j hjn hjA)
      rw [eR_sid, eR_par] at hm
      have key : ∀ i : Nat, i < j → i ≠ A → ((3 : Int), (i : Int)) = (3, 0) ∨ ((3 : Int), (i : Int)) ∈ D := fun i hi hiA => by
        rcases Nat.eq_zero_or_pos i with e | e
        · subst e; exact .inl rfl
        · exact .inr (ih i hi e (by omega) hiA)
      refine hm.2 ?_
      split
      · show upN A = (3, 0) ∨ upN A ∈ D
        rcases up_ids (j := A) with e | ⟨i, e, hi⟩
        · obtain ⟨A', rfl⟩ : ∃ A', A = A' + 1 := ⟨A - 1, by omega⟩
          exact absurd (show (3 : Int) = 0 from congrArg Prod.fst e) (by decide)
        · rw [e]; exact key i (by omega) (by omega)
      · rcases up_ids (j := j) with e | ⟨i, e, hi⟩
        · obtain ⟨j', rfl⟩ : ∃ j', j = j' + 1 := ⟨j - 1, by omega⟩
          exact absurd (show (3 : Int) = 0 from congrArg Prod.fst e) (by decide)
        · rw [e]; exact key i (by omega) (by omega)
  have h3 : ((3 : Int), (0 : Int)) ∉ D := fun hm => by
    have h := hD.iff _ (hin 0 (by omega) (by omega))
    rw [eR_sid, eR_par, if_neg (by omega)] at h
    rcases h.1 hm with e | e
    · exact absurd (show (0 : Int) = 3 from congrArg Prod.fst e) (by decide)
    · exact hz e
  have hl := below_count hD ((((List.range n).erase A).erase 0).map fun j : Nat => ((3 : Int), (j : Int))) ?_ ?_ ?_
  · rw [hl, List.length_map, List.length_erase_of_mem ((List.mem_erase_of_ne (by omega)).2 (List.mem_range.2 (by omega))), List.length_erase_of_mem (List.mem_range.2 hA), List.length_range]
    omega
  · refine List.pairwise_map.2 (((List.nodup_range.erase _).erase _).imp fun {a b} hab e => hab ?_)
    have := congrArg Prod.snd e
    simp only at this
    omega
  · intro y hy
    obtain ⟨j, hj, rfl⟩ := List.mem_map.1 hy
    obtain ⟨h1, h2⟩ := (List.Nodup.mem_erase_iff (List.nodup_range.erase _)).1 hj
    obtain ⟨h4, h5⟩ := (List.Nodup.mem_erase_iff List.nodup_range).1 h2
    exact hup j (by omega) (List.mem_range.1 h5) h4
  · intro y hy
    obtain ⟨x, hx, rfl⟩ := List.mem_map.1 (hD.sub y hy)
    obtain ⟨j, h1, h2, rfl⟩ := eT_mem.1 hx
    rw [eR_sid] at hy ⊢
    have hj0 : j ≠ 0 := fun e => by subst e; exact h3 hy
    exact List.mem_map.2 ⟨j, (List.mem_erase_of_ne hj0).2 ((List.mem_erase_of_ne h2).2 (List.mem_range.2 h1)), rfl⟩
/-! ### moved -/
def mR (A : Nat) : SL := ⟨2, 5, (dR A).k, (dR A).o, (dR A).s, (dR A).b, (dR A).r, (upN A).1, (upN A).2⟩
def mT (n A : Nat) : List SL := tins (mR A) (eT n A 2 5)
theorem mT_mem {n A : Nat} {x : SL} : x ∈ mT n A ↔ x = mR A ∨ ∃ j, j < n ∧ j ≠ A ∧ eR A 2 5 j = x := by
  unfold mT
  rw [mem_tins, eT_mem]
theorem mT_new {n A : Nat} : ∀ x ∈ eT n A 2 5, sid x ≠ sid (mR A) := fun x hx e => by
  obtain ⟨j, _, _, rfl⟩ := eT_mem.1 hx
  rw [eR_sid] at e
  exact absurd (show (3 : Int) = 2 from congrArg Prod.fst e) (by decide)
theorem mT_sorted (n A : Nat) : TSorted (mT n A) := tins_sorted (eT_sorted ..) mT_new
theorem mT_get {n A j : Nat} (h : j < n) (hj : j ≠ A) : tget (mT n A) (3, (j : Int)) = some (eR A 2 5 j) := (tget_some (mT_sorted ..)).2 ⟨mT_mem.2 (.inr ⟨j, h, hj, rfl⟩), eR_sid ..⟩
theorem mT_q {n A : Nat} : tget (mT n A) (2, 5) = some (mR A) := (tget_some (mT_sorted ..)).2 ⟨mT_mem.2 (.inl rfl), rfl⟩
include hA in
theorem mT_len : (mT n A).length = n := by
  unfold mT
  rw [tins_length, eT_len hA]
  omega
theorem dT_q (n : Nat) : tget (dT n) (2, 5) = none := tget_none.2 fun x hx e => by
  obtain ⟨j, _, rfl⟩ := dT_mem.1 hx
  rw [dR_sid] at e
  exact absurd (show (3 : Int) = 2 from congrArg Prod.fst e) (by decide)
include hA in
theorem dT_move : tmove (dT n) 3 A 2 5 = mT n A ∧ canMove (dT n) 3 A 2 5 = true := by
  unfold tmove canMove
  rw [dT_get hA, dT_q]
  refine ⟨?_, rfl⟩
  show tmoved (dT n) (dR A) 3 A 2 5 = _
  unfold tmoved mT mR
  rw [dT_turn]
  rw [show (dR A).pn = (upN A).1 from congrArg Prod.fst (dR_par A), show (dR A).ps = (upN A).2 from congrArg Prod.snd (dR_par A)]
  rfl
include hA in
theorem move_tree : Tree (mT n A) := by
  have hin : ∀ i : Nat, i < n → i ≠ A → ((3 : Int), (i : Int)) ∈ (mT n A).map sid := fun i h3 h4 => List.mem_map.2 ⟨_, mT_mem.2 (.inr ⟨i, h3, h4, rfl⟩), eR_sid ..⟩
  have hq : ((2 : Int), (5 : Int)) ∈ (mT n A).map sid := List.mem_map.2 ⟨_, mT_mem.2 (.inl rfl), rfl⟩
  refine ⟨fun x hx => ?_, fun x hx e => ?_, fun k => if k.1 = 3 then 2 * k.2.toNat + 2 else if k.1 = 2 then 2 * A + 1 else 0, fun x hx h => ?_⟩
  · rcases mT_mem.1 hx with rfl | ⟨j, h1, h2, rfl⟩
    · show upN A = (0, 0) ∨ upN A ∈ _
      rcases up_ids (j := A) with e | ⟨i, e, hi⟩
      · exact .inl e
      · have := hin i (by omega) (by omega)
        rw [← e] at this
        exact .inr this
    · rw [eR_par]
      split
      · exact .inr hq
      · rcases up_ids (j := j) with e | ⟨i, e, hi⟩
        · exact .inl e
        · have := hin i (by omega) (by omega)
          rw [← e] at this
          exact .inr this
  · rcases mT_mem.1 hx with rfl | ⟨j, h1, h2, rfl⟩
    · exact absurd (show (2 : Int) = 0 from congrArg Prod.fst e) (by decide)
    · rw [eR_sid] at e
      exact absurd (show (3 : Int) = 0 from congrArg Prod.fst e) (by decide)
  · have f3 : ∀ i : Nat, (fun k : Int × Int => if k.1 = 3 then 2 * k.2.toNat + 2 else if k.1 = 2 then 2 * A + 1 else 0) (3, (i : Int)) = 2 * i + 2 := fun i => by
      show (if (3 : Int) = 3 then 2 * (i : Int).toNat + 2 else _) = _
      rw [if_pos rfl, Int.toNat_natCast]
    have f2 : (fun k : Int × Int => if k.1 = 3 then 2 * k.2.toNat + 2 else if k.1 = 2 then 2 * A + 1 else 0) (2, 5) = 2 * A + 1 := rfl
    have f0 : (fun k : Int × Int => if k.1 = 3 then 2 * k.2.toNat + 2 else if k.1 = 2 then 2 * A + 1 else 0) (0, 0) = 0 := rfl
    rcases mT_mem.1 hx with rfl | ⟨j, h1, h2, rfl⟩
    · rw [show sid (mR A) = (2, 5) from rfl, show par (mR A) = upN A from rfl]
      rcases up_ids (j := A) with e | ⟨i, e, hi⟩
      · rw [e, f0, f2]; omega
      · rw [e, f3, f2]; omega
    · rw [eR_sid, eR_par]
      split
      · rw [f2, f3]; omega
      · rcases up_ids (j := j) with e | ⟨i, e, hi⟩
        · rw [e, f0, f3]; omega
        · rw [e, f3, f3]; omega
include hA in
theorem move_below {D : List (Int × Int)} (hD : BelowL (mT n A) (2, 5) D) : D.length = n - 1 - A := by
  have hz : ((0 : Int), (0 : Int)) ∉ D := fun hm => by
    obtain ⟨x, hx, e⟩ := List.mem_map.1 (hD.sub _ hm)
    exact (move_tree hA).2.1 x hx e
  have hm : ∀ j : Nat, j < n → j ≠ A → (((3 : Int), (j : Int)) ∈ D ↔ (if j = A + 1 then ((2 : Int), (5 : Int)) else upN j) = (2, 5) ∨ (if j = A + 1 then ((2 : Int), (5 : Int)) else upN j) ∈ D) := fun j h1 h2 => by
    have := hD.iff _ (mT_mem.2 (.inr ⟨j, h1, h2, rfl⟩))
    rwa [eR_sid, eR_par] at this
  have hup : ∀ j : Nat, A < j → j < n → ((3 : Int), (j : Int)) ∈ D := by
    intro j
    induction j with
    | zero => intro h; exact absurd h (Nat.not_lt_zero _)
    | succ j ih =>
      intro h1 h2
      refine (hm (j + 1) h2 (by omega)).2 ?_
      by_cases e : j = A
      · rw [if_pos (by omega)]; exact .inl rfl
      · rw [if_neg (by omega)]; exact .inr (ih (by omega) (by omega))
  have hdn : ∀ j : Nat, j < A → ((3 : Int), (j : Int)) ∉ D := by
    intro j
    induction j with
    | zero =>
      intro h1 h2
      have := (hm 0 (by omega) (by omega)).1 h2
      rw [if_neg (by omega)] at this
      rcases this with e | e
      · exact absurd (show (0 : Int) = 2 from congrArg Prod.fst e) (by decide)
      · exact hz e
    | succ j ih =>
      intro h1 h2
      have := (hm (j + 1) (by omega) (by omega)).1 h2
      rw [if_neg (by omega)] at this
      rcases this with e | e
      · exact absurd (show (3 : Int) = 2 from congrArg Prod.fst e) (by decide)
      · exact ih (by omega) e
  have hq : ((2 : Int), (5 : Int)) ∉ D := fun h => by
    rcases (hD.iff _ (mT_mem.2 (.inl rfl))).1 h with e | e
    · have e : upN A = (2, 5) := e
      rcases up_ids (j := A) with e2 | ⟨i, e2, hi⟩
      · rw [e2] at e; exact absurd (show (0 : Int) = 2 from congrArg Prod.fst e) (by decide)
      · rw [e2] at e; exact absurd (show (3 : Int) = 2 from congrArg Prod.fst e) (by decide)
    · have e : upN A ∈ D := e
      rcases up_ids (j := A) with e2 | ⟨i, e2, hi⟩
      · rw [e2] at e; exact hz e
      · rw [e2] at e; exact hdn i (by omega) e
  have hl := below_count hD ((List.range (n - 1 - A)).map fun i : Nat => ((3 : Int), ((A + 1 + i : Nat) : Int))) ?_ ?_ ?_
  · rw [hl, List.length_map, List.length_range]
  · refine List.pairwise_map.2 (List.nodup_range.imp fun {a b} hab e => hab ?_)
    have := congrArg Prod.snd e
    simp only at this
    omega
  · intro y hy
    obtain ⟨j, hj, rfl⟩ := List.mem_map.1 hy
    have := List.mem_range.1 hj
    exact hup _ (by omega) (by omega)
  · intro y hy
    obtain ⟨x, hx, rfl⟩ := List.mem_map.1 (hD.sub y hy)
    rcases mT_mem.1 hx with rfl | ⟨j, h1, h2, rfl⟩
    · exact absurd hy hq
    · rw [eR_sid] at hy ⊢
      have : A < j := by
        rcases Nat.lt_or_ge j A with h | h
        · exact absurd hy (hdn j h)
        · omega
      exact List.mem_map.2 ⟨j - (A + 1), List.mem_range.2 (by omega), by rw [show A + 1 + (j - (A + 1)) = j by omega]⟩
end
end Go.Proofs.Ythdnajcngnaobaa.Ae
