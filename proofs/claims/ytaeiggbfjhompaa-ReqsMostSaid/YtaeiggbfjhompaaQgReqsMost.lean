/- Requests: plain laws of what comes, goes, is of a ring. -/
import Derived.Test.YtaeiggbfjhompaaQfReqsMost
set_option linter.unusedVariables false
set_option linter.unusedSimpArgs false
set_option maxRecDepth 100000
namespace Go.Proofs.Ytaeiggbfjhompaa.Ae
open Go Go.Proofs.Ytaeiggbfjhompaa.Bits
theorem rof_ins_ne {r : RQ} {ring : Int} (h : ¬ r.ring = ring) : ∀ T : List RQ, rof (rins r T) ring = rof T ring := by
  intro T
  have h1 : decide (r.ring = ring) = false := decide_eq_false h
  induction T with
  | nil => unfold rins rof; simp [h1]
  | cons x T ih =>
    unfold rof at ih ⊢
    unfold rins
    split
    · rw [List.filter_cons, List.filter_cons, ih]
    · rw [List.filter_cons, h1]; rfl
theorem rins_first {r : RQ} {T : List RQ} (h : ∀ x ∈ T, ¬ rlt x r) : rins r T = r :: T := by
  cases T with
  | nil => rfl
  | cons x T => unfold rins; rw [if_neg (h x (List.mem_cons_self ..))]
theorem rof_ins_eq {r : RQ} {ring : Int} (h : r.ring = ring) : ∀ {T : List RQ}, RSorted T → rof (rins r T) ring = rins r (rof T ring) := by
  intro T
  have h1 : decide (r.ring = ring) = true := decide_eq_true h
  induction T with
  | nil => intro _; unfold rins rof; simp [h1, rins]
  | cons x T ih =>
    intro hs
    obtain ⟨a1, a2⟩ := List.pairwise_cons.1 hs
    have ih := ih a2
    unfold rof at ih ⊢
    by_cases hx : rlt x r
    · have e : rins r (x :: T) = x :: rins r T := if_pos hx
      rw [e, List.filter_cons, List.filter_cons]
      split
      · rw [ih]; exact (if_pos hx).symm
      · exact ih
    · have e : rins r (x :: T) = r :: x :: T := if_neg hx
      rw [e, List.filter_cons, h1]
      simp only [if_true]
      refine (rins_first fun y hy => ?_).symm
      have hy := (List.mem_filter.1 hy).1
      rcases List.mem_cons.1 hy with e2 | hy2
      · rw [e2]; exact hx
      · intro hyr
        exact hx (rlt_trans (a1 y hy2) hyr)
theorem rof_drop (T : List RQ) (k : Int × Int) (ring : Int) : rof (rdrop T k) ring = rdrop (rof T ring) k := by
  unfold rof rdrop
  rw [List.filter_filter, List.filter_filter]
  refine List.filter_congr fun x _ => ?_
  rw [Bool.and_comm]
theorem rget_drop (T : List RQ) (k : Int × Int) : rget (rdrop T k) k = none := rget_none.2 fun r hr => of_decide_eq_true (List.mem_filter.1 hr).2
theorem rof_app (T U : List RQ) (ring : Int) : rof (T ++ U) ring = rof T ring ++ rof U ring := List.filter_append ..
/-- So many of a ring. -/
def rqm (ring i : Int) : RQ := ⟨ring, i, 0, 0, 0, 0, 0, 0, 0, 0, 0, false, false⟩
def rqms (ring : Int) (n : Nat) : List RQ := (List.range n).map fun (i : Nat) => rqm ring ((i : Int) + 1)
theorem rqms_succ (ring : Int) (n : Nat) : rqms ring (n + 1) = rqms ring n ++ [rqm ring ((n : Int) + 1)] := by unfold rqms; rw [List.range_succ, List.map_append]; rfl
theorem rqms_mem {ring : Int} {n : Nat} {r : RQ} (h : r ∈ rqms ring n) : ∃ i, i < n ∧ r = rqm ring ((i : Int) + 1) := by
  unfold rqms at h
  obtain ⟨i, hi, rfl⟩ := List.mem_map.1 h
  exact ⟨i, List.mem_range.1 hi, rfl⟩
theorem rqms_length (ring : Int) (n : Nat) : (rqms ring n).length = n := by unfold rqms; simp
theorem rqms_of (ring : Int) (n : Nat) : rof (rqms ring n) ring = rqms ring n := by
  unfold rof
  refine List.filter_eq_self.2 fun r hr => ?_
  obtain ⟨i, _, rfl⟩ := rqms_mem hr
  exact decide_eq_true rfl
theorem rqms_of_ne {ring o : Int} (h : ¬ ring = o) (n : Nat) : rof (rqms ring n) o = [] := by
  unfold rof
  refine List.filter_eq_nil_iff.2 fun r hr => ?_
  obtain ⟨i, _, rfl⟩ := rqms_mem hr
  rw [decide_eq_true_iff]
  exact h
/-- The table of the law: of ring 4, of ring 5. -/
def mostT (n m : Nat) : List RQ := rqms 4 n ++ rqms 5 m
theorem mostT_mem {n m : Nat} {r : RQ} (h : r ∈ mostT n m) : (∃ i, i < n ∧ r = rqm 4 ((i : Int) + 1)) ∨ (∃ i, i < m ∧ r = rqm 5 ((i : Int) + 1)) := by
  rcases List.mem_append.1 h with h | h
  · exact .inl (rqms_mem h)
  · exact .inr (rqms_mem h)
theorem mostT_of4 (n m : Nat) : rof (mostT n m) 4 = rqms 4 n := by unfold mostT; rw [rof_app, rqms_of, rqms_of_ne (by decide), List.append_nil]
theorem mostT_of5 (n m : Nat) : rof (mostT n m) 5 = rqms 5 m := by unfold mostT; rw [rof_app, rqms_of, rqms_of_ne (by decide), List.nil_append]
theorem mostT_length (n m : Nat) : (mostT n m).length = n + m := by unfold mostT; rw [List.length_append, rqms_length, rqms_length]
theorem mostT_sorted : ∀ (m n : Nat), RSorted (mostT n m) := by
  have key : ∀ (ring : Int) (n : Nat), RSorted (rqms ring n) := by
    intro ring n
    induction n with
    | zero => exact List.Pairwise.nil
    | succ n ih =>
      rw [rqms_succ]
      refine List.pairwise_append.2 ⟨ih, List.pairwise_singleton _ _, fun x hx y hy => ?_⟩
      obtain ⟨i, hi, rfl⟩ := rqms_mem hx
      rw [List.mem_singleton.1 hy]
      exact .inr ⟨rfl, by show (i : Int) + 1 < (n : Int) + 1; omega⟩
  intro m n
  refine List.pairwise_append.2 ⟨key 4 n, key 5 m, fun x hx y hy => ?_⟩
  obtain ⟨i, hi, rfl⟩ := rqms_mem hx
  obtain ⟨j, hj, rfl⟩ := rqms_mem hy
  exact .inl (by show (4 : Int) < 5; decide)
theorem most_ins4 (n : Nat) : rins (rqm 4 ((n : Int) + 1)) (mostT n 0) = mostT (n + 1) 0 := by
  have e : ∀ k, mostT k 0 = rqms 4 k := fun k => List.append_nil _
  rw [e, e, rqms_succ]
  refine rins_last fun r hr => ?_
  obtain ⟨i, hi, rfl⟩ := rqms_mem hr
  exact .inr ⟨rfl, by show (i : Int) + 1 < (n : Int) + 1; omega⟩
theorem most_ins5 (n m : Nat) : rins (rqm 5 ((m : Int) + 1)) (mostT n m) = mostT n (m + 1) := by
  rw [rins_last]
  · unfold mostT; rw [rqms_succ, List.append_assoc]
  · intro r hr
    rcases mostT_mem hr with ⟨i, hi, rfl⟩ | ⟨i, hi, rfl⟩
    · exact .inl (by show (4 : Int) < 5; decide)
    · exact .inr ⟨rfl, by show (i : Int) + 1 < (m : Int) + 1; omega⟩
theorem most_can4 {n : Nat} (h : n < 16) : canAdd (mostT n 0) (rqm 4 ((n : Int) + 1)) := by
  refine ⟨rget_none.2 fun r hr e => ?_, by show (rof _ 4).length < 16; rw [mostT_of4, rqms_length]; exact h⟩
  rcases mostT_mem hr with ⟨i, hi, rfl⟩ | ⟨i, hi, rfl⟩
  · have : (i : Int) + 1 = (n : Int) + 1 := congrArg Prod.snd e
    omega
  · omega
theorem most_can5 {m : Nat} (h : m < 16) : canAdd (mostT 16 m) (rqm 5 ((m : Int) + 1)) := by
  refine ⟨rget_none.2 fun r hr e => ?_, by show (rof _ 5).length < 16; rw [mostT_of5, rqms_length]; exact h⟩
  rcases mostT_mem hr with ⟨i, hi, rfl⟩ | ⟨i, hi, rfl⟩
  · have : (4 : Int) = 5 := congrArg Prod.fst e
    omega
  · have : (i : Int) + 1 = (m : Int) + 1 := congrArg Prod.snd e
    omega
theorem most_no (m : Nat) : ¬ canAdd (mostT 16 m) (rqm 4 99) := fun h => by
  have : (rof (mostT 16 m) 4).length < 16 := h.2
  rw [mostT_of4, rqms_length] at this
  omega
theorem drop_len : ∀ d : Nat, d < 16 → (rdrop (rqms 4 16) (4, (d : Int) + 1)).length = 15 := by decide
theorem most_law (m : Nat) {d : Nat} (hd : d < 16) :
    (rget (mostT 16 m) (4, (d : Int) + 1)).isSome = true ∧ (rget (rdrop (mostT 16 m) (4, (d : Int) + 1)) (4, (d : Int) + 1)).isSome = false ∧ rdrop (rdrop (mostT 16 m) (4, (d : Int) + 1)) (4, (d : Int) + 1) = rdrop (mostT 16 m) (4, (d : Int) + 1) ∧
    canAdd (rdrop (mostT 16 m) (4, (d : Int) + 1)) (rqm 4 99) ∧ (∃ C, C.length = 15 ∧ rof (rins (rqm 4 99) (rdrop (mostT 16 m) (4, (d : Int) + 1))) 4 = C ++ [rqm 4 99]) ∧
    (rof (rins (rqm 4 99) (rdrop (mostT 16 m) (4, (d : Int) + 1))) 5).length = m ∧ rget (rins (rqm 4 99) (rdrop (mostT 16 m) (4, (d : Int) + 1))) (4, (d : Int) + 1) = none := by
  have h4 : rof (rdrop (mostT 16 m) (4, (d : Int) + 1)) 4 = rdrop (rqms 4 16) (4, (d : Int) + 1) := by rw [rof_drop, mostT_of4]
  have h5 : rof (rdrop (mostT 16 m) (4, (d : Int) + 1)) 5 = rqms 5 m := by
    rw [rof_drop, mostT_of5]
    unfold rdrop
    refine List.filter_eq_self.2 fun r hr => decide_eq_true fun e => ?_
    obtain ⟨i, _, rfl⟩ := rqms_mem hr
    have : (5 : Int) = 4 := congrArg Prod.fst e
    omega
  have hso := rdrop_sorted (4, (d : Int) + 1) (mostT_sorted m 16)
  refine ⟨?_, by rw [rget_drop]; rfl, ?_, ⟨?_, ?_⟩, ⟨rdrop (rqms 4 16) (4, (d : Int) + 1), drop_len d hd, ?_⟩, ?_, ?_⟩
  · have hm : rqm 4 ((d : Int) + 1) ∈ mostT 16 m := List.mem_append_left _ (List.mem_map.2 ⟨d, List.mem_range.2 hd, rfl⟩)
    have := (rget_some (k := (4, (d : Int) + 1)) (mostT_sorted m 16)).2 ⟨hm, rfl⟩
    rw [this]; rfl
  · unfold rdrop; rw [List.filter_filter]; simp
  · refine rget_none.2 fun r hr e => ?_
    rcases mostT_mem (List.mem_filter.1 hr).1 with ⟨i, hi, rfl⟩ | ⟨i, hi, rfl⟩
    · have : (i : Int) + 1 = 99 := congrArg Prod.snd e
      omega
    · have : (5 : Int) = 4 := congrArg Prod.fst e
      omega
  · show (rof _ 4).length < 16
    rw [h4, drop_len d hd]; decide
  · rw [rof_ins_eq (r := rqm 4 99) (ring := 4) rfl hso, h4]
    refine rins_last fun r hr => ?_
    obtain ⟨i, hi, rfl⟩ := rqms_mem (List.mem_filter.1 hr).1
    exact .inr ⟨rfl, by show (i : Int) + 1 < 99; omega⟩
  · rw [rof_ins_ne (by show ¬ (4 : Int) = 5; decide), h5, rqms_length]
  · refine rget_none.2 fun r hr e => ?_
    rcases mem_rins.1 hr with rfl | hr
    · have : (99 : Int) = (d : Int) + 1 := congrArg Prod.snd e
      omega
    · exact of_decide_eq_true (List.mem_filter.1 hr).2 e
end Go.Proofs.Ytaeiggbfjhompaa.Ae
