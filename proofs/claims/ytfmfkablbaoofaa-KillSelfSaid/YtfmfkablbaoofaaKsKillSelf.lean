/- A node whose own slot names it: plain laws for KillSelf; for all that the lemmas name. -/
import Derived.Test.YtfmfkablbaoofaaKjKillSelf
import Derived.Test.YtfmfkablbaoofaaKrKillSelf
import Derived.Test.YtfmfkablbaoofaaDnKillSelf
set_option linter.unusedVariables false
set_option linter.unusedSimpArgs false
set_option linter.unusedSectionVars false
set_option maxRecDepth 100000
set_option maxHeartbeats 8000000
namespace Go.Proofs.Ytfmfkablbaoofaa.Ae
open Go Go.Proofs.Ytfmfkablbaoofaa.Bits
def sP : SL := ⟨5, 1, 2, 7, 0, 0, 0, 0, 0⟩
def sQ (s a b : Int) : SL := ⟨7, s, 2, 7, 0, 0, 0, a, b⟩
section
variable {s a b : Int} (hs : 0 ≤ s ∧ s < 16) (hab : (a = 0 ∧ b = 0) ∨ (a = 5 ∧ b = 1))
include hs
theorem ks_cap : capOK 2 7 0 0 0 = true := by decide +kernel
theorem ks_put1 : canPut [] sP = true := by decide +kernel
theorem ks_g1 : tget [sP, sQ s a b] (5, 1) = some sP := tget_hit rfl
theorem ks_gq : tget [sP, sQ s a b] (7, s) = some (sQ s a b) := by
  rw [tget_cons, if_neg fun e => absurd (show (5 : Int) = 7 from congrArg Prod.fst e) (by decide)]
  exact tget_hit rfl
include hab in
theorem ks_put2 : canPut [sP] (sQ s a b) = true ∧ tput [sP] (sQ s a b) = [sP, sQ s a b] := by
  have hg : tget [sP] (7, s) = none := by
    rw [tget_cons, if_neg fun e => absurd (show (5 : Int) = 7 from congrArg Prod.fst e) (by decide)]; rfl
  have hp : (decide (a = 0 ∧ b = 0) || (tget [sP] (a, b)).isSome) = true := by
    rcases hab with ⟨rfl, rfl⟩ | ⟨rfl, rfl⟩
    · rfl
    · rw [show tget [sP] (5, 1) = some sP from tget_hit rfl]; rfl
  have hc : canPut [sP] (sQ s a b) = true := by
    unfold canPut
    show (canPl 7 s && (!(tget [sP] (7, s)).isSome && (capOK 2 7 0 0 0 && (decide (a = 0 ∧ b = 0) || (tget [sP] (a, b)).isSome)))) = true
    rw [hg, hp, ks_cap hs, show canPl 7 s = true from decide_eq_true (by omega)]
    rfl
  refine ⟨hc, ?_⟩
  rw [tput_can hc]
  unfold tins
  rw [if_pos (.inl (show (5 : Int) < 7 by decide))]
  rfl
theorem ks_kill1 : tkill [sP, sQ s 0 0] (5, 1) = [sQ s 0 0] := by
  unfold tkill
  rw [ks_g1 hs]
  show tdrop (tturn [sP, sQ s 0 0] 5 1 0 0) (5, 1) = _
  have h1 : tturn [sP, sQ s 0 0] 5 1 0 0 = [sP, sQ s 0 0] := by
    unfold tturn
    rw [List.map_cons, if_neg (by show ¬ ((0 : Int) = 5 ∧ (0 : Int) = 1); decide), List.map_cons, if_neg (by show ¬ ((0 : Int) = 5 ∧ (0 : Int) = 1); decide)]
    rfl
  rw [h1]
  unfold tdrop
  rw [List.filter_cons, if_neg (by rw [decide_eq_true_iff]; exact fun h => h rfl), List.filter_cons, if_pos (decide_eq_true fun e => absurd (show (7 : Int) = 5 from congrArg Prod.fst e) (by decide))]
  rfl
theorem ks_del1 : kdel [sP, sQ s 0 0] (5, 1) = ([], [sQ s 0 0]) := by
  unfold kdel
  rw [show [sP, sQ s 0 0].length = 1 + 1 from rfl, kdrop_held (ks_g1 hs) ?_, ks_kill1 hs]
  rw [ks_kill1 hs]
  unfold tkids
  rw [List.filter_cons, if_pos (show nmP sP (sQ s 0 0) = true from decide_eq_true ⟨rfl, rfl, .inl (show ¬ (2 : Int) = 1 by decide)⟩)]
  simp
theorem ks_killq : tkill [sQ s 0 0] (7, s) = [] := by
  unfold tkill
  rw [show tget [sQ s 0 0] (7, s) = some (sQ s 0 0) from tget_hit rfl]
  show tdrop (tturn [sQ s 0 0] 7 s 0 0) (7, s) = _
  unfold tturn tdrop
  rw [List.map_cons, if_neg (by show ¬ ((0 : Int) = 7 ∧ (0 : Int) = s); omega), List.filter_cons, if_neg (by rw [decide_eq_true_iff]; exact fun h => h rfl)]
  rfl
theorem ks_del2 : kdel [sQ s 0 0] (7, s) = ([(2, 7)], []) := by
  unfold kdel
  rw [show [sQ s 0 0].length = 0 + 1 from rfl, kdrop_node (T := [sQ s 0 0]) (p := (7, s)) (n := 0) (r := sQ s 0 0) (tget_hit rfl) ?_ rfl, ks_killq hs]
  · rfl
  · rw [ks_killq hs]; rfl
theorem ks_kill3 : tkill [sP, sQ s 5 1] (7, s) = [sP] := by
  unfold tkill
  rw [ks_gq hs]
  show tdrop (tturn [sP, sQ s 5 1] 7 s 5 1) (7, s) = _
  unfold tturn tdrop
  rw [List.map_cons, if_neg (by show ¬ ((0 : Int) = 7 ∧ (0 : Int) = s); omega), List.map_cons, if_neg (by show ¬ ((5 : Int) = 7 ∧ (1 : Int) = s); omega), List.filter_cons, if_pos (decide_eq_true fun e => absurd (show (5 : Int) = 7 from congrArg Prod.fst e) (by decide)), List.filter_cons, if_neg (by rw [decide_eq_true_iff]; exact fun h => h rfl)]
  rfl
theorem ks_drop3 : kdrop 2 [sP, sQ s 5 1] (7, s) = ([], [sP]) := by
  rw [kdrop_held (n := 1) (ks_gq hs) ?_, ks_kill3 hs]
  rw [ks_kill3 hs]
  unfold tkids
  rw [List.filter_cons, if_pos (show nmP (sQ s 5 1) sP = true from decide_eq_true ⟨rfl, rfl, .inl (show ¬ (2 : Int) = 1 by decide)⟩)]
  simp
theorem ks_tree : Tree [sP, sQ s 5 1] := by
  refine ⟨fun x hx => ?_, fun x hx e => ?_, fun p => if p.1 = 5 then 0 else 1, fun x hx h => ?_⟩
  · rcases List.mem_cons.1 hx with rfl | hx
    · exact .inl rfl
    · rw [List.mem_singleton.1 hx]; exact .inr (List.mem_cons_self ..)
  · rcases List.mem_cons.1 hx with rfl | hx
    · exact absurd (show (5 : Int) = 0 from congrArg Prod.fst e) (by decide)
    · rw [List.mem_singleton.1 hx] at e
      exact absurd (show (7 : Int) = 0 from congrArg Prod.fst e) (by decide)
  · rcases List.mem_cons.1 hx with rfl | hx
    · exact absurd rfl h
    · rw [List.mem_singleton.1 hx]
      show (if (5 : Int) = 5 then 0 else 1) < (if (7 : Int) = 5 then 0 else 1); decide
theorem ks_below {D : List (Int × Int)} (h : BelowL [sP, sQ s 5 1] (5, 1) D) : D = [(7, s)] := by
  have h1 : ((7 : Int), s) ∈ D := (h.iff _ (List.mem_cons_of_mem _ (List.mem_cons_self ..))).2 (.inl rfl)
  have h2 : ((5 : Int), (1 : Int)) ∉ D := fun hm => by
    rcases (h.iff _ (List.mem_cons_self ..)).1 hm with e | e
    · exact absurd (show (0 : Int) = 5 from congrArg Prod.fst e) (by decide)
    · rcases List.mem_cons.1 (h.sub _ e) with e | e
      · exact absurd (show (0 : Int) = 5 from congrArg Prod.fst e) (by decide)
      · exact absurd (show (0 : Int) = 7 from congrArg Prod.fst (List.mem_singleton.1 e)) (by decide)
  have hl := below_count h [(7, s)] (List.pairwise_singleton ..) (fun y hy => by rw [List.mem_singleton.1 hy]; exact h1) fun y hy => by
    rcases List.mem_cons.1 (h.sub y hy) with e | e
    · rw [e] at hy; exact absurd hy h2
    · exact e
  match D, hl, h1 with
  | [x], _, h1 => rw [List.mem_singleton.1 h1]
end
theorem ks_tree1 : Tree [sP] := by
  refine ⟨fun x hx => ?_, fun x hx e => ?_, fun p => 0, fun x hx h => ?_⟩
  · rw [List.mem_singleton.1 hx]; exact .inl rfl
  · rw [List.mem_singleton.1 hx] at e
    exact absurd (show (5 : Int) = 0 from congrArg Prod.fst e) (by decide)
  · rw [List.mem_singleton.1 hx] at h; exact absurd rfl h
theorem ks_below1 {D : List (Int × Int)} (h : BelowL [sP] (5, 1) D) : D = [] := by
  have h2 : ((5 : Int), (1 : Int)) ∉ D := fun hm => by
    rcases (h.iff _ (List.mem_cons_self ..)).1 hm with e | e
    · exact absurd (show (0 : Int) = 5 from congrArg Prod.fst e) (by decide)
    · exact absurd (show (0 : Int) = 5 from congrArg Prod.fst (List.mem_singleton.1 (h.sub _ e))) (by decide)
  cases D with
  | nil => rfl
  | cons y D => exact absurd (List.mem_cons_self ..) (by rw [List.mem_singleton.1 (h.sub y (List.mem_cons_self ..))] at *; exact h2)
theorem ks_rev {s : Int} (hs : 0 ≤ s ∧ s < 16) : krevT [sP, sQ s 5 1] (5, 1) = ([], [sP]) := by
  have ht : TSorted [sP, sQ s 5 1] := List.Pairwise.cons (fun y hy => by rw [List.mem_singleton.1 hy]; exact .inl (show (5 : Int) < 7 by decide)) (List.pairwise_singleton ..)
  have ht1 : TSorted [sP] := List.pairwise_singleton ..
  have hp : ((5, 1) : Int × Int) ≠ (0, 0) := by decide
  have e1 := ks_below hs (blw_below ht (ks_tree hs) hp)
  have e2 := ks_below1 (blw_below ht1 ks_tree1 hp)
  unfold krevT
  rw [ks_g1 hs, Option.isSome_some, if_pos rfl, show [sP, sQ s 5 1].length = 1 + 1 from rfl, krev_cons e1, show [sP, sQ s 5 1].length = 2 from rfl, ks_drop3 hs, krev_nil e2]
  rfl
end Go.Proofs.Ytfmfkablbaoofaa.Ae
