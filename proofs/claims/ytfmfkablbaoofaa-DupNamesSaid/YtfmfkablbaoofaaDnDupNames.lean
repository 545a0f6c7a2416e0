/- A copy, moved: plain laws for DupNames; for all that the lemmas name. -/
import Derived.Test.YtfmfkablbaoofaaDpDupNames
set_option linter.unusedVariables false
set_option linter.unusedSimpArgs false
set_option linter.unusedSectionVars false
set_option maxRecDepth 100000
set_option maxHeartbeats 4000000
namespace Go.Proofs.Ytfmfkablbaoofaa.Ae
open Go Go.Proofs.Ytfmfkablbaoofaa.Bits
theorem tget_cons (x : SL) (T : List SL) (k : Int × Int) : tget (x :: T) k = if sid x = k then some x else tget T k := by
  unfold tget
  by_cases h : sid x = k
  · rw [if_pos h, List.find?_cons_of_pos (by rw [decide_eq_true_iff]; exact h)]
  · rw [if_neg h, List.find?_cons_of_neg (by rw [decide_eq_true_iff]; exact h)]
theorem tget_hit {x : SL} {T : List SL} {k : Int × Int} (h : sid x = k) : tget (x :: T) k = some x := by rw [tget_cons, if_pos h]
section
variable {k o s b r t n : Int} (hc : capOK k o s b r = true) (ht : 0 ≤ t ∧ t < 16) (hn : 0 ≤ n ∧ n ≤ 7)
def d1 (k o s b r : Int) : SL := ⟨1, 3, k, o, s, b, r, 0, 0⟩
def d2 (k o s b r t n : Int) : SL := ⟨2, t, k, o, s, b, dless r n, 1, 3⟩
def d3 (k o s b r t n : Int) : SL := ⟨2, t, k, o, s, b, dless r n, 4, 4⟩
def d4 (k o s b r : Int) : SL := ⟨4, 4, k, o, s, b, r, 0, 0⟩
include hc ht hn
theorem dn_less : dless r n = ban .i64 r n := by unfold dless; rw [ban7 hn]
theorem dn_cap : capOK k o s b (dless r n) = true := by
  obtain ⟨⟨h1, h2, h3, h4, h5, h6⟩, hrest⟩ := capOK_iff.1 hc
  have := ban8 (w := r) (r := n) ⟨h3, h4⟩ hn
  rw [dn_less hc ht hn]
  exact capOK_iff.2 ⟨⟨h1, h2, this.1, this.2, h5, h6⟩, hrest⟩
theorem dn_put1 : canPut [] (d1 k o s b r) = true := canPut_flat ⟨rfl, rfl⟩ ⟨show (1 : Int) ≤ 1 by decide, show (1 : Int) ≤ 64 by decide, show (0 : Int) ≤ 3 by decide, show (3 : Int) < 16 by decide⟩ rfl hc
theorem dn_g1 : tget [d1 k o s b r] (1, 3) = some (d1 k o s b r) := tget_hit rfl
theorem dn_g1q : tget [d1 k o s b r] (2, t) = none := by
  rw [tget_cons, if_neg fun e => absurd (show (1 : Int) = 2 from congrArg Prod.fst e) (by decide)]; rfl
theorem dn_both1 : bothC [d1 k o s b r] 1 3 2 t = 0 ∧ bothX [d1 k o s b r] 1 3 2 t = d1 k o s b r := by
  unfold bothC bothX
  rw [dn_g1 hc ht hn, dn_g1q hc ht hn, show canPl 2 t = true from decide_eq_true (by omega)]
  exact ⟨rfl, rfl⟩
theorem dn_put2 : canPut [d1 k o s b r] (d2 k o s b r t n) = true := by
  unfold canPut
  show (canPl 2 t && (!(tget [d1 k o s b r] (2, t)).isSome && (capOK k o s b (dless r n) && (decide ((1 : Int) = 0 ∧ (3 : Int) = 0) || (tget [d1 k o s b r] (1, 3)).isSome)))) = true
  rw [dn_g1 hc ht hn, dn_g1q hc ht hn, show canPl 2 t = true from decide_eq_true (by omega), dn_cap hc ht hn]
  rfl
theorem dn_copy : copyC [d1 k o s b r] 1 3 2 t n = 0 ∧ copyT [d1 k o s b r] 1 3 2 t n = [d1 k o s b r, d2 k o s b r t n] := by
  obtain ⟨e1, e2⟩ := dn_both1 hc ht hn
  have e3 : copyC [d1 k o s b r] 1 3 2 t n = 0 := by unfold copyC; rw [if_pos e1, if_pos hn]
  refine ⟨e3, ?_⟩
  unfold copyT
  rw [if_pos e3, e2, show copyR (d1 k o s b r) 1 3 2 t n = d2 k o s b r t n from rfl, tput_can (dn_put2 hc ht hn)]
  unfold tins
  rw [if_pos (.inl (show (1 : Int) < 2 by decide))]
  rfl
theorem dn_g2q : tget [d1 k o s b r, d2 k o s b r t n] (2, t) = some (d2 k o s b r t n) := by
  rw [tget_cons, if_neg fun e => absurd (show (1 : Int) = 2 from congrArg Prod.fst e) (by decide)]
  exact tget_hit rfl
theorem dn_g2p : tget [d1 k o s b r, d2 k o s b r t n] (1, 3) = some (d1 k o s b r) := tget_hit rfl
theorem dn_g2r : tget [d1 k o s b r, d2 k o s b r t n] (4, 4) = none := by
  rw [tget_cons, if_neg fun e => absurd (show (1 : Int) = 4 from congrArg Prod.fst e) (by decide), tget_cons, if_neg fun e => absurd (show (2 : Int) = 4 from congrArg Prod.fst e) (by decide)]; rfl
theorem dn_full : copyC [d1 k o s b r, d2 k o s b r t n] 1 3 2 t n = 3 := by
  have e : bothC [d1 k o s b r, d2 k o s b r t n] 1 3 2 t = 3 := by
    unfold bothC
    rw [dn_g2p hc ht hn, dn_g2q hc ht hn, show canPl 2 t = true from decide_eq_true (by omega)]
    rfl
  unfold copyC
  rw [e, if_neg (by decide)]
theorem dn_move : bothC [d1 k o s b r, d2 k o s b r t n] 1 3 4 4 = 0 ∧ moveT [d1 k o s b r, d2 k o s b r t n] 1 3 4 4 = [d3 k o s b r t n, d4 k o s b r] := by
  have e : bothC [d1 k o s b r, d2 k o s b r t n] 1 3 4 4 = 0 := by
    unfold bothC
    rw [dn_g2p hc ht hn, dn_g2r hc ht hn]
    rfl
  refine ⟨e, ?_⟩
  unfold moveT tmove
  rw [if_pos e, dn_g2p hc ht hn, dn_g2r hc ht hn]
  have h1 : tturn [d1 k o s b r, d2 k o s b r t n] 1 3 4 4 = [d1 k o s b r, d3 k o s b r t n] := by
    unfold tturn
    rw [List.map_cons, if_neg (by show ¬ ((0 : Int) = 1 ∧ (0 : Int) = 3); decide), List.map_cons, if_pos ⟨rfl, rfl⟩]
    rfl
  have h2 : tdrop [d1 k o s b r, d3 k o s b r t n] (1, 3) = [d3 k o s b r t n] := by
    unfold tdrop
    rw [List.filter_cons, if_neg (by rw [decide_eq_true_iff]; exact fun h => h rfl), List.filter_cons, if_pos (decide_eq_true fun e => absurd (show (2 : Int) = 1 from congrArg Prod.fst e) (by decide))]
    rfl
  show tmoved _ (d1 k o s b r) 1 3 4 4 = _
  unfold tmoved
  rw [h1, h2]
  unfold tins
  rw [if_pos (.inl (show (2 : Int) < 4 by decide))]
  rfl
theorem dn_g3q : tget [d3 k o s b r t n, d4 k o s b r] (2, t) = some (d3 k o s b r t n) := tget_hit rfl
theorem dn_g3r : tget [d3 k o s b r t n, d4 k o s b r] (4, 4) = some (d4 k o s b r) := by
  rw [tget_cons, if_neg fun e => absurd (show (2 : Int) = 4 from congrArg Prod.fst e) (by decide)]
  exact tget_hit rfl
theorem dn_g3p : tget [d3 k o s b r t n, d4 k o s b r] (1, 3) = none := by
  rw [tget_cons, if_neg fun e => absurd (show (2 : Int) = 1 from congrArg Prod.fst e) (by decide), tget_cons, if_neg fun e => absurd (show (4 : Int) = 1 from congrArg Prod.fst e) (by decide)]; rfl
theorem dn_empty : bothC [d3 k o s b r t n, d4 k o s b r] 1 3 4 4 = 4 := by unfold bothC; rw [dn_g3p hc ht hn]
theorem dn_tree : Tree [d3 k o s b r t n, d4 k o s b r] := by
  refine ⟨fun x hx => ?_, fun x hx e => ?_, fun p => if p.1 = 4 then 0 else 1, fun x hx h => ?_⟩
  · rcases List.mem_cons.1 hx with rfl | hx
    · exact .inr (List.mem_cons_of_mem _ (List.mem_cons_self ..))
    · rw [List.mem_singleton.1 hx]; exact .inl rfl
  · rcases List.mem_cons.1 hx with rfl | hx
    · exact absurd (show (2 : Int) = 0 from congrArg Prod.fst e) (by decide)
    · rw [List.mem_singleton.1 hx] at e
      exact absurd (show (4 : Int) = 0 from congrArg Prod.fst e) (by decide)
  · rcases List.mem_cons.1 hx with rfl | hx
    · show (if (4 : Int) = 4 then 0 else 1) < (if (2 : Int) = 4 then 0 else 1); decide
    · rw [List.mem_singleton.1 hx] at h; exact absurd rfl h
theorem dn_below {D : List (Int × Int)} (h : BelowL [d3 k o s b r t n, d4 k o s b r] (4, 4) D) : D.length = 1 := by
  have h1 : ((2 : Int), t) ∈ D := (h.iff _ (List.mem_cons_self ..)).2 (.inl rfl)
  have h2 : ((4 : Int), (4 : Int)) ∉ D := fun hm => by
    rcases (h.iff _ (List.mem_cons_of_mem _ (List.mem_cons_self ..))).1 hm with e | e
    · exact absurd (show (0 : Int) = 4 from congrArg Prod.fst e) (by decide)
    · have := h.sub _ e
      rcases List.mem_cons.1 this with e | e
      · exact absurd (show (0 : Int) = 2 from congrArg Prod.fst e) (by decide)
      · exact absurd (show (0 : Int) = 4 from congrArg Prod.fst (List.mem_singleton.1 e)) (by decide)
  refine below_count h [(2, t)] (List.pairwise_singleton ..) (fun y hy => by rw [List.mem_singleton.1 hy]; exact h1) fun y hy => ?_
  rcases List.mem_cons.1 (h.sub y hy) with e | e
  · rw [e]; exact List.mem_cons_self ..
  · rw [List.mem_singleton.1 e] at hy; exact absurd hy h2
end
end Go.Proofs.Ytfmfkablbaoofaa.Ae
