/- Slots: all that is below a place: the program's table; no condition beyond the ones that each theorem names. -/
import Derived.Test.YtfmfkablbaoofaaDxKillLast
set_option linter.unusedVariables false
set_option linter.unusedSimpArgs false
set_option maxRecDepth 100000
set_option maxHeartbeats 4000000
namespace Go.Proofs.Ytfmfkablbaoofaa.Ae
open Go Go.Proofs.Ytfmfkablbaoofaa.Bits
attribute [local irreducible] Ret ACalls
theorem plt_nodup {l : List (Int × Int)} (h : l.Pairwise plt) : l.Nodup := h.imp fun {a b} hab e => by subst e; unfold plt at hab; omega
theorem nodup_len {α : Type} [DecidableEq α] : ∀ {l1 l2 : List α}, l1.Nodup → (∀ x ∈ l1, x ∈ l2) → l1.length ≤ l2.length := by
  intro l1
  induction l1 with
  | nil => intro l2 _ _; exact Nat.zero_le _
  | cons x l1 ih =>
    intro l2 hn hs
    obtain ⟨h1, h2⟩ := List.nodup_cons.1 hn
    have hx := hs x (List.mem_cons_self ..)
    have h3 := ih (l2 := l2.erase x) h2 fun y hy => (List.mem_erase_of_ne (fun e => h1 (by rw [← e]; exact hy))).2 (hs y (List.mem_cons_of_mem _ hy))
    rw [List.length_erase_of_mem hx] at h3
    have := List.length_pos_of_mem hx
    rw [List.length_cons]
    omega
theorem pl_one (l : List (Int × Int)) : (fl pcV l).all Value.oneCell = true := by
  rw [List.all_eq_true]
  intro v hv
  unfold fl at hv
  obtain ⟨x, _, hx⟩ := List.mem_flatMap.1 hv
  simp only [pcV, List.mem_cons, List.not_mem_nil, or_false] at hx
  rcases hx with rfl | rfl <;> rfl
section
variable {q : Nat} {T : List SL} {L : List HA} {st : PH}
end
end Go.Proofs.Ytfmfkablbaoofaa.Ae
