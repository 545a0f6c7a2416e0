/- Copies of copies: plain laws for DupRows, DupNames, DupErrors; for all that the lemmas name. -/
import Derived.Test.YtfmfkablbaoofaaDuKillSelf
import Derived.Test.YtfmfkablbaoofaaLiKillSelf
set_option linter.unusedVariables false
set_option linter.unusedSimpArgs false
set_option linter.unusedSectionVars false
set_option maxRecDepth 100000
set_option maxHeartbeats 4000000
namespace Go.Proofs.Ytfmfkablbaoofaa.Ae
open Go Go.Proofs.Ytfmfkablbaoofaa.Bits
theorem below_count {T : List SL} {p : Int × Int} {D : List (Int × Int)} (h : BelowL T p D) (S : List (Int × Int)) (hn : S.Nodup) (h1 : ∀ y ∈ S, y ∈ D) (h2 : ∀ y ∈ D, y ∈ S) : D.length = S.length :=
  Nat.le_antisymm (nodup_len (plt_nodup h.sorted) h2) (nodup_len hn h1)
def rW (rs : Nat → Int) : Nat → Int
  | 0 => 7
  | i + 1 => ban .i64 (rW rs i) (rs i)
def cR (rs : Nat → Int) : Nat → SL
  | 0 => ⟨1, 0, 5, 3, 0, 0, 7, 0, 0⟩
  | j + 1 => ⟨1, j + 1, 5, 3, 0, 0, rW rs (j + 1), 1, j⟩
def CT (rs : Nat → Int) (i : Nat) (T : List SL) : Prop := TSorted T ∧ T.length ≤ i + 1 ∧ (∀ x ∈ T, ∃ j, j ≤ i ∧ x = cR rs j) ∧ ∀ j : Nat, j ≤ i → tget T (1, j) = some (cR rs j)
section
variable {rs : Nat → Int} (hr : ∀ i, 0 ≤ rs i ∧ rs i ≤ 7) {i : Nat} {T : List SL} (h : CT rs i T) (hi : i < 15)
include hr h hi
end
end Go.Proofs.Ytfmfkablbaoofaa.Ae
