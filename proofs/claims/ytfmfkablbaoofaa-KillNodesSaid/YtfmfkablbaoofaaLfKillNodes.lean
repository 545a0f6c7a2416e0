/- The way to a slot: what the program's look returns; no condition beyond the ones that each theorem names. -/
import Derived.Test.YtfmfkablbaoofaaTpKillNodes
import Derived.Test.YtfmfkablbaoofaaCsKillNodes
set_option linter.unusedVariables false
set_option linter.unusedSimpArgs false
set_option maxRecDepth 100000
set_option maxHeartbeats 4000000
namespace Go.Proofs.Ytfmfkablbaoofaa.Ae
open Go Go.Proofs.Ytfmfkablbaoofaa.Bits
attribute [local irreducible] Ret ACalls
instance (k o s b r v d : Int) : Decidable (StepOK k o s b r v d) := by unfold StepOK; infer_instance
/-- So many nodes on, at most. -/
def lfind (T : List SL) : Nat → SL → Int → Int → (Int × Int) × Int
  | 0, _, _, _ => ((0, 0), 2)
  | n + 1, x, v, d => if StepOK x.k x.o x.s x.b x.r v d then
      (if d - x.s - 4 = 0 then ((x.o, v / 2 ^ (d - x.s - 4).toNat % 16), 0)
       else match tget T (x.o, v / 2 ^ (d - x.s - 4).toNat % 16) with
         | none => ((0, 0), 2)
         | some y => lfind T n y (v % 2 ^ (d - x.s - 4).toNat) (d - x.s - 4))
    else ((0, 0), 2)
def lookF (T : List SL) (x : SL) (a : Int) : (Int × Int) × Int := if 4 ≤ a % 256 ∧ a % 256 ≤ 24 ∧ a / 256 < 2 ^ (a % 256).toNat then lfind T 6 x (a / 256) (a % 256) else ((0, 0), 2)
def lookC (T : List SL) (x : SL) (a kind : Int) : SL × (Int × Int) × Int :=
  if (lookF T x a).2 = 0 then (match tget T (lookF T x a).1 with
    | none => (sl0, (0, 0), 4)
    | some y => if kind ≠ 0 ∧ y.k ≠ kind then (sl0, (0, 0), 5) else (y, (lookF T x a).1, 0))
  else (sl0, (0, 0), (lookF T x a).2)
section
variable {q : Nat} {T : List SL} {L : List HA} {st : PH}
end
def rootN (o : Int) : SL := ⟨0, 0, 2, o, 0, 0, 0, 0, 0⟩
end Go.Proofs.Ytfmfkablbaoofaa.Ae
