/- The way to a slot past a guard: plain laws for LookGuards; for all that the lemmas name. -/
import Derived.Test.YthdnajcngnaobaaLgLookWays
set_option linter.unusedVariables false
set_option linter.unusedSimpArgs false
set_option maxRecDepth 100000
set_option maxHeartbeats 4000000
namespace Go.Proofs.Ythdnajcngnaobaa.Ae
open Go Go.Proofs.Ythdnajcngnaobaa.Bits
theorem lfind_go {T : List SL} {n : Nat} {x y : SL} {v d k w e : Int} (h : StepOK x.k x.o x.s x.b x.r v d) (hr : ¬ e = 0) (he : d - x.s - 4 = e) (hk : v / 2 ^ e.toNat % 16 = k) (hw : v % 2 ^ e.toNat = w) (hg : tget T (x.o, k) = some y) : lfind T (n + 1) x v d = lfind T n y w e := by
  subst he hk hw
  rw [lfind, if_pos h, if_neg hr, hg]
theorem lfind_end {T : List SL} {n : Nat} {x : SL} {v d k : Int} (h : StepOK x.k x.o x.s x.b x.r v d) (he : d - x.s - 4 = 0) (hk : v % 16 = k) : lfind T (n + 1) x v d = ((x.o, k), 0) := by
  subst hk
  rw [lfind, if_pos h, if_pos he, he]
  show ((x.o, v / 1 % 16), (0 : Int)) = _
  rw [Int.ediv_one]
theorem lfind_no {T : List SL} {n : Nat} {x : SL} {v d : Int} (h : ¬ StepOK x.k x.o x.s x.b x.r v d) : lfind T (n + 1) x v d = ((0, 0), 2) := by
  rw [lfind, if_neg h]
theorem lookF_go {T : List SL} {x : SL} {a v d : Int} (hb : a / 256 = v) (ha : a % 256 = d) (h0 : 4 ≤ d) (h1 : d ≤ 24) (h2 : v < 2 ^ d.toNat) : lookF T x a = lfind T 6 x v d := by
  subst ha hb
  unfold lookF
  rw [if_pos ⟨h0, h1, h2⟩]
end Go.Proofs.Ythdnajcngnaobaa.Ae
