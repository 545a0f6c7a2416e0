/- The way to a slot past a guard: plain laws for LookGuards; for all that the lemmas name. -/
import Derived.Test.YthdnajcngnaobaaLgLookGuards
set_option linter.unusedVariables false
set_option linter.unusedSimpArgs false
set_option maxRecDepth 100000
set_option maxHeartbeats 4000000
namespace Go.Proofs.Ythdnajcngnaobaa.Ae
open Go Go.Proofs.Ythdnajcngnaobaa.Bits
def gX (z g : Int) : SL := ⟨1, 5, 2, 2, z, g, 1, 0, 0⟩
theorem guard_can {z g : Int} (hz : 1 ≤ z ∧ z ≤ 8) (h0 : 0 ≤ g) (h1 : g < 2 ^ z.toNat) : canPut [] (gX z g) = true := by
  have hc : capOK 2 2 z g 1 = true := capOK_iff.2 ⟨by omega, .inl (by omega), .inr ⟨by omega, by omega, h0, h1⟩, .inl (by omega), by omega⟩
  unfold canPut
  show (canPl 1 5 && (!(tget [] (sid (gX z g))).isSome && (capOK 2 2 z g 1 && (decide ((0 : Int) = 0 ∧ (0 : Int) = 0) || (tget [] ((0 : Int), (0 : Int))).isSome)))) = true
  rw [hc]
  rfl
theorem guard_put {z g : Int} (h : canPut [] (gX z g) = true) : tput [] (gX z g) = [gX z g] := by
  unfold tput
  rw [h]
  rfl
theorem ediv_uni {a b q r : Int} (hb : 0 < b) (h : r + b * q = a) (h0 : 0 ≤ r) (h1 : r < b) : a / b = q ∧ a % b = r := (Int.ediv_emod_unique hb).2 ⟨h, h0, h1⟩
theorem guard_get (z g : Int) : tget [gX z g] (1, 5) = some (gX z g) := by
  unfold tget
  rw [List.find?_cons_of_pos]
  exact decide_eq_true rfl
theorem guard_pows {z P : Int} (hz : 1 ≤ z ∧ z ≤ 8) (hP : (2 : Int) ^ z.toNat = P) : (2 ≤ P ∧ P ≤ 256) ∧ (2 : Int) ^ (8 + z).toNat = 256 * P ∧ (2 : Int) ^ (8 + z - 0).toNat = 256 * P ∧ (2 : Int) ^ (8 + z - 0 - 4).toNat = 16 * P ∧ (2 : Int) ^ (8 + z - 0 - 4 - z).toNat = 16 ∧ (2 : Int) ^ (8 + z - 0 - 4 - z - 4).toNat = 1 := by
  have h : z = 1 ∨ z = 2 ∨ z = 3 ∨ z = 4 ∨ z = 5 ∨ z = 6 ∨ z = 7 ∨ z = 8 := by omega
  subst hP
  rcases h with rfl | rfl | rfl | rfl | rfl | rfl | rfl | rfl <;> decide
theorem lfind_go {T : List SL} {n : Nat} {x y : SL} {v d k w e : Int} (h : StepOK x.k x.o x.s x.b x.r v d) (hr : ¬ e = 0) (he : d - x.s - 4 = e) (hk : v / 2 ^ e.toNat % 16 = k) (hw : v % 2 ^ e.toNat = w) (hg : tget T (x.o, k) = some y) : lfind T (n + 1) x v d = lfind T n y w e := by
  subst he hk hw
  rw [lfind, if_pos h, if_neg hr, hg]
theorem lfind_end {T : List SL} {n : Nat} {x : SL} {v d k : Int} (h : StepOK x.k x.o x.s x.b x.r v d) (he : d - x.s - 4 = 0) (hk : v % 16 = k) : lfind T (n + 1) x v d = ((x.o, k), 0) := by
  subst hk
  rw [lfind, if_pos h, if_pos he, he]
  show ((x.o, v / 1 % 16), (0 : Int)) = _
  rw [Int.ediv_one]
theorem lfind_no {T : List SL} {n : Nat} {x : SL} {v d : Int} (h : ¬ StepOK x.k x.o x.s x.b x.r v d) : lfind T (n + 1) x v d = ((0, 0), 2) := by
  rw [lfind, if_neg h]
theorem lookF_go {T : List SL} {x : SL} {a v d : Int} (hb : a / 256 = v) (ha : a % 256 = d) (h0 : 4 ≤ d) (h1 : d ≤ 24) (h2 : v < 2 ^ d.toNat) : lookF T x a = lfind T 6 x v d := by
  subst ha hb
  unfold lookF
  rw [if_pos ⟨h0, h1, h2⟩]
theorem guard_find {z g h s P : Int} (hz : 1 ≤ z ∧ z ≤ 8) (hP : (2 : Int) ^ z.toNat = P) (hg : 0 ≤ g ∧ g < P) (hh : 0 ≤ h ∧ h < P) (hs : 0 ≤ s ∧ s < 16) :
    lookF [gX z g] (rootN 1) (((5 * P + h) * 16 + s) % 16777216 * 256 + (8 + z) % 256) = if h = g then ((2, s), 0) else ((0, 0), 2) := by
  obtain ⟨⟨p0, p1⟩, q1, q2, q3, q4, q5⟩ := guard_pows hz hP
  have hv : ((5 * P + h) * 16 + s) % 16777216 = (5 * P + h) * 16 + s := Int.emod_eq_of_lt (by omega) (by omega)
  obtain ⟨v, hvd⟩ : ∃ v : Int, v = (5 * P + h) * 16 + s := ⟨_, rfl⟩
  rw [hv, ← hvd]
  have q0 : (2 : Int) ^ (4 + z).toNat = 16 * P := by rw [← q3]; congr 2; omega
  rw [lookF_go (v := v) (d := 8 + z) (by omega) (by omega) (by omega) (by omega) (by rw [q1]; omega)]
  obtain ⟨d1, d2⟩ := ediv_uni (a := v) (b := 16 * P) (q := 5) (r := h * 16 + s) (by omega) (by omega) (by omega) (by omega)
  have d3 : v / (256 * P) = 0 := Int.ediv_eq_zero_of_lt (by omega) (by omega)
  have s1 : StepOK 2 1 0 0 0 v (8 + z) := ⟨rfl, by decide +kernel, ⟨by omega, by omega, by omega, by rw [q1]; omega⟩, by omega, by rw [q2]; exact d3⟩
  rw [lfind_go (x := rootN 1) (y := gX z g) (e := 4 + z) (k := 5) (w := h * 16 + s) s1 (by omega) (show 8 + z - 0 - 4 = 4 + z by omega) (by rw [q0, d1]; rfl) (by rw [q0, d2]) (guard_get z g)]
  have hc : capOK 2 2 z g 1 = true := capOK_iff.2 ⟨by omega, .inl (by omega), .inr ⟨by omega, by omega, hg.1, by rw [hP]; exact hg.2⟩, .inl (by omega), by omega⟩
  have q6 : h * 16 + s < (2 : Int) ^ (4 + z).toNat := by rw [q0]; omega
  have q7 : (2 : Int) ^ (4 + z - z).toNat = 16 := by rw [show 4 + z - z = 4 by omega]; rfl
  by_cases e : h = g
  · have s2 : StepOK 2 2 z g 1 (h * 16 + s) (4 + z) := ⟨rfl, hc, ⟨by omega, by omega, by omega, q6⟩, by omega, by rw [q7]; omega⟩
    rw [if_pos e, lfind_end (x := gX z g) (k := s) s2 (show 4 + z - z - 4 = 0 by omega) (by omega)]
    rfl
  · rw [if_neg e, lfind_no]
    rintro ⟨_, _, _, _, h5⟩
    have h5 : (h * 16 + s) / 2 ^ (4 + z - z).toNat = g := h5
    rw [q7] at h5
    omega
theorem guard_short {z g s : Int} (hz : 1 ≤ z) (hs : 0 ≤ s ∧ s < 16) : (lookF [gX z g] (rootN 1) ((80 + s) % 16777216 * 256 + 8 % 256)).2 = 2 := by
  have q1 : (2 : Int) ^ (8 : Int).toNat = 256 := rfl
  have q3 : (2 : Int) ^ (4 : Int).toNat = 16 := rfl
  have q2 : (2 : Int) ^ ((8 : Int) - 0).toNat = 256 := rfl
  rw [lookF_go (v := 80 + s) (d := 8) (by omega) (by omega) (by omega) (by omega) (by rw [q1]; omega)]
  have s1 : StepOK 2 1 0 0 0 (80 + s) 8 := ⟨rfl, by decide +kernel, ⟨by omega, by omega, by omega, by rw [q1]; omega⟩, by omega, by rw [q2]; omega⟩
  rw [lfind_go (x := rootN 1) (y := gX z g) (e := 4) (k := 5) (w := s) s1 (by omega) rfl (by rw [q3]; omega) (by rw [q3]; omega) (guard_get z g), lfind_no]
  rintro ⟨_, _, _, h4, _⟩
  have h4 : z + 4 ≤ 4 := h4
  omega
theorem bor_low {x y : Int} (z : Int) (hz : 0 ≤ z ∧ z ≤ 8) (h0 : 0 ≤ x) (h1 : x < 1000) (h2 : 0 ≤ y) (h3 : y < 2 ^ z.toNat) : bor .i64 (sl .i64 x z) y = x * 2 ^ z.toNat + y := by
  have hp := pow_le' (d := z.toNat) (e := 8) (by omega)
  have hq := pow_pos' z.toNat
  have hm : x * 2 ^ z.toNat ≤ 1000 * 256 := Int.mul_le_mul (by omega) (by omega) (by omega) (by omega)
  have hm0 : 0 ≤ x * 2 ^ z.toNat := Int.mul_nonneg h0 (by omega)
  have e : sl .i64 x z = x * 2 ^ z.toNat := by
    have hk : min z.toNat (IntKind.bits .i64) = z.toNat := Nat.min_eq_left (by show z.toNat ≤ 64; omega)
    rw [sl_def, hk]
    exact i64_id (by omega) (by omega)
  rw [e, bor_def]
  exact or64_join (x * 2 ^ z.toNat) y z.toNat hm0 (Int.mul_emod_left ..) (by omega) h2 h3 (by omega)
end Go.Proofs.Ythdnajcngnaobaa.Ae
