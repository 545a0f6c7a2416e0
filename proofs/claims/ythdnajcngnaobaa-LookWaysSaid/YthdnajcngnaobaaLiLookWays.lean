/- A way through nodes, each in the one ahead: plain laws for LookWays; for all that the lemmas name. -/
import Derived.Test.YthdnajcngnaobaaLhLookWays
import Derived.Test.YthdnajcngnaobaaDxLookWays
set_option linter.unusedVariables false
set_option linter.unusedSimpArgs false
set_option maxRecDepth 100000
set_option maxHeartbeats 4000000
namespace Go.Proofs.Ythdnajcngnaobaa.Ae
open Go Go.Proofs.Ythdnajcngnaobaa.Bits
/-! ### the table -/
theorem mem_tput {T : List SL} {r x : SL} (h : canPut T r = true) : x ∈ tput T r ↔ x = r ∨ x ∈ T := by
  unfold tput
  rw [h, cond_true]
  exact mem_tins
theorem tget_tput_self {T : List SL} {r : SL} (hT : TSorted T) (h : canPut T r = true) : tget (tput T r) (sid r) = some r :=
  (tget_some (tput_sorted hT)).2 ⟨(mem_tput h).2 (.inl rfl), rfl⟩
theorem tget_tput_other {T : List SL} {r : SL} (hT : TSorted T) (h : canPut T r = true) {k : Int × Int} (hk : sid r ≠ k) : tget (tput T r) k = tget T k := by
  cases e : tget T k with
  | some x =>
    obtain ⟨h1, h2⟩ := (tget_some hT).1 e
    exact (tget_some (tput_sorted hT)).2 ⟨(mem_tput h).2 (.inr h1), h2⟩
  | none =>
    rw [tget_none]
    intro x hx
    rcases (mem_tput h).1 hx with rfl | hx
    · exact hk
    · exact tget_none.1 e x hx
theorem tget_tdrop_self (T : List SL) (k : Int × Int) : tget (tdrop T k) k = none := by
  rw [tget_none]
  intro x hx
  exact of_decide_eq_true (List.mem_filter.1 hx).2
theorem tget_tdrop_other {T : List SL} (hT : TSorted T) {j k : Int × Int} (hk : j ≠ k) : tget (tdrop T j) k = tget T k := by
  cases e : tget T k with
  | some x =>
    obtain ⟨h1, h2⟩ := (tget_some hT).1 e
    exact (tget_some (tdrop_sorted _ hT)).2 ⟨List.mem_filter.2 ⟨h1, decide_eq_true (fun e => hk (e.symm.trans h2))⟩, h2⟩
  | none =>
    rw [tget_none]
    intro x hx
    exact tget_none.1 e x (List.mem_filter.1 hx).1
/-- None has a parent. -/
def Flat (T : List SL) : Prop := ∀ x ∈ T, x.pn = 0 ∧ x.ps = 0
theorem flat_put {T : List SL} {r : SL} (h : Flat T) (hr : r.pn = 0 ∧ r.ps = 0) : Flat (tput T r) := by
  intro x hx
  cases hc : canPut T r with
  | true =>
    rcases (mem_tput hc).1 hx with rfl | hx
    · exact hr
    · exact h x hx
  | false =>
    unfold tput at hx
    rw [hc] at hx
    exact h x hx
theorem flat_turn {T : List SL} (h : Flat T) {a b : Int} (c d : Int) (hab : ¬ (a = 0 ∧ b = 0)) : tturn T a b c d = T := by
  unfold tturn
  exact (List.map_congr_left fun z hz => by
    rw [if_neg fun e => hab ⟨e.1.symm.trans (h z hz).1, e.2.symm.trans (h z hz).2⟩]; rfl).trans (List.map_id T)
theorem flat_kill {T : List SL} (h : Flat T) (hT : TSorted T) {p : Int × Int} (hp : ¬ (p.1 = 0 ∧ p.2 = 0)) : tkill T p = tdrop T p := by
  unfold tkill
  split
  · rename_i e
    unfold tdrop
    exact (List.filter_eq_self.2 fun x hx => decide_eq_true (tget_none.1 e x hx)).symm
  · rw [flat_turn h _ _ hp]
theorem canPut_flat {T : List SL} {r : SL} (hr : r.pn = 0 ∧ r.ps = 0) (h1 : 1 ≤ r.nd ∧ r.nd ≤ 64 ∧ 0 ≤ r.sl ∧ r.sl < 16) (h2 : tget T (sid r) = none) (h3 : capOK r.k r.o r.s r.b r.r = true) : canPut T r = true := by
  unfold canPut canPl
  rw [h2, h3, decide_eq_true h1, decide_eq_true hr]
  rfl
/-! ### the way -/
def wX (i : Nat) (k : Int) : SL := ⟨i + 1, k, 2, i + 2, 0, 0, 7, 0, 0⟩
def wV (ks : Nat → Int) : Nat → Int
  | 0 => 0
  | i + 1 => wV ks i * 16 + ks i
def NodeAt (x : SL) (j : Nat) : Prop := x.k = 2 ∧ x.o = j + 1 ∧ x.s = 0 ∧ x.b = 0 ∧ 0 ≤ x.r ∧ x.r ≤ 7
theorem node_cap {r o : Int} (hr : 0 ≤ r ∧ r ≤ 7) (ho : 1 ≤ o ∧ o ≤ 64) : capOK 2 o 0 0 r = true := capOK_iff.2 ⟨by omega, .inl (by omega), .inr ⟨by omega, by omega, by omega, by decide⟩, .inl (by omega), by omega⟩
theorem node_step {x : SL} {j m : Nat} (h : NodeAt x j) (hj : j < 60) (hm : 1 ≤ m ∧ m ≤ 5) {v : Int} (h0 : 0 ≤ v) (h1 : v < 16 ^ m) : StepOK x.k x.o x.s x.b x.r v ((4 * m : Nat) : Int) := by
  obtain ⟨e1, e2, e3, e4, e5, e6⟩ := h
  rw [e3, e4]
  have hp : (2 : Int) ^ ((4 * m : Nat) : Int).toNat = 16 ^ m := by
    rw [Int.toNat_natCast, Int.pow_mul]; rfl
  refine ⟨e1, node_cap ⟨e5, e6⟩ (by omega), ⟨by omega, by omega, h0, by rw [hp]; exact h1⟩, by omega, ?_⟩
  rw [Int.sub_zero, hp]
  exact Int.ediv_eq_zero_of_lt h0 h1
theorem pow_4m (m : Nat) : (2 : Int) ^ ((4 * m : Nat) : Int).toNat = 16 ^ m := by
  rw [Int.toNat_natCast, Int.pow_mul]; rfl
theorem node_go {T : List SL} {x y : SL} {j m f : Nat} (h : NodeAt x j) (hj : j < 60) (hm : 1 ≤ m ∧ m ≤ 4) {v : Int} (h0 : 0 ≤ v) (h1 : v < 16 ^ (m + 1)) {k : Int} (hk : v / 16 ^ m % 16 = k) (hg : tget T ((j : Int) + 1, k) = some y) :
    lfind T (f + 1) x v ((4 * (m + 1) : Nat) : Int) = lfind T f y (v % 16 ^ m) ((4 * m : Nat) : Int) := by
  have hs := node_step h hj (m := m + 1) (by omega) h0 h1
  obtain ⟨e1, e2, e3, e4, e5, e6⟩ := h
  exact lfind_go hs (e := ((4 * m : Nat) : Int)) (k := k) (by omega) (by rw [e3]; omega) (by rw [pow_4m]; exact hk) (by rw [pow_4m]) (by rw [e2]; exact hg)
theorem node_none {T : List SL} {x : SL} {j m f : Nat} (h : NodeAt x j) (hj : j < 60) (hm : 1 ≤ m ∧ m ≤ 4) {v : Int} (h0 : 0 ≤ v) (h1 : v < 16 ^ (m + 1)) {k : Int} (hk : v / 16 ^ m % 16 = k) (hg : tget T ((j : Int) + 1, k) = none) :
    lfind T (f + 1) x v ((4 * (m + 1) : Nat) : Int) = ((0, 0), 2) := by
  have hs := node_step h hj (m := m + 1) (by omega) h0 h1
  obtain ⟨e1, e2, e3, e4, e5, e6⟩ := h
  have he : ((4 * (m + 1) : Nat) : Int) - x.s - 4 = ((4 * m : Nat) : Int) := by rw [e3]; omega
  rw [lfind, if_pos hs, he, if_neg (by omega), pow_4m, hk, e2, hg]
theorem node_end {T : List SL} {x : SL} {j f : Nat} (h : NodeAt x j) (hj : j < 60) {v : Int} (h0 : 0 ≤ v) (h1 : v < 16) : lfind T (f + 1) x v 4 = (((j : Int) + 1, v), 0) := by
  have hs : StepOK x.k x.o x.s x.b x.r v 4 := node_step h hj (m := 1) (by omega) h0 (by rw [Int.pow_one]; exact h1)
  obtain ⟨e1, e2, e3, e4, e5, e6⟩ := h
  rw [lfind_end hs (by rw [e3]; rfl) (Int.emod_eq_of_lt h0 h1), e2]
theorem wV_div (ks : Nat → Int) (hk : ∀ j, 0 ≤ ks j ∧ ks j < 16) (i : Nat) : ∀ m : Nat, wV ks (i + m) / 16 ^ m = wV ks i := by
  intro m
  induction m with
  | zero => show wV ks i / 16 ^ 0 = _; rw [Int.pow_zero, Int.ediv_one]
  | succ m ih =>
    have h := hk (i + m)
    show (wV ks (i + m) * 16 + ks (i + m)) / 16 ^ (m + 1) = _
    rw [Int.pow_succ, Int.mul_comm (16 ^ m) 16, Int.ediv_ediv_of_nonneg (by omega) |>.symm, ← ih]
    congr 1
    omega
theorem wV_dig (ks : Nat → Int) (hk : ∀ j, 0 ≤ ks j ∧ ks j < 16) (i m : Nat) : wV ks (i + 1 + m) / 16 ^ m % 16 = ks i := by
  rw [wV_div ks hk (i + 1) m]
  have h := hk i
  show (wV ks i * 16 + ks i) % 16 = _
  omega
theorem wV_le (ks : Nat → Int) (hk : ∀ j, 0 ≤ ks j ∧ ks j < 16) : ∀ n : Nat, 0 ≤ wV ks n ∧ wV ks n < 16 ^ n := by
  intro n
  induction n with
  | zero => exact ⟨Int.le_refl _, by show (0 : Int) < 1; decide⟩
  | succ n ih =>
    have h := hk n
    rw [Int.pow_succ]
    unfold wV
    omega
theorem pow16_pos (m : Nat) : (0 : Int) < 16 ^ m := Int.pow_pos (by decide)
/-- As far as the nodes are there. -/
theorem path_go {T : List SL} {ks : Nat → Int} (hk : ∀ j, 0 ≤ ks j ∧ ks j < 16) (n : Nat) (hn : n ≤ 5) : ∀ (m j f : Nat) (x : SL), j + m + 1 ≤ n → NodeAt x j → (∀ i, j ≤ i → i < j + m → tget T ((i : Int) + 1, ks i) = some (wX i (ks i))) →
    ∃ y, NodeAt y (j + m) ∧ lfind T (f + m) x (wV ks n % 16 ^ (n - j)) ((4 * (n - j) : Nat) : Int) = lfind T f y (wV ks n % 16 ^ (n - (j + m))) ((4 * (n - (j + m)) : Nat) : Int) := by
  intro m
  induction m with
  | zero => intro j f x _ hx _; exact ⟨x, hx, rfl⟩
  | succ m ih =>
    intro j f x hj hx hg
    obtain ⟨M, hM⟩ : ∃ M, n - j = M + 1 := ⟨n - j - 1, by omega⟩
    have hM2 : n - (j + 1) = M := by omega
    have hn2 : n = j + 1 + M := by omega
    have hdig : wV ks n / 16 ^ M % 16 = ks j := by rw [hn2]; exact wV_dig ks hk j M
    have hp := pow16_pos (M + 1)
    have hd : (wV ks n % 16 ^ (M + 1)) / 16 ^ M % 16 = ks j := by
      rw [← hdig]
      have e : wV ks n / 16 ^ M = (wV ks n % 16 ^ (M + 1)) / 16 ^ M + wV ks n / 16 ^ (M + 1) * 16 := by
        have h1 := Int.emod_add_mul_ediv (wV ks n) (16 ^ (M + 1))
        conv => lhs; rw [← h1]
        rw [show (16 : Int) ^ (M + 1) * (wV ks n / 16 ^ (M + 1)) = (wV ks n / 16 ^ (M + 1) * 16) * 16 ^ M by rw [Int.pow_succ, Int.mul_comm, Int.mul_comm (16 ^ M) 16, Int.mul_assoc]]
        rw [Int.add_mul_ediv_right _ _ (by have := pow16_pos M; omega)]
      omega
    have hgo := node_go (f := f + m) hx (by omega) (m := M) (by omega) (Int.emod_nonneg _ (by omega)) (Int.emod_lt_of_pos _ hp) hd (hg j (Nat.le_refl _) (by omega))
    have hy : NodeAt (wX j (ks j)) (j + 1) := ⟨rfl, by show (j : Int) + 2 = _; omega, rfl, rfl, show (0 : Int) ≤ 7 by decide, show (7 : Int) ≤ 7 by decide⟩
    obtain ⟨y, hy1, hy2⟩ := ih (j + 1) f (wX j (ks j)) (by omega) hy (fun i h1 h2 => hg i (by omega) (by omega))
    refine ⟨y, by rw [show j + (m + 1) = j + 1 + m by omega]; exact hy1, ?_⟩
    rw [show j + (m + 1) = j + 1 + m by omega, ← hy2, hM, hM2, show f + (m + 1) = f + m + 1 by omega, hgo, Int.emod_emod_of_dvd _ ⟨16, by rw [Int.pow_succ]⟩]
theorem wV_emod (ks : Nat → Int) (hk : ∀ j, 0 ≤ ks j ∧ ks j < 16) (n : Nat) : wV ks n % 16 ^ n = wV ks n := Int.emod_eq_of_lt (wV_le ks hk n).1 (wV_le ks hk n).2
theorem wV_dig2 (ks : Nat → Int) (hk : ∀ j, 0 ≤ ks j ∧ ks j < 16) {n j M : Nat} (h : n = j + 1 + M) : (wV ks n % 16 ^ (M + 1)) / 16 ^ M % 16 = ks j := by
  have hdig : wV ks n / 16 ^ M % 16 = ks j := by rw [h]; exact wV_dig ks hk j M
  rw [← hdig]
  have e : wV ks n / 16 ^ M = (wV ks n % 16 ^ (M + 1)) / 16 ^ M + wV ks n / 16 ^ (M + 1) * 16 := by
    have h1 := Int.emod_add_mul_ediv (wV ks n) (16 ^ (M + 1))
    conv => lhs; rw [← h1]
    rw [show (16 : Int) ^ (M + 1) * (wV ks n / 16 ^ (M + 1)) = (wV ks n / 16 ^ (M + 1) * 16) * 16 ^ M by rw [Int.pow_succ, Int.mul_comm, Int.mul_comm (16 ^ M) 16, Int.mul_assoc]]
    rw [Int.add_mul_ediv_right _ _ (by have := pow16_pos M; omega)]
  omega
def wA (ks : Nat → Int) (n : Nat) : Int := wV ks n % 16777216 * 256 + (4 * n : Int) % 256
theorem wA_go {T : List SL} {ks : Nat → Int} (hk : ∀ j, 0 ≤ ks j ∧ ks j < 16) {n : Nat} (h1 : 1 ≤ n) (hn : n ≤ 5) : lookF T (rootN 1) (wA ks n) = lfind T 6 (rootN 1) (wV ks n % 16 ^ (n - 0)) ((4 * (n - 0) : Nat) : Int) := by
  have hl := wV_le ks hk n
  have hp : (16 : Int) ^ n ≤ 16 ^ 5 := by
    have := pow_le' (d := 4 * n) (e := 20) (by omega)
    rw [show (16 : Int) = 2 ^ 4 from rfl, ← Int.pow_mul, ← Int.pow_mul]
    exact this
  have hq : (16 : Int) ^ 5 = 1048576 := by decide
  have hm : wV ks n % 16777216 = wV ks n := Int.emod_eq_of_lt hl.1 (by omega)
  unfold wA
  rw [hm, Nat.sub_zero, wV_emod ks hk, lookF_go (v := wV ks n) (d := ((4 * n : Nat) : Int)) (by omega) (by omega) (by omega) (by omega) (by rw [pow_4m]; exact hl.2)]
theorem root_at : NodeAt (rootN 1) 0 := ⟨rfl, rfl, rfl, rfl, show (0 : Int) ≤ 0 by decide, show (0 : Int) ≤ 7 by decide⟩
/-- All nodes are there: to the last slot. -/
theorem way_end {T : List SL} {ks : Nat → Int} (hk : ∀ j, 0 ≤ ks j ∧ ks j < 16) {n : Nat} (hn : n + 1 ≤ 5) (hg : ∀ i, i < n → tget T ((i : Int) + 1, ks i) = some (wX i (ks i))) : lookF T (rootN 1) (wA ks (n + 1)) = (((n : Int) + 1, ks n), 0) := by
  obtain ⟨y, hy1, hy2⟩ := path_go (T := T) hk (n + 1) hn n 0 (5 - n + 1) (rootN 1) (by omega) root_at (fun i _ h => hg i (by omega))
  rw [wA_go hk (by omega) hn, show 6 = 5 - n + 1 + n by omega, hy2]
  have hd := wV_dig2 ks hk (n := n + 1) (j := n) (M := 0) rfl
  have hz : (wV ks (n + 1) % 16 ^ (0 + 1)) % 16 = wV ks (n + 1) % 16 ^ (0 + 1) := by
    show wV ks (n + 1) % 16 % 16 = wV ks (n + 1) % 16
    omega
  rw [Int.pow_zero, Int.ediv_one, hz] at hd
  have hl := hk n
  rw [show n + 1 - (0 + n) = 0 + 1 by omega, hd]
  rw [Nat.zero_add] at hy1
  exact node_end hy1 (by omega) hl.1 hl.2
/-- One is not there, or is another thing. -/
theorem way_cut {T : List SL} {ks : Nat → Int} (hk : ∀ j, 0 ≤ ks j ∧ ks j < 16) {n m : Nat} (hm : m < n) (hn : n + 1 ≤ 5) (hg : ∀ i, i < m → tget T ((i : Int) + 1, ks i) = some (wX i (ks i))) (hx : tget T ((m : Int) + 1, ks m) = none ∨ ∃ y, tget T ((m : Int) + 1, ks m) = some y ∧ ¬ y.k = 2) : lookF T (rootN 1) (wA ks (n + 1)) = ((0, 0), 2) := by
  obtain ⟨y, hy1, hy2⟩ := path_go (T := T) hk (n + 1) hn m 0 (5 - m + 1) (rootN 1) (by omega) root_at (fun i _ h => hg i (by omega))
  rw [wA_go hk (by omega) hn, show 6 = 5 - m + 1 + m by omega, hy2]
  rw [Nat.zero_add] at hy1 ⊢
  obtain ⟨M, hM⟩ : ∃ M, n + 1 - m = M + 1 := ⟨n - m, by omega⟩
  have hd := wV_dig2 ks hk (n := n + 1) (j := m) (M := M) (by omega)
  have hp := pow16_pos (M + 1)
  have h0 := Int.emod_nonneg (wV ks (n + 1)) (b := 16 ^ (M + 1)) (by omega)
  have h1 := Int.emod_lt_of_pos (wV ks (n + 1)) hp
  rw [hM]
  rcases hx with hx | ⟨z, hx, hz⟩
  · exact node_none hy1 (by omega) (by omega) h0 h1 hd hx
  · rw [node_go hy1 (by omega) (by omega) h0 h1 hd hx, show 5 - m = 4 - m + 1 by omega, lfind_no]
    exact fun h => hz h.1
/-! ### both -/
def WT (ks : Nat → Int) (i : Nat) (T : List SL) : Prop := TSorted T ∧ Flat T ∧ T.length ≤ i ∧ (∀ x ∈ T, x.nd ≤ i) ∧ ∀ j, j < i → tget T ((j : Int) + 1, ks j) = some (wX j (ks j))
theorem wt_new (ks : Nat → Int) : WT ks 0 [] := ⟨List.Pairwise.nil, fun x h => (nomatch h), Nat.le_refl _, fun x h => (nomatch h), fun j h => absurd h (Nat.not_lt_zero j)⟩
theorem wt_none {ks : Nat → Int} {i : Nat} {T : List SL} (h : WT ks i T) {a b : Int} (ha : (i : Int) < a) : tget T (a, b) = none := by
  obtain ⟨_, _, _, h4, _⟩ := h
  rw [tget_none]
  intro x hx e
  have := h4 x hx
  unfold sid at e
  injection e with e1 e2
  omega
theorem wt_can {ks : Nat → Int} (hk : ∀ j, 0 ≤ ks j ∧ ks j < 16) {i : Nat} {T : List SL} (h : WT ks i T) (hi : i < 60) : canPut T (wX i (ks i)) = true := by
  have h1 := hk i
  refine canPut_flat ⟨rfl, rfl⟩ ⟨?_, ?_, h1.1, h1.2⟩ (wt_none h (show (i : Int) < (i : Int) + 1 by omega)) (node_cap ⟨by show (0 : Int) ≤ 7; decide, by show (7 : Int) ≤ 7; decide⟩ ⟨?_, ?_⟩)
  · show 1 ≤ (i : Int) + 1; omega
  · show (i : Int) + 1 ≤ 64; omega
  · show 1 ≤ (i : Int) + 2; omega
  · show (i : Int) + 2 ≤ 64; omega
theorem wt_next {ks : Nat → Int} (hk : ∀ j, 0 ≤ ks j ∧ ks j < 16) {i : Nat} {T : List SL} (h : WT ks i T) (hi : i < 60) : WT ks (i + 1) (tput T (wX i (ks i))) := by
  have hc := wt_can hk h hi
  obtain ⟨h1, h2, h3, h4, h5⟩ := h
  refine ⟨tput_sorted h1, flat_put h2 ⟨rfl, rfl⟩, Nat.le_trans (tput_length _ _) (by omega), fun x hx => ?_, fun j hj => ?_⟩
  · rcases (mem_tput hc).1 hx with rfl | hx
    · show (i : Int) + 1 ≤ _; omega
    · have := h4 x hx; omega
  · by_cases e : j = i
    · subst e
      exact tget_tput_self h1 hc
    · rw [tget_tput_other h1 hc ?_]
      · exact h5 j (by omega)
      · exact fun e2 => absurd (show (i : Int) + 1 = (j : Int) + 1 from congrArg Prod.fst e2) (by omega)
def wF (n : Nat) (k o : Int) : SL := ⟨n + 1, k, 3, o, 0, 0, 0, 0, 0⟩
theorem frame_cap {o : Int} (ho : 1 ≤ o ∧ o ≤ 64) : capOK 3 o 0 0 0 = true := capOK_iff.2 ⟨by omega, .inl (by omega), .inl (by omega), .inl (by omega), by omega⟩
section
variable {ks : Nat → Int} (hk : ∀ j, 0 ≤ ks j ∧ ks j < 16) {n : Nat} (hn : n + 1 ≤ 5) {T : List SL} (h : WT ks n T)
include hk hn h
theorem ways_find : lookF T (rootN 1) (wA ks (n + 1)) = (((n : Int) + 1, ks n), 0) := way_end hk hn h.2.2.2.2
theorem ways_empty : lookC T (rootN 1) (wA ks (n + 1)) 0 = (sl0, (0, 0), 4) := by
  unfold lookC
  rw [ways_find hk hn h, if_pos rfl]
  show (match tget T ((n : Int) + 1, ks n) with | none => _ | some y => _) = _
  rw [wt_none h (by omega)]
theorem ways_can : canPut T (wF n (ks n) 9) = true := by
  have h1 := hk n
  refine canPut_flat ⟨rfl, rfl⟩ ⟨?_, ?_, h1.1, h1.2⟩ (wt_none h (show (n : Int) < (n : Int) + 1 by omega)) (frame_cap (o := 9) (by decide))
  · show 1 ≤ (n : Int) + 1; omega
  · show (n : Int) + 1 ≤ 64; omega
theorem ways_keeps {i : Nat} (hi : i < n) : tget (tput T (wF n (ks n) 9)) ((i : Int) + 1, ks i) = some (wX i (ks i)) := by
  rw [tget_tput_other h.1 (ways_can hk hn h) ?_]
  · exact h.2.2.2.2 i hi
  · exact fun e2 => absurd (show (n : Int) + 1 = (i : Int) + 1 from congrArg Prod.fst e2) (by omega)
theorem ways_kind (kd : Int) : lookC (tput T (wF n (ks n) 9)) (rootN 1) (wA ks (n + 1)) kd = if kd ≠ 0 ∧ 3 ≠ kd then (sl0, (0, 0), 5) else (wF n (ks n) 9, ((n : Int) + 1, ks n), 0) := by
  have hf := way_end (T := tput T (wF n (ks n) 9)) hk hn fun i hi => ways_keeps hk hn h hi
  unfold lookC
  rw [hf, if_pos rfl]
  show (match tget (tput T (wF n (ks n) 9)) ((n : Int) + 1, ks n) with | none => _ | some y => _) = _
  rw [show ((n : Int) + 1, ks n) = sid (wF n (ks n) 9) from rfl, tget_tput_self h.1 (ways_can hk hn h)]
  rfl
theorem ways_there {m : Nat} (hm : m < n) : (tget (tput T (wF n (ks n) 9)) ((m : Int) + 1, ks m)).isSome = true := by
  rw [ways_keeps hk hn h hm]; rfl
theorem ways_gone {m : Nat} (hm : m < n) : (∀ i, i < m → tget (tkill (tput T (wF n (ks n) 9)) ((m : Int) + 1, ks m)) ((i : Int) + 1, ks i) = some (wX i (ks i))) ∧ tget (tkill (tput T (wF n (ks n) 9)) ((m : Int) + 1, ks m)) ((m : Int) + 1, ks m) = none := by
  have hs := tput_sorted (r := wF n (ks n) 9) h.1
  have hf := flat_put (r := wF n (ks n) 9) h.2.1 ⟨rfl, rfl⟩
  rw [flat_kill hf hs (by show ¬ ((m : Int) + 1 = 0 ∧ _); omega)]
  refine ⟨fun i hi => ?_, tget_tdrop_self _ _⟩
  rw [tget_tdrop_other hs ?_]
  · exact ways_keeps hk hn h (by omega)
  · intro e
    injection e with e1 e2
    omega
theorem ways_cut {m : Nat} (hm : m < n) : lookF (tkill (tput T (wF n (ks n) 9)) ((m : Int) + 1, ks m)) (rootN 1) (wA ks (n + 1)) = ((0, 0), 2) := by
  obtain ⟨h1, h2⟩ := ways_gone hk hn h hm
  exact way_cut hk hm hn h1 (.inl h2)
theorem ways_other {m : Nat} (hm : m < n) : lookF (tput (tkill (tput T (wF n (ks n) 9)) ((m : Int) + 1, ks m)) (wF m (ks m) 5)) (rootN 1) (wA ks (n + 1)) = ((0, 0), 2) := by
  obtain ⟨h1, h2⟩ := ways_gone hk hn h hm
  have hs := tkill_sorted ((m : Int) + 1, ks m) (tput_sorted (r := wF n (ks n) 9) h.1)
  have hc : canPut (tkill (tput T (wF n (ks n) 9)) ((m : Int) + 1, ks m)) (wF m (ks m) 5) = true := by
    have h3 := hk m
    refine canPut_flat ⟨rfl, rfl⟩ ⟨?_, ?_, h3.1, h3.2⟩ h2 (frame_cap (o := 5) (by decide))
    · show 1 ≤ (m : Int) + 1; omega
    · show (m : Int) + 1 ≤ 64; omega
  refine way_cut hk hm hn (fun i hi => ?_) (.inr ⟨wF m (ks m) 5, tget_tput_self hs hc, by show ¬ (3 : Int) = 2; decide⟩)
  rw [tget_tput_other hs hc ?_]
  · exact h1 i hi
  · exact fun e2 => absurd (show (m : Int) + 1 = (i : Int) + 1 from congrArg Prod.fst e2) (by omega)
end
end Go.Proofs.Ythdnajcngnaobaa.Ae
