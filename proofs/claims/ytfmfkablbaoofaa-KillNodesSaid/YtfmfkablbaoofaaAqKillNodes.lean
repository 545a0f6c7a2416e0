/- Equality that the operations tell: bools, numbers, texts, structs of these, what is nil. -/
import Derived.Test.YtfmfkablbaoofaaAgKillNodes
import GoSem.Op.Equal
set_option linter.unusedVariables false
set_option linter.unusedSimpArgs false
namespace Go.Proofs.Ytfmfkablbaoofaa.Ae
open Go
def partV (P : Program) (t : TypeId) (cs : Array Value) (off : Nat) : Option Value :=
  match tagg P t with
  | some true => if tok P t = true then some (.agg (cs.extract off (off + tsz P t))) else none
  | some false => cs[off]?
  | none => none
def eqFs (P : Program) (g : TypeId → Value → Value → Option Bool) (xs ys : Array Value) : List Field → Option Bool
  | [] => some true
  | f :: fs => if f.name ≠ "_" then (partV P f.type xs f.offset).bind fun a => (partV P f.type ys f.offset).bind fun b => (g f.type a b).bind fun r => (eqFs P g xs ys fs).map fun s => r && s else eqFs P g xs ys fs
def eqV (P : Program) : Nat → TypeId → Value → Value → Option Bool
  | 0, _, _, _ => none
  | d + 1, t, u, v =>
    match P.underlying t, u, v with
    | some .bool, .bool a, .bool b => some (a == b)
    | some (.int _), .int k a, .int k' b => if k = k' then some (a == b) else none
    | some .string, .string a, .string b => some (a == b)
    | some (.pointer _), .pointer none, .pointer b => some b.isNone
    | some (.pointer _), .pointer (some _), .pointer none => some false
    | some (.slice _), .slice none _ _, .slice b _ _ => some b.isNone
    | some (.slice _), .slice (some _) _ _, .slice none _ _ => some false
    | some (.map _ _), .map none, .map b => some b.isNone
    | some (.map _ _), .map (some _), .map none => some false
    | some (.struct fs), .agg xs, .agg ys => if P.stoodInHeld t = true then none else eqFs P (eqV P d) xs ys fs.toList
    | _, _, _ => none
theorem awp_part {P : Program} {t : TypeId} {cs : Array Value} {off : Nat} {v : Value} (h : partV P t cs off = some v) {st : PH} {Q : Value → PH → Prop} (q : Q v st) : awp P (part t cs off) st Q := by
  unfold partV at h
  unfold part
  rw [awp_bind]
  split at h
  · rename_i ht
    split at h
    · rename_i hk
      injection h with h
      rw [awp_isAgg ht, if_pos rfl, awp_bind, awp_sizeOf hk]
      subst h; exact q
    · cases h
  · rename_i ht
    rw [awp_isAgg ht, if_neg (by decide), h]
    exact q
  · cases h
theorem eqV_ok {P : Program} : ∀ (d n : Nat) (t : TypeId) (u v : Value) (b : Bool), eqV P d t u v = some b → ∀ (st : PH) (Q : Bool → PH → Prop), Q b st → awp P (Op.equalIn (d + n) t u v) st Q := by
  intro d
  induction d with
  | zero => intro n t u v b h; cases h
  | succ d ih =>
    intro n t u v b h st Q q
    rw [show d + 1 + n = (d + n) + 1 by omega]
    unfold eqV at h
    unfold Op.equalIn
    rw [awp_bind]
    split at h
    · rename_i hu; rw [awp_underlying hu]; injection h with h; subst h; exact q
    · rename_i hu
      rw [awp_underlying hu]
      split at h
      · rename_i hk; injection h with h; subst h; simp only [if_pos hk]; exact q
      · cases h
    · rename_i hu; rw [awp_underlying hu]; injection h with h; subst h; exact q
    · rename_i hu; rw [awp_underlying hu]; injection h with h; subst h; exact q
    · rename_i hu; rw [awp_underlying hu]; injection h with h; subst h; exact q
    · rename_i hu; rw [awp_underlying hu]; injection h with h; subst h; exact q
    · rename_i hu; rw [awp_underlying hu]; injection h with h; subst h; exact q
    · rename_i hu; rw [awp_underlying hu]; injection h with h; subst h; exact q
    · rename_i hu; rw [awp_underlying hu]; injection h with h; subst h; exact q
    · rename_i fs xs ys hu
      rw [awp_underlying hu]
      split at h
      · cases h
      · rename_i hs
        have hs' : P.stoodInHeld t = false := by simpa using hs
        simp only [awp_bind, awp_program, hs', Bool.false_eq_true, if_false]
        rw [← Array.forIn_toList]
        generalize fs.toList = l at h
        clear hu hs hs'
        induction l generalizing b Q st with
        | nil => unfold eqFs at h; injection h with h; subst h; exact q
        | cons f l il =>
          unfold eqFs at h
          simp only [List.forIn_cons, awp_bind]
          split at h
          · rename_i hn
            obtain ⟨a, ha, h⟩ := Option.bind_eq_some_iff.1 h
            obtain ⟨c, hc, h⟩ := Option.bind_eq_some_iff.1 h
            obtain ⟨r, hr, h⟩ := Option.bind_eq_some_iff.1 h
            obtain ⟨s, hs, rfl⟩ := Option.map_eq_some_iff.1 h
            rw [if_pos hn]
            simp only [awp_bind]
            refine awp_part ha (awp_part hc (ih n _ _ _ _ hr _ _ ?_))
            cases r
            · exact q
            · exact il s st Q q hs
          · rename_i hn
            rw [if_neg hn]
            exact il b st Q q h
    · cases h
def eqS (P : Program) (t : TypeId) (u v : Value) : Option Bool :=
  match u, v with
  | .agg _, .agg _ => if P.eqGuardType P.depth t = true then none else eqV P 4 t u v
  | .bool _, .bool _ | .pointer _, .pointer _ | .slice .., .slice .. | .map _, .map _ => eqV P 4 t u v
  | _, _ => none
theorem eqS_ok {P : Program} {t : TypeId} {u v : Value} {b : Bool} (h : eqS P t u v = some b) : EqAt P t u v b := by
  intro neg x y st Q q
  have key : ∀ (R : Bool → PH → Prop), R b st → awp P (Op.equal t u v) st R := by
    intro R hr
    unfold eqS at h
    have h2 : eqV P 4 t u v = some b := by
      split at h
      · split at h
        · cases h
        · exact h
      · exact h
      · exact h
      · exact h
      · exact h
      · cases h
    exact eqV_ok 4 9996 t u v b h2 st R hr
  have g : ∀ (op : BinOp) (R : Unit → PH → Prop), R () st → awp P (eqGuard op t x y u v) st R := by
    intro op R r
    unfold eqS at h
    split at h
    · split at h
      · cases h
      · rename_i hg
        have hg' : P.eqGuardType P.depth t = false := by simpa using hg
        unfold eqGuard
        cases op <;> first
          | exact r
          | (simp only [Bool.not_true, Bool.false_eq_true, if_false, awp_bind, awp_program, hg', Bool.not_false, if_true]; exact r)
    all_goals first | cases h | (cases op <;> exact r)
  have bin : (awp P (binOp .eql t u v) st = awp P (Op.equal t u v >>= fun z => pure (Value.bool z)) st) ∧ (awp P (binOp .neq t u v) st = awp P (Op.equal t u v >>= fun z => pure (Value.bool (!z))) st) := by
    unfold eqS at h
    split at h <;> first | cases h | exact ⟨rfl, rfl⟩
  rw [awp_bind]
  cases neg
  · refine g .eql _ ?_
    show awp P (binOp .eql t u v) st Q
    rw [bin.1, awp_bind]
    exact key (fun z s => Q (.bool z) s) q
  · refine g .neq _ ?_
    show awp P (binOp .neq t u v) st Q
    rw [bin.2, awp_bind]
    exact key (fun z s => Q (.bool (!z)) s) q
end Go.Proofs.Ytfmfkablbaoofaa.Ae
