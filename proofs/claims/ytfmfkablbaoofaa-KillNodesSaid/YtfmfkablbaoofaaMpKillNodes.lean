/- Maps: what looking up, laying in, taking out and going round tell of a map of one's own; no condition beyond the ones that each theorem names. -/
import Derived.Test.YtfmfkablbaoofaaOwKillNodes
import GoSem.Builtin.Delete
import GoSem.Instr.MapUpdate
import GoSem.Instr.MakeMap
import GoSem.Instr.Range
import GoSem.Instr.Next
set_option linter.unusedVariables false
set_option linter.unusedSimpArgs false
namespace Go.Proofs.Ytfmfkablbaoofaa.Ae
open Go

/-! ### a map's rows -/
section
variable {α β : Type} [DecidableEq α]
def mlook : List (α × β) → α → Option β
  | [], _ => none
  | x :: l, k => if k = x.1 then some x.2 else mlook l k
def mput : List (α × β) → α → β → List (α × β)
  | [], k, v => [(k, v)]
  | x :: l, k, v => if k = x.1 then (k, v) :: l else x :: mput l k v
def mdel : List (α × β) → α → List (α × β)
  | [], _ => []
  | x :: l, k => if k = x.1 then l else x :: mdel l k
def findL : List (α × β) → α → Nat → Option (Nat × β)
  | [], _, _ => none
  | x :: l, k, i => if k = x.1 then some (i, x.2) else findL l k (i + 1)
theorem findL_look (k : α) : ∀ (l : List (α × β)) (i : Nat), (findL l k i).map (·.2) = mlook l k := by
  intro l
  induction l with
  | nil => intro i; rfl
  | cons x l ih =>
    intro i
    unfold findL mlook
    split
    · rfl
    · exact ih _
theorem findL_none (k : α) : ∀ (l : List (α × β)) (i : Nat), findL l k i = none → ∀ v, mput l k v = l ++ [(k, v)] ∧ mdel l k = l := by
  intro l
  induction l with
  | nil => intro i _ v; exact ⟨rfl, rfl⟩
  | cons x l ih =>
    intro i h v
    unfold findL at h
    split at h
    · cases h
    · rename_i hk
      obtain ⟨h1, h2⟩ := ih _ h v
      unfold mput mdel
      rw [if_neg hk, if_neg hk, h1, h2]
      exact ⟨rfl, rfl⟩
theorem mdel_none {k : α} : ∀ {l : List (α × β)} {i : Nat}, findL l k i = none → mdel l k = l := by
  intro l
  induction l with
  | nil => intro i _; rfl
  | cons x l ih =>
    intro i h
    unfold findL at h
    split at h
    · cases h
    · rename_i hk
      unfold mdel
      rw [if_neg hk, ih h]
theorem findL_some (k : α) : ∀ (l : List (α × β)) (i j : Nat) (u : β), findL l k i = some (j, u) → i ≤ j ∧ l[j - i]? = some (k, u) ∧ (∀ v, mput l k v = l.set (j - i) (k, v)) ∧ mdel l k = l.eraseIdx (j - i) := by
  intro l
  induction l with
  | nil => intro i j u h; cases h
  | cons x l ih =>
    intro i j u h
    unfold findL at h
    split at h
    · rename_i hk
      injection h with h
      injection h with h1 h2
      subst h1; subst h2; subst hk
      rw [Nat.sub_self]
      refine ⟨Nat.le_refl _, rfl, fun v => ?_, ?_⟩
      · unfold mput; rw [if_pos rfl]; rfl
      · unfold mdel; rw [if_pos rfl]; rfl
    · rename_i hk
      obtain ⟨h1, h2, h3, h4⟩ := ih _ _ _ h
      have e : j - i = (j - (i + 1)) + 1 := by omega
      rw [e]
      refine ⟨by omega, h2, fun v => ?_, ?_⟩
      · unfold mput; rw [if_neg hk, h3 v]; rfl
      · unfold mdel; rw [if_neg hk, h4]; rfl
theorem mem_mput {l : List (α × β)} {k : α} {v : β} : ∀ {x : α}, x ∈ (mput l k v).map (·.1) ↔ x = k ∨ x ∈ l.map (·.1) := by
  induction l with
  | nil => intro x; simp [mput]
  | cons y l ih =>
    intro x
    unfold mput
    split
    · rename_i hk; subst hk; simp
    · rw [List.map_cons, List.mem_cons, ih, List.map_cons, List.mem_cons]
      constructor
      · rintro (h | h | h)
        · exact .inr (.inl h)
        · exact .inl h
        · exact .inr (.inr h)
      · rintro (h | h | h)
        · exact .inr (.inl h)
        · exact .inl h
        · exact .inr (.inr h)
theorem mput_nodup {l : List (α × β)} (k : α) (v : β) (h : (l.map (·.1)).Nodup) : ((mput l k v).map (·.1)).Nodup := by
  induction l with
  | nil => simp [mput]
  | cons y l ih =>
    rw [List.map_cons, List.nodup_cons] at h
    unfold mput
    split
    · rename_i hk; subst hk; rw [List.map_cons, List.nodup_cons]; exact h
    · rename_i hk
      rw [List.map_cons, List.nodup_cons]
      refine ⟨fun hm => ?_, ih h.2⟩
      rcases mem_mput.1 hm with e | e
      · exact hk e.symm
      · exact h.1 e
theorem mdel_sub (l : List (α × β)) (k : α) : (mdel l k).Sublist l := by
  induction l with
  | nil => exact List.Sublist.refl _
  | cons y l ih =>
    unfold mdel
    split
    · exact List.sublist_cons_self _ _
    · exact ih.cons_cons _
theorem mdel_nodup {l : List (α × β)} (k : α) (h : (l.map (·.1)).Nodup) : ((mdel l k).map (·.1)).Nodup := ((mdel_sub l k).map _).nodup h
theorem mlook_none {l : List (α × β)} {k : α} : mlook l k = none ↔ k ∉ l.map (·.1) := by
  induction l with
  | nil => simp [mlook]
  | cons y l ih =>
    unfold mlook
    split
    · rename_i hk; subst hk; simp
    · rename_i hk
      rw [ih, List.map_cons, List.mem_cons]
      exact ⟨fun h e => e.elim hk h, fun h e => h (.inr e)⟩
theorem mlook_mput (l : List (α × β)) (k : α) (v : β) (x : α) : mlook (mput l k v) x = if x = k then some v else mlook l x := by
  induction l with
  | nil =>
    unfold mput mlook
    split
    · rfl
    · rfl
  | cons y l ih =>
    unfold mput
    split
    · rename_i hk
      subst hk
      show (if x = y.1 then some v else mlook l x) = if x = y.1 then some v else if x = y.1 then some y.2 else mlook l x
      by_cases hx : x = y.1
      · rw [if_pos hx, if_pos hx]
      · rw [if_neg hx, if_neg hx, if_neg hx]
    · rename_i hk
      show (if x = y.1 then some y.2 else mlook (mput l k v) x) = if x = k then some v else if x = y.1 then some y.2 else mlook l x
      by_cases hx : x = y.1
      · rw [if_pos hx, if_neg (fun e => hk (e.symm.trans hx)), if_pos hx]
      · rw [if_neg hx, ih]
        by_cases hx2 : x = k
        · rw [if_pos hx2, if_pos hx2]
        · rw [if_neg hx2, if_neg hx2, if_neg hx]
theorem mlook_mdel {l : List (α × β)} (h : (l.map (·.1)).Nodup) (k x : α) : mlook (mdel l k) x = if x = k then none else mlook l x := by
  induction l with
  | nil => show none = if x = k then none else none; split <;> rfl
  | cons y l ih =>
    rw [List.map_cons, List.nodup_cons] at h
    unfold mdel
    split
    · rename_i hk
      subst hk
      by_cases hx : x = y.1
      · rw [if_pos hx, hx]; exact mlook_none.2 h.1
      · rw [if_neg hx]; exact (if_neg hx).symm
    · rename_i hk
      show (if x = y.1 then some y.2 else mlook (mdel l k) x) = if x = k then none else if x = y.1 then some y.2 else mlook l x
      by_cases hx : x = y.1
      · rw [if_pos hx, if_neg (fun e => hk (e.symm.trans hx)), if_pos hx]
      · rw [if_neg hx, ih h.2]
        by_cases hx2 : x = k
        · rw [if_pos hx2, if_pos hx2]
        · rw [if_neg hx2, if_neg hx2, if_neg hx]
theorem mem_mlook {l : List (α × β)} (h : (l.map (·.1)).Nodup) {k : α} {v : β} : mlook l k = some v ↔ (k, v) ∈ l := by
  induction l with
  | nil => simp [mlook]
  | cons y l ih =>
    rw [List.map_cons, List.nodup_cons] at h
    unfold mlook
    rw [List.mem_cons]
    split
    · rename_i hk
      constructor
      · intro e; injection e with e; subst hk; subst e; exact .inl rfl
      · rintro (e | e)
        · subst e; rfl
        · exact absurd (List.mem_map_of_mem (f := (·.1)) e) (by subst hk; exact h.1)
    · rename_i hk
      rw [ih h.2]
      constructor
      · exact fun e => .inr e
      · rintro (e | e)
        · subst e; exact absurd rfl hk
        · exact e
end

/-! ### the model's map -/
/-- Keys that are told apart by what they stand for. -/
structure KeyLaw (P : Program) (kt : TypeId) {α : Type} [DecidableEq α] (enc : α → Value) : Prop where
  eqs : ∃ desc, P.underlying kt = some desc ∧ ((∀ x y, Instr.sameNow desc (enc x) (enc y) = some (decide (x = y))) ∨ (∀ x y, Instr.sameNow desc (enc x) (enc y) = none ∧ eqV P 4 kt (enc x) (enc y) = some (decide (x = y))))
  chk : ∀ e x st (Q : Unit → PH → Prop), Q () st → awp P (Instr.checkKey e 10000 kt (enc x)) st Q
section
variable {P : Program} {α β : Type} {enc : α → Value} {vnc : β → Value} {kt et t : TypeId} {st : PH}
def Kv (enc : α → Value) (vnc : β → Value) (es : List MapEntry) (l : List (α × β)) : Prop := es.map (fun e => (e.key, e.val)) = l.map fun x => (enc x.1, vnc x.2)
theorem Kv.length {es : List MapEntry} {l : List (α × β)} (h : Kv enc vnc es l) : es.length = l.length := by have := congrArg List.length h; simpa using this
theorem kv_cons {e : MapEntry} {es : List MapEntry} {l : List (α × β)} (h : Kv enc vnc (e :: es) l) : ∃ x l', l = x :: l' ∧ e.key = enc x.1 ∧ e.val = vnc x.2 ∧ Kv enc vnc es l' := by
  cases l with
  | nil => cases h
  | cons x l => injection h with h1 h2; injection h1 with h1 h3; exact ⟨x, l, rfl, h1, h3, h2⟩
/-- The entries, the clock that gives them their births. -/
structure EsOK (enc : α → Value) (vnc : β → Value) (es : List MapEntry) (clock : Nat) (l : List (α × β)) : Prop where
  kv : Kv enc vnc es l
  lt : ∀ e ∈ es, e.born < clock
  nd : (es.map (·.born)).Nodup
  keys : (l.map (·.1)).Nodup
/-- A map of one's own; none: nil. -/
def MpA (enc : α → Value) (vnc : β → Value) : Option Nat → List (α × β) → HA
  | none, l => fun _ => l = []
  | some r, l => fun h => ∃ es clock, EsOK enc vnc es.toList clock l ∧ h r = some (.map es clock)
theorem mpa_keys {m : Option Nat} {l : List (α × β)} {L : List HA} (h : Sat (MpA enc vnc m l :: L) st) : (l.map (·.1)).Nodup := by
  obtain ⟨a, b, d, hA, hL, rfl⟩ := h
  cases m with
  | none => rw [show l = [] from hA]; simp
  | some r => obtain ⟨es, clock, ok, _⟩ := hA; exact ok.keys
theorem mpa_get {r : Nat} {l : List (α × β)} {L : List HA} (h : Sat (MpA enc vnc (some r) l :: L) st) : ∃ es clock, EsOK enc vnc es.toList clock l ∧ Sat (Pt r (.map es clock) :: L) st := by
  obtain ⟨a, b, d, ⟨es, clock, ok, hr⟩, hL, rfl⟩ := h
  exact ⟨es, clock, ok, a, b, d, hr, hL, rfl⟩
theorem mpa_set {r : Nat} {l : List (α × β)} {L : List HA} {es : Array MapEntry} {clock : Nat} (ok : EsOK enc vnc es.toList clock l) (h : Sat (Pt r (.map es clock) :: L) st) : Sat (MpA enc vnc (some r) l :: L) st := sat_imp (fun s hs => ⟨es, clock, ok, hs⟩) h
theorem sat_mpa_nil {L : List HA} (h : Sat L st) : Sat (MpA enc vnc none [] :: L) st := ⟨fun _ => none, st, fun _ => .inl rfl, rfl, h, rfl⟩
theorem esOK_nil {clock : Nat} : EsOK enc vnc [] clock [] := ⟨rfl, fun e h => (nomatch h), List.Pairwise.nil, List.Pairwise.nil⟩
theorem map_set' {γ δ : Type} (f : γ → δ) (l : List γ) (i : Nat) (x : γ) : (l.set i x).map f = (l.map f).set i (f x) := List.map_set ..
theorem modify_map {γ δ : Type} (f : γ → δ) (g : γ → γ) (y : δ) (h : ∀ x, f (g x) = y) (l : List γ) : ∀ i, (l.modify i g).map f = (l.map f).set i y := by
  induction l with
  | nil => intro i; cases i <;> simp
  | cons x l ih =>
    intro i
    cases i with
    | zero => simp [h]
    | succ i => simp [ih]
theorem modify_same {γ δ : Type} (f : γ → δ) (g : γ → γ) (h : ∀ x, f (g x) = f x) (l : List γ) : ∀ i, (l.modify i g).map f = l.map f := by
  induction l with
  | nil => intro i; cases i <;> simp
  | cons x l ih =>
    intro i
    cases i with
    | zero => simp [h]
    | succ i => simp [ih]
theorem mem_modify {γ : Type} (g : γ → γ) (l : List γ) : ∀ i x, x ∈ l.modify i g → ∃ y ∈ l, x = y ∨ x = g y := by
  induction l with
  | nil => intro i x h; cases i <;> simp at h
  | cons z l ih =>
    intro i x h
    cases i with
    | zero =>
      simp at h
      rcases h with h | h
      · exact ⟨z, List.mem_cons_self .., .inr h⟩
      · exact ⟨x, List.mem_cons_of_mem _ h, .inl rfl⟩
    | succ i =>
      simp at h
      rcases h with h | h
      · exact ⟨z, List.mem_cons_self .., .inl h⟩
      · obtain ⟨y, hy, e⟩ := ih _ _ h
        exact ⟨y, List.mem_cons_of_mem _ hy, e⟩
theorem eraseIdx_map {γ δ : Type} (f : γ → δ) (l : List γ) : ∀ i, (l.eraseIdx i).map f = (l.map f).eraseIdx i := by
  induction l with
  | nil => intro i; rfl
  | cons x l ih =>
    intro i
    cases i with
    | zero => rfl
    | succ i => simp [ih]
theorem es_at {es : List MapEntry} {l : List (α × β)} (h : Kv enc vnc es l) {i : Nat} {x : α × β} (hx : l[i]? = some x) : ∃ e, es[i]? = some e ∧ e.key = enc x.1 ∧ e.val = vnc x.2 := by
  have := congrArg (fun l => l[i]?) h
  simp only [List.getElem?_map, hx, Option.map_some] at this
  cases e : es[i]? with
  | none => rw [e] at this; cases this
  | some y => rw [e] at this; injection this with this; injection this with t1 t2; exact ⟨y, rfl, t1, t2⟩
variable {L : List HA} {K : Value → PH → Prop} {m : Option Nat} {l : List (α × β)}
theorem semK_makeMap (hS : Sat L st) (h : ∀ r s, Sat (MpA enc vnc (some r) [] :: L) s → K (.map (some r)) s) : SemK P (Instr.makeMap t none) st K := by
  refine swp_of_awp ?_
  intro r hr
  exact h r _ (mpa_set esOK_nil (sat_new hr hS))
/-! ### going round -/
/-- What an iterator has still to come to; the entry that it stands at. -/
structure ItOK (enc : α → Value) (vnc : β → Value) (es : List MapEntry) (clock since last : Nat) (seen : Array Nat) (l rem : List (α × β)) (cur : Option (α × β)) : Prop where
  ok : EsOK enc vnc es clock l
  rem : Kv enc vnc (es.filter fun e => !seen.contains e.born) rem
  lt : ∀ e ∈ es, e.born < since
  le : since ≤ last
  cl : last = clock
  cur : ∀ x, cur = some x → ∃ b e, seen.back? = some b ∧ es.find? (fun e => e.born == b) = some e ∧ e.key = enc x.1 ∧ e.val = vnc x.2
def MpIt (enc : α → Value) (vnc : β → Value) (p : Nat) : Option Nat → List (α × β) → List (α × β) → Option (α × β) → HA
  | none, l, rem, cur => fun h => (l = [] ∧ rem = [] ∧ cur = none) ∧ ∃ a b c, h p = some (.mapIter none a b c)
  | some r, l, rem, cur => fun h => ∃ es clock since seen last, ItOK enc vnc es.toList clock since last seen l rem cur ∧ Sat [Pt r (.map es clock), Pt p (.mapIter (some r) since seen last)] h
theorem mpit_get {p r : Nat} {rem : List (α × β)} {cur : Option (α × β)} (h : Sat (MpIt enc vnc p (some r) l rem cur :: L) st) : ∃ es clock since seen last, ItOK enc vnc es.toList clock since last seen l rem cur ∧ Sat (Pt r (.map es clock) :: Pt p (.mapIter (some r) since seen last) :: L) st := by
  obtain ⟨a, b, d, ⟨es, clock, since, seen, last, ok, hA⟩, hL, rfl⟩ := h
  exact ⟨es, clock, since, seen, last, ok, sat_app.1 ⟨a, b, d, hA, hL, rfl⟩⟩
theorem mpit_set {p r : Nat} {rem : List (α × β)} {cur : Option (α × β)} {es : Array MapEntry} {clock since last : Nat} {seen : Array Nat} (ok : ItOK enc vnc es.toList clock since last seen l rem cur) (h : Sat (Pt r (.map es clock) :: Pt p (.mapIter (some r) since seen last) :: L) st) : Sat (MpIt enc vnc p (some r) l rem cur :: L) st :=
  sat_imp (fun s hs => ⟨es, clock, since, seen, last, ok, hs⟩) (sat_app.2 h)
theorem mpit_end {p : Nat} {rem : List (α × β)} {cur : Option (α × β)} (h : Sat (MpIt enc vnc p m l rem cur :: L) st) : Sat (MpA enc vnc m l :: L) st := by
  cases m with
  | none =>
    obtain ⟨a, b, d, ⟨⟨rfl, _, _⟩, _⟩, hL, rfl⟩ := h
    exact sat_mpa_nil (sat_lies d.right hL)
  | some r =>
    obtain ⟨es, clock, since, seen, last, ok, hP⟩ := mpit_get h
    exact mpa_set ok.ok (sat_tail (fun _ => sat_drop) hP)
theorem semK_range (hu : P.underlying t = some (.map kt et)) (hS : Sat (MpA enc vnc m l :: L) st) (h : ∀ p s, Sat (MpIt enc vnc p m l l none :: L) s → K (.pointer (some ⟨p, 0, none⟩)) s) : SemK P (Instr.range t (.map m)) st K := by
  refine swp_of_awp ?_
  unfold Instr.range
  rw [awp_bind, awp_underlying hu]
  cases m with
  | none =>
    have hl : l = [] := by obtain ⟨a, b, d, hA, hL, rfl⟩ := hS; exact hA
    subst hl
    intro p hp
    refine h p _ (sat_imp (fun s hs => ⟨⟨rfl, rfl, rfl⟩, _, _, _, hs⟩) (sat_new hp (sat_drop hS)))
  | some r =>
    obtain ⟨es, clock, ok, hP⟩ := mpa_get hS
    refine ⟨_, sat_pt hP, rfl, ?_⟩
    intro p hp
    refine h p _ (mpit_set (since := clock) (seen := #[]) (last := clock) ⟨ok, ?_, ok.lt, Nat.le_refl _, rfl, fun _ e => by cases e⟩ (sat_swap (sat_new hp hP)))
    rw [List.filter_eq_self.2 (fun e _ => by simp)]
    exact ok.kv
theorem find_born {es : List MapEntry} (hn : (es.map (·.born)).Nodup) {e : MapEntry} (he : e ∈ es) : es.find? (fun x => x.born == e.born) = some e := by
  induction es with
  | nil => cases he
  | cons x es ih =>
    rw [List.map_cons, List.nodup_cons] at hn
    rcases List.mem_cons.1 he with rfl | h
    · rw [List.find?_cons]; simp
    · have hne : x.born ≠ e.born := fun e2 => hn.1 (by rw [e2]; exact List.mem_map_of_mem (f := (·.born)) h)
      rw [List.find?_cons]
      have : (x.born == e.born) = false := by simpa using hne
      rw [this]
      exact ih hn.2 h
theorem filter_seen (es : List MapEntry) (hn : (es.map (·.born)).Nodup) (q : MapEntry → Bool) {i : Nat} {e : MapEntry} (hi : (es.filter q)[i]? = some e) : es.filter (fun x => !(x.born == e.born) && q x) = (es.filter q).eraseIdx i := by
  rw [← List.filter_filter]
  have hn2 : ((es.filter q).map (·.born)).Nodup := (List.filter_sublist.map _).nodup hn
  generalize es.filter q = fs at hi hn2
  clear hn
  induction fs generalizing i with
  | nil => cases hi
  | cons x fs ih =>
    rw [List.map_cons, List.nodup_cons] at hn2
    cases i with
    | zero =>
      injection hi with hi
      subst hi
      rw [List.filter_cons]
      simp only [beq_self_eq_true, Bool.not_true, Bool.false_eq_true, if_false, List.eraseIdx_cons_zero]
      refine List.filter_eq_self.2 fun y hy => ?_
      have : y.born ≠ x.born := fun e2 => hn2.1 (by rw [← e2]; exact List.mem_map_of_mem (f := (·.born)) hy)
      simpa using this
    | succ i =>
      have hi' : fs[i]? = some e := hi
      have hm : e ∈ fs := List.mem_of_getElem? hi'
      have hne : x.born ≠ e.born := fun e2 => hn2.1 (by rw [e2]; exact List.mem_map_of_mem (f := (·.born)) hm)
      rw [List.filter_cons, if_pos (by simpa using hne), List.eraseIdx_cons_succ, ih hi' hn2.2]
theorem semK_next {p : Nat} {rem : List (α × β)} {cur : Option (α × β)} (hS : Sat (MpIt enc vnc p m l rem cur :: L) st)
    (h0 : rem = [] → ∀ s, Sat (MpIt enc vnc p m l [] cur :: L) s → K (.tuple #[.bool false]) s)
    (h1 : ∀ (i : Nat) (x : α × β), rem[i]? = some x → ∀ s, Sat (MpIt enc vnc p m l (rem.eraseIdx i) (some x) :: L) s → K (.tuple #[.bool true, enc x.1, vnc x.2]) s) : SemK P (Instr.next (.pointer (some ⟨p, 0, none⟩)) false 0) st K := by
  refine swp_of_awp ?_
  unfold Instr.next
  cases m with
  | none =>
    have hS' := hS
    obtain ⟨a, b, d, ⟨⟨rfl, rfl, rfl⟩, x, y, z, hp⟩, hL, rfl⟩ := hS
    refine ⟨_, uni_some hp, rfl, ?_⟩
    exact h0 rfl _ hS'
  | some r =>
    obtain ⟨es, clock, since, seen, last, ok, hP⟩ := mpit_get hS
    refine ⟨_, sat_pt (sat_swap hP), rfl, ?_⟩
    refine ⟨_, sat_pt hP, rfl, ?_⟩
    have hstuck : (!seen.isEmpty && !es.isEmpty && es.all (·.born ≥ last)) = false := by
      cases hes : es.isEmpty with
      | true => simp
      | false =>
        have : es.all (fun e => decide (e.born ≥ last)) = false := by
          rw [Bool.eq_false_iff]
          intro hall
          rw [Array.all_eq_true_iff_forall_mem] at hall
          have hsz : 0 < es.size := by
            rcases Nat.eq_zero_or_pos es.size with h | h
            · rw [Array.isEmpty_iff_size_eq_zero.2 h] at hes; cases hes
            · exact h
          have hm : es[0] ∈ es := Array.getElem_mem hsz
          have := of_decide_eq_true (hall _ hm)
          have := ok.lt _ (Array.mem_toList_iff.2 hm)
          have := ok.le
          omega
        rw [this]; simp
    show awp P (if (!seen.isEmpty && !es.isEmpty && es.all (·.born ≥ last)) = true then _ else _) st K
    rw [hstuck, if_neg (by decide)]
    have hold : (es.filter fun e => !seen.contains e.born).filter (fun e => decide (e.born < since)) = es.filter fun e => !seen.contains e.born := by
      refine Array.filter_eq_self.2 fun e he => ?_
      have := ok.lt e (Array.mem_toList_iff.2 (Array.mem_filter.1 he).1)
      simpa using this
    have hnew : (es.filter fun e => !seen.contains e.born).filter (fun e => decide (e.born ≥ since)) = #[] := by
      refine Array.filter_eq_empty_iff.2 fun e he => ?_
      have := ok.lt e (Array.mem_toList_iff.2 (Array.mem_filter.1 he).1)
      simp; omega
    simp only [hold, hnew, Array.append_empty]
    generalize hLf : es.filter (fun e => !seen.contains e.born) = lf
    have hLl : lf.toList = es.toList.filter fun e => !seen.contains e.born := by rw [← hLf, Array.toList_filter]
    have hrem := ok.rem
    rw [← hLl] at hrem
    have hlen := hrem.length
    show awp P (choose _ >>= _) st K
    rw [awp_bind]
    have fin : ∀ n, n < ((if lf.isEmpty = true then #[none] else #[]) ++ lf.map some : Array (Option MapEntry)).size → awp P (match ((if lf.isEmpty = true then #[none] else #[]) ++ lf.map some : Array (Option MapEntry))[n]? with
        | some (some e) => do
          setObj p (.mapIter (some r) since (seen.push e.born) clock)
          pure (Value.tuple #[.bool true, e.key, e.val])
        | some none => pure (Value.tuple #[.bool false])
        | none => stuck "Next: no such candidate") st K := by
      intro n hn
      cases hemp : lf.isEmpty with
      | true =>
        have hz : lf = #[] := Array.isEmpty_iff.1 hemp
        subst hz
        have hr0 : rem = [] := List.eq_nil_of_length_eq_zero (by rw [← hlen]; rfl)
        rw [hemp, if_pos rfl] at hn
        have hn0 : n = 0 := by simp at hn; omega
        subst hn0
        rw [if_pos rfl]
        subst hr0
        have e1 : (#[none] ++ Array.map some #[] : Array (Option MapEntry))[0]? = some none := by simp
        rw [e1]
        exact h0 rfl _ hS
      | false =>
        rw [hemp, if_neg (by decide)] at hn
        rw [if_neg (by decide)]
        have hn' : n < lf.size := by simpa using hn
        have hn2 : n < rem.length := by rw [← hlen, Array.length_toList]; exact hn'
        have hx : rem[n]? = some rem[n] := List.getElem?_eq_getElem hn2
        obtain ⟨e, he, he1, he2⟩ := es_at hrem hx
        have he' : lf[n]? = some e := by rw [← Array.getElem?_toList]; exact he
        have e1 : (#[] ++ lf.map some : Array (Option MapEntry))[n]? = some (some e) := by simp [he']
        rw [e1]
        show awp P (setObj p (.mapIter (some r) since (seen.push e.born) clock) >>= _) st K
        refine ⟨_, sat_pt (sat_swap hP), rfl, ?_⟩
        show K (.tuple #[.bool true, e.key, e.val]) _
        rw [he1, he2]
        refine h1 n _ hx _ (mpit_set (since := since) (seen := seen.push e.born) (last := clock) ⟨ok.ok, ?_, ok.lt, by have := ok.le; have := ok.cl; omega, rfl, ?_⟩ (sat_swap (sat_upd (sat_swap hP))))
        · have hq : (es.toList.filter fun x => !(seen.push e.born).contains x.born) = lf.toList.eraseIdx n := by
            rw [hLl, ← filter_seen es.toList ok.ok.nd _ (by rw [← hLl]; exact he)]
            refine List.filter_congr fun x _ => ?_
            rw [Array.contains_push, Bool.not_or, Bool.and_comm]
          rw [hq]
          unfold Kv
          rw [eraseIdx_map, eraseIdx_map, hrem]
        · intro x hxe
          injection hxe with hxe
          subst hxe
          have hmem : e ∈ es.toList := by
            have := List.mem_of_getElem? he
            rw [hLl] at this
            exact (List.mem_filter.1 this).1
          exact ⟨e.born, e, by simp, find_born ok.ok.nd hmem, he1, he2⟩
    show (if (Question.mapNext _).forced = true then _ else _)
    have hpos : 0 < ((if lf.isEmpty = true then #[none] else #[]) ++ lf.map some : Array (Option MapEntry)).size := by
      cases hemp : lf.isEmpty with
      | true => simp; omega
      | false =>
        have : lf.size ≠ 0 := fun h => by rw [Array.isEmpty_iff_size_eq_zero.2 h] at hemp; cases hemp
        simp; omega
    generalize ((if lf.isEmpty = true then #[none] else #[]) ++ lf.map some : Array (Option MapEntry)) = C at fin hpos ⊢
    by_cases hf : (Question.mapNext C.size).forced = true
    · rw [if_pos hf]; exact fin 0 hpos
    · rw [if_neg hf]
      intro tt
      exact fin _ (Nat.mod_lt _ hpos)
theorem qr_entry {p : Nat} {rem : List (α × β)} {x : α × β} {KP : Value → Prop} (hS : Sat (MpIt enc vnc p m l rem (some x) :: L) st) (h : KP (.tuple #[enc x.1, vnc x.2])) : QrK P (Instr.entry (.pointer (some ⟨p, 0, none⟩))) st KP := by
  refine ⟨_, swp_of_awp ?_, h⟩
  cases m with
  | none =>
    obtain ⟨a, b, d, ⟨⟨_, _, h3⟩, _⟩, hL, rfl⟩ := hS
    cases h3
  | some r =>
    obtain ⟨es, clock, since, seen, last, ok, hP⟩ := mpit_get hS
    obtain ⟨b, e, hb, he, h1, h2⟩ := ok.cur x rfl
    have e0 : es.find? (fun x => x.born == b) = some e := by rw [← Array.find?_toList]; exact he
    have hcl : (clock != last) = false := by rw [ok.cl]; simp
    refine ⟨_, sat_pt (sat_swap hP), rfl, ?_⟩
    simp only [Sem.bind, hb]
    refine ⟨_, sat_pt hP, rfl, ?_⟩
    simp only [Sem.bind, hcl, Bool.false_eq_true, if_false, e0]
    rw [awp_pure, h1, h2]
    exact ⟨rfl, rfl⟩
variable [DecidableEq α]
theorem awp_findAsking {Q : Option (Nat × Value) → PH → Prop} (k : α) (hk : ∀ x y, eqV P 4 kt (enc x) (enc y) = some (decide (x = y))) : ∀ (es : List MapEntry) (l : List (α × β)) (i : Nat), Kv enc vnc es l → Q ((findL l k i).map fun x => (x.1, vnc x.2)) st → awp P (Instr.findAsking kt (enc k) es i) st Q := by
  intro es
  induction es with
  | nil =>
    intro l i h q
    cases l with
    | nil => exact q
    | cons x l => cases h
  | cons e es ih =>
    intro l i h q
    obtain ⟨x, l, rfl, h1, h2, h3⟩ := kv_cons h
    unfold Instr.findAsking
    rw [awp_bind, h1]
    refine eqV_ok 4 9996 kt (enc k) (enc x.1) _ (hk k x.1) st _ ?_
    unfold findL at q
    by_cases hx : k = x.1
    · rw [if_pos hx] at q
      rw [decide_eq_true hx, if_pos rfl, h2]
      exact q
    · rw [if_neg hx] at q
      rw [decide_eq_false hx, if_neg (by decide)]
      exact ih l (i + 1) h3 q
theorem findNow_some {desc : TypeDesc} (k : α) (hk : ∀ x y, Instr.sameNow desc (enc x) (enc y) = some (decide (x = y))) : ∀ (es : List MapEntry) (l : List (α × β)) (i : Nat), Kv enc vnc es l → Instr.findNow desc (enc k) es i = some ((findL l k i).map fun x => (x.1, vnc x.2)) := by
  intro es
  induction es with
  | nil =>
    intro l i h
    cases l with
    | nil => rfl
    | cons x l => cases h
  | cons e es ih =>
    intro l i h
    obtain ⟨x, l, rfl, h1, h2, h3⟩ := kv_cons h
    unfold Instr.findNow findL
    rw [h1, hk]
    by_cases hx : k = x.1
    · rw [decide_eq_true hx, if_pos hx, h2]; rfl
    · rw [decide_eq_false hx, if_neg hx]
      exact ih l (i + 1) h3
theorem awp_findKey {Q : Option (Nat × Value) → PH → Prop} (hk : KeyLaw P kt enc) (k : α) {es : List MapEntry} {l : List (α × β)} (h : Kv enc vnc es l) (q : Q ((findL l k 0).map fun x => (x.1, vnc x.2)) st) : awp P (Instr.findKey kt (enc k) es) st Q := by
  obtain ⟨⟨desc, hu, hd⟩, _⟩ := hk
  unfold Instr.findKey
  rw [awp_bind, awp_underlying hu]
  rcases hd with hd | hd
  · rw [findNow_some k hd es l 0 h]
    exact q
  · cases es with
    | nil =>
      cases l with
      | nil => exact q
      | cons x l => cases h
    | cons e es =>
      have h' := h
      obtain ⟨x, l, rfl, h1, h2, h3⟩ := kv_cons h
      have e1 : Instr.findNow desc (enc k) (e :: es) 0 = none := by unfold Instr.findNow; rw [h1, (hd k x.1).1]
      rw [e1]
      exact awp_findAsking k (fun x y => (hd x y).2) _ _ 0 h' q
theorem EsOK.push {es : List MapEntry} {clock : Nat} {l : List (α × β)} (ok : EsOK enc vnc es clock l) (k : α) (v : β) (hf : findL l k 0 = none) : EsOK enc vnc (es ++ [{ key := enc k, val := vnc v, born := clock }]) (clock + 1) (mput l k v) := by
  have e := (findL_none k l 0 hf v).1
  refine ⟨?_, ?_, ?_, mput_nodup k v ok.keys⟩
  · unfold Kv; rw [e, List.map_append, List.map_append, ok.kv]; rfl
  · intro x hx
    rcases List.mem_append.1 hx with h | h
    · exact Nat.lt_succ_of_lt (ok.lt x h)
    · rw [List.mem_singleton.1 h]; exact Nat.lt_succ_self _
  · rw [List.map_append, List.nodup_append]
    refine ⟨ok.nd, by simp, fun a ha b hb e => ?_⟩
    simp only [List.map_cons, List.map_nil, List.mem_singleton] at hb
    obtain ⟨x, hx, rfl⟩ := List.mem_map.1 ha
    exact absurd (ok.lt x hx) (by omega)
theorem EsOK.modify {es : List MapEntry} {clock : Nat} {l : List (α × β)} (ok : EsOK enc vnc es clock l) (k : α) (v u : β) (j : Nat) (hf : findL l k 0 = some (j, u)) : EsOK enc vnc (es.modify j fun e => { e with key := enc k, val := vnc v }) clock (mput l k v) := by
  obtain ⟨h1, h2, h3, h4⟩ := findL_some k l 0 j u hf
  rw [Nat.sub_zero] at h2 h3 h4
  refine ⟨?_, ?_, ?_, mput_nodup k v ok.keys⟩
  · unfold Kv
    rw [h3 v, map_set', modify_map (fun e : MapEntry => (e.key, e.val)) (fun e => { e with key := enc k, val := vnc v }) (enc k, vnc v) (fun _ => rfl), ok.kv]
  · intro x hx
    obtain ⟨y, hy, e⟩ := mem_modify _ _ _ _ hx
    rcases e with rfl | rfl
    · exact ok.lt _ hy
    · exact ok.lt y hy
  · rw [modify_same (fun e : MapEntry => e.born) (fun e => { e with key := enc k, val := vnc v }) (fun _ => rfl)]; exact ok.nd
theorem EsOK.erase {es : List MapEntry} {clock : Nat} {l : List (α × β)} (ok : EsOK enc vnc es clock l) (k : α) (u : β) (j : Nat) (hf : findL l k 0 = some (j, u)) : EsOK enc vnc (es.eraseIdx j) clock (mdel l k) := by
  obtain ⟨h1, h2, h3, h4⟩ := findL_some k l 0 j u hf
  rw [Nat.sub_zero] at h2 h3 h4
  refine ⟨?_, fun x hx => ok.lt x (List.mem_of_mem_eraseIdx hx), ?_, mdel_nodup k ok.keys⟩
  · unfold Kv
    rw [h4, eraseIdx_map, eraseIdx_map, ok.kv]
  · exact ((List.eraseIdx_sublist _ _).map _).nodup ok.nd
theorem awp_lookup (hu : P.underlying t = some (.map kt et)) (hk : KeyLaw P kt enc) {z : Value} (hz : tzero P et = some z) (k : α) (ok : Bool) (hS : Sat (MpA enc vnc m l :: L) st)
    (h : K (if ok then .tuple #[((mlook l k).map vnc).getD z, .bool (mlook l k).isSome] else ((mlook l k).map vnc).getD z) st) : awp P (Instr.lookup t (.map m) (enc k) ok) st K := by
  unfold Instr.lookup
  show awp P (underlying t >>= _) st K
  rw [awp_bind, awp_underlying hu]
  have key : ∀ es : Array MapEntry, Kv enc vnc es.toList l → awp P (do
      Instr.checkKey es.isEmpty 10000 kt (enc k)
      let (v, ok') ← match ← Instr.findKey kt (enc k) es.toList with
        | some (_, v) => pure (v, true)
        | none => pure (← zeroValue et, false)
      pure (if ok then Value.tuple #[v, .bool ok'] else v)) st K := by
    intro es hes
    rw [awp_bind]
    refine hk.chk _ _ _ _ ?_
    rw [awp_bind]
    refine awp_findKey hk k hes ?_
    have e := findL_look k l 0
    cases hf : findL l k 0 with
    | none =>
      rw [hf] at e
      rw [← e] at h
      show awp P (zeroValue et >>= _) st _
      rw [awp_bind, awp_zeroValue hz]
      cases ok <;> exact h
    | some x =>
      rw [hf] at e
      rw [← e] at h
      cases ok <;> exact h
  cases m with
  | none =>
    obtain ⟨a, b, d, hA, hL, rfl⟩ := hS
    have hl : l = [] := hA
    subst hl
    exact key #[] rfl
  | some r =>
    obtain ⟨es, clock, eok, hP⟩ := mpa_get hS
    exact ⟨_, sat_pt hP, rfl, key es eok.kv⟩
theorem qr_some {KP : Value → Prop} (hu : P.underlying t = some (.map kt et)) (hk : KeyLaw P kt enc) {z : Value} (hz : tzero P et = some z) {k : α} {ok : Bool} {v : β} (hS : Sat (MpA enc vnc m l :: L) st) (hl : mlook l k = some v)
    (h : KP (if ok = true then .tuple #[vnc v, .bool true] else vnc v)) : QrK P (Instr.lookup t (.map m) (enc k) ok) st KP :=
  ⟨_, swp_of_awp (awp_lookup hu hk hz k ok hS ⟨rfl, rfl⟩), by rw [hl]; exact h⟩
theorem qr_none {KP : Value → Prop} (hu : P.underlying t = some (.map kt et)) (hk : KeyLaw P kt enc) {z : Value} (hz : tzero P et = some z) {k : α} {ok : Bool} (hS : Sat (MpA enc vnc m l :: L) st) (hl : mlook l k = none)
    (h : KP (if ok = true then .tuple #[z, .bool false] else z)) : QrK P (Instr.lookup t (.map m) (enc k) ok) st KP :=
  ⟨_, swp_of_awp (awp_lookup hu hk hz k ok hS ⟨rfl, rfl⟩), by rw [hl]; exact h⟩
theorem semU_update {r : Nat} (hu : P.underlying t = some (.map kt et)) (hk : KeyLaw P kt enc) (k : α) (v : β) (hS : Sat (MpA enc vnc (some r) l :: L) st)
    (h : ∀ s, Sat (MpA enc vnc (some r) (mput l k v) :: L) s → K undef s) : SemU P (Instr.mapUpdate t (.map (some r)) (enc k) (vnc v)) st K := by
  refine swp_of_awp ?_
  unfold Instr.mapUpdate
  show awp P (underlying t >>= _) st _
  rw [awp_bind, awp_underlying hu]
  obtain ⟨es, clock, eok, hP⟩ := mpa_get hS
  refine ⟨_, sat_pt hP, rfl, ?_⟩
  show awp P (Instr.checkKey false 10000 kt (enc k) >>= _) st _
  rw [awp_bind]
  refine hk.chk _ _ _ _ ?_
  rw [awp_bind]
  refine awp_findKey hk k eok.kv ?_
  cases hf : findL l k 0 with
  | none =>
    refine ⟨_, sat_pt hP, rfl, h _ ?_⟩
    refine mpa_set ?_ (sat_upd hP)
    rw [Array.toList_push]
    exact eok.push k v hf
  | some x =>
    obtain ⟨j, u⟩ := x
    obtain ⟨h1, h2, h3, h4⟩ := findL_some k l 0 j u hf
    rw [Nat.sub_zero] at h2
    obtain ⟨e, he, he1, he2⟩ := es_at eok.kv h2
    rw [Array.getElem?_toList] at he
    show awp P (Instr.keyThatStays (((es[j]?).map (·.key)).getD (enc k)) (enc k) >>= _) st _
    rw [he]
    simp only [Option.map_some, Option.getD_some, he1]
    have fin : awp P (setObj r (.map (es.modify j fun e => { e with key := enc k, val := vnc v }) clock)) st (fun _ st' => K undef st') := by
      refine ⟨_, sat_pt hP, rfl, h _ ?_⟩
      refine mpa_set ?_ (sat_upd hP)
      rw [Array.toList_modify]
      exact eok.modify k v u j hf
    rw [awp_bind]
    unfold Instr.keyThatStays
    split
    · exact fin
    · rw [awp_bind]
      show (if (Question.extern "map.whichKeyStays" 2).forced = true then _ else _)
      split
      · show awp P (pure (if (0 : Nat) = 0 then enc k else enc k)) st (fun x st' => awp P (setObj r (Obj.map (es.modify j fun e => { key := x, val := vnc v, born := e.born }) clock)) st' fun x st' => K undef st')
        rw [ite_self]; exact fin
      · intro tt
        show awp P (pure (if (Question.extern "map.whichKeyStays" 2).cut tt = 0 then enc k else enc k)) st (fun x st' => awp P (setObj r (Obj.map (es.modify j fun e => { key := x, val := vnc v, born := e.born }) clock)) st' fun x st' => K undef st')
        rw [ite_self]; exact fin
theorem semK_delete (hu : P.underlying t = some (.map kt et)) (hk : KeyLaw P kt enc) (k : α) {ts : Array TypeId} (hts : ts[0]? = some t) (hS : Sat (MpA enc vnc m l :: L) st)
    (h : ∀ s, Sat (MpA enc vnc m (mdel l k) :: L) s → K (.tuple #[]) s) : SemK P (Builtin.delete_ ts 0 [.map m, enc k].toArray) st K := by
  refine swp_of_awp ?_
  unfold Builtin.delete_
  rw [hts]
  show awp P (underlying t >>= _) st K
  rw [awp_bind, awp_underlying hu]
  cases m with
  | none =>
    have hS' := hS
    obtain ⟨a, b, d, hA, hL, rfl⟩ := hS
    have hl : l = [] := hA
    subst hl
    show awp P (Instr.checkKey true 10000 kt (enc k) >>= _) _ K
    rw [awp_bind]
    refine hk.chk _ _ _ _ ?_
    exact h _ hS'
  | some r =>
    obtain ⟨es, clock, eok, hP⟩ := mpa_get hS
    refine ⟨_, sat_pt hP, rfl, ?_⟩
    show awp P (Instr.checkKey es.isEmpty 10000 kt (enc k) >>= _) st K
    rw [awp_bind]
    refine hk.chk _ _ _ _ ?_
    rw [awp_bind]
    refine awp_findKey hk k eok.kv ?_
    cases hf : findL l k 0 with
    | none =>
      refine ⟨_, sat_pt hP, rfl, h _ ?_⟩
      rw [mdel_none hf]
      exact mpa_set eok (sat_upd hP)
    | some x =>
      obtain ⟨j, u⟩ := x
      refine ⟨_, sat_pt hP, rfl, h _ ?_⟩
      refine mpa_set ?_ (sat_upd hP)
      rw [Array.toList_eraseIdxIfInBounds]
      exact eok.erase k u j hf
end
end Go.Proofs.Ytfmfkablbaoofaa.Ae
