/- Maps: what looking up, laying in, taking out and going round tell of a map of one's own; no condition beyond the ones that each theorem names. -/
import Derived.Test.YthdnajcngnaobaaOwLookSays
import GoSem.Builtin.Delete
import GoSem.Instr.MapUpdate
import GoSem.Instr.MakeMap
import GoSem.Instr.Range
import GoSem.Instr.Next
set_option linter.unusedVariables false
set_option linter.unusedSimpArgs false
namespace Go.Proofs.Ythdnajcngnaobaa.Ae
open Go

/-! ### a map's rows -/
section
variable {α β : Type} [DecidableEq α]
def mlook : List (α × β) → α → Option β
  | [], _ => none
  | x :: l, k => if k = x.1 then some x.2 else mlook l k
def mput : List (α × β) → α → β → List (α × β)
  | [], k, v => [(k, v)]
  | x :: l, k, v => if k = x.1 then (k, v) :: l else x :: mput l k v
def mdel : List (α × β) → α → List (α × β)
  | [], _ => []
  | x :: l, k => if k = x.1 then l else x :: mdel l k
def findL : List (α × β) → α → Nat → Option (Nat × β)
  | [], _, _ => none
  | x :: l, k, i => if k = x.1 then some (i, x.2) else findL l k (i + 1)
theorem findL_look (k : α) : ∀ (l : List (α × β)) (i : Nat), (findL l k i).map (·.2) = mlook l k := by
  intro l
  induction l with
  | nil => intro i; rfl
  | cons x l ih =>
    intro i
    unfold findL mlook
    split
    · rfl
    · exact ih _
theorem findL_none (k : α) : ∀ (l : List (α × β)) (i : Nat), findL l k i = none → ∀ v, mput l k v = l ++ [(k, v)] ∧ mdel l k = l := by
  intro l
  induction l with
  | nil => intro i _ v; exact ⟨rfl, rfl⟩
  | cons x l ih =>
    intro i h v
    unfold findL at h
    split at h
    · cases h
    · rename_i hk
      obtain ⟨h1, h2⟩ := ih _ h v
      unfold mput mdel
      rw [if_neg hk, if_neg hk, h1, h2]
      exact ⟨rfl, rfl⟩
theorem findL_some (k : α) : ∀ (l : List (α × β)) (i j : Nat) (u : β), findL l k i = some (j, u) → i ≤ j ∧ l[j - i]? = some (k, u) ∧ (∀ v, mput l k v = l.set (j - i) (k, v)) ∧ mdel l k = l.eraseIdx (j - i) := by
  intro l
  induction l with
  | nil => intro i j u h; cases h
  | cons x l ih =>
    intro i j u h
    unfold findL at h
    split at h
    · rename_i hk
      injection h with h
      injection h with h1 h2
      subst h1; subst h2; subst hk
      rw [Nat.sub_self]
      refine ⟨Nat.le_refl _, rfl, fun v => ?_, ?_⟩
      · unfold mput; rw [if_pos rfl]; rfl
      · unfold mdel; rw [if_pos rfl]; rfl
    · rename_i hk
      obtain ⟨h1, h2, h3, h4⟩ := ih _ _ _ h
      have e : j - i = (j - (i + 1)) + 1 := by omega
      rw [e]
      refine ⟨by omega, h2, fun v => ?_, ?_⟩
      · unfold mput; rw [if_neg hk, h3 v]; rfl
      · unfold mdel; rw [if_neg hk, h4]; rfl
theorem mem_mput {l : List (α × β)} {k : α} {v : β} : ∀ {x : α}, x ∈ (mput l k v).map (·.1) ↔ x = k ∨ x ∈ l.map (·.1) := by
  induction l with
  | nil => intro x; simp [mput]
  | cons y l ih =>
    intro x
    unfold mput
    split
    · rename_i hk; subst hk; simp
    · rw [List.map_cons, List.mem_cons, ih, List.map_cons, List.mem_cons]
      constructor
      · rintro (h | h | h)
        · exact .inr (.inl h)
        · exact .inl h
        · exact .inr (.inr h)
      · rintro (h | h | h)
        · exact .inr (.inl h)
        · exact .inl h
        · exact .inr (.inr h)
theorem mput_nodup {l : List (α × β)} (k : α) (v : β) (h : (l.map (·.1)).Nodup) : ((mput l k v).map (·.1)).Nodup := by
  induction l with
  | nil => simp [mput]
  | cons y l ih =>
    rw [List.map_cons, List.nodup_cons] at h
    unfold mput
    split
    · rename_i hk; subst hk; rw [List.map_cons, List.nodup_cons]; exact h
    · rename_i hk
      rw [List.map_cons, List.nodup_cons]
      refine ⟨fun hm => ?_, ih h.2⟩
      rcases mem_mput.1 hm with e | e
      · exact hk e.symm
      · exact h.1 e
theorem mlook_mput (l : List (α × β)) (k : α) (v : β) (x : α) : mlook (mput l k v) x = if x = k then some v else mlook l x := by
  induction l with
  | nil =>
    unfold mput mlook
    split
    · rfl
    · rfl
  | cons y l ih =>
    unfold mput
    split
    · rename_i hk
      subst hk
      show (if x = y.1 then some v else mlook l x) = if x = y.1 then some v else if x = y.1 then some y.2 else mlook l x
      by_cases hx : x = y.1
      · rw [if_pos hx, if_pos hx]
      · rw [if_neg hx, if_neg hx, if_neg hx]
    · rename_i hk
      show (if x = y.1 then some y.2 else mlook (mput l k v) x) = if x = k then some v else if x = y.1 then some y.2 else mlook l x
      by_cases hx : x = y.1
      · rw [if_pos hx, if_neg (fun e => hk (e.symm.trans hx)), if_pos hx]
      · rw [if_neg hx, ih]
        by_cases hx2 : x = k
        · rw [if_pos hx2, if_pos hx2]
        · rw [if_neg hx2, if_neg hx2, if_neg hx]
end

/-! ### the model's map -/
/-- Keys that are told apart by what they stand for. -/
structure KeyLaw (P : Program) (kt : TypeId) {α : Type} [DecidableEq α] (enc : α → Value) : Prop where
  eqs : ∃ desc, P.underlying kt = some desc ∧ ((∀ x y, Instr.sameNow desc (enc x) (enc y) = some (decide (x = y))) ∨ (∀ x y, Instr.sameNow desc (enc x) (enc y) = none ∧ eqV P 4 kt (enc x) (enc y) = some (decide (x = y))))
  chk : ∀ e x st (Q : Unit → PH → Prop), Q () st → awp P (Instr.checkKey e 10000 kt (enc x)) st Q
section
variable {P : Program} {α β : Type} {enc : α → Value} {vnc : β → Value} {kt et t : TypeId} {st : PH}
def Kv (enc : α → Value) (vnc : β → Value) (es : List MapEntry) (l : List (α × β)) : Prop := es.map (fun e => (e.key, e.val)) = l.map fun x => (enc x.1, vnc x.2)
theorem Kv.length {es : List MapEntry} {l : List (α × β)} (h : Kv enc vnc es l) : es.length = l.length := by have := congrArg List.length h; simpa using this
theorem kv_cons {e : MapEntry} {es : List MapEntry} {l : List (α × β)} (h : Kv enc vnc (e :: es) l) : ∃ x l', l = x :: l' ∧ e.key = enc x.1 ∧ e.val = vnc x.2 ∧ Kv enc vnc es l' := by
  cases l with
  | nil => cases h
  | cons x l => injection h with h1 h2; injection h1 with h1 h3; exact ⟨x, l, rfl, h1, h3, h2⟩
/-- The entries, the clock that gives them their births. -/
structure EsOK (enc : α → Value) (vnc : β → Value) (es : List MapEntry) (clock : Nat) (l : List (α × β)) : Prop where
  kv : Kv enc vnc es l
  lt : ∀ e ∈ es, e.born < clock
  nd : (es.map (·.born)).Nodup
  keys : (l.map (·.1)).Nodup
/-- A map of one's own; none: nil. -/
def MpA (enc : α → Value) (vnc : β → Value) : Option Nat → List (α × β) → HA
  | none, l => fun _ => l = []
  | some r, l => fun h => ∃ es clock, EsOK enc vnc es.toList clock l ∧ h r = some (.map es clock)
theorem mpa_get {r : Nat} {l : List (α × β)} {L : List HA} (h : Sat (MpA enc vnc (some r) l :: L) st) : ∃ es clock, EsOK enc vnc es.toList clock l ∧ Sat (Pt r (.map es clock) :: L) st := by
  obtain ⟨a, b, d, ⟨es, clock, ok, hr⟩, hL, rfl⟩ := h
  exact ⟨es, clock, ok, a, b, d, hr, hL, rfl⟩
theorem mpa_set {r : Nat} {l : List (α × β)} {L : List HA} {es : Array MapEntry} {clock : Nat} (ok : EsOK enc vnc es.toList clock l) (h : Sat (Pt r (.map es clock) :: L) st) : Sat (MpA enc vnc (some r) l :: L) st := sat_imp (fun s hs => ⟨es, clock, ok, hs⟩) h
theorem sat_mpa_nil {L : List HA} (h : Sat L st) : Sat (MpA enc vnc none [] :: L) st := ⟨fun _ => none, st, fun _ => .inl rfl, rfl, h, rfl⟩
theorem esOK_nil {clock : Nat} : EsOK enc vnc [] clock [] := ⟨rfl, fun e h => (nomatch h), List.Pairwise.nil, List.Pairwise.nil⟩
theorem map_set' {γ δ : Type} (f : γ → δ) (l : List γ) (i : Nat) (x : γ) : (l.set i x).map f = (l.map f).set i (f x) := List.map_set ..
theorem modify_map {γ δ : Type} (f : γ → δ) (g : γ → γ) (y : δ) (h : ∀ x, f (g x) = y) (l : List γ) : ∀ i, (l.modify i g).map f = (l.map f).set i y := by
  induction l with
  | nil => intro i; cases i <;> simp
  | cons x l ih =>
    intro i
    cases i with
    | zero => simp [h]
    | succ i => simp [ih]
theorem modify_same {γ δ : Type} (f : γ → δ) (g : γ → γ) (h : ∀ x, f (g x) = f x) (l : List γ) : ∀ i, (l.modify i g).map f = l.map f := by
  induction l with
  | nil => intro i; cases i <;> simp
  | cons x l ih =>
    intro i
    cases i with
    | zero => simp [h]
    | succ i => simp [ih]
theorem mem_modify {γ : Type} (g : γ → γ) (l : List γ) : ∀ i x, x ∈ l.modify i g → ∃ y ∈ l, x = y ∨ x = g y := by
  induction l with
  | nil => intro i x h; cases i <;> simp at h
  | cons z l ih =>
    intro i x h
    cases i with
    | zero =>
      simp at h
      rcases h with h | h
      · exact ⟨z, List.mem_cons_self .., .inr h⟩
      · exact ⟨x, List.mem_cons_of_mem _ h, .inl rfl⟩
    | succ i =>
      simp at h
      rcases h with h | h
      · exact ⟨z, List.mem_cons_self .., .inl h⟩
      · obtain ⟨y, hy, e⟩ := ih _ _ h
        exact ⟨y, List.mem_cons_of_mem _ hy, e⟩
theorem es_at {es : List MapEntry} {l : List (α × β)} (h : Kv enc vnc es l) {i : Nat} {x : α × β} (hx : l[i]? = some x) : ∃ e, es[i]? = some e ∧ e.key = enc x.1 ∧ e.val = vnc x.2 := by
  have := congrArg (fun l => l[i]?) h
  simp only [List.getElem?_map, hx, Option.map_some] at this
  cases e : es[i]? with
  | none => rw [e] at this; cases this
  | some y => rw [e] at this; injection this with this; injection this with t1 t2; exact ⟨y, rfl, t1, t2⟩
variable {L : List HA} {K : Value → PH → Prop} {m : Option Nat} {l : List (α × β)}
theorem semK_makeMap (hS : Sat L st) (h : ∀ r s, Sat (MpA enc vnc (some r) [] :: L) s → K (.map (some r)) s) : SemK P (Instr.makeMap t none) st K := by
  refine swp_of_awp ?_
  intro r hr
  exact h r _ (mpa_set esOK_nil (sat_new hr hS))
/-! ### going round -/
variable [DecidableEq α]
theorem awp_findAsking {Q : Option (Nat × Value) → PH → Prop} (k : α) (hk : ∀ x y, eqV P 4 kt (enc x) (enc y) = some (decide (x = y))) : ∀ (es : List MapEntry) (l : List (α × β)) (i : Nat), Kv enc vnc es l → Q ((findL l k i).map fun x => (x.1, vnc x.2)) st → awp P (Instr.findAsking kt (enc k) es i) st Q := by
  intro es
  induction es with
  | nil =>
    intro l i h q
    cases l with
    | nil => exact q
    | cons x l => cases h
  | cons e es ih =>
    intro l i h q
    obtain ⟨x, l, rfl, h1, h2, h3⟩ := kv_cons h
    unfold Instr.findAsking
    rw [awp_bind, h1]
    refine eqV_ok 4 9996 kt (enc k) (enc x.1) _ (hk k x.1) st _ ?_
    unfold findL at q
    by_cases hx : k = x.1
    · rw [if_pos hx] at q
      rw [decide_eq_true hx, if_pos rfl, h2]
      exact q
    · rw [if_neg hx] at q
      rw [decide_eq_false hx, if_neg (by decide)]
      exact ih l (i + 1) h3 q
theorem findNow_some {desc : TypeDesc} (k : α) (hk : ∀ x y, Instr.sameNow desc (enc x) (enc y) = some (decide (x = y))) : ∀ (es : List MapEntry) (l : List (α × β)) (i : Nat), Kv enc vnc es l → Instr.findNow desc (enc k) es i = some ((findL l k i).map fun x => (x.1, vnc x.2)) := by
  intro es
  induction es with
  | nil =>
    intro l i h
    cases l with
    | nil => rfl
    | cons x l => cases h
  | cons e es ih =>
    intro l i h
    obtain ⟨x, l, rfl, h1, h2, h3⟩ := kv_cons h
    unfold Instr.findNow findL
    rw [h1, hk]
    by_cases hx : k = x.1
    · rw [decide_eq_true hx, if_pos hx, h2]; rfl
    · rw [decide_eq_false hx, if_neg hx]
      exact ih l (i + 1) h3
theorem awp_findKey {Q : Option (Nat × Value) → PH → Prop} (hk : KeyLaw P kt enc) (k : α) {es : List MapEntry} {l : List (α × β)} (h : Kv enc vnc es l) (q : Q ((findL l k 0).map fun x => (x.1, vnc x.2)) st) : awp P (Instr.findKey kt (enc k) es) st Q := by
  obtain ⟨⟨desc, hu, hd⟩, _⟩ := hk
  unfold Instr.findKey
  rw [awp_bind, awp_underlying hu]
  rcases hd with hd | hd
  · rw [findNow_some k hd es l 0 h]
    exact q
  · cases es with
    | nil =>
      cases l with
      | nil => exact q
      | cons x l => cases h
    | cons e es =>
      have h' := h
      obtain ⟨x, l, rfl, h1, h2, h3⟩ := kv_cons h
      have e1 : Instr.findNow desc (enc k) (e :: es) 0 = none := by unfold Instr.findNow; rw [h1, (hd k x.1).1]
      rw [e1]
      exact awp_findAsking k (fun x y => (hd x y).2) _ _ 0 h' q
theorem EsOK.push {es : List MapEntry} {clock : Nat} {l : List (α × β)} (ok : EsOK enc vnc es clock l) (k : α) (v : β) (hf : findL l k 0 = none) : EsOK enc vnc (es ++ [{ key := enc k, val := vnc v, born := clock }]) (clock + 1) (mput l k v) := by
  have e := (findL_none k l 0 hf v).1
  refine ⟨?_, ?_, ?_, mput_nodup k v ok.keys⟩
  · unfold Kv; rw [e, List.map_append, List.map_append, ok.kv]; rfl
  · intro x hx
    rcases List.mem_append.1 hx with h | h
    · exact Nat.lt_succ_of_lt (ok.lt x h)
    · rw [List.mem_singleton.1 h]; exact Nat.lt_succ_self _
  · rw [List.map_append, List.nodup_append]
    refine ⟨ok.nd, by simp, fun a ha b hb e => ?_⟩
    simp only [List.map_cons, List.map_nil, List.mem_singleton] at hb
    obtain ⟨x, hx, rfl⟩ := List.mem_map.1 ha
    exact absurd (ok.lt x hx) (by omega)
theorem EsOK.modify {es : List MapEntry} {clock : Nat} {l : List (α × β)} (ok : EsOK enc vnc es clock l) (k : α) (v u : β) (j : Nat) (hf : findL l k 0 = some (j, u)) : EsOK enc vnc (es.modify j fun e => { e with key := enc k, val := vnc v }) clock (mput l k v) := by
  obtain ⟨h1, h2, h3, h4⟩ := findL_some k l 0 j u hf
  rw [Nat.sub_zero] at h2 h3 h4
  refine ⟨?_, ?_, ?_, mput_nodup k v ok.keys⟩
  · unfold Kv
    rw [h3 v, map_set', modify_map (fun e : MapEntry => (e.key, e.val)) (fun e => { e with key := enc k, val := vnc v }) (enc k, vnc v) (fun _ => rfl), ok.kv]
  · intro x hx
    obtain ⟨y, hy, e⟩ := mem_modify _ _ _ _ hx
    rcases e with rfl | rfl
    · exact ok.lt _ hy
    · exact ok.lt y hy
  · rw [modify_same (fun e : MapEntry => e.born) (fun e => { e with key := enc k, val := vnc v }) (fun _ => rfl)]; exact ok.nd
theorem awp_lookup (hu : P.underlying t = some (.map kt et)) (hk : KeyLaw P kt enc) {z : Value} (hz : tzero P et = some z) (k : α) (ok : Bool) (hS : Sat (MpA enc vnc m l :: L) st)
    (h : K (if ok then .tuple #[((mlook l k).map vnc).getD z, .bool (mlook l k).isSome] else ((mlook l k).map vnc).getD z) st) : awp P (Instr.lookup t (.map m) (enc k) ok) st K := by
  unfold Instr.lookup
  show awp P (underlying t >>= _) st K
  rw [awp_bind, awp_underlying hu]
  have key : ∀ es : Array MapEntry, Kv enc vnc es.toList l → awp P (do
      Instr.checkKey es.isEmpty 10000 kt (enc k)
      let (v, ok') ← match ← Instr.findKey kt (enc k) es.toList with
        | some (_, v) => pure (v, true)
        | none => pure (← zeroValue et, false)
      pure (if ok then Value.tuple #[v, .bool ok'] else v)) st K := by
    intro es hes
    rw [awp_bind]
    refine hk.chk _ _ _ _ ?_
    rw [awp_bind]
    refine awp_findKey hk k hes ?_
    have e := findL_look k l 0
    cases hf : findL l k 0 with
    | none =>
      rw [hf] at e
      rw [← e] at h
      show awp P (zeroValue et >>= _) st _
      rw [awp_bind, awp_zeroValue hz]
      cases ok <;> exact h
    | some x =>
      rw [hf] at e
      rw [← e] at h
      cases ok <;> exact h
  cases m with
  | none =>
    obtain ⟨a, b, d, hA, hL, rfl⟩ := hS
    have hl : l = [] := hA
    subst hl
    exact key #[] rfl
  | some r =>
    obtain ⟨es, clock, eok, hP⟩ := mpa_get hS
    exact ⟨_, sat_pt hP, rfl, key es eok.kv⟩
theorem qr_some {KP : Value → Prop} (hu : P.underlying t = some (.map kt et)) (hk : KeyLaw P kt enc) {z : Value} (hz : tzero P et = some z) {k : α} {ok : Bool} {v : β} (hS : Sat (MpA enc vnc m l :: L) st) (hl : mlook l k = some v)
    (h : KP (if ok = true then .tuple #[vnc v, .bool true] else vnc v)) : QrK P (Instr.lookup t (.map m) (enc k) ok) st KP :=
  ⟨_, swp_of_awp (awp_lookup hu hk hz k ok hS ⟨rfl, rfl⟩), by rw [hl]; exact h⟩
theorem qr_none {KP : Value → Prop} (hu : P.underlying t = some (.map kt et)) (hk : KeyLaw P kt enc) {z : Value} (hz : tzero P et = some z) {k : α} {ok : Bool} (hS : Sat (MpA enc vnc m l :: L) st) (hl : mlook l k = none)
    (h : KP (if ok = true then .tuple #[z, .bool false] else z)) : QrK P (Instr.lookup t (.map m) (enc k) ok) st KP :=
  ⟨_, swp_of_awp (awp_lookup hu hk hz k ok hS ⟨rfl, rfl⟩), by rw [hl]; exact h⟩
theorem semU_update {r : Nat} (hu : P.underlying t = some (.map kt et)) (hk : KeyLaw P kt enc) (k : α) (v : β) (hS : Sat (MpA enc vnc (some r) l :: L) st)
    (h : ∀ s, Sat (MpA enc vnc (some r) (mput l k v) :: L) s → K undef s) : SemU P (Instr.mapUpdate t (.map (some r)) (enc k) (vnc v)) st K := by
  refine swp_of_awp ?_
  unfold Instr.mapUpdate
  show awp P (underlying t >>= _) st _
  rw [awp_bind, awp_underlying hu]
  obtain ⟨es, clock, eok, hP⟩ := mpa_get hS
  refine ⟨_, sat_pt hP, rfl, ?_⟩
  show awp P (Instr.checkKey false 10000 kt (enc k) >>= _) st _
  rw [awp_bind]
  refine hk.chk _ _ _ _ ?_
  rw [awp_bind]
  refine awp_findKey hk k eok.kv ?_
  cases hf : findL l k 0 with
  | none =>
    refine ⟨_, sat_pt hP, rfl, h _ ?_⟩
    refine mpa_set ?_ (sat_upd hP)
    rw [Array.toList_push]
    exact eok.push k v hf
  | some x =>
    obtain ⟨j, u⟩ := x
    obtain ⟨h1, h2, h3, h4⟩ := findL_some k l 0 j u hf
    rw [Nat.sub_zero] at h2
    obtain ⟨e, he, he1, he2⟩ := es_at eok.kv h2
    rw [Array.getElem?_toList] at he
    show awp P (Instr.keyThatStays (((es[j]?).map (·.key)).getD (enc k)) (enc k) >>= _) st _
    rw [he]
    simp only [Option.map_some, Option.getD_some, he1]
    have fin : awp P (setObj r (.map (es.modify j fun e => { e with key := enc k, val := vnc v }) clock)) st (fun _ st' => K undef st') := by
      refine ⟨_, sat_pt hP, rfl, h _ ?_⟩
      refine mpa_set ?_ (sat_upd hP)
      rw [Array.toList_modify]
      exact eok.modify k v u j hf
    rw [awp_bind]
    unfold Instr.keyThatStays
    split
    · exact fin
    · rw [awp_bind]
      show (if (Question.extern "map.whichKeyStays" 2).forced = true then _ else _)
      split
      · show awp P (pure (if (0 : Nat) = 0 then enc k else enc k)) st (fun x st' => awp P (setObj r (Obj.map (es.modify j fun e => { key := x, val := vnc v, born := e.born }) clock)) st' fun x st' => K undef st')
        rw [ite_self]; exact fin
      · intro tt
        show awp P (pure (if (Question.extern "map.whichKeyStays" 2).cut tt = 0 then enc k else enc k)) st (fun x st' => awp P (setObj r (Obj.map (es.modify j fun e => { key := x, val := vnc v, born := e.born }) clock)) st' fun x st' => K undef st')
        rw [ite_self]; exact fin
end
end Go.Proofs.Ythdnajcngnaobaa.Ae
