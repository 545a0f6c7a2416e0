/-
  No cell of these rows narrows 'for every input' (looked for: loops, veiled, ifaces, maps, wideKeys, modest, calm, conditions, laid).
  DERIVED. THE GIVEN ROWS OF THIS SEAT. 9 by the template 'for every input the law returns true; each argument reads behind the call as it read before'; 0 by the template 'total and deterministic' (their statements: YthdnajcngnaobaaTotals.lean).
  GIVEN WITH THE SEED: the statements are not yours to turn. If you find one false, say at which input.
  Laid BY PROGRAM, IN A SANDBOX (cutbox-rows.mjs): the forced cells as the released guide's own fill.sh prints them over the translation dfd1ee65e019564e… (all of the seat's roots in one cut). By AI agents, Wed Nov 11 2026. No macro, syntax, notation, axiom, sorry.
-/
import Derived.Test.YthdnajcngnaobaaChecked
import GoSem.Claim
import GoSem.ClaimJoined
import GoSem.ClaimMapViews
import Derived.JoinedTies
import Derived.KernelRfl
namespace Go.Proofs.Ythdnajcngnaobaa
/- THE CELL 'sum', in the pinned program and in every row, IS THE sha256 OF THE DUMP (.gsa) THAT YthdnajcngnaobaaProg.lean LOADS. Nothing in Lean hashes anything: it is a label: what it is worth is what the hold of that sum in a sandbox is worth. -/
noncomputable def Try.pinned : Pinned := { name := "ythdnajcngnaobaa", sum := "dfd1ee65e019564eae5487ec6ebd60ad3c94c94ff3308179d427efc0838a1f7c", checked := Try.checked }
namespace Rows
def none {H : Type} : Left H := { results := [], args := [] }

/-- 'ringkernlaw6.LookGuards': WHATEVER THE INPUT: true; the input reads as it did. -/
def lookGuardsSpec : ChangeSpec := { name := "lookGuards", fn := fun _ => fun
  | [d1, d2, d3, d4] => { results := [.lit (.bool true)], args := [d1, d2, d3, d4] }
  | _ => none }
def lookGuardsRow : OpenClaim := { program := "ythdnajcngnaobaa", sum := "dfd1ee65e019564eae5487ec6ebd60ad3c94c94ff3308179d427efc0838a1f7c", func := "ringkern/ringkernlaw6.LookGuards", spec := "lookGuards", plainKeys := false, apart := false }
def LookGuardsSaid : Prop := lookGuardsRow.holds Try.pinned (OpenSpec.ofChange lookGuardsSpec)

/-- ITS FALSE NEIGHBOUR: 'it returns false'. Refute it at one input. -/
def lookGuardsWrong : ChangeSpec := { name := "lookGuards", fn := fun _ => fun
  | [d1, d2, d3, d4] => { results := [.lit (.bool false)], args := [d1, d2, d3, d4] }
  | _ => none }
def LookGuardsWrongFalsely : Prop := lookGuardsRow.holds Try.pinned (OpenSpec.ofChange lookGuardsWrong)

/-- 'ringkernlaw6.LookSays': WHATEVER THE INPUT: true; the input reads as it did. -/
def lookSaysSpec : ChangeSpec := { name := "lookSays", fn := fun _ => fun
  | [d1, d2, d3, d4] => { results := [.lit (.bool true)], args := [d1, d2, d3, d4] }
  | _ => none }
def lookSaysRow : OpenClaim := { program := "ythdnajcngnaobaa", sum := "dfd1ee65e019564eae5487ec6ebd60ad3c94c94ff3308179d427efc0838a1f7c", func := "ringkern/ringkernlaw6.LookSays", spec := "lookSays", plainKeys := false, apart := false }
def LookSaysSaid : Prop := lookSaysRow.holds Try.pinned (OpenSpec.ofChange lookSaysSpec)

/-- ITS FALSE NEIGHBOUR: 'it returns false'. Refute it at one input. -/
def lookSaysWrong : ChangeSpec := { name := "lookSays", fn := fun _ => fun
  | [d1, d2, d3, d4] => { results := [.lit (.bool false)], args := [d1, d2, d3, d4] }
  | _ => none }
def LookSaysWrongFalsely : Prop := lookSaysRow.holds Try.pinned (OpenSpec.ofChange lookSaysWrong)

/-- 'ringkernlaw6.LookDeep': WHATEVER THE INPUT: true; the input reads as it did. -/
def lookDeepSpec : ChangeSpec := { name := "lookDeep", fn := fun _ => fun
  | [d1, d2] => { results := [.lit (.bool true)], args := [d1, d2] }
  | _ => none }
def lookDeepRow : OpenClaim := { program := "ythdnajcngnaobaa", sum := "dfd1ee65e019564eae5487ec6ebd60ad3c94c94ff3308179d427efc0838a1f7c", func := "ringkern/ringkernlaw6.LookDeep", spec := "lookDeep", plainKeys := false, apart := false }
def LookDeepSaid : Prop := lookDeepRow.holds Try.pinned (OpenSpec.ofChange lookDeepSpec)

/-- ITS FALSE NEIGHBOUR: 'it returns false'. Refute it at one input. -/
def lookDeepWrong : ChangeSpec := { name := "lookDeep", fn := fun _ => fun
  | [d1, d2] => { results := [.lit (.bool false)], args := [d1, d2] }
  | _ => none }
def LookDeepWrongFalsely : Prop := lookDeepRow.holds Try.pinned (OpenSpec.ofChange lookDeepWrong)

/-- 'ringkernlaw5.SlotsNamed': WHATEVER THE INPUT: true; the input reads as it did. -/
def slotsNamedSpec : ChangeSpec := { name := "slotsNamed", fn := fun _ => fun
  | [d1, d2] => { results := [.lit (.bool true)], args := [d1, d2] }
  | _ => none }
def slotsNamedRow : OpenClaim := { program := "ythdnajcngnaobaa", sum := "dfd1ee65e019564eae5487ec6ebd60ad3c94c94ff3308179d427efc0838a1f7c", func := "ringkern/ringkernlaw5.SlotsNamed", spec := "slotsNamed", unfollowed := true, recurses := true, plainKeys := false, apart := false }
def SlotsNamedSaid : Prop := slotsNamedRow.holds Try.pinned (OpenSpec.ofChange slotsNamedSpec)

/-- ITS FALSE NEIGHBOUR: 'it returns false'. Refute it at one input. -/
def slotsNamedWrong : ChangeSpec := { name := "slotsNamed", fn := fun _ => fun
  | [d1, d2] => { results := [.lit (.bool false)], args := [d1, d2] }
  | _ => none }
def SlotsNamedWrongFalsely : Prop := slotsNamedRow.holds Try.pinned (OpenSpec.ofChange slotsNamedWrong)

/-- 'ringkernlaw5.SlotsRefuse': WHATEVER THE INPUT: true; the input reads as it did. -/
def slotsRefuseSpec : ChangeSpec := { name := "slotsRefuse", fn := fun _ => fun
  | [d1, d2] => { results := [.lit (.bool true)], args := [d1, d2] }
  | _ => none }
def slotsRefuseRow : OpenClaim := { program := "ythdnajcngnaobaa", sum := "dfd1ee65e019564eae5487ec6ebd60ad3c94c94ff3308179d427efc0838a1f7c", func := "ringkern/ringkernlaw5.SlotsRefuse", spec := "slotsRefuse", unfollowed := true, recurses := true, plainKeys := false, apart := false }
def SlotsRefuseSaid : Prop := slotsRefuseRow.holds Try.pinned (OpenSpec.ofChange slotsRefuseSpec)

/-- ITS FALSE NEIGHBOUR: 'it returns false'. Refute it at one input. -/
def slotsRefuseWrong : ChangeSpec := { name := "slotsRefuse", fn := fun _ => fun
  | [d1, d2] => { results := [.lit (.bool false)], args := [d1, d2] }
  | _ => none }
def SlotsRefuseWrongFalsely : Prop := slotsRefuseRow.holds Try.pinned (OpenSpec.ofChange slotsRefuseWrong)

/-- 'ringkernlaw5.SlotsDrop': WHATEVER THE INPUT: true; the input reads as it did. -/
def slotsDropSpec : ChangeSpec := { name := "slotsDrop", fn := fun _ => fun
  | [d1, d2, d3] => { results := [.lit (.bool true)], args := [d1, d2, d3] }
  | _ => none }
def slotsDropRow : OpenClaim := { program := "ythdnajcngnaobaa", sum := "dfd1ee65e019564eae5487ec6ebd60ad3c94c94ff3308179d427efc0838a1f7c", func := "ringkern/ringkernlaw5.SlotsDrop", spec := "slotsDrop", unfollowed := true, recurses := true, plainKeys := false, apart := false }
def SlotsDropSaid : Prop := slotsDropRow.holds Try.pinned (OpenSpec.ofChange slotsDropSpec)

/-- ITS FALSE NEIGHBOUR: 'it returns false'. Refute it at one input. -/
def slotsDropWrong : ChangeSpec := { name := "slotsDrop", fn := fun _ => fun
  | [d1, d2, d3] => { results := [.lit (.bool false)], args := [d1, d2, d3] }
  | _ => none }
def SlotsDropWrongFalsely : Prop := slotsDropRow.holds Try.pinned (OpenSpec.ofChange slotsDropWrong)

/-- 'ringkernlaw5.SlotsTree': WHATEVER THE INPUT: true; the input reads as it did. -/
def slotsTreeSpec : ChangeSpec := { name := "slotsTree", fn := fun _ => fun
  | [d1, d2] => { results := [.lit (.bool true)], args := [d1, d2] }
  | _ => none }
def slotsTreeRow : OpenClaim := { program := "ythdnajcngnaobaa", sum := "dfd1ee65e019564eae5487ec6ebd60ad3c94c94ff3308179d427efc0838a1f7c", func := "ringkern/ringkernlaw5.SlotsTree", spec := "slotsTree", unfollowed := true, recurses := true, plainKeys := false, apart := false }
def SlotsTreeSaid : Prop := slotsTreeRow.holds Try.pinned (OpenSpec.ofChange slotsTreeSpec)

/-- ITS FALSE NEIGHBOUR: 'it returns false'. Refute it at one input. -/
def slotsTreeWrong : ChangeSpec := { name := "slotsTree", fn := fun _ => fun
  | [d1, d2] => { results := [.lit (.bool false)], args := [d1, d2] }
  | _ => none }
def SlotsTreeWrongFalsely : Prop := slotsTreeRow.holds Try.pinned (OpenSpec.ofChange slotsTreeWrong)

/-- 'ringkernlaw5.SlotsPlay': WHATEVER THE INPUT: true; the input reads as it did. -/
def slotsPlaySpec : ChangeSpec := { name := "slotsPlay", fn := fun _ => fun
  | [d1, d2] => { results := [.lit (.bool true)], args := [d1, d2] }
  | _ => none }
def slotsPlayRow : OpenClaim := { program := "ythdnajcngnaobaa", sum := "dfd1ee65e019564eae5487ec6ebd60ad3c94c94ff3308179d427efc0838a1f7c", func := "ringkern/ringkernlaw5.SlotsPlay", spec := "slotsPlay", unfollowed := true, recurses := true, plainKeys := false, apart := false }
def SlotsPlaySaid : Prop := slotsPlayRow.holds Try.pinned (OpenSpec.ofChange slotsPlaySpec)

/-- ITS FALSE NEIGHBOUR: 'it returns false'. Refute it at one input. -/
def slotsPlayWrong : ChangeSpec := { name := "slotsPlay", fn := fun _ => fun
  | [d1, d2] => { results := [.lit (.bool false)], args := [d1, d2] }
  | _ => none }
def SlotsPlayWrongFalsely : Prop := slotsPlayRow.holds Try.pinned (OpenSpec.ofChange slotsPlayWrong)

/-- 'ringkernlaw6.LookWays': WHATEVER THE INPUT: true; the input reads as it did. -/
def lookWaysSpec : ChangeSpec := { name := "lookWays", fn := fun _ => fun
  | [d1, d2, d3] => { results := [.lit (.bool true)], args := [d1, d2, d3] }
  | _ => none }
def lookWaysRow : OpenClaim := { program := "ythdnajcngnaobaa", sum := "dfd1ee65e019564eae5487ec6ebd60ad3c94c94ff3308179d427efc0838a1f7c", func := "ringkern/ringkernlaw6.LookWays", spec := "lookWays", unfollowed := true, recurses := true, plainKeys := false, apart := false }
def LookWaysSaid : Prop := lookWaysRow.holds Try.pinned (OpenSpec.ofChange lookWaysSpec)

/-- ITS FALSE NEIGHBOUR: 'it returns false'. Refute it at one input. -/
def lookWaysWrong : ChangeSpec := { name := "lookWays", fn := fun _ => fun
  | [d1, d2, d3] => { results := [.lit (.bool false)], args := [d1, d2, d3] }
  | _ => none }
def LookWaysWrongFalsely : Prop := lookWaysRow.holds Try.pinned (OpenSpec.ofChange lookWaysWrong)

/- THE SECOND FORM. 'bulk': how many values and letters a reading holds, each counted each time it is reached (what is shared counts as often as it is met; a slice's spare places count too). A statement '..UptoSaid' is the law's where the arguments, and the package variables that the reading takes, are together of bulk at most 1048576: NARROWER than '..Said'. Prove '..Said' where nothing that the law and all that it calls make is longer than what came in: it says more and counts as full. Else prove '..UptoSaid'. A law counts once. -/
mutual
def uptoBulk {H : Type} : DataW H → Nat
  | .lit (.string bytes) => bytes.length + 1
  | .lit _ => 1
  | .nil => 1
  | .ptr d => uptoBulk d + 1
  | .slice elems spare => uptoBulkAll elems + uptoBulkAll spare + 1
  | .agg parts => uptoBulkAll parts + 1
  | .iface _ d => uptoBulk d + 1
  | .map entries => uptoBulkEntries entries + 1
  | .held _ => 1
def uptoBulkAll {H : Type} : List (DataW H) → Nat
  | [] => 0
  | d :: r => uptoBulk d + uptoBulkAll r
def uptoBulkEntries {H : Type} : List (Lit × DataW H) → Nat
  | [] => 0
  | x :: r => uptoBulkEntry x + uptoBulkEntries r
def uptoBulkEntry {H : Type} : Lit × DataW H → Nat
  | (.string bytes, d) => bytes.length + uptoBulk d + 1
  | (_, d) => uptoBulk d + 1
 end
def uptoSmall : (H : Type) → List (DataW H) → Bool := fun _ ds => decide (uptoBulkAll ds ≤ 1048576)
def OpenSpec.upto (s : _root_.Go.ChangeSpec) : _root_.Go.OpenSpec := { _root_.Go.OpenSpec.ofChange s with cond := some uptoSmall }

/-- 'ringkernlaw6.LookGuards', WHERE WHAT IT READS IS OF BULK AT MOST 1048576: true; the input reads as it did. -/
def lookGuardsUptoRow : OpenClaim := { program := "ythdnajcngnaobaa", sum := "dfd1ee65e019564eae5487ec6ebd60ad3c94c94ff3308179d427efc0838a1f7c", func := "ringkern/ringkernlaw6.LookGuards", spec := "lookGuards", plainKeys := false, apart := false, narrowed := true }
def LookGuardsUptoSaid : Prop := lookGuardsUptoRow.holds Try.pinned (OpenSpec.upto lookGuardsSpec)

/-- 'ringkernlaw6.LookSays', WHERE WHAT IT READS IS OF BULK AT MOST 1048576: true; the input reads as it did. -/
def lookSaysUptoRow : OpenClaim := { program := "ythdnajcngnaobaa", sum := "dfd1ee65e019564eae5487ec6ebd60ad3c94c94ff3308179d427efc0838a1f7c", func := "ringkern/ringkernlaw6.LookSays", spec := "lookSays", plainKeys := false, apart := false, narrowed := true }
def LookSaysUptoSaid : Prop := lookSaysUptoRow.holds Try.pinned (OpenSpec.upto lookSaysSpec)

/-- 'ringkernlaw6.LookDeep', WHERE WHAT IT READS IS OF BULK AT MOST 1048576: true; the input reads as it did. -/
def lookDeepUptoRow : OpenClaim := { program := "ythdnajcngnaobaa", sum := "dfd1ee65e019564eae5487ec6ebd60ad3c94c94ff3308179d427efc0838a1f7c", func := "ringkern/ringkernlaw6.LookDeep", spec := "lookDeep", plainKeys := false, apart := false, narrowed := true }
def LookDeepUptoSaid : Prop := lookDeepUptoRow.holds Try.pinned (OpenSpec.upto lookDeepSpec)

/-- 'ringkernlaw5.SlotsNamed', WHERE WHAT IT READS IS OF BULK AT MOST 1048576: true; the input reads as it did. -/
def slotsNamedUptoRow : OpenClaim := { program := "ythdnajcngnaobaa", sum := "dfd1ee65e019564eae5487ec6ebd60ad3c94c94ff3308179d427efc0838a1f7c", func := "ringkern/ringkernlaw5.SlotsNamed", spec := "slotsNamed", unfollowed := true, recurses := true, plainKeys := false, apart := false, narrowed := true }
def SlotsNamedUptoSaid : Prop := slotsNamedUptoRow.holds Try.pinned (OpenSpec.upto slotsNamedSpec)

/-- 'ringkernlaw5.SlotsRefuse', WHERE WHAT IT READS IS OF BULK AT MOST 1048576: true; the input reads as it did. -/
def slotsRefuseUptoRow : OpenClaim := { program := "ythdnajcngnaobaa", sum := "dfd1ee65e019564eae5487ec6ebd60ad3c94c94ff3308179d427efc0838a1f7c", func := "ringkern/ringkernlaw5.SlotsRefuse", spec := "slotsRefuse", unfollowed := true, recurses := true, plainKeys := false, apart := false, narrowed := true }
def SlotsRefuseUptoSaid : Prop := slotsRefuseUptoRow.holds Try.pinned (OpenSpec.upto slotsRefuseSpec)

/-- 'ringkernlaw5.SlotsDrop', WHERE WHAT IT READS IS OF BULK AT MOST 1048576: true; the input reads as it did. -/
def slotsDropUptoRow : OpenClaim := { program := "ythdnajcngnaobaa", sum := "dfd1ee65e019564eae5487ec6ebd60ad3c94c94ff3308179d427efc0838a1f7c", func := "ringkern/ringkernlaw5.SlotsDrop", spec := "slotsDrop", unfollowed := true, recurses := true, plainKeys := false, apart := false, narrowed := true }
def SlotsDropUptoSaid : Prop := slotsDropUptoRow.holds Try.pinned (OpenSpec.upto slotsDropSpec)

/-- 'ringkernlaw5.SlotsTree', WHERE WHAT IT READS IS OF BULK AT MOST 1048576: true; the input reads as it did. -/
def slotsTreeUptoRow : OpenClaim := { program := "ythdnajcngnaobaa", sum := "dfd1ee65e019564eae5487ec6ebd60ad3c94c94ff3308179d427efc0838a1f7c", func := "ringkern/ringkernlaw5.SlotsTree", spec := "slotsTree", unfollowed := true, recurses := true, plainKeys := false, apart := false, narrowed := true }
def SlotsTreeUptoSaid : Prop := slotsTreeUptoRow.holds Try.pinned (OpenSpec.upto slotsTreeSpec)

/-- 'ringkernlaw5.SlotsPlay', WHERE WHAT IT READS IS OF BULK AT MOST 1048576: true; the input reads as it did. -/
def slotsPlayUptoRow : OpenClaim := { program := "ythdnajcngnaobaa", sum := "dfd1ee65e019564eae5487ec6ebd60ad3c94c94ff3308179d427efc0838a1f7c", func := "ringkern/ringkernlaw5.SlotsPlay", spec := "slotsPlay", unfollowed := true, recurses := true, plainKeys := false, apart := false, narrowed := true }
def SlotsPlayUptoSaid : Prop := slotsPlayUptoRow.holds Try.pinned (OpenSpec.upto slotsPlaySpec)

/-- 'ringkernlaw6.LookWays', WHERE WHAT IT READS IS OF BULK AT MOST 1048576: true; the input reads as it did. -/
def lookWaysUptoRow : OpenClaim := { program := "ythdnajcngnaobaa", sum := "dfd1ee65e019564eae5487ec6ebd60ad3c94c94ff3308179d427efc0838a1f7c", func := "ringkern/ringkernlaw6.LookWays", spec := "lookWays", unfollowed := true, recurses := true, plainKeys := false, apart := false, narrowed := true }
def LookWaysUptoSaid : Prop := lookWaysUptoRow.holds Try.pinned (OpenSpec.upto lookWaysSpec)

end Rows
end Go.Proofs.Ythdnajcngnaobaa
