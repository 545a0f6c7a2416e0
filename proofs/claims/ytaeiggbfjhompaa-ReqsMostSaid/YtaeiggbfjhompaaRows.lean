/-
  No cell of these rows narrows 'for every input' (looked for: loops, veiled, ifaces, maps, wideKeys, modest, calm, conditions, laid).
  DERIVED. THE GIVEN ROWS OF THIS SEAT. 12 by the template 'for every input the law returns true; each argument reads behind the call as it read before'; 0 by the template 'total and deterministic' (their statements: YtaeiggbfjhompaaTotals.lean).
  GIVEN WITH THE SEED: the statements are not yours to turn. If you find one false, say at which input.
  Laid BY PROGRAM, IN A SANDBOX (cutbox-rows.mjs): the forced cells as the released guide's own fill.sh prints them over the translation a877ff9515a36541… (all of the seat's roots in one cut). By AI agents, Wed Nov 11 2026. No macro, syntax, notation, axiom, sorry.
-/
import Derived.Test.YtaeiggbfjhompaaChecked
import GoSem.Claim
import GoSem.ClaimJoined
import GoSem.ClaimMapViews
import Derived.JoinedTies
import Derived.KernelRfl
namespace Go.Proofs.Ytaeiggbfjhompaa
/- THE CELL 'sum', in the pinned program and in every row, IS THE sha256 OF THE DUMP (.gsa) THAT YtaeiggbfjhompaaProg.lean LOADS. Nothing in Lean hashes anything: it is a label: what it is worth is what the hold of that sum in a sandbox is worth. -/
noncomputable def Try.pinned : Pinned := { name := "ytaeiggbfjhompaa", sum := "a877ff9515a3654123fd742dbbc2f4aa83325c56118c00a57d7517c960a7f10c", checked := Try.checked }
namespace Rows
def none {H : Type} : Left H := { results := [], args := [] }

/-- 'ringkernlaw11.RunqPlays': WHATEVER THE INPUT: true; the input reads as it did. -/
def runqPlaysSpec : ChangeSpec := { name := "runqPlays", fn := fun _ => fun
  | [d] => { results := [.lit (.bool true)], args := [d] }
  | _ => none }
def runqPlaysRow : OpenClaim := { program := "ytaeiggbfjhompaa", sum := "a877ff9515a3654123fd742dbbc2f4aa83325c56118c00a57d7517c960a7f10c", func := "ringkern/ringkernlaw11.RunqPlays", spec := "runqPlays", unfollowed := true, recurses := true, plainKeys := false, apart := false }
def RunqPlaysSaid : Prop := runqPlaysRow.holds Try.pinned (OpenSpec.ofChange runqPlaysSpec)

/-- ITS FALSE NEIGHBOUR: 'it returns false'. Refute it at one input. -/
def runqPlaysWrong : ChangeSpec := { name := "runqPlays", fn := fun _ => fun
  | [d] => { results := [.lit (.bool false)], args := [d] }
  | _ => none }
def RunqPlaysWrongFalsely : Prop := runqPlaysRow.holds Try.pinned (OpenSpec.ofChange runqPlaysWrong)

/-- 'ringkernlaw11.RunqRound': WHATEVER THE INPUT: true; the input reads as it did. -/
def runqRoundSpec : ChangeSpec := { name := "runqRound", fn := fun _ => fun
  | [d1, d2, d3, d4] => { results := [.lit (.bool true)], args := [d1, d2, d3, d4] }
  | _ => none }
def runqRoundRow : OpenClaim := { program := "ytaeiggbfjhompaa", sum := "a877ff9515a3654123fd742dbbc2f4aa83325c56118c00a57d7517c960a7f10c", func := "ringkern/ringkernlaw11.RunqRound", spec := "runqRound", unfollowed := true, recurses := true, plainKeys := false, apart := false }
def RunqRoundSaid : Prop := runqRoundRow.holds Try.pinned (OpenSpec.ofChange runqRoundSpec)

/-- ITS FALSE NEIGHBOUR: 'it returns false'. Refute it at one input. -/
def runqRoundWrong : ChangeSpec := { name := "runqRound", fn := fun _ => fun
  | [d1, d2, d3, d4] => { results := [.lit (.bool false)], args := [d1, d2, d3, d4] }
  | _ => none }
def RunqRoundWrongFalsely : Prop := runqRoundRow.holds Try.pinned (OpenSpec.ofChange runqRoundWrong)

/-- 'ringkernlaw11.RunqPrio': WHATEVER THE INPUT: true; the input reads as it did. -/
def runqPrioSpec : ChangeSpec := { name := "runqPrio", fn := fun _ => fun
  | [d1, d2, d3] => { results := [.lit (.bool true)], args := [d1, d2, d3] }
  | _ => none }
def runqPrioRow : OpenClaim := { program := "ytaeiggbfjhompaa", sum := "a877ff9515a3654123fd742dbbc2f4aa83325c56118c00a57d7517c960a7f10c", func := "ringkern/ringkernlaw11.RunqPrio", spec := "runqPrio", unfollowed := true, recurses := true, plainKeys := false, apart := false }
def RunqPrioSaid : Prop := runqPrioRow.holds Try.pinned (OpenSpec.ofChange runqPrioSpec)

/-- ITS FALSE NEIGHBOUR: 'it returns false'. Refute it at one input. -/
def runqPrioWrong : ChangeSpec := { name := "runqPrio", fn := fun _ => fun
  | [d1, d2, d3] => { results := [.lit (.bool false)], args := [d1, d2, d3] }
  | _ => none }
def RunqPrioWrongFalsely : Prop := runqPrioRow.holds Try.pinned (OpenSpec.ofChange runqPrioWrong)

/-- 'ringkernlaw19.ReqsTags': WHATEVER THE INPUT: true; the input reads as it did. -/
def reqsTagsSpec : ChangeSpec := { name := "reqsTags", fn := fun _ => fun
  | [d1, d2, d3] => { results := [.lit (.bool true)], args := [d1, d2, d3] }
  | _ => none }
def reqsTagsRow : OpenClaim := { program := "ytaeiggbfjhompaa", sum := "a877ff9515a3654123fd742dbbc2f4aa83325c56118c00a57d7517c960a7f10c", func := "ringkern/ringkernlaw19.ReqsTags", spec := "reqsTags", unfollowed := true, recurses := true, plainKeys := false, apart := false }
def ReqsTagsSaid : Prop := reqsTagsRow.holds Try.pinned (OpenSpec.ofChange reqsTagsSpec)

/-- ITS FALSE NEIGHBOUR: 'it returns false'. Refute it at one input. -/
def reqsTagsWrong : ChangeSpec := { name := "reqsTags", fn := fun _ => fun
  | [d1, d2, d3] => { results := [.lit (.bool false)], args := [d1, d2, d3] }
  | _ => none }
def ReqsTagsWrongFalsely : Prop := reqsTagsRow.holds Try.pinned (OpenSpec.ofChange reqsTagsWrong)

/-- 'ringkernlaw19.ReqsMost': WHATEVER THE INPUT: true; the input reads as it did. -/
def reqsMostSpec : ChangeSpec := { name := "reqsMost", fn := fun _ => fun
  | [d1, d2] => { results := [.lit (.bool true)], args := [d1, d2] }
  | _ => none }
def reqsMostRow : OpenClaim := { program := "ytaeiggbfjhompaa", sum := "a877ff9515a3654123fd742dbbc2f4aa83325c56118c00a57d7517c960a7f10c", func := "ringkern/ringkernlaw19.ReqsMost", spec := "reqsMost", unfollowed := true, recurses := true, plainKeys := false, apart := false }
def ReqsMostSaid : Prop := reqsMostRow.holds Try.pinned (OpenSpec.ofChange reqsMostSpec)

/-- ITS FALSE NEIGHBOUR: 'it returns false'. Refute it at one input. -/
def reqsMostWrong : ChangeSpec := { name := "reqsMost", fn := fun _ => fun
  | [d1, d2] => { results := [.lit (.bool false)], args := [d1, d2] }
  | _ => none }
def ReqsMostWrongFalsely : Prop := reqsMostRow.holds Try.pinned (OpenSpec.ofChange reqsMostWrong)

/-- 'ringkernlaw19.ReqsOrder': WHATEVER THE INPUT: true; the input reads as it did. -/
def reqsOrderSpec : ChangeSpec := { name := "reqsOrder", fn := fun _ => fun
  | [d1, d2] => { results := [.lit (.bool true)], args := [d1, d2] }
  | _ => none }
def reqsOrderRow : OpenClaim := { program := "ytaeiggbfjhompaa", sum := "a877ff9515a3654123fd742dbbc2f4aa83325c56118c00a57d7517c960a7f10c", func := "ringkern/ringkernlaw19.ReqsOrder", spec := "reqsOrder", unfollowed := true, recurses := true, plainKeys := false, apart := false }
def ReqsOrderSaid : Prop := reqsOrderRow.holds Try.pinned (OpenSpec.ofChange reqsOrderSpec)

/-- ITS FALSE NEIGHBOUR: 'it returns false'. Refute it at one input. -/
def reqsOrderWrong : ChangeSpec := { name := "reqsOrder", fn := fun _ => fun
  | [d1, d2] => { results := [.lit (.bool false)], args := [d1, d2] }
  | _ => none }
def ReqsOrderWrongFalsely : Prop := reqsOrderRow.holds Try.pinned (OpenSpec.ofChange reqsOrderWrong)

/-- 'ringkernlaw10.SpaceOrder': WHATEVER THE INPUT: true; the input reads as it did. -/
def spaceOrderSpec : ChangeSpec := { name := "spaceOrder", fn := fun _ => fun
  | [d] => { results := [.lit (.bool true)], args := [d] }
  | _ => none }
def spaceOrderRow : OpenClaim := { program := "ytaeiggbfjhompaa", sum := "a877ff9515a3654123fd742dbbc2f4aa83325c56118c00a57d7517c960a7f10c", func := "ringkern/ringkernlaw10.SpaceOrder", spec := "spaceOrder", unfollowed := true, recurses := true, plainKeys := false, apart := false }
def SpaceOrderSaid : Prop := spaceOrderRow.holds Try.pinned (OpenSpec.ofChange spaceOrderSpec)

/-- ITS FALSE NEIGHBOUR: 'it returns false'. Refute it at one input. -/
def spaceOrderWrong : ChangeSpec := { name := "spaceOrder", fn := fun _ => fun
  | [d] => { results := [.lit (.bool false)], args := [d] }
  | _ => none }
def SpaceOrderWrongFalsely : Prop := spaceOrderRow.holds Try.pinned (OpenSpec.ofChange spaceOrderWrong)

/-- 'ringkernlaw10.SpaceLooks': WHATEVER THE INPUT: true; the input reads as it did. -/
def spaceLooksSpec : ChangeSpec := { name := "spaceLooks", fn := fun _ => fun
  | [d1, d2, d3, d4] => { results := [.lit (.bool true)], args := [d1, d2, d3, d4] }
  | _ => none }
def spaceLooksRow : OpenClaim := { program := "ytaeiggbfjhompaa", sum := "a877ff9515a3654123fd742dbbc2f4aa83325c56118c00a57d7517c960a7f10c", func := "ringkern/ringkernlaw10.SpaceLooks", spec := "spaceLooks", unfollowed := true, recurses := true, plainKeys := false, apart := false }
def SpaceLooksSaid : Prop := spaceLooksRow.holds Try.pinned (OpenSpec.ofChange spaceLooksSpec)

/-- ITS FALSE NEIGHBOUR: 'it returns false'. Refute it at one input. -/
def spaceLooksWrong : ChangeSpec := { name := "spaceLooks", fn := fun _ => fun
  | [d1, d2, d3, d4] => { results := [.lit (.bool false)], args := [d1, d2, d3, d4] }
  | _ => none }
def SpaceLooksWrongFalsely : Prop := spaceLooksRow.holds Try.pinned (OpenSpec.ofChange spaceLooksWrong)

/-- 'ringkernlaw10.SpaceRefuses': WHATEVER THE INPUT: true; the input reads as it did. -/
def spaceRefusesSpec : ChangeSpec := { name := "spaceRefuses", fn := fun _ => fun
  | [d1, d2] => { results := [.lit (.bool true)], args := [d1, d2] }
  | _ => none }
def spaceRefusesRow : OpenClaim := { program := "ytaeiggbfjhompaa", sum := "a877ff9515a3654123fd742dbbc2f4aa83325c56118c00a57d7517c960a7f10c", func := "ringkern/ringkernlaw10.SpaceRefuses", spec := "spaceRefuses", unfollowed := true, recurses := true, plainKeys := false, apart := false }
def SpaceRefusesSaid : Prop := spaceRefusesRow.holds Try.pinned (OpenSpec.ofChange spaceRefusesSpec)

/-- ITS FALSE NEIGHBOUR: 'it returns false'. Refute it at one input. -/
def spaceRefusesWrong : ChangeSpec := { name := "spaceRefuses", fn := fun _ => fun
  | [d1, d2] => { results := [.lit (.bool false)], args := [d1, d2] }
  | _ => none }
def SpaceRefusesWrongFalsely : Prop := spaceRefusesRow.holds Try.pinned (OpenSpec.ofChange spaceRefusesWrong)

/-- 'ringkernlaw19.ReqsPlay': WHATEVER THE INPUT: true; the input reads as it did. -/
def reqsPlaySpec : ChangeSpec := { name := "reqsPlay", fn := fun _ => fun
  | [d1, d2, d3, d4] => { results := [.lit (.bool true)], args := [d1, d2, d3, d4] }
  | _ => none }
def reqsPlayRow : OpenClaim := { program := "ytaeiggbfjhompaa", sum := "a877ff9515a3654123fd742dbbc2f4aa83325c56118c00a57d7517c960a7f10c", func := "ringkern/ringkernlaw19.ReqsPlay", spec := "reqsPlay", unfollowed := true, recurses := true, plainKeys := false, apart := false }
def ReqsPlaySaid : Prop := reqsPlayRow.holds Try.pinned (OpenSpec.ofChange reqsPlaySpec)

/-- ITS FALSE NEIGHBOUR: 'it returns false'. Refute it at one input. -/
def reqsPlayWrong : ChangeSpec := { name := "reqsPlay", fn := fun _ => fun
  | [d1, d2, d3, d4] => { results := [.lit (.bool false)], args := [d1, d2, d3, d4] }
  | _ => none }
def ReqsPlayWrongFalsely : Prop := reqsPlayRow.holds Try.pinned (OpenSpec.ofChange reqsPlayWrong)

/-- 'ringkernlaw10.SpaceDrops': WHATEVER THE INPUT: true; the input reads as it did. -/
def spaceDropsSpec : ChangeSpec := { name := "spaceDrops", fn := fun _ => fun
  | [d1, d2, d3] => { results := [.lit (.bool true)], args := [d1, d2, d3] }
  | _ => none }
def spaceDropsRow : OpenClaim := { program := "ytaeiggbfjhompaa", sum := "a877ff9515a3654123fd742dbbc2f4aa83325c56118c00a57d7517c960a7f10c", func := "ringkern/ringkernlaw10.SpaceDrops", spec := "spaceDrops", unfollowed := true, recurses := true, plainKeys := false, apart := false }
def SpaceDropsSaid : Prop := spaceDropsRow.holds Try.pinned (OpenSpec.ofChange spaceDropsSpec)

/-- ITS FALSE NEIGHBOUR: 'it returns false'. Refute it at one input. -/
def spaceDropsWrong : ChangeSpec := { name := "spaceDrops", fn := fun _ => fun
  | [d1, d2, d3] => { results := [.lit (.bool false)], args := [d1, d2, d3] }
  | _ => none }
def SpaceDropsWrongFalsely : Prop := spaceDropsRow.holds Try.pinned (OpenSpec.ofChange spaceDropsWrong)

/-- 'ringkernlaw10.SpacePlays': WHATEVER THE INPUT: true; the input reads as it did. -/
def spacePlaysSpec : ChangeSpec := { name := "spacePlays", fn := fun _ => fun
  | [d1, d2, d3, d4] => { results := [.lit (.bool true)], args := [d1, d2, d3, d4] }
  | _ => none }
def spacePlaysRow : OpenClaim := { program := "ytaeiggbfjhompaa", sum := "a877ff9515a3654123fd742dbbc2f4aa83325c56118c00a57d7517c960a7f10c", func := "ringkern/ringkernlaw10.SpacePlays", spec := "spacePlays", unfollowed := true, recurses := true, plainKeys := false, apart := false }
def SpacePlaysSaid : Prop := spacePlaysRow.holds Try.pinned (OpenSpec.ofChange spacePlaysSpec)

/-- ITS FALSE NEIGHBOUR: 'it returns false'. Refute it at one input. -/
def spacePlaysWrong : ChangeSpec := { name := "spacePlays", fn := fun _ => fun
  | [d1, d2, d3, d4] => { results := [.lit (.bool false)], args := [d1, d2, d3, d4] }
  | _ => none }
def SpacePlaysWrongFalsely : Prop := spacePlaysRow.holds Try.pinned (OpenSpec.ofChange spacePlaysWrong)

/- THE SECOND FORM. 'bulk': how many values and letters a reading holds, each counted each time it is reached (what is shared counts as often as it is met; a slice's spare places count too). A statement '..UptoSaid' is the law's where the arguments, and the package variables that the reading takes, are together of bulk at most 1048576: NARROWER than '..Said'. Prove '..Said' where nothing that the law and all that it calls make is longer than what came in: it says more and counts as full. Else prove '..UptoSaid'. A law counts once. -/
mutual
def uptoBulk {H : Type} : DataW H → Nat
  | .lit (.string bytes) => bytes.length + 1
  | .lit _ => 1
  | .nil => 1
  | .ptr d => uptoBulk d + 1
  | .slice elems spare => uptoBulkAll elems + uptoBulkAll spare + 1
  | .agg parts => uptoBulkAll parts + 1
  | .iface _ d => uptoBulk d + 1
  | .map entries => uptoBulkEntries entries + 1
  | .held _ => 1
def uptoBulkAll {H : Type} : List (DataW H) → Nat
  | [] => 0
  | d :: r => uptoBulk d + uptoBulkAll r
def uptoBulkEntries {H : Type} : List (Lit × DataW H) → Nat
  | [] => 0
  | x :: r => uptoBulkEntry x + uptoBulkEntries r
def uptoBulkEntry {H : Type} : Lit × DataW H → Nat
  | (.string bytes, d) => bytes.length + uptoBulk d + 1
  | (_, d) => uptoBulk d + 1
 end
def uptoSmall : (H : Type) → List (DataW H) → Bool := fun _ ds => decide (uptoBulkAll ds ≤ 1048576)
def OpenSpec.upto (s : _root_.Go.ChangeSpec) : _root_.Go.OpenSpec := { _root_.Go.OpenSpec.ofChange s with cond := some uptoSmall }

/-- 'ringkernlaw11.RunqPlays', WHERE WHAT IT READS IS OF BULK AT MOST 1048576: true; the input reads as it did. -/
def runqPlaysUptoRow : OpenClaim := { program := "ytaeiggbfjhompaa", sum := "a877ff9515a3654123fd742dbbc2f4aa83325c56118c00a57d7517c960a7f10c", func := "ringkern/ringkernlaw11.RunqPlays", spec := "runqPlays", unfollowed := true, recurses := true, plainKeys := false, apart := false, narrowed := true }
def RunqPlaysUptoSaid : Prop := runqPlaysUptoRow.holds Try.pinned (OpenSpec.upto runqPlaysSpec)

/-- 'ringkernlaw11.RunqRound', WHERE WHAT IT READS IS OF BULK AT MOST 1048576: true; the input reads as it did. -/
def runqRoundUptoRow : OpenClaim := { program := "ytaeiggbfjhompaa", sum := "a877ff9515a3654123fd742dbbc2f4aa83325c56118c00a57d7517c960a7f10c", func := "ringkern/ringkernlaw11.RunqRound", spec := "runqRound", unfollowed := true, recurses := true, plainKeys := false, apart := false, narrowed := true }
def RunqRoundUptoSaid : Prop := runqRoundUptoRow.holds Try.pinned (OpenSpec.upto runqRoundSpec)

/-- 'ringkernlaw11.RunqPrio', WHERE WHAT IT READS IS OF BULK AT MOST 1048576: true; the input reads as it did. -/
def runqPrioUptoRow : OpenClaim := { program := "ytaeiggbfjhompaa", sum := "a877ff9515a3654123fd742dbbc2f4aa83325c56118c00a57d7517c960a7f10c", func := "ringkern/ringkernlaw11.RunqPrio", spec := "runqPrio", unfollowed := true, recurses := true, plainKeys := false, apart := false, narrowed := true }
def RunqPrioUptoSaid : Prop := runqPrioUptoRow.holds Try.pinned (OpenSpec.upto runqPrioSpec)

/-- 'ringkernlaw19.ReqsTags', WHERE WHAT IT READS IS OF BULK AT MOST 1048576: true; the input reads as it did. -/
def reqsTagsUptoRow : OpenClaim := { program := "ytaeiggbfjhompaa", sum := "a877ff9515a3654123fd742dbbc2f4aa83325c56118c00a57d7517c960a7f10c", func := "ringkern/ringkernlaw19.ReqsTags", spec := "reqsTags", unfollowed := true, recurses := true, plainKeys := false, apart := false, narrowed := true }
def ReqsTagsUptoSaid : Prop := reqsTagsUptoRow.holds Try.pinned (OpenSpec.upto reqsTagsSpec)

/-- 'ringkernlaw19.ReqsMost', WHERE WHAT IT READS IS OF BULK AT MOST 1048576: true; the input reads as it did. -/
def reqsMostUptoRow : OpenClaim := { program := "ytaeiggbfjhompaa", sum := "a877ff9515a3654123fd742dbbc2f4aa83325c56118c00a57d7517c960a7f10c", func := "ringkern/ringkernlaw19.ReqsMost", spec := "reqsMost", unfollowed := true, recurses := true, plainKeys := false, apart := false, narrowed := true }
def ReqsMostUptoSaid : Prop := reqsMostUptoRow.holds Try.pinned (OpenSpec.upto reqsMostSpec)

/-- 'ringkernlaw19.ReqsOrder', WHERE WHAT IT READS IS OF BULK AT MOST 1048576: true; the input reads as it did. -/
def reqsOrderUptoRow : OpenClaim := { program := "ytaeiggbfjhompaa", sum := "a877ff9515a3654123fd742dbbc2f4aa83325c56118c00a57d7517c960a7f10c", func := "ringkern/ringkernlaw19.ReqsOrder", spec := "reqsOrder", unfollowed := true, recurses := true, plainKeys := false, apart := false, narrowed := true }
def ReqsOrderUptoSaid : Prop := reqsOrderUptoRow.holds Try.pinned (OpenSpec.upto reqsOrderSpec)

/-- 'ringkernlaw10.SpaceOrder', WHERE WHAT IT READS IS OF BULK AT MOST 1048576: true; the input reads as it did. -/
def spaceOrderUptoRow : OpenClaim := { program := "ytaeiggbfjhompaa", sum := "a877ff9515a3654123fd742dbbc2f4aa83325c56118c00a57d7517c960a7f10c", func := "ringkern/ringkernlaw10.SpaceOrder", spec := "spaceOrder", unfollowed := true, recurses := true, plainKeys := false, apart := false, narrowed := true }
def SpaceOrderUptoSaid : Prop := spaceOrderUptoRow.holds Try.pinned (OpenSpec.upto spaceOrderSpec)

/-- 'ringkernlaw10.SpaceLooks', WHERE WHAT IT READS IS OF BULK AT MOST 1048576: true; the input reads as it did. -/
def spaceLooksUptoRow : OpenClaim := { program := "ytaeiggbfjhompaa", sum := "a877ff9515a3654123fd742dbbc2f4aa83325c56118c00a57d7517c960a7f10c", func := "ringkern/ringkernlaw10.SpaceLooks", spec := "spaceLooks", unfollowed := true, recurses := true, plainKeys := false, apart := false, narrowed := true }
def SpaceLooksUptoSaid : Prop := spaceLooksUptoRow.holds Try.pinned (OpenSpec.upto spaceLooksSpec)

/-- 'ringkernlaw10.SpaceRefuses', WHERE WHAT IT READS IS OF BULK AT MOST 1048576: true; the input reads as it did. -/
def spaceRefusesUptoRow : OpenClaim := { program := "ytaeiggbfjhompaa", sum := "a877ff9515a3654123fd742dbbc2f4aa83325c56118c00a57d7517c960a7f10c", func := "ringkern/ringkernlaw10.SpaceRefuses", spec := "spaceRefuses", unfollowed := true, recurses := true, plainKeys := false, apart := false, narrowed := true }
def SpaceRefusesUptoSaid : Prop := spaceRefusesUptoRow.holds Try.pinned (OpenSpec.upto spaceRefusesSpec)

/-- 'ringkernlaw19.ReqsPlay', WHERE WHAT IT READS IS OF BULK AT MOST 1048576: true; the input reads as it did. -/
def reqsPlayUptoRow : OpenClaim := { program := "ytaeiggbfjhompaa", sum := "a877ff9515a3654123fd742dbbc2f4aa83325c56118c00a57d7517c960a7f10c", func := "ringkern/ringkernlaw19.ReqsPlay", spec := "reqsPlay", unfollowed := true, recurses := true, plainKeys := false, apart := false, narrowed := true }
def ReqsPlayUptoSaid : Prop := reqsPlayUptoRow.holds Try.pinned (OpenSpec.upto reqsPlaySpec)

/-- 'ringkernlaw10.SpaceDrops', WHERE WHAT IT READS IS OF BULK AT MOST 1048576: true; the input reads as it did. -/
def spaceDropsUptoRow : OpenClaim := { program := "ytaeiggbfjhompaa", sum := "a877ff9515a3654123fd742dbbc2f4aa83325c56118c00a57d7517c960a7f10c", func := "ringkern/ringkernlaw10.SpaceDrops", spec := "spaceDrops", unfollowed := true, recurses := true, plainKeys := false, apart := false, narrowed := true }
def SpaceDropsUptoSaid : Prop := spaceDropsUptoRow.holds Try.pinned (OpenSpec.upto spaceDropsSpec)

/-- 'ringkernlaw10.SpacePlays', WHERE WHAT IT READS IS OF BULK AT MOST 1048576: true; the input reads as it did. -/
def spacePlaysUptoRow : OpenClaim := { program := "ytaeiggbfjhompaa", sum := "a877ff9515a3654123fd742dbbc2f4aa83325c56118c00a57d7517c960a7f10c", func := "ringkern/ringkernlaw10.SpacePlays", spec := "spacePlays", unfollowed := true, recurses := true, plainKeys := false, apart := false, narrowed := true }
def SpacePlaysUptoSaid : Prop := spacePlaysUptoRow.holds Try.pinned (OpenSpec.upto spacePlaysSpec)

end Rows
end Go.Proofs.Ytaeiggbfjhompaa
