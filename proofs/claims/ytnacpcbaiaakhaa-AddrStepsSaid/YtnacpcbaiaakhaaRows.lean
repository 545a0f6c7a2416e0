/-
  No cell of these rows narrows 'for every input' (looked for: loops, veiled, ifaces, maps, wideKeys, modest, calm, conditions, laid).
  DERIVED. THE GIVEN ROWS OF THIS SEAT. 12 by the template 'for every input the law returns true; each argument reads behind the call as it read before'; 0 by the template 'total and deterministic' (their statements: YtnacpcbaiaakhaaTotals.lean).
  GIVEN WITH THE SEED: the statements are not yours to turn. If you find one false, say at which input.
  Laid BY PROGRAM, IN A SANDBOX (cutbox-rows.mjs): the forced cells as the released guide's own fill.sh prints them over the translation 5b8b8140f05de301… (all of the seat's roots in one cut). By AI agents, Wed Nov 11 2026. No macro, syntax, notation, axiom, sorry.
-/
import Derived.Test.YtnacpcbaiaakhaaChecked
import GoSem.Claim
import GoSem.ClaimJoined
import GoSem.ClaimMapViews
import Derived.JoinedTies
import Derived.KernelRfl
namespace Go.Proofs.Ytnacpcbaiaakhaa
/- THE CELL 'sum', in the pinned program and in every row, IS THE sha256 OF THE DUMP (.gsa) THAT YtnacpcbaiaakhaaProg.lean LOADS. Nothing in Lean hashes anything: it is a label: what it is worth is what the hold of that sum in a sandbox is worth. -/
noncomputable def Try.pinned : Pinned := { name := "ytnacpcbaiaakhaa", sum := "5b8b8140f05de3015c82d34b6f2479bd9c9ff68e8a78f2a8de9401b0e57a9067", checked := Try.checked }
namespace Rows
def none {H : Type} : Left H := { results := [], args := [] }

/-- 'ringkernlaw1.WordRound': WHATEVER THE INPUT: true; the input reads as it did. -/
def wordRoundSpec : ChangeSpec := { name := "wordRound", fn := fun _ => fun
  | [d1, d2] => { results := [.lit (.bool true)], args := [d1, d2] }
  | _ => none }
def wordRoundRow : OpenClaim := { program := "ytnacpcbaiaakhaa", sum := "5b8b8140f05de3015c82d34b6f2479bd9c9ff68e8a78f2a8de9401b0e57a9067", func := "ringkern/ringkernlaw1.WordRound", spec := "wordRound", apart := false }
def WordRoundSaid : Prop := wordRoundRow.holds Try.pinned (OpenSpec.ofChange wordRoundSpec)

/-- ITS FALSE NEIGHBOUR: 'it returns false'. Refute it at one input. -/
def wordRoundWrong : ChangeSpec := { name := "wordRound", fn := fun _ => fun
  | [d1, d2] => { results := [.lit (.bool false)], args := [d1, d2] }
  | _ => none }
def WordRoundWrongFalsely : Prop := wordRoundRow.holds Try.pinned (OpenSpec.ofChange wordRoundWrong)

/-- 'ringkernlaw15.ReplyPlays': WHATEVER THE INPUT: true; the input reads as it did. -/
def replyPlaysSpec : ChangeSpec := { name := "replyPlays", fn := fun _ => fun
  | [d] => { results := [.lit (.bool true)], args := [d] }
  | _ => none }
def replyPlaysRow : OpenClaim := { program := "ytnacpcbaiaakhaa", sum := "5b8b8140f05de3015c82d34b6f2479bd9c9ff68e8a78f2a8de9401b0e57a9067", func := "ringkern/ringkernlaw15.ReplyPlays", spec := "replyPlays", apart := false }
def ReplyPlaysSaid : Prop := replyPlaysRow.holds Try.pinned (OpenSpec.ofChange replyPlaysSpec)

/-- ITS FALSE NEIGHBOUR: 'it returns false'. Refute it at one input. -/
def replyPlaysWrong : ChangeSpec := { name := "replyPlays", fn := fun _ => fun
  | [d] => { results := [.lit (.bool false)], args := [d] }
  | _ => none }
def ReplyPlaysWrongFalsely : Prop := replyPlaysRow.holds Try.pinned (OpenSpec.ofChange replyPlaysWrong)

/-- 'ringkernlaw15.ReplyOne': WHATEVER THE INPUT: true; the input reads as it did. -/
def replyOneSpec : ChangeSpec := { name := "replyOne", fn := fun _ => fun
  | [d1, d2] => { results := [.lit (.bool true)], args := [d1, d2] }
  | _ => none }
def replyOneRow : OpenClaim := { program := "ytnacpcbaiaakhaa", sum := "5b8b8140f05de3015c82d34b6f2479bd9c9ff68e8a78f2a8de9401b0e57a9067", func := "ringkern/ringkernlaw15.ReplyOne", spec := "replyOne", apart := false }
def ReplyOneSaid : Prop := replyOneRow.holds Try.pinned (OpenSpec.ofChange replyOneSpec)

/-- ITS FALSE NEIGHBOUR: 'it returns false'. Refute it at one input. -/
def replyOneWrong : ChangeSpec := { name := "replyOne", fn := fun _ => fun
  | [d1, d2] => { results := [.lit (.bool false)], args := [d1, d2] }
  | _ => none }
def ReplyOneWrongFalsely : Prop := replyOneRow.holds Try.pinned (OpenSpec.ofChange replyOneWrong)

/-- 'ringkernlaw15.ReplyDrops': WHATEVER THE INPUT: true; the input reads as it did. -/
def replyDropsSpec : ChangeSpec := { name := "replyDrops", fn := fun _ => fun
  | [d] => { results := [.lit (.bool true)], args := [d] }
  | _ => none }
def replyDropsRow : OpenClaim := { program := "ytnacpcbaiaakhaa", sum := "5b8b8140f05de3015c82d34b6f2479bd9c9ff68e8a78f2a8de9401b0e57a9067", func := "ringkern/ringkernlaw15.ReplyDrops", spec := "replyDrops", apart := false }
def ReplyDropsSaid : Prop := replyDropsRow.holds Try.pinned (OpenSpec.ofChange replyDropsSpec)

/-- ITS FALSE NEIGHBOUR: 'it returns false'. Refute it at one input. -/
def replyDropsWrong : ChangeSpec := { name := "replyDrops", fn := fun _ => fun
  | [d] => { results := [.lit (.bool false)], args := [d] }
  | _ => none }
def ReplyDropsWrongFalsely : Prop := replyDropsRow.holds Try.pinned (OpenSpec.ofChange replyDropsWrong)

/-- 'ringkernlaw1.WordFields': WHATEVER THE INPUT: true; the input reads as it did. -/
def wordFieldsSpec : ChangeSpec := { name := "wordFields", fn := fun _ => fun
  | [d1, d2, d3, d4] => { results := [.lit (.bool true)], args := [d1, d2, d3, d4] }
  | _ => none }
def wordFieldsRow : OpenClaim := { program := "ytnacpcbaiaakhaa", sum := "5b8b8140f05de3015c82d34b6f2479bd9c9ff68e8a78f2a8de9401b0e57a9067", func := "ringkern/ringkernlaw1.WordFields", spec := "wordFields", apart := false }
def WordFieldsSaid : Prop := wordFieldsRow.holds Try.pinned (OpenSpec.ofChange wordFieldsSpec)

/-- ITS FALSE NEIGHBOUR: 'it returns false'. Refute it at one input. -/
def wordFieldsWrong : ChangeSpec := { name := "wordFields", fn := fun _ => fun
  | [d1, d2, d3, d4] => { results := [.lit (.bool false)], args := [d1, d2, d3, d4] }
  | _ => none }
def WordFieldsWrongFalsely : Prop := wordFieldsRow.holds Try.pinned (OpenSpec.ofChange wordFieldsWrong)

/-- 'ringkernlaw4.AddrBack': WHATEVER THE INPUT: true; the input reads as it did. -/
def addrBackSpec : ChangeSpec := { name := "addrBack", fn := fun _ => fun
  | [d1, d2, d3] => { results := [.lit (.bool true)], args := [d1, d2, d3] }
  | _ => none }
def addrBackRow : OpenClaim := { program := "ytnacpcbaiaakhaa", sum := "5b8b8140f05de3015c82d34b6f2479bd9c9ff68e8a78f2a8de9401b0e57a9067", func := "ringkern/ringkernlaw4.AddrBack", spec := "addrBack", apart := false }
def AddrBackSaid : Prop := addrBackRow.holds Try.pinned (OpenSpec.ofChange addrBackSpec)

/-- ITS FALSE NEIGHBOUR: 'it returns false'. Refute it at one input. -/
def addrBackWrong : ChangeSpec := { name := "addrBack", fn := fun _ => fun
  | [d1, d2, d3] => { results := [.lit (.bool false)], args := [d1, d2, d3] }
  | _ => none }
def AddrBackWrongFalsely : Prop := addrBackRow.holds Try.pinned (OpenSpec.ofChange addrBackWrong)

/-- 'ringkernlaw4.AddrSteps': WHATEVER THE INPUT: true; the input reads as it did. -/
def addrStepsSpec : ChangeSpec := { name := "addrSteps", fn := fun _ => fun
  | [d1, d2, d3] => { results := [.lit (.bool true)], args := [d1, d2, d3] }
  | _ => none }
def addrStepsRow : OpenClaim := { program := "ytnacpcbaiaakhaa", sum := "5b8b8140f05de3015c82d34b6f2479bd9c9ff68e8a78f2a8de9401b0e57a9067", func := "ringkern/ringkernlaw4.AddrSteps", spec := "addrSteps", apart := false }
def AddrStepsSaid : Prop := addrStepsRow.holds Try.pinned (OpenSpec.ofChange addrStepsSpec)

/-- ITS FALSE NEIGHBOUR: 'it returns false'. Refute it at one input. -/
def addrStepsWrong : ChangeSpec := { name := "addrSteps", fn := fun _ => fun
  | [d1, d2, d3] => { results := [.lit (.bool false)], args := [d1, d2, d3] }
  | _ => none }
def AddrStepsWrongFalsely : Prop := addrStepsRow.holds Try.pinned (OpenSpec.ofChange addrStepsWrong)

/-- 'ringkernlaw4.AddrWrong': WHATEVER THE INPUT: true; the input reads as it did. -/
def addrWrongSpec : ChangeSpec := { name := "addrWrong", fn := fun _ => fun
  | [d1, d2, d3] => { results := [.lit (.bool true)], args := [d1, d2, d3] }
  | _ => none }
def addrWrongRow : OpenClaim := { program := "ytnacpcbaiaakhaa", sum := "5b8b8140f05de3015c82d34b6f2479bd9c9ff68e8a78f2a8de9401b0e57a9067", func := "ringkern/ringkernlaw4.AddrWrong", spec := "addrWrong", apart := false }
def AddrWrongSaid : Prop := addrWrongRow.holds Try.pinned (OpenSpec.ofChange addrWrongSpec)

/-- ITS FALSE NEIGHBOUR: 'it returns false'. Refute it at one input. -/
def addrWrongWrong : ChangeSpec := { name := "addrWrong", fn := fun _ => fun
  | [d1, d2, d3] => { results := [.lit (.bool false)], args := [d1, d2, d3] }
  | _ => none }
def AddrWrongWrongFalsely : Prop := addrWrongRow.holds Try.pinned (OpenSpec.ofChange addrWrongWrong)

/-- 'ringkernlaw1.WordBack': WHATEVER THE INPUT: true; the input reads as it did. -/
def wordBackSpec : ChangeSpec := { name := "wordBack", fn := fun _ => fun
  | [d1, d2, d3] => { results := [.lit (.bool true)], args := [d1, d2, d3] }
  | _ => none }
def wordBackRow : OpenClaim := { program := "ytnacpcbaiaakhaa", sum := "5b8b8140f05de3015c82d34b6f2479bd9c9ff68e8a78f2a8de9401b0e57a9067", func := "ringkern/ringkernlaw1.WordBack", spec := "wordBack", apart := false }
def WordBackSaid : Prop := wordBackRow.holds Try.pinned (OpenSpec.ofChange wordBackSpec)

/-- ITS FALSE NEIGHBOUR: 'it returns false'. Refute it at one input. -/
def wordBackWrong : ChangeSpec := { name := "wordBack", fn := fun _ => fun
  | [d1, d2, d3] => { results := [.lit (.bool false)], args := [d1, d2, d3] }
  | _ => none }
def WordBackWrongFalsely : Prop := wordBackRow.holds Try.pinned (OpenSpec.ofChange wordBackWrong)

/-- 'ringkernlaw1.WordBytes': WHATEVER THE INPUT: true; the input reads as it did. -/
def wordBytesSpec : ChangeSpec := { name := "wordBytes", fn := fun _ => fun
  | [d1, d2] => { results := [.lit (.bool true)], args := [d1, d2] }
  | _ => none }
def wordBytesRow : OpenClaim := { program := "ytnacpcbaiaakhaa", sum := "5b8b8140f05de3015c82d34b6f2479bd9c9ff68e8a78f2a8de9401b0e57a9067", func := "ringkern/ringkernlaw1.WordBytes", spec := "wordBytes", apart := false }
def WordBytesSaid : Prop := wordBytesRow.holds Try.pinned (OpenSpec.ofChange wordBytesSpec)

/-- ITS FALSE NEIGHBOUR: 'it returns false'. Refute it at one input. -/
def wordBytesWrong : ChangeSpec := { name := "wordBytes", fn := fun _ => fun
  | [d1, d2] => { results := [.lit (.bool false)], args := [d1, d2] }
  | _ => none }
def WordBytesWrongFalsely : Prop := wordBytesRow.holds Try.pinned (OpenSpec.ofChange wordBytesWrong)

/-- 'ringkernlaw1.WordSays': WHATEVER THE INPUT: true; the input reads as it did. -/
def wordSaysSpec : ChangeSpec := { name := "wordSays", fn := fun _ => fun
  | [d1, d2, d3, d4, d5] => { results := [.lit (.bool true)], args := [d1, d2, d3, d4, d5] }
  | _ => none }
def wordSaysRow : OpenClaim := { program := "ytnacpcbaiaakhaa", sum := "5b8b8140f05de3015c82d34b6f2479bd9c9ff68e8a78f2a8de9401b0e57a9067", func := "ringkern/ringkernlaw1.WordSays", spec := "wordSays", apart := false }
def WordSaysSaid : Prop := wordSaysRow.holds Try.pinned (OpenSpec.ofChange wordSaysSpec)

/-- ITS FALSE NEIGHBOUR: 'it returns false'. Refute it at one input. -/
def wordSaysWrong : ChangeSpec := { name := "wordSays", fn := fun _ => fun
  | [d1, d2, d3, d4, d5] => { results := [.lit (.bool false)], args := [d1, d2, d3, d4, d5] }
  | _ => none }
def WordSaysWrongFalsely : Prop := wordSaysRow.holds Try.pinned (OpenSpec.ofChange wordSaysWrong)

/-- 'ringkernlaw4.AddrSays': WHATEVER THE INPUT: true; the input reads as it did. -/
def addrSaysSpec : ChangeSpec := { name := "addrSays", fn := fun _ => fun
  | [d1, d2, d3, d4, d5] => { results := [.lit (.bool true)], args := [d1, d2, d3, d4, d5] }
  | _ => none }
def addrSaysRow : OpenClaim := { program := "ytnacpcbaiaakhaa", sum := "5b8b8140f05de3015c82d34b6f2479bd9c9ff68e8a78f2a8de9401b0e57a9067", func := "ringkern/ringkernlaw4.AddrSays", spec := "addrSays", apart := false }
def AddrSaysSaid : Prop := addrSaysRow.holds Try.pinned (OpenSpec.ofChange addrSaysSpec)

/-- ITS FALSE NEIGHBOUR: 'it returns false'. Refute it at one input. -/
def addrSaysWrong : ChangeSpec := { name := "addrSays", fn := fun _ => fun
  | [d1, d2, d3, d4, d5] => { results := [.lit (.bool false)], args := [d1, d2, d3, d4, d5] }
  | _ => none }
def AddrSaysWrongFalsely : Prop := addrSaysRow.holds Try.pinned (OpenSpec.ofChange addrSaysWrong)

/- THE SECOND FORM. 'bulk': how many values and letters a reading holds, each counted each time it is reached (what is shared counts as often as it is met; a slice's spare places count too). A statement '..UptoSaid' is the law's where the arguments, and the package variables that the reading takes, are together of bulk at most 1048576: NARROWER than '..Said'. Prove '..Said' where nothing that the law and all that it calls make is longer than what came in: it says more and counts as full. Else prove '..UptoSaid'. A law counts once. -/
mutual
def uptoBulk {H : Type} : DataW H → Nat
  | .lit (.string bytes) => bytes.length + 1
  | .lit _ => 1
  | .nil => 1
  | .ptr d => uptoBulk d + 1
  | .slice elems spare => uptoBulkAll elems + uptoBulkAll spare + 1
  | .agg parts => uptoBulkAll parts + 1
  | .iface _ d => uptoBulk d + 1
  | .map entries => uptoBulkEntries entries + 1
  | .held _ => 1
def uptoBulkAll {H : Type} : List (DataW H) → Nat
  | [] => 0
  | d :: r => uptoBulk d + uptoBulkAll r
def uptoBulkEntries {H : Type} : List (Lit × DataW H) → Nat
  | [] => 0
  | x :: r => uptoBulkEntry x + uptoBulkEntries r
def uptoBulkEntry {H : Type} : Lit × DataW H → Nat
  | (.string bytes, d) => bytes.length + uptoBulk d + 1
  | (_, d) => uptoBulk d + 1
 end
def uptoSmall : (H : Type) → List (DataW H) → Bool := fun _ ds => decide (uptoBulkAll ds ≤ 1048576)
def OpenSpec.upto (s : _root_.Go.ChangeSpec) : _root_.Go.OpenSpec := { _root_.Go.OpenSpec.ofChange s with cond := some uptoSmall }

/-- 'ringkernlaw1.WordRound', WHERE WHAT IT READS IS OF BULK AT MOST 1048576: true; the input reads as it did. -/
def wordRoundUptoRow : OpenClaim := { program := "ytnacpcbaiaakhaa", sum := "5b8b8140f05de3015c82d34b6f2479bd9c9ff68e8a78f2a8de9401b0e57a9067", func := "ringkern/ringkernlaw1.WordRound", spec := "wordRound", apart := false, narrowed := true }
def WordRoundUptoSaid : Prop := wordRoundUptoRow.holds Try.pinned (OpenSpec.upto wordRoundSpec)

/-- 'ringkernlaw15.ReplyPlays', WHERE WHAT IT READS IS OF BULK AT MOST 1048576: true; the input reads as it did. -/
def replyPlaysUptoRow : OpenClaim := { program := "ytnacpcbaiaakhaa", sum := "5b8b8140f05de3015c82d34b6f2479bd9c9ff68e8a78f2a8de9401b0e57a9067", func := "ringkern/ringkernlaw15.ReplyPlays", spec := "replyPlays", apart := false, narrowed := true }
def ReplyPlaysUptoSaid : Prop := replyPlaysUptoRow.holds Try.pinned (OpenSpec.upto replyPlaysSpec)

/-- 'ringkernlaw15.ReplyOne', WHERE WHAT IT READS IS OF BULK AT MOST 1048576: true; the input reads as it did. -/
def replyOneUptoRow : OpenClaim := { program := "ytnacpcbaiaakhaa", sum := "5b8b8140f05de3015c82d34b6f2479bd9c9ff68e8a78f2a8de9401b0e57a9067", func := "ringkern/ringkernlaw15.ReplyOne", spec := "replyOne", apart := false, narrowed := true }
def ReplyOneUptoSaid : Prop := replyOneUptoRow.holds Try.pinned (OpenSpec.upto replyOneSpec)

/-- 'ringkernlaw15.ReplyDrops', WHERE WHAT IT READS IS OF BULK AT MOST 1048576: true; the input reads as it did. -/
def replyDropsUptoRow : OpenClaim := { program := "ytnacpcbaiaakhaa", sum := "5b8b8140f05de3015c82d34b6f2479bd9c9ff68e8a78f2a8de9401b0e57a9067", func := "ringkern/ringkernlaw15.ReplyDrops", spec := "replyDrops", apart := false, narrowed := true }
def ReplyDropsUptoSaid : Prop := replyDropsUptoRow.holds Try.pinned (OpenSpec.upto replyDropsSpec)

/-- 'ringkernlaw1.WordFields', WHERE WHAT IT READS IS OF BULK AT MOST 1048576: true; the input reads as it did. -/
def wordFieldsUptoRow : OpenClaim := { program := "ytnacpcbaiaakhaa", sum := "5b8b8140f05de3015c82d34b6f2479bd9c9ff68e8a78f2a8de9401b0e57a9067", func := "ringkern/ringkernlaw1.WordFields", spec := "wordFields", apart := false, narrowed := true }
def WordFieldsUptoSaid : Prop := wordFieldsUptoRow.holds Try.pinned (OpenSpec.upto wordFieldsSpec)

/-- 'ringkernlaw4.AddrBack', WHERE WHAT IT READS IS OF BULK AT MOST 1048576: true; the input reads as it did. -/
def addrBackUptoRow : OpenClaim := { program := "ytnacpcbaiaakhaa", sum := "5b8b8140f05de3015c82d34b6f2479bd9c9ff68e8a78f2a8de9401b0e57a9067", func := "ringkern/ringkernlaw4.AddrBack", spec := "addrBack", apart := false, narrowed := true }
def AddrBackUptoSaid : Prop := addrBackUptoRow.holds Try.pinned (OpenSpec.upto addrBackSpec)

/-- 'ringkernlaw4.AddrSteps', WHERE WHAT IT READS IS OF BULK AT MOST 1048576: true; the input reads as it did. -/
def addrStepsUptoRow : OpenClaim := { program := "ytnacpcbaiaakhaa", sum := "5b8b8140f05de3015c82d34b6f2479bd9c9ff68e8a78f2a8de9401b0e57a9067", func := "ringkern/ringkernlaw4.AddrSteps", spec := "addrSteps", apart := false, narrowed := true }
def AddrStepsUptoSaid : Prop := addrStepsUptoRow.holds Try.pinned (OpenSpec.upto addrStepsSpec)

/-- 'ringkernlaw4.AddrWrong', WHERE WHAT IT READS IS OF BULK AT MOST 1048576: true; the input reads as it did. -/
def addrWrongUptoRow : OpenClaim := { program := "ytnacpcbaiaakhaa", sum := "5b8b8140f05de3015c82d34b6f2479bd9c9ff68e8a78f2a8de9401b0e57a9067", func := "ringkern/ringkernlaw4.AddrWrong", spec := "addrWrong", apart := false, narrowed := true }
def AddrWrongUptoSaid : Prop := addrWrongUptoRow.holds Try.pinned (OpenSpec.upto addrWrongSpec)

/-- 'ringkernlaw1.WordBack', WHERE WHAT IT READS IS OF BULK AT MOST 1048576: true; the input reads as it did. -/
def wordBackUptoRow : OpenClaim := { program := "ytnacpcbaiaakhaa", sum := "5b8b8140f05de3015c82d34b6f2479bd9c9ff68e8a78f2a8de9401b0e57a9067", func := "ringkern/ringkernlaw1.WordBack", spec := "wordBack", apart := false, narrowed := true }
def WordBackUptoSaid : Prop := wordBackUptoRow.holds Try.pinned (OpenSpec.upto wordBackSpec)

/-- 'ringkernlaw1.WordBytes', WHERE WHAT IT READS IS OF BULK AT MOST 1048576: true; the input reads as it did. -/
def wordBytesUptoRow : OpenClaim := { program := "ytnacpcbaiaakhaa", sum := "5b8b8140f05de3015c82d34b6f2479bd9c9ff68e8a78f2a8de9401b0e57a9067", func := "ringkern/ringkernlaw1.WordBytes", spec := "wordBytes", apart := false, narrowed := true }
def WordBytesUptoSaid : Prop := wordBytesUptoRow.holds Try.pinned (OpenSpec.upto wordBytesSpec)

/-- 'ringkernlaw1.WordSays', WHERE WHAT IT READS IS OF BULK AT MOST 1048576: true; the input reads as it did. -/
def wordSaysUptoRow : OpenClaim := { program := "ytnacpcbaiaakhaa", sum := "5b8b8140f05de3015c82d34b6f2479bd9c9ff68e8a78f2a8de9401b0e57a9067", func := "ringkern/ringkernlaw1.WordSays", spec := "wordSays", apart := false, narrowed := true }
def WordSaysUptoSaid : Prop := wordSaysUptoRow.holds Try.pinned (OpenSpec.upto wordSaysSpec)

/-- 'ringkernlaw4.AddrSays', WHERE WHAT IT READS IS OF BULK AT MOST 1048576: true; the input reads as it did. -/
def addrSaysUptoRow : OpenClaim := { program := "ytnacpcbaiaakhaa", sum := "5b8b8140f05de3015c82d34b6f2479bd9c9ff68e8a78f2a8de9401b0e57a9067", func := "ringkern/ringkernlaw4.AddrSays", spec := "addrSays", apart := false, narrowed := true }
def AddrSaysUptoSaid : Prop := addrSaysUptoRow.holds Try.pinned (OpenSpec.upto addrSaysSpec)

end Rows
end Go.Proofs.Ytnacpcbaiaakhaa
