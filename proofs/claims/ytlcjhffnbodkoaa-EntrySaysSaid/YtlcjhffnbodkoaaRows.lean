/-
  No cell of these rows narrows 'for every input' (looked for: loops, veiled, ifaces, maps, wideKeys, modest, calm, conditions, laid).
  DERIVED. THE GIVEN ROWS OF THIS SEAT. 11 by the template 'for every input the law returns true; each argument reads behind the call as it read before'; 0 by the template 'total and deterministic' (their statements: YtlcjhffnbodkoaaTotals.lean).
  GIVEN WITH THE SEED: the statements are not yours to turn. If you find one false, say at which input.
  Laid BY PROGRAM, IN A SANDBOX (cutbox-rows.mjs): the forced cells as the released guide's own fill.sh prints them over the translation 6d3ceee13b6e3a54… (all of the seat's roots in one cut). By AI agents, Wed Nov 11 2026. No macro, syntax, notation, axiom, sorry.
-/
import Derived.Test.YtlcjhffnbodkoaaChecked
import GoSem.Claim
import GoSem.ClaimJoined
import GoSem.ClaimMapViews
import Derived.JoinedTies
import Derived.KernelRfl
namespace Go.Proofs.Ytlcjhffnbodkoaa
/- THE CELL 'sum', in the pinned program and in every row, IS THE sha256 OF THE DUMP (.gsa) THAT YtlcjhffnbodkoaaProg.lean LOADS. Nothing in Lean hashes anything: it is a label: what it is worth is what the hold of that sum in a sandbox is worth. -/
noncomputable def Try.pinned : Pinned := { name := "ytlcjhffnbodkoaa", sum := "6d3ceee13b6e3a54bd87ff8b4b27d0cedbe877a58d0a2ec1888c49f1eb2cc356", checked := Try.checked }
namespace Rows
def none {H : Type} : Left H := { results := [], args := [] }

/-- 'ringkernlaw1.WordBack': WHATEVER THE INPUT: true; the input reads as it did. -/
def wordBackSpec : ChangeSpec := { name := "wordBack", fn := fun _ => fun
  | [d1, d2, d3] => { results := [.lit (.bool true)], args := [d1, d2, d3] }
  | _ => none }
def wordBackRow : OpenClaim := { program := "ytlcjhffnbodkoaa", sum := "6d3ceee13b6e3a54bd87ff8b4b27d0cedbe877a58d0a2ec1888c49f1eb2cc356", func := "ringkern/ringkernlaw1.WordBack", spec := "wordBack", apart := false }
def WordBackSaid : Prop := wordBackRow.holds Try.pinned (OpenSpec.ofChange wordBackSpec)

/-- ITS FALSE NEIGHBOUR: 'it returns false'. Refute it at one input. -/
def wordBackWrong : ChangeSpec := { name := "wordBack", fn := fun _ => fun
  | [d1, d2, d3] => { results := [.lit (.bool false)], args := [d1, d2, d3] }
  | _ => none }
def WordBackWrongFalsely : Prop := wordBackRow.holds Try.pinned (OpenSpec.ofChange wordBackWrong)

/-- 'ringkernlaw1.WordBytes': WHATEVER THE INPUT: true; the input reads as it did. -/
def wordBytesSpec : ChangeSpec := { name := "wordBytes", fn := fun _ => fun
  | [d1, d2] => { results := [.lit (.bool true)], args := [d1, d2] }
  | _ => none }
def wordBytesRow : OpenClaim := { program := "ytlcjhffnbodkoaa", sum := "6d3ceee13b6e3a54bd87ff8b4b27d0cedbe877a58d0a2ec1888c49f1eb2cc356", func := "ringkern/ringkernlaw1.WordBytes", spec := "wordBytes", apart := false }
def WordBytesSaid : Prop := wordBytesRow.holds Try.pinned (OpenSpec.ofChange wordBytesSpec)

/-- ITS FALSE NEIGHBOUR: 'it returns false'. Refute it at one input. -/
def wordBytesWrong : ChangeSpec := { name := "wordBytes", fn := fun _ => fun
  | [d1, d2] => { results := [.lit (.bool false)], args := [d1, d2] }
  | _ => none }
def WordBytesWrongFalsely : Prop := wordBytesRow.holds Try.pinned (OpenSpec.ofChange wordBytesWrong)

/-- 'ringkernlaw1.WordSays': WHATEVER THE INPUT: true; the input reads as it did. -/
def wordSaysSpec : ChangeSpec := { name := "wordSays", fn := fun _ => fun
  | [d1, d2, d3, d4, d5] => { results := [.lit (.bool true)], args := [d1, d2, d3, d4, d5] }
  | _ => none }
def wordSaysRow : OpenClaim := { program := "ytlcjhffnbodkoaa", sum := "6d3ceee13b6e3a54bd87ff8b4b27d0cedbe877a58d0a2ec1888c49f1eb2cc356", func := "ringkern/ringkernlaw1.WordSays", spec := "wordSays", apart := false }
def WordSaysSaid : Prop := wordSaysRow.holds Try.pinned (OpenSpec.ofChange wordSaysSpec)

/-- ITS FALSE NEIGHBOUR: 'it returns false'. Refute it at one input. -/
def wordSaysWrong : ChangeSpec := { name := "wordSays", fn := fun _ => fun
  | [d1, d2, d3, d4, d5] => { results := [.lit (.bool false)], args := [d1, d2, d3, d4, d5] }
  | _ => none }
def WordSaysWrongFalsely : Prop := wordSaysRow.holds Try.pinned (OpenSpec.ofChange wordSaysWrong)

/-- 'ringkernlaw17.CompLays': WHATEVER THE INPUT: true; the input reads as it did. -/
def compLaysSpec : ChangeSpec := { name := "compLays", fn := fun _ => fun
  | [d1, d2] => { results := [.lit (.bool true)], args := [d1, d2] }
  | _ => none }
def compLaysRow : OpenClaim := { program := "ytlcjhffnbodkoaa", sum := "6d3ceee13b6e3a54bd87ff8b4b27d0cedbe877a58d0a2ec1888c49f1eb2cc356", func := "ringkern/ringkernlaw17.CompLays", spec := "compLays", apart := false }
def CompLaysSaid : Prop := compLaysRow.holds Try.pinned (OpenSpec.ofChange compLaysSpec)

/-- ITS FALSE NEIGHBOUR: 'it returns false'. Refute it at one input. -/
def compLaysWrong : ChangeSpec := { name := "compLays", fn := fun _ => fun
  | [d1, d2] => { results := [.lit (.bool false)], args := [d1, d2] }
  | _ => none }
def CompLaysWrongFalsely : Prop := compLaysRow.holds Try.pinned (OpenSpec.ofChange compLaysWrong)

/-- 'ringkernlaw17.CompSays': WHATEVER THE INPUT: true; the input reads as it did. -/
def compSaysSpec : ChangeSpec := { name := "compSays", fn := fun _ => fun
  | [d1, d2, d3] => { results := [.lit (.bool true)], args := [d1, d2, d3] }
  | _ => none }
def compSaysRow : OpenClaim := { program := "ytlcjhffnbodkoaa", sum := "6d3ceee13b6e3a54bd87ff8b4b27d0cedbe877a58d0a2ec1888c49f1eb2cc356", func := "ringkern/ringkernlaw17.CompSays", spec := "compSays", apart := false }
def CompSaysSaid : Prop := compSaysRow.holds Try.pinned (OpenSpec.ofChange compSaysSpec)

/-- ITS FALSE NEIGHBOUR: 'it returns false'. Refute it at one input. -/
def compSaysWrong : ChangeSpec := { name := "compSays", fn := fun _ => fun
  | [d1, d2, d3] => { results := [.lit (.bool false)], args := [d1, d2, d3] }
  | _ => none }
def CompSaysWrongFalsely : Prop := compSaysRow.holds Try.pinned (OpenSpec.ofChange compSaysWrong)

/-- 'ringkernlaw17.CompBack': WHATEVER THE INPUT: true; the input reads as it did. -/
def compBackSpec : ChangeSpec := { name := "compBack", fn := fun _ => fun
  | [d1, d2, d3] => { results := [.lit (.bool true)], args := [d1, d2, d3] }
  | _ => none }
def compBackRow : OpenClaim := { program := "ytlcjhffnbodkoaa", sum := "6d3ceee13b6e3a54bd87ff8b4b27d0cedbe877a58d0a2ec1888c49f1eb2cc356", func := "ringkern/ringkernlaw17.CompBack", spec := "compBack", apart := false }
def CompBackSaid : Prop := compBackRow.holds Try.pinned (OpenSpec.ofChange compBackSpec)

/-- ITS FALSE NEIGHBOUR: 'it returns false'. Refute it at one input. -/
def compBackWrong : ChangeSpec := { name := "compBack", fn := fun _ => fun
  | [d1, d2, d3] => { results := [.lit (.bool false)], args := [d1, d2, d3] }
  | _ => none }
def CompBackWrongFalsely : Prop := compBackRow.holds Try.pinned (OpenSpec.ofChange compBackWrong)

/-- 'ringkernlaw16.EntryWrong': WHATEVER THE INPUT: true; the input reads as it did. -/
def entryWrongSpec : ChangeSpec := { name := "entryWrong", fn := fun _ => fun
  | [d1, d2, d3] => { results := [.lit (.bool true)], args := [d1, d2, d3] }
  | _ => none }
def entryWrongRow : OpenClaim := { program := "ytlcjhffnbodkoaa", sum := "6d3ceee13b6e3a54bd87ff8b4b27d0cedbe877a58d0a2ec1888c49f1eb2cc356", func := "ringkern/ringkernlaw16.EntryWrong", spec := "entryWrong", apart := false }
def EntryWrongSaid : Prop := entryWrongRow.holds Try.pinned (OpenSpec.ofChange entryWrongSpec)

/-- ITS FALSE NEIGHBOUR: 'it returns false'. Refute it at one input. -/
def entryWrongWrong : ChangeSpec := { name := "entryWrong", fn := fun _ => fun
  | [d1, d2, d3] => { results := [.lit (.bool false)], args := [d1, d2, d3] }
  | _ => none }
def EntryWrongWrongFalsely : Prop := entryWrongRow.holds Try.pinned (OpenSpec.ofChange entryWrongWrong)

/-- 'ringkernlaw16.EntryBack': WHATEVER THE INPUT: true; the input reads as it did. -/
def entryBackSpec : ChangeSpec := { name := "entryBack", fn := fun _ => fun
  | [d1, d2, d3] => { results := [.lit (.bool true)], args := [d1, d2, d3] }
  | _ => none }
def entryBackRow : OpenClaim := { program := "ytlcjhffnbodkoaa", sum := "6d3ceee13b6e3a54bd87ff8b4b27d0cedbe877a58d0a2ec1888c49f1eb2cc356", func := "ringkern/ringkernlaw16.EntryBack", spec := "entryBack", apart := false }
def EntryBackSaid : Prop := entryBackRow.holds Try.pinned (OpenSpec.ofChange entryBackSpec)

/-- ITS FALSE NEIGHBOUR: 'it returns false'. Refute it at one input. -/
def entryBackWrong : ChangeSpec := { name := "entryBack", fn := fun _ => fun
  | [d1, d2, d3] => { results := [.lit (.bool false)], args := [d1, d2, d3] }
  | _ => none }
def EntryBackWrongFalsely : Prop := entryBackRow.holds Try.pinned (OpenSpec.ofChange entryBackWrong)

/-- 'ringkernlaw16.EntryLays': WHATEVER THE INPUT: true; the input reads as it did. -/
def entryLaysSpec : ChangeSpec := { name := "entryLays", fn := fun _ => fun
  | [d1, d2, d3] => { results := [.lit (.bool true)], args := [d1, d2, d3] }
  | _ => none }
def entryLaysRow : OpenClaim := { program := "ytlcjhffnbodkoaa", sum := "6d3ceee13b6e3a54bd87ff8b4b27d0cedbe877a58d0a2ec1888c49f1eb2cc356", func := "ringkern/ringkernlaw16.EntryLays", spec := "entryLays", apart := false }
def EntryLaysSaid : Prop := entryLaysRow.holds Try.pinned (OpenSpec.ofChange entryLaysSpec)

/-- ITS FALSE NEIGHBOUR: 'it returns false'. Refute it at one input. -/
def entryLaysWrong : ChangeSpec := { name := "entryLays", fn := fun _ => fun
  | [d1, d2, d3] => { results := [.lit (.bool false)], args := [d1, d2, d3] }
  | _ => none }
def EntryLaysWrongFalsely : Prop := entryLaysRow.holds Try.pinned (OpenSpec.ofChange entryLaysWrong)

/-- 'ringkernlaw16.EntrySays': WHATEVER THE INPUT: true; the input reads as it did. -/
def entrySaysSpec : ChangeSpec := { name := "entrySays", fn := fun _ => fun
  | [d1, d2, d3, d4, d5, d6] => { results := [.lit (.bool true)], args := [d1, d2, d3, d4, d5, d6] }
  | _ => none }
def entrySaysRow : OpenClaim := { program := "ytlcjhffnbodkoaa", sum := "6d3ceee13b6e3a54bd87ff8b4b27d0cedbe877a58d0a2ec1888c49f1eb2cc356", func := "ringkern/ringkernlaw16.EntrySays", spec := "entrySays", apart := false }
def EntrySaysSaid : Prop := entrySaysRow.holds Try.pinned (OpenSpec.ofChange entrySaysSpec)

/-- ITS FALSE NEIGHBOUR: 'it returns false'. Refute it at one input. -/
def entrySaysWrong : ChangeSpec := { name := "entrySays", fn := fun _ => fun
  | [d1, d2, d3, d4, d5, d6] => { results := [.lit (.bool false)], args := [d1, d2, d3, d4, d5, d6] }
  | _ => none }
def EntrySaysWrongFalsely : Prop := entrySaysRow.holds Try.pinned (OpenSpec.ofChange entrySaysWrong)

/-- 'ringkernlaw16.EntryTimes': WHATEVER THE INPUT: true; the input reads as it did. -/
def entryTimesSpec : ChangeSpec := { name := "entryTimes", fn := fun _ => fun
  | [d1, d2, d3] => { results := [.lit (.bool true)], args := [d1, d2, d3] }
  | _ => none }
def entryTimesRow : OpenClaim := { program := "ytlcjhffnbodkoaa", sum := "6d3ceee13b6e3a54bd87ff8b4b27d0cedbe877a58d0a2ec1888c49f1eb2cc356", func := "ringkern/ringkernlaw16.EntryTimes", spec := "entryTimes", apart := false }
def EntryTimesSaid : Prop := entryTimesRow.holds Try.pinned (OpenSpec.ofChange entryTimesSpec)

/-- ITS FALSE NEIGHBOUR: 'it returns false'. Refute it at one input. -/
def entryTimesWrong : ChangeSpec := { name := "entryTimes", fn := fun _ => fun
  | [d1, d2, d3] => { results := [.lit (.bool false)], args := [d1, d2, d3] }
  | _ => none }
def EntryTimesWrongFalsely : Prop := entryTimesRow.holds Try.pinned (OpenSpec.ofChange entryTimesWrong)

/- THE SECOND FORM. 'bulk': how many values and letters a reading holds, each counted each time it is reached (what is shared counts as often as it is met; a slice's spare places count too). A statement '..UptoSaid' is the law's where the arguments, and the package variables that the reading takes, are together of bulk at most 1048576: NARROWER than '..Said'. Prove '..Said' where nothing that the law and all that it calls make is longer than what came in: it says more and counts as full. Else prove '..UptoSaid'. A law counts once. -/
mutual
def uptoBulk {H : Type} : DataW H → Nat
  | .lit (.string bytes) => bytes.length + 1
  | .lit _ => 1
  | .nil => 1
  | .ptr d => uptoBulk d + 1
  | .slice elems spare => uptoBulkAll elems + uptoBulkAll spare + 1
  | .agg parts => uptoBulkAll parts + 1
  | .iface _ d => uptoBulk d + 1
  | .map entries => uptoBulkEntries entries + 1
  | .held _ => 1
def uptoBulkAll {H : Type} : List (DataW H) → Nat
  | [] => 0
  | d :: r => uptoBulk d + uptoBulkAll r
def uptoBulkEntries {H : Type} : List (Lit × DataW H) → Nat
  | [] => 0
  | x :: r => uptoBulkEntry x + uptoBulkEntries r
def uptoBulkEntry {H : Type} : Lit × DataW H → Nat
  | (.string bytes, d) => bytes.length + uptoBulk d + 1
  | (_, d) => uptoBulk d + 1
 end
def uptoSmall : (H : Type) → List (DataW H) → Bool := fun _ ds => decide (uptoBulkAll ds ≤ 1048576)
def OpenSpec.upto (s : _root_.Go.ChangeSpec) : _root_.Go.OpenSpec := { _root_.Go.OpenSpec.ofChange s with cond := some uptoSmall }

/-- 'ringkernlaw1.WordBack', WHERE WHAT IT READS IS OF BULK AT MOST 1048576: true; the input reads as it did. -/
def wordBackUptoRow : OpenClaim := { program := "ytlcjhffnbodkoaa", sum := "6d3ceee13b6e3a54bd87ff8b4b27d0cedbe877a58d0a2ec1888c49f1eb2cc356", func := "ringkern/ringkernlaw1.WordBack", spec := "wordBack", apart := false, narrowed := true }
def WordBackUptoSaid : Prop := wordBackUptoRow.holds Try.pinned (OpenSpec.upto wordBackSpec)

/-- 'ringkernlaw1.WordBytes', WHERE WHAT IT READS IS OF BULK AT MOST 1048576: true; the input reads as it did. -/
def wordBytesUptoRow : OpenClaim := { program := "ytlcjhffnbodkoaa", sum := "6d3ceee13b6e3a54bd87ff8b4b27d0cedbe877a58d0a2ec1888c49f1eb2cc356", func := "ringkern/ringkernlaw1.WordBytes", spec := "wordBytes", apart := false, narrowed := true }
def WordBytesUptoSaid : Prop := wordBytesUptoRow.holds Try.pinned (OpenSpec.upto wordBytesSpec)

/-- 'ringkernlaw1.WordSays', WHERE WHAT IT READS IS OF BULK AT MOST 1048576: true; the input reads as it did. -/
def wordSaysUptoRow : OpenClaim := { program := "ytlcjhffnbodkoaa", sum := "6d3ceee13b6e3a54bd87ff8b4b27d0cedbe877a58d0a2ec1888c49f1eb2cc356", func := "ringkern/ringkernlaw1.WordSays", spec := "wordSays", apart := false, narrowed := true }
def WordSaysUptoSaid : Prop := wordSaysUptoRow.holds Try.pinned (OpenSpec.upto wordSaysSpec)

/-- 'ringkernlaw17.CompLays', WHERE WHAT IT READS IS OF BULK AT MOST 1048576: true; the input reads as it did. -/
def compLaysUptoRow : OpenClaim := { program := "ytlcjhffnbodkoaa", sum := "6d3ceee13b6e3a54bd87ff8b4b27d0cedbe877a58d0a2ec1888c49f1eb2cc356", func := "ringkern/ringkernlaw17.CompLays", spec := "compLays", apart := false, narrowed := true }
def CompLaysUptoSaid : Prop := compLaysUptoRow.holds Try.pinned (OpenSpec.upto compLaysSpec)

/-- 'ringkernlaw17.CompSays', WHERE WHAT IT READS IS OF BULK AT MOST 1048576: true; the input reads as it did. -/
def compSaysUptoRow : OpenClaim := { program := "ytlcjhffnbodkoaa", sum := "6d3ceee13b6e3a54bd87ff8b4b27d0cedbe877a58d0a2ec1888c49f1eb2cc356", func := "ringkern/ringkernlaw17.CompSays", spec := "compSays", apart := false, narrowed := true }
def CompSaysUptoSaid : Prop := compSaysUptoRow.holds Try.pinned (OpenSpec.upto compSaysSpec)

/-- 'ringkernlaw17.CompBack', WHERE WHAT IT READS IS OF BULK AT MOST 1048576: true; the input reads as it did. -/
def compBackUptoRow : OpenClaim := { program := "ytlcjhffnbodkoaa", sum := "6d3ceee13b6e3a54bd87ff8b4b27d0cedbe877a58d0a2ec1888c49f1eb2cc356", func := "ringkern/ringkernlaw17.CompBack", spec := "compBack", apart := false, narrowed := true }
def CompBackUptoSaid : Prop := compBackUptoRow.holds Try.pinned (OpenSpec.upto compBackSpec)

/-- 'ringkernlaw16.EntryWrong', WHERE WHAT IT READS IS OF BULK AT MOST 1048576: true; the input reads as it did. -/
def entryWrongUptoRow : OpenClaim := { program := "ytlcjhffnbodkoaa", sum := "6d3ceee13b6e3a54bd87ff8b4b27d0cedbe877a58d0a2ec1888c49f1eb2cc356", func := "ringkern/ringkernlaw16.EntryWrong", spec := "entryWrong", apart := false, narrowed := true }
def EntryWrongUptoSaid : Prop := entryWrongUptoRow.holds Try.pinned (OpenSpec.upto entryWrongSpec)

/-- 'ringkernlaw16.EntryBack', WHERE WHAT IT READS IS OF BULK AT MOST 1048576: true; the input reads as it did. -/
def entryBackUptoRow : OpenClaim := { program := "ytlcjhffnbodkoaa", sum := "6d3ceee13b6e3a54bd87ff8b4b27d0cedbe877a58d0a2ec1888c49f1eb2cc356", func := "ringkern/ringkernlaw16.EntryBack", spec := "entryBack", apart := false, narrowed := true }
def EntryBackUptoSaid : Prop := entryBackUptoRow.holds Try.pinned (OpenSpec.upto entryBackSpec)

/-- 'ringkernlaw16.EntryLays', WHERE WHAT IT READS IS OF BULK AT MOST 1048576: true; the input reads as it did. -/
def entryLaysUptoRow : OpenClaim := { program := "ytlcjhffnbodkoaa", sum := "6d3ceee13b6e3a54bd87ff8b4b27d0cedbe877a58d0a2ec1888c49f1eb2cc356", func := "ringkern/ringkernlaw16.EntryLays", spec := "entryLays", apart := false, narrowed := true }
def EntryLaysUptoSaid : Prop := entryLaysUptoRow.holds Try.pinned (OpenSpec.upto entryLaysSpec)

/-- 'ringkernlaw16.EntrySays', WHERE WHAT IT READS IS OF BULK AT MOST 1048576: true; the input reads as it did. -/
def entrySaysUptoRow : OpenClaim := { program := "ytlcjhffnbodkoaa", sum := "6d3ceee13b6e3a54bd87ff8b4b27d0cedbe877a58d0a2ec1888c49f1eb2cc356", func := "ringkern/ringkernlaw16.EntrySays", spec := "entrySays", apart := false, narrowed := true }
def EntrySaysUptoSaid : Prop := entrySaysUptoRow.holds Try.pinned (OpenSpec.upto entrySaysSpec)

/-- 'ringkernlaw16.EntryTimes', WHERE WHAT IT READS IS OF BULK AT MOST 1048576: true; the input reads as it did. -/
def entryTimesUptoRow : OpenClaim := { program := "ytlcjhffnbodkoaa", sum := "6d3ceee13b6e3a54bd87ff8b4b27d0cedbe877a58d0a2ec1888c49f1eb2cc356", func := "ringkern/ringkernlaw16.EntryTimes", spec := "entryTimes", apart := false, narrowed := true }
def EntryTimesUptoSaid : Prop := entryTimesUptoRow.holds Try.pinned (OpenSpec.upto entryTimesSpec)

end Rows
end Go.Proofs.Ytlcjhffnbodkoaa
