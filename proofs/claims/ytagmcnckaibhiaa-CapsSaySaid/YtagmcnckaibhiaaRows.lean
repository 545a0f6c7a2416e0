/-
  No cell of these rows narrows 'for every input' (looked for: loops, veiled, ifaces, maps, wideKeys, modest, calm, conditions, laid).
  DERIVED. THE GIVEN ROWS OF THIS SEAT. 12 by the template 'for every input the law returns true; each argument reads behind the call as it read before'; 0 by the template 'total and deterministic' (their statements: YtagmcnckaibhiaaTotals.lean).
  GIVEN WITH THE SEED: the statements are not yours to turn. If you find one false, say at which input.
  Laid BY PROGRAM, IN A SANDBOX (cutbox-rows.mjs): the forced cells as the released guide's own fill.sh prints them over the translation 9158b1b5907a40a2… (all of the seat's roots in one cut). By AI agents, Wed Nov 11 2026. No macro, syntax, notation, axiom, sorry.
-/
import Derived.Test.YtagmcnckaibhiaaChecked
import GoSem.Claim
import GoSem.ClaimJoined
import GoSem.ClaimMapViews
import Derived.JoinedTies
import Derived.KernelRfl
namespace Go.Proofs.Ytagmcnckaibhiaa
/- THE CELL 'sum', in the pinned program and in every row, IS THE sha256 OF THE DUMP (.gsa) THAT YtagmcnckaibhiaaProg.lean LOADS. Nothing in Lean hashes anything: it is a label: what it is worth is what the hold of that sum in a sandbox is worth. -/
noncomputable def Try.pinned : Pinned := { name := "ytagmcnckaibhiaa", sum := "9158b1b5907a40a20aa3037a52a11609d201033c7fdb3fbc0d4c8c5e35e94a2d", checked := Try.checked }
namespace Rows
def none {H : Type} : Left H := { results := [], args := [] }

/-- 'ringkernlaw3.CapsWrong': WHATEVER THE INPUT: true; the input reads as it did. -/
def capsWrongSpec : ChangeSpec := { name := "capsWrong", fn := fun _ => fun
  | [d1, d2] => { results := [.lit (.bool true)], args := [d1, d2] }
  | _ => none }
def capsWrongRow : OpenClaim := { program := "ytagmcnckaibhiaa", sum := "9158b1b5907a40a20aa3037a52a11609d201033c7fdb3fbc0d4c8c5e35e94a2d", func := "ringkern/ringkernlaw3.CapsWrong", spec := "capsWrong", apart := false }
def CapsWrongSaid : Prop := capsWrongRow.holds Try.pinned (OpenSpec.ofChange capsWrongSpec)

/-- ITS FALSE NEIGHBOUR: 'it returns false'. Refute it at one input. -/
def capsWrongWrong : ChangeSpec := { name := "capsWrong", fn := fun _ => fun
  | [d1, d2] => { results := [.lit (.bool false)], args := [d1, d2] }
  | _ => none }
def CapsWrongWrongFalsely : Prop := capsWrongRow.holds Try.pinned (OpenSpec.ofChange capsWrongWrong)

/-- 'ringkernlaw3.CapsLess': WHATEVER THE INPUT: true; the input reads as it did. -/
def capsLessSpec : ChangeSpec := { name := "capsLess", fn := fun _ => fun
  | [d1, d2, d3] => { results := [.lit (.bool true)], args := [d1, d2, d3] }
  | _ => none }
def capsLessRow : OpenClaim := { program := "ytagmcnckaibhiaa", sum := "9158b1b5907a40a20aa3037a52a11609d201033c7fdb3fbc0d4c8c5e35e94a2d", func := "ringkern/ringkernlaw3.CapsLess", spec := "capsLess", apart := false }
def CapsLessSaid : Prop := capsLessRow.holds Try.pinned (OpenSpec.ofChange capsLessSpec)

/-- ITS FALSE NEIGHBOUR: 'it returns false'. Refute it at one input. -/
def capsLessWrong : ChangeSpec := { name := "capsLess", fn := fun _ => fun
  | [d1, d2, d3] => { results := [.lit (.bool false)], args := [d1, d2, d3] }
  | _ => none }
def CapsLessWrongFalsely : Prop := capsLessRow.holds Try.pinned (OpenSpec.ofChange capsLessWrong)

/-- 'ringkernlaw3.CapsNames': WHATEVER THE INPUT: true; the input reads as it did. -/
def capsNamesSpec : ChangeSpec := { name := "capsNames", fn := fun _ => fun
  | [d1, d2, d3, d4, d5, d6] => { results := [.lit (.bool true)], args := [d1, d2, d3, d4, d5, d6] }
  | _ => none }
def capsNamesRow : OpenClaim := { program := "ytagmcnckaibhiaa", sum := "9158b1b5907a40a20aa3037a52a11609d201033c7fdb3fbc0d4c8c5e35e94a2d", func := "ringkern/ringkernlaw3.CapsNames", spec := "capsNames", apart := false }
def CapsNamesSaid : Prop := capsNamesRow.holds Try.pinned (OpenSpec.ofChange capsNamesSpec)

/-- ITS FALSE NEIGHBOUR: 'it returns false'. Refute it at one input. -/
def capsNamesWrong : ChangeSpec := { name := "capsNames", fn := fun _ => fun
  | [d1, d2, d3, d4, d5, d6] => { results := [.lit (.bool false)], args := [d1, d2, d3, d4, d5, d6] }
  | _ => none }
def CapsNamesWrongFalsely : Prop := capsNamesRow.holds Try.pinned (OpenSpec.ofChange capsNamesWrong)

/-- 'ringkernlaw17.CompLays': WHATEVER THE INPUT: true; the input reads as it did. -/
def compLaysSpec : ChangeSpec := { name := "compLays", fn := fun _ => fun
  | [d1, d2] => { results := [.lit (.bool true)], args := [d1, d2] }
  | _ => none }
def compLaysRow : OpenClaim := { program := "ytagmcnckaibhiaa", sum := "9158b1b5907a40a20aa3037a52a11609d201033c7fdb3fbc0d4c8c5e35e94a2d", func := "ringkern/ringkernlaw17.CompLays", spec := "compLays", apart := false }
def CompLaysSaid : Prop := compLaysRow.holds Try.pinned (OpenSpec.ofChange compLaysSpec)

/-- ITS FALSE NEIGHBOUR: 'it returns false'. Refute it at one input. -/
def compLaysWrong : ChangeSpec := { name := "compLays", fn := fun _ => fun
  | [d1, d2] => { results := [.lit (.bool false)], args := [d1, d2] }
  | _ => none }
def CompLaysWrongFalsely : Prop := compLaysRow.holds Try.pinned (OpenSpec.ofChange compLaysWrong)

/-- 'ringkernlaw2.PhysEdges': WHATEVER THE INPUT: true; the input reads as it did. -/
def physEdgesSpec : ChangeSpec := { name := "physEdges", fn := fun _ => fun
  | [d1, d2] => { results := [.lit (.bool true)], args := [d1, d2] }
  | _ => none }
def physEdgesRow : OpenClaim := { program := "ytagmcnckaibhiaa", sum := "9158b1b5907a40a20aa3037a52a11609d201033c7fdb3fbc0d4c8c5e35e94a2d", func := "ringkern/ringkernlaw2.PhysEdges", spec := "physEdges", apart := false }
def PhysEdgesSaid : Prop := physEdgesRow.holds Try.pinned (OpenSpec.ofChange physEdgesSpec)

/-- ITS FALSE NEIGHBOUR: 'it returns false'. Refute it at one input. -/
def physEdgesWrong : ChangeSpec := { name := "physEdges", fn := fun _ => fun
  | [d1, d2] => { results := [.lit (.bool false)], args := [d1, d2] }
  | _ => none }
def PhysEdgesWrongFalsely : Prop := physEdgesRow.holds Try.pinned (OpenSpec.ofChange physEdgesWrong)

/-- 'ringkernlaw2.PhysZero': WHATEVER THE INPUT: true; the input reads as it did. -/
def physZeroSpec : ChangeSpec := { name := "physZero", fn := fun _ => fun
  | [d1, d2, d3, d4] => { results := [.lit (.bool true)], args := [d1, d2, d3, d4] }
  | _ => none }
def physZeroRow : OpenClaim := { program := "ytagmcnckaibhiaa", sum := "9158b1b5907a40a20aa3037a52a11609d201033c7fdb3fbc0d4c8c5e35e94a2d", func := "ringkern/ringkernlaw2.PhysZero", spec := "physZero", apart := false }
def PhysZeroSaid : Prop := physZeroRow.holds Try.pinned (OpenSpec.ofChange physZeroSpec)

/-- ITS FALSE NEIGHBOUR: 'it returns false'. Refute it at one input. -/
def physZeroWrong : ChangeSpec := { name := "physZero", fn := fun _ => fun
  | [d1, d2, d3, d4] => { results := [.lit (.bool false)], args := [d1, d2, d3, d4] }
  | _ => none }
def PhysZeroWrongFalsely : Prop := physZeroRow.holds Try.pinned (OpenSpec.ofChange physZeroWrong)

/-- 'ringkernlaw3.CapsBadge': WHATEVER THE INPUT: true; the input reads as it did. -/
def capsBadgeSpec : ChangeSpec := { name := "capsBadge", fn := fun _ => fun
  | [d1, d2, d3] => { results := [.lit (.bool true)], args := [d1, d2, d3] }
  | _ => none }
def capsBadgeRow : OpenClaim := { program := "ytagmcnckaibhiaa", sum := "9158b1b5907a40a20aa3037a52a11609d201033c7fdb3fbc0d4c8c5e35e94a2d", func := "ringkern/ringkernlaw3.CapsBadge", spec := "capsBadge", apart := false }
def CapsBadgeSaid : Prop := capsBadgeRow.holds Try.pinned (OpenSpec.ofChange capsBadgeSpec)

/-- ITS FALSE NEIGHBOUR: 'it returns false'. Refute it at one input. -/
def capsBadgeWrong : ChangeSpec := { name := "capsBadge", fn := fun _ => fun
  | [d1, d2, d3] => { results := [.lit (.bool false)], args := [d1, d2, d3] }
  | _ => none }
def CapsBadgeWrongFalsely : Prop := capsBadgeRow.holds Try.pinned (OpenSpec.ofChange capsBadgeWrong)

/-- 'ringkernlaw2.PhysPlays': WHATEVER THE INPUT: true; the input reads as it did. -/
def physPlaysSpec : ChangeSpec := { name := "physPlays", fn := fun _ => fun
  | [d1, d2] => { results := [.lit (.bool true)], args := [d1, d2] }
  | _ => none }
def physPlaysRow : OpenClaim := { program := "ytagmcnckaibhiaa", sum := "9158b1b5907a40a20aa3037a52a11609d201033c7fdb3fbc0d4c8c5e35e94a2d", func := "ringkern/ringkernlaw2.PhysPlays", spec := "physPlays", apart := false }
def PhysPlaysSaid : Prop := physPlaysRow.holds Try.pinned (OpenSpec.ofChange physPlaysSpec)

/-- ITS FALSE NEIGHBOUR: 'it returns false'. Refute it at one input. -/
def physPlaysWrong : ChangeSpec := { name := "physPlays", fn := fun _ => fun
  | [d1, d2] => { results := [.lit (.bool false)], args := [d1, d2] }
  | _ => none }
def PhysPlaysWrongFalsely : Prop := physPlaysRow.holds Try.pinned (OpenSpec.ofChange physPlaysWrong)

/-- 'ringkernlaw2.PhysApart': WHATEVER THE INPUT: true; the input reads as it did. -/
def physApartSpec : ChangeSpec := { name := "physApart", fn := fun _ => fun
  | [d1, d2, d3, d4] => { results := [.lit (.bool true)], args := [d1, d2, d3, d4] }
  | _ => none }
def physApartRow : OpenClaim := { program := "ytagmcnckaibhiaa", sum := "9158b1b5907a40a20aa3037a52a11609d201033c7fdb3fbc0d4c8c5e35e94a2d", func := "ringkern/ringkernlaw2.PhysApart", spec := "physApart", apart := false }
def PhysApartSaid : Prop := physApartRow.holds Try.pinned (OpenSpec.ofChange physApartSpec)

/-- ITS FALSE NEIGHBOUR: 'it returns false'. Refute it at one input. -/
def physApartWrong : ChangeSpec := { name := "physApart", fn := fun _ => fun
  | [d1, d2, d3, d4] => { results := [.lit (.bool false)], args := [d1, d2, d3, d4] }
  | _ => none }
def PhysApartWrongFalsely : Prop := physApartRow.holds Try.pinned (OpenSpec.ofChange physApartWrong)

/-- 'ringkernlaw17.CompSays': WHATEVER THE INPUT: true; the input reads as it did. -/
def compSaysSpec : ChangeSpec := { name := "compSays", fn := fun _ => fun
  | [d1, d2, d3] => { results := [.lit (.bool true)], args := [d1, d2, d3] }
  | _ => none }
def compSaysRow : OpenClaim := { program := "ytagmcnckaibhiaa", sum := "9158b1b5907a40a20aa3037a52a11609d201033c7fdb3fbc0d4c8c5e35e94a2d", func := "ringkern/ringkernlaw17.CompSays", spec := "compSays", apart := false }
def CompSaysSaid : Prop := compSaysRow.holds Try.pinned (OpenSpec.ofChange compSaysSpec)

/-- ITS FALSE NEIGHBOUR: 'it returns false'. Refute it at one input. -/
def compSaysWrong : ChangeSpec := { name := "compSays", fn := fun _ => fun
  | [d1, d2, d3] => { results := [.lit (.bool false)], args := [d1, d2, d3] }
  | _ => none }
def CompSaysWrongFalsely : Prop := compSaysRow.holds Try.pinned (OpenSpec.ofChange compSaysWrong)

/-- 'ringkernlaw17.CompBack': WHATEVER THE INPUT: true; the input reads as it did. -/
def compBackSpec : ChangeSpec := { name := "compBack", fn := fun _ => fun
  | [d1, d2, d3] => { results := [.lit (.bool true)], args := [d1, d2, d3] }
  | _ => none }
def compBackRow : OpenClaim := { program := "ytagmcnckaibhiaa", sum := "9158b1b5907a40a20aa3037a52a11609d201033c7fdb3fbc0d4c8c5e35e94a2d", func := "ringkern/ringkernlaw17.CompBack", spec := "compBack", apart := false }
def CompBackSaid : Prop := compBackRow.holds Try.pinned (OpenSpec.ofChange compBackSpec)

/-- ITS FALSE NEIGHBOUR: 'it returns false'. Refute it at one input. -/
def compBackWrong : ChangeSpec := { name := "compBack", fn := fun _ => fun
  | [d1, d2, d3] => { results := [.lit (.bool false)], args := [d1, d2, d3] }
  | _ => none }
def CompBackWrongFalsely : Prop := compBackRow.holds Try.pinned (OpenSpec.ofChange compBackWrong)

/-- 'ringkernlaw3.CapsSay': WHATEVER THE INPUT: true; the input reads as it did. -/
def capsSaySpec : ChangeSpec := { name := "capsSay", fn := fun _ => fun
  | [d1, d2, d3, d4, d5] => { results := [.lit (.bool true)], args := [d1, d2, d3, d4, d5] }
  | _ => none }
def capsSayRow : OpenClaim := { program := "ytagmcnckaibhiaa", sum := "9158b1b5907a40a20aa3037a52a11609d201033c7fdb3fbc0d4c8c5e35e94a2d", func := "ringkern/ringkernlaw3.CapsSay", spec := "capsSay", apart := false }
def CapsSaySaid : Prop := capsSayRow.holds Try.pinned (OpenSpec.ofChange capsSaySpec)

/-- ITS FALSE NEIGHBOUR: 'it returns false'. Refute it at one input. -/
def capsSayWrong : ChangeSpec := { name := "capsSay", fn := fun _ => fun
  | [d1, d2, d3, d4, d5] => { results := [.lit (.bool false)], args := [d1, d2, d3, d4, d5] }
  | _ => none }
def CapsSayWrongFalsely : Prop := capsSayRow.holds Try.pinned (OpenSpec.ofChange capsSayWrong)

/- THE SECOND FORM. 'bulk': how many values and letters a reading holds, each counted each time it is reached (what is shared counts as often as it is met; a slice's spare places count too). A statement '..UptoSaid' is the law's where the arguments, and the package variables that the reading takes, are together of bulk at most 1048576: NARROWER than '..Said'. Prove '..Said' where nothing that the law and all that it calls make is longer than what came in: it says more and counts as full. Else prove '..UptoSaid'. A law counts once. -/
mutual
def uptoBulk {H : Type} : DataW H → Nat
  | .lit (.string bytes) => bytes.length + 1
  | .lit _ => 1
  | .nil => 1
  | .ptr d => uptoBulk d + 1
  | .slice elems spare => uptoBulkAll elems + uptoBulkAll spare + 1
  | .agg parts => uptoBulkAll parts + 1
  | .iface _ d => uptoBulk d + 1
  | .map entries => uptoBulkEntries entries + 1
  | .held _ => 1
def uptoBulkAll {H : Type} : List (DataW H) → Nat
  | [] => 0
  | d :: r => uptoBulk d + uptoBulkAll r
def uptoBulkEntries {H : Type} : List (Lit × DataW H) → Nat
  | [] => 0
  | x :: r => uptoBulkEntry x + uptoBulkEntries r
def uptoBulkEntry {H : Type} : Lit × DataW H → Nat
  | (.string bytes, d) => bytes.length + uptoBulk d + 1
  | (_, d) => uptoBulk d + 1
 end
def uptoSmall : (H : Type) → List (DataW H) → Bool := fun _ ds => decide (uptoBulkAll ds ≤ 1048576)
def OpenSpec.upto (s : _root_.Go.ChangeSpec) : _root_.Go.OpenSpec := { _root_.Go.OpenSpec.ofChange s with cond := some uptoSmall }

/-- 'ringkernlaw3.CapsWrong', WHERE WHAT IT READS IS OF BULK AT MOST 1048576: true; the input reads as it did. -/
def capsWrongUptoRow : OpenClaim := { program := "ytagmcnckaibhiaa", sum := "9158b1b5907a40a20aa3037a52a11609d201033c7fdb3fbc0d4c8c5e35e94a2d", func := "ringkern/ringkernlaw3.CapsWrong", spec := "capsWrong", apart := false, narrowed := true }
def CapsWrongUptoSaid : Prop := capsWrongUptoRow.holds Try.pinned (OpenSpec.upto capsWrongSpec)

/-- 'ringkernlaw3.CapsLess', WHERE WHAT IT READS IS OF BULK AT MOST 1048576: true; the input reads as it did. -/
def capsLessUptoRow : OpenClaim := { program := "ytagmcnckaibhiaa", sum := "9158b1b5907a40a20aa3037a52a11609d201033c7fdb3fbc0d4c8c5e35e94a2d", func := "ringkern/ringkernlaw3.CapsLess", spec := "capsLess", apart := false, narrowed := true }
def CapsLessUptoSaid : Prop := capsLessUptoRow.holds Try.pinned (OpenSpec.upto capsLessSpec)

/-- 'ringkernlaw3.CapsNames', WHERE WHAT IT READS IS OF BULK AT MOST 1048576: true; the input reads as it did. -/
def capsNamesUptoRow : OpenClaim := { program := "ytagmcnckaibhiaa", sum := "9158b1b5907a40a20aa3037a52a11609d201033c7fdb3fbc0d4c8c5e35e94a2d", func := "ringkern/ringkernlaw3.CapsNames", spec := "capsNames", apart := false, narrowed := true }
def CapsNamesUptoSaid : Prop := capsNamesUptoRow.holds Try.pinned (OpenSpec.upto capsNamesSpec)

/-- 'ringkernlaw17.CompLays', WHERE WHAT IT READS IS OF BULK AT MOST 1048576: true; the input reads as it did. -/
def compLaysUptoRow : OpenClaim := { program := "ytagmcnckaibhiaa", sum := "9158b1b5907a40a20aa3037a52a11609d201033c7fdb3fbc0d4c8c5e35e94a2d", func := "ringkern/ringkernlaw17.CompLays", spec := "compLays", apart := false, narrowed := true }
def CompLaysUptoSaid : Prop := compLaysUptoRow.holds Try.pinned (OpenSpec.upto compLaysSpec)

/-- 'ringkernlaw2.PhysEdges', WHERE WHAT IT READS IS OF BULK AT MOST 1048576: true; the input reads as it did. -/
def physEdgesUptoRow : OpenClaim := { program := "ytagmcnckaibhiaa", sum := "9158b1b5907a40a20aa3037a52a11609d201033c7fdb3fbc0d4c8c5e35e94a2d", func := "ringkern/ringkernlaw2.PhysEdges", spec := "physEdges", apart := false, narrowed := true }
def PhysEdgesUptoSaid : Prop := physEdgesUptoRow.holds Try.pinned (OpenSpec.upto physEdgesSpec)

/-- 'ringkernlaw2.PhysZero', WHERE WHAT IT READS IS OF BULK AT MOST 1048576: true; the input reads as it did. -/
def physZeroUptoRow : OpenClaim := { program := "ytagmcnckaibhiaa", sum := "9158b1b5907a40a20aa3037a52a11609d201033c7fdb3fbc0d4c8c5e35e94a2d", func := "ringkern/ringkernlaw2.PhysZero", spec := "physZero", apart := false, narrowed := true }
def PhysZeroUptoSaid : Prop := physZeroUptoRow.holds Try.pinned (OpenSpec.upto physZeroSpec)

/-- 'ringkernlaw3.CapsBadge', WHERE WHAT IT READS IS OF BULK AT MOST 1048576: true; the input reads as it did. -/
def capsBadgeUptoRow : OpenClaim := { program := "ytagmcnckaibhiaa", sum := "9158b1b5907a40a20aa3037a52a11609d201033c7fdb3fbc0d4c8c5e35e94a2d", func := "ringkern/ringkernlaw3.CapsBadge", spec := "capsBadge", apart := false, narrowed := true }
def CapsBadgeUptoSaid : Prop := capsBadgeUptoRow.holds Try.pinned (OpenSpec.upto capsBadgeSpec)

/-- 'ringkernlaw2.PhysPlays', WHERE WHAT IT READS IS OF BULK AT MOST 1048576: true; the input reads as it did. -/
def physPlaysUptoRow : OpenClaim := { program := "ytagmcnckaibhiaa", sum := "9158b1b5907a40a20aa3037a52a11609d201033c7fdb3fbc0d4c8c5e35e94a2d", func := "ringkern/ringkernlaw2.PhysPlays", spec := "physPlays", apart := false, narrowed := true }
def PhysPlaysUptoSaid : Prop := physPlaysUptoRow.holds Try.pinned (OpenSpec.upto physPlaysSpec)

/-- 'ringkernlaw2.PhysApart', WHERE WHAT IT READS IS OF BULK AT MOST 1048576: true; the input reads as it did. -/
def physApartUptoRow : OpenClaim := { program := "ytagmcnckaibhiaa", sum := "9158b1b5907a40a20aa3037a52a11609d201033c7fdb3fbc0d4c8c5e35e94a2d", func := "ringkern/ringkernlaw2.PhysApart", spec := "physApart", apart := false, narrowed := true }
def PhysApartUptoSaid : Prop := physApartUptoRow.holds Try.pinned (OpenSpec.upto physApartSpec)

/-- 'ringkernlaw17.CompSays', WHERE WHAT IT READS IS OF BULK AT MOST 1048576: true; the input reads as it did. -/
def compSaysUptoRow : OpenClaim := { program := "ytagmcnckaibhiaa", sum := "9158b1b5907a40a20aa3037a52a11609d201033c7fdb3fbc0d4c8c5e35e94a2d", func := "ringkern/ringkernlaw17.CompSays", spec := "compSays", apart := false, narrowed := true }
def CompSaysUptoSaid : Prop := compSaysUptoRow.holds Try.pinned (OpenSpec.upto compSaysSpec)

/-- 'ringkernlaw17.CompBack', WHERE WHAT IT READS IS OF BULK AT MOST 1048576: true; the input reads as it did. -/
def compBackUptoRow : OpenClaim := { program := "ytagmcnckaibhiaa", sum := "9158b1b5907a40a20aa3037a52a11609d201033c7fdb3fbc0d4c8c5e35e94a2d", func := "ringkern/ringkernlaw17.CompBack", spec := "compBack", apart := false, narrowed := true }
def CompBackUptoSaid : Prop := compBackUptoRow.holds Try.pinned (OpenSpec.upto compBackSpec)

/-- 'ringkernlaw3.CapsSay', WHERE WHAT IT READS IS OF BULK AT MOST 1048576: true; the input reads as it did. -/
def capsSayUptoRow : OpenClaim := { program := "ytagmcnckaibhiaa", sum := "9158b1b5907a40a20aa3037a52a11609d201033c7fdb3fbc0d4c8c5e35e94a2d", func := "ringkern/ringkernlaw3.CapsSay", spec := "capsSay", apart := false, narrowed := true }
def CapsSayUptoSaid : Prop := capsSayUptoRow.holds Try.pinned (OpenSpec.upto capsSaySpec)

end Rows
end Go.Proofs.Ytagmcnckaibhiaa
