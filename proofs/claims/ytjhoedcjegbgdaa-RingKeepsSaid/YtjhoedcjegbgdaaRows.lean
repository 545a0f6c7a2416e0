/-
  No cell of these rows narrows 'for every input' (looked for: loops, veiled, ifaces, maps, wideKeys, modest, calm, conditions, laid).
  DERIVED. THE GIVEN ROWS OF THIS SEAT. 9 by the template 'for every input the law returns true; each argument reads behind the call as it read before'; 0 by the template 'total and deterministic' (their statements: YtjhoedcjegbgdaaTotals.lean).
  GIVEN WITH THE SEED: the statements are not yours to turn. If you find one false, say at which input.
  Laid BY PROGRAM, IN A SANDBOX (cutbox-rows.mjs): the forced cells as the released guide's own fill.sh prints them over the translation 52f584866ceb8967… (all of the seat's roots in one cut). By AI agents, Wed Nov 11 2026. No macro, syntax, notation, axiom, sorry.
-/
import Derived.Test.YtjhoedcjegbgdaaChecked
import GoSem.Claim
import GoSem.ClaimJoined
import GoSem.ClaimMapViews
import Derived.JoinedTies
import Derived.KernelRfl
namespace Go.Proofs.Ytjhoedcjegbgdaa
/- THE CELL 'sum', in the pinned program and in every row, IS THE sha256 OF THE DUMP (.gsa) THAT YtjhoedcjegbgdaaProg.lean LOADS. Nothing in Lean hashes anything: it is a label: what it is worth is what the hold of that sum in a sandbox is worth. -/
noncomputable def Try.pinned : Pinned := { name := "ytjhoedcjegbgdaa", sum := "52f584866ceb89677f79c6664223640a4f5fd79685643a3cb2a862dcef567297", checked := Try.checked }
namespace Rows
def none {H : Type} : Left H := { results := [], args := [] }

/-- 'ringkernlaw2.PhysEdges': WHATEVER THE INPUT: true; the input reads as it did. -/
def physEdgesSpec : ChangeSpec := { name := "physEdges", fn := fun _ => fun
  | [d1, d2] => { results := [.lit (.bool true)], args := [d1, d2] }
  | _ => none }
def physEdgesRow : OpenClaim := { program := "ytjhoedcjegbgdaa", sum := "52f584866ceb89677f79c6664223640a4f5fd79685643a3cb2a862dcef567297", func := "ringkern/ringkernlaw2.PhysEdges", spec := "physEdges", apart := false }
def PhysEdgesSaid : Prop := physEdgesRow.holds Try.pinned (OpenSpec.ofChange physEdgesSpec)

/-- ITS FALSE NEIGHBOUR: 'it returns false'. Refute it at one input. -/
def physEdgesWrong : ChangeSpec := { name := "physEdges", fn := fun _ => fun
  | [d1, d2] => { results := [.lit (.bool false)], args := [d1, d2] }
  | _ => none }
def PhysEdgesWrongFalsely : Prop := physEdgesRow.holds Try.pinned (OpenSpec.ofChange physEdgesWrong)

/-- 'ringkernlaw2.PhysZero': WHATEVER THE INPUT: true; the input reads as it did. -/
def physZeroSpec : ChangeSpec := { name := "physZero", fn := fun _ => fun
  | [d1, d2, d3, d4] => { results := [.lit (.bool true)], args := [d1, d2, d3, d4] }
  | _ => none }
def physZeroRow : OpenClaim := { program := "ytjhoedcjegbgdaa", sum := "52f584866ceb89677f79c6664223640a4f5fd79685643a3cb2a862dcef567297", func := "ringkern/ringkernlaw2.PhysZero", spec := "physZero", apart := false }
def PhysZeroSaid : Prop := physZeroRow.holds Try.pinned (OpenSpec.ofChange physZeroSpec)

/-- ITS FALSE NEIGHBOUR: 'it returns false'. Refute it at one input. -/
def physZeroWrong : ChangeSpec := { name := "physZero", fn := fun _ => fun
  | [d1, d2, d3, d4] => { results := [.lit (.bool false)], args := [d1, d2, d3, d4] }
  | _ => none }
def PhysZeroWrongFalsely : Prop := physZeroRow.holds Try.pinned (OpenSpec.ofChange physZeroWrong)

/-- 'ringkernlaw2.PhysPlays': WHATEVER THE INPUT: true; the input reads as it did. -/
def physPlaysSpec : ChangeSpec := { name := "physPlays", fn := fun _ => fun
  | [d1, d2] => { results := [.lit (.bool true)], args := [d1, d2] }
  | _ => none }
def physPlaysRow : OpenClaim := { program := "ytjhoedcjegbgdaa", sum := "52f584866ceb89677f79c6664223640a4f5fd79685643a3cb2a862dcef567297", func := "ringkern/ringkernlaw2.PhysPlays", spec := "physPlays", apart := false }
def PhysPlaysSaid : Prop := physPlaysRow.holds Try.pinned (OpenSpec.ofChange physPlaysSpec)

/-- ITS FALSE NEIGHBOUR: 'it returns false'. Refute it at one input. -/
def physPlaysWrong : ChangeSpec := { name := "physPlays", fn := fun _ => fun
  | [d1, d2] => { results := [.lit (.bool false)], args := [d1, d2] }
  | _ => none }
def PhysPlaysWrongFalsely : Prop := physPlaysRow.holds Try.pinned (OpenSpec.ofChange physPlaysWrong)

/-- 'ringkernlaw2.PhysApart': WHATEVER THE INPUT: true; the input reads as it did. -/
def physApartSpec : ChangeSpec := { name := "physApart", fn := fun _ => fun
  | [d1, d2, d3, d4] => { results := [.lit (.bool true)], args := [d1, d2, d3, d4] }
  | _ => none }
def physApartRow : OpenClaim := { program := "ytjhoedcjegbgdaa", sum := "52f584866ceb89677f79c6664223640a4f5fd79685643a3cb2a862dcef567297", func := "ringkern/ringkernlaw2.PhysApart", spec := "physApart", apart := false }
def PhysApartSaid : Prop := physApartRow.holds Try.pinned (OpenSpec.ofChange physApartSpec)

/-- ITS FALSE NEIGHBOUR: 'it returns false'. Refute it at one input. -/
def physApartWrong : ChangeSpec := { name := "physApart", fn := fun _ => fun
  | [d1, d2, d3, d4] => { results := [.lit (.bool false)], args := [d1, d2, d3, d4] }
  | _ => none }
def PhysApartWrongFalsely : Prop := physApartRow.holds Try.pinned (OpenSpec.ofChange physApartWrong)

/-- 'ringkernlaw18.RingTakes': WHATEVER THE INPUT: true; the input reads as it did. -/
def ringTakesSpec : ChangeSpec := { name := "ringTakes", fn := fun _ => fun
  | [d1, d2, d3] => { results := [.lit (.bool true)], args := [d1, d2, d3] }
  | _ => none }
def ringTakesRow : OpenClaim := { program := "ytjhoedcjegbgdaa", sum := "52f584866ceb89677f79c6664223640a4f5fd79685643a3cb2a862dcef567297", func := "ringkern/ringkernlaw18.RingTakes", spec := "ringTakes", apart := false }
def RingTakesSaid : Prop := ringTakesRow.holds Try.pinned (OpenSpec.ofChange ringTakesSpec)

/-- ITS FALSE NEIGHBOUR: 'it returns false'. Refute it at one input. -/
def ringTakesWrong : ChangeSpec := { name := "ringTakes", fn := fun _ => fun
  | [d1, d2, d3] => { results := [.lit (.bool false)], args := [d1, d2, d3] }
  | _ => none }
def RingTakesWrongFalsely : Prop := ringTakesRow.holds Try.pinned (OpenSpec.ofChange ringTakesWrong)

/-- 'ringkernlaw18.RingHostile': WHATEVER THE INPUT: true; the input reads as it did. -/
def ringHostileSpec : ChangeSpec := { name := "ringHostile", fn := fun _ => fun
  | [d1, d2, d3, d4] => { results := [.lit (.bool true)], args := [d1, d2, d3, d4] }
  | _ => none }
def ringHostileRow : OpenClaim := { program := "ytjhoedcjegbgdaa", sum := "52f584866ceb89677f79c6664223640a4f5fd79685643a3cb2a862dcef567297", func := "ringkern/ringkernlaw18.RingHostile", spec := "ringHostile", apart := false }
def RingHostileSaid : Prop := ringHostileRow.holds Try.pinned (OpenSpec.ofChange ringHostileSpec)

/-- ITS FALSE NEIGHBOUR: 'it returns false'. Refute it at one input. -/
def ringHostileWrong : ChangeSpec := { name := "ringHostile", fn := fun _ => fun
  | [d1, d2, d3, d4] => { results := [.lit (.bool false)], args := [d1, d2, d3, d4] }
  | _ => none }
def RingHostileWrongFalsely : Prop := ringHostileRow.holds Try.pinned (OpenSpec.ofChange ringHostileWrong)

/-- 'ringkernlaw18.RingKeeps': WHATEVER THE INPUT: true; the input reads as it did. -/
def ringKeepsSpec : ChangeSpec := { name := "ringKeeps", fn := fun _ => fun
  | [d1, d2] => { results := [.lit (.bool true)], args := [d1, d2] }
  | _ => none }
def ringKeepsRow : OpenClaim := { program := "ytjhoedcjegbgdaa", sum := "52f584866ceb89677f79c6664223640a4f5fd79685643a3cb2a862dcef567297", func := "ringkern/ringkernlaw18.RingKeeps", spec := "ringKeeps", apart := false }
def RingKeepsSaid : Prop := ringKeepsRow.holds Try.pinned (OpenSpec.ofChange ringKeepsSpec)

/-- ITS FALSE NEIGHBOUR: 'it returns false'. Refute it at one input. -/
def ringKeepsWrong : ChangeSpec := { name := "ringKeeps", fn := fun _ => fun
  | [d1, d2] => { results := [.lit (.bool false)], args := [d1, d2] }
  | _ => none }
def RingKeepsWrongFalsely : Prop := ringKeepsRow.holds Try.pinned (OpenSpec.ofChange ringKeepsWrong)

/-- 'ringkernlaw18.RingRoom': WHATEVER THE INPUT: true; the input reads as it did. -/
def ringRoomSpec : ChangeSpec := { name := "ringRoom", fn := fun _ => fun
  | [d1, d2, d3, d4] => { results := [.lit (.bool true)], args := [d1, d2, d3, d4] }
  | _ => none }
def ringRoomRow : OpenClaim := { program := "ytjhoedcjegbgdaa", sum := "52f584866ceb89677f79c6664223640a4f5fd79685643a3cb2a862dcef567297", func := "ringkern/ringkernlaw18.RingRoom", spec := "ringRoom", apart := false }
def RingRoomSaid : Prop := ringRoomRow.holds Try.pinned (OpenSpec.ofChange ringRoomSpec)

/-- ITS FALSE NEIGHBOUR: 'it returns false'. Refute it at one input. -/
def ringRoomWrong : ChangeSpec := { name := "ringRoom", fn := fun _ => fun
  | [d1, d2, d3, d4] => { results := [.lit (.bool false)], args := [d1, d2, d3, d4] }
  | _ => none }
def RingRoomWrongFalsely : Prop := ringRoomRow.holds Try.pinned (OpenSpec.ofChange ringRoomWrong)

/-- 'ringkernlaw18.RingPlays': WHATEVER THE INPUT: true; the input reads as it did. -/
def ringPlaysSpec : ChangeSpec := { name := "ringPlays", fn := fun _ => fun
  | [d1, d2, d3] => { results := [.lit (.bool true)], args := [d1, d2, d3] }
  | _ => none }
def ringPlaysRow : OpenClaim := { program := "ytjhoedcjegbgdaa", sum := "52f584866ceb89677f79c6664223640a4f5fd79685643a3cb2a862dcef567297", func := "ringkern/ringkernlaw18.RingPlays", spec := "ringPlays", apart := false }
def RingPlaysSaid : Prop := ringPlaysRow.holds Try.pinned (OpenSpec.ofChange ringPlaysSpec)

/-- ITS FALSE NEIGHBOUR: 'it returns false'. Refute it at one input. -/
def ringPlaysWrong : ChangeSpec := { name := "ringPlays", fn := fun _ => fun
  | [d1, d2, d3] => { results := [.lit (.bool false)], args := [d1, d2, d3] }
  | _ => none }
def RingPlaysWrongFalsely : Prop := ringPlaysRow.holds Try.pinned (OpenSpec.ofChange ringPlaysWrong)

/- THE SECOND FORM. 'bulk': how many values and letters a reading holds, each counted each time it is reached (what is shared counts as often as it is met; a slice's spare places count too). A statement '..UptoSaid' is the law's where the arguments, and the package variables that the reading takes, are together of bulk at most 1048576: NARROWER than '..Said'. Prove '..Said' where nothing that the law and all that it calls make is longer than what came in: it says more and counts as full. Else prove '..UptoSaid'. A law counts once. -/
mutual
def uptoBulk {H : Type} : DataW H → Nat
  | .lit (.string bytes) => bytes.length + 1
  | .lit _ => 1
  | .nil => 1
  | .ptr d => uptoBulk d + 1
  | .slice elems spare => uptoBulkAll elems + uptoBulkAll spare + 1
  | .agg parts => uptoBulkAll parts + 1
  | .iface _ d => uptoBulk d + 1
  | .map entries => uptoBulkEntries entries + 1
  | .held _ => 1
def uptoBulkAll {H : Type} : List (DataW H) → Nat
  | [] => 0
  | d :: r => uptoBulk d + uptoBulkAll r
def uptoBulkEntries {H : Type} : List (Lit × DataW H) → Nat
  | [] => 0
  | x :: r => uptoBulkEntry x + uptoBulkEntries r
def uptoBulkEntry {H : Type} : Lit × DataW H → Nat
  | (.string bytes, d) => bytes.length + uptoBulk d + 1
  | (_, d) => uptoBulk d + 1
 end
def uptoSmall : (H : Type) → List (DataW H) → Bool := fun _ ds => decide (uptoBulkAll ds ≤ 1048576)
def OpenSpec.upto (s : _root_.Go.ChangeSpec) : _root_.Go.OpenSpec := { _root_.Go.OpenSpec.ofChange s with cond := some uptoSmall }

/-- 'ringkernlaw2.PhysEdges', WHERE WHAT IT READS IS OF BULK AT MOST 1048576: true; the input reads as it did. -/
def physEdgesUptoRow : OpenClaim := { program := "ytjhoedcjegbgdaa", sum := "52f584866ceb89677f79c6664223640a4f5fd79685643a3cb2a862dcef567297", func := "ringkern/ringkernlaw2.PhysEdges", spec := "physEdges", apart := false, narrowed := true }
def PhysEdgesUptoSaid : Prop := physEdgesUptoRow.holds Try.pinned (OpenSpec.upto physEdgesSpec)

/-- 'ringkernlaw2.PhysZero', WHERE WHAT IT READS IS OF BULK AT MOST 1048576: true; the input reads as it did. -/
def physZeroUptoRow : OpenClaim := { program := "ytjhoedcjegbgdaa", sum := "52f584866ceb89677f79c6664223640a4f5fd79685643a3cb2a862dcef567297", func := "ringkern/ringkernlaw2.PhysZero", spec := "physZero", apart := false, narrowed := true }
def PhysZeroUptoSaid : Prop := physZeroUptoRow.holds Try.pinned (OpenSpec.upto physZeroSpec)

/-- 'ringkernlaw2.PhysPlays', WHERE WHAT IT READS IS OF BULK AT MOST 1048576: true; the input reads as it did. -/
def physPlaysUptoRow : OpenClaim := { program := "ytjhoedcjegbgdaa", sum := "52f584866ceb89677f79c6664223640a4f5fd79685643a3cb2a862dcef567297", func := "ringkern/ringkernlaw2.PhysPlays", spec := "physPlays", apart := false, narrowed := true }
def PhysPlaysUptoSaid : Prop := physPlaysUptoRow.holds Try.pinned (OpenSpec.upto physPlaysSpec)

/-- 'ringkernlaw2.PhysApart', WHERE WHAT IT READS IS OF BULK AT MOST 1048576: true; the input reads as it did. -/
def physApartUptoRow : OpenClaim := { program := "ytjhoedcjegbgdaa", sum := "52f584866ceb89677f79c6664223640a4f5fd79685643a3cb2a862dcef567297", func := "ringkern/ringkernlaw2.PhysApart", spec := "physApart", apart := false, narrowed := true }
def PhysApartUptoSaid : Prop := physApartUptoRow.holds Try.pinned (OpenSpec.upto physApartSpec)

/-- 'ringkernlaw18.RingTakes', WHERE WHAT IT READS IS OF BULK AT MOST 1048576: true; the input reads as it did. -/
def ringTakesUptoRow : OpenClaim := { program := "ytjhoedcjegbgdaa", sum := "52f584866ceb89677f79c6664223640a4f5fd79685643a3cb2a862dcef567297", func := "ringkern/ringkernlaw18.RingTakes", spec := "ringTakes", apart := false, narrowed := true }
def RingTakesUptoSaid : Prop := ringTakesUptoRow.holds Try.pinned (OpenSpec.upto ringTakesSpec)

/-- 'ringkernlaw18.RingHostile', WHERE WHAT IT READS IS OF BULK AT MOST 1048576: true; the input reads as it did. -/
def ringHostileUptoRow : OpenClaim := { program := "ytjhoedcjegbgdaa", sum := "52f584866ceb89677f79c6664223640a4f5fd79685643a3cb2a862dcef567297", func := "ringkern/ringkernlaw18.RingHostile", spec := "ringHostile", apart := false, narrowed := true }
def RingHostileUptoSaid : Prop := ringHostileUptoRow.holds Try.pinned (OpenSpec.upto ringHostileSpec)

/-- 'ringkernlaw18.RingKeeps', WHERE WHAT IT READS IS OF BULK AT MOST 1048576: true; the input reads as it did. -/
def ringKeepsUptoRow : OpenClaim := { program := "ytjhoedcjegbgdaa", sum := "52f584866ceb89677f79c6664223640a4f5fd79685643a3cb2a862dcef567297", func := "ringkern/ringkernlaw18.RingKeeps", spec := "ringKeeps", apart := false, narrowed := true }
def RingKeepsUptoSaid : Prop := ringKeepsUptoRow.holds Try.pinned (OpenSpec.upto ringKeepsSpec)

/-- 'ringkernlaw18.RingRoom', WHERE WHAT IT READS IS OF BULK AT MOST 1048576: true; the input reads as it did. -/
def ringRoomUptoRow : OpenClaim := { program := "ytjhoedcjegbgdaa", sum := "52f584866ceb89677f79c6664223640a4f5fd79685643a3cb2a862dcef567297", func := "ringkern/ringkernlaw18.RingRoom", spec := "ringRoom", apart := false, narrowed := true }
def RingRoomUptoSaid : Prop := ringRoomUptoRow.holds Try.pinned (OpenSpec.upto ringRoomSpec)

/-- 'ringkernlaw18.RingPlays', WHERE WHAT IT READS IS OF BULK AT MOST 1048576: true; the input reads as it did. -/
def ringPlaysUptoRow : OpenClaim := { program := "ytjhoedcjegbgdaa", sum := "52f584866ceb89677f79c6664223640a4f5fd79685643a3cb2a862dcef567297", func := "ringkern/ringkernlaw18.RingPlays", spec := "ringPlays", apart := false, narrowed := true }
def RingPlaysUptoSaid : Prop := ringPlaysUptoRow.holds Try.pinned (OpenSpec.upto ringPlaysSpec)

end Rows
end Go.Proofs.Ytjhoedcjegbgdaa
