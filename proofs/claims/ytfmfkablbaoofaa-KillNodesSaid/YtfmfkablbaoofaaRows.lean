/-
  No cell of these rows narrows 'for every input' (looked for: loops, veiled, ifaces, maps, wideKeys, modest, calm, conditions, laid).
  DERIVED. THE GIVEN ROWS OF THIS SEAT. 10 by the template 'for every input the law returns true; each argument reads behind the call as it read before'; 0 by the template 'total and deterministic' (their statements: YtfmfkablbaoofaaTotals.lean).
  GIVEN WITH THE SEED: the statements are not yours to turn. If you find one false, say at which input.
  Laid BY PROGRAM, IN A SANDBOX (cutbox-rows.mjs): the forced cells as the released guide's own fill.sh prints them over the translation 22b21e4f5ee669af… (all of the seat's roots in one cut). By AI agents, Wed Nov 11 2026. No macro, syntax, notation, axiom, sorry.
-/
import Derived.Test.YtfmfkablbaoofaaChecked
import GoSem.Claim
import GoSem.ClaimJoined
import GoSem.ClaimMapViews
import Derived.JoinedTies
import Derived.KernelRfl
namespace Go.Proofs.Ytfmfkablbaoofaa
/- THE CELL 'sum', in the pinned program and in every row, IS THE sha256 OF THE DUMP (.gsa) THAT YtfmfkablbaoofaaProg.lean LOADS. Nothing in Lean hashes anything: it is a label: what it is worth is what the hold of that sum in a sandbox is worth. -/
noncomputable def Try.pinned : Pinned := { name := "ytfmfkablbaoofaa", sum := "22b21e4f5ee669afab66fb2b3b0487c3acddb401a50ad28d24140fb815b5e5ab", checked := Try.checked }
namespace Rows
def none {H : Type} : Left H := { results := [], args := [] }

/-- 'ringkernlaw7.DupRows': WHATEVER THE INPUT: true; the input reads as it did. -/
def dupRowsSpec : ChangeSpec := { name := "dupRows", fn := fun _ => fun
  | [d] => { results := [.lit (.bool true)], args := [d] }
  | _ => none }
def dupRowsRow : OpenClaim := { program := "ytfmfkablbaoofaa", sum := "22b21e4f5ee669afab66fb2b3b0487c3acddb401a50ad28d24140fb815b5e5ab", func := "ringkern/ringkernlaw7.DupRows", spec := "dupRows", unfollowed := true, recurses := true, plainKeys := false, apart := false }
def DupRowsSaid : Prop := dupRowsRow.holds Try.pinned (OpenSpec.ofChange dupRowsSpec)

/-- ITS FALSE NEIGHBOUR: 'it returns false'. Refute it at one input. -/
def dupRowsWrong : ChangeSpec := { name := "dupRows", fn := fun _ => fun
  | [d] => { results := [.lit (.bool false)], args := [d] }
  | _ => none }
def DupRowsWrongFalsely : Prop := dupRowsRow.holds Try.pinned (OpenSpec.ofChange dupRowsWrong)

/-- 'ringkernlaw7.DupNames': WHATEVER THE INPUT: true; the input reads as it did. -/
def dupNamesSpec : ChangeSpec := { name := "dupNames", fn := fun _ => fun
  | [d1, d2, d3] => { results := [.lit (.bool true)], args := [d1, d2, d3] }
  | _ => none }
def dupNamesRow : OpenClaim := { program := "ytfmfkablbaoofaa", sum := "22b21e4f5ee669afab66fb2b3b0487c3acddb401a50ad28d24140fb815b5e5ab", func := "ringkern/ringkernlaw7.DupNames", spec := "dupNames", unfollowed := true, recurses := true, plainKeys := false, apart := false }
def DupNamesSaid : Prop := dupNamesRow.holds Try.pinned (OpenSpec.ofChange dupNamesSpec)

/-- ITS FALSE NEIGHBOUR: 'it returns false'. Refute it at one input. -/
def dupNamesWrong : ChangeSpec := { name := "dupNames", fn := fun _ => fun
  | [d1, d2, d3] => { results := [.lit (.bool false)], args := [d1, d2, d3] }
  | _ => none }
def DupNamesWrongFalsely : Prop := dupNamesRow.holds Try.pinned (OpenSpec.ofChange dupNamesWrong)

/-- 'ringkernlaw8.KillLast': WHATEVER THE INPUT: true; the input reads as it did. -/
def killLastSpec : ChangeSpec := { name := "killLast", fn := fun _ => fun
  | [d1, d2] => { results := [.lit (.bool true)], args := [d1, d2] }
  | _ => none }
def killLastRow : OpenClaim := { program := "ytfmfkablbaoofaa", sum := "22b21e4f5ee669afab66fb2b3b0487c3acddb401a50ad28d24140fb815b5e5ab", func := "ringkern/ringkernlaw8.KillLast", spec := "killLast", unfollowed := true, recurses := true, plainKeys := false, apart := false }
def KillLastSaid : Prop := killLastRow.holds Try.pinned (OpenSpec.ofChange killLastSpec)

/-- ITS FALSE NEIGHBOUR: 'it returns false'. Refute it at one input. -/
def killLastWrong : ChangeSpec := { name := "killLast", fn := fun _ => fun
  | [d1, d2] => { results := [.lit (.bool false)], args := [d1, d2] }
  | _ => none }
def KillLastWrongFalsely : Prop := killLastRow.holds Try.pinned (OpenSpec.ofChange killLastWrong)

/-- 'ringkernlaw8.KillNodes': WHATEVER THE INPUT: true; the input reads as it did. -/
def killNodesSpec : ChangeSpec := { name := "killNodes", fn := fun _ => fun
  | [d1, d2] => { results := [.lit (.bool true)], args := [d1, d2] }
  | _ => none }
def killNodesRow : OpenClaim := { program := "ytfmfkablbaoofaa", sum := "22b21e4f5ee669afab66fb2b3b0487c3acddb401a50ad28d24140fb815b5e5ab", func := "ringkern/ringkernlaw8.KillNodes", spec := "killNodes", unfollowed := true, recurses := true, plainKeys := false, apart := false }
def KillNodesSaid : Prop := killNodesRow.holds Try.pinned (OpenSpec.ofChange killNodesSpec)

/-- ITS FALSE NEIGHBOUR: 'it returns false'. Refute it at one input. -/
def killNodesWrong : ChangeSpec := { name := "killNodes", fn := fun _ => fun
  | [d1, d2] => { results := [.lit (.bool false)], args := [d1, d2] }
  | _ => none }
def KillNodesWrongFalsely : Prop := killNodesRow.holds Try.pinned (OpenSpec.ofChange killNodesWrong)

/-- 'ringkernlaw8.KillParents': WHATEVER THE INPUT: true; the input reads as it did. -/
def killParentsSpec : ChangeSpec := { name := "killParents", fn := fun _ => fun
  | [d1, d2] => { results := [.lit (.bool true)], args := [d1, d2] }
  | _ => none }
def killParentsRow : OpenClaim := { program := "ytfmfkablbaoofaa", sum := "22b21e4f5ee669afab66fb2b3b0487c3acddb401a50ad28d24140fb815b5e5ab", func := "ringkern/ringkernlaw8.KillParents", spec := "killParents", unfollowed := true, recurses := true, plainKeys := false, apart := false }
def KillParentsSaid : Prop := killParentsRow.holds Try.pinned (OpenSpec.ofChange killParentsSpec)

/-- ITS FALSE NEIGHBOUR: 'it returns false'. Refute it at one input. -/
def killParentsWrong : ChangeSpec := { name := "killParents", fn := fun _ => fun
  | [d1, d2] => { results := [.lit (.bool false)], args := [d1, d2] }
  | _ => none }
def KillParentsWrongFalsely : Prop := killParentsRow.holds Try.pinned (OpenSpec.ofChange killParentsWrong)

/-- 'ringkernlaw8.KillPlays': WHATEVER THE INPUT: true; the input reads as it did. -/
def killPlaysSpec : ChangeSpec := { name := "killPlays", fn := fun _ => fun
  | [d1, d2] => { results := [.lit (.bool true)], args := [d1, d2] }
  | _ => none }
def killPlaysRow : OpenClaim := { program := "ytfmfkablbaoofaa", sum := "22b21e4f5ee669afab66fb2b3b0487c3acddb401a50ad28d24140fb815b5e5ab", func := "ringkern/ringkernlaw8.KillPlays", spec := "killPlays", unfollowed := true, recurses := true, plainKeys := false, apart := false }
def KillPlaysSaid : Prop := killPlaysRow.holds Try.pinned (OpenSpec.ofChange killPlaysSpec)

/-- ITS FALSE NEIGHBOUR: 'it returns false'. Refute it at one input. -/
def killPlaysWrong : ChangeSpec := { name := "killPlays", fn := fun _ => fun
  | [d1, d2] => { results := [.lit (.bool false)], args := [d1, d2] }
  | _ => none }
def KillPlaysWrongFalsely : Prop := killPlaysRow.holds Try.pinned (OpenSpec.ofChange killPlaysWrong)

/-- 'ringkernlaw8.KillRevokes': WHATEVER THE INPUT: true; the input reads as it did. -/
def killRevokesSpec : ChangeSpec := { name := "killRevokes", fn := fun _ => fun
  | [d1, d2] => { results := [.lit (.bool true)], args := [d1, d2] }
  | _ => none }
def killRevokesRow : OpenClaim := { program := "ytfmfkablbaoofaa", sum := "22b21e4f5ee669afab66fb2b3b0487c3acddb401a50ad28d24140fb815b5e5ab", func := "ringkern/ringkernlaw8.KillRevokes", spec := "killRevokes", unfollowed := true, recurses := true, plainKeys := false, apart := false }
def KillRevokesSaid : Prop := killRevokesRow.holds Try.pinned (OpenSpec.ofChange killRevokesSpec)

/-- ITS FALSE NEIGHBOUR: 'it returns false'. Refute it at one input. -/
def killRevokesWrong : ChangeSpec := { name := "killRevokes", fn := fun _ => fun
  | [d1, d2] => { results := [.lit (.bool false)], args := [d1, d2] }
  | _ => none }
def KillRevokesWrongFalsely : Prop := killRevokesRow.holds Try.pinned (OpenSpec.ofChange killRevokesWrong)

/-- 'ringkernlaw8.KillSelf': WHATEVER THE INPUT: true; the input reads as it did. -/
def killSelfSpec : ChangeSpec := { name := "killSelf", fn := fun _ => fun
  | [d1, d2] => { results := [.lit (.bool true)], args := [d1, d2] }
  | _ => none }
def killSelfRow : OpenClaim := { program := "ytfmfkablbaoofaa", sum := "22b21e4f5ee669afab66fb2b3b0487c3acddb401a50ad28d24140fb815b5e5ab", func := "ringkern/ringkernlaw8.KillSelf", spec := "killSelf", unfollowed := true, recurses := true, plainKeys := false, apart := false }
def KillSelfSaid : Prop := killSelfRow.holds Try.pinned (OpenSpec.ofChange killSelfSpec)

/-- ITS FALSE NEIGHBOUR: 'it returns false'. Refute it at one input. -/
def killSelfWrong : ChangeSpec := { name := "killSelf", fn := fun _ => fun
  | [d1, d2] => { results := [.lit (.bool false)], args := [d1, d2] }
  | _ => none }
def KillSelfWrongFalsely : Prop := killSelfRow.holds Try.pinned (OpenSpec.ofChange killSelfWrong)

/-- 'ringkernlaw7.DupPlays': WHATEVER THE INPUT: true; the input reads as it did. -/
def dupPlaysSpec : ChangeSpec := { name := "dupPlays", fn := fun _ => fun
  | [d1, d2] => { results := [.lit (.bool true)], args := [d1, d2] }
  | _ => none }
def dupPlaysRow : OpenClaim := { program := "ytfmfkablbaoofaa", sum := "22b21e4f5ee669afab66fb2b3b0487c3acddb401a50ad28d24140fb815b5e5ab", func := "ringkern/ringkernlaw7.DupPlays", spec := "dupPlays", unfollowed := true, recurses := true, plainKeys := false, apart := false }
def DupPlaysSaid : Prop := dupPlaysRow.holds Try.pinned (OpenSpec.ofChange dupPlaysSpec)

/-- ITS FALSE NEIGHBOUR: 'it returns false'. Refute it at one input. -/
def dupPlaysWrong : ChangeSpec := { name := "dupPlays", fn := fun _ => fun
  | [d1, d2] => { results := [.lit (.bool false)], args := [d1, d2] }
  | _ => none }
def DupPlaysWrongFalsely : Prop := dupPlaysRow.holds Try.pinned (OpenSpec.ofChange dupPlaysWrong)

/-- 'ringkernlaw7.DupErrors': WHATEVER THE INPUT: true; the input reads as it did. -/
def dupErrorsSpec : ChangeSpec := { name := "dupErrors", fn := fun _ => fun
  | [d1, d2] => { results := [.lit (.bool true)], args := [d1, d2] }
  | _ => none }
def dupErrorsRow : OpenClaim := { program := "ytfmfkablbaoofaa", sum := "22b21e4f5ee669afab66fb2b3b0487c3acddb401a50ad28d24140fb815b5e5ab", func := "ringkern/ringkernlaw7.DupErrors", spec := "dupErrors", unfollowed := true, recurses := true, plainKeys := false, apart := false }
def DupErrorsSaid : Prop := dupErrorsRow.holds Try.pinned (OpenSpec.ofChange dupErrorsSpec)

/-- ITS FALSE NEIGHBOUR: 'it returns false'. Refute it at one input. -/
def dupErrorsWrong : ChangeSpec := { name := "dupErrors", fn := fun _ => fun
  | [d1, d2] => { results := [.lit (.bool false)], args := [d1, d2] }
  | _ => none }
def DupErrorsWrongFalsely : Prop := dupErrorsRow.holds Try.pinned (OpenSpec.ofChange dupErrorsWrong)

/- THE SECOND FORM. 'bulk': how many values and letters a reading holds, each counted each time it is reached (what is shared counts as often as it is met; a slice's spare places count too). A statement '..UptoSaid' is the law's where the arguments, and the package variables that the reading takes, are together of bulk at most 1048576: NARROWER than '..Said'. Prove '..Said' where nothing that the law and all that it calls make is longer than what came in: it says more and counts as full. Else prove '..UptoSaid'. A law counts once. -/
mutual
def uptoBulk {H : Type} : DataW H → Nat
  | .lit (.string bytes) => bytes.length + 1
  | .lit _ => 1
  | .nil => 1
  | .ptr d => uptoBulk d + 1
  | .slice elems spare => uptoBulkAll elems + uptoBulkAll spare + 1
  | .agg parts => uptoBulkAll parts + 1
  | .iface _ d => uptoBulk d + 1
  | .map entries => uptoBulkEntries entries + 1
  | .held _ => 1
def uptoBulkAll {H : Type} : List (DataW H) → Nat
  | [] => 0
  | d :: r => uptoBulk d + uptoBulkAll r
def uptoBulkEntries {H : Type} : List (Lit × DataW H) → Nat
  | [] => 0
  | x :: r => uptoBulkEntry x + uptoBulkEntries r
def uptoBulkEntry {H : Type} : Lit × DataW H → Nat
  | (.string bytes, d) => bytes.length + uptoBulk d + 1
  | (_, d) => uptoBulk d + 1
 end
def uptoSmall : (H : Type) → List (DataW H) → Bool := fun _ ds => decide (uptoBulkAll ds ≤ 1048576)
def OpenSpec.upto (s : _root_.Go.ChangeSpec) : _root_.Go.OpenSpec := { _root_.Go.OpenSpec.ofChange s with cond := some uptoSmall }

/-- 'ringkernlaw7.DupRows', WHERE WHAT IT READS IS OF BULK AT MOST 1048576: true; the input reads as it did. -/
def dupRowsUptoRow : OpenClaim := { program := "ytfmfkablbaoofaa", sum := "22b21e4f5ee669afab66fb2b3b0487c3acddb401a50ad28d24140fb815b5e5ab", func := "ringkern/ringkernlaw7.DupRows", spec := "dupRows", unfollowed := true, recurses := true, plainKeys := false, apart := false, narrowed := true }
def DupRowsUptoSaid : Prop := dupRowsUptoRow.holds Try.pinned (OpenSpec.upto dupRowsSpec)

/-- 'ringkernlaw7.DupNames', WHERE WHAT IT READS IS OF BULK AT MOST 1048576: true; the input reads as it did. -/
def dupNamesUptoRow : OpenClaim := { program := "ytfmfkablbaoofaa", sum := "22b21e4f5ee669afab66fb2b3b0487c3acddb401a50ad28d24140fb815b5e5ab", func := "ringkern/ringkernlaw7.DupNames", spec := "dupNames", unfollowed := true, recurses := true, plainKeys := false, apart := false, narrowed := true }
def DupNamesUptoSaid : Prop := dupNamesUptoRow.holds Try.pinned (OpenSpec.upto dupNamesSpec)

/-- 'ringkernlaw8.KillLast', WHERE WHAT IT READS IS OF BULK AT MOST 1048576: true; the input reads as it did. -/
def killLastUptoRow : OpenClaim := { program := "ytfmfkablbaoofaa", sum := "22b21e4f5ee669afab66fb2b3b0487c3acddb401a50ad28d24140fb815b5e5ab", func := "ringkern/ringkernlaw8.KillLast", spec := "killLast", unfollowed := true, recurses := true, plainKeys := false, apart := false, narrowed := true }
def KillLastUptoSaid : Prop := killLastUptoRow.holds Try.pinned (OpenSpec.upto killLastSpec)

/-- 'ringkernlaw8.KillNodes', WHERE WHAT IT READS IS OF BULK AT MOST 1048576: true; the input reads as it did. -/
def killNodesUptoRow : OpenClaim := { program := "ytfmfkablbaoofaa", sum := "22b21e4f5ee669afab66fb2b3b0487c3acddb401a50ad28d24140fb815b5e5ab", func := "ringkern/ringkernlaw8.KillNodes", spec := "killNodes", unfollowed := true, recurses := true, plainKeys := false, apart := false, narrowed := true }
def KillNodesUptoSaid : Prop := killNodesUptoRow.holds Try.pinned (OpenSpec.upto killNodesSpec)

/-- 'ringkernlaw8.KillParents', WHERE WHAT IT READS IS OF BULK AT MOST 1048576: true; the input reads as it did. -/
def killParentsUptoRow : OpenClaim := { program := "ytfmfkablbaoofaa", sum := "22b21e4f5ee669afab66fb2b3b0487c3acddb401a50ad28d24140fb815b5e5ab", func := "ringkern/ringkernlaw8.KillParents", spec := "killParents", unfollowed := true, recurses := true, plainKeys := false, apart := false, narrowed := true }
def KillParentsUptoSaid : Prop := killParentsUptoRow.holds Try.pinned (OpenSpec.upto killParentsSpec)

/-- 'ringkernlaw8.KillPlays', WHERE WHAT IT READS IS OF BULK AT MOST 1048576: true; the input reads as it did. -/
def killPlaysUptoRow : OpenClaim := { program := "ytfmfkablbaoofaa", sum := "22b21e4f5ee669afab66fb2b3b0487c3acddb401a50ad28d24140fb815b5e5ab", func := "ringkern/ringkernlaw8.KillPlays", spec := "killPlays", unfollowed := true, recurses := true, plainKeys := false, apart := false, narrowed := true }
def KillPlaysUptoSaid : Prop := killPlaysUptoRow.holds Try.pinned (OpenSpec.upto killPlaysSpec)

/-- 'ringkernlaw8.KillRevokes', WHERE WHAT IT READS IS OF BULK AT MOST 1048576: true; the input reads as it did. -/
def killRevokesUptoRow : OpenClaim := { program := "ytfmfkablbaoofaa", sum := "22b21e4f5ee669afab66fb2b3b0487c3acddb401a50ad28d24140fb815b5e5ab", func := "ringkern/ringkernlaw8.KillRevokes", spec := "killRevokes", unfollowed := true, recurses := true, plainKeys := false, apart := false, narrowed := true }
def KillRevokesUptoSaid : Prop := killRevokesUptoRow.holds Try.pinned (OpenSpec.upto killRevokesSpec)

/-- 'ringkernlaw8.KillSelf', WHERE WHAT IT READS IS OF BULK AT MOST 1048576: true; the input reads as it did. -/
def killSelfUptoRow : OpenClaim := { program := "ytfmfkablbaoofaa", sum := "22b21e4f5ee669afab66fb2b3b0487c3acddb401a50ad28d24140fb815b5e5ab", func := "ringkern/ringkernlaw8.KillSelf", spec := "killSelf", unfollowed := true, recurses := true, plainKeys := false, apart := false, narrowed := true }
def KillSelfUptoSaid : Prop := killSelfUptoRow.holds Try.pinned (OpenSpec.upto killSelfSpec)

/-- 'ringkernlaw7.DupPlays', WHERE WHAT IT READS IS OF BULK AT MOST 1048576: true; the input reads as it did. -/
def dupPlaysUptoRow : OpenClaim := { program := "ytfmfkablbaoofaa", sum := "22b21e4f5ee669afab66fb2b3b0487c3acddb401a50ad28d24140fb815b5e5ab", func := "ringkern/ringkernlaw7.DupPlays", spec := "dupPlays", unfollowed := true, recurses := true, plainKeys := false, apart := false, narrowed := true }
def DupPlaysUptoSaid : Prop := dupPlaysUptoRow.holds Try.pinned (OpenSpec.upto dupPlaysSpec)

/-- 'ringkernlaw7.DupErrors', WHERE WHAT IT READS IS OF BULK AT MOST 1048576: true; the input reads as it did. -/
def dupErrorsUptoRow : OpenClaim := { program := "ytfmfkablbaoofaa", sum := "22b21e4f5ee669afab66fb2b3b0487c3acddb401a50ad28d24140fb815b5e5ab", func := "ringkern/ringkernlaw7.DupErrors", spec := "dupErrors", unfollowed := true, recurses := true, plainKeys := false, apart := false, narrowed := true }
def DupErrorsUptoSaid : Prop := dupErrorsUptoRow.holds Try.pinned (OpenSpec.upto dupErrorsSpec)

end Rows
end Go.Proofs.Ytfmfkablbaoofaa
