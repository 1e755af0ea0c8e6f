/-
  No cell of these rows narrows 'for every input' (looked for: loops, veiled, ifaces, maps, wideKeys, modest, calm, conditions, laid).
  DERIVED. THE GIVEN ROWS OF THIS SEAT. 8 by the template 'for every input the law returns true; each argument reads behind the call as it read before'; 0 by the template 'total and deterministic' (their statements: YtdglignjoojimaaTotals.lean).
  GIVEN WITH THE SEED: the statements are not yours to turn. If you find one false, say at which input.
  Laid BY PROGRAM, IN A SANDBOX (cutbox-rows.mjs): the forced cells as the released guide's own fill.sh prints them over the translation 99e90a563196e6c2… (all of the seat's roots in one cut). By AI agents, Wed Nov 11 2026. No macro, syntax, notation, axiom, sorry.
-/
import Derived.Test.YtdglignjoojimaaChecked
import GoSem.Claim
import GoSem.ClaimJoined
import GoSem.ClaimMapViews
import Derived.JoinedTies
import Derived.KernelRfl
namespace Go.Proofs.Ytdglignjoojimaa
/- THE CELL 'sum', in the pinned program and in every row, IS THE sha256 OF THE DUMP (.gsa) THAT YtdglignjoojimaaProg.lean LOADS. Nothing in Lean hashes anything: it is a label: what it is worth is what the hold of that sum in a sandbox is worth. -/
noncomputable def Try.pinned : Pinned := { name := "ytdglignjoojimaa", sum := "99e90a563196e6c2189e48e8c8995b79218e49a45fa420ed91f93e2d1580aa60", checked := Try.checked }
namespace Rows
def none {H : Type} : Left H := { results := [], args := [] }

/-- 'baileylaw08.TreeRuns': WHATEVER THE INPUT: true; the input reads as it did. -/
def treeRunsSpec : ChangeSpec := { name := "treeRuns", fn := fun _ => fun
  | [d1, d2, d3] => { results := [.lit (.bool true)], args := [d1, d2, d3] }
  | _ => none }
def treeRunsRow : OpenClaim := { program := "ytdglignjoojimaa", sum := "99e90a563196e6c2189e48e8c8995b79218e49a45fa420ed91f93e2d1580aa60", func := "bailey/baileylaw08.TreeRuns", spec := "treeRuns", inPlace := ["slices.overlaps[uint64]", "slices.overlaps[bailey/api.Extent]", "slices.overlaps[*bailey/tree.node]"], unfollowed := true, recurses := true, apart := false }
def TreeRunsSaid : Prop := treeRunsRow.holds Try.pinned (OpenSpec.ofChange treeRunsSpec)

/-- ITS FALSE NEIGHBOUR: 'it returns false'. Refute it at one input. -/
def treeRunsWrong : ChangeSpec := { name := "treeRuns", fn := fun _ => fun
  | [d1, d2, d3] => { results := [.lit (.bool false)], args := [d1, d2, d3] }
  | _ => none }
def TreeRunsWrongFalsely : Prop := treeRunsRow.holds Try.pinned (OpenSpec.ofChange treeRunsWrong)

/-- 'baileylaw08.TreeStays': WHATEVER THE INPUT: true; the input reads as it did. -/
def treeStaysSpec : ChangeSpec := { name := "treeStays", fn := fun _ => fun
  | [d1, d2] => { results := [.lit (.bool true)], args := [d1, d2] }
  | _ => none }
def treeStaysRow : OpenClaim := { program := "ytdglignjoojimaa", sum := "99e90a563196e6c2189e48e8c8995b79218e49a45fa420ed91f93e2d1580aa60", func := "bailey/baileylaw08.TreeStays", spec := "treeStays", inPlace := ["slices.overlaps[uint64]", "slices.overlaps[bailey/api.Extent]", "slices.overlaps[*bailey/tree.node]"], unfollowed := true, recurses := true, apart := false }
def TreeStaysSaid : Prop := treeStaysRow.holds Try.pinned (OpenSpec.ofChange treeStaysSpec)

/-- ITS FALSE NEIGHBOUR: 'it returns false'. Refute it at one input. -/
def treeStaysWrong : ChangeSpec := { name := "treeStays", fn := fun _ => fun
  | [d1, d2] => { results := [.lit (.bool false)], args := [d1, d2] }
  | _ => none }
def TreeStaysWrongFalsely : Prop := treeStaysRow.holds Try.pinned (OpenSpec.ofChange treeStaysWrong)

/-- 'baileylaw08.TreeTurns': WHATEVER THE INPUT: true; the input reads as it did. -/
def treeTurnsSpec : ChangeSpec := { name := "treeTurns", fn := fun _ => fun
  | [d1, d2, d3] => { results := [.lit (.bool true)], args := [d1, d2, d3] }
  | _ => none }
def treeTurnsRow : OpenClaim := { program := "ytdglignjoojimaa", sum := "99e90a563196e6c2189e48e8c8995b79218e49a45fa420ed91f93e2d1580aa60", func := "bailey/baileylaw08.TreeTurns", spec := "treeTurns", inPlace := ["slices.overlaps[uint64]", "slices.overlaps[bailey/api.Extent]", "slices.overlaps[*bailey/tree.node]"], unfollowed := true, recurses := true, apart := false }
def TreeTurnsSaid : Prop := treeTurnsRow.holds Try.pinned (OpenSpec.ofChange treeTurnsSpec)

/-- ITS FALSE NEIGHBOUR: 'it returns false'. Refute it at one input. -/
def treeTurnsWrong : ChangeSpec := { name := "treeTurns", fn := fun _ => fun
  | [d1, d2, d3] => { results := [.lit (.bool false)], args := [d1, d2, d3] }
  | _ => none }
def TreeTurnsWrongFalsely : Prop := treeTurnsRow.holds Try.pinned (OpenSpec.ofChange treeTurnsWrong)

/-- 'baileylaw08.TreeShapes': WHATEVER THE INPUT: true; the input reads as it did. -/
def treeShapesSpec : ChangeSpec := { name := "treeShapes", fn := fun _ => fun
  | [d] => { results := [.lit (.bool true)], args := [d] }
  | _ => none }
def treeShapesRow : OpenClaim := { program := "ytdglignjoojimaa", sum := "99e90a563196e6c2189e48e8c8995b79218e49a45fa420ed91f93e2d1580aa60", func := "bailey/baileylaw08.TreeShapes", spec := "treeShapes", inPlace := ["slices.overlaps[uint64]", "slices.overlaps[bailey/api.Extent]", "slices.overlaps[*bailey/tree.node]"], unfollowed := true, recurses := true, apart := false }
def TreeShapesSaid : Prop := treeShapesRow.holds Try.pinned (OpenSpec.ofChange treeShapesSpec)

/-- ITS FALSE NEIGHBOUR: 'it returns false'. Refute it at one input. -/
def treeShapesWrong : ChangeSpec := { name := "treeShapes", fn := fun _ => fun
  | [d] => { results := [.lit (.bool false)], args := [d] }
  | _ => none }
def TreeShapesWrongFalsely : Prop := treeShapesRow.holds Try.pinned (OpenSpec.ofChange treeShapesWrong)

/-- 'baileylaw08.TreeReads': WHATEVER THE INPUT: true; the input reads as it did. -/
def treeReadsSpec : ChangeSpec := { name := "treeReads", fn := fun _ => fun
  | [d1, d2] => { results := [.lit (.bool true)], args := [d1, d2] }
  | _ => none }
def treeReadsRow : OpenClaim := { program := "ytdglignjoojimaa", sum := "99e90a563196e6c2189e48e8c8995b79218e49a45fa420ed91f93e2d1580aa60", func := "bailey/baileylaw08.TreeReads", spec := "treeReads", inPlace := ["slices.overlaps[uint64]", "slices.overlaps[bailey/api.Extent]", "slices.overlaps[*bailey/tree.node]"], unfollowed := true, recurses := true, apart := false }
def TreeReadsSaid : Prop := treeReadsRow.holds Try.pinned (OpenSpec.ofChange treeReadsSpec)

/-- ITS FALSE NEIGHBOUR: 'it returns false'. Refute it at one input. -/
def treeReadsWrong : ChangeSpec := { name := "treeReads", fn := fun _ => fun
  | [d1, d2] => { results := [.lit (.bool false)], args := [d1, d2] }
  | _ => none }
def TreeReadsWrongFalsely : Prop := treeReadsRow.holds Try.pinned (OpenSpec.ofChange treeReadsWrong)

/-- 'baileylaw14.NodesNames': WHATEVER THE INPUT: true; the input reads as it did. -/
def nodesNamesSpec : ChangeSpec := { name := "nodesNames", fn := fun _ => fun
  | [] => { results := [.lit (.bool true)], args := [] }
  | _ => none }
def nodesNamesRow : OpenClaim := { program := "ytdglignjoojimaa", sum := "99e90a563196e6c2189e48e8c8995b79218e49a45fa420ed91f93e2d1580aa60", func := "bailey/baileylaw14.NodesNames", spec := "nodesNames", inPlace := ["internal/abi.NoEscape", "internal/bytealg.MakeNoZero"], unfollowed := true, recurses := true, apart := false }
def NodesNamesSaid : Prop := nodesNamesRow.holds Try.pinned (OpenSpec.ofChange nodesNamesSpec)

/-- ITS FALSE NEIGHBOUR: 'it returns false'. Refute it at one input. -/
def nodesNamesWrong : ChangeSpec := { name := "nodesNames", fn := fun _ => fun
  | [] => { results := [.lit (.bool false)], args := [] }
  | _ => none }
def NodesNamesWrongFalsely : Prop := nodesNamesRow.holds Try.pinned (OpenSpec.ofChange nodesNamesWrong)

/-- 'baileylaw14.NodesLoads': WHATEVER THE INPUT: true; the input reads as it did. -/
def nodesLoadsSpec : ChangeSpec := { name := "nodesLoads", fn := fun _ => fun
  | [d1, d2] => { results := [.lit (.bool true)], args := [d1, d2] }
  | _ => none }
def nodesLoadsRow : OpenClaim := { program := "ytdglignjoojimaa", sum := "99e90a563196e6c2189e48e8c8995b79218e49a45fa420ed91f93e2d1580aa60", func := "bailey/baileylaw14.NodesLoads", spec := "nodesLoads", inPlace := ["internal/abi.NoEscape", "internal/bytealg.MakeNoZero"], unfollowed := true, recurses := true, apart := false }
def NodesLoadsSaid : Prop := nodesLoadsRow.holds Try.pinned (OpenSpec.ofChange nodesLoadsSpec)

/-- ITS FALSE NEIGHBOUR: 'it returns false'. Refute it at one input. -/
def nodesLoadsWrong : ChangeSpec := { name := "nodesLoads", fn := fun _ => fun
  | [d1, d2] => { results := [.lit (.bool false)], args := [d1, d2] }
  | _ => none }
def NodesLoadsWrongFalsely : Prop := nodesLoadsRow.holds Try.pinned (OpenSpec.ofChange nodesLoadsWrong)

/-- 'baileylaw14.NodesBack': WHATEVER THE INPUT: true; the input reads as it did. -/
def nodesBackSpec : ChangeSpec := { name := "nodesBack", fn := fun _ => fun
  | [d1, d2, d3] => { results := [.lit (.bool true)], args := [d1, d2, d3] }
  | _ => none }
def nodesBackRow : OpenClaim := { program := "ytdglignjoojimaa", sum := "99e90a563196e6c2189e48e8c8995b79218e49a45fa420ed91f93e2d1580aa60", func := "bailey/baileylaw14.NodesBack", spec := "nodesBack", inPlace := ["internal/abi.NoEscape", "internal/bytealg.MakeNoZero", "slices.overlaps[uint64]", "slices.overlaps[bailey/api.Extent]", "slices.overlaps[*bailey/tree.node]"], unfollowed := true, recurses := true, apart := false }
def NodesBackSaid : Prop := nodesBackRow.holds Try.pinned (OpenSpec.ofChange nodesBackSpec)

/-- ITS FALSE NEIGHBOUR: 'it returns false'. Refute it at one input. -/
def nodesBackWrong : ChangeSpec := { name := "nodesBack", fn := fun _ => fun
  | [d1, d2, d3] => { results := [.lit (.bool false)], args := [d1, d2, d3] }
  | _ => none }
def NodesBackWrongFalsely : Prop := nodesBackRow.holds Try.pinned (OpenSpec.ofChange nodesBackWrong)

/- THE SECOND FORM. 'bulk': how many values and letters a reading holds, each counted each time it is reached (what is shared counts as often as it is met; a slice's spare places count too). A statement '..UptoSaid' is the law's where the arguments, and the package variables that the reading takes, are together of bulk at most 1048576: NARROWER than '..Said'. Prove '..Said' where nothing that the law and all that it calls make is longer than what came in: it says more and counts as full. Else prove '..UptoSaid'. A law counts once. -/
mutual
def uptoBulk {H : Type} : DataW H → Nat
  | .lit (.string bytes) => bytes.length + 1
  | .lit _ => 1
  | .nil => 1
  | .ptr d => uptoBulk d + 1
  | .slice elems spare => uptoBulkAll elems + uptoBulkAll spare + 1
  | .agg parts => uptoBulkAll parts + 1
  | .iface _ d => uptoBulk d + 1
  | .map entries => uptoBulkEntries entries + 1
  | .held _ => 1
def uptoBulkAll {H : Type} : List (DataW H) → Nat
  | [] => 0
  | d :: r => uptoBulk d + uptoBulkAll r
def uptoBulkEntries {H : Type} : List (Lit × DataW H) → Nat
  | [] => 0
  | x :: r => uptoBulkEntry x + uptoBulkEntries r
def uptoBulkEntry {H : Type} : Lit × DataW H → Nat
  | (.string bytes, d) => bytes.length + uptoBulk d + 1
  | (_, d) => uptoBulk d + 1
 end
def uptoSmall : (H : Type) → List (DataW H) → Bool := fun _ ds => decide (uptoBulkAll ds ≤ 1048576)
def OpenSpec.upto (s : _root_.Go.ChangeSpec) : _root_.Go.OpenSpec := { _root_.Go.OpenSpec.ofChange s with cond := some uptoSmall }

/-- 'baileylaw08.TreeRuns', WHERE WHAT IT READS IS OF BULK AT MOST 1048576: true; the input reads as it did. -/
def treeRunsUptoRow : OpenClaim := { program := "ytdglignjoojimaa", sum := "99e90a563196e6c2189e48e8c8995b79218e49a45fa420ed91f93e2d1580aa60", func := "bailey/baileylaw08.TreeRuns", spec := "treeRuns", inPlace := ["slices.overlaps[uint64]", "slices.overlaps[bailey/api.Extent]", "slices.overlaps[*bailey/tree.node]"], unfollowed := true, recurses := true, apart := false, narrowed := true }
def TreeRunsUptoSaid : Prop := treeRunsUptoRow.holds Try.pinned (OpenSpec.upto treeRunsSpec)

/-- 'baileylaw08.TreeStays', WHERE WHAT IT READS IS OF BULK AT MOST 1048576: true; the input reads as it did. -/
def treeStaysUptoRow : OpenClaim := { program := "ytdglignjoojimaa", sum := "99e90a563196e6c2189e48e8c8995b79218e49a45fa420ed91f93e2d1580aa60", func := "bailey/baileylaw08.TreeStays", spec := "treeStays", inPlace := ["slices.overlaps[uint64]", "slices.overlaps[bailey/api.Extent]", "slices.overlaps[*bailey/tree.node]"], unfollowed := true, recurses := true, apart := false, narrowed := true }
def TreeStaysUptoSaid : Prop := treeStaysUptoRow.holds Try.pinned (OpenSpec.upto treeStaysSpec)

/-- 'baileylaw08.TreeTurns', WHERE WHAT IT READS IS OF BULK AT MOST 1048576: true; the input reads as it did. -/
def treeTurnsUptoRow : OpenClaim := { program := "ytdglignjoojimaa", sum := "99e90a563196e6c2189e48e8c8995b79218e49a45fa420ed91f93e2d1580aa60", func := "bailey/baileylaw08.TreeTurns", spec := "treeTurns", inPlace := ["slices.overlaps[uint64]", "slices.overlaps[bailey/api.Extent]", "slices.overlaps[*bailey/tree.node]"], unfollowed := true, recurses := true, apart := false, narrowed := true }
def TreeTurnsUptoSaid : Prop := treeTurnsUptoRow.holds Try.pinned (OpenSpec.upto treeTurnsSpec)

/-- 'baileylaw08.TreeShapes', WHERE WHAT IT READS IS OF BULK AT MOST 1048576: true; the input reads as it did. -/
def treeShapesUptoRow : OpenClaim := { program := "ytdglignjoojimaa", sum := "99e90a563196e6c2189e48e8c8995b79218e49a45fa420ed91f93e2d1580aa60", func := "bailey/baileylaw08.TreeShapes", spec := "treeShapes", inPlace := ["slices.overlaps[uint64]", "slices.overlaps[bailey/api.Extent]", "slices.overlaps[*bailey/tree.node]"], unfollowed := true, recurses := true, apart := false, narrowed := true }
def TreeShapesUptoSaid : Prop := treeShapesUptoRow.holds Try.pinned (OpenSpec.upto treeShapesSpec)

/-- 'baileylaw08.TreeReads', WHERE WHAT IT READS IS OF BULK AT MOST 1048576: true; the input reads as it did. -/
def treeReadsUptoRow : OpenClaim := { program := "ytdglignjoojimaa", sum := "99e90a563196e6c2189e48e8c8995b79218e49a45fa420ed91f93e2d1580aa60", func := "bailey/baileylaw08.TreeReads", spec := "treeReads", inPlace := ["slices.overlaps[uint64]", "slices.overlaps[bailey/api.Extent]", "slices.overlaps[*bailey/tree.node]"], unfollowed := true, recurses := true, apart := false, narrowed := true }
def TreeReadsUptoSaid : Prop := treeReadsUptoRow.holds Try.pinned (OpenSpec.upto treeReadsSpec)

/-- 'baileylaw14.NodesNames', WHERE WHAT IT READS IS OF BULK AT MOST 1048576: true; the input reads as it did. -/
def nodesNamesUptoRow : OpenClaim := { program := "ytdglignjoojimaa", sum := "99e90a563196e6c2189e48e8c8995b79218e49a45fa420ed91f93e2d1580aa60", func := "bailey/baileylaw14.NodesNames", spec := "nodesNames", inPlace := ["internal/abi.NoEscape", "internal/bytealg.MakeNoZero"], unfollowed := true, recurses := true, apart := false, narrowed := true }
def NodesNamesUptoSaid : Prop := nodesNamesUptoRow.holds Try.pinned (OpenSpec.upto nodesNamesSpec)

/-- 'baileylaw14.NodesLoads', WHERE WHAT IT READS IS OF BULK AT MOST 1048576: true; the input reads as it did. -/
def nodesLoadsUptoRow : OpenClaim := { program := "ytdglignjoojimaa", sum := "99e90a563196e6c2189e48e8c8995b79218e49a45fa420ed91f93e2d1580aa60", func := "bailey/baileylaw14.NodesLoads", spec := "nodesLoads", inPlace := ["internal/abi.NoEscape", "internal/bytealg.MakeNoZero"], unfollowed := true, recurses := true, apart := false, narrowed := true }
def NodesLoadsUptoSaid : Prop := nodesLoadsUptoRow.holds Try.pinned (OpenSpec.upto nodesLoadsSpec)

/-- 'baileylaw14.NodesBack', WHERE WHAT IT READS IS OF BULK AT MOST 1048576: true; the input reads as it did. -/
def nodesBackUptoRow : OpenClaim := { program := "ytdglignjoojimaa", sum := "99e90a563196e6c2189e48e8c8995b79218e49a45fa420ed91f93e2d1580aa60", func := "bailey/baileylaw14.NodesBack", spec := "nodesBack", inPlace := ["internal/abi.NoEscape", "internal/bytealg.MakeNoZero", "slices.overlaps[uint64]", "slices.overlaps[bailey/api.Extent]", "slices.overlaps[*bailey/tree.node]"], unfollowed := true, recurses := true, apart := false, narrowed := true }
def NodesBackUptoSaid : Prop := nodesBackUptoRow.holds Try.pinned (OpenSpec.upto nodesBackSpec)

end Rows
end Go.Proofs.Ytdglignjoojimaa
