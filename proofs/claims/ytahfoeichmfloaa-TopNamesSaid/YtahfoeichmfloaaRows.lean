/-
  No cell of these rows narrows 'for every input' (looked for: loops, veiled, ifaces, maps, wideKeys, modest, calm, conditions, laid).
  DERIVED. THE GIVEN ROWS OF THIS SEAT. 10 by the template 'for every input the law returns true; each argument reads behind the call as it read before'; 0 by the template 'total and deterministic' (their statements: YtahfoeichmfloaaTotals.lean).
  GIVEN WITH THE SEED: the statements are not yours to turn. If you find one false, say at which input.
  Laid BY PROGRAM, IN A SANDBOX (cutbox-rows.mjs): the forced cells as the released guide's own fill.sh prints them over the translation 5b81e201d484939e… (all of the seat's roots in one cut). By AI agents, Wed Nov 11 2026. No macro, syntax, notation, axiom, sorry.
-/
import Derived.Test.YtahfoeichmfloaaChecked
import GoSem.Claim
import GoSem.ClaimJoined
import GoSem.ClaimMapViews
import Derived.JoinedTies
import Derived.KernelRfl
namespace Go.Proofs.Ytahfoeichmfloaa
/- THE CELL 'sum', in the pinned program and in every row, IS THE sha256 OF THE DUMP (.gsa) THAT YtahfoeichmfloaaProg.lean LOADS. Nothing in Lean hashes anything: it is a label: what it is worth is what the hold of that sum in a sandbox is worth. -/
noncomputable def Try.pinned : Pinned := { name := "ytahfoeichmfloaa", sum := "5b81e201d484939e39a2dff87f9e7aebc82e8fa4a50c4829ea507c1e95bda9ae", checked := Try.checked }
namespace Rows
def none {H : Type} : Left H := { results := [], args := [] }

/-- 'patchworklaw4.TreeTells': WHATEVER THE INPUT: true; the input reads as it did. -/
def treeTellsSpec : ChangeSpec := { name := "treeTells", fn := fun _ => fun
  | [d1, d2, d3] => { results := [.lit (.bool true)], args := [d1, d2, d3] }
  | _ => none }
def treeTellsRow : OpenClaim := { program := "ytahfoeichmfloaa", sum := "5b81e201d484939e39a2dff87f9e7aebc82e8fa4a50c4829ea507c1e95bda9ae", func := "patchwork/patchworklaw4.TreeTells", spec := "treeTells", inPlace := ["slices.overlaps[patchwork/api.Entry]"], unfollowed := true, recurses := true, apart := false }
def TreeTellsSaid : Prop := treeTellsRow.holds Try.pinned (OpenSpec.ofChange treeTellsSpec)

/-- ITS FALSE NEIGHBOUR: 'it returns false'. Refute it at one input. -/
def treeTellsWrong : ChangeSpec := { name := "treeTells", fn := fun _ => fun
  | [d1, d2, d3] => { results := [.lit (.bool false)], args := [d1, d2, d3] }
  | _ => none }
def TreeTellsWrongFalsely : Prop := treeTellsRow.holds Try.pinned (OpenSpec.ofChange treeTellsWrong)

/-- 'patchworklaw4.TreeKeeps': WHATEVER THE INPUT: true; the input reads as it did. -/
def treeKeepsSpec : ChangeSpec := { name := "treeKeeps", fn := fun _ => fun
  | [d1, d2, d3, d4] => { results := [.lit (.bool true)], args := [d1, d2, d3, d4] }
  | _ => none }
def treeKeepsRow : OpenClaim := { program := "ytahfoeichmfloaa", sum := "5b81e201d484939e39a2dff87f9e7aebc82e8fa4a50c4829ea507c1e95bda9ae", func := "patchwork/patchworklaw4.TreeKeeps", spec := "treeKeeps", inPlace := ["slices.overlaps[patchwork/api.Entry]"], unfollowed := true, recurses := true, apart := false }
def TreeKeepsSaid : Prop := treeKeepsRow.holds Try.pinned (OpenSpec.ofChange treeKeepsSpec)

/-- ITS FALSE NEIGHBOUR: 'it returns false'. Refute it at one input. -/
def treeKeepsWrong : ChangeSpec := { name := "treeKeeps", fn := fun _ => fun
  | [d1, d2, d3, d4] => { results := [.lit (.bool false)], args := [d1, d2, d3, d4] }
  | _ => none }
def TreeKeepsWrongFalsely : Prop := treeKeepsRow.holds Try.pinned (OpenSpec.ofChange treeKeepsWrong)

/-- 'patchworklaw4.TreeOrders': WHATEVER THE INPUT: true; the input reads as it did. -/
def treeOrdersSpec : ChangeSpec := { name := "treeOrders", fn := fun _ => fun
  | [d1, d2] => { results := [.lit (.bool true)], args := [d1, d2] }
  | _ => none }
def treeOrdersRow : OpenClaim := { program := "ytahfoeichmfloaa", sum := "5b81e201d484939e39a2dff87f9e7aebc82e8fa4a50c4829ea507c1e95bda9ae", func := "patchwork/patchworklaw4.TreeOrders", spec := "treeOrders", inPlace := ["slices.overlaps[patchwork/api.Entry]"], unfollowed := true, recurses := true, apart := false }
def TreeOrdersSaid : Prop := treeOrdersRow.holds Try.pinned (OpenSpec.ofChange treeOrdersSpec)

/-- ITS FALSE NEIGHBOUR: 'it returns false'. Refute it at one input. -/
def treeOrdersWrong : ChangeSpec := { name := "treeOrders", fn := fun _ => fun
  | [d1, d2] => { results := [.lit (.bool false)], args := [d1, d2] }
  | _ => none }
def TreeOrdersWrongFalsely : Prop := treeOrdersRow.holds Try.pinned (OpenSpec.ofChange treeOrdersWrong)

/-- 'patchworklaw4.TreeMany': WHATEVER THE INPUT: true; the input reads as it did. -/
def treeManySpec : ChangeSpec := { name := "treeMany", fn := fun _ => fun
  | [d1, d2] => { results := [.lit (.bool true)], args := [d1, d2] }
  | _ => none }
def treeManyRow : OpenClaim := { program := "ytahfoeichmfloaa", sum := "5b81e201d484939e39a2dff87f9e7aebc82e8fa4a50c4829ea507c1e95bda9ae", func := "patchwork/patchworklaw4.TreeMany", spec := "treeMany", inPlace := ["slices.overlaps[patchwork/api.Entry]"], unfollowed := true, recurses := true, apart := false }
def TreeManySaid : Prop := treeManyRow.holds Try.pinned (OpenSpec.ofChange treeManySpec)

/-- ITS FALSE NEIGHBOUR: 'it returns false'. Refute it at one input. -/
def treeManyWrong : ChangeSpec := { name := "treeMany", fn := fun _ => fun
  | [d1, d2] => { results := [.lit (.bool false)], args := [d1, d2] }
  | _ => none }
def TreeManyWrongFalsely : Prop := treeManyRow.holds Try.pinned (OpenSpec.ofChange treeManyWrong)

/-- 'patchworklaw5.GlobTells': WHATEVER THE INPUT: true; the input reads as it did. -/
def globTellsSpec : ChangeSpec := { name := "globTells", fn := fun _ => fun
  | [d1, d2] => { results := [.lit (.bool true)], args := [d1, d2] }
  | _ => none }
def globTellsRow : OpenClaim := { program := "ytahfoeichmfloaa", sum := "5b81e201d484939e39a2dff87f9e7aebc82e8fa4a50c4829ea507c1e95bda9ae", func := "patchwork/patchworklaw5.GlobTells", spec := "globTells", inPlace := ["internal/bytealg.IndexByteString", "internal/bytealg.IndexString"], named := ["internal/bytealg.MaxLen"], apart := false }
def GlobTellsSaid : Prop := globTellsRow.holds Try.pinned (OpenSpec.ofChange globTellsSpec)

/-- ITS FALSE NEIGHBOUR: 'it returns false'. Refute it at one input. -/
def globTellsWrong : ChangeSpec := { name := "globTells", fn := fun _ => fun
  | [d1, d2] => { results := [.lit (.bool false)], args := [d1, d2] }
  | _ => none }
def GlobTellsWrongFalsely : Prop := globTellsRow.holds Try.pinned (OpenSpec.ofChange globTellsWrong)

/-- 'patchworklaw5.GlobSelf': WHATEVER THE INPUT: true; the input reads as it did. -/
def globSelfSpec : ChangeSpec := { name := "globSelf", fn := fun _ => fun
  | [d1, d2, d3] => { results := [.lit (.bool true)], args := [d1, d2, d3] }
  | _ => none }
def globSelfRow : OpenClaim := { program := "ytahfoeichmfloaa", sum := "5b81e201d484939e39a2dff87f9e7aebc82e8fa4a50c4829ea507c1e95bda9ae", func := "patchwork/patchworklaw5.GlobSelf", spec := "globSelf", inPlace := ["internal/bytealg.IndexByteString", "internal/bytealg.IndexString"], named := ["internal/bytealg.MaxLen"], apart := false }
def GlobSelfSaid : Prop := globSelfRow.holds Try.pinned (OpenSpec.ofChange globSelfSpec)

/-- ITS FALSE NEIGHBOUR: 'it returns false'. Refute it at one input. -/
def globSelfWrong : ChangeSpec := { name := "globSelf", fn := fun _ => fun
  | [d1, d2, d3] => { results := [.lit (.bool false)], args := [d1, d2, d3] }
  | _ => none }
def GlobSelfWrongFalsely : Prop := globSelfRow.holds Try.pinned (OpenSpec.ofChange globSelfWrong)

/-- 'patchworklaw5.GlobSets': WHATEVER THE INPUT: true; the input reads as it did. -/
def globSetsSpec : ChangeSpec := { name := "globSets", fn := fun _ => fun
  | [d1, d2, d3, d4, d5] => { results := [.lit (.bool true)], args := [d1, d2, d3, d4, d5] }
  | _ => none }
def globSetsRow : OpenClaim := { program := "ytahfoeichmfloaa", sum := "5b81e201d484939e39a2dff87f9e7aebc82e8fa4a50c4829ea507c1e95bda9ae", func := "patchwork/patchworklaw5.GlobSets", spec := "globSets", inPlace := ["internal/bytealg.IndexByteString", "internal/bytealg.IndexString"], named := ["internal/bytealg.MaxLen"], apart := false }
def GlobSetsSaid : Prop := globSetsRow.holds Try.pinned (OpenSpec.ofChange globSetsSpec)

/-- ITS FALSE NEIGHBOUR: 'it returns false'. Refute it at one input. -/
def globSetsWrong : ChangeSpec := { name := "globSets", fn := fun _ => fun
  | [d1, d2, d3, d4, d5] => { results := [.lit (.bool false)], args := [d1, d2, d3, d4, d5] }
  | _ => none }
def GlobSetsWrongFalsely : Prop := globSetsRow.holds Try.pinned (OpenSpec.ofChange globSetsWrong)

/-- 'patchworklaw5.GlobPaths': WHATEVER THE INPUT: true; the input reads as it did. -/
def globPathsSpec : ChangeSpec := { name := "globPaths", fn := fun _ => fun
  | [d1, d2, d3] => { results := [.lit (.bool true)], args := [d1, d2, d3] }
  | _ => none }
def globPathsRow : OpenClaim := { program := "ytahfoeichmfloaa", sum := "5b81e201d484939e39a2dff87f9e7aebc82e8fa4a50c4829ea507c1e95bda9ae", func := "patchwork/patchworklaw5.GlobPaths", spec := "globPaths", inPlace := ["internal/bytealg.IndexByteString", "internal/bytealg.IndexString"], named := ["internal/bytealg.MaxLen"], apart := false }
def GlobPathsSaid : Prop := globPathsRow.holds Try.pinned (OpenSpec.ofChange globPathsSpec)

/-- ITS FALSE NEIGHBOUR: 'it returns false'. Refute it at one input. -/
def globPathsWrong : ChangeSpec := { name := "globPaths", fn := fun _ => fun
  | [d1, d2, d3] => { results := [.lit (.bool false)], args := [d1, d2, d3] }
  | _ => none }
def GlobPathsWrongFalsely : Prop := globPathsRow.holds Try.pinned (OpenSpec.ofChange globPathsWrong)

/-- 'patchworklaw5.GlobEnds': WHATEVER THE INPUT: true; the input reads as it did. -/
def globEndsSpec : ChangeSpec := { name := "globEnds", fn := fun _ => fun
  | [d1, d2] => { results := [.lit (.bool true)], args := [d1, d2] }
  | _ => none }
def globEndsRow : OpenClaim := { program := "ytahfoeichmfloaa", sum := "5b81e201d484939e39a2dff87f9e7aebc82e8fa4a50c4829ea507c1e95bda9ae", func := "patchwork/patchworklaw5.GlobEnds", spec := "globEnds", inPlace := ["internal/bytealg.IndexByteString", "internal/bytealg.IndexString"], named := ["internal/bytealg.MaxLen"], apart := false }
def GlobEndsSaid : Prop := globEndsRow.holds Try.pinned (OpenSpec.ofChange globEndsSpec)

/-- ITS FALSE NEIGHBOUR: 'it returns false'. Refute it at one input. -/
def globEndsWrong : ChangeSpec := { name := "globEnds", fn := fun _ => fun
  | [d1, d2] => { results := [.lit (.bool false)], args := [d1, d2] }
  | _ => none }
def GlobEndsWrongFalsely : Prop := globEndsRow.holds Try.pinned (OpenSpec.ofChange globEndsWrong)

/-- 'patchworktop.TopNames': WHATEVER THE INPUT: true; the input reads as it did. -/
def topNamesSpec : ChangeSpec := { name := "topNames", fn := fun _ => fun
  | [] => { results := [.lit (.bool true)], args := [] }
  | _ => none }
def topNamesRow : OpenClaim := { program := "ytahfoeichmfloaa", sum := "5b81e201d484939e39a2dff87f9e7aebc82e8fa4a50c4829ea507c1e95bda9ae", func := "patchwork/patchworktop.TopNames", spec := "topNames", apart := false }
def TopNamesSaid : Prop := topNamesRow.holds Try.pinned (OpenSpec.ofChange topNamesSpec)

/-- ITS FALSE NEIGHBOUR: 'it returns false'. Refute it at one input. -/
def topNamesWrong : ChangeSpec := { name := "topNames", fn := fun _ => fun
  | [] => { results := [.lit (.bool false)], args := [] }
  | _ => none }
def TopNamesWrongFalsely : Prop := topNamesRow.holds Try.pinned (OpenSpec.ofChange topNamesWrong)

/- THE SECOND FORM. 'bulk': how many values and letters a reading holds, each counted each time it is reached (what is shared counts as often as it is met; a slice's spare places count too). A statement '..UptoSaid' is the law's where the arguments, and the package variables that the reading takes, are together of bulk at most 1048576: NARROWER than '..Said'. Prove '..Said' where nothing that the law and all that it calls make is longer than what came in: it says more and counts as full. Else prove '..UptoSaid'. A law counts once. -/
mutual
def uptoBulk {H : Type} : DataW H → Nat
  | .lit (.string bytes) => bytes.length + 1
  | .lit _ => 1
  | .nil => 1
  | .ptr d => uptoBulk d + 1
  | .slice elems spare => uptoBulkAll elems + uptoBulkAll spare + 1
  | .agg parts => uptoBulkAll parts + 1
  | .iface _ d => uptoBulk d + 1
  | .map entries => uptoBulkEntries entries + 1
  | .held _ => 1
def uptoBulkAll {H : Type} : List (DataW H) → Nat
  | [] => 0
  | d :: r => uptoBulk d + uptoBulkAll r
def uptoBulkEntries {H : Type} : List (Lit × DataW H) → Nat
  | [] => 0
  | x :: r => uptoBulkEntry x + uptoBulkEntries r
def uptoBulkEntry {H : Type} : Lit × DataW H → Nat
  | (.string bytes, d) => bytes.length + uptoBulk d + 1
  | (_, d) => uptoBulk d + 1
 end
def uptoSmall : (H : Type) → List (DataW H) → Bool := fun _ ds => decide (uptoBulkAll ds ≤ 1048576)
def OpenSpec.upto (s : _root_.Go.ChangeSpec) : _root_.Go.OpenSpec := { _root_.Go.OpenSpec.ofChange s with cond := some uptoSmall }

/-- 'patchworklaw4.TreeTells', WHERE WHAT IT READS IS OF BULK AT MOST 1048576: true; the input reads as it did. -/
def treeTellsUptoRow : OpenClaim := { program := "ytahfoeichmfloaa", sum := "5b81e201d484939e39a2dff87f9e7aebc82e8fa4a50c4829ea507c1e95bda9ae", func := "patchwork/patchworklaw4.TreeTells", spec := "treeTells", inPlace := ["slices.overlaps[patchwork/api.Entry]"], unfollowed := true, recurses := true, apart := false, narrowed := true }
def TreeTellsUptoSaid : Prop := treeTellsUptoRow.holds Try.pinned (OpenSpec.upto treeTellsSpec)

/-- 'patchworklaw4.TreeKeeps', WHERE WHAT IT READS IS OF BULK AT MOST 1048576: true; the input reads as it did. -/
def treeKeepsUptoRow : OpenClaim := { program := "ytahfoeichmfloaa", sum := "5b81e201d484939e39a2dff87f9e7aebc82e8fa4a50c4829ea507c1e95bda9ae", func := "patchwork/patchworklaw4.TreeKeeps", spec := "treeKeeps", inPlace := ["slices.overlaps[patchwork/api.Entry]"], unfollowed := true, recurses := true, apart := false, narrowed := true }
def TreeKeepsUptoSaid : Prop := treeKeepsUptoRow.holds Try.pinned (OpenSpec.upto treeKeepsSpec)

/-- 'patchworklaw4.TreeOrders', WHERE WHAT IT READS IS OF BULK AT MOST 1048576: true; the input reads as it did. -/
def treeOrdersUptoRow : OpenClaim := { program := "ytahfoeichmfloaa", sum := "5b81e201d484939e39a2dff87f9e7aebc82e8fa4a50c4829ea507c1e95bda9ae", func := "patchwork/patchworklaw4.TreeOrders", spec := "treeOrders", inPlace := ["slices.overlaps[patchwork/api.Entry]"], unfollowed := true, recurses := true, apart := false, narrowed := true }
def TreeOrdersUptoSaid : Prop := treeOrdersUptoRow.holds Try.pinned (OpenSpec.upto treeOrdersSpec)

/-- 'patchworklaw4.TreeMany', WHERE WHAT IT READS IS OF BULK AT MOST 1048576: true; the input reads as it did. -/
def treeManyUptoRow : OpenClaim := { program := "ytahfoeichmfloaa", sum := "5b81e201d484939e39a2dff87f9e7aebc82e8fa4a50c4829ea507c1e95bda9ae", func := "patchwork/patchworklaw4.TreeMany", spec := "treeMany", inPlace := ["slices.overlaps[patchwork/api.Entry]"], unfollowed := true, recurses := true, apart := false, narrowed := true }
def TreeManyUptoSaid : Prop := treeManyUptoRow.holds Try.pinned (OpenSpec.upto treeManySpec)

/-- 'patchworklaw5.GlobTells', WHERE WHAT IT READS IS OF BULK AT MOST 1048576: true; the input reads as it did. -/
def globTellsUptoRow : OpenClaim := { program := "ytahfoeichmfloaa", sum := "5b81e201d484939e39a2dff87f9e7aebc82e8fa4a50c4829ea507c1e95bda9ae", func := "patchwork/patchworklaw5.GlobTells", spec := "globTells", inPlace := ["internal/bytealg.IndexByteString", "internal/bytealg.IndexString"], named := ["internal/bytealg.MaxLen"], apart := false, narrowed := true }
def GlobTellsUptoSaid : Prop := globTellsUptoRow.holds Try.pinned (OpenSpec.upto globTellsSpec)

/-- 'patchworklaw5.GlobSelf', WHERE WHAT IT READS IS OF BULK AT MOST 1048576: true; the input reads as it did. -/
def globSelfUptoRow : OpenClaim := { program := "ytahfoeichmfloaa", sum := "5b81e201d484939e39a2dff87f9e7aebc82e8fa4a50c4829ea507c1e95bda9ae", func := "patchwork/patchworklaw5.GlobSelf", spec := "globSelf", inPlace := ["internal/bytealg.IndexByteString", "internal/bytealg.IndexString"], named := ["internal/bytealg.MaxLen"], apart := false, narrowed := true }
def GlobSelfUptoSaid : Prop := globSelfUptoRow.holds Try.pinned (OpenSpec.upto globSelfSpec)

/-- 'patchworklaw5.GlobSets', WHERE WHAT IT READS IS OF BULK AT MOST 1048576: true; the input reads as it did. -/
def globSetsUptoRow : OpenClaim := { program := "ytahfoeichmfloaa", sum := "5b81e201d484939e39a2dff87f9e7aebc82e8fa4a50c4829ea507c1e95bda9ae", func := "patchwork/patchworklaw5.GlobSets", spec := "globSets", inPlace := ["internal/bytealg.IndexByteString", "internal/bytealg.IndexString"], named := ["internal/bytealg.MaxLen"], apart := false, narrowed := true }
def GlobSetsUptoSaid : Prop := globSetsUptoRow.holds Try.pinned (OpenSpec.upto globSetsSpec)

/-- 'patchworklaw5.GlobPaths', WHERE WHAT IT READS IS OF BULK AT MOST 1048576: true; the input reads as it did. -/
def globPathsUptoRow : OpenClaim := { program := "ytahfoeichmfloaa", sum := "5b81e201d484939e39a2dff87f9e7aebc82e8fa4a50c4829ea507c1e95bda9ae", func := "patchwork/patchworklaw5.GlobPaths", spec := "globPaths", inPlace := ["internal/bytealg.IndexByteString", "internal/bytealg.IndexString"], named := ["internal/bytealg.MaxLen"], apart := false, narrowed := true }
def GlobPathsUptoSaid : Prop := globPathsUptoRow.holds Try.pinned (OpenSpec.upto globPathsSpec)

/-- 'patchworklaw5.GlobEnds', WHERE WHAT IT READS IS OF BULK AT MOST 1048576: true; the input reads as it did. -/
def globEndsUptoRow : OpenClaim := { program := "ytahfoeichmfloaa", sum := "5b81e201d484939e39a2dff87f9e7aebc82e8fa4a50c4829ea507c1e95bda9ae", func := "patchwork/patchworklaw5.GlobEnds", spec := "globEnds", inPlace := ["internal/bytealg.IndexByteString", "internal/bytealg.IndexString"], named := ["internal/bytealg.MaxLen"], apart := false, narrowed := true }
def GlobEndsUptoSaid : Prop := globEndsUptoRow.holds Try.pinned (OpenSpec.upto globEndsSpec)

/-- 'patchworktop.TopNames', WHERE WHAT IT READS IS OF BULK AT MOST 1048576: true; the input reads as it did. -/
def topNamesUptoRow : OpenClaim := { program := "ytahfoeichmfloaa", sum := "5b81e201d484939e39a2dff87f9e7aebc82e8fa4a50c4829ea507c1e95bda9ae", func := "patchwork/patchworktop.TopNames", spec := "topNames", apart := false, narrowed := true }
def TopNamesUptoSaid : Prop := topNamesUptoRow.holds Try.pinned (OpenSpec.upto topNamesSpec)

end Rows
end Go.Proofs.Ytahfoeichmfloaa
