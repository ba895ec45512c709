/-
  No cell of these rows narrows 'for every input' (looked for: loops, veiled, ifaces, maps, wideKeys, modest, calm, conditions, laid).
  DERIVED. THE GIVEN ROWS OF THIS SEAT. 9 by the template 'for every input the law returns true; each argument reads behind the call as it read before'; 0 by the template 'total and deterministic' (their statements: YtlkaoiceehlkmaaTotals.lean).
  GIVEN WITH THE SEED: the statements are not yours to turn. If you find one false, say at which input.
  Laid BY PROGRAM, IN A SANDBOX (cutbox-rows.mjs): the forced cells as the released guide's own fill.sh prints them over the translation c5e2957a60f5be83… (all of the seat's roots in one cut). By AI agents, Wed Nov 11 2026. No macro, syntax, notation, axiom, sorry.
-/
import Derived.Test.YtlkaoiceehlkmaaChecked
import GoSem.Claim
import GoSem.ClaimJoined
import GoSem.ClaimMapViews
import Derived.JoinedTies
import Derived.KernelRfl
namespace Go.Proofs.Ytlkaoiceehlkmaa
/- THE CELL 'sum', in the pinned program and in every row, IS THE sha256 OF THE DUMP (.gsa) THAT YtlkaoiceehlkmaaProg.lean LOADS. Nothing in Lean hashes anything: it is a label: what it is worth is what the hold of that sum in a sandbox is worth. -/
noncomputable def Try.pinned : Pinned := { name := "ytlkaoiceehlkmaa", sum := "c5e2957a60f5be83ea6c52294491a1669dab5ab8ad74f39dcb53a4754f548620", checked := Try.checked }
namespace Rows
def none {H : Type} : Left H := { results := [], args := [] }

/-- 'patchworklaw7.NfaFinds': WHATEVER THE INPUT: true; the input reads as it did. -/
def nfaFindsSpec : ChangeSpec := { name := "nfaFinds", fn := fun _ => fun
  | [d1, d2] => { results := [.lit (.bool true)], args := [d1, d2] }
  | _ => none }
def nfaFindsRow : OpenClaim := { program := "ytlkaoiceehlkmaa", sum := "c5e2957a60f5be83ea6c52294491a1669dab5ab8ad74f39dcb53a4754f548620", func := "patchwork/patchworklaw7.NfaFinds", spec := "nfaFinds", unfollowed := true, recurses := true, apart := false }
def NfaFindsSaid : Prop := nfaFindsRow.holds Try.pinned (OpenSpec.ofChange nfaFindsSpec)

/-- ITS FALSE NEIGHBOUR: 'it returns false'. Refute it at one input. -/
def nfaFindsWrong : ChangeSpec := { name := "nfaFinds", fn := fun _ => fun
  | [d1, d2] => { results := [.lit (.bool false)], args := [d1, d2] }
  | _ => none }
def NfaFindsWrongFalsely : Prop := nfaFindsRow.holds Try.pinned (OpenSpec.ofChange nfaFindsWrong)

/-- 'patchworklaw7.NfaAlts': WHATEVER THE INPUT: true; the input reads as it did. -/
def nfaAltsSpec : ChangeSpec := { name := "nfaAlts", fn := fun _ => fun
  | [d1, d2, d3] => { results := [.lit (.bool true)], args := [d1, d2, d3] }
  | _ => none }
def nfaAltsRow : OpenClaim := { program := "ytlkaoiceehlkmaa", sum := "c5e2957a60f5be83ea6c52294491a1669dab5ab8ad74f39dcb53a4754f548620", func := "patchwork/patchworklaw7.NfaAlts", spec := "nfaAlts", unfollowed := true, recurses := true, apart := false }
def NfaAltsSaid : Prop := nfaAltsRow.holds Try.pinned (OpenSpec.ofChange nfaAltsSpec)

/-- ITS FALSE NEIGHBOUR: 'it returns false'. Refute it at one input. -/
def nfaAltsWrong : ChangeSpec := { name := "nfaAlts", fn := fun _ => fun
  | [d1, d2, d3] => { results := [.lit (.bool false)], args := [d1, d2, d3] }
  | _ => none }
def NfaAltsWrongFalsely : Prop := nfaAltsRow.holds Try.pinned (OpenSpec.ofChange nfaAltsWrong)

/-- 'patchworklaw7.NfaTimes': WHATEVER THE INPUT: true; the input reads as it did. -/
def nfaTimesSpec : ChangeSpec := { name := "nfaTimes", fn := fun _ => fun
  | [d1, d2, d3] => { results := [.lit (.bool true)], args := [d1, d2, d3] }
  | _ => none }
def nfaTimesRow : OpenClaim := { program := "ytlkaoiceehlkmaa", sum := "c5e2957a60f5be83ea6c52294491a1669dab5ab8ad74f39dcb53a4754f548620", func := "patchwork/patchworklaw7.NfaTimes", spec := "nfaTimes", unfollowed := true, recurses := true, apart := false }
def NfaTimesSaid : Prop := nfaTimesRow.holds Try.pinned (OpenSpec.ofChange nfaTimesSpec)

/-- ITS FALSE NEIGHBOUR: 'it returns false'. Refute it at one input. -/
def nfaTimesWrong : ChangeSpec := { name := "nfaTimes", fn := fun _ => fun
  | [d1, d2, d3] => { results := [.lit (.bool false)], args := [d1, d2, d3] }
  | _ => none }
def NfaTimesWrongFalsely : Prop := nfaTimesRow.holds Try.pinned (OpenSpec.ofChange nfaTimesWrong)

/-- 'patchworklaw7.NfaEach': WHATEVER THE INPUT: true; the input reads as it did. -/
def nfaEachSpec : ChangeSpec := { name := "nfaEach", fn := fun _ => fun
  | [d] => { results := [.lit (.bool true)], args := [d] }
  | _ => none }
def nfaEachRow : OpenClaim := { program := "ytlkaoiceehlkmaa", sum := "c5e2957a60f5be83ea6c52294491a1669dab5ab8ad74f39dcb53a4754f548620", func := "patchwork/patchworklaw7.NfaEach", spec := "nfaEach", unfollowed := true, recurses := true, apart := false }
def NfaEachSaid : Prop := nfaEachRow.holds Try.pinned (OpenSpec.ofChange nfaEachSpec)

/-- ITS FALSE NEIGHBOUR: 'it returns false'. Refute it at one input. -/
def nfaEachWrong : ChangeSpec := { name := "nfaEach", fn := fun _ => fun
  | [d] => { results := [.lit (.bool false)], args := [d] }
  | _ => none }
def NfaEachWrongFalsely : Prop := nfaEachRow.holds Try.pinned (OpenSpec.ofChange nfaEachWrong)

/-- 'patchworklaw7.NfaWords': WHATEVER THE INPUT: true; the input reads as it did. -/
def nfaWordsSpec : ChangeSpec := { name := "nfaWords", fn := fun _ => fun
  | [d1, d2] => { results := [.lit (.bool true)], args := [d1, d2] }
  | _ => none }
def nfaWordsRow : OpenClaim := { program := "ytlkaoiceehlkmaa", sum := "c5e2957a60f5be83ea6c52294491a1669dab5ab8ad74f39dcb53a4754f548620", func := "patchwork/patchworklaw7.NfaWords", spec := "nfaWords", unfollowed := true, recurses := true, apart := false }
def NfaWordsSaid : Prop := nfaWordsRow.holds Try.pinned (OpenSpec.ofChange nfaWordsSpec)

/-- ITS FALSE NEIGHBOUR: 'it returns false'. Refute it at one input. -/
def nfaWordsWrong : ChangeSpec := { name := "nfaWords", fn := fun _ => fun
  | [d1, d2] => { results := [.lit (.bool false)], args := [d1, d2] }
  | _ => none }
def NfaWordsWrongFalsely : Prop := nfaWordsRow.holds Try.pinned (OpenSpec.ofChange nfaWordsWrong)

/-- 'patchworklaw6.EreRight': WHATEVER THE INPUT: true; the input reads as it did. -/
def ereRightSpec : ChangeSpec := { name := "ereRight", fn := fun _ => fun
  | [d] => { results := [.lit (.bool true)], args := [d] }
  | _ => none }
def ereRightRow : OpenClaim := { program := "ytlkaoiceehlkmaa", sum := "c5e2957a60f5be83ea6c52294491a1669dab5ab8ad74f39dcb53a4754f548620", func := "patchwork/patchworklaw6.EreRight", spec := "ereRight", inPlace := ["internal/bytealg.IndexByteString", "internal/bytealg.IndexString"], recurses := true, named := ["internal/bytealg.MaxLen"], apart := false }
def EreRightSaid : Prop := ereRightRow.holds Try.pinned (OpenSpec.ofChange ereRightSpec)

/-- ITS FALSE NEIGHBOUR: 'it returns false'. Refute it at one input. -/
def ereRightWrong : ChangeSpec := { name := "ereRight", fn := fun _ => fun
  | [d] => { results := [.lit (.bool false)], args := [d] }
  | _ => none }
def EreRightWrongFalsely : Prop := ereRightRow.holds Try.pinned (OpenSpec.ofChange ereRightWrong)

/-- 'patchworklaw6.EreGroups': WHATEVER THE INPUT: true; the input reads as it did. -/
def ereGroupsSpec : ChangeSpec := { name := "ereGroups", fn := fun _ => fun
  | [d1, d2] => { results := [.lit (.bool true)], args := [d1, d2] }
  | _ => none }
def ereGroupsRow : OpenClaim := { program := "ytlkaoiceehlkmaa", sum := "c5e2957a60f5be83ea6c52294491a1669dab5ab8ad74f39dcb53a4754f548620", func := "patchwork/patchworklaw6.EreGroups", spec := "ereGroups", inPlace := ["internal/bytealg.IndexByteString", "internal/bytealg.IndexString"], recurses := true, named := ["internal/bytealg.MaxLen"], apart := false }
def EreGroupsSaid : Prop := ereGroupsRow.holds Try.pinned (OpenSpec.ofChange ereGroupsSpec)

/-- ITS FALSE NEIGHBOUR: 'it returns false'. Refute it at one input. -/
def ereGroupsWrong : ChangeSpec := { name := "ereGroups", fn := fun _ => fun
  | [d1, d2] => { results := [.lit (.bool false)], args := [d1, d2] }
  | _ => none }
def EreGroupsWrongFalsely : Prop := ereGroupsRow.holds Try.pinned (OpenSpec.ofChange ereGroupsWrong)

/-- 'patchworklaw6.EreTimes': WHATEVER THE INPUT: true; the input reads as it did. -/
def ereTimesSpec : ChangeSpec := { name := "ereTimes", fn := fun _ => fun
  | [d1, d2, d3] => { results := [.lit (.bool true)], args := [d1, d2, d3] }
  | _ => none }
def ereTimesRow : OpenClaim := { program := "ytlkaoiceehlkmaa", sum := "c5e2957a60f5be83ea6c52294491a1669dab5ab8ad74f39dcb53a4754f548620", func := "patchwork/patchworklaw6.EreTimes", spec := "ereTimes", inPlace := ["internal/bytealg.IndexByteString", "internal/bytealg.IndexString"], recurses := true, named := ["internal/bytealg.MaxLen"], apart := false }
def EreTimesSaid : Prop := ereTimesRow.holds Try.pinned (OpenSpec.ofChange ereTimesSpec)

/-- ITS FALSE NEIGHBOUR: 'it returns false'. Refute it at one input. -/
def ereTimesWrong : ChangeSpec := { name := "ereTimes", fn := fun _ => fun
  | [d1, d2, d3] => { results := [.lit (.bool false)], args := [d1, d2, d3] }
  | _ => none }
def EreTimesWrongFalsely : Prop := ereTimesRow.holds Try.pinned (OpenSpec.ofChange ereTimesWrong)

/-- 'patchworklaw6.EreSets': WHATEVER THE INPUT: true; the input reads as it did. -/
def ereSetsSpec : ChangeSpec := { name := "ereSets", fn := fun _ => fun
  | [d1, d2, d3, d4] => { results := [.lit (.bool true)], args := [d1, d2, d3, d4] }
  | _ => none }
def ereSetsRow : OpenClaim := { program := "ytlkaoiceehlkmaa", sum := "c5e2957a60f5be83ea6c52294491a1669dab5ab8ad74f39dcb53a4754f548620", func := "patchwork/patchworklaw6.EreSets", spec := "ereSets", inPlace := ["internal/bytealg.IndexByteString", "internal/bytealg.IndexString"], recurses := true, named := ["internal/bytealg.MaxLen"], apart := false }
def EreSetsSaid : Prop := ereSetsRow.holds Try.pinned (OpenSpec.ofChange ereSetsSpec)

/-- ITS FALSE NEIGHBOUR: 'it returns false'. Refute it at one input. -/
def ereSetsWrong : ChangeSpec := { name := "ereSets", fn := fun _ => fun
  | [d1, d2, d3, d4] => { results := [.lit (.bool false)], args := [d1, d2, d3, d4] }
  | _ => none }
def EreSetsWrongFalsely : Prop := ereSetsRow.holds Try.pinned (OpenSpec.ofChange ereSetsWrong)

/- THE SECOND FORM. 'bulk': how many values and letters a reading holds, each counted each time it is reached (what is shared counts as often as it is met; a slice's spare places count too). A statement '..UptoSaid' is the law's where the arguments, and the package variables that the reading takes, are together of bulk at most 1048576: NARROWER than '..Said'. Prove '..Said' where nothing that the law and all that it calls make is longer than what came in: it says more and counts as full. Else prove '..UptoSaid'. A law counts once. -/
mutual
def uptoBulk {H : Type} : DataW H → Nat
  | .lit (.string bytes) => bytes.length + 1
  | .lit _ => 1
  | .nil => 1
  | .ptr d => uptoBulk d + 1
  | .slice elems spare => uptoBulkAll elems + uptoBulkAll spare + 1
  | .agg parts => uptoBulkAll parts + 1
  | .iface _ d => uptoBulk d + 1
  | .map entries => uptoBulkEntries entries + 1
  | .held _ => 1
def uptoBulkAll {H : Type} : List (DataW H) → Nat
  | [] => 0
  | d :: r => uptoBulk d + uptoBulkAll r
def uptoBulkEntries {H : Type} : List (Lit × DataW H) → Nat
  | [] => 0
  | x :: r => uptoBulkEntry x + uptoBulkEntries r
def uptoBulkEntry {H : Type} : Lit × DataW H → Nat
  | (.string bytes, d) => bytes.length + uptoBulk d + 1
  | (_, d) => uptoBulk d + 1
 end
def uptoSmall : (H : Type) → List (DataW H) → Bool := fun _ ds => decide (uptoBulkAll ds ≤ 1048576)
def OpenSpec.upto (s : _root_.Go.ChangeSpec) : _root_.Go.OpenSpec := { _root_.Go.OpenSpec.ofChange s with cond := some uptoSmall }

/-- 'patchworklaw7.NfaFinds', WHERE WHAT IT READS IS OF BULK AT MOST 1048576: true; the input reads as it did. -/
def nfaFindsUptoRow : OpenClaim := { program := "ytlkaoiceehlkmaa", sum := "c5e2957a60f5be83ea6c52294491a1669dab5ab8ad74f39dcb53a4754f548620", func := "patchwork/patchworklaw7.NfaFinds", spec := "nfaFinds", unfollowed := true, recurses := true, apart := false, narrowed := true }
def NfaFindsUptoSaid : Prop := nfaFindsUptoRow.holds Try.pinned (OpenSpec.upto nfaFindsSpec)

/-- 'patchworklaw7.NfaAlts', WHERE WHAT IT READS IS OF BULK AT MOST 1048576: true; the input reads as it did. -/
def nfaAltsUptoRow : OpenClaim := { program := "ytlkaoiceehlkmaa", sum := "c5e2957a60f5be83ea6c52294491a1669dab5ab8ad74f39dcb53a4754f548620", func := "patchwork/patchworklaw7.NfaAlts", spec := "nfaAlts", unfollowed := true, recurses := true, apart := false, narrowed := true }
def NfaAltsUptoSaid : Prop := nfaAltsUptoRow.holds Try.pinned (OpenSpec.upto nfaAltsSpec)

/-- 'patchworklaw7.NfaTimes', WHERE WHAT IT READS IS OF BULK AT MOST 1048576: true; the input reads as it did. -/
def nfaTimesUptoRow : OpenClaim := { program := "ytlkaoiceehlkmaa", sum := "c5e2957a60f5be83ea6c52294491a1669dab5ab8ad74f39dcb53a4754f548620", func := "patchwork/patchworklaw7.NfaTimes", spec := "nfaTimes", unfollowed := true, recurses := true, apart := false, narrowed := true }
def NfaTimesUptoSaid : Prop := nfaTimesUptoRow.holds Try.pinned (OpenSpec.upto nfaTimesSpec)

/-- 'patchworklaw7.NfaEach', WHERE WHAT IT READS IS OF BULK AT MOST 1048576: true; the input reads as it did. -/
def nfaEachUptoRow : OpenClaim := { program := "ytlkaoiceehlkmaa", sum := "c5e2957a60f5be83ea6c52294491a1669dab5ab8ad74f39dcb53a4754f548620", func := "patchwork/patchworklaw7.NfaEach", spec := "nfaEach", unfollowed := true, recurses := true, apart := false, narrowed := true }
def NfaEachUptoSaid : Prop := nfaEachUptoRow.holds Try.pinned (OpenSpec.upto nfaEachSpec)

/-- 'patchworklaw7.NfaWords', WHERE WHAT IT READS IS OF BULK AT MOST 1048576: true; the input reads as it did. -/
def nfaWordsUptoRow : OpenClaim := { program := "ytlkaoiceehlkmaa", sum := "c5e2957a60f5be83ea6c52294491a1669dab5ab8ad74f39dcb53a4754f548620", func := "patchwork/patchworklaw7.NfaWords", spec := "nfaWords", unfollowed := true, recurses := true, apart := false, narrowed := true }
def NfaWordsUptoSaid : Prop := nfaWordsUptoRow.holds Try.pinned (OpenSpec.upto nfaWordsSpec)

/-- 'patchworklaw6.EreRight', WHERE WHAT IT READS IS OF BULK AT MOST 1048576: true; the input reads as it did. -/
def ereRightUptoRow : OpenClaim := { program := "ytlkaoiceehlkmaa", sum := "c5e2957a60f5be83ea6c52294491a1669dab5ab8ad74f39dcb53a4754f548620", func := "patchwork/patchworklaw6.EreRight", spec := "ereRight", inPlace := ["internal/bytealg.IndexByteString", "internal/bytealg.IndexString"], recurses := true, named := ["internal/bytealg.MaxLen"], apart := false, narrowed := true }
def EreRightUptoSaid : Prop := ereRightUptoRow.holds Try.pinned (OpenSpec.upto ereRightSpec)

/-- 'patchworklaw6.EreGroups', WHERE WHAT IT READS IS OF BULK AT MOST 1048576: true; the input reads as it did. -/
def ereGroupsUptoRow : OpenClaim := { program := "ytlkaoiceehlkmaa", sum := "c5e2957a60f5be83ea6c52294491a1669dab5ab8ad74f39dcb53a4754f548620", func := "patchwork/patchworklaw6.EreGroups", spec := "ereGroups", inPlace := ["internal/bytealg.IndexByteString", "internal/bytealg.IndexString"], recurses := true, named := ["internal/bytealg.MaxLen"], apart := false, narrowed := true }
def EreGroupsUptoSaid : Prop := ereGroupsUptoRow.holds Try.pinned (OpenSpec.upto ereGroupsSpec)

/-- 'patchworklaw6.EreTimes', WHERE WHAT IT READS IS OF BULK AT MOST 1048576: true; the input reads as it did. -/
def ereTimesUptoRow : OpenClaim := { program := "ytlkaoiceehlkmaa", sum := "c5e2957a60f5be83ea6c52294491a1669dab5ab8ad74f39dcb53a4754f548620", func := "patchwork/patchworklaw6.EreTimes", spec := "ereTimes", inPlace := ["internal/bytealg.IndexByteString", "internal/bytealg.IndexString"], recurses := true, named := ["internal/bytealg.MaxLen"], apart := false, narrowed := true }
def EreTimesUptoSaid : Prop := ereTimesUptoRow.holds Try.pinned (OpenSpec.upto ereTimesSpec)

/-- 'patchworklaw6.EreSets', WHERE WHAT IT READS IS OF BULK AT MOST 1048576: true; the input reads as it did. -/
def ereSetsUptoRow : OpenClaim := { program := "ytlkaoiceehlkmaa", sum := "c5e2957a60f5be83ea6c52294491a1669dab5ab8ad74f39dcb53a4754f548620", func := "patchwork/patchworklaw6.EreSets", spec := "ereSets", inPlace := ["internal/bytealg.IndexByteString", "internal/bytealg.IndexString"], recurses := true, named := ["internal/bytealg.MaxLen"], apart := false, narrowed := true }
def EreSetsUptoSaid : Prop := ereSetsUptoRow.holds Try.pinned (OpenSpec.upto ereSetsSpec)

end Rows
end Go.Proofs.Ytlkaoiceehlkmaa
