/-
  DERIVED. GIVEN WITH THE SEED: THE CARDS: each row of YthngeddaeoeimaaDoorRows.lean that lists a variable, with what it lists TIED to the program's text (the seventh form; the later family's looks); each row that meets fmt, with fmt's text TOLD by the authors' own Lean function (tested against real Go, not proved from fmt's source: count such statements apart). THE CARD IS WHAT COUNTS. Prove the row's statement (the work); the ties are given (YthngeddaeoeimaaDoorTie.lean); close each card by the builder's one call (the guide's Derived/Test/ToyasCard.lean, 'card_holds'). Laid BY PROGRAM, IN A SANDBOX (cutbox-door.mjs). By AI agents, Wed Nov 11 2026. No macro, syntax, notation, axiom, sorry.
-/
import Derived.Test.YthngeddaeoeimaaDoorRows
import GoSem.ClaimSeven
namespace Go.Proofs.YthngeddaeoeimaaDoor
namespace Rows

/-- THE TIED CARD OF 'patchworklaw1.LinesTell'. -/
def linesTellCard : Claim7 := { stood := { row := linesTellRow, standIns := [], harness := (true, "9d0852f8628b79a8481857b44e078573b003590462ad66316da4e236ce48313f"), looks := true }, kinds := [], alts := [], laidByText := true, laidKinds := [.data, .pinned], laidTests := true, laidLooks := .later }
def LinesTellCardSaid : Prop := Claim7.holds Tryd.pinned (.plain (OpenSpec.ofChange linesTellSpec)) linesTellCard

/-- THE TIED CARD OF 'patchworklaw1.LinesBack'. -/
def linesBackCard : Claim7 := { stood := { row := linesBackRow, standIns := [], harness := (true, "9d0852f8628b79a8481857b44e078573b003590462ad66316da4e236ce48313f"), looks := true }, kinds := [], alts := [], laidByText := true, laidKinds := [.data, .pinned], laidTests := true, laidLooks := .later }
def LinesBackCardSaid : Prop := Claim7.holds Tryd.pinned (.plain (OpenSpec.ofChange linesBackSpec)) linesBackCard

/-- THE TIED CARD OF 'patchworklaw1.LinesWhole'. -/
def linesWholeCard : Claim7 := { stood := { row := linesWholeRow, standIns := [], harness := (true, "9d0852f8628b79a8481857b44e078573b003590462ad66316da4e236ce48313f"), looks := true }, kinds := [], alts := [], laidByText := true, laidKinds := [.data, .pinned], laidTests := true, laidLooks := .later }
def LinesWholeCardSaid : Prop := Claim7.holds Tryd.pinned (.plain (OpenSpec.ofChange linesWholeSpec)) linesWholeCard

/-- THE TIED CARD OF 'patchworklaw1.LinesParts'. -/
def linesPartsCard : Claim7 := { stood := { row := linesPartsRow, standIns := [], harness := (true, "9d0852f8628b79a8481857b44e078573b003590462ad66316da4e236ce48313f"), looks := true }, kinds := [], alts := [], laidByText := true, laidKinds := [.data, .pinned], laidTests := true, laidLooks := .later }
def LinesPartsCardSaid : Prop := Claim7.holds Tryd.pinned (.plain (OpenSpec.ofChange linesPartsSpec)) linesPartsCard

/-- THE TIED CARD OF 'patchworklaw1.LinesEach'. -/
def linesEachCard : Claim7 := { stood := { row := linesEachRow, standIns := [], harness := (true, "9d0852f8628b79a8481857b44e078573b003590462ad66316da4e236ce48313f"), looks := true }, kinds := [], alts := [], laidByText := true, laidKinds := [.data, .pinned], laidTests := true, laidLooks := .later }
def LinesEachCardSaid : Prop := Claim7.holds Tryd.pinned (.plain (OpenSpec.ofChange linesEachSpec)) linesEachCard

/-- THE TIED CARD OF 'patchworklaw3.PathsTell'. -/
def pathsTellCard : Claim7 := { stood := { row := pathsTellRow, standIns := [], harness := (true, "9d0852f8628b79a8481857b44e078573b003590462ad66316da4e236ce48313f"), looks := true }, kinds := [], alts := [], laidByText := true, laidKinds := [.data, .pinned], laidTests := true, laidLooks := .later }
def PathsTellCardSaid : Prop := Claim7.holds Tryd.pinned (.plain (OpenSpec.ofChange pathsTellSpec)) pathsTellCard

/-- THE TIED CARD OF 'patchworklaw3.PathsStrip'. -/
def pathsStripCard : Claim7 := { stood := { row := pathsStripRow, standIns := [], harness := (true, "9d0852f8628b79a8481857b44e078573b003590462ad66316da4e236ce48313f"), looks := true }, kinds := [], alts := [], laidByText := true, laidKinds := [.data, .pinned], laidTests := true, laidLooks := .later }
def PathsStripCardSaid : Prop := Claim7.holds Tryd.pinned (.plain (OpenSpec.ofChange pathsStripSpec)) pathsStripCard

/-- THE TIED CARD OF 'patchworklaw3.PathsParts'. -/
def pathsPartsCard : Claim7 := { stood := { row := pathsPartsRow, standIns := [], harness := (true, "9d0852f8628b79a8481857b44e078573b003590462ad66316da4e236ce48313f"), looks := true }, kinds := [], alts := [], laidByText := true, laidKinds := [.data, .pinned], laidTests := true, laidLooks := .later }
def PathsPartsCardSaid : Prop := Claim7.holds Tryd.pinned (.plain (OpenSpec.ofChange pathsPartsSpec)) pathsPartsCard

/-- THE TIED CARD OF 'patchworklaw3.PathsEach'. -/
def pathsEachCard : Claim7 := { stood := { row := pathsEachRow, standIns := [], harness := (true, "9d0852f8628b79a8481857b44e078573b003590462ad66316da4e236ce48313f"), looks := true }, kinds := [], alts := [], laidByText := true, laidKinds := [.data, .pinned], laidTests := true, laidLooks := .later }
def PathsEachCardSaid : Prop := Claim7.holds Tryd.pinned (.plain (OpenSpec.ofChange pathsEachSpec)) pathsEachCard

/-- THE TIED CARD OF 'patchworklaw2.NumsBack'. -/
def numsBackCard : Claim7 := { stood := { row := numsBackRow, standIns := [], harness := (true, "9d0852f8628b79a8481857b44e078573b003590462ad66316da4e236ce48313f"), looks := true }, kinds := [], alts := [], laidByText := true, laidKinds := [.data, .data, .data, .data, .sentinel, .sentinel, .pinned], laidTests := true, laidLooks := .later }
def NumsBackCardSaid : Prop := Claim7.holds Tryd.pinned (.plain (OpenSpec.ofChange numsBackSpec)) numsBackCard

/-- THE TIED CARD OF 'patchworklaw2.NumsWrong'. -/
def numsWrongCard : Claim7 := { stood := { row := numsWrongRow, standIns := [], harness := (true, "9d0852f8628b79a8481857b44e078573b003590462ad66316da4e236ce48313f"), looks := true }, kinds := [], alts := [], laidByText := true, laidKinds := [.data, .data, .data, .data, .sentinel, .sentinel, .pinned], laidTests := true, laidLooks := .later }
def NumsWrongCardSaid : Prop := Claim7.holds Tryd.pinned (.plain (OpenSpec.ofChange numsWrongSpec)) numsWrongCard

/-- THE TIED CARD OF 'patchworklaw2.NumsRow'. -/
def numsRowCard : Claim7 := { stood := { row := numsRowRow, standIns := [], harness := (true, "9d0852f8628b79a8481857b44e078573b003590462ad66316da4e236ce48313f"), looks := true }, kinds := [], alts := [], laidByText := true, laidKinds := [.data, .data, .data, .data, .sentinel, .sentinel, .pinned], laidTests := true, laidLooks := .later }
def NumsRowCardSaid : Prop := Claim7.holds Tryd.pinned (.plain (OpenSpec.ofChange numsRowSpec)) numsRowCard

/-- THE SECOND FORM's CARD OF 'patchworklaw1.LinesTell'. -/
def linesTellUptoCard : Claim7 := { stood := { row := linesTellUptoRow, standIns := [], harness := (true, "9d0852f8628b79a8481857b44e078573b003590462ad66316da4e236ce48313f"), looks := true }, kinds := [], alts := [], laidByText := true, laidKinds := [.data, .pinned], laidTests := true, laidLooks := .later }
def LinesTellUptoCardSaid : Prop := Claim7.holds Tryd.pinned (.plain (OpenSpec.upto linesTellSpec)) linesTellUptoCard

/-- THE SECOND FORM's CARD OF 'patchworklaw1.LinesBack'. -/
def linesBackUptoCard : Claim7 := { stood := { row := linesBackUptoRow, standIns := [], harness := (true, "9d0852f8628b79a8481857b44e078573b003590462ad66316da4e236ce48313f"), looks := true }, kinds := [], alts := [], laidByText := true, laidKinds := [.data, .pinned], laidTests := true, laidLooks := .later }
def LinesBackUptoCardSaid : Prop := Claim7.holds Tryd.pinned (.plain (OpenSpec.upto linesBackSpec)) linesBackUptoCard

/-- THE SECOND FORM's CARD OF 'patchworklaw1.LinesWhole'. -/
def linesWholeUptoCard : Claim7 := { stood := { row := linesWholeUptoRow, standIns := [], harness := (true, "9d0852f8628b79a8481857b44e078573b003590462ad66316da4e236ce48313f"), looks := true }, kinds := [], alts := [], laidByText := true, laidKinds := [.data, .pinned], laidTests := true, laidLooks := .later }
def LinesWholeUptoCardSaid : Prop := Claim7.holds Tryd.pinned (.plain (OpenSpec.upto linesWholeSpec)) linesWholeUptoCard

/-- THE SECOND FORM's CARD OF 'patchworklaw1.LinesParts'. -/
def linesPartsUptoCard : Claim7 := { stood := { row := linesPartsUptoRow, standIns := [], harness := (true, "9d0852f8628b79a8481857b44e078573b003590462ad66316da4e236ce48313f"), looks := true }, kinds := [], alts := [], laidByText := true, laidKinds := [.data, .pinned], laidTests := true, laidLooks := .later }
def LinesPartsUptoCardSaid : Prop := Claim7.holds Tryd.pinned (.plain (OpenSpec.upto linesPartsSpec)) linesPartsUptoCard

/-- THE SECOND FORM's CARD OF 'patchworklaw1.LinesEach'. -/
def linesEachUptoCard : Claim7 := { stood := { row := linesEachUptoRow, standIns := [], harness := (true, "9d0852f8628b79a8481857b44e078573b003590462ad66316da4e236ce48313f"), looks := true }, kinds := [], alts := [], laidByText := true, laidKinds := [.data, .pinned], laidTests := true, laidLooks := .later }
def LinesEachUptoCardSaid : Prop := Claim7.holds Tryd.pinned (.plain (OpenSpec.upto linesEachSpec)) linesEachUptoCard

/-- THE SECOND FORM's CARD OF 'patchworklaw3.PathsTell'. -/
def pathsTellUptoCard : Claim7 := { stood := { row := pathsTellUptoRow, standIns := [], harness := (true, "9d0852f8628b79a8481857b44e078573b003590462ad66316da4e236ce48313f"), looks := true }, kinds := [], alts := [], laidByText := true, laidKinds := [.data, .pinned], laidTests := true, laidLooks := .later }
def PathsTellUptoCardSaid : Prop := Claim7.holds Tryd.pinned (.plain (OpenSpec.upto pathsTellSpec)) pathsTellUptoCard

/-- THE SECOND FORM's CARD OF 'patchworklaw3.PathsStrip'. -/
def pathsStripUptoCard : Claim7 := { stood := { row := pathsStripUptoRow, standIns := [], harness := (true, "9d0852f8628b79a8481857b44e078573b003590462ad66316da4e236ce48313f"), looks := true }, kinds := [], alts := [], laidByText := true, laidKinds := [.data, .pinned], laidTests := true, laidLooks := .later }
def PathsStripUptoCardSaid : Prop := Claim7.holds Tryd.pinned (.plain (OpenSpec.upto pathsStripSpec)) pathsStripUptoCard

/-- THE SECOND FORM's CARD OF 'patchworklaw3.PathsParts'. -/
def pathsPartsUptoCard : Claim7 := { stood := { row := pathsPartsUptoRow, standIns := [], harness := (true, "9d0852f8628b79a8481857b44e078573b003590462ad66316da4e236ce48313f"), looks := true }, kinds := [], alts := [], laidByText := true, laidKinds := [.data, .pinned], laidTests := true, laidLooks := .later }
def PathsPartsUptoCardSaid : Prop := Claim7.holds Tryd.pinned (.plain (OpenSpec.upto pathsPartsSpec)) pathsPartsUptoCard

/-- THE SECOND FORM's CARD OF 'patchworklaw3.PathsEach'. -/
def pathsEachUptoCard : Claim7 := { stood := { row := pathsEachUptoRow, standIns := [], harness := (true, "9d0852f8628b79a8481857b44e078573b003590462ad66316da4e236ce48313f"), looks := true }, kinds := [], alts := [], laidByText := true, laidKinds := [.data, .pinned], laidTests := true, laidLooks := .later }
def PathsEachUptoCardSaid : Prop := Claim7.holds Tryd.pinned (.plain (OpenSpec.upto pathsEachSpec)) pathsEachUptoCard

/-- THE SECOND FORM's CARD OF 'patchworklaw2.NumsBack'. -/
def numsBackUptoCard : Claim7 := { stood := { row := numsBackUptoRow, standIns := [], harness := (true, "9d0852f8628b79a8481857b44e078573b003590462ad66316da4e236ce48313f"), looks := true }, kinds := [], alts := [], laidByText := true, laidKinds := [.data, .data, .data, .data, .sentinel, .sentinel, .pinned], laidTests := true, laidLooks := .later }
def NumsBackUptoCardSaid : Prop := Claim7.holds Tryd.pinned (.plain (OpenSpec.upto numsBackSpec)) numsBackUptoCard

/-- THE SECOND FORM's CARD OF 'patchworklaw2.NumsWrong'. -/
def numsWrongUptoCard : Claim7 := { stood := { row := numsWrongUptoRow, standIns := [], harness := (true, "9d0852f8628b79a8481857b44e078573b003590462ad66316da4e236ce48313f"), looks := true }, kinds := [], alts := [], laidByText := true, laidKinds := [.data, .data, .data, .data, .sentinel, .sentinel, .pinned], laidTests := true, laidLooks := .later }
def NumsWrongUptoCardSaid : Prop := Claim7.holds Tryd.pinned (.plain (OpenSpec.upto numsWrongSpec)) numsWrongUptoCard

/-- THE SECOND FORM's CARD OF 'patchworklaw2.NumsRow'. -/
def numsRowUptoCard : Claim7 := { stood := { row := numsRowUptoRow, standIns := [], harness := (true, "9d0852f8628b79a8481857b44e078573b003590462ad66316da4e236ce48313f"), looks := true }, kinds := [], alts := [], laidByText := true, laidKinds := [.data, .data, .data, .data, .sentinel, .sentinel, .pinned], laidTests := true, laidLooks := .later }
def NumsRowUptoCardSaid : Prop := Claim7.holds Tryd.pinned (.plain (OpenSpec.upto numsRowSpec)) numsRowUptoCard
end Rows
end Go.Proofs.YthngeddaeoeimaaDoor
