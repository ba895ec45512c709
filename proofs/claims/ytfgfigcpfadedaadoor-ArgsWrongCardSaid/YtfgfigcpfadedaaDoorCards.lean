/-
  DERIVED. GIVEN WITH THE SEED: THE CARDS: each row of YtfgfigcpfadedaaDoorRows.lean that lists a variable, with what it lists TIED to the program's text (the seventh form; the later family's looks); each row that meets fmt, with fmt's text TOLD by the authors' own Lean function (tested against real Go, not proved from fmt's source: count such statements apart). THE CARD IS WHAT COUNTS. Prove the row's statement (the work); the ties are given (YtfgfigcpfadedaaDoorTie.lean); close each card by the builder's one call (the guide's Derived/Test/ToyasCard.lean, 'card_holds'). Laid BY PROGRAM, IN A SANDBOX (cutbox-door.mjs). By AI agents, Wed Nov 11 2026. No macro, syntax, notation, axiom, sorry.
-/
import Derived.Test.YtfgfigcpfadedaaDoorRows
import GoSem.ClaimSeven
namespace Go.Proofs.YtfgfigcpfadedaaDoor
namespace Rows

/-- THE TIED CARD OF 'patchworklaw26.ArgsOrder'. -/
def argsOrderCard : Claim7 := { stood := { row := argsOrderRow, standIns := [], harness := (true, "159af74db2535710ea853e84385ecc2663c4e71247c869bde91156856dea0e9b"), looks := true }, kinds := [], alts := [], laidByText := true, laidKinds := [.data, .data, .data, .data, .sentinel, .sentinel, .listed, .data, .pinned], laidTests := true, laidLooks := .later }
def ArgsOrderCardSaid : Prop := Claim7.holds Tryd.pinned (.plain (OpenSpec.ofChange argsOrderSpec)) argsOrderCard

/-- THE TIED CARD OF 'patchworklaw26.ArgsWrong'. -/
def argsWrongCard : Claim7 := { stood := { row := argsWrongRow, standIns := [], harness := (true, "159af74db2535710ea853e84385ecc2663c4e71247c869bde91156856dea0e9b"), looks := true }, kinds := [], alts := [], laidByText := true, laidKinds := [.data, .data, .data, .data, .sentinel, .sentinel, .listed, .data, .pinned], laidTests := true, laidLooks := .later }
def ArgsWrongCardSaid : Prop := Claim7.holds Tryd.pinned (.plain (OpenSpec.ofChange argsWrongSpec)) argsWrongCard

/-- THE TIED CARD OF 'patchworklaw26.ArgsInputs'. -/
def argsInputsCard : Claim7 := { stood := { row := argsInputsRow, standIns := [], harness := (true, "159af74db2535710ea853e84385ecc2663c4e71247c869bde91156856dea0e9b"), looks := true }, kinds := [], alts := [], laidByText := true, laidKinds := [.data, .data, .data, .data, .sentinel, .sentinel, .listed, .data, .pinned], laidTests := true, laidLooks := .later }
def ArgsInputsCardSaid : Prop := Claim7.holds Tryd.pinned (.plain (OpenSpec.ofChange argsInputsSpec)) argsInputsCard

/-- THE SECOND FORM's CARD OF 'patchworklaw26.ArgsOrder'. -/
def argsOrderUptoCard : Claim7 := { stood := { row := argsOrderUptoRow, standIns := [], harness := (true, "159af74db2535710ea853e84385ecc2663c4e71247c869bde91156856dea0e9b"), looks := true }, kinds := [], alts := [], laidByText := true, laidKinds := [.data, .data, .data, .data, .sentinel, .sentinel, .listed, .data, .pinned], laidTests := true, laidLooks := .later }
def ArgsOrderUptoCardSaid : Prop := Claim7.holds Tryd.pinned (.plain (OpenSpec.upto argsOrderSpec)) argsOrderUptoCard

/-- THE SECOND FORM's CARD OF 'patchworklaw26.ArgsWrong'. -/
def argsWrongUptoCard : Claim7 := { stood := { row := argsWrongUptoRow, standIns := [], harness := (true, "159af74db2535710ea853e84385ecc2663c4e71247c869bde91156856dea0e9b"), looks := true }, kinds := [], alts := [], laidByText := true, laidKinds := [.data, .data, .data, .data, .sentinel, .sentinel, .listed, .data, .pinned], laidTests := true, laidLooks := .later }
def ArgsWrongUptoCardSaid : Prop := Claim7.holds Tryd.pinned (.plain (OpenSpec.upto argsWrongSpec)) argsWrongUptoCard

/-- THE SECOND FORM's CARD OF 'patchworklaw26.ArgsInputs'. -/
def argsInputsUptoCard : Claim7 := { stood := { row := argsInputsUptoRow, standIns := [], harness := (true, "159af74db2535710ea853e84385ecc2663c4e71247c869bde91156856dea0e9b"), looks := true }, kinds := [], alts := [], laidByText := true, laidKinds := [.data, .data, .data, .data, .sentinel, .sentinel, .listed, .data, .pinned], laidTests := true, laidLooks := .later }
def ArgsInputsUptoCardSaid : Prop := Claim7.holds Tryd.pinned (.plain (OpenSpec.upto argsInputsSpec)) argsInputsUptoCard
end Rows
end Go.Proofs.YtfgfigcpfadedaaDoor
