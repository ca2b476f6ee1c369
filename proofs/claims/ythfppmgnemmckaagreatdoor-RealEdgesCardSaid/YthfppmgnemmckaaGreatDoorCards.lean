/-
  DERIVED. GIVEN WITH THE SEED: THE CARDS: each row of YthfppmgnemmckaaGreatDoorRows.lean that lists a variable, with what it lists TIED to the program's text (the seventh form; the later family's looks); each row that meets fmt, with fmt's text TOLD by the authors' own Lean function (tested against real Go, not proved from fmt's source: count such statements apart). THE CARD IS WHAT COUNTS. Prove the row's statement (the work); the ties are given (YthfppmgnemmckaaGreatDoorTie.lean); close each card by the builder's one call (the guide's Derived/Test/ToyasCard.lean, 'card_holds'). Laid BY PROGRAM, IN A SANDBOX (cutbox-door.mjs). By AI agents, Wed Nov 11 2026. No macro, syntax, notation, axiom, sorry.
-/
import Derived.Test.YthfppmgnemmckaaGreatDoorRows
import GoSem.ClaimSeven
namespace Go.Proofs.YthfppmgnemmckaaGreatDoor
namespace Rows

/-- THE TIED CARD OF 'solderlaw02.RealDoes'. -/
def realDoesCard : Claim7 := { stood := { row := realDoesRow, standIns := [], harness := (true, "631c723c6cdb0162ac7b6c126f0f1e1f85c9a083a104f5da6dbf2edf80c7d88d"), looks := true }, kinds := [], alts := [], laidByText := true, laidKinds := [.data, .data, .widerDeep, .widerDeep, .data, .data, .data, .data, .data, .data, .sentinel, .sentinel, .pinned, .pinned, .pinned], laidTests := true, laidLooks := .later }
def RealDoesCardSaid : Prop := Claim7.holds Tryz.pinned (.plain (OpenSpec.ofChange realDoesSpec)) realDoesCard

/-- THE TIED CARD OF 'solderlaw02.RealEdges'. -/
def realEdgesCard : Claim7 := { stood := { row := realEdgesRow, standIns := [], harness := (true, "631c723c6cdb0162ac7b6c126f0f1e1f85c9a083a104f5da6dbf2edf80c7d88d"), looks := true }, kinds := [], alts := [], laidByText := true, laidKinds := [.data, .data, .widerDeep, .widerDeep, .data, .data, .data, .data, .data, .data, .sentinel, .sentinel, .pinned, .pinned, .pinned], laidTests := true, laidLooks := .later }
def RealEdgesCardSaid : Prop := Claim7.holds Tryz.pinned (.plain (OpenSpec.ofChange realEdgesSpec)) realEdgesCard

/-- THE SECOND FORM's CARD OF 'solderlaw02.RealDoes'. -/
def realDoesUptoCard : Claim7 := { stood := { row := realDoesUptoRow, standIns := [], harness := (true, "631c723c6cdb0162ac7b6c126f0f1e1f85c9a083a104f5da6dbf2edf80c7d88d"), looks := true }, kinds := [], alts := [], laidByText := true, laidKinds := [.data, .data, .widerDeep, .widerDeep, .data, .data, .data, .data, .data, .data, .sentinel, .sentinel, .pinned, .pinned, .pinned], laidTests := true, laidLooks := .later }
def RealDoesUptoCardSaid : Prop := Claim7.holds Tryz.pinned (.plain (OpenSpec.upto realDoesSpec)) realDoesUptoCard

/-- THE SECOND FORM's CARD OF 'solderlaw02.RealEdges'. -/
def realEdgesUptoCard : Claim7 := { stood := { row := realEdgesUptoRow, standIns := [], harness := (true, "631c723c6cdb0162ac7b6c126f0f1e1f85c9a083a104f5da6dbf2edf80c7d88d"), looks := true }, kinds := [], alts := [], laidByText := true, laidKinds := [.data, .data, .widerDeep, .widerDeep, .data, .data, .data, .data, .data, .data, .sentinel, .sentinel, .pinned, .pinned, .pinned], laidTests := true, laidLooks := .later }
def RealEdgesUptoCardSaid : Prop := Claim7.holds Tryz.pinned (.plain (OpenSpec.upto realEdgesSpec)) realEdgesUptoCard
end Rows
end Go.Proofs.YthfppmgnemmckaaGreatDoor
