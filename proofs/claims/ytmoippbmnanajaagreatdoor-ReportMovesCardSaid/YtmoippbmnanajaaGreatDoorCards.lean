/-
  DERIVED. GIVEN WITH THE SEED: THE CARDS: each row of YtmoippbmnanajaaGreatDoorRows.lean that lists a variable, with what it lists TIED to the program's text (the seventh form; the later family's looks); each row that meets fmt, with fmt's text TOLD by the authors' own Lean function (tested against real Go, not proved from fmt's source: count such statements apart). THE CARD IS WHAT COUNTS. Prove the row's statement (the work); the ties are given (YtmoippbmnanajaaGreatDoorTie.lean); close each card by the builder's one call (the guide's Derived/Test/ToyasCard.lean, 'card_holds'). Laid BY PROGRAM, IN A SANDBOX (cutbox-door.mjs). By AI agents, Wed Nov 11 2026. No macro, syntax, notation, axiom, sorry.
-/
import Derived.Test.YtmoippbmnanajaaGreatDoorRows
import GoSem.ClaimSeven
namespace Go.Proofs.YtmoippbmnanajaaGreatDoor
namespace Rows

/-- THE TIED CARD OF 'pantilelaw25.ReportTables'. -/
def reportTablesCard : Claim7 := { stood := { row := reportTablesRow, standIns := [], harness := (true, "97d52febeeeef96ca09fdf065496535af6c7ee8b3d59b047f7e4f6edb67f8c46"), looks := true }, kinds := [], alts := [], laidByText := true, laidKinds := [.data, .data, .data, .data, .sentinel, .sentinel, .pinned], laidTests := true, laidLooks := .later }
def ReportTablesCardSaid : Prop := Claim7.holds Tryz.pinned (.plain (OpenSpec.ofChange reportTablesSpec)) reportTablesCard

/-- THE TIED CARD OF 'pantilelaw25.ReportBack'. -/
def reportBackCard : Claim7 := { stood := { row := reportBackRow, standIns := [], harness := (true, "97d52febeeeef96ca09fdf065496535af6c7ee8b3d59b047f7e4f6edb67f8c46"), looks := true }, kinds := [], alts := [], laidByText := true, laidKinds := [.data, .data, .data, .data, .sentinel, .sentinel, .pinned], laidTests := true, laidLooks := .later }
def ReportBackCardSaid : Prop := Claim7.holds Tryz.pinned (.plain (OpenSpec.ofChange reportBackSpec)) reportBackCard

/-- THE TIED CARD OF 'pantilelaw25.ReportReads'. -/
def reportReadsCard : Claim7 := { stood := { row := reportReadsRow, standIns := [], harness := (true, "97d52febeeeef96ca09fdf065496535af6c7ee8b3d59b047f7e4f6edb67f8c46"), looks := true }, kinds := [], alts := [], laidByText := true, laidKinds := [.data, .data, .data, .data, .sentinel, .sentinel, .pinned], laidTests := true, laidLooks := .later }
def ReportReadsCardSaid : Prop := Claim7.holds Tryz.pinned (.plain (OpenSpec.ofChange reportReadsSpec)) reportReadsCard

/-- THE TIED CARD OF 'pantilelaw25.ReportWide'. -/
def reportWideCard : Claim7 := { stood := { row := reportWideRow, standIns := [], harness := (true, "97d52febeeeef96ca09fdf065496535af6c7ee8b3d59b047f7e4f6edb67f8c46"), looks := true }, kinds := [], alts := [], laidByText := true, laidKinds := [.data, .data, .data, .data, .sentinel, .sentinel, .pinned], laidTests := true, laidLooks := .later }
def ReportWideCardSaid : Prop := Claim7.holds Tryz.pinned (.plain (OpenSpec.ofChange reportWideSpec)) reportWideCard

/-- THE TIED CARD OF 'pantilelaw25.ReportMoves'. -/
def reportMovesCard : Claim7 := { stood := { row := reportMovesRow, standIns := [], harness := (true, "97d52febeeeef96ca09fdf065496535af6c7ee8b3d59b047f7e4f6edb67f8c46"), looks := true }, kinds := [], alts := [], laidByText := true, laidKinds := [.data, .data, .data, .data, .sentinel, .sentinel, .pinned], laidTests := true, laidLooks := .later }
def ReportMovesCardSaid : Prop := Claim7.holds Tryz.pinned (.plain (OpenSpec.ofChange reportMovesSpec)) reportMovesCard

/-- THE SECOND FORM's CARD OF 'pantilelaw25.ReportTables'. -/
def reportTablesUptoCard : Claim7 := { stood := { row := reportTablesUptoRow, standIns := [], harness := (true, "97d52febeeeef96ca09fdf065496535af6c7ee8b3d59b047f7e4f6edb67f8c46"), looks := true }, kinds := [], alts := [], laidByText := true, laidKinds := [.data, .data, .data, .data, .sentinel, .sentinel, .pinned], laidTests := true, laidLooks := .later }
def ReportTablesUptoCardSaid : Prop := Claim7.holds Tryz.pinned (.plain (OpenSpec.upto reportTablesSpec)) reportTablesUptoCard

/-- THE SECOND FORM's CARD OF 'pantilelaw25.ReportBack'. -/
def reportBackUptoCard : Claim7 := { stood := { row := reportBackUptoRow, standIns := [], harness := (true, "97d52febeeeef96ca09fdf065496535af6c7ee8b3d59b047f7e4f6edb67f8c46"), looks := true }, kinds := [], alts := [], laidByText := true, laidKinds := [.data, .data, .data, .data, .sentinel, .sentinel, .pinned], laidTests := true, laidLooks := .later }
def ReportBackUptoCardSaid : Prop := Claim7.holds Tryz.pinned (.plain (OpenSpec.upto reportBackSpec)) reportBackUptoCard

/-- THE SECOND FORM's CARD OF 'pantilelaw25.ReportReads'. -/
def reportReadsUptoCard : Claim7 := { stood := { row := reportReadsUptoRow, standIns := [], harness := (true, "97d52febeeeef96ca09fdf065496535af6c7ee8b3d59b047f7e4f6edb67f8c46"), looks := true }, kinds := [], alts := [], laidByText := true, laidKinds := [.data, .data, .data, .data, .sentinel, .sentinel, .pinned], laidTests := true, laidLooks := .later }
def ReportReadsUptoCardSaid : Prop := Claim7.holds Tryz.pinned (.plain (OpenSpec.upto reportReadsSpec)) reportReadsUptoCard

/-- THE SECOND FORM's CARD OF 'pantilelaw25.ReportWide'. -/
def reportWideUptoCard : Claim7 := { stood := { row := reportWideUptoRow, standIns := [], harness := (true, "97d52febeeeef96ca09fdf065496535af6c7ee8b3d59b047f7e4f6edb67f8c46"), looks := true }, kinds := [], alts := [], laidByText := true, laidKinds := [.data, .data, .data, .data, .sentinel, .sentinel, .pinned], laidTests := true, laidLooks := .later }
def ReportWideUptoCardSaid : Prop := Claim7.holds Tryz.pinned (.plain (OpenSpec.upto reportWideSpec)) reportWideUptoCard

/-- THE SECOND FORM's CARD OF 'pantilelaw25.ReportMoves'. -/
def reportMovesUptoCard : Claim7 := { stood := { row := reportMovesUptoRow, standIns := [], harness := (true, "97d52febeeeef96ca09fdf065496535af6c7ee8b3d59b047f7e4f6edb67f8c46"), looks := true }, kinds := [], alts := [], laidByText := true, laidKinds := [.data, .data, .data, .data, .sentinel, .sentinel, .pinned], laidTests := true, laidLooks := .later }
def ReportMovesUptoCardSaid : Prop := Claim7.holds Tryz.pinned (.plain (OpenSpec.upto reportMovesSpec)) reportMovesUptoCard
end Rows
end Go.Proofs.YtmoippbmnanajaaGreatDoor
