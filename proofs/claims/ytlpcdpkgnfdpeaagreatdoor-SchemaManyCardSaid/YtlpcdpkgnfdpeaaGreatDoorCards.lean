/-
  DERIVED. GIVEN WITH THE SEED: THE CARDS: each row of YtlpcdpkgnfdpeaaGreatDoorRows.lean that lists a variable, with what it lists TIED to the program's text (the seventh form; the later family's looks); each row that meets fmt, with fmt's text TOLD by the authors' own Lean function (tested against real Go, not proved from fmt's source: count such statements apart). THE CARD IS WHAT COUNTS. Prove the row's statement (the work); the ties are given (YtlpcdpkgnfdpeaaGreatDoorTie.lean); close each card by the builder's one call (the guide's Derived/Test/ToyasCard.lean, 'card_holds'). Laid BY PROGRAM, IN A SANDBOX (cutbox-door.mjs). By AI agents, Wed Nov 11 2026. No macro, syntax, notation, axiom, sorry.
-/
import Derived.Test.YtlpcdpkgnfdpeaaGreatDoorRows
import GoSem.ClaimSeven
namespace Go.Proofs.YtlpcdpkgnfdpeaaGreatDoor
namespace Rows

/-- THE TIED CARD OF 'pantilelaw13.SchemaMany'. -/
def schemaManyCard : Claim7 := { stood := { row := schemaManyRow, standIns := [], harness := (true, "0e0e1e38d186bf1665be92e8f06a8977520808dce418f9c5a4550f8abd446a8a"), looks := true }, kinds := [], alts := [], laidByText := true, laidKinds := [.data, .data, .data, .data, .sentinel, .sentinel, .pinned, .pinned], laidTests := true, laidLooks := .later }
def SchemaManyCardSaid : Prop := Claim7.holds Tryz.pinned (.plain (OpenSpec.ofChange schemaManySpec)) schemaManyCard

/-- THE SECOND FORM's CARD OF 'pantilelaw13.SchemaMany'. -/
def schemaManyUptoCard : Claim7 := { stood := { row := schemaManyUptoRow, standIns := [], harness := (true, "0e0e1e38d186bf1665be92e8f06a8977520808dce418f9c5a4550f8abd446a8a"), looks := true }, kinds := [], alts := [], laidByText := true, laidKinds := [.data, .data, .data, .data, .sentinel, .sentinel, .pinned, .pinned], laidTests := true, laidLooks := .later }
def SchemaManyUptoCardSaid : Prop := Claim7.holds Tryz.pinned (.plain (OpenSpec.upto schemaManySpec)) schemaManyUptoCard
end Rows
end Go.Proofs.YtlpcdpkgnfdpeaaGreatDoor
