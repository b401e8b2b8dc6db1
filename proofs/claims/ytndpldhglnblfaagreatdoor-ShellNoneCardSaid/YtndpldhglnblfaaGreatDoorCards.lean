/-
  DERIVED. GIVEN WITH THE SEED: THE CARDS: each row of YtndpldhglnblfaaGreatDoorRows.lean that lists a variable, with what it lists TIED to the program's text (the seventh form; the later family's looks); each row that meets fmt, with fmt's text TOLD by the authors' own Lean function (tested against real Go, not proved from fmt's source: count such statements apart). THE CARD IS WHAT COUNTS. Prove the row's statement (the work); the ties are given (YtndpldhglnblfaaGreatDoorTie.lean); close each card by the builder's one call (the guide's Derived/Test/ToyasCard.lean, 'card_holds'). Laid BY PROGRAM, IN A SANDBOX (cutbox-door.mjs). By AI agents, Wed Nov 11 2026. No macro, syntax, notation, axiom, sorry.
-/
import Derived.Test.YtndpldhglnblfaaGreatDoorRows
import GoSem.ClaimSeven
namespace Go.Proofs.YtndpldhglnblfaaGreatDoor
namespace Rows

/-- THE TIED CARD OF 'haulagelaw32.ShellNone'. -/
def shellNoneCard : Claim7 := { stood := { row := shellNoneRow, standIns := [], harness := (true, "9af4288fe90b66aaf8a924fbefc298ba8a2407eb38c4ba369626b282b3acc635"), looks := true }, kinds := [], alts := [], laidByText := true, laidKinds := [.data, .data, .data, .pinned, .data], laidTests := true, laidLooks := .later }
def ShellNoneCardSaid : Prop := Claim7.holds Tryz.pinned (.plain (OpenSpec.ofChange shellNoneSpec)) shellNoneCard

/-- THE SECOND FORM's CARD OF 'haulagelaw32.ShellNone'. -/
def shellNoneUptoCard : Claim7 := { stood := { row := shellNoneUptoRow, standIns := [], harness := (true, "9af4288fe90b66aaf8a924fbefc298ba8a2407eb38c4ba369626b282b3acc635"), looks := true }, kinds := [], alts := [], laidByText := true, laidKinds := [.data, .data, .data, .pinned, .data], laidTests := true, laidLooks := .later }
def ShellNoneUptoCardSaid : Prop := Claim7.holds Tryz.pinned (.plain (OpenSpec.upto shellNoneSpec)) shellNoneUptoCard
end Rows
end Go.Proofs.YtndpldhglnblfaaGreatDoor
