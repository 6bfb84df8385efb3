/-
  DERIVED. GIVEN WITH THE SEED: THE CARDS: each row of YtejefeepemimdaaGreatDoorRows.lean that lists a variable, with what it lists TIED to the program's text (the seventh form; the later family's looks); each row that meets fmt, with fmt's text TOLD by the authors' own Lean function (tested against real Go, not proved from fmt's source: count such statements apart). THE CARD IS WHAT COUNTS. Prove the row's statement (the work); the ties are given (YtejefeepemimdaaGreatDoorTie.lean); close each card by the builder's one call (the guide's Derived/Test/ToyasCard.lean, 'card_holds'). Laid BY PROGRAM, IN A SANDBOX (cutbox-door.mjs). By AI agents, Wed Nov 11 2026. No macro, syntax, notation, axiom, sorry.
-/
import Derived.Test.YtejefeepemimdaaGreatDoorRows
import GoSem.ClaimSeven
namespace Go.Proofs.YtejefeepemimdaaGreatDoor
namespace Rows

/-- THE TIED CARD OF 'hallmarklaw28.InferKnown'. -/
def inferKnownCard : Claim7 := { stood := { row := inferKnownRow, standIns := [], harness := (true, "1c61d551ca5e0775a63066c9921aafb07bd3caaba83f219acd03b5418d9707be"), looks := true }, kinds := [], alts := [], laidByText := true, laidKinds := [.pinned, .data, .data, .data, .data, .data, .data, .sentinel, .sentinel], laidTests := true, laidLooks := .later }
def InferKnownCardSaid : Prop := Claim7.holds Tryz.pinned (.plain (OpenSpec.ofChange inferKnownSpec)) inferKnownCard

/-- THE SECOND FORM's CARD OF 'hallmarklaw28.InferKnown'. -/
def inferKnownUptoCard : Claim7 := { stood := { row := inferKnownUptoRow, standIns := [], harness := (true, "1c61d551ca5e0775a63066c9921aafb07bd3caaba83f219acd03b5418d9707be"), looks := true }, kinds := [], alts := [], laidByText := true, laidKinds := [.pinned, .data, .data, .data, .data, .data, .data, .sentinel, .sentinel], laidTests := true, laidLooks := .later }
def InferKnownUptoCardSaid : Prop := Claim7.holds Tryz.pinned (.plain (OpenSpec.upto inferKnownSpec)) inferKnownUptoCard
end Rows
end Go.Proofs.YtejefeepemimdaaGreatDoor
