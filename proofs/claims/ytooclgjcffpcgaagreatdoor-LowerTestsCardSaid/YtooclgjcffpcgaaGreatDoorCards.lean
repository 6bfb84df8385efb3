/-
  DERIVED. GIVEN WITH THE SEED: THE CARDS: each row of YtooclgjcffpcgaaGreatDoorRows.lean that lists a variable, with what it lists TIED to the program's text (the seventh form; the later family's looks); each row that meets fmt, with fmt's text TOLD by the authors' own Lean function (tested against real Go, not proved from fmt's source: count such statements apart). THE CARD IS WHAT COUNTS. Prove the row's statement (the work); the ties are given (YtooclgjcffpcgaaGreatDoorTie.lean); close each card by the builder's one call (the guide's Derived/Test/ToyasCard.lean, 'card_holds'). Laid BY PROGRAM, IN A SANDBOX (cutbox-door.mjs). By AI agents, Wed Nov 11 2026. No macro, syntax, notation, axiom, sorry.
-/
import Derived.Test.YtooclgjcffpcgaaGreatDoorRows
import GoSem.ClaimSeven
namespace Go.Proofs.YtooclgjcffpcgaaGreatDoor
namespace Rows

/-- THE TIED CARD OF 'hallmarklaw30.LowerTests'. -/
def lowerTestsCard : Claim7 := { stood := { row := lowerTestsRow, standIns := [], harness := (true, "056de992ddc31865cd0d75e5cb82df1af90e74374e7df2bda2158427924ce158"), looks := true }, kinds := [], alts := [], laidByText := true, laidKinds := [.pinned, .data, .data, .data, .data, .data, .sentinel, .sentinel], laidTests := true, laidLooks := .later }
def LowerTestsCardSaid : Prop := Claim7.holds Tryz.pinned (.plain (OpenSpec.ofChange lowerTestsSpec)) lowerTestsCard

/-- THE SECOND FORM's CARD OF 'hallmarklaw30.LowerTests'. -/
def lowerTestsUptoCard : Claim7 := { stood := { row := lowerTestsUptoRow, standIns := [], harness := (true, "056de992ddc31865cd0d75e5cb82df1af90e74374e7df2bda2158427924ce158"), looks := true }, kinds := [], alts := [], laidByText := true, laidKinds := [.pinned, .data, .data, .data, .data, .data, .sentinel, .sentinel], laidTests := true, laidLooks := .later }
def LowerTestsUptoCardSaid : Prop := Claim7.holds Tryz.pinned (.plain (OpenSpec.upto lowerTestsSpec)) lowerTestsUptoCard
end Rows
end Go.Proofs.YtooclgjcffpcgaaGreatDoor
