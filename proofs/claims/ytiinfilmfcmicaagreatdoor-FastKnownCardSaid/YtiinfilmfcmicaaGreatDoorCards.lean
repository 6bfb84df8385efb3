/-
  DERIVED. GIVEN WITH THE SEED: THE CARDS: each row of YtiinfilmfcmicaaGreatDoorRows.lean that lists a variable, with what it lists TIED to the program's text (the seventh form; the later family's looks); each row that meets fmt, with fmt's text TOLD by the authors' own Lean function (tested against real Go, not proved from fmt's source: count such statements apart). THE CARD IS WHAT COUNTS. Prove the row's statement (the work); the ties are given (YtiinfilmfcmicaaGreatDoorTie.lean); close each card by the builder's one call (the guide's Derived/Test/ToyasCard.lean, 'card_holds'). Laid BY PROGRAM, IN A SANDBOX (cutbox-door.mjs). By AI agents, Wed Nov 11 2026. No macro, syntax, notation, axiom, sorry.
-/
import Derived.Test.YtiinfilmfcmicaaGreatDoorRows
import GoSem.ClaimSeven
namespace Go.Proofs.YtiinfilmfcmicaaGreatDoor
namespace Rows

/-- THE TIED CARD OF 'hallmarklaw31.FastKnown'. -/
def fastKnownCard : Claim7 := { stood := { row := fastKnownRow, standIns := [], harness := (true, "aad3c8a64e741520d28b53b8edbe0968d27bf8225ab676100fa35815aa27f2d5"), looks := true }, kinds := [], alts := [], laidByText := true, laidKinds := [.data, .data, .data, .data, .sentinel, .sentinel, .data, .data, .pinned], laidTests := true, laidLooks := .later }
def FastKnownCardSaid : Prop := Claim7.holds Tryz.pinned (.plain (OpenSpec.ofChange fastKnownSpec)) fastKnownCard

/-- THE SECOND FORM's CARD OF 'hallmarklaw31.FastKnown'. -/
def fastKnownUptoCard : Claim7 := { stood := { row := fastKnownUptoRow, standIns := [], harness := (true, "aad3c8a64e741520d28b53b8edbe0968d27bf8225ab676100fa35815aa27f2d5"), looks := true }, kinds := [], alts := [], laidByText := true, laidKinds := [.data, .data, .data, .data, .sentinel, .sentinel, .data, .data, .pinned], laidTests := true, laidLooks := .later }
def FastKnownUptoCardSaid : Prop := Claim7.holds Tryz.pinned (.plain (OpenSpec.upto fastKnownSpec)) fastKnownUptoCard
end Rows
end Go.Proofs.YtiinfilmfcmicaaGreatDoor
