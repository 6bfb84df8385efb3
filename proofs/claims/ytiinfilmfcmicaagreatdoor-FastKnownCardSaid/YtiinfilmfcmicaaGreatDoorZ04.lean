/- The start's input. Part of the proof that FastKnown returns true on every schedule, its listed variables laid as the text lays them. -/
import Derived.Test.YtiinfilmfcmicaaGreatDoorZ01
/- A closed fact of the witness's start. -/
namespace Go.Proofs.ClZ
open Go.RowKit Go.Proofs.YtiinfilmfcmicaaGreatDoor
set_option maxRecDepth 100000
theorem witness3 (os : Os) : Input.okWideB Tryz.prog (start os) 3 ⟨#[], #[], []⟩ = true := by kernel_rfl
end Go.Proofs.ClZ
/- A closed fact of the witness's start. -/
namespace Go.Proofs.ClZ
open Go.RowKit Go.Proofs.YtiinfilmfcmicaaGreatDoor
set_option maxRecDepth 100000
theorem witness4 (H : Type) (enc : TypeId × Value → H) (os : Os) : Rows.fastKnownSpec.preB enc Tryz.prog Tryz.f3 [] false (start os).memory #[] 8 = true := by kernel_rfl
end Go.Proofs.ClZ
/- A closed fact of the witness's start. -/
namespace Go.Proofs.ClZ
open Go.RowKit Go.Proofs.YtiinfilmfcmicaaGreatDoor
set_option maxRecDepth 100000
theorem witness5 (H : Type) (enc : TypeId × Value → H) (os : Os) : Rows.fastKnownSpec.sizedB enc Tryz.prog Tryz.f3 false (start os).memory #[] 8 = true := by kernel_rfl
end Go.Proofs.ClZ
