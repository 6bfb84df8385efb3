/- The start's input. Part of the proof that LowerTests returns true for every input that reads as data, its listed variables laid as the text lays them. -/
import Derived.Test.YtooclgjcffpcgaaGreatDoorZ01
/- A closed fact of the witness's start. -/
namespace Go.Proofs.LowZ
open Go.RowKit Go.Proofs.YtooclgjcffpcgaaGreatDoor
set_option maxRecDepth 100000
theorem witness3 (os : Os) : Input.okWideB Tryz.prog (start os) 3 ⟨#[], #[zeroCode], []⟩ = true := by kernel_rfl
end Go.Proofs.LowZ
/- A closed fact of the witness's start. -/
namespace Go.Proofs.LowZ
open Go.RowKit Go.Proofs.YtooclgjcffpcgaaGreatDoor
set_option maxRecDepth 100000
theorem witness4 (H : Type) (enc : TypeId × Value → H) (os : Os) : Rows.lowerTestsSpec.preB enc Tryz.prog Tryz.f3 [] false (start os).memory #[zeroCode] 8 = true := by kernel_rfl
end Go.Proofs.LowZ
/- A closed fact of the witness's start. -/
namespace Go.Proofs.LowZ
open Go.RowKit Go.Proofs.YtooclgjcffpcgaaGreatDoor
set_option maxRecDepth 100000
theorem witness5 (H : Type) (enc : TypeId × Value → H) (os : Os) : Rows.lowerTestsSpec.sizedB enc Tryz.prog Tryz.f3 false (start os).memory #[zeroCode] 8 = true := by kernel_rfl
end Go.Proofs.LowZ
