/- The listed interfaces fit. Part of the proof that LowerTests returns true for every input that reads as data, its listed variables laid as the text lays them. -/
import Derived.Test.YtooclgjcffpcgaaGreatDoorZ01
/- A closed fact of the witness's start. -/
namespace Go.Proofs.LowZ
open Go.RowKit Go.Proofs.YtooclgjcffpcgaaGreatDoor
set_option maxRecDepth 100000
theorem witness7 (os : Os) : (World.holding Tryz.prog os ⟨#[], #[], []⟩).layIfaces Tryz.prog Rows.lowerTestsRow.laid (World.laidAll Tryz.prog os Rows.lowerTestsRow.laid) = true := by kernel_rfl
end Go.Proofs.LowZ
