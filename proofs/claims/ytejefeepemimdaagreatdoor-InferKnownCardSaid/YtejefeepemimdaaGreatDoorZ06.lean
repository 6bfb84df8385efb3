/- The listed interfaces fit. Part of the proof that InferKnown returns true on every schedule, its listed variables laid as the text lays them. -/
import Derived.Test.YtejefeepemimdaaGreatDoorZ01
/- A closed fact of the witness's start. -/
namespace Go.Proofs.ClZ
open Go.RowKit Go.Proofs.YtejefeepemimdaaGreatDoor
set_option maxRecDepth 100000
theorem witness7 (os : Os) : (World.holding Tryz.prog os ⟨#[], #[], []⟩).layIfaces Tryz.prog Rows.inferKnownRow.laid (World.laidAll Tryz.prog os Rows.inferKnownRow.laid) = true := by kernel_rfl
end Go.Proofs.ClZ
