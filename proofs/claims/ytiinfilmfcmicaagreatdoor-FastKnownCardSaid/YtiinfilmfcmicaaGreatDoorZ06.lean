/- The listed interfaces fit. Part of the proof that FastKnown returns true on every schedule, its listed variables laid as the text lays them. -/
import Derived.Test.YtiinfilmfcmicaaGreatDoorZ01
/- A closed fact of the witness's start. -/
namespace Go.Proofs.ClZ
open Go.RowKit Go.Proofs.YtiinfilmfcmicaaGreatDoor
set_option maxRecDepth 100000
theorem witness7 (os : Os) : (World.holding Tryz.prog os ⟨#[], #[], []⟩).layIfaces Tryz.prog Rows.fastKnownRow.laid (World.laidAll Tryz.prog os Rows.fastKnownRow.laid) = true := by kernel_rfl
end Go.Proofs.ClZ
