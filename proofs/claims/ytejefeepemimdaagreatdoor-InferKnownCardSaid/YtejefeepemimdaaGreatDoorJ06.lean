/- Closed facts of the row: entering. Part of the proof that InferKnown returns true on every schedule, its listed variables laid as the text lays them. -/
import Derived.Test.YtejefeepemimdaaGreatDoorRows
import Derived.JoinedOf
import Derived.KernelRfl
/- Closed facts of the row. -/
namespace Go.Proofs.ClJ
open Go Go.Proofs.YtejefeepemimdaaGreatDoor
set_option maxRecDepth 100000
theorem k24 : (Tryz.prog.mayEnter) = true := by kernel_rfl
end Go.Proofs.ClJ
