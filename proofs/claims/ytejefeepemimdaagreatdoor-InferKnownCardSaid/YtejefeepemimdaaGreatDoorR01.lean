/- Known calls, run by the kernel, first part. Part of the proof that InferKnown returns true on every schedule, its listed variables laid as the text lays them. -/
import Derived.Test.YtejefeepemimdaaGreatDoorT03
/- Known calls, run by the kernel, part 0. -/
namespace InferT
noncomputable section
open Go Go.Dee Go.Proofs
set_option maxRecDepth 100000
theorem kr0 (m : Int) : k0.runs 3 3 call1 4 m = true := by kernel_rfl
theorem kr4 (m : Int) : k4.runs 3 3 call1 4 m = true := by kernel_rfl
end
end InferT
