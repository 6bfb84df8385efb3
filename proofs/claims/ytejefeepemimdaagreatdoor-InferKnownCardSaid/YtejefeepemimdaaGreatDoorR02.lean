/- Known calls, run by the kernel, second part. Part of the proof that InferKnown returns true on every schedule, its listed variables laid as the text lays them. -/
import Derived.Test.YtejefeepemimdaaGreatDoorT03
/- Known calls, run by the kernel, part 1. -/
namespace InferT
noncomputable section
open Go Go.Dee Go.Proofs
set_option maxRecDepth 100000
theorem kr1 (m : Int) : k1.runs 3 3 call1 4 m = true := by kernel_rfl
theorem kr5 (m : Int) : k5.runs 3 3 call1 4 m = true := by kernel_rfl
end
end InferT
