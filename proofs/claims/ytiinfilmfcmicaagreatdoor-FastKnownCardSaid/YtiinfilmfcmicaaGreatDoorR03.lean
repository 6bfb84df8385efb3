/- Known calls, run by the kernel, third part. Part of the proof that FastKnown returns true on every schedule, its listed variables laid as the text lays them. -/
import Derived.Test.YtiinfilmfcmicaaGreatDoorT03
/- Known calls, run by the kernel, part 2. -/
namespace FastT
noncomputable section
open Go Go.Dee Go.Proofs
set_option maxRecDepth 100000
theorem kr2 (m : Int) : k2.runs 3 3 call1 6 m = true := by kernel_rfl
end
end FastT
