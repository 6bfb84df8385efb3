/- What is checked of the functions, third part. Part of the proof that FastKnown returns true on every schedule, its listed variables laid as the text lays them. -/
import Derived.Test.YtiinfilmfcmicaaGreatDoorT02
/- What is checked of the functions, part 2. -/
namespace FastT
noncomputable section
open Go Go.Dee Go.Proofs
set_option maxRecDepth 100000
theorem gl2_ok : allB (fnCheck env 10) gl2 = true := by kernel_rfl
theorem gl6_ok : allB (fnCheck env 10) gl6 = true := by kernel_rfl
theorem gl10_ok : allB (fnCheck env 10) gl10 = true := by kernel_rfl
theorem gl14_ok : allB (fnCheck env 10) gl14 = true := by kernel_rfl
theorem gl18_ok : allB (fnCheck env 10) gl18 = true := by kernel_rfl
theorem gl22_ok : allB (fnCheck env 10) gl22 = true := by kernel_rfl

end
end FastT
