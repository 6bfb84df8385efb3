/- What is checked of the functions, fourth part. Part of the proof that FastKnown returns true on every schedule, its listed variables laid as the text lays them. -/
import Derived.Test.YtiinfilmfcmicaaGreatDoorT02
/- What is checked of the functions, part 3. -/
namespace FastT
noncomputable section
open Go Go.Dee Go.Proofs
set_option maxRecDepth 100000
theorem gl3_ok : allB (fnCheck env 10) gl3 = true := by kernel_rfl
theorem gl7_ok : allB (fnCheck env 10) gl7 = true := by kernel_rfl
theorem gl11_ok : allB (fnCheck env 10) gl11 = true := by kernel_rfl
theorem gl15_ok : allB (fnCheck env 10) gl15 = true := by kernel_rfl
theorem gl19_ok : allB (fnCheck env 10) gl19 = true := by kernel_rfl

end
end FastT
