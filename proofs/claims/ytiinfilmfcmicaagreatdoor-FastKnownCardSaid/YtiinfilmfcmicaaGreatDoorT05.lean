/- What is checked of the functions, first part. Part of the proof that FastKnown returns true on every schedule, its listed variables laid as the text lays them. -/
import Derived.Test.YtiinfilmfcmicaaGreatDoorT02
/- What is checked of the functions, part 0. -/
namespace FastT
noncomputable section
open Go Go.Dee Go.Proofs
set_option maxRecDepth 100000
theorem gl0_ok : allB (fnCheck env 10) gl0 = true := by kernel_rfl
theorem gl4_ok : allB (fnCheck env 10) gl4 = true := by kernel_rfl
theorem gl8_ok : allB (fnCheck env 10) gl8 = true := by kernel_rfl
theorem gl12_ok : allB (fnCheck env 10) gl12 = true := by kernel_rfl
theorem gl16_ok : allB (fnCheck env 10) gl16 = true := by kernel_rfl
theorem gl20_ok : allB (fnCheck env 10) gl20 = true := by kernel_rfl

end
end FastT
