/- What is checked of the functions, second part. Part of the proof that FastKnown returns true on every schedule, its listed variables laid as the text lays them. -/
import Derived.Test.YtiinfilmfcmicaaGreatDoorT02
/- What is checked of the functions, part 1. -/
namespace FastT
noncomputable section
open Go Go.Dee Go.Proofs
set_option maxRecDepth 100000
theorem gl1_ok : allB (fnCheck env 10) gl1 = true := by kernel_rfl
theorem gl5_ok : allB (fnCheck env 10) gl5 = true := by kernel_rfl
theorem gl9_ok : allB (fnCheck env 10) gl9 = true := by kernel_rfl
theorem gl13_ok : allB (fnCheck env 10) gl13 = true := by kernel_rfl
theorem gl17_ok : allB (fnCheck env 10) gl17 = true := by kernel_rfl
theorem gl21_ok : allB (fnCheck env 10) gl21 = true := by kernel_rfl

end
end FastT
