/- What is checked of the functions, fourth part. Part of the proof that LowerTests returns true for every input that reads as data, its listed variables laid as the text lays them. -/
import Derived.Test.YtooclgjcffpcgaaGreatDoorT02
/- What is checked of the functions, part 3. -/
namespace Go.Proofs.LiveT
noncomputable section
open Go Go.Dee Go.Proofs
set_option maxRecDepth 100000
theorem gl3_ok : allB (fnCheck env 9) gl3 = true := by kernel_rfl
theorem gl7_ok : allB (fnCheck env 9) gl7 = true := by kernel_rfl
theorem gl11_ok : allB (fnCheck env 9) gl11 = true := by kernel_rfl
theorem gl15_ok : allB (fnCheck env 9) gl15 = true := by kernel_rfl

end
end Go.Proofs.LiveT
