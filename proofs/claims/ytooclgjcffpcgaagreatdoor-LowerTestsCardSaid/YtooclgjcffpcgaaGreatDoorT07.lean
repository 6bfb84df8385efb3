/- What is checked of the functions, third part. Part of the proof that LowerTests returns true for every input that reads as data, its listed variables laid as the text lays them. -/
import Derived.Test.YtooclgjcffpcgaaGreatDoorT02
/- What is checked of the functions, part 2. -/
namespace Go.Proofs.LiveT
noncomputable section
open Go Go.Dee Go.Proofs
set_option maxRecDepth 100000
theorem gl2_ok : allB (fnCheck env 9) gl2 = true := by kernel_rfl
theorem gl6_ok : allB (fnCheck env 9) gl6 = true := by kernel_rfl
theorem gl10_ok : allB (fnCheck env 9) gl10 = true := by kernel_rfl
theorem gl14_ok : allB (fnCheck env 9) gl14 = true := by kernel_rfl
theorem gl18_ok : allB (fnCheck env 9) gl18 = true := by kernel_rfl

end
end Go.Proofs.LiveT
