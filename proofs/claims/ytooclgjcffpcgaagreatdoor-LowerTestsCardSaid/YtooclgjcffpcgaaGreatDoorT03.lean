/- The closed call, run by the kernel. Part of the proof that LowerTests returns true for every input that reads as data, its listed variables laid as the text lays them. -/
import Derived.Test.YtooclgjcffpcgaaGreatDoorT01
import Derived.KernelRfl
/- The closed call, run by the kernel. -/
namespace Go.Proofs.LiveT
noncomputable section
open Go Go.Dee Go.Proofs
theorem run : endTrue (callN env 200 4 [] (Go.Dee.start 9)) = true := by kernel_rfl

end
end Go.Proofs.LiveT
