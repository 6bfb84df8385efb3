/- What is checked of the types. Part of the proof that LowerTests returns true for every input that reads as data, its listed variables laid as the text lays them. -/
import Derived.Test.YtooclgjcffpcgaaGreatDoorT01
import Derived.KernelRfl
/- What is checked of the types. -/
namespace Go.Proofs.LiveT
noncomputable section
open Go Go.Dee Go.Proofs
set_option maxRecDepth 100000
theorem tt_ok : TTok Tryz.prog env.tt := .of (by kernel_rfl)

end
end Go.Proofs.LiveT
