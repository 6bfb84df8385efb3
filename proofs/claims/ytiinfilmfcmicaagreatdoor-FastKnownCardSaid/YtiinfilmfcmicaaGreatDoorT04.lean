/- What is checked of the types. Part of the proof that FastKnown returns true on every schedule, its listed variables laid as the text lays them. -/
import Derived.Test.YtiinfilmfcmicaaGreatDoorT01
import Derived.KernelRfl
/- What is checked of the types. -/
namespace FastT
noncomputable section
open Go Go.Dee Go.Proofs
set_option maxRecDepth 100000
theorem tt_ok : TTok Tryz.prog env.tt := .of (by kernel_rfl)

end
end FastT
