/- The row holds. Part of the proof that LowerTests returns true for every input that reads as data, its listed variables laid as the text lays them. -/
import Derived.Test.YtooclgjcffpcgaaGreatDoorRows
import Derived.Test.YtooclgjcffpcgaaGreatDoorF01
import Derived.RowKit
import Derived.Test.YtooclgjcffpcgaaGreatDoorZ07
import Derived.Test.YtooclgjcffpcgaaGreatDoorJ07
/- Closed facts of the row. -/
namespace Go.Proofs.LowZ
open Go Go.Proofs.YtooclgjcffpcgaaGreatDoor
set_option maxRecDepth 100000
theorem named : Tryz.prog.funcNamed Rows.lowerTestsRow.func = some 3 := Go.Tab.funcNamed_of LowF.hF (by kernel_rfl)
theorem inst : Tryz.f3.isInstance Tryz.prog Rows.lowerTestsRow.origin Rows.lowerTestsRow.targs := of_decide_eq_true (by kernel_rfl)
theorem wrap : Tryz.f3.isWrapper Tryz.prog Rows.lowerTestsRow.wrapper Rows.lowerTestsRow.mainSum := by
  unfold Func.isWrapper; first | (rw [if_pos (by decide +kernel)]; kernel_rfl) | (rw [if_neg (by decide +kernel)]; exact ⟨rfl, rfl⟩)
end Go.Proofs.LowZ
/- LowerTests: the row holds. -/
namespace Go.Proofs.LowZ
open Go.RowKit Go.WideShapes Go.ChangeShapes Go.Proofs.YtooclgjcffpcgaaGreatDoor
set_option maxRecDepth 100000
theorem lowerTests_holds : Rows.LowerTestsSaid :=
  OpenClaim.holds_of_wide 3 Tryz.f3 rfl rfl rfl rfl rfl rfl rfl ⟨rfl, rfl, rfl, rfl, rfl⟩ rfl rfl rfl rfl rfl named Tryz.func3 LowJ.joined inst wrap
    (fun os started H enc _ => lifted os started H enc)
end Go.Proofs.LowZ
