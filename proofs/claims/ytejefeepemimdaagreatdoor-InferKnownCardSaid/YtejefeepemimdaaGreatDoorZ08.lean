/- The row holds. Part of the proof that InferKnown returns true on every schedule, its listed variables laid as the text lays them. -/
import Derived.Test.YtejefeepemimdaaGreatDoorRows
import Derived.Test.YtejefeepemimdaaGreatDoorF01
import Derived.RowKit
import Derived.Test.YtejefeepemimdaaGreatDoorZ07
import Derived.Test.YtejefeepemimdaaGreatDoorJ07
/- Closed facts of the row. -/
namespace Go.Proofs.ClZ
open Go Go.Proofs.YtejefeepemimdaaGreatDoor
set_option maxRecDepth 100000
theorem named : Tryz.prog.funcNamed Rows.inferKnownRow.func = some 3 := Go.Tab.funcNamed_of ClF.hF (by kernel_rfl)
theorem inst : Tryz.f3.isInstance Tryz.prog Rows.inferKnownRow.origin Rows.inferKnownRow.targs := of_decide_eq_true (by kernel_rfl)
theorem wrap : Tryz.f3.isWrapper Tryz.prog Rows.inferKnownRow.wrapper Rows.inferKnownRow.mainSum := by
  unfold Func.isWrapper; first | (rw [if_pos (by decide +kernel)]; kernel_rfl) | (rw [if_neg (by decide +kernel)]; exact ⟨rfl, rfl⟩)
end Go.Proofs.ClZ
/- InferKnown: the row holds. -/
namespace Go.Proofs.ClZ
open Go.RowKit Go.WideShapes Go.ChangeShapes Go.Proofs.YtejefeepemimdaaGreatDoor
set_option maxRecDepth 100000
theorem law_holds : Rows.InferKnownSaid :=
  OpenClaim.holds_of_wide 3 Tryz.f3 rfl rfl rfl rfl rfl rfl rfl ⟨rfl, rfl, rfl, rfl, rfl⟩ rfl rfl rfl rfl rfl named Tryz.func3 ClJ.joined inst wrap
    (fun os started H enc _ => lifted os started H enc)
end Go.Proofs.ClZ
