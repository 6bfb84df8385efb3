/- The row holds. Part of the proof that FastKnown returns true on every schedule, its listed variables laid as the text lays them. -/
import Derived.Test.YtiinfilmfcmicaaGreatDoorRows
import Derived.Test.YtiinfilmfcmicaaGreatDoorF01
import Derived.RowKit
import Derived.Test.YtiinfilmfcmicaaGreatDoorZ07
import Derived.Test.YtiinfilmfcmicaaGreatDoorJ07
/- Closed facts of the row. -/
namespace Go.Proofs.ClZ
open Go Go.Proofs.YtiinfilmfcmicaaGreatDoor
set_option maxRecDepth 100000
theorem named : Tryz.prog.funcNamed Rows.fastKnownRow.func = some 3 := Go.Tab.funcNamed_of ClF.hF (by kernel_rfl)
theorem inst : Tryz.f3.isInstance Tryz.prog Rows.fastKnownRow.origin Rows.fastKnownRow.targs := of_decide_eq_true (by kernel_rfl)
theorem wrap : Tryz.f3.isWrapper Tryz.prog Rows.fastKnownRow.wrapper Rows.fastKnownRow.mainSum := by
  unfold Func.isWrapper; first | (rw [if_pos (by decide +kernel)]; kernel_rfl) | (rw [if_neg (by decide +kernel)]; exact ⟨rfl, rfl⟩)
end Go.Proofs.ClZ
/- FastKnown: the row holds. -/
namespace Go.Proofs.ClZ
open Go.RowKit Go.WideShapes Go.ChangeShapes Go.Proofs.YtiinfilmfcmicaaGreatDoor
set_option maxRecDepth 100000
theorem law_holds : Rows.FastKnownSaid :=
  OpenClaim.holds_of_wide 3 Tryz.f3 rfl rfl rfl rfl rfl rfl rfl ⟨rfl, rfl, rfl, rfl, rfl⟩ rfl rfl rfl rfl rfl named Tryz.func3 ClJ.joined inst wrap
    (fun os started H enc _ => lifted os started H enc)
end Go.Proofs.ClZ
