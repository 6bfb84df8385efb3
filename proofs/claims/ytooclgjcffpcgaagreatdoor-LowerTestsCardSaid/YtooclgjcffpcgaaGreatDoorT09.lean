/- The closed guard answers true in every world and on every schedule. Part of the proof that LowerTests returns true for every input that reads as data, its listed variables laid as the text lays them. -/
import Derived.Test.YtooclgjcffpcgaaGreatDoorT05
import Derived.Test.YtooclgjcffpcgaaGreatDoorT06
import Derived.Test.YtooclgjcffpcgaaGreatDoorT07
import Derived.Test.YtooclgjcffpcgaaGreatDoorT08
import Derived.Test.YtooclgjcffpcgaaGreatDoorT02
import Derived.Test.YtooclgjcffpcgaaGreatDoorT03
import Derived.Test.YtooclgjcffpcgaaGreatDoorT04
/- What is checked of the functions. -/
namespace Go.Proofs.LiveT
noncomputable section
open Go Go.Dee Go.Proofs
theorem gl_ok : ∀ p ∈ gl, fnCheck env 9 p = true := app_ok (allB_iff.1 gl0_ok) (app_ok (allB_iff.1 gl1_ok) (app_ok (allB_iff.1 gl2_ok) (app_ok (allB_iff.1 gl3_ok) (app_ok (allB_iff.1 gl4_ok) (app_ok (allB_iff.1 gl5_ok) (app_ok (allB_iff.1 gl6_ok) (app_ok (allB_iff.1 gl7_ok) (app_ok (allB_iff.1 gl8_ok) (app_ok (allB_iff.1 gl9_ok) (app_ok (allB_iff.1 gl10_ok) (app_ok (allB_iff.1 gl11_ok) (app_ok (allB_iff.1 gl12_ok) (app_ok (allB_iff.1 gl13_ok) (app_ok (allB_iff.1 gl14_ok) (app_ok (allB_iff.1 gl15_ok) (app_ok (allB_iff.1 gl16_ok) (app_ok (allB_iff.1 gl17_ok) (allB_iff.1 gl18_ok))))))))))))))))))
theorem ft_ok : FTok Tryz.prog env 9 := .of gl gl_at ft_eq gl_ok

end
end Go.Proofs.LiveT
/- The closed guard: it answers true, in every world and on every schedule, and turns nothing that was there. -/
namespace Go.Proofs.LiveT
open Go Go.Dee Go.Proofs
theorem mixed : Tryz.prog.follows .mixedOrders = true := by kernel_rfl
theorem lives (w : World) : Calls Tryz.prog 4 #[] w fun
    | .returned v, w' => v = .bool true ∧ Go.RowKit.Below w.heap.size w w'
    | _, _ => False := closed tt_ok ext_ok ft_ok mixed (by decide) run w
end Go.Proofs.LiveT
