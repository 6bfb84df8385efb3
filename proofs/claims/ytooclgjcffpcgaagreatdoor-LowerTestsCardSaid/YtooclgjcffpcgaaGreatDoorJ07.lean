/- The row's closed facts, all. Part of the proof that LowerTests returns true for every input that reads as data, its listed variables laid as the text lays them. -/
import Derived.Test.YtooclgjcffpcgaaGreatDoorF03
import Derived.Test.YtooclgjcffpcgaaGreatDoorRows
import Derived.Test.YtooclgjcffpcgaaGreatDoorJ01
import Derived.Test.YtooclgjcffpcgaaGreatDoorJ02
import Derived.Test.YtooclgjcffpcgaaGreatDoorJ03
import Derived.Test.YtooclgjcffpcgaaGreatDoorJ04
import Derived.Test.YtooclgjcffpcgaaGreatDoorJ05
import Derived.Test.YtooclgjcffpcgaaGreatDoorJ06
/- The row's closed facts, all. -/
namespace Go.Proofs.LowJ
open Go Go.Proofs.YtooclgjcffpcgaaGreatDoor
set_option maxRecDepth 100000
theorem two {a b : Bool} (ha : a = true) (hb : b = true) : (a && b) = true := by rw [ha, hb]; rfl
theorem k10 : ((Rows.lowerTestsRow.inPlace == Tryz.prog.inPlace 3)) = true := by rw [LowF.inPlace]; kernel_rfl
theorem k11 : ((Rows.lowerTestsRow.unfollowed == Tryz.prog.unfollowed 3)) = true := by rw [LowF.unfollowed]; kernel_rfl
theorem k12 : ((Rows.lowerTestsRow.recurses == Tryz.prog.recurses 3)) = true := by rw [LowF.recurses]; kernel_rfl
theorem k13 : ((Rows.lowerTestsRow.named == Tryz.prog.varsNamed 3)) = true := by rw [LowF.varsNamed]; kernel_rfl
theorem joined : joinedFacts Tryz.prog 3 Tryz.f3 Rows.lowerTestsSpec Rows.lowerTestsRow = true := (two (two (two (two (two (two (two (two (two (two (two (two (two (two (two (two (two (two (two (two (two (two (two (two (two (two (two (two (two (two (two k1 k2) k3) k4) k5) k6) k7) k8) k9) k10) k11) k12) k13) k14) k15) k16) k17) k17b) k18) k19) k20) k21) k22) k23) k23b) k24) k24b) k24c) k25) k26) k27) k28)
end Go.Proofs.LowJ
