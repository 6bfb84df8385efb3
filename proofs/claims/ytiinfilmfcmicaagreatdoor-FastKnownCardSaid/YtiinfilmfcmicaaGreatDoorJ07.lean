/- The row's closed facts, all. Part of the proof that FastKnown returns true on every schedule, its listed variables laid as the text lays them. -/
import Derived.Test.YtiinfilmfcmicaaGreatDoorF03
import Derived.Test.YtiinfilmfcmicaaGreatDoorRows
import Derived.Test.YtiinfilmfcmicaaGreatDoorJ01
import Derived.Test.YtiinfilmfcmicaaGreatDoorJ02
import Derived.Test.YtiinfilmfcmicaaGreatDoorJ03
import Derived.Test.YtiinfilmfcmicaaGreatDoorJ04
import Derived.Test.YtiinfilmfcmicaaGreatDoorJ05
import Derived.Test.YtiinfilmfcmicaaGreatDoorJ06
/- The row's closed facts, all. -/
namespace Go.Proofs.ClJ
open Go Go.Proofs.YtiinfilmfcmicaaGreatDoor
set_option maxRecDepth 100000
theorem two {a b : Bool} (ha : a = true) (hb : b = true) : (a && b) = true := by rw [ha, hb]; rfl
theorem k10 : ((Rows.fastKnownRow.inPlace == Tryz.prog.inPlace 3)) = true := by rw [ClF.inPlace]; kernel_rfl
theorem k11 : ((Rows.fastKnownRow.unfollowed == Tryz.prog.unfollowed 3)) = true := by rw [ClF.unfollowed]; kernel_rfl
theorem k12 : ((Rows.fastKnownRow.recurses == Tryz.prog.recurses 3)) = true := by rw [ClF.recurses]; kernel_rfl
theorem k13 : ((Rows.fastKnownRow.named == Tryz.prog.varsNamed 3)) = true := by rw [ClF.varsNamed]; kernel_rfl
theorem joined : joinedFacts Tryz.prog 3 Tryz.f3 Rows.fastKnownSpec Rows.fastKnownRow = true := (two (two (two (two (two (two (two (two (two (two (two (two (two (two (two (two (two (two (two (two (two (two (two (two (two (two (two (two (two (two (two k1 k2) k3) k4) k5) k6) k7) k8) k9) k10) k11) k12) k13) k14) k15) k16) k17) k17b) k18) k19) k20) k21) k22) k23) k23b) k24) k24b) k24c) k25) k26) k27) k28)
end Go.Proofs.ClJ
