/- The tie of the listed variables: names. Part of the proof that LowerTests returns true for every input that reads as data, its listed variables laid as the text lays them. -/
import Derived.Test.YtooclgjcffpcgaaGreatDoorK01
/- The tie of LowerTests' listed variables: the names. -/
namespace Go.Proofs.LowK
open Go Go.Tab Go.Proofs.YtooclgjcffpcgaaGreatDoor
set_option maxRecDepth 100000
theorem hn : varsNamedLaterB Tryz.prog (varsId Tryz.prog) laid7 = true := by
  rw [varsId_eq]
  kernel_rfl
end Go.Proofs.LowK
