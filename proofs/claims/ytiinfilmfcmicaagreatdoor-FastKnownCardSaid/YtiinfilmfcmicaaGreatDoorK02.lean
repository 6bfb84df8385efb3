/- The tie of the listed variables: names. Part of the proof that FastKnown returns true on every schedule, its listed variables laid as the text lays them. -/
import Derived.Test.YtiinfilmfcmicaaGreatDoorK01
/- The tie of FastKnown' listed variables: the names. -/
namespace Go.Proofs.ClK
open Go Go.Tab Go.Proofs.YtiinfilmfcmicaaGreatDoor
set_option maxRecDepth 100000
theorem hn : varsNamedLaterB Tryz.prog (varsId Tryz.prog) laid7 = true := by
  rw [varsId_eq]
  kernel_rfl
end Go.Proofs.ClK
