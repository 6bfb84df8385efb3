/- The tie of the listed variables: names. Part of the proof that InferKnown returns true on every schedule, its listed variables laid as the text lays them. -/
import Derived.Test.YtejefeepemimdaaGreatDoorK01
/- The tie of InferKnown' listed variables: the names. -/
namespace Go.Proofs.ClK
open Go Go.Tab Go.Proofs.YtejefeepemimdaaGreatDoor
set_option maxRecDepth 100000
theorem hn : varsNamedLaterB Tryz.prog (varsId Tryz.prog) laid7 = true := by
  rw [varsId_eq]
  kernel_rfl
end Go.Proofs.ClK
