/- The tie of the listed variables: the run. Part of the proof that LowerTests returns true for every input that reads as data, its listed variables laid as the text lays them. -/
import Derived.Test.YtooclgjcffpcgaaGreatDoorK01
/- The tie of LowerTests' listed variables: the run. -/
namespace Go.Proofs.LowK
open Go Go.Tab Go.Proofs.YtooclgjcffpcgaaGreatDoor
set_option maxRecDepth 100000
theorem hrun (os : Os) (tape : Tape) : doorLeaves Tryz.prog 77 8 65 laid7 os tape = some (laid7.filter fun x => x.2.handleName?.isNone, (funcsListed laid7).map (·.2.funcsOut)) := by
  unfold doorLeaves
  rw [varsId_eq]
  kernel_rfl
end Go.Proofs.LowK
