/- Closed facts of the row. Part of the proof that InferKnown returns true on every schedule, its listed variables laid as the text lays them. -/
import Derived.Test.YtejefeepemimdaaGreatDoorRows
import Derived.JoinedOf
import Derived.KernelRfl
/- Closed facts of the row. -/
namespace Go.Proofs.ClJ
open Go Go.Proofs.YtejefeepemimdaaGreatDoor
set_option maxRecDepth 100000
theorem k1 : (Rows.inferKnownRow.wf (OpenSpec.ofChange Rows.inferKnownSpec)) = true := by kernel_rfl
theorem k4 : (Tryz.f3.params.all (Tryz.prog.readableRec ·)) = true := by kernel_rfl
theorem k5 : (namedTie Tryz.prog Rows.inferKnownRow.named Rows.inferKnownSpec.vars) = true := by kernel_rfl
theorem k6 : ((Rows.inferKnownRow.stops == [])) = true := by kernel_rfl
theorem k8 : ((Rows.inferKnownRow.knobs == [])) = true := by kernel_rfl
theorem k16 : ((Rows.inferKnownRow.mapsOut == Tryz.prog.mapsAmong Tryz.f3.resultTypes.toList)) = true := by kernel_rfl
theorem k18 : (Rows.inferKnownSpec.vars.all (Tryz.prog.varReadable ·)) = true := by kernel_rfl
theorem k19 : (Tryz.f3.resultTypes.all (fun t => Tryz.prog.readableRec t && decide (t < Tryz.prog.types.size))) = true := by kernel_rfl
theorem k20 : ((Rows.inferKnownRow.ifacesOut == Tryz.f3.resultTypes.toList.any (Tryz.prog.ifacesRec ·))) = true := by kernel_rfl
theorem k21 : ((Rows.inferKnownRow.loopsOut == Tryz.f3.resultTypes.toList.any (Tryz.prog.loopsFrom ·))) = true := by kernel_rfl
theorem k23 : (Rows.inferKnownRow.shortTexts.isNone) = true := by kernel_rfl
theorem k25 : ((Rows.inferKnownRow.kinds == (if Rows.inferKnownRow.domain.isEmpty then [] else Tryz.f3.params.toList.map fun t => match Tryz.prog.underlying t with | some (.int k) => some k | _ => none))) = true := by kernel_rfl
theorem k26 : ((Rows.inferKnownRow.pinned == Rows.inferKnownRow.pinnedBy)) = true := by kernel_rfl
end Go.Proofs.ClJ
/- Closed facts of the row. -/
namespace Go.Proofs.ClJ
open Go Go.Proofs.YtejefeepemimdaaGreatDoor
set_option maxRecDepth 100000
theorem k7 : ((Tryz.prog.stops == [])) = true := by kernel_rfl
end Go.Proofs.ClJ
/- Closed facts of the row. -/
namespace Go.Proofs.ClJ
open Go Go.Proofs.YtejefeepemimdaaGreatDoor
set_option maxRecDepth 100000
theorem k9 : ((Tryz.prog.stopKnobs == [])) = true := by kernel_rfl
end Go.Proofs.ClJ
/- Closed facts of the row. -/
namespace Go.Proofs.ClJ
open Go Go.Proofs.YtejefeepemimdaaGreatDoor
set_option maxRecDepth 100000
theorem k14 : ((Rows.inferKnownRow.maps == (Tryz.f3.params.toList ++ Rows.inferKnownSpec.plain.varTypes Tryz.prog).any (Tryz.prog.mapsRec ·))) = true := by kernel_rfl
theorem k15 : ((Rows.inferKnownRow.ifaces == (Tryz.f3.params.toList ++ Rows.inferKnownSpec.plain.varTypes Tryz.prog).any (Tryz.prog.ifacesRec ·))) = true := by kernel_rfl
end Go.Proofs.ClJ
/- Closed facts of the row. -/
namespace Go.Proofs.ClJ
open Go Go.Proofs.YtejefeepemimdaaGreatDoor
set_option maxRecDepth 100000
theorem k17 : ((Rows.inferKnownRow.loops == (Tryz.f3.params.toList ++ Rows.inferKnownSpec.plain.varTypes Tryz.prog).any (Tryz.prog.loopsFrom ·))) = true := by kernel_rfl
theorem k17b : ((Rows.inferKnownRow.wideKeys == (Tryz.f3.params.toList ++ Rows.inferKnownSpec.plain.varTypes Tryz.prog ++ Tryz.f3.resultTypes.toList).any (Tryz.prog.wideKeysFrom ·))) = true := by kernel_rfl
end Go.Proofs.ClJ
/- Closed facts of the row. -/
namespace Go.Proofs.ClJ
open Go Go.Proofs.YtejefeepemimdaaGreatDoor
set_option maxRecDepth 100000
theorem k24b : ((Rows.inferKnownRow.lifted == Tryz.prog.liftsFinal)) = true := by kernel_rfl
end Go.Proofs.ClJ
/- Closed facts of the row. -/
namespace Go.Proofs.ClJ
open Go Go.Proofs.YtejefeepemimdaaGreatDoor
set_option maxRecDepth 100000
theorem k24c : ((Tryz.prog.make == some Rows.inferKnownRow.make)) = true := by kernel_rfl
end Go.Proofs.ClJ
/- Closed facts of the row. -/
namespace Go.Proofs.ClJ
open Go Go.Proofs.YtejefeepemimdaaGreatDoor
set_option maxRecDepth 100000
theorem k27 : ((Rows.inferKnownRow.veiled == (Tryz.f3.params.toList ++ Rows.inferKnownSpec.plain.varTypes Tryz.prog ++ Tryz.f3.resultTypes.toList).any (Tryz.prog.veiledRec ·))) = true := by kernel_rfl
end Go.Proofs.ClJ
/- Closed facts of the row. -/
namespace Go.Proofs.ClJ
open Go Go.Proofs.YtejefeepemimdaaGreatDoor
set_option maxRecDepth 100000
theorem k28 : (Rows.inferKnownRow.veiledFits Tryz.prog Tryz.f3.params.toList (Tryz.f3.params.toList ++ Rows.inferKnownSpec.plain.varTypes Tryz.prog ++ Tryz.f3.resultTypes.toList)) = true := by kernel_rfl
end Go.Proofs.ClJ
