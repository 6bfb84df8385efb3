/- Closed facts of the row. Part of the proof that LowerTests returns true for every input that reads as data, its listed variables laid as the text lays them. -/
import Derived.Test.YtooclgjcffpcgaaGreatDoorRows
import Derived.JoinedOf
import Derived.KernelRfl
/- Closed facts of the row. -/
namespace Go.Proofs.LowJ
open Go Go.Proofs.YtooclgjcffpcgaaGreatDoor
set_option maxRecDepth 100000
theorem k1 : (Rows.lowerTestsRow.wf (OpenSpec.ofChange Rows.lowerTestsSpec)) = true := by kernel_rfl
theorem k4 : (Tryz.f3.params.all (Tryz.prog.readableRec ·)) = true := by kernel_rfl
theorem k5 : (namedTie Tryz.prog Rows.lowerTestsRow.named Rows.lowerTestsSpec.vars) = true := by kernel_rfl
theorem k6 : ((Rows.lowerTestsRow.stops == [])) = true := by kernel_rfl
theorem k8 : ((Rows.lowerTestsRow.knobs == [])) = true := by kernel_rfl
theorem k16 : ((Rows.lowerTestsRow.mapsOut == Tryz.prog.mapsAmong Tryz.f3.resultTypes.toList)) = true := by kernel_rfl
theorem k18 : (Rows.lowerTestsSpec.vars.all (Tryz.prog.varReadable ·)) = true := by kernel_rfl
theorem k19 : (Tryz.f3.resultTypes.all (fun t => Tryz.prog.readableRec t && decide (t < Tryz.prog.types.size))) = true := by kernel_rfl
theorem k20 : ((Rows.lowerTestsRow.ifacesOut == Tryz.f3.resultTypes.toList.any (Tryz.prog.ifacesRec ·))) = true := by kernel_rfl
theorem k21 : ((Rows.lowerTestsRow.loopsOut == Tryz.f3.resultTypes.toList.any (Tryz.prog.loopsFrom ·))) = true := by kernel_rfl
theorem k23 : (Rows.lowerTestsRow.shortTexts.isNone) = true := by kernel_rfl
theorem k25 : ((Rows.lowerTestsRow.kinds == (if Rows.lowerTestsRow.domain.isEmpty then [] else Tryz.f3.params.toList.map fun t => match Tryz.prog.underlying t with | some (.int k) => some k | _ => none))) = true := by kernel_rfl
theorem k26 : ((Rows.lowerTestsRow.pinned == Rows.lowerTestsRow.pinnedBy)) = true := by kernel_rfl
end Go.Proofs.LowJ
/- Closed facts of the row. -/
namespace Go.Proofs.LowJ
open Go Go.Proofs.YtooclgjcffpcgaaGreatDoor
set_option maxRecDepth 100000
theorem k7 : ((Tryz.prog.stops == [])) = true := by kernel_rfl
end Go.Proofs.LowJ
/- Closed facts of the row. -/
namespace Go.Proofs.LowJ
open Go Go.Proofs.YtooclgjcffpcgaaGreatDoor
set_option maxRecDepth 100000
theorem k9 : ((Tryz.prog.stopKnobs == [])) = true := by kernel_rfl
end Go.Proofs.LowJ
/- Closed facts of the row. -/
namespace Go.Proofs.LowJ
open Go Go.Proofs.YtooclgjcffpcgaaGreatDoor
set_option maxRecDepth 100000
theorem k14 : ((Rows.lowerTestsRow.maps == (Tryz.f3.params.toList ++ Rows.lowerTestsSpec.plain.varTypes Tryz.prog).any (Tryz.prog.mapsRec ·))) = true := by kernel_rfl
theorem k15 : ((Rows.lowerTestsRow.ifaces == (Tryz.f3.params.toList ++ Rows.lowerTestsSpec.plain.varTypes Tryz.prog).any (Tryz.prog.ifacesRec ·))) = true := by kernel_rfl
end Go.Proofs.LowJ
/- Closed facts of the row. -/
namespace Go.Proofs.LowJ
open Go Go.Proofs.YtooclgjcffpcgaaGreatDoor
set_option maxRecDepth 100000
theorem k17 : ((Rows.lowerTestsRow.loops == (Tryz.f3.params.toList ++ Rows.lowerTestsSpec.plain.varTypes Tryz.prog).any (Tryz.prog.loopsFrom ·))) = true := by kernel_rfl
theorem k17b : ((Rows.lowerTestsRow.wideKeys == (Tryz.f3.params.toList ++ Rows.lowerTestsSpec.plain.varTypes Tryz.prog ++ Tryz.f3.resultTypes.toList).any (Tryz.prog.wideKeysFrom ·))) = true := by kernel_rfl
end Go.Proofs.LowJ
/- Closed facts of the row. -/
namespace Go.Proofs.LowJ
open Go Go.Proofs.YtooclgjcffpcgaaGreatDoor
set_option maxRecDepth 100000
theorem k24b : ((Rows.lowerTestsRow.lifted == Tryz.prog.liftsFinal)) = true := by kernel_rfl
end Go.Proofs.LowJ
/- Closed facts of the row. -/
namespace Go.Proofs.LowJ
open Go Go.Proofs.YtooclgjcffpcgaaGreatDoor
set_option maxRecDepth 100000
theorem k24c : ((Tryz.prog.make == some Rows.lowerTestsRow.make)) = true := by kernel_rfl
end Go.Proofs.LowJ
/- Closed facts of the row. -/
namespace Go.Proofs.LowJ
open Go Go.Proofs.YtooclgjcffpcgaaGreatDoor
set_option maxRecDepth 100000
theorem k27 : ((Rows.lowerTestsRow.veiled == (Tryz.f3.params.toList ++ Rows.lowerTestsSpec.plain.varTypes Tryz.prog ++ Tryz.f3.resultTypes.toList).any (Tryz.prog.veiledRec ·))) = true := by kernel_rfl
end Go.Proofs.LowJ
/- Closed facts of the row. -/
namespace Go.Proofs.LowJ
open Go Go.Proofs.YtooclgjcffpcgaaGreatDoor
set_option maxRecDepth 100000
theorem k28 : (Rows.lowerTestsRow.veiledFits Tryz.prog Tryz.f3.params.toList (Tryz.f3.params.toList ++ Rows.lowerTestsSpec.plain.varTypes Tryz.prog ++ Tryz.f3.resultTypes.toList)) = true := by kernel_rfl
end Go.Proofs.LowJ
