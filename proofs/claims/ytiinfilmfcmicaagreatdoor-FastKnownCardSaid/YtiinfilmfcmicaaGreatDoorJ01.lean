/- Closed facts of the row. Part of the proof that FastKnown returns true on every schedule, its listed variables laid as the text lays them. -/
import Derived.Test.YtiinfilmfcmicaaGreatDoorRows
import Derived.JoinedOf
import Derived.KernelRfl
/- Closed facts of the row. -/
namespace Go.Proofs.ClJ
open Go Go.Proofs.YtiinfilmfcmicaaGreatDoor
set_option maxRecDepth 100000
theorem k1 : (Rows.fastKnownRow.wf (OpenSpec.ofChange Rows.fastKnownSpec)) = true := by kernel_rfl
theorem k4 : (Tryz.f3.params.all (Tryz.prog.readableRec ·)) = true := by kernel_rfl
theorem k5 : (namedTie Tryz.prog Rows.fastKnownRow.named Rows.fastKnownSpec.vars) = true := by kernel_rfl
theorem k6 : ((Rows.fastKnownRow.stops == [])) = true := by kernel_rfl
theorem k8 : ((Rows.fastKnownRow.knobs == [])) = true := by kernel_rfl
theorem k16 : ((Rows.fastKnownRow.mapsOut == Tryz.prog.mapsAmong Tryz.f3.resultTypes.toList)) = true := by kernel_rfl
theorem k18 : (Rows.fastKnownSpec.vars.all (Tryz.prog.varReadable ·)) = true := by kernel_rfl
theorem k19 : (Tryz.f3.resultTypes.all (fun t => Tryz.prog.readableRec t && decide (t < Tryz.prog.types.size))) = true := by kernel_rfl
theorem k20 : ((Rows.fastKnownRow.ifacesOut == Tryz.f3.resultTypes.toList.any (Tryz.prog.ifacesRec ·))) = true := by kernel_rfl
theorem k21 : ((Rows.fastKnownRow.loopsOut == Tryz.f3.resultTypes.toList.any (Tryz.prog.loopsFrom ·))) = true := by kernel_rfl
theorem k23 : (Rows.fastKnownRow.shortTexts.isNone) = true := by kernel_rfl
theorem k25 : ((Rows.fastKnownRow.kinds == (if Rows.fastKnownRow.domain.isEmpty then [] else Tryz.f3.params.toList.map fun t => match Tryz.prog.underlying t with | some (.int k) => some k | _ => none))) = true := by kernel_rfl
theorem k26 : ((Rows.fastKnownRow.pinned == Rows.fastKnownRow.pinnedBy)) = true := by kernel_rfl
end Go.Proofs.ClJ
/- Closed facts of the row. -/
namespace Go.Proofs.ClJ
open Go Go.Proofs.YtiinfilmfcmicaaGreatDoor
set_option maxRecDepth 100000
theorem k7 : ((Tryz.prog.stops == [])) = true := by kernel_rfl
end Go.Proofs.ClJ
/- Closed facts of the row. -/
namespace Go.Proofs.ClJ
open Go Go.Proofs.YtiinfilmfcmicaaGreatDoor
set_option maxRecDepth 100000
theorem k9 : ((Tryz.prog.stopKnobs == [])) = true := by kernel_rfl
end Go.Proofs.ClJ
/- Closed facts of the row. -/
namespace Go.Proofs.ClJ
open Go Go.Proofs.YtiinfilmfcmicaaGreatDoor
set_option maxRecDepth 100000
theorem k14 : ((Rows.fastKnownRow.maps == (Tryz.f3.params.toList ++ Rows.fastKnownSpec.plain.varTypes Tryz.prog).any (Tryz.prog.mapsRec ·))) = true := by kernel_rfl
theorem k15 : ((Rows.fastKnownRow.ifaces == (Tryz.f3.params.toList ++ Rows.fastKnownSpec.plain.varTypes Tryz.prog).any (Tryz.prog.ifacesRec ·))) = true := by kernel_rfl
end Go.Proofs.ClJ
/- Closed facts of the row. -/
namespace Go.Proofs.ClJ
open Go Go.Proofs.YtiinfilmfcmicaaGreatDoor
set_option maxRecDepth 100000
theorem k17 : ((Rows.fastKnownRow.loops == (Tryz.f3.params.toList ++ Rows.fastKnownSpec.plain.varTypes Tryz.prog).any (Tryz.prog.loopsFrom ·))) = true := by kernel_rfl
theorem k17b : ((Rows.fastKnownRow.wideKeys == (Tryz.f3.params.toList ++ Rows.fastKnownSpec.plain.varTypes Tryz.prog ++ Tryz.f3.resultTypes.toList).any (Tryz.prog.wideKeysFrom ·))) = true := by kernel_rfl
end Go.Proofs.ClJ
/- Closed facts of the row. -/
namespace Go.Proofs.ClJ
open Go Go.Proofs.YtiinfilmfcmicaaGreatDoor
set_option maxRecDepth 100000
theorem k24b : ((Rows.fastKnownRow.lifted == Tryz.prog.liftsFinal)) = true := by kernel_rfl
end Go.Proofs.ClJ
/- Closed facts of the row. -/
namespace Go.Proofs.ClJ
open Go Go.Proofs.YtiinfilmfcmicaaGreatDoor
set_option maxRecDepth 100000
theorem k24c : ((Tryz.prog.make == some Rows.fastKnownRow.make)) = true := by kernel_rfl
end Go.Proofs.ClJ
/- Closed facts of the row. -/
namespace Go.Proofs.ClJ
open Go Go.Proofs.YtiinfilmfcmicaaGreatDoor
set_option maxRecDepth 100000
theorem k27 : ((Rows.fastKnownRow.veiled == (Tryz.f3.params.toList ++ Rows.fastKnownSpec.plain.varTypes Tryz.prog ++ Tryz.f3.resultTypes.toList).any (Tryz.prog.veiledRec ·))) = true := by kernel_rfl
end Go.Proofs.ClJ
/- Closed facts of the row. -/
namespace Go.Proofs.ClJ
open Go Go.Proofs.YtiinfilmfcmicaaGreatDoor
set_option maxRecDepth 100000
theorem k28 : (Rows.fastKnownRow.veiledFits Tryz.prog Tryz.f3.params.toList (Tryz.f3.params.toList ++ Rows.fastKnownSpec.plain.varTypes Tryz.prog ++ Tryz.f3.resultTypes.toList)) = true := by kernel_rfl
end Go.Proofs.ClJ
