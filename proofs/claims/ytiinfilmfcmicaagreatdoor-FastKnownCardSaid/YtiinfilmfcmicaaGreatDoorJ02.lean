/- The types' table is laid out. Part of the proof that FastKnown returns true on every schedule, its listed variables laid as the text lays them. -/
import Derived.Test.YtiinfilmfcmicaaGreatDoorF01
/- The types' table is laid out. -/
namespace Go.Proofs.ClJ
open Go Go.Tab
set_option maxRecDepth 100000
theorem fine0 : (List.range' 0 110).all (rowFine Tryz.prog) = true := by kernel_rfl
theorem fine1 : (List.range' 110 110).all (rowFine Tryz.prog) = true := by kernel_rfl
theorem fine2 : (List.range' 220 110).all (rowFine Tryz.prog) = true := by kernel_rfl
theorem fine3 : (List.range' 330 110).all (rowFine Tryz.prog) = true := by kernel_rfl
theorem fine4 : (List.range' 440 110).all (rowFine Tryz.prog) = true := by kernel_rfl
theorem fine5 : (List.range' 550 110).all (rowFine Tryz.prog) = true := by kernel_rfl
theorem fine6 : (List.range' 660 105).all (rowFine Tryz.prog) = true := by kernel_rfl
theorem fine : (List.range' 0 765).all (rowFine Tryz.prog) = true := (range_all (a := 0) (m := 110) (n := 655) fine0 (range_all (a := 110) (m := 110) (n := 545) fine1 (range_all (a := 220) (m := 110) (n := 435) fine2 (range_all (a := 330) (m := 110) (n := 325) fine3 (range_all (a := 440) (m := 110) (n := 215) fine4 (range_all (a := 550) (m := 110) (n := 105) fine5 fine6))))))
theorem params : ClF.FL.flatten.all (fun f => f.params.toList.all fun t => decide (t < 765)) = true := by kernel_rfl
theorem k2 : laidOutB Tryz.prog = true := laidOut_of Tryz.types_size ClF.hF fine (by kernel_rfl) params
end Go.Proofs.ClJ
