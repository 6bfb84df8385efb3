/- The types' table is laid out. Part of the proof that LowerTests returns true for every input that reads as data, its listed variables laid as the text lays them. -/
import Derived.Test.YtooclgjcffpcgaaGreatDoorF01
/- The types' table is laid out. -/
namespace Go.Proofs.LowJ
open Go Go.Tab
set_option maxRecDepth 100000
theorem fine0 : (List.range' 0 110).all (rowFine Tryz.prog) = true := by kernel_rfl
theorem fine1 : (List.range' 110 110).all (rowFine Tryz.prog) = true := by kernel_rfl
theorem fine2 : (List.range' 220 110).all (rowFine Tryz.prog) = true := by kernel_rfl
theorem fine3 : (List.range' 330 110).all (rowFine Tryz.prog) = true := by kernel_rfl
theorem fine4 : (List.range' 440 110).all (rowFine Tryz.prog) = true := by kernel_rfl
theorem fine5 : (List.range' 550 110).all (rowFine Tryz.prog) = true := by kernel_rfl
theorem fine : (List.range' 0 660).all (rowFine Tryz.prog) = true := (range_all (a := 0) (m := 110) (n := 550) fine0 (range_all (a := 110) (m := 110) (n := 440) fine1 (range_all (a := 220) (m := 110) (n := 330) fine2 (range_all (a := 330) (m := 110) (n := 220) fine3 (range_all (a := 440) (m := 110) (n := 110) fine4 fine5)))))
theorem params : LowF.FL.flatten.all (fun f => f.params.toList.all fun t => decide (t < 660)) = true := by kernel_rfl
theorem k2 : laidOutB Tryz.prog = true := laidOut_of Tryz.types_size LowF.hF fine (by kernel_rfl) params
end Go.Proofs.LowJ
