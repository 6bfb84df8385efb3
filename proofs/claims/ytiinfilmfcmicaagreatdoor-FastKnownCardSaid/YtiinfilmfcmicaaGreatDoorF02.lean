/- The table held against the program. Part of the proof that FastKnown returns true on every schedule, its listed variables laid as the text lays them. -/
import Derived.Test.YtiinfilmfcmicaaGreatDoorF01
/- What each function leads to: held against the program. Printed by a program. -/
namespace Go.Proofs.ClF
open Go Go.Tab
set_option maxRecDepth 100000
theorem row0 : fl0.map (info Tryz.prog) = ti0 := by kernel_rfl
theorem row4 : fl4.map (info Tryz.prog) = ti4 := by kernel_rfl
theorem row8 : fl8.map (info Tryz.prog) = ti8 := by kernel_rfl
theorem row12 : fl12.map (info Tryz.prog) = ti12 := by kernel_rfl
theorem row16 : fl16.map (info Tryz.prog) = ti16 := by kernel_rfl
theorem row20 : fl20.map (info Tryz.prog) = ti20 := by kernel_rfl
theorem row24 : fl24.map (info Tryz.prog) = ti24 := by kernel_rfl
theorem row28 : fl28.map (info Tryz.prog) = ti28 := by kernel_rfl
theorem row32 : fl32.map (info Tryz.prog) = ti32 := by kernel_rfl
end Go.Proofs.ClF
/- What each function leads to: held against the program. Printed by a program. -/
namespace Go.Proofs.ClF
open Go Go.Tab
set_option maxRecDepth 100000
theorem row1 : fl1.map (info Tryz.prog) = ti1 := by kernel_rfl
theorem row5 : fl5.map (info Tryz.prog) = ti5 := by kernel_rfl
theorem row9 : fl9.map (info Tryz.prog) = ti9 := by kernel_rfl
theorem row13 : fl13.map (info Tryz.prog) = ti13 := by kernel_rfl
theorem row17 : fl17.map (info Tryz.prog) = ti17 := by kernel_rfl
theorem row21 : fl21.map (info Tryz.prog) = ti21 := by kernel_rfl
theorem row25 : fl25.map (info Tryz.prog) = ti25 := by kernel_rfl
theorem row29 : fl29.map (info Tryz.prog) = ti29 := by kernel_rfl
theorem row33 : fl33.map (info Tryz.prog) = ti33 := by kernel_rfl
end Go.Proofs.ClF
/- What each function leads to: held against the program. Printed by a program. -/
namespace Go.Proofs.ClF
open Go Go.Tab
set_option maxRecDepth 100000
theorem row2 : fl2.map (info Tryz.prog) = ti2 := by kernel_rfl
theorem row6 : fl6.map (info Tryz.prog) = ti6 := by kernel_rfl
theorem row10 : fl10.map (info Tryz.prog) = ti10 := by kernel_rfl
theorem row14 : fl14.map (info Tryz.prog) = ti14 := by kernel_rfl
theorem row18 : fl18.map (info Tryz.prog) = ti18 := by kernel_rfl
theorem row22 : fl22.map (info Tryz.prog) = ti22 := by kernel_rfl
theorem row26 : fl26.map (info Tryz.prog) = ti26 := by kernel_rfl
theorem row30 : fl30.map (info Tryz.prog) = ti30 := by kernel_rfl
theorem row34 : fl34.map (info Tryz.prog) = ti34 := by kernel_rfl
end Go.Proofs.ClF
/- What each function leads to: held against the program. Printed by a program. -/
namespace Go.Proofs.ClF
open Go Go.Tab
set_option maxRecDepth 100000
theorem row3 : fl3.map (info Tryz.prog) = ti3 := by kernel_rfl
theorem row7 : fl7.map (info Tryz.prog) = ti7 := by kernel_rfl
theorem row11 : fl11.map (info Tryz.prog) = ti11 := by kernel_rfl
theorem row15 : fl15.map (info Tryz.prog) = ti15 := by kernel_rfl
theorem row19 : fl19.map (info Tryz.prog) = ti19 := by kernel_rfl
theorem row23 : fl23.map (info Tryz.prog) = ti23 := by kernel_rfl
theorem row27 : fl27.map (info Tryz.prog) = ti27 := by kernel_rfl
theorem row31 : fl31.map (info Tryz.prog) = ti31 := by kernel_rfl
end Go.Proofs.ClF
