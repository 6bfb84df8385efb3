/- The tie of the listed variables: small facts. Part of the proof that LowerTests returns true for every input that reads as data, its listed variables laid as the text lays them. -/
import Derived.Test.YtooclgjcffpcgaaGreatDoorCards
import Derived.Test.YtooclgjcffpcgaaGreatDoorF01
import Derived.LaidByTextLater
import Derived.LaidOnce
/- The tie of LowerTests' listed variables: the small facts. -/
namespace Go.Proofs.LowK
open Go Go.Tab Go.Proofs.YtooclgjcffpcgaaGreatDoor
set_option maxRecDepth 100000
noncomputable def kinds : List LaidKind := Rows.lowerTestsCard.laidKinds
noncomputable def pairs : List ((String × DataW Unit) × LaidKind) := Rows.lowerTestsRow.laid.zip kinds
noncomputable def laid7 : List (String × DataW Unit) := (pairs.filter (·.2 != .pinned)).map (·.1)
noncomputable def kinds7 : List LaidKind := kinds.filter (· != .pinned)
theorem vars : Tryz.prog.funcNamed "gosem.cut.vars" = some 778 := funcNamed_of LowF.hF (by kernel_rfl)
theorem varsId_eq : varsId Tryz.prog = 778 := by
  unfold varsId
  rw [vars]
  rfl
theorem hw : Tryz.prog.worded (varsWordLater true) = true := worded_of LowF.hF (by kernel_rfl)
theorem hw' : Tryz.prog.worded (varsWordLater !true) = false := worded_of LowF.hF (by kernel_rfl)
theorem hroot : Tryz.prog.worded rootWordLater = true := worded_of LowF.hF (by kernel_rfl)
theorem hk : laid7.map (fun x => Tryz.prog.kindOfLater x.1) = kinds7.map some := by kernel_rfl
theorem hg : (Tryz.prog.funcNamed "gosem.cut.vars").isSome = true := by
  rw [vars]
  rfl
theorem pin1 : pairs.filter (fun y => y.2 == .pinned) = [(("unicode/utf8.first", Go.Pinned.utf8First), LaidKind.pinned)] := by kernel_rfl
theorem pinFits : Tryz.prog.pinnedFits "unicode/utf8.first" = true := by
  unfold Program.pinnedFits
  rw [vars]
  kernel_rfl
theorem pinDatum : Pinned.datum "unicode/utf8.first" = some Go.Pinned.utf8First := by kernel_rfl
theorem noOwn : Tryz.prog.headLifts.contains "ownunsafe" = false := by kernel_rfl
theorem fits : Tryz.prog.listedFits Rows.lowerTestsRow.laid = true := by
  unfold Program.listedFits
  rw [noOwn]
  kernel_rfl
theorem main : Tryz.prog.mainIs = some (true, "056de992ddc31865cd0d75e5cb82df1af90e74374e7df2bda2158427924ce158".toList) := by kernel_rfl
end Go.Proofs.LowK
