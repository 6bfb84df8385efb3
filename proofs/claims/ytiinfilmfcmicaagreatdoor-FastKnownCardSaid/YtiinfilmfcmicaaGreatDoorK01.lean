/- The tie of the listed variables: small facts. Part of the proof that FastKnown returns true on every schedule, its listed variables laid as the text lays them. -/
import Derived.Test.YtiinfilmfcmicaaGreatDoorCards
import Derived.Test.YtiinfilmfcmicaaGreatDoorF01
import Derived.LaidByTextLater
import Derived.LaidOnce
/- The tie of FastKnown' listed variables: the small facts. -/
namespace Go.Proofs.ClK
open Go Go.Tab Go.Proofs.YtiinfilmfcmicaaGreatDoor
set_option maxRecDepth 100000
noncomputable def kinds : List LaidKind := Rows.fastKnownCard.laidKinds
noncomputable def pairs : List ((String × DataW Unit) × LaidKind) := Rows.fastKnownRow.laid.zip kinds
noncomputable def laid7 : List (String × DataW Unit) := (pairs.filter (·.2 != .pinned)).map (·.1)
noncomputable def kinds7 : List LaidKind := kinds.filter (· != .pinned)
theorem vars : Tryz.prog.funcNamed "gosem.cut.vars" = some 952 := funcNamed_of ClF.hF (by kernel_rfl)
theorem varsId_eq : varsId Tryz.prog = 952 := by
  unfold varsId
  rw [vars]
  rfl
theorem hw : Tryz.prog.worded (varsWordLater true) = true := worded_of ClF.hF (by kernel_rfl)
theorem hw' : Tryz.prog.worded (varsWordLater !true) = false := worded_of ClF.hF (by kernel_rfl)
theorem hroot : Tryz.prog.worded rootWordLater = true := worded_of ClF.hF (by kernel_rfl)
theorem hk : laid7.map (fun x => Tryz.prog.kindOfLater x.1) = kinds7.map some := by kernel_rfl
theorem hg : (Tryz.prog.funcNamed "gosem.cut.vars").isSome = true := by
  rw [vars]
  rfl
theorem pin1 : pairs.filter (fun y => y.2 == .pinned) = [(("unicode/utf8.first", Go.Pinned.utf8First), LaidKind.pinned)] := by kernel_rfl
theorem pinFits : Tryz.prog.pinnedFits "unicode/utf8.first" = true := by
  unfold Program.pinnedFits
  rw [vars]
  kernel_rfl
theorem pinDatum : Pinned.datum "unicode/utf8.first" = some Go.Pinned.utf8First := by kernel_rfl
theorem noOwn : Tryz.prog.headLifts.contains "ownunsafe" = false := by kernel_rfl
theorem fits : Tryz.prog.listedFits Rows.fastKnownRow.laid = true := by
  unfold Program.listedFits
  rw [noOwn]
  kernel_rfl
theorem main : Tryz.prog.mainIs = some (true, "aad3c8a64e741520d28b53b8edbe0968d27bf8225ab676100fa35815aa27f2d5".toList) := by kernel_rfl
end Go.Proofs.ClK
