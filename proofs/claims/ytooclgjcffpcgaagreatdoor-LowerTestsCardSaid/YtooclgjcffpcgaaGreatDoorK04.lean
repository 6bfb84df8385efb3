/- LowerTests: the tied card. Part of the proof that LowerTests returns true for every input that reads as data, its listed variables laid as the text lays them. -/
import Derived.Test.YtooclgjcffpcgaaGreatDoorZ08
import Derived.Test.YtooclgjcffpcgaaGreatDoorK02
import Derived.Test.YtooclgjcffpcgaaGreatDoorK03
import Derived.Test.YtooclgjcffpcgaaGreatDoorF03
import Derived.SevenTiedAt
/- LowerTests: the tied card. -/
namespace Go.Proofs.LowK
open Go Go.Tab Go.Proofs.YtooclgjcffpcgaaGreatDoor
set_option maxRecDepth 100000
theorem tie7 : Tryz.prog.laidByTextLater laid7 kinds7 true := Program.laidByTextLater_by_one 77 8 65 hw hw' hroot hk hg hn hrun
theorem has : kinds.contains .pinned = true := by kernel_rfl
theorem tied : Tryz.prog.tiedLater Rows.lowerTestsRow.laid kinds true := by
  unfold Program.tiedLater
  rw [has]
  refine ⟨by kernel_rfl, tie7, fun y hy hp => ?_⟩
  have hm : y ∈ pairs.filter (fun y => y.2 == .pinned) := List.mem_filter.2 ⟨hy, by rw [hp]; rfl⟩
  rw [pin1, List.mem_singleton] at hm
  subst hm
  exact ⟨pinFits, pinDatum⟩
theorem row_tie : Rows.lowerTestsRow.laidByTextAt .later Tryz.pinned kinds true := ⟨rfl, rfl, tied, fits⟩
theorem goes : false = Rows.lowerTestsRow.goesBy Tryz.prog := (goes_of LowZ.named LowF.noGo).symm
theorem wf : Rows.lowerTestsRow.wfByText (OpenSpec.ofChange Rows.lowerTestsSpec) = true := by kernel_rfl
theorem stands : Tryz.prog.wantsStandIn 28 = false := by kernel_rfl
theorem lowerTests_card : Rows.LowerTestsCardSaid :=
  Claim7.holds_tied_plain_at .later [] kinds true (true, "056de992ddc31865cd0d75e5cb82df1af90e74374e7df2bda2158427924ce158") true
    LowZ.lowerTests_holds (fun _ h => by cases h) wf (fun _ h => by cases h) row_tie rfl ⟨rfl, rfl⟩ main rfl
    (fun f fn hf hfn => by
      obtain rfl : f = 3 := Option.some.inj ((show Tryz.prog.funcNamed Rows.lowerTestsRow.func = some 3 from LowZ.named).symm.trans hf) |>.symm
      obtain rfl : fn = Tryz.f3 := (Option.some.inj (Tryz.func3.symm.trans hfn)).symm
      refine ⟨LowF.looks.symm, fun j t ht => ?_⟩
      rw [Tryz.params3] at ht
      have hm : t = 28 := by simpa using Array.mem_of_getElem? ht
      subst hm
      exact stands)
    goes
end Go.Proofs.LowK
namespace Go.Proofs.YtooclgjcffpcgaaGreatDoor
/-- For every input that reads as data, LowerTests returns true and the input reads as it did; the listed variables are tied to the program's text. -/
theorem lowerTests_card_holds : Rows.LowerTestsCardSaid := LowK.lowerTests_card
#print axioms lowerTests_card_holds
end Go.Proofs.YtooclgjcffpcgaaGreatDoor
