/- InferKnown: the tied card. Part of the proof that InferKnown returns true on every schedule, its listed variables laid as the text lays them. -/
import Derived.Test.YtejefeepemimdaaGreatDoorZ08
import Derived.Test.YtejefeepemimdaaGreatDoorK02
import Derived.Test.YtejefeepemimdaaGreatDoorK03
import Derived.Test.YtejefeepemimdaaGreatDoorF03
import Derived.SevenTiedAt
/- InferKnown: the tied card. -/
namespace Go.Proofs.ClK
open Go Go.Tab Go.Proofs.YtejefeepemimdaaGreatDoor
set_option maxRecDepth 100000
theorem tie7 : Tryz.prog.laidByTextLater laid7 kinds7 true := Program.laidByTextLater_by_one 97 8 93 hw hw' hroot hk hg hn hrun
theorem has : kinds.contains .pinned = true := by kernel_rfl
theorem tied : Tryz.prog.tiedLater Rows.inferKnownRow.laid kinds true := by
  unfold Program.tiedLater
  rw [has]
  refine ⟨by kernel_rfl, tie7, fun y hy hp => ?_⟩
  have hm : y ∈ pairs.filter (fun y => y.2 == .pinned) := List.mem_filter.2 ⟨hy, by rw [hp]; rfl⟩
  rw [pin1, List.mem_singleton] at hm
  subst hm
  exact ⟨pinFits, pinDatum⟩
theorem row_tie : Rows.inferKnownRow.laidByTextAt .later Tryz.pinned kinds true := ⟨rfl, rfl, tied, fits⟩
theorem goes : false = Rows.inferKnownRow.goesBy Tryz.prog := (goes_of ClZ.named ClF.noGo).symm
theorem wf : Rows.inferKnownRow.wfByText (OpenSpec.ofChange Rows.inferKnownSpec) = true := by kernel_rfl
theorem law_card : Rows.InferKnownCardSaid :=
  Claim7.holds_tied_plain_at .later [] kinds true (true, "1c61d551ca5e0775a63066c9921aafb07bd3caaba83f219acd03b5418d9707be") true
    ClZ.law_holds (fun _ h => by cases h) wf (fun _ h => by cases h) row_tie rfl ⟨rfl, rfl⟩ main rfl
    (fun f fn hf hfn => by
      obtain rfl : f = 3 := Option.some.inj ((show Tryz.prog.funcNamed Rows.inferKnownRow.func = some 3 from ClZ.named).symm.trans hf) |>.symm
      obtain rfl : fn = Tryz.f3 := (Option.some.inj (Tryz.func3.symm.trans hfn)).symm
      refine ⟨ClF.looks.symm, fun j t ht => ?_⟩
      rw [Tryz.params3] at ht
      exact absurd ht (by simp))
    goes
end Go.Proofs.ClK
namespace Go.Proofs.YtejefeepemimdaaGreatDoor
/-- InferKnown returns true, on every schedule; the listed variables are tied to the program's text. -/
theorem inferKnown_card_holds : Rows.InferKnownCardSaid := ClK.law_card
#print axioms inferKnown_card_holds
end Go.Proofs.YtejefeepemimdaaGreatDoor
