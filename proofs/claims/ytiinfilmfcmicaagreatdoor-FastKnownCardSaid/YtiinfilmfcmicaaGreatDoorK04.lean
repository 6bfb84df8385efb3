/- FastKnown: the tied card. Part of the proof that FastKnown returns true on every schedule, its listed variables laid as the text lays them. -/
import Derived.Test.YtiinfilmfcmicaaGreatDoorZ08
import Derived.Test.YtiinfilmfcmicaaGreatDoorK02
import Derived.Test.YtiinfilmfcmicaaGreatDoorK03
import Derived.Test.YtiinfilmfcmicaaGreatDoorF03
import Derived.SevenTiedAt
/- FastKnown: the tied card. -/
namespace Go.Proofs.ClK
open Go Go.Tab Go.Proofs.YtiinfilmfcmicaaGreatDoor
set_option maxRecDepth 100000
theorem tie7 : Tryz.prog.laidByTextLater laid7 kinds7 true := Program.laidByTextLater_by_one 105 8 93 hw hw' hroot hk hg hn hrun
theorem has : kinds.contains .pinned = true := by kernel_rfl
theorem tied : Tryz.prog.tiedLater Rows.fastKnownRow.laid kinds true := by
  unfold Program.tiedLater
  rw [has]
  refine ⟨by kernel_rfl, tie7, fun y hy hp => ?_⟩
  have hm : y ∈ pairs.filter (fun y => y.2 == .pinned) := List.mem_filter.2 ⟨hy, by rw [hp]; rfl⟩
  rw [pin1, List.mem_singleton] at hm
  subst hm
  exact ⟨pinFits, pinDatum⟩
theorem row_tie : Rows.fastKnownRow.laidByTextAt .later Tryz.pinned kinds true := ⟨rfl, rfl, tied, fits⟩
theorem goes : false = Rows.fastKnownRow.goesBy Tryz.prog := (goes_of ClZ.named ClF.noGo).symm
theorem wf : Rows.fastKnownRow.wfByText (OpenSpec.ofChange Rows.fastKnownSpec) = true := by kernel_rfl
theorem law_card : Rows.FastKnownCardSaid :=
  Claim7.holds_tied_plain_at .later [] kinds true (true, "aad3c8a64e741520d28b53b8edbe0968d27bf8225ab676100fa35815aa27f2d5") true
    ClZ.law_holds (fun _ h => by cases h) wf (fun _ h => by cases h) row_tie rfl ⟨rfl, rfl⟩ main rfl
    (fun f fn hf hfn => by
      obtain rfl : f = 3 := Option.some.inj ((show Tryz.prog.funcNamed Rows.fastKnownRow.func = some 3 from ClZ.named).symm.trans hf) |>.symm
      obtain rfl : fn = Tryz.f3 := (Option.some.inj (Tryz.func3.symm.trans hfn)).symm
      refine ⟨ClF.looks.symm, fun j t ht => ?_⟩
      rw [Tryz.params3] at ht
      exact absurd ht (by simp))
    goes
end Go.Proofs.ClK
namespace Go.Proofs.YtiinfilmfcmicaaGreatDoor
/-- FastKnown returns true, on every schedule; the listed variables are tied to the program's text. -/
theorem fastKnown_card_holds : Rows.FastKnownCardSaid := ClK.law_card
#print axioms fastKnown_card_holds
end Go.Proofs.YtiinfilmfcmicaaGreatDoor
