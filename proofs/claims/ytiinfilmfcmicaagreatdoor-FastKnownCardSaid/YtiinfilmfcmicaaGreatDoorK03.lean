/- The tie of the listed variables: the run. Part of the proof that FastKnown returns true on every schedule, its listed variables laid as the text lays them. -/
import Derived.LaidByTextLater
import Derived.LaidOnce
import Derived.Test.YtiinfilmfcmicaaGreatDoorK01
/- The run that lays the listed variables, out of its pieces. Plain law. -/
namespace Go
theorem doorLeaves_of {P : Program} {n fuel M : Nat} {laid : List (String × DataW Unit)} {os : Os} {tape : Tape} {ps : List MemPlace}
    (h1 : varsDone P n (varsId P) os tape = true) (h2 : DataW.laidRun P (varsWorld P n (varsId P) os tape).memory fuel (laid.map (·.1)) = some (laid, ps)) (hN : nodupBits M ps 0 = true)
    (h3 : laidRowsB P (varsWorld P n (varsId P) os tape).memory ps = true) (h5 : (laid.filter fun x => x.2.handleName?.isNone) = laid)
    (h6 : (laid.filter fun x => x.2.handleName?.isSome && x.2.funcsIn?.isNone) = []) (h7 : funcsListed laid = []) :
    doorLeaves P n fuel M laid os tape = some (laid.filter fun x => x.2.handleName?.isNone, (funcsListed laid).map (·.2.funcsOut)) := by
  unfold doorLeaves
  rw [h5, h6, h7]
  unfold varsDone at h1
  unfold varsWorld at h2 h3
  cases hr : runN P n (Machine.entering P (World.unlaid P os) tape (varsId P) ⟨#[], #[], []⟩) with
  | next m => rw [hr] at h1; cases h1
  | ended o w =>
    rw [hr] at h1 h2 h3
    cases o with
    | done v =>
      have h2 : DataW.laidRun P w.memory fuel (laid.map (·.1)) = some (laid, ps) := h2
      have h3 : laidRowsB P w.memory ps = true := h3
      simp [h2, hN, h3, funcsRun]
    | _ => cases h1
end Go
/- The tie of FastKnown's listed variables: the run. -/
namespace Go.Proofs.ClK
open Go Go.Tab Go.Proofs.YtiinfilmfcmicaaGreatDoor
set_option maxRecDepth 100000
def row (b n : Nat) : List MemPlace := MemPlace.row ⟨b, 0, none⟩ n
def places1 : List MemPlace := row 5 32 ++ row 6 64
def places2 : List MemPlace := row 4 20 ++ row 1 32 ++ row 8 1 ++ row 15 1 ++ row 7 1 ++ row 16 1
def places3 : List MemPlace := row 2 92 ++ row 9 6
def places : List MemPlace := places1 ++ (places2 ++ places3)
theorem hd (os : Os) (tape : Tape) : varsDone Tryz.prog 105 952 os tape = true := by kernel_rfl
theorem hB (os : Os) (tape : Tape) : DataW.laidRun Tryz.prog (varsWorld Tryz.prog 105 952 os tape).memory 8 (laid7.map (·.1)) = some (laid7, places) := by kernel_rfl
theorem hN : nodupBits 93 places 0 = true := by kernel_rfl
theorem hR1 (os : Os) (tape : Tape) : laidRowsB Tryz.prog (varsWorld Tryz.prog 105 952 os tape).memory places1 = true := by kernel_rfl
theorem hR2 (os : Os) (tape : Tape) : laidRowsB Tryz.prog (varsWorld Tryz.prog 105 952 os tape).memory places2 = true := by kernel_rfl
theorem hR3 (os : Os) (tape : Tape) : laidRowsB Tryz.prog (varsWorld Tryz.prog 105 952 os tape).memory places3 = true := by kernel_rfl
theorem hR (os : Os) (tape : Tape) : laidRowsB Tryz.prog (varsWorld Tryz.prog 105 952 os tape).memory places = true := by
  have h1 := hR1 os tape
  have h2 := hR2 os tape
  have h3 := hR3 os tape
  unfold laidRowsB at h1 h2 h3 ⊢
  unfold places
  rw [List.all_append, List.all_append, h1, h2, h3]
  rfl
theorem plain7 : (laid7.filter fun x => x.2.handleName?.isNone) = laid7 := by kernel_rfl
theorem noHandles : (laid7.filter fun x => x.2.handleName?.isSome && x.2.funcsIn?.isNone) = [] := by kernel_rfl
theorem noFuncs : funcsListed laid7 = [] := by kernel_rfl
theorem hrun (os : Os) (tape : Tape) : doorLeaves Tryz.prog 105 8 93 laid7 os tape = some (laid7.filter fun x => x.2.handleName?.isNone, (funcsListed laid7).map (·.2.funcsOut)) :=
  doorLeaves_of (by rw [varsId_eq]; exact hd os tape) (by rw [varsId_eq]; exact hB os tape) hN (by rw [varsId_eq]; exact hR os tape) plain7 noHandles noFuncs
end Go.Proofs.ClK
