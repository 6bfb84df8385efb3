/- The small functions, walked. Part of the proof that LowerTests returns true for every input that reads as data, its listed variables laid as the text lays them. -/
import Derived.Test.YtooclgjcffpcgaaGreatDoorW01
import Derived.WalkKit
import Derived.WalkSpells
import Derived.WalkLawsBesides
import Derived.Lib.Hide
import Derived.Below
/- The small functions on a part's number, text and count of kids: what each answers. -/
namespace Go.Proofs.LowW
open Go.RowKit Go.Proofs.LowM
set_option maxRecDepth 100000

set_option maxHeartbeats 1000000 in
theorem plain (s : ByteArray) (w : World) :
    Calls Tryz.prog 38 #[.string s] w fun e w' => e = .returned (.bool (plainB s.toList)) ∧ w = w' := by
  go_enter Tryz.func38, Tryz.ntmps38
  go_wp2_with (go_at_call 39; refine (Tryz.strings_Contains_one _ _ _).mono ?_; rintro e w' ⟨rfl, rfl⟩)
  · go_ret
    refine ⟨?_, rfl⟩
    have h : s.toList = [] := by assumption
    show Ending.returned (.bool false) = _
    rw [h]; rfl
  · go_ret
    refine ⟨?_, rfl⟩
    show Ending.returned (.bool _) = _
    rw [Go.Lib.toList_data]; rfl

set_option maxHeartbeats 4000000 in
theorem ref19 (s : ByteArray) (k : Int) (w : World) :
    Calls Tryz.prog 20 #[.string s, .int .i64 k] w fun e w' => e = .returned (.bool (ref19B s.toList k)) ∧ w = w' := by
  go_enter Tryz.func20, Tryz.ntmps20
  go_wp2
  all_goals go_ret
  all_goals refine ⟨?_, rfl⟩
  all_goals refine congrArg Ending.returned (congrArg Value.bool ?_)
  all_goals first
    | (exfalso; simp_all; done)
    | (unfold ref19B; simp_all [w0_eq, w1_eq, w2_eq]; done)
    | (exact ref19_two (by assumption) (by assumption) (by assumption))
end Go.Proofs.LowW
/- More of the small functions: what each answers. -/
namespace Go.Proofs.LowW
open Go.RowKit Go.Proofs.LowM
set_option maxRecDepth 100000

set_option maxHeartbeats 1000000 in
theorem scopeF (s : ByteArray) (k : Int) (m : Int) (w : World) (hs : s.size < 9223372036854775000) (hm : w.cell? ⟨0, 0, none⟩ = some (.int .i64 m)) :
    Calls Tryz.prog 18 #[.string s, .int .i64 k] w fun e w' => e = .returned (.bool (scopeB s.toList k)) ∧ w = w' := by
  have HM := Go.Lib.hid hm
  clear hm
  go_enter Tryz.func18, Tryz.ntmps18
  go_wp2_with (first
    | (go_at_call 38; refine (plain _ _).mono ?_; rintro e w' ⟨rfl, rfl⟩)
    | (go_at_call 39; refine (Tryz.strings_Contains _ _ m _ (by decide) HM.out).mono ?_; rintro e w' ⟨rfl, rfl⟩))
  all_goals first
    | (go_ret; refine ⟨?_, rfl⟩; refine congrArg Ending.returned (congrArg Value.bool ?_); first
        | exact scopeB_no (by assumption)
        | (rw [← Go.Lib.toList_data]; exact scopeB_0 (by assumption) (by assumption) (by decide +kernel))
        | (rw [← Go.Lib.toList_data]; exact scopeB_1 (by assumption) (by assumption) (by assumption) (by decide +kernel))
        | (rw [← Go.Lib.toList_data]; exact scopeB_2 (by assumption) (by assumption) (by assumption) (by assumption) (by decide +kernel))
        | exact scopeB_3 (by assumption) (by assumption) (by assumption))
    | (exfalso; omega)
end Go.Proofs.LowW
/- Which parts have a test of their own fault: both functions answer alike. -/
namespace Go.Proofs.LowW
open Go.RowKit Go.Proofs.LowM
set_option maxRecDepth 100000

set_option maxHeartbeats 4000000 in
theorem faults (op : Int) (s : ByteArray) (k : Int) (m : Int) (w : World) (hs : s.size < 9223372036854775000) (hm : w.cell? ⟨0, 0, none⟩ = some (.int .i64 m)) :
    Calls Tryz.prog 9 #[.int .i64 op, .string s, .int .i64 k] w fun e w' => e = .returned (.bool (lowB op s.toList k)) ∧ w = w' := by
  have HM := Go.Lib.hid hm
  clear hm
  go_enter Tryz.func9, Tryz.ntmps9
  go_wp2_with (go_at_call 18; refine (scopeF _ _ m _ hs HM.out).mono ?_; rintro e w' ⟨rfl, rfl⟩)
  all_goals first
    | (go_ret; refine ⟨?_, rfl⟩; refine congrArg Ending.returned (congrArg Value.bool ?_); first
        | (exfalso; simp_all; done)
        | (unfold lowB opIn; simp_all [eE, eR, eP]; done))

set_option maxHeartbeats 4000000 in
theorem faultsR (op : Int) (s : ByteArray) (k : Int) (w : World) :
    Calls Tryz.prog 11 #[.int .i64 op, .string s, .int .i64 k] w fun e w' => e = .returned (.bool (lowB op s.toList k)) ∧ w = w' := by
  rw [low_ref]
  go_enter Tryz.func11, Tryz.ntmps11
  go_wp2_with (go_at_call 20; refine (ref19 _ _ _).mono ?_; rintro e w' ⟨rfl, rfl⟩)
  all_goals first
    | (go_ret; refine ⟨?_, rfl⟩; refine congrArg Ending.returned (congrArg Value.bool ?_); first
        | (exfalso; simp_all; done)
        | (unfold refB opIn'; simp_all [eE, eR, eP]; done)
        | exact refB_far (by assumption) (by assumption) (by assumption) (by omega) (by omega))
def choosesB (a : Int) : Bool := decide (25 ≤ a) && decide (a ≤ 28)
set_option maxHeartbeats 400000 in
theorem choosesR (a : Int) (w : World) :
    Calls Tryz.prog 12 #[.int .i64 a] w fun e w' => e = .returned (.bool (choosesB a)) ∧ w = w' := by
  go_enter Tryz.func12, Tryz.ntmps12
  go_wp2
  all_goals first
    | (go_ret; refine ⟨?_, rfl⟩; refine congrArg Ending.returned (congrArg Value.bool ?_); first
        | (unfold choosesB; simp_all; done)
        | (unfold choosesB; simp; omega))
end Go.Proofs.LowW
/- Which parts have a test of truth: the code's function. -/
namespace Go.Proofs.LowW
open Go.RowKit Go.Proofs.LowM
set_option maxRecDepth 100000
theorem chooses_or (a : Int) : (decide (a = 28) || (decide (a = 25) || (decide (a = 26) || decide (a = 27)))) = choosesB a := by
  unfold choosesB
  rw [Bool.eq_iff_iff]
  simp only [Bool.or_eq_true, Bool.and_eq_true, decide_eq_true_iff]
  omega
set_option maxHeartbeats 1000000 in
theorem chooses (a : Int) (w : World) :
    Calls Tryz.prog 10 #[.int .i64 a] w fun e w' => e = .returned (.bool (choosesB a)) ∧ Below w.heap.size w w' := by
  go_enter Tryz.func10, Tryz.ntmps10
  go_wp2_with fail
  refine (Tryz.slices_Contains_int _ 0 4 4 [28, 25, 26, 27] a _ (by decide) (by decide) ?_).mono ?_
  · intro j hj
    rcases j with _ | _ | _ | _ | j
    · rw [World.cell?_alloc_new]; rfl
    · rw [World.cell?_alloc_new]; rfl
    · rw [World.cell?_alloc_new]; rfl
    · rw [World.cell?_alloc_new]; rfl
    · simp at hj; omega
  · rintro e w' ⟨rfl, rfl⟩
    go_wp2
    go_ret
    refine ⟨?_, (Below.refl _ _).alloc (Nat.le_refl _) _⟩
    refine congrArg Ending.returned (congrArg Value.bool ?_)
    exact chooses_or a
end Go.Proofs.LowW
