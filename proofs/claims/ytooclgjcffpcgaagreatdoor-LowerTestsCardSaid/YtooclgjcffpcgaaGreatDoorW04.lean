/- The functions on tests, walked, second part. Part of the proof that LowerTests returns true for every input that reads as data, its listed variables laid as the text lays them. -/
import Derived.Test.YtooclgjcffpcgaaGreatDoorW03
/- The code's count of tests. -/
namespace Go.Proofs.LowW
open Go.RowKit Go.Proofs.LowM
set_option maxRecDepth 100000
set_option maxHeartbeats 8000000 in
theorem testsL (op at_ sure : Int) (txt : ByteArray) (c4 c5 c6 c7 c8 c9 : Value) (b off len cap : Nat) (m : Int) (w : World) (hs : txt.size < 9223372036854775000) (hm : w.cell? ⟨0, 0, none⟩ = some (.int .i64 m)) (h0 : 0 < w.heap.size)
    (hl : len ≤ 9223372036854775807) (X Y : Nat → Int) (hk : Kids 6 w b off len X Y) :
    Calls Tryz.prog 6 #[.agg #[.int .i64 op, .int .i64 at_, .int .i64 sure, .string txt, c4, c5, c6, c7, c8, c9, .slice (some ⟨b, off, none⟩) len cap]] w
      (Two (acc (iA op txt.toList len) X len) (acc (iM op sure txt.toList len) Y len) w) := by
  have HM : Hid (∀ w', Below w.heap.size w w' → w'.cell? ⟨0, 0, none⟩ = some (.int .i64 m)) := fun w' hb => (hb.cell (p := ⟨0, 0, none⟩) h0).trans hm
  have HK : Hid (Kids 6 w b off len X Y) := hk
  clear hm hk
  cases hF : lowB op txt.toList len <;> cases hC : choosesB op <;> cases h1 : (bits BinOp.and IntKind.i64 sure 1 == 0) <;> cases h6 : (bits BinOp.and IntKind.i64 sure 6 == 0)
  all_goals
    have eA : Hid (acc (iA op txt.toList len) X 0 = (if lowB op txt.toList len = true then 1 else 0) + (if choosesB op = true then 1 else 0)) := rfl
    have eM : Hid (acc (iM op sure txt.toList len) Y 0 = (if lowB op txt.toList len = true then (if (bits BinOp.and IntKind.i64 sure 1 == 0) = true then 1 else 0) else 0) + (if choosesB op = true then (if (bits BinOp.and IntKind.i64 sure 6 == 0) = true then 1 else 0) else 0)) := rfl
    go_enter Tryz.func6, Tryz.ntmps6
    go_wp2_with (first
      | (go_at_call 9; refine (faults _ _ _ m _ hs (HM.out _ ((Below.refl _ _).alloc (Nat.le_refl _) _))).mono ?_; rintro e w' ⟨rfl, rfl⟩)
      | (go_at_call 10; refine (chooses _ _).mono ?_; rintro e w1 ⟨rfl, hb⟩; obtain ⟨hc, hf⟩ := bcell hb))
    go_loopw [2, 3, 38] (fun t2 t3 i wr => ∃ k : Nat, k ≤ len ∧ i = .int .i64 k ∧ t2 = .int .i64 (acc (iA op txt.toList len) X k) ∧ t3 = .int .i64 (acc (iM op sure txt.toList len) Y k) ∧ Below w.heap.size w wr) (fun _ _ i _ => len - (intOf i).toNat)
    case atStart =>
      exact ⟨0, Nat.zero_le _, rfl, by rw [eA.out, hF, hC]; rfl, by rw [eM.out, hF, hC, h1, h6]; rfl, ((Below.refl _ _).alloc (Nat.le_refl _) _).trans (hb.mono (by simp))⟩
    case round =>
      clear hc hf hb
      obtain ⟨k, hk, rfl, rfl, rfl, hbl⟩ := hrel
      have hsz := hbl.size
      by_cases hlt : k < len
      · obtain ⟨o0, o1, o2, o3, o4, o5, o6, p7, l7, k7, p8, l8, k8, p9, l9, k9, p10, l10, k10, hcells, hcall⟩ := HK.out k hlt
        obtain ⟨g0, g1, g2, g3, g4, g5, g6, g7, g8, g9, g10⟩ := hcells _ hbl
        have HC := Go.Lib.hid hcall
        clear hcall hcells
        go_wp2_with (go_at_call 6; refine (HC.out _ (hbl.alloc hsz _)).mono ?_; rintro e w2 ⟨rfl, hb2⟩)
        go_roundw
        case rel => exact ⟨k + 1, by omega, by go_num, rfl, rfl, (hbl.alloc hsz _).trans (hb2.mono (by simp; omega))⟩
        case measure => simp [intOf]; omega
      · go_wp2
        have e : k = len := by omega
        subst e
        go_ret2
        exact ⟨rfl, hbl⟩

end Go.Proofs.LowW
/- The code's count of tests, of a part without kids. -/
namespace Go.Proofs.LowW
open Go.RowKit Go.Proofs.LowM
set_option maxRecDepth 100000
set_option maxHeartbeats 8000000 in
theorem testsL0 (op at_ sure : Int) (txt : ByteArray) (c4 c5 c6 c7 c8 c9 : Value) (p : Option Addr) (cap : Nat) (m : Int) (w : World) (hs : txt.size < 9223372036854775000) (hm : w.cell? ⟨0, 0, none⟩ = some (.int .i64 m)) (h0 : 0 < w.heap.size)
    (X Y : Nat → Int) :
    Calls Tryz.prog 6 #[.agg #[.int .i64 op, .int .i64 at_, .int .i64 sure, .string txt, c4, c5, c6, c7, c8, c9, .slice p 0 cap]] w
      (Two (acc (iA op txt.toList 0) X 0) (acc (iM op sure txt.toList 0) Y 0) w) := by
  have HM : Hid (∀ w', Below w.heap.size w w' → w'.cell? ⟨0, 0, none⟩ = some (.int .i64 m)) := fun w' hb => (hb.cell (p := ⟨0, 0, none⟩) h0).trans hm
  clear hm
  cases hF : lowB op txt.toList 0 <;> cases hC : choosesB op <;> cases h1 : (bits BinOp.and IntKind.i64 sure 1 == 0) <;> cases h6 : (bits BinOp.and IntKind.i64 sure 6 == 0)
  all_goals
    have eA : Hid (acc (iA op txt.toList 0) X 0 = (if lowB op txt.toList 0 = true then 1 else 0) + (if choosesB op = true then 1 else 0)) := rfl
    have eM : Hid (acc (iM op sure txt.toList 0) Y 0 = (if lowB op txt.toList 0 = true then (if (bits BinOp.and IntKind.i64 sure 1 == 0) = true then 1 else 0) else 0) + (if choosesB op = true then (if (bits BinOp.and IntKind.i64 sure 6 == 0) = true then 1 else 0) else 0)) := rfl
    go_enter Tryz.func6, Tryz.ntmps6
    go_wp2_with (first
      | (go_at_call 9; refine (faults _ _ _ m _ hs (HM.out _ ((Below.refl _ _).alloc (Nat.le_refl _) _))).mono ?_; rintro e w' ⟨rfl, rfl⟩)
      | (go_at_call 10; refine (chooses _ _).mono ?_; rintro e w1 ⟨rfl, hb⟩; obtain ⟨hc, hf⟩ := bcell hb))
    go_loopw [2, 3, 38] (fun t2 t3 i wr => ∃ k : Nat, k ≤ 0 ∧ i = .int .i64 k ∧ t2 = .int .i64 (acc (iA op txt.toList 0) X k) ∧ t3 = .int .i64 (acc (iM op sure txt.toList 0) Y k) ∧ Below w.heap.size w wr) (fun _ _ i _ => 0 - (intOf i).toNat)
    case atStart =>
      exact ⟨0, Nat.zero_le _, rfl, by rw [eA.out, hF, hC]; rfl, by rw [eM.out, hF, hC, h1, h6]; rfl, ((Below.refl _ _).alloc (Nat.le_refl _) _).trans (hb.mono (by simp))⟩
    case round =>
      clear hc hf hb
      obtain ⟨k, hk, rfl, rfl, rfl, hbl⟩ := hrel
      have e : k = 0 := by omega
      subst e
      go_wp2
      go_ret2
      exact ⟨rfl, hbl⟩

end Go.Proofs.LowW
