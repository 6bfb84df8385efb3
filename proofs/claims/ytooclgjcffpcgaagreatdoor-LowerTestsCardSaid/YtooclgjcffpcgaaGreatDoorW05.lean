/- The functions on tests, walked, third part. Part of the proof that LowerTests returns true for every input that reads as data, its listed variables laid as the text lays them. -/
import Derived.Test.YtooclgjcffpcgaaGreatDoorW03
/- The document's count of tests. -/
namespace Go.Proofs.LowW
open Go.RowKit Go.Proofs.LowM
set_option maxRecDepth 100000
set_option maxHeartbeats 8000000 in
theorem testsR (op at_ sure : Int) (txt : ByteArray) (c4 c5 c6 c7 c8 c9 : Value) (b off len cap : Nat) (w : World)
    (hl : len ≤ 9223372036854775807) (X Y : Nat → Int) (hk : Kids 7 w b off len X Y) :
    Calls Tryz.prog 7 #[.agg #[.int .i64 op, .int .i64 at_, .int .i64 sure, .string txt, c4, c5, c6, c7, c8, c9, .slice (some ⟨b, off, none⟩) len cap]] w
      (Two (acc (iA op txt.toList len) X len) (acc (iM op sure txt.toList len) Y len) w) := by
  have HK : Hid (Kids 7 w b off len X Y) := hk
  clear hk
  have HB : Hid (Below w.heap.size w (w.alloc (.cells #[.int .i64 op, .int .i64 at_, .int .i64 sure, .string txt, c4, c5, c6, c7, c8, c9, .slice (some ⟨b, off, none⟩) len cap] 28))) := (Below.refl _ _).alloc (Nat.le_refl _) _
  cases hF : lowB op txt.toList len <;> cases hC : choosesB op <;> cases h1 : (bits BinOp.and IntKind.i64 sure 1 == 0) <;> cases h6 : (bits BinOp.and IntKind.i64 sure 6 == 0)
  all_goals
    have eA : Hid (acc (iA op txt.toList len) X 0 = (if lowB op txt.toList len = true then 1 else 0) + (if choosesB op = true then 1 else 0)) := rfl
    have eM : Hid (acc (iM op sure txt.toList len) Y 0 = (if lowB op txt.toList len = true then (if (bits BinOp.and IntKind.i64 sure 1 == 0) = true then 1 else 0) else 0) + (if choosesB op = true then (if (bits BinOp.and IntKind.i64 sure 6 == 0) = true then 1 else 0) else 0)) := rfl
    go_enter Tryz.func7, Tryz.ntmps7
    go_wp2_with (first
      | (go_at_call 11; refine (faultsR _ _ _ _).mono ?_; rintro e w' ⟨rfl, rfl⟩)
      | (go_at_call 12; refine (choosesR _ _).mono ?_; rintro e w' ⟨rfl, rfl⟩))
    go_loopw [4, 5, 6] (fun t4 t5 i wr => ∃ k : Nat, k ≤ len ∧ i = .int .i64 k ∧ t4 = .int .i64 (acc (iA op txt.toList len) X k) ∧ t5 = .int .i64 (acc (iM op sure txt.toList len) Y k) ∧ Below (w.heap.size + 1) (w.alloc (.cells #[.int .i64 op, .int .i64 at_, .int .i64 sure, .string txt, c4, c5, c6, c7, c8, c9, .slice (some ⟨b, off, none⟩) len cap] 28)) wr) (fun _ _ i _ => len - (intOf i).toNat)
    case atStart =>
      exact ⟨0, Nat.zero_le _, rfl, by rw [eA.out, hF, hC]; rfl, by rw [eM.out, hF, hC, h1, h6]; rfl, Below.refl _ _⟩
    case round =>
      obtain ⟨k, hk, rfl, rfl, rfl, hbx⟩ := hrel
      have hbl : Below w.heap.size w wr := HB.out.trans (hbx.mono (Nat.le_succ _))
      have gk : wr.cell? ⟨w.heap.size, 10, none⟩ = some (.slice (some ⟨b, off, none⟩) len cap) := by
        rw [hbx.cell (p := ⟨w.heap.size, 10, none⟩) (Nat.lt_succ_self _), World.cell?_alloc_new]; rfl
      have hsz := hbl.size
      have hsx := hbx.size
      have HX := Go.Lib.hid hbx
      have HL := Go.Lib.hid hbl
      have hs1 : w.heap.size + 1 ≤ wr.heap.size := by simpa using hsx
      clear hsx hbx
      by_cases hlt : k < len
      · obtain ⟨o0, o1, o2, o3, o4, o5, o6, p7, l7, k7, p8, l8, k8, p9, l9, k9, p10, l10, k10, hcells, hcall⟩ := HK.out k hlt
        obtain ⟨g0, g1, g2, g3, g4, g5, g6, g7, g8, g9, g10⟩ := hcells _ hbl
        have HC := Go.Lib.hid hcall
        clear hcall hcells hbl
        go_wp2_with (go_at_call 7; refine (HC.out _ HL.out).mono ?_; rintro e w2 ⟨rfl, hb2⟩)
        go_roundw
        case rel => exact ⟨k + 1, by omega, by go_num, rfl, rfl, HX.out.trans (hb2.mono hs1)⟩
        case measure => simp [intOf]; omega
      · clear hbl
        go_wp2
        have e : k = len := by omega
        subst e
        go_ret2
        exact ⟨rfl, HL.out⟩

end Go.Proofs.LowW
/- The document's count of tests, of a part without kids. -/
namespace Go.Proofs.LowW
open Go.RowKit Go.Proofs.LowM
set_option maxRecDepth 100000
set_option maxHeartbeats 8000000 in
theorem testsR0 (op at_ sure : Int) (txt : ByteArray) (c4 c5 c6 c7 c8 c9 : Value) (p : Option Addr) (cap : Nat) (w : World)
    (X Y : Nat → Int) :
    Calls Tryz.prog 7 #[.agg #[.int .i64 op, .int .i64 at_, .int .i64 sure, .string txt, c4, c5, c6, c7, c8, c9, .slice p 0 cap]] w
      (Two (acc (iA op txt.toList 0) X 0) (acc (iM op sure txt.toList 0) Y 0) w) := by
  have HB : Hid (Below w.heap.size w (w.alloc (.cells #[.int .i64 op, .int .i64 at_, .int .i64 sure, .string txt, c4, c5, c6, c7, c8, c9, .slice p 0 cap] 28))) := (Below.refl _ _).alloc (Nat.le_refl _) _
  cases hF : lowB op txt.toList 0 <;> cases hC : choosesB op <;> cases h1 : (bits BinOp.and IntKind.i64 sure 1 == 0) <;> cases h6 : (bits BinOp.and IntKind.i64 sure 6 == 0)
  all_goals
    have eA : Hid (acc (iA op txt.toList 0) X 0 = (if lowB op txt.toList 0 = true then 1 else 0) + (if choosesB op = true then 1 else 0)) := rfl
    have eM : Hid (acc (iM op sure txt.toList 0) Y 0 = (if lowB op txt.toList 0 = true then (if (bits BinOp.and IntKind.i64 sure 1 == 0) = true then 1 else 0) else 0) + (if choosesB op = true then (if (bits BinOp.and IntKind.i64 sure 6 == 0) = true then 1 else 0) else 0)) := rfl
    go_enter Tryz.func7, Tryz.ntmps7
    go_wp2_with (first
      | (go_at_call 11; refine (faultsR _ _ _ _).mono ?_; rintro e w' ⟨rfl, rfl⟩)
      | (go_at_call 12; refine (choosesR _ _).mono ?_; rintro e w' ⟨rfl, rfl⟩))
    go_loopw [4, 5, 6] (fun t4 t5 i wr => ∃ k : Nat, k ≤ 0 ∧ i = .int .i64 k ∧ t4 = .int .i64 (acc (iA op txt.toList 0) X k) ∧ t5 = .int .i64 (acc (iM op sure txt.toList 0) Y k) ∧ Below (w.heap.size + 1) (w.alloc (.cells #[.int .i64 op, .int .i64 at_, .int .i64 sure, .string txt, c4, c5, c6, c7, c8, c9, .slice p 0 cap] 28)) wr) (fun _ _ i _ => 0 - (intOf i).toNat)
    case atStart =>
      exact ⟨0, Nat.zero_le _, rfl, by rw [eA.out, hF, hC]; rfl, by rw [eM.out, hF, hC, h1, h6]; rfl, Below.refl _ _⟩
    case round =>
      obtain ⟨k, hk, rfl, rfl, rfl, hbx⟩ := hrel
      have hbl : Below w.heap.size w wr := HB.out.trans (hbx.mono (Nat.le_succ _))
      have gk : wr.cell? ⟨w.heap.size, 10, none⟩ = some (.slice p 0 cap) := by
        rw [hbx.cell (p := ⟨w.heap.size, 10, none⟩) (Nat.lt_succ_self _), World.cell?_alloc_new]; rfl
      have hsz := hbl.size
      have hsx := hbx.size
      have e : k = 0 := by omega
      subst e
      go_wp2
      go_ret2
      exact ⟨rfl, hbl⟩

end Go.Proofs.LowW
