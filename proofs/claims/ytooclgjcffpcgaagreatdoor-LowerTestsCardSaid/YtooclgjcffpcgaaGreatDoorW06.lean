/- The recursion on codes, and the law, walked. Part of the proof that LowerTests returns true for every input that reads as data, its listed variables laid as the text lays them. -/
import Derived.Test.YtooclgjcffpcgaaGreatDoorW03
import Derived.Test.YtooclgjcffpcgaaGreatDoorW04
import Derived.Test.YtooclgjcffpcgaaGreatDoorW05
import Derived.Test.YtooclgjcffpcgaaGreatDoorT09
/- The count of parts: a number, whichever. -/
namespace Go.Proofs.LowW
open Go.RowKit Go.Proofs.LowM
set_option maxRecDepth 100000
set_option maxHeartbeats 8000000 in
theorem parts0 (op at_ sure : Int) (txt : ByteArray) (c4 c5 c6 c7 c8 c9 : Value) (p : Option Addr) (cap : Nat) (most : Int) (w : World) :
    Calls Tryz.prog 5 #[.agg #[.int .i64 op, .int .i64 at_, .int .i64 sure, .string txt, c4, c5, c6, c7, c8, c9, .slice p 0 cap], .int .i64 most] w (Some1 w) := by
  have HB : Hid (Below w.heap.size w (w.alloc (.cells #[.int .i64 op, .int .i64 at_, .int .i64 sure, .string txt, c4, c5, c6, c7, c8, c9, .slice p 0 cap] 28))) := (Below.refl _ _).alloc (Nat.le_refl _) _
  go_enter Tryz.func5, Tryz.ntmps5
  go_wp2
  go_loopw [5, 6] (fun t5 i wr => ∃ (k : Nat) (n : Int), k ≤ 0 ∧ i = .int .i64 k ∧ t5 = .int .i64 n ∧ Below (w.heap.size + 1) (w.alloc (.cells #[.int .i64 op, .int .i64 at_, .int .i64 sure, .string txt, c4, c5, c6, c7, c8, c9, .slice p 0 cap] 28)) wr) (fun _ i _ => 0 - (intOf i).toNat)
  case atStart => exact ⟨0, 1, Nat.zero_le _, rfl, rfl, Below.refl _ _⟩
  case round =>
    obtain ⟨k, n, hk, rfl, rfl, hbx⟩ := hrel
    have hbl : Below w.heap.size w wr := HB.out.trans (hbx.mono (Nat.le_succ _))
    have gk : wr.cell? ⟨w.heap.size, 10, none⟩ = some (.slice p 0 cap) := by
      rw [hbx.cell (p := ⟨w.heap.size, 10, none⟩) (Nat.lt_succ_self _), World.cell?_alloc_new]; rfl
    have HX := Go.Lib.hid hbx
    have HL := Go.Lib.hid hbl
    have hs1 : w.heap.size + 1 ≤ wr.heap.size := by simpa using hbx.size
    have e : k = 0 := by omega
    subst e
    clear hbl hbx
    go_wp2
    go_ret
    exact ⟨n, rfl, HL.out⟩
set_option maxHeartbeats 8000000 in
theorem parts (op at_ sure : Int) (txt : ByteArray) (c4 c5 c6 c7 c8 c9 : Value) (b off len cap : Nat) (most : Int) (w : World) (hl : len ≤ 9223372036854775807) (hk : KidsP w b off len) :
    Calls Tryz.prog 5 #[.agg #[.int .i64 op, .int .i64 at_, .int .i64 sure, .string txt, c4, c5, c6, c7, c8, c9, .slice (some ⟨b, off, none⟩) len cap], .int .i64 most] w (Some1 w) := by
  have HK : Hid (KidsP w b off len) := hk
  clear hk
  have HB : Hid (Below w.heap.size w (w.alloc (.cells #[.int .i64 op, .int .i64 at_, .int .i64 sure, .string txt, c4, c5, c6, c7, c8, c9, .slice (some ⟨b, off, none⟩) len cap] 28))) := (Below.refl _ _).alloc (Nat.le_refl _) _
  go_enter Tryz.func5, Tryz.ntmps5
  go_wp2
  go_loopw [5, 6] (fun t5 i wr => ∃ (k : Nat) (n : Int), k ≤ len ∧ i = .int .i64 k ∧ t5 = .int .i64 n ∧ Below (w.heap.size + 1) (w.alloc (.cells #[.int .i64 op, .int .i64 at_, .int .i64 sure, .string txt, c4, c5, c6, c7, c8, c9, .slice (some ⟨b, off, none⟩) len cap] 28)) wr) (fun _ i _ => len - (intOf i).toNat)
  case atStart => exact ⟨0, 1, Nat.zero_le _, rfl, rfl, Below.refl _ _⟩
  case round =>
    obtain ⟨k, n, hk, rfl, rfl, hbx⟩ := hrel
    have hbl : Below w.heap.size w wr := HB.out.trans (hbx.mono (Nat.le_succ _))
    have gk : wr.cell? ⟨w.heap.size, 10, none⟩ = some (.slice (some ⟨b, off, none⟩) len cap) := by
      rw [hbx.cell (p := ⟨w.heap.size, 10, none⟩) (Nat.lt_succ_self _), World.cell?_alloc_new]; rfl
    have HX := Go.Lib.hid hbx
    have HL := Go.Lib.hid hbl
    have hs1 : w.heap.size + 1 ≤ wr.heap.size := by simpa using hbx.size
    clear hbx
    by_cases hlt : k < len
    · obtain ⟨o0, o1, o2, o3, o4, o5, o6, p7, l7, k7, p8, l8, k8, p9, l9, k9, p10, l10, k10, hcells, hcall⟩ := HK.out k hlt
      obtain ⟨g0, g1, g2, g3, g4, g5, g6, g7, g8, g9, g10⟩ := hcells _ hbl
      have HC := Go.Lib.hid hcall
      clear hcall hcells hbl
      go_wp2_with (go_at_call 5; refine (HC.out _ _ HL.out).mono ?_; rintro e w2 ⟨n2, rfl, hb2⟩)
      · go_roundw
        case rel => exact ⟨k + 1, _, by omega, by go_num, rfl, HX.out.trans (hb2.mono hs1)⟩
        case measure => simp [intOf]; omega
      · go_ret
        exact ⟨n, rfl, HL.out⟩
    · clear hbl
      go_wp2
      go_ret
      exact ⟨n, rfl, HL.out⟩

end Go.Proofs.LowW
/- The three counts, of any code that can be read: all tests and those that are made are the same numbers in both. -/
namespace Go.Proofs.LowW
open Go.RowKit Go.Proofs.LowM
set_option maxRecDepth 100000
/-- a code that can be read, so deep. -/
def CodeT (w : World) : Nat → Array Value → Prop
  | 0, _ => False
  | d + 1, cs => ∃ (o0 o1 o2 : Int) (o3 : ByteArray) (o4 : Int) (o5 o6 : ByteArray) (p7 : Option Addr) (l7 k7 : Nat) (p8 : Option Addr) (l8 k8 : Nat) (p9 : Option Addr) (l9 k9 : Nat) (kv : Value), cs = #[.int .i64 o0, .int .i64 o1, .int .i64 o2, .string o3, .int .i64 o4, .string o5, .string o6, .slice p7 l7 k7, .slice p8 l8 k8, .slice p9 l9 k9, kv] ∧ o3.size < 9223372036854775000 ∧
      ((∃ (p : Option Addr) (cap : Nat), kv = .slice p 0 cap) ∨ ∃ b off len cap : Nat, kv = .slice (some ⟨b, off, none⟩) len cap ∧ len ≤ 9223372036854775807 ∧
        ∀ i, i < len → ∃ ks : Array Value, (∀ j, j < 11 → w.cell? ⟨b, off + i * 11 + j, none⟩ = ks[j]?) ∧ CodeT w d ks)
def Good3 (w : World) (cs : Array Value) (a m : Int) : Prop := ∀ wr, Below w.heap.size w wr →
  Calls Tryz.prog 6 #[.agg cs] wr (Two a m wr) ∧ Calls Tryz.prog 7 #[.agg cs] wr (Two a m wr) ∧ ∀ q : Int, Calls Tryz.prog 5 #[.agg cs, .int .i64 q] wr (Some1 wr)
theorem CodeT.shape {w : World} {d : Nat} {cs : Array Value} (h : CodeT w d cs) : ∃ (o0 o1 o2 : Int) (o3 : ByteArray) (o4 : Int) (o5 o6 : ByteArray) (p7 : Option Addr) (l7 k7 : Nat) (p8 : Option Addr) (l8 k8 : Nat) (p9 : Option Addr) (l9 k9 : Nat) (p10 : Option Addr) (l10 k10 : Nat), cs = #[.int .i64 o0, .int .i64 o1, .int .i64 o2, .string o3, .int .i64 o4, .string o5, .string o6, .slice p7 l7 k7, .slice p8 l8 k8, .slice p9 l9 k9, .slice p10 l10 k10] := by
  cases d with
  | zero => exact h.elim
  | succ d =>
    obtain ⟨o0, o1, o2, o3, o4, o5, o6, p7, l7, k7, p8, l8, k8, p9, l9, k9, kv, rfl, _, ⟨p, cap, rfl⟩ | ⟨b, off, len, cap, rfl, _⟩⟩ := h
    · exact ⟨o0, o1, o2, o3, o4, o5, o6, p7, l7, k7, p8, l8, k8, p9, l9, k9, p, 0, cap, rfl⟩
    · exact ⟨o0, o1, o2, o3, o4, o5, o6, p7, l7, k7, p8, l8, k8, p9, l9, k9, _, len, cap, rfl⟩
theorem cell_lt {w : World} {b o : Nat} {v : Value} (h : w.cell? ⟨b, o, none⟩ = some v) : b < w.heap.size := by
  rcases Nat.lt_or_ge b w.heap.size with h1 | h1
  · exact h1
  · have : w.heap[b]? = none := Array.getElem?_eq_none h1
    simp [World.cell?, this] at h
/-- the kids of a part, once each of them is good. -/
theorem kids_of {w : World} {b off len d : Nat} {X Y : Nat → Int} (h : ∀ i, i < len → ∃ ks : Array Value, (∀ j, j < 11 → w.cell? ⟨b, off + i * 11 + j, none⟩ = ks[j]?) ∧ CodeT w d ks ∧ Good3 w ks (X i) (Y i))
    {wr : World} (hb : Below w.heap.size w wr) : Kids 6 wr b off len X Y ∧ Kids 7 wr b off len X Y ∧ KidsP wr b off len := by
  have all : ∀ k, k < len → ∃ (o0 o1 o2 : Int) (o3 : ByteArray) (o4 : Int) (o5 o6 : ByteArray) (p7 : Option Addr) (l7 k7 : Nat) (p8 : Option Addr) (l8 k8 : Nat) (p9 : Option Addr) (l9 k9 : Nat) (p10 : Option Addr) (l10 k10 : Nat), (∀ wr', Below wr.heap.size wr wr' → wr'.cell? ⟨b, off + k * 11, none⟩ = some (.int .i64 o0) ∧ wr'.cell? ⟨b, off + k * 11 + 1, none⟩ = some (.int .i64 o1) ∧ wr'.cell? ⟨b, off + k * 11 + 2, none⟩ = some (.int .i64 o2) ∧ wr'.cell? ⟨b, off + k * 11 + 3, none⟩ = some (.string o3) ∧ wr'.cell? ⟨b, off + k * 11 + 4, none⟩ = some (.int .i64 o4) ∧ wr'.cell? ⟨b, off + k * 11 + 5, none⟩ = some (.string o5) ∧ wr'.cell? ⟨b, off + k * 11 + 6, none⟩ = some (.string o6) ∧ wr'.cell? ⟨b, off + k * 11 + 7, none⟩ = some (.slice p7 l7 k7) ∧ wr'.cell? ⟨b, off + k * 11 + 8, none⟩ = some (.slice p8 l8 k8) ∧ wr'.cell? ⟨b, off + k * 11 + 9, none⟩ = some (.slice p9 l9 k9) ∧ wr'.cell? ⟨b, off + k * 11 + 10, none⟩ = some (.slice p10 l10 k10)) ∧ Good3 w #[.int .i64 o0, .int .i64 o1, .int .i64 o2, .string o3, .int .i64 o4, .string o5, .string o6, .slice p7 l7 k7, .slice p8 l8 k8, .slice p9 l9 k9, .slice p10 l10 k10] (X k) (Y k) := by
    intro k hk
    obtain ⟨ks, h1, h2, h3⟩ := h k hk
    obtain ⟨o0, o1, o2, o3, o4, o5, o6, p7, l7, k7, p8, l8, k8, p9, l9, k9, p10, l10, k10, rfl⟩ := h2.shape
    refine ⟨o0, o1, o2, o3, o4, o5, o6, p7, l7, k7, p8, l8, k8, p9, l9, k9, p10, l10, k10, fun wr' hb' => ?_, h3⟩
    have hlt : b < w.heap.size := cell_lt (h1 0 (by decide))
    have hbb : Below w.heap.size w wr' := hb.trans (hb'.mono hb.size)
    have at_ : ∀ j, j < 11 → wr'.cell? ⟨b, off + k * 11 + j, none⟩ = (#[.int .i64 o0, .int .i64 o1, .int .i64 o2, .string o3, .int .i64 o4, .string o5, .string o6, .slice p7 l7 k7, .slice p8 l8 k8, .slice p9 l9 k9, .slice p10 l10 k10] : Array Value)[j]? := fun j hj => (hbb.cell (p := ⟨b, off + k * 11 + j, none⟩) hlt).trans (h1 j hj)
    exact ⟨at_ 0 (by decide), at_ 1 (by decide), at_ 2 (by decide), at_ 3 (by decide), at_ 4 (by decide), at_ 5 (by decide), at_ 6 (by decide), at_ 7 (by decide), at_ 8 (by decide), at_ 9 (by decide), at_ 10 (by decide)⟩
  refine ⟨fun k hk => ?_, fun k hk => ?_, fun k hk => ?_⟩
  all_goals
    obtain ⟨o0, o1, o2, o3, o4, o5, o6, p7, l7, k7, p8, l8, k8, p9, l9, k9, p10, l10, k10, h1, h2⟩ := all k hk
    refine ⟨o0, o1, o2, o3, o4, o5, o6, p7, l7, k7, p8, l8, k8, p9, l9, k9, p10, l10, k10, h1, ?_⟩
  · exact fun wr' hb' => (h2 wr' (hb.trans (hb'.mono hb.size))).1
  · exact fun wr' hb' => (h2 wr' (hb.trans (hb'.mono hb.size))).2.1
  · exact fun q wr' hb' => (h2 wr' (hb.trans (hb'.mono hb.size))).2.2 q
theorem good3 {w : World} {m : Int} (hm : w.cell? ⟨0, 0, none⟩ = some (.int .i64 m)) : ∀ (d : Nat) (cs : Array Value), CodeT w d cs → ∃ a b : Int, Good3 w cs a b := by
  have h0 : 0 < w.heap.size := cell_lt hm
  intro d
  induction d with
  | zero => intro cs h; exact h.elim
  | succ d ih =>
    intro cs h
    obtain ⟨o0, o1, o2, o3, o4, o5, o6, p7, l7, k7, p8, l8, k8, p9, l9, k9, kv, rfl, hs, ⟨p, cap, rfl⟩ | ⟨b, off, len, cap, rfl, hl, hk⟩⟩ := h
    · refine ⟨acc (iA o0 o3.toList 0) (fun _ => 0) 0, acc (iM o0 o2 o3.toList 0) (fun _ => 0) 0, fun wr hb => ⟨?_, ?_, fun q => ?_⟩⟩
      · exact testsL0 _ _ _ _ _ _ _ _ _ _ p cap m wr hs ((hb.cell (p := ⟨0, 0, none⟩) h0).trans hm) (Nat.lt_of_lt_of_le h0 hb.size) _ _
      · exact testsR0 _ _ _ _ _ _ _ _ _ _ p cap wr _ _
      · exact parts0 _ _ _ _ _ _ _ _ _ _ p cap q wr
    · have hX : ∃ X Y : Nat → Int, ∀ i, i < len → ∃ ks : Array Value, (∀ j, j < 11 → w.cell? ⟨b, off + i * 11 + j, none⟩ = ks[j]?) ∧ CodeT w d ks ∧ Good3 w ks (X i) (Y i) := by
        have one : ∀ i, ∃ xy : Int × Int, i < len → ∃ ks : Array Value, (∀ j, j < 11 → w.cell? ⟨b, off + i * 11 + j, none⟩ = ks[j]?) ∧ CodeT w d ks ∧ Good3 w ks xy.1 xy.2 := by
          intro i
          by_cases hi : i < len
          · obtain ⟨ks, h1, h2⟩ := hk i hi
            obtain ⟨x, y, h3⟩ := ih ks h2
            exact ⟨(x, y), fun _ => ⟨ks, h1, h2, h3⟩⟩
          · exact ⟨(0, 0), fun h => absurd h hi⟩
        exact ⟨fun i => (Classical.choose (one i)).1, fun i => (Classical.choose (one i)).2, fun i hi => Classical.choose_spec (one i) hi⟩
      obtain ⟨X, Y, hXY⟩ := hX
      refine ⟨acc (iA o0 o3.toList len) X len, acc (iM o0 o2 o3.toList len) Y len, fun wr hb => ?_⟩
      obtain ⟨q1, q2, q3⟩ := kids_of hXY hb
      refine ⟨?_, ?_, fun q => ?_⟩
      · exact testsL _ _ _ _ _ _ _ _ _ _ b off len cap m wr hs ((hb.cell (p := ⟨0, 0, none⟩) h0).trans hm) (Nat.lt_of_lt_of_le h0 hb.size) hl X Y q1
      · exact testsR _ _ _ _ _ _ _ _ _ _ b off len cap wr hl X Y q2
      · exact parts _ _ _ _ _ _ _ _ _ _ b off len cap q wr hl q3
end Go.Proofs.LowW
/- The law: whatever the code, it answers true. -/
namespace Go.Proofs.LowW
open Go.RowKit Go.Proofs.LowM
set_option maxRecDepth 100000
theorem livesC (w : World) : Calls Tryz.prog 4 #[] w fun e w' => e = .returned (.bool true) ∧ Below w.heap.size w w' :=
  (LiveT.lives w).mono fun e w' h => by
    cases e with
    | returned v => exact ⟨by rw [h.1], h.2⟩
    | _ => exact h.elim
theorem boxed {w wr : World} {o0 o1 o2 : Int} {o3 : ByteArray} {o4 : Int} {o5 o6 : ByteArray} {p7 : Option Addr} {l7 k7 : Nat} {p8 : Option Addr} {l8 k8 : Nat} {p9 : Option Addr} {l9 k9 : Nat} {p10 : Option Addr} {l10 k10 : Nat} (hb : Below (w.heap.size + 1) (w.alloc (.cells #[.int .i64 o0, .int .i64 o1, .int .i64 o2, .string o3, .int .i64 o4, .string o5, .string o6, .slice p7 l7 k7, .slice p8 l8 k8, .slice p9 l9 k9, .slice p10 l10 k10] 28)) wr) : wr.cell? ⟨w.heap.size, 0, none⟩ = some (.int .i64 o0) ∧ wr.cell? ⟨w.heap.size, 1, none⟩ = some (.int .i64 o1) ∧ wr.cell? ⟨w.heap.size, 2, none⟩ = some (.int .i64 o2) ∧ wr.cell? ⟨w.heap.size, 3, none⟩ = some (.string o3) ∧ wr.cell? ⟨w.heap.size, 4, none⟩ = some (.int .i64 o4) ∧ wr.cell? ⟨w.heap.size, 5, none⟩ = some (.string o5) ∧ wr.cell? ⟨w.heap.size, 6, none⟩ = some (.string o6) ∧ wr.cell? ⟨w.heap.size, 7, none⟩ = some (.slice p7 l7 k7) ∧ wr.cell? ⟨w.heap.size, 8, none⟩ = some (.slice p8 l8 k8) ∧ wr.cell? ⟨w.heap.size, 9, none⟩ = some (.slice p9 l9 k9) ∧ wr.cell? ⟨w.heap.size, 10, none⟩ = some (.slice p10 l10 k10) := by
  have at_ : ∀ j, wr.cell? ⟨w.heap.size, j, none⟩ = (#[.int .i64 o0, .int .i64 o1, .int .i64 o2, .string o3, .int .i64 o4, .string o5, .string o6, .slice p7 l7 k7, .slice p8 l8 k8, .slice p9 l9 k9, .slice p10 l10 k10] : Array Value)[j]? := fun j =>
    (hb.cell (p := ⟨w.heap.size, j, none⟩) (Nat.lt_succ_self _)).trans (World.cell?_alloc_new ..)
  exact ⟨at_ 0, at_ 1, at_ 2, at_ 3, at_ 4, at_ 5, at_ 6, at_ 7, at_ 8, at_ 9, at_ 10⟩
set_option maxHeartbeats 4000000 in
theorem law {w : World} {m : Int} (hm : w.cell? ⟨0, 0, none⟩ = some (.int .i64 m)) {d : Nat} {cs : Array Value} (h : CodeT w d cs) :
    Calls Tryz.prog 3 #[.agg cs] w fun e w' => e = .returned (.bool true) ∧ Below w.heap.size w w' := by
  obtain ⟨a, b, hg⟩ := good3 hm d cs h
  obtain ⟨o0, o1, o2, o3, o4, o5, o6, p7, l7, k7, p8, l8, k8, p9, l9, k9, p10, l10, k10, rfl⟩ := h.shape
  have HG := Go.Lib.hid hg
  clear hg h hm
  have HB : Hid (Below w.heap.size w (w.alloc (.cells #[.int .i64 o0, .int .i64 o1, .int .i64 o2, .string o3, .int .i64 o4, .string o5, .string o6, .slice p7 l7 k7, .slice p8 l8 k8, .slice p9 l9 k9, .slice p10 l10 k10] 28))) := (Below.refl _ _).alloc (Nat.le_refl _) _
  go_enter Tryz.func3, Tryz.ntmps3
  go_wp2_with fail
  refine (livesC _).mono ?_
  rintro e w1 ⟨rfl, hb1⟩
  have h1 : Below (w.heap.size + 1) (w.alloc (.cells #[.int .i64 o0, .int .i64 o1, .int .i64 o2, .string o3, .int .i64 o4, .string o5, .string o6, .slice p7 l7 k7, .slice p8 l8 k8, .slice p9 l9 k9, .slice p10 l10 k10] 28)) w1 := hb1.mono (by simp)
  obtain ⟨g0, g1, g2, g3, g4, g5, g6, g7, g8, g9, g10⟩ := boxed h1
  have H1 := Go.Lib.hid h1
  clear h1 hb1
  go_wp2_with fail
  have hw1 : Below w.heap.size w w1 := HB.out.trans (H1.out.mono (Nat.le_succ _))
  refine ((HG.out w1 hw1).2.2 _).mono ?_
  clear g0 g1 g2 g3 g4 g5 g6 g7 g8 g9 g10 hw1
  rintro e w2 ⟨n, rfl, hb2⟩
  have hs2 : w.heap.size + 1 ≤ w1.heap.size := by simpa using H1.out.size
  have h2 : Below (w.heap.size + 1) (w.alloc (.cells #[.int .i64 o0, .int .i64 o1, .int .i64 o2, .string o3, .int .i64 o4, .string o5, .string o6, .slice p7 l7 k7, .slice p8 l8 k8, .slice p9 l9 k9, .slice p10 l10 k10] 28)) w2 := H1.out.trans (hb2.mono hs2)
  obtain ⟨g0, g1, g2, g3, g4, g5, g6, g7, g8, g9, g10⟩ := boxed h2
  have H2 := Go.Lib.hid h2
  clear h2 hb2 hs2
  go_wp2_with fail
  · go_ret
    exact ⟨rfl, HB.out.trans (H2.out.mono (Nat.le_succ _))⟩
  · have hw2 : Below w.heap.size w w2 := HB.out.trans (H2.out.mono (Nat.le_succ _))
    refine ((HG.out w2 hw2).1).mono ?_
    clear g0 g1 g2 g3 g4 g5 g6 g7 g8 g9 g10 hw2
    rintro e w3 ⟨rfl, hb3⟩
    have hs3 : w.heap.size + 1 ≤ w2.heap.size := by simpa using H2.out.size
    have h3 : Below (w.heap.size + 1) (w.alloc (.cells #[.int .i64 o0, .int .i64 o1, .int .i64 o2, .string o3, .int .i64 o4, .string o5, .string o6, .slice p7 l7 k7, .slice p8 l8 k8, .slice p9 l9 k9, .slice p10 l10 k10] 28)) w3 := H2.out.trans (hb3.mono hs3)
    obtain ⟨g0, g1, g2, g3, g4, g5, g6, g7, g8, g9, g10⟩ := boxed h3
    have H3 := Go.Lib.hid h3
    clear h3 hb3 hs3
    go_wp2_with fail
    have hw3 : Below w.heap.size w w3 := HB.out.trans (H3.out.mono (Nat.le_succ _))
    refine ((HG.out w3 hw3).2.1).mono ?_
    clear g0 g1 g2 g3 g4 g5 g6 g7 g8 g9 g10 hw3
    rintro e w4 ⟨rfl, hb4⟩
    have hs4 : w.heap.size + 1 ≤ w3.heap.size := by simpa using H3.out.size
    have h4 : Below (w.heap.size + 1) (w.alloc (.cells #[.int .i64 o0, .int .i64 o1, .int .i64 o2, .string o3, .int .i64 o4, .string o5, .string o6, .slice p7 l7 k7, .slice p8 l8 k8, .slice p9 l9 k9, .slice p10 l10 k10] 28)) w4 := H3.out.trans (hb4.mono hs4)
    have H4 := Go.Lib.hid h4
    clear h4 hb4 hs4
    go_wp2
    go_ret
    exact ⟨rfl, HB.out.trans (H4.out.mono (Nat.le_succ _))⟩
end Go.Proofs.LowW
