/- The functions on tests, walked, first part. Part of the proof that LowerTests returns true for every input that reads as data, its listed variables laid as the text lays them. -/
import Derived.Test.YtooclgjcffpcgaaGreatDoorW02
/- The tests of a part: what they come to, kid by kid. -/
namespace Go.Proofs.LowW
open Go.RowKit Go.Proofs.LowM
set_option maxRecDepth 100000
theorem bcell {W w1 : World} (hb : Below W.heap.size W w1) : (∀ b o, b < W.heap.size → w1.cell? ⟨b, o, none⟩ = W.cell? ⟨b, o, none⟩) ∧ (∀ b o, b < W.heap.size → w1.frozen? ⟨b, o, none⟩ = W.frozen? ⟨b, o, none⟩) :=
  ⟨fun b o h => hb.cell (p := ⟨b, o, none⟩) h, fun b o h => hb.frozen (p := ⟨b, o, none⟩) h⟩
/-- a sum, kid by kid. -/
def acc (a0 : Int) (X : Nat → Int) : Nat → Int
  | 0 => a0
  | n + 1 => wrap64 (acc a0 X n + X n)
def iA (op : Int) (l : List UInt8) (k : Int) : Int := (if lowB op l k = true then 1 else 0) + (if choosesB op = true then 1 else 0)
def iM (op sure : Int) (l : List UInt8) (k : Int) : Int :=
  (if lowB op l k = true then (if (bits BinOp.and IntKind.i64 sure 1 == 0) = true then 1 else 0) else 0) + (if choosesB op = true then (if (bits BinOp.and IntKind.i64 sure 6 == 0) = true then 1 else 0) else 0)
/-- the kids' cells lie in the world, and each kid's call answers. -/
def Kids (f : Nat) (w : World) (b off len : Nat) (X Y : Nat → Int) : Prop :=
  ∀ k, k < len → ∃ (o0 o1 o2 : Int) (o3 : ByteArray) (o4 : Int) (o5 o6 : ByteArray) (p7 : Option Addr) (l7 k7 : Nat) (p8 : Option Addr) (l8 k8 : Nat) (p9 : Option Addr) (l9 k9 : Nat) (p10 : Option Addr) (l10 k10 : Nat), (∀ wr, Below w.heap.size w wr → wr.cell? ⟨b, off + k * 11, none⟩ = some (.int .i64 o0) ∧ wr.cell? ⟨b, off + k * 11 + 1, none⟩ = some (.int .i64 o1) ∧ wr.cell? ⟨b, off + k * 11 + 2, none⟩ = some (.int .i64 o2) ∧ wr.cell? ⟨b, off + k * 11 + 3, none⟩ = some (.string o3) ∧ wr.cell? ⟨b, off + k * 11 + 4, none⟩ = some (.int .i64 o4) ∧ wr.cell? ⟨b, off + k * 11 + 5, none⟩ = some (.string o5) ∧ wr.cell? ⟨b, off + k * 11 + 6, none⟩ = some (.string o6) ∧ wr.cell? ⟨b, off + k * 11 + 7, none⟩ = some (.slice p7 l7 k7) ∧ wr.cell? ⟨b, off + k * 11 + 8, none⟩ = some (.slice p8 l8 k8) ∧ wr.cell? ⟨b, off + k * 11 + 9, none⟩ = some (.slice p9 l9 k9) ∧ wr.cell? ⟨b, off + k * 11 + 10, none⟩ = some (.slice p10 l10 k10)) ∧
    ∀ wr, Below w.heap.size w wr → Calls Tryz.prog f #[.agg #[.int .i64 o0, .int .i64 o1, .int .i64 o2, .string o3, .int .i64 o4, .string o5, .string o6, .slice p7 l7 k7, .slice p8 l8 k8, .slice p9 l9 k9, .slice p10 l10 k10]] wr fun e w' => e = .returned (.tuple #[.int .i64 (X k), .int .i64 (Y k)]) ∧ Below wr.heap.size wr w'
def Some1 (w : World) (e : Ending) (w' : World) : Prop := ∃ n : Int, e = .returned (.int .i64 n) ∧ Below w.heap.size w w'
def KidsP (w : World) (b off len : Nat) : Prop :=
  ∀ k, k < len → ∃ (o0 o1 o2 : Int) (o3 : ByteArray) (o4 : Int) (o5 o6 : ByteArray) (p7 : Option Addr) (l7 k7 : Nat) (p8 : Option Addr) (l8 k8 : Nat) (p9 : Option Addr) (l9 k9 : Nat) (p10 : Option Addr) (l10 k10 : Nat), (∀ wr, Below w.heap.size w wr → wr.cell? ⟨b, off + k * 11, none⟩ = some (.int .i64 o0) ∧ wr.cell? ⟨b, off + k * 11 + 1, none⟩ = some (.int .i64 o1) ∧ wr.cell? ⟨b, off + k * 11 + 2, none⟩ = some (.int .i64 o2) ∧ wr.cell? ⟨b, off + k * 11 + 3, none⟩ = some (.string o3) ∧ wr.cell? ⟨b, off + k * 11 + 4, none⟩ = some (.int .i64 o4) ∧ wr.cell? ⟨b, off + k * 11 + 5, none⟩ = some (.string o5) ∧ wr.cell? ⟨b, off + k * 11 + 6, none⟩ = some (.string o6) ∧ wr.cell? ⟨b, off + k * 11 + 7, none⟩ = some (.slice p7 l7 k7) ∧ wr.cell? ⟨b, off + k * 11 + 8, none⟩ = some (.slice p8 l8 k8) ∧ wr.cell? ⟨b, off + k * 11 + 9, none⟩ = some (.slice p9 l9 k9) ∧ wr.cell? ⟨b, off + k * 11 + 10, none⟩ = some (.slice p10 l10 k10)) ∧
    ∀ (q : Int) wr, Below w.heap.size w wr → Calls Tryz.prog 5 #[.agg #[.int .i64 o0, .int .i64 o1, .int .i64 o2, .string o3, .int .i64 o4, .string o5, .string o6, .slice p7 l7 k7, .slice p8 l8 k8, .slice p9 l9 k9, .slice p10 l10 k10], .int .i64 q] wr (Some1 wr)
def Two (a m : Int) (w : World) (e : Ending) (w' : World) : Prop := e = .returned (.tuple #[.int .i64 a, .int .i64 m]) ∧ Below w.heap.size w w'
end Go.Proofs.LowW
