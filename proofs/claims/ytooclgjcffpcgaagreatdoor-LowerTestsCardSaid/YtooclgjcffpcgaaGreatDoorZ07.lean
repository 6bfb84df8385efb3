/- The law's contract, lifted. Part of the proof that LowerTests returns true for every input that reads as data, its listed variables laid as the text lays them. -/
import Derived.Test.YtooclgjcffpcgaaGreatDoorZ01
import Derived.Test.YtooclgjcffpcgaaGreatDoorZ05
import Derived.Test.YtooclgjcffpcgaaGreatDoorZ06
import Derived.Test.YtooclgjcffpcgaaGreatDoorJ02
import Derived.Test.YtooclgjcffpcgaaGreatDoorZ02
import Derived.Test.YtooclgjcffpcgaaGreatDoorZ03
import Derived.Test.YtooclgjcffpcgaaGreatDoorZ04
/- A closed fact of the witness's start. -/
namespace Go.Proofs.LowZ
open Go.RowKit Go.Proofs.YtooclgjcffpcgaaGreatDoor
set_option maxRecDepth 100000
theorem witness8 (os : Os) : laidMetH Tryz.prog Rows.lowerTestsRow.laid (start os).memory := by
  rw [MakeChecks.laidMetH_plain _ _ _ (by kernel_rfl)]
  exact laidMet_laidAll _ (witness6 os) (witness7 os)
end Go.Proofs.LowZ
/- LowerTests lifted, and its row. -/
namespace Go.Proofs.LowZ
open Go.RowKit Go.WideShapes Go.ChangeShapes Go.Proofs.LowW Go.Proofs.YtooclgjcffpcgaaGreatDoor
set_option maxRecDepth 100000
theorem readable28 : Tryz.prog.readableRec 28 = true := by kernel_rfl
theorem row28 : 28 < Tryz.prog.types.size := of_decide_eq_true (by kernel_rfl)
theorem g0 : 0 < Tryz.prog.globals.size := of_decide_eq_true (by kernel_rfl)
theorem heap0 : ∃ zero : Array Value, ((begin Tryz.prog (fun _ _ => 0) default).world.heap[0]?).bind Obj.row? = some (zero, 3) ∧ zero.size = 1 := ⟨#[.int .i64 0], by kernel_rfl, rfl⟩
theorem build3 : Tryz.prog.buildable 3 = true := by kernel_rfl
theorem types3 : Tryz.prog.cellTypes Tryz.prog.depth 3 = some [3] := by kernel_rfl
theorem bool4 : Tryz.f3.resultTypes = #[4] := by kernel_rfl
theorem under4 : Tryz.prog.underlying 4 = some .bool := by kernel_rfl
section
variable {H : Type} {enc : TypeId × Value → H}
theorem contract (W : World) (base : Nat) (args : Array Value) (ds gs : List (DataW H)) (before : List MemPlace)
    (hval0 : ∀ (j : Nat) t v, Tryz.f3.params[j]? = some t → args[j]? = some v → Value.okWide Tryz.prog W .any base t v)
    (hW : DataW.Whole enc Tryz.prog Tryz.f3.params.toList Rows.lowerTestsSpec.vars false W args.toList ds gs before)
    (hsz : (DataW.weightsEach Tryz.prog (Tryz.f3.params.toList ++ Rows.lowerTestsSpec.plain.varTypes Tryz.prog) (ds ++ gs)).all (· ≤ reachBytes) = true)
    (hsh : W.ShapedOpen Tryz.prog) :
    Calls Tryz.prog 3 args W fun e W' => ∃ v, e = .returned v ∧ Rows.lowerTestsSpec.post enc Tryz.prog Tryz.f3 false true false false W args v W' := by
  have hval : ∀ (j : Nat) t v, Tryz.f3.params[j]? = some t → args[j]? = some v → Value.okWide Tryz.prog W .any base t v := hval0
  have hW' := hW
  obtain ⟨p, q, hA0, hV, rfl, hfz, hnd⟩ := hW
  have hA : DataW.TrodAll enc Tryz.prog W 0 (fun _ => true) true Tryz.f3.params.toList args.toList ds p := hA0
  rw [Tryz.params3] at hA hval
  obtain ⟨v0, d0, rfl, rfl, h0⟩ := trodAll_one hA
  obtain ⟨rfl, rfl⟩ := trodVars_none hV
  obtain ⟨cs, rfl, _⟩ := okWide_struct Tryz.underlying28 (hval 0 28 v0 rfl rfl)
  have h0k := h0
  obtain ⟨n, hn⟩ := h0
  have hcode : CodeT W n cs := open_code n n (Nat.le_refl n) cs.toList (d0, p) hn fun k hk => by
    have hall := List.all_eq_true.1 hsz k (DataW.weights_mem_each (j := 0) (t := 28) (d := d0) (by rw [Tryz.params3]; rfl) rfl k hk)
    exact of_decide_eq_true hall
  obtain ⟨zero, z1, z2⟩ := heap0
  obtain ⟨m, hm⟩ := cell_of_shapedOpen_int (k := .i64) hsh g0 z1 z2 build3 types3 Tryz.underlying3
  refine (law hm hcode).mono fun e W' ⟨he, hb⟩ => ?_
  subst he
  refine ⟨_, rfl, post_of_below (pa := p) (pv := []) hW' (fun b sp hd => ?_) (fun sp hs => ?_) (fun _ _ => rfl) rfl hb ?_⟩
  · rw [bool4]
    exact trodAll_mk1 (shut_bool under4 _)
  · rw [Tryz.params3]
    have hlt : ∀ y ∈ p, y.block < W.heap.size := fun y hy => hW'.lt y (by simpa using hy)
    exact trodAll_mk1 (WideElems.Trod_stays LowJ.k2 readable28 row28 h0k (fun y hy => hb.same (hlt y hy)) (fun y hy => hs y (by simpa using hy)))
  · exact ok_one bool4 rfl (okWide_bool_mk under4 _)
end
end Go.Proofs.LowZ
/- The row of LowerTests. -/
namespace Go.Proofs.LowZ
open Go.RowKit Go.WideShapes Go.ChangeShapes Go.Proofs.YtooclgjcffpcgaaGreatDoor
set_option maxRecDepth 100000
theorem shaped (os : Os) : (start os).Shaped Tryz.prog := World.shaped_of_ZipB (witness1 os) (witness2 os)
theorem lifted (os : Os) (started : os.Started) (H : Type) (enc : TypeId × Value → H) :
    ReturnsInHanded {} Tryz.checked os 3 .any (fun w args => (Rows.lowerTestsSpec.pre enc Tryz.prog Tryz.f3 [] false w args ∧ laidMetH Tryz.prog Rows.lowerTestsRow.laid w) ∧ sizedMet enc Tryz.prog Tryz.f3 (OpenSpec.ofChange Rows.lowerTestsSpec) false w args)
      (Rows.lowerTestsSpec.post enc Tryz.prog Tryz.f3 false true false false) :=
  returns_and_shaped (C := Tryz.checked) (X := fun w _ => laidMetH Tryz.prog Rows.lowerTestsRow.laid w) own started noInit Tryz.func3
    (ChangeSpec.witness_shaped (enc := enc) (C := Tryz.checked) (os := os) (X := fun w _ => laidMetH Tryz.prog Rows.lowerTestsRow.laid w) false (World.laidAll Tryz.prog os Rows.lowerTestsRow.laid) #[zeroCode] 8 (World.laidAll_os _ _ _)
      (shaped os) (witness3 os) (witness4 H enc os) (witness5 H enc os) (witness8 os))
    (fun W base args ds gs before hval hW hsz hsh => contract W base args ds gs before hval hW hsz hsh)
end Go.Proofs.LowZ
