/- The law's contract, lifted. Part of the proof that FastKnown returns true on every schedule, its listed variables laid as the text lays them. -/
import Derived.Test.YtiinfilmfcmicaaGreatDoorZ01
import Derived.Test.YtiinfilmfcmicaaGreatDoorZ05
import Derived.Test.YtiinfilmfcmicaaGreatDoorZ06
import Derived.Test.YtiinfilmfcmicaaGreatDoorJ02
import Derived.Test.YtiinfilmfcmicaaGreatDoorZ02
import Derived.Test.YtiinfilmfcmicaaGreatDoorZ03
import Derived.Test.YtiinfilmfcmicaaGreatDoorZ04
/- A closed fact of the witness's start. -/
namespace Go.Proofs.ClZ
open Go.RowKit Go.Proofs.YtiinfilmfcmicaaGreatDoor
set_option maxRecDepth 100000
theorem witness8 (os : Os) : laidMetH Tryz.prog Rows.fastKnownRow.laid (start os).memory := by
  rw [MakeChecks.laidMetH_plain _ _ _ (by kernel_rfl)]
  exact laidMet_laidAll _ (witness6 os) (witness7 os)
end Go.Proofs.ClZ
/- FastKnown lifted: the contract. -/
namespace Go.Proofs.ClZ
open Go.RowKit Go.WideShapes Go.ChangeShapes Go.Dee Go.Proofs.YtiinfilmfcmicaaGreatDoor
set_option maxRecDepth 100000
theorem gm_lt : 3 < Tryz.prog.globals.size := of_decide_eq_true (by kernel_rfl)
theorem gb_lt : 2 < Tryz.prog.globals.size := of_decide_eq_true (by kernel_rfl)
theorem heapM : ∃ zero : Array Value, ((begin Tryz.prog (fun _ _ => 0) default).world.heap[3]?).bind Obj.row? = some (zero, 3) ∧ zero.size = 1 := ⟨#[.int .i64 0], by kernel_rfl, rfl⟩
def zeroRows : Array Value := (List.replicate 23 [Value.string ⟨#[]⟩, .int .i64 0, .int .i64 0, .int .i64 0]).flatten.toArray
theorem heapB : ∃ zero : Array Value, ((begin Tryz.prog (fun _ _ => 0) default).world.heap[2]?).bind Obj.row? = some (zero, 297) ∧ zero.size = 92 := ⟨zeroRows, by kernel_rfl, by kernel_rfl⟩
theorem buildM : Tryz.prog.buildable 3 = true := by kernel_rfl
theorem typesM : Tryz.prog.cellTypes Tryz.prog.depth 3 = some [3] := by kernel_rfl
theorem bool4 : Tryz.f3.resultTypes = #[4] := by kernel_rfl
theorem under4 : Tryz.prog.underlying 4 = some .bool := by kernel_rfl
theorem namedB : Tryz.prog.globalNamed "hallmark/syntax.bindings" = some 2 := by kernel_rfl
theorem typeB : (Tryz.prog.globals[2]?).map (·.type) = some 297 := by kernel_rfl
def table : List Row4 := [([44], 13, 1, 0), ([61], 36, 2, 2), ([124, 61], 37, 2, 2), ([43, 61], 38, 2, 2), ([45, 61], 39, 2, 2), ([42, 61], 40, 2, 2), ([47, 61], 41, 2, 2), ([37, 61], 42, 2, 2), ([47, 47, 61], 43, 2, 2), ([47, 47], 27, 3, 1), ([111, 114], 26, 4, 0), ([97, 110, 100], 25, 5, 0), ([61, 61], 19, 6, 2), ([33, 61], 20, 6, 2), ([60], 21, 6, 2), ([60, 61], 22, 6, 2), ([62], 23, 6, 2), ([62, 61], 24, 6, 2), ([43], 14, 7, 0), ([45], 15, 7, 0), ([42], 16, 8, 0), ([47], 17, 8, 0), ([37], 18, 8, 0)]
theorem table_mem : ("hallmark/syntax.bindings", (DataW.agg (table.map Row4.datum) : DataW Unit)) ∈ Rows.fastKnownRow.laid := List.Mem.tail _ (List.Mem.tail _ (List.Mem.tail _ (List.Mem.tail _ (List.Mem.tail _ (List.Mem.tail _ (List.Mem.head _))))))
theorem table_cells : flat4 table = FastT.bindings := by kernel_rfl
theorem laidVars_of {w : World} (h : laidMetH Tryz.prog Rows.fastKnownRow.laid w) : ∃ ps, DataW.LaidVars Tryz.prog w Rows.fastKnownRow.laid ps := by
  rw [MakeChecks.laidMetH_plain _ _ _ (by kernel_rfl)] at h
  obtain ⟨ps, h, _⟩ := h
  exact ⟨ps, h⟩
/-- the number's block. -/
theorem hb_num {W : World} (hsh : W.ShapedOpen Tryz.prog) : ∃ m, HB FastT.env.tt (baseRen 10) W 3 (numBlk 3 m) := by
  obtain ⟨zero, z1, z2⟩ := heapM
  obtain ⟨m, hm⟩ := cell_of_shapedOpen_int (k := .i64) hsh gm_lt z1 z2 buildM typesM Tryz.underlying3
  obtain ⟨cs, hcs, hsz, _⟩ := hsh.1 3 zero 3 gm_lt z1
  refine ⟨m, HB_of (by decide) hcs ?_⟩
  rw [z2] at hsz
  have hc : cs[0]? = some (.int .i64 m) := by simpa [World.cell?, hcs] using hm
  obtain ⟨l⟩ := cs
  match l, hsz with
  | [x], _ =>
    have hc : x = .int .i64 m := by simpa using hc
    subst hc
    simp only [Vs, V]
    exact ⟨_, _, rfl, rfl, rfl⟩
/-- the table's block. -/
theorem hb_table {W : World} (hsh : W.ShapedOpen Tryz.prog) {ps : List MemPlace} (hl : DataW.LaidVars Tryz.prog W Rows.fastKnownRow.laid ps) : HB FastT.env.tt (baseRen 10) W 2 (.cells FastT.bindings 297 0) := by
  obtain ⟨zero, z1, z2⟩ := heapB
  obtain ⟨cs, hcs, hsz, _⟩ := hsh.1 2 zero 297 gb_lt z1
  obtain ⟨g, t, cs', fuel, p, h1, h2, h3, h4⟩ := laid_mem table_mem hl
  have hg : g = 2 := Option.some.inj (h1.symm.trans namedB)
  subst hg
  have ht : t = 297 := Option.some.inj (h2.symm.trans typeB)
  subst ht
  have hc : cs' = cs := by
    unfold World.var? at h3
    rw [namedB] at h3
    simp only [Option.bind_some, hcs] at h3
    exact (Option.some.inj h3).symm
  subst hc
  refine HB_of (by decide) hcs ?_
  rw [← table_cells]
  exact rows4_read (t := 297) (e := 239) (rows := table) Tryz.underlying297 (by kernel_rfl) Tryz.underlying239 (by kernel_rfl) Tryz.underlying9 Tryz.underlying3 Tryz.underlying3 Tryz.underlying3
    ⟨rfl, by kernel_rfl⟩ ⟨rfl, by kernel_rfl⟩ ⟨rfl, by kernel_rfl⟩ ⟨rfl, by kernel_rfl⟩ h4 _
section
variable {H : Type} {enc : TypeId × Value → H}
theorem contract (W : World) (base : Nat) (args : Array Value) (ds gs : List (DataW H)) (before : List MemPlace)
    (_hval0 : ∀ (j : Nat) t v, Tryz.f3.params[j]? = some t → args[j]? = some v → Value.okWide Tryz.prog W .any base t v)
    (hW : DataW.Whole enc Tryz.prog Tryz.f3.params.toList Rows.fastKnownSpec.vars false W args.toList ds gs before)
    (hsh : W.ShapedOpen Tryz.prog) {ps : List MemPlace} (hl : DataW.LaidVars Tryz.prog W Rows.fastKnownRow.laid ps) :
    Calls Tryz.prog 3 args W fun e W' => ∃ v, e = .returned v ∧ Rows.fastKnownSpec.post enc Tryz.prog Tryz.f3 false true false false W args v W' := by
  have hW' := hW
  obtain ⟨p, q, hA0, hV, rfl, hfz, hnd⟩ := hW
  have hA : DataW.TrodAll enc Tryz.prog W 0 (fun _ => true) true Tryz.f3.params.toList args.toList ds p := hA0
  rw [Tryz.params3] at hA
  obtain ⟨rfl, rfl, rfl⟩ := trodAll_none hA
  obtain ⟨rfl, rfl⟩ := trodVars_none hV
  obtain ⟨m, hm⟩ := hb_num hsh
  refine (FastT.known hm (hb_table hsh hl)).mono fun e W' he => ?_
  cases e with
  | returned v =>
    obtain ⟨rfl, hb⟩ := he
    refine ⟨_, rfl, post_of_below (pa := []) (pv := []) hW' (fun b sp hd => ?_) (fun sp hs => ?_) (fun _ _ => rfl) rfl hb ?_⟩
    · rw [bool4]
      exact trodAll_mk1 (shut_bool under4 _)
    · rw [Tryz.params3]
      exact trodAll_mk0
    · exact ok_one bool4 rfl (okWide_bool_mk under4 _)
  | _ => exact he.elim
end
end Go.Proofs.ClZ
/- The row of FastKnown. -/
namespace Go.Proofs.ClZ
open Go.RowKit Go.WideShapes Go.ChangeShapes Go.Proofs.YtiinfilmfcmicaaGreatDoor
set_option maxRecDepth 100000
theorem shaped (os : Os) : (start os).Shaped Tryz.prog := World.shaped_of_ZipB (witness1 os) (witness2 os)
theorem lifted (os : Os) (started : os.Started) (H : Type) (enc : TypeId × Value → H) :
    ReturnsInHanded {} Tryz.checked os 3 .any (fun w args => (Rows.fastKnownSpec.pre enc Tryz.prog Tryz.f3 [] false w args ∧ laidMetH Tryz.prog Rows.fastKnownRow.laid w) ∧ sizedMet enc Tryz.prog Tryz.f3 (OpenSpec.ofChange Rows.fastKnownSpec) false w args)
      (Rows.fastKnownSpec.post enc Tryz.prog Tryz.f3 false true false false) :=
  returns_and_shaped (fun _w _ h => laidVars_of h) (C := Tryz.checked) (X := fun w _ => laidMetH Tryz.prog Rows.fastKnownRow.laid w) own started noInit Tryz.func3
    (ChangeSpec.witness_shaped (enc := enc) (C := Tryz.checked) (os := os) (X := fun w _ => laidMetH Tryz.prog Rows.fastKnownRow.laid w) false (World.laidAll Tryz.prog os Rows.fastKnownRow.laid) #[] 8 (World.laidAll_os _ _ _)
      (shaped os) (witness3 os) (witness4 H enc os) (witness5 H enc os) (witness8 os))
    (fun W base args ds gs before hval hW _ hsh ⟨_, hl⟩ => contract W base args ds gs before hval hW hsh hl)
end Go.Proofs.ClZ
