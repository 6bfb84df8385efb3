/- Soundness of the evaluator: types, loads and stores, allocation, building, indexing, slicing. Part of the proof that FastKnown returns true on every schedule, its listed variables laid as the text lays them. -/
import Derived.Test.YtiinfilmfcmicaaGreatDoorD02
import Derived.MapKept
namespace Go.Dee
open Go

/-! type tables -/
theorem structFs_some {ti : TI} {fs : List (TypeId × Nat)} (h : ti.structFs = some fs) : ti.k = .struct fs := by
  unfold TI.structFs at h; split at h <;> simp_all
theorem arrayOf_some {ti : TI} {p : Nat × TypeId} (h : ti.arrayOf = some p) : ti.k = .array p.1 p.2 := by
  unfold TI.arrayOf at h; split at h
  · rename_i e; cases h; exact e
  · cases h
theorem sliceOf_some {ti : TI} {e : TypeId} (h : ti.sliceOf = some e) : ti.k = .slice e := by
  unfold TI.sliceOf at h; split at h
  · rename_i e; cases h; exact e
  · cases h
theorem mapOf_some {ti : TI} {e : TypeId} (h : ti.mapOf = some e) : ∃ k, ti.k = .map k e := by
  unfold TI.mapOf at h; split at h
  · rename_i e; cases h; exact ⟨_, e⟩
  · cases h
theorem isStr_true {ti : TI} (h : ti.isStr = true) : ti.k = .str := by
  unfold TI.isStr at h; split at h
  · assumption
  · cases h
theorem isU8_true {ti : TI} (h : ti.isU8 = true) : ti.k = .int .u8 := by
  unfold TI.isU8 at h; split at h
  · assumption
  · cases h
theorem isIface_false {ti : TI} (h : notB ti.isIface = true) : ∀ b, ti.k ≠ .iface b := by
  intro b e
  rw [notB_eq] at h
  simp [TI.isIface, e] at h
theorem intOf_some {ti : TI} {k : IntKind} (h : ti.intOf = some k) : ti.k = .int k := by
  unfold TI.intOf at h; split at h
  · rename_i e; cases h; exact e
  · cases h
theorem sliceTI_some {tt : Trie TI} {t : TypeId} {p : TypeId × TI} (h : sliceTI tt t = some p) : ∃ ti, tt.get t = some ti ∧ ti.k = .slice p.1 ∧ tt.get p.1 = some p.2 := by
  unfold sliceTI at h
  split at h
  · rename_i ti hti
    split at h
    · rename_i e he
      split at h
      · rename_i te hte
        cases h
        exact ⟨ti, hti, sliceOf_some he, hte⟩
      · cases h
    · cases h
  · cases h
theorem arrayTI_some {tt : Trie TI} {t : TypeId} {p : Nat × TI} (h : arrayTI tt t = some p) : ∃ ti e, tt.get t = some ti ∧ ti.k = .array p.1 e ∧ tt.get e = some p.2 := by
  unfold arrayTI at h
  split at h
  · rename_i ti hti
    split at h
    · rename_i n e he
      split at h
      · rename_i te hte
        cases h
        exact ⟨ti, e, hti, arrayOf_some he, hte⟩
      · cases h
    · cases h
  · cases h
theorem fieldOf_eq (l : List (TypeId × Nat)) (n : Nat) : fieldOf l n = l[n]? := by
  induction l generalizing n with
  | nil => rfl
  | cons x t ih => cases n with
    | zero => rfl
    | succ n => show fieldOf t n = _; rw [ih]; simp
theorem fieldIn_some {tt : Trie TI} {fs : List (TypeId × Nat)} {f : Nat} {p : Nat × TI} (h : fieldIn tt fs f = some p) : ∃ ft, fs[f]? = some (ft, p.1) ∧ tt.get ft = some p.2 := by
  unfold fieldIn at h
  split at h
  · rename_i ft off hf
    split at h
    · rename_i fi hfi
      cases h
      exact ⟨ft, by rw [← fieldOf_eq]; exact hf, hfi⟩
    · cases h
  · cases h
theorem fieldTI_some {tt : Trie TI} {t : TypeId} {f : Nat} {p : Nat × TI} (h : fieldTI tt t f = some p) : ∃ ti fs ft, tt.get t = some ti ∧ ti.k = .struct fs ∧ fs[f]? = some (ft, p.1) ∧ tt.get ft = some p.2 := by
  unfold fieldTI at h
  split at h
  · rename_i ti hti
    split at h
    · rename_i fs hfs
      obtain ⟨ft, h1, h2⟩ := fieldIn_some h
      exact ⟨ti, fs, ft, hti, structFs_some hfs, h1, h2⟩
    · cases h
  · cases h
theorem mapTI_some {tt : Trie TI} {t : TypeId} {te : TI} (h : mapTI tt t = some te) : ∃ ti k e, tt.get t = some ti ∧ ti.k = .map k e ∧ tt.get e = some te := by
  unfold mapTI at h
  split at h
  · rename_i ti hti
    split at h
    · rename_i e he
      obtain ⟨k, hk⟩ := mapOf_some he
      exact ⟨ti, k, e, hti, hk, h⟩
    · cases h
  · cases h

/-- what a table says of a type, in the model's words. -/
structure View (P : Program) (t : TypeId) (ti : TI) (i : TypeInfo) (d : TypeDesc) (z : Value) : Prop where
  info : P.info? t = some i
  und : P.underlying t = some d
  kind : kindOK ti.k d
  size : i.size = ti.size
  bytes : i.bytes = ti.bytes
  zero : i.zero = some z
  zc : ti.zero = ofConst z
  ztop : ti.zero ≠ .top
  zsize : z.cells.size = ti.size
  agg : ti.agg = descAgg d
  flds : ∀ f : Array Field, d = .struct f → ∀ x ∈ f.toList, ∃ j, P.info? x.type = some j
  elem : ∀ n e, d = .array n e → ∃ j, P.info? e = some j
  meth : ∀ n f, findMeth n ti.meths = some (f, 0) → ∃ m : Method, i.methods.find? (·.name == n) = some m ∧ m.path = #[] ∧ ∃ b, m.func = some (f, b) ∧ (b = true ∨ ∀ e, d ≠ .pointer e) ∧ (b = true → ∃ e, d = .pointer e)

section
variable {P : Program} {tt : Trie TI} {ρ : Ren} {w : World} {s : St}
theorem TTok.view (ht : TTok P tt) {t : TypeId} {ti : TI} (h : tt.get t = some ti) : ∃ i d z, View P t ti i d z := by
  obtain ⟨i, d, z, h1, h2, h3, h4, h5, h6, h7, h8, h9, h10, h11, h12, h13⟩ := (ht t ti h).ex
  exact ⟨i, d, z, h1, h2, h3, h4, h5, h6, h7, h8, h9, h10, h11, h12, h13⟩
variable {t : TypeId} {ti : TI} {i : TypeInfo} {d : TypeDesc} {z : Value}
theorem View.rsize (h : View P t ti i d z) : (Go.sizeOf t).run P w = .ok ti.size w := by rw [run_siz h.info, h.size]
theorem View.rund (h : View P t ti i d z) : (underlying t).run P w = .ok d w := run_und h.und
theorem View.rinfo (h : View P t ti i d z) : (typeInfo t).run P w = .ok i w := run_inf h.info
theorem View.rzero (h : View P t ti i d z) : (zeroValue t).run P w = .ok z w := run_zer h.info h.zero
theorem View.ragg (h : View P t ti i d z) : (isAgg t).run P w = .ok ti.agg w := by
  unfold isAgg
  simp only [Sem.run_bind, h.rund, Result.andThen_ok]
  rw [h.agg]
  cases d <;> rfl
theorem View.vzero (h : View P t ti i d z) : V ρ ti.zero z := by rw [h.zc]; exact ofConst_ok z
theorem View.czero (h : View P t ti i d z) : Vs ρ ti.zero.cells z.cells.toList := h.vzero.cells h.ztop
theorem View.lzero (h : View P t ti i d z) : ti.zero.cells.length = ti.size := by
  have := (h.czero (ρ := fun _ => none)).length
  rw [this, ← h.zsize]; simp
/-- a struct's field. -/
theorem View.field (h : View P t ti i d z) {fs : List (TypeId × Nat)} (hk : ti.k = .struct fs) {f : Nat} {ft off : Nat} (hf : fs[f]? = some (ft, off)) :
    ∃ (fields : Array Field) (fd : Field), d = .struct fields ∧ fields[f]? = some fd ∧ fd.type = ft ∧ fd.offset = off := by
  have := h.kind
  rw [hk] at this
  obtain ⟨fields, rfl, e⟩ := this
  subst e
  simp only [List.getElem?_map, Option.map_eq_some_iff] at hf
  obtain ⟨fd, hfd, e⟩ := hf
  cases e
  exact ⟨fields, fd, rfl, by simpa using hfd, rfl, rfl⟩

theorem aggO_some {l : Option (List AV)} {v : AV} (h : aggO l = some v) : ∃ cs, l = some cs ∧ v = .agg cs := by
  cases l with
  | none => cases h
  | some cs => exact ⟨cs, rfl, (Option.some.inj h).symm⟩
theorem extract_toList (l : Array Value) (o n : Nat) : (l.extract o (o + n)).toList = (l.toList.drop o).take n := by
  simp [List.take_drop]
theorem part_ok (hv : View P t ti i d z) {cs : List AV} {l : Array Value} (hl : Vs ρ cs l.toList) {off : Nat} {v : AV} (h : partV ti cs off = some v) :
    ∃ v', (part t l off).run P w = .ok v' w ∧ V ρ v v' := by
  unfold part
  simp only [Sem.run_bind, hv.ragg, Result.andThen_ok]
  cases ha : ti.agg with
  | true =>
    have h' : aggO (cellsAt cs off ti.size) = some v := by unfold partV at h; rw [ha] at h; exact h
    obtain ⟨c, hc, rfl⟩ := aggO_some h'
    obtain ⟨_, rfl⟩ := cellsAt_some hc
    refine ⟨.agg (l.extract off (off + ti.size)), ?_, ?_⟩
    · simp only [if_true, Sem.run_bind, hv.rsize, Result.andThen_ok, Sem.run_pure]
    · simp only [V]
      exact ⟨_, rfl, by rw [extract_toList]; exact (hl.drop off).take _⟩
  | false =>
    have h' : getN cs off = some v := by unfold partV at h; rw [ha] at h; exact h
    rw [getN_eq] at h'
    obtain ⟨v', hv', hr⟩ := hl.get h'
    refine ⟨v', ?_, hr⟩
    have : l[off]? = some v' := by simpa using hv'
    simp [this]

/-! operations on values -/
theorem pick_good {c a b : AV} {c' a' b' : Value} (hc : V ρ c c') (ha : V ρ a a') (hb : V ρ b b') :
    Good tt ρ w s ((do pure (Next.value (if ← asBool c' then a' else b')) : Sem Next).run P w) (opPick s c a b) := by
  refine good_vBool fun t e => ?_
  subst e
  rw [hc.bool]
  cases t with
  | true => exact good_val (v' := a') (by simp [asBool]) ha
  | false => exact good_val (v' := b') (by simp [asBool]) hb

theorem extract_good {x : AV} {x' : Value} {k : Nat} (hx : V ρ x x') : Good tt ρ w s ((do pure (Next.value (← Instr.extract x' k)) : Sem Next).run P w) (opExtract s k x) := by
  refine good_vTup fun vs e => good_oVal fun v hv => ?_
  subst e
  simp only [V] at hx
  obtain ⟨l, rfl, hl⟩ := hx
  rw [getN_eq] at hv
  obtain ⟨v', h1, h2⟩ := hl.get hv
  have : l[k]? = some v' := by simpa using h1
  exact good_val (rv (by simp [Instr.extract, this])) h2

theorem field_good (ht : TTok P tt) {t : TypeId} {x : AV} {x' : Value} {f : Nat} (hx : V ρ x x') :
    Good tt ρ w s ((do pure (Next.value (← Instr.field t x' f)) : Sem Next).run P w) (opField tt s t x f) := by
  refine good_vAgg fun cs e => good_oPair fun p hp => good_oVal fun v hv => ?_
  subst e
  obtain ⟨off, fi⟩ := p
  simp only [V] at hx
  obtain ⟨l, rfl, hl⟩ := hx
  obtain ⟨ti, fs, ft, h1, h2, h3, h4⟩ := fieldTI_some hp
  obtain ⟨i, d, z, hview⟩ := ht.view h1
  obtain ⟨fields, fd, rfl, hfd, rfl, rfl⟩ := hview.field h2 h3
  obtain ⟨i', d', z', hview'⟩ := ht.view h4
  obtain ⟨v', hrun, hr⟩ := part_ok (w := w) hview' hl hv
  refine good_val (rv ?_) hr
  simp [Instr.field, hview.rund, hfd, asAgg, hrun]

theorem makeIface_good (ht : TTok P tt) {t : TypeId} {x : AV} {x' : Value} (hx : V ρ x x') :
    Good tt ρ w s ((do pure (Next.value (← Instr.makeInterface t x')) : Sem Next).run P w) (opMakeIface tt s t x) := by
  refine good_oTI fun ti hti => good_chk fun hi => ?_
  obtain ⟨i, d, z, hview⟩ := ht.view hti
  have hk := isIface_false hi
  refine good_val (v' := .iface t x') (rv ?_) (by simp only [V]; exact ⟨x', rfl, hx⟩)
  have := hview.kind
  unfold Instr.makeInterface
  simp only [Sem.run_bind, hview.rund, Result.andThen_ok]
  cases hkk : ti.k <;> rw [hkk] at this hk <;> simp only [kindOK] at this
  case iface b => exact absurd rfl (hk b)
  case struct fs => obtain ⟨f, rfl, _⟩ := this; rfl
  case func => obtain ⟨a, b, c, rfl⟩ := this; rfl
  all_goals (subst this; rfl)

theorem fieldAddr_good (ht : TTok P tt) {t : TypeId} {x : AV} {x' : Value} {f : Nat} (hx : V ρ x x') :
    Good tt ρ w s ((do pure (Next.value (← Instr.fieldAt t x' f)) : Sem Next).run P w) (opFieldAddr tt s t x f) := by
  refine good_vPtr fun b o e => good_oPair fun p hp => good_chk fun hsz => ?_
  subst e
  obtain ⟨off, fi⟩ := p
  obtain ⟨pl, hpl, rfl⟩ := hx.ptr
  obtain ⟨ti, fs, ft, h1, h2, h3, h4⟩ := fieldTI_some hp
  obtain ⟨i, d, z, hview⟩ := ht.view h1
  obtain ⟨fields, fd, rfl, hfd, rfl, rfl⟩ := hview.field h2 h3
  obtain ⟨i', d', z', hview'⟩ := ht.view h4
  have hne : ¬ fi.size = 0 := by have h1 : 1 ≤ fi.size := Nat.ble_eq.mp hsz; omega
  refine good_val (v' := .pointer (some ⟨pl.block, pl.base + (o + fd.offset), none⟩)) (rv ?_) (by simp only [V]; exact ⟨pl, hpl, rfl⟩)
  simp only [Instr.fieldAt, Sem.run_bind, hview.rund, Result.andThen_ok, hfd, Instr.sureAddr, Sem.run_pure, fieldPlace, hview'.rsize, if_neg hne, addr_add, Nat.add_assoc]

theorem natIdx {i : AV} {i' : Value} {k : IntKind} {n : Nat} (hi : V ρ i i') (e : i = .int k (Int.ofNat n)) : i' = .int k (n : Int) := by
  subst e; exact hi.int
end
end Go.Dee
namespace Go.Dee
open Go

section
variable {P : Program} {tt : Trie TI} {F : Nat → Prop} {ρ : Ren} {w : World} {s : St}

theorem atO_some {c : Option (List AV)} {o n : Nat} {l : List AV} (h : atO c o n = some l) : ∃ cs, c = some cs ∧ cellsAt cs o n = some l := by
  cases c with
  | none => cases h
  | some cs => exact ⟨cs, rfl, h⟩
theorem blkCells_some {x : Option ABlk} {c : List AV} (h : blkCells x = some c) : ∃ t g, x = some (.cells c t g) := by
  cases x with
  | none => cases h
  | some y => cases y <;> first | (cases h; done) | (cases h; exact ⟨_, _, rfl⟩)
/-- cells that are read. -/
theorem St.cells_some {b o n : Nat} {l : List AV} (h : s.cells b o n = some l) : ∃ c t g, hget s.h b = some (.cells c t g) ∧ cellsAt c o n = some l := by
  obtain ⟨c, h1, h2⟩ := atO_some h
  obtain ⟨t, g, h3⟩ := blkCells_some h1
  exact ⟨c, t, g, h3, h2⟩

theorem read_cells (hs : SRon tt F ρ s.h w) {b o n : Nat} {l : List AV} {p : Place} (hF : F b) (hp : ρ b = some p) (h : s.cells b o n = some l) :
    ∃ vs : List Value, vs.length = n ∧ Vs ρ l vs ∧ ∀ (j : Nat) v, vs[j]? = some v → w.cell? ((⟨p.block, p.base + o, none⟩ : Addr).add j) = some v := by
  obtain ⟨c, t, g, h1, h2⟩ := St.cells_some h
  obtain ⟨q, vs, hq, hlen, hvs, hc⟩ := (hs.heap b _ hF (hs.dom b p hp) h1).load h2
  rw [hp] at hq; cases hq
  exact ⟨vs, hlen, hvs, hc⟩
theorem read_run (hs : SRon tt F ρ s.h w) {b o n : Nat} {l : List AV} {p : Place} (hF : F b) (hp : ρ b = some p) (h : s.cells b o n = some l) :
    ∃ vs : List Value, (loadCells ⟨p.block, p.base + o, none⟩ n).run P w = .ok vs.toArray w ∧ vs.length = n ∧ Vs ρ l vs := by
  obtain ⟨vs, hlen, hvs, hc⟩ := read_cells hs hF hp h
  have := run_loadCells_list (P := P) w ⟨p.block, p.base + o, none⟩ vs hc
  rw [hlen] at this
  exact ⟨vs, this, hlen, hvs⟩

theorem oneV_some {l : List AV} {v : AV} (h : oneV l = some v) : l = [v] := by
  cases l with
  | nil => cases h
  | cons x t => cases t with
    | nil => cases h; rfl
    | cons => cases h

theorem loadVar_ok {t : TypeId} {ti : TI} {i : TypeInfo} {d : TypeDesc} {z : Value} (hview : View P t ti i d z) (hs : SRon tt F ρ s.h w) {b o : Nat} {l : List AV} {p : Place} {v : AV}
    (hF : F b) (hp : ρ b = some p) (hl : s.cells b o ti.loadSize = some l) (hv : loadAgg ti.agg l = some v) :
    ∃ v', (loadVar t ⟨p.block, p.base + o, none⟩).run P w = .ok v' w ∧ V ρ v v' := by
  unfold loadVar
  simp only [Sem.run_bind, hview.ragg, Result.andThen_ok]
  cases ha : ti.agg with
  | true =>
    have hsz : ti.loadSize = ti.size := by unfold TI.loadSize; rw [ha]; rfl
    rw [hsz] at hl
    obtain ⟨vs, hrun, hlen, hvs⟩ := read_run (P := P) hs hF hp hl
    have : v = .agg l := by rw [ha] at hv; exact (Option.some.inj hv).symm
    subst this
    refine ⟨.agg vs.toArray, ?_, ?_⟩
    · simp only [if_true, Sem.run_bind, hview.rsize, hrun, Result.andThen_ok, Sem.run_pure]
    · simp only [V]; exact ⟨_, rfl, by simpa using hvs⟩
  | false =>
    have hsz : ti.loadSize = 1 := by unfold TI.loadSize; rw [ha]; rfl
    rw [hsz] at hl
    obtain ⟨vs, hlen, hvs, hc⟩ := read_cells hs hF hp hl
    have := oneV_some (show oneV l = some v by rw [ha] at hv; exact hv)
    subst this
    obtain ⟨v', rfl, hr⟩ := hvs.inv1
    have h0 := hc 0 v' rfl
    rw [addr_add, Nat.add_zero] at h0
    refine ⟨v', ?_, hr⟩
    simp [h0]

theorem load_good (ht : TTok P tt) {t : TypeId} {a : AV} {a' : Value} (ha : V ρ a a') :
    Good tt ρ w s ((do pure (Next.value (← Instr.loadAt t a')) : Sem Next).run P w) (opLoad tt s t a) := by
  refine good_vPtr fun b o e => good_oTI fun ti hti => good_oCells fun l hl => good_oAV fun v hv => good_read fun hs => ?_
  subst e
  obtain ⟨p, hp, rfl⟩ := ha.ptr
  obtain ⟨i, d, z, hview⟩ := ht.view hti
  obtain ⟨v', hrun, hr⟩ := loadVar_ok hview hs (List.mem_singleton.2 rfl) hp hl hv
  exact ⟨v', rv (by simp [Instr.loadAt, Instr.sureAddr, hrun]), hr⟩

/-! writing -/
theorem ifS_some {b : Bool} {x : Option St} {s' : St} (h : ifS b x = some s') : b = true ∧ x = some s' := by
  cases b with
  | false => cases h
  | true => exact ⟨rfl, h⟩
theorem putO_some {x : Option ABlk} {b : Nat} {s s' : St} (h : putO x b s = some s') : ∃ y, x = some y ∧ s' = s.setBlk b (some y) := by
  cases x with
  | none => cases h
  | some y => exact ⟨y, rfl, (Option.some.inj h).symm⟩
theorem withCells_some {x : Option ABlk} {f : List AV → TypeId → Nat → Option ABlk} {y : ABlk} (h : withCells x f = some y) : ∃ c t g, x = some (.cells c t g) ∧ f c t g = some y := by
  cases x with
  | none => cases h
  | some z => cases z <;> first | (cases h; done) | exact ⟨_, _, _, rfl, h⟩
theorem blkOf_some {c : Option (List AV)} {t g : Nat} {y : ABlk} (h : blkOf c t g = some y) : ∃ cs, c = some cs ∧ y = .cells cs t g := by
  cases c with
  | none => cases h
  | some cs => exact ⟨cs, rfl, (Option.some.inj h).symm⟩
theorem St.write_some {s s' : St} {b o : Nat} {vs : List AV} (h : s.write b o vs = some s') :
    (∀ v ∈ vs, v.scalar = true) ∧ ∃ c t g c', hget s.h b = some (.cells c t g) ∧ splice c o vs = some c' ∧ s' = s.setBlk b (some (.cells c' t g)) := by
  obtain ⟨h1, h2⟩ := ifS_some h
  obtain ⟨y, h3, h4⟩ := putO_some h2
  obtain ⟨c, t, g, h5, h6⟩ := withCells_some h3
  obtain ⟨cs, h7, h8⟩ := blkOf_some h6
  exact ⟨allScalar_iff.1 h1, c, t, g, cs, h5, h7, by rw [h4, h8]⟩
theorem Vs.scalars {as : List AV} {l : List Value} (h : Vs ρ as l) (hs : ∀ v ∈ as, v.scalar = true) : ∀ v ∈ l, v.oneCell' = true := by
  intro v hv
  obtain ⟨i, hi⟩ := List.mem_iff_getElem?.1 hv
  have hlt : i < as.length := by rw [h.length]; exact (List.getElem?_eq_some_iff.1 hi).1
  obtain ⟨u, hu, hr⟩ := h.get (List.getElem?_eq_getElem hlt)
  rw [hu] at hi; cases hi
  exact hr.oneCell (hs _ (List.getElem_mem hlt))

/-- a write: the world's row is written, and the evaluator's. -/
theorem write_ok {s' : St} {b o : Nat} {vs : List AV} {xs : List Value} {p : Place} (hs : SRon tt F ρ s.h w) (hF : F b) (hp : ρ b = some p)
    (hvs : Vs ρ vs xs) (h : s.write b o vs = some s') (hne : vs ≠ []) :
    ∃ w', (storeCells ⟨p.block, p.base + o, none⟩ xs).run P w = .ok () w' ∧ Adv tt F ρ s w ρ s' w' := by
  obtain ⟨hsc, c, t, g, c', h1, h2, rfl⟩ := St.write_some h
  have hlt := hs.dom b p hp
  obtain ⟨q, arr, fz, hq, hw, hc, hz, hg⟩ := hs.heap b _ hF hlt h1
  rw [hp] at hq; cases hq
  obtain ⟨hfit, hc'⟩ := splice_some h2
  have hlen := hvs.length
  have hsz : p.base + o + xs.length ≤ arr.size := by
    have hpos : 0 < vs.length := List.length_pos_iff.2 hne
    have hlast : o + vs.length - 1 < c.length := by omega
    obtain ⟨v, hv, _⟩ := hc _ c[o + vs.length - 1] (List.getElem?_eq_getElem hlast)
    have := (Array.getElem?_eq_some_iff.1 hv).1
    omega
  have hrun := run_storeCells_row (P := P) p.block (p.base + o) t fz xs 0 arr w hw (hz.imp id (·.2)) (by simpa using hsz) (hvs.scalars hsc)
  refine ⟨_, hrun, Adv.put hs hF (live_of hlt h1) hp ?_ (fun k hk => setRow_other w p.block k _ hk) (by simp) rfl rfl rfl⟩
  intro y hy
  cases hy
  refine ⟨p, _, fz, hp, setRow_heap w p.block arr _ t fz hw, ?_, ?_, ?_⟩
  · intro i a ha
    rw [hc'] at ha
    simp only [Nat.add_zero, List.getElem?_toArray]
    have e1 : (arr.toList.take (p.base + o)).length = p.base + o := by simp; omega
    have e2 : (c.take o).length = o := by simp; omega
    rw [List.append_assoc] at ha ⊢
    by_cases hi : i < o
    · rw [List.getElem?_append_left (by omega)] at ha
      rw [List.getElem?_append_left (by omega)]
      rw [List.getElem?_take, if_pos (by omega)] at ha
      obtain ⟨v, hv, hr⟩ := hc i a ha
      exact ⟨v, by rw [List.getElem?_take, if_pos (by omega)]; simpa using hv, hr⟩
    · rw [List.getElem?_append_right (by omega), e2] at ha
      rw [List.getElem?_append_right (by omega), e1]
      by_cases hi2 : i - o < vs.length
      · rw [List.getElem?_append_left hi2] at ha
        obtain ⟨v, hv, hr⟩ := hvs.get ha
        exact ⟨v, by rw [List.getElem?_append_left (by omega), show p.base + i - (p.base + o) = i - o by omega]; exact hv, hr⟩
      · rw [List.getElem?_append_right (by omega), List.getElem?_drop] at ha
        obtain ⟨v, hv, hr⟩ := hc _ a ha
        refine ⟨v, ?_, hr⟩
        rw [List.getElem?_append_right (by omega), List.getElem?_drop, Array.getElem?_toList, ← hv]
        congr 1
        omega
  · rcases hz with hz | hz
    · exact .inl hz
    · refine .inr ⟨hz.1, ?_⟩
      simp; omega
  · refine ⟨fun h0 => ⟨(hg.1 h0).1, by rw [splice_length h2, ← (hg.1 h0).2]; simp; omega⟩, fun h1 => ?_⟩
    obtain ⟨a1, a2, a3⟩ := hg.2 h1
    refine ⟨by rw [splice_length h2]; exact a1, ?_, a3⟩
    simp; omega

theorem store_good (ht : TTok P tt) {t : TypeId} {a x : AV} {a' x' : Value} (ha : V ρ a a') (hx : V ρ x x') :
    Good tt ρ w s ((do Instr.storeAt t a' x'; pure Next.skip : Sem Next).run P w) (opStore tt s t a x) := by
  refine good_vPtr fun b o e => good_oTI fun ti hti => good_chk fun hlen => good_oSt fun s' hs' => ?_
  subst e
  intro hs _ _
  obtain ⟨p, hp, rfl⟩ := ha.ptr
  obtain ⟨i, d, z, hview⟩ := ht.view hti
  have hlen' : x.cells.length = ti.size := by rw [← lenL_eq]; exact Nat.beq_eq.mp hlen
  have htop : x ≠ .top := by
    intro e; subst e
    have := (St.write_some hs').1 .top (by simp [AV.cells])
    cases this
  have hc := hx.cells htop
  have hsz : x'.cells.size = ti.size := by
    have := hc.length; rw [hlen'] at this; simpa using this.symm
  by_cases hnil : x.cells = []
  · -- nothing to write
    rw [hnil] at hs' hc
    obtain ⟨_, c, t', g, c', h1, h2, rfl⟩ := St.write_some hs'
    obtain ⟨_, hc'⟩ := splice_some h2
    have hcc : c' = c := by rw [hc']; simp
    have hx0 : x'.cells.toList = [] := by simpa [Vs] using hc
    refine ⟨w, ρ, ru ?_, ?_⟩
    · unfold Instr.storeAt storeVar
      simp only [Instr.sureAddr, Sem.run_bind, Sem.run_pure, Result.andThen_ok, hview.rsize, hsz, hx0]
      simp [storeCells]
    · subst hcc
      refine Adv.put hs (List.mem_singleton.2 rfl) (live_of (hs.dom b p hp) h1) hp ?_ (fun _ _ => rfl) (Nat.le_refl _) rfl rfl rfl
      intro y hy; cases hy
      exact hs.heap b _ (List.mem_singleton.2 rfl) (hs.dom b p hp) h1
  · obtain ⟨w', hrun, hadv⟩ := write_ok (P := P) hs (List.mem_singleton.2 rfl) hp hc hs' hnil
    refine ⟨w', ρ, ru ?_, hadv⟩
    unfold Instr.storeAt storeVar
    simp only [Instr.sureAddr, Sem.run_bind, Sem.run_pure, Result.andThen_ok, hview.rsize, hsz]
    simp [hrun]
end
end Go.Dee
namespace Go.Dee
open Go

section
variable {P : Program} {tt : Trie TI} {F : Nat → Prop} {ρ : Ren} {w : World} {s : St}

theorem push_old (w : World) (o : Obj) (k : Nat) (h : k < w.heap.size) : ({ w with heap := w.heap.push o } : World).heap[k]? = w.heap[k]? := by
  simp [Array.getElem?_push, Nat.ne_of_lt h]
theorem push_new (w : World) (o : Obj) : ({ w with heap := w.heap.push o } : World).heap[w.heap.size]? = some o := by simp

theorem Vs.rel {c : List AV} {arr : Array Value} (h : Vs ρ c arr.toList) : cellsRel ρ c arr 0 := by
  intro i a ha
  obtain ⟨v, hv, hr⟩ := h.get ha
  exact ⟨v, by simpa using hv, hr⟩

theorem Vs.size {c : List AV} {arr : Array Value} (h : Vs ρ c arr.toList) : arr.size = c.length := by rw [← Array.length_toList]; exact h.length.symm

/-- a new row. -/
theorem new_row' (hs : SRon tt F ρ s.h w) {w' : World} {c : List AV} {t : TypeId} {g top esz : Nat} {arr : Array Value} {fz : Nat × Nat} (hn : ρ s.n = none) (hlt : s.n < 65536)
    (hc : cellsRel ρ c arr 0) (hz : fz = (0, 0) ∨ (g = 2 ∧ arr.size ≤ fz.1)) (hg : 1 ≤ g → c.length ≤ top ∧ top ≤ arr.size ∧ ∃ ti, tt.get t = some ti ∧ esz = ti.size) (hl : g = 0 → arr.size = c.length)
    (hh : w'.heap = w.heap.push (.cells arr t fz)) (hos : w'.os = w.os) (hout : w'.output = w.output) (htape : w'.tape = w.tape) :
    Adv tt F ρ s w (ρ.upd s.n ⟨w.heap.size, 0, top, esz⟩) (s.new (.cells c t g)) w' := by
  refine Adv.add hs hn hlt ⟨_, arr, fz, Ren.upd_same _ _ _, by rw [hh]; simp, hc.mono (Ren.le_upd hn), hz, fun h => ⟨rfl, hl h⟩, fun h => ?_⟩ (fun k hk => by rw [hh]; simp [Array.getElem?_push, Nat.ne_of_lt hk]) (Nat.le_refl _) (by rw [hh]; simp) hos hout htape
  obtain ⟨a, b, c⟩ := hg h
  exact ⟨by simpa using a, b, c⟩
theorem new_row (hs : SRon tt F ρ s.h w) {c : List AV} {t : TypeId} {g top esz : Nat} {arr : Array Value} {fz : Nat × Nat} (hn : ρ s.n = none) (hlt : s.n < 65536)
    (hc : cellsRel ρ c arr 0) (hz : fz = (0, 0) ∨ (g = 2 ∧ arr.size ≤ fz.1)) (hg : 1 ≤ g → c.length ≤ top ∧ top ≤ arr.size ∧ ∃ ti, tt.get t = some ti ∧ esz = ti.size) (hl : g = 0 → arr.size = c.length) :
    Adv tt F ρ s w (ρ.upd s.n ⟨w.heap.size, 0, top, esz⟩) (s.new (.cells c t g)) { w with heap := w.heap.push (.cells arr t fz) } :=
  new_row' hs hn hlt hc hz hg hl rfl rfl rfl rfl
theorem V.newPtr {n : Nat} {p : Place} (hb : p.base = 0) : V (ρ.upd n p) (.ptr n 0) (.pointer (some ⟨p.block, 0, none⟩)) := by
  simp only [V]; exact ⟨p, Ren.upd_same _ _ _, by rw [hb]⟩
theorem free1 {x : ABlk} (h : freeIn ρ s.n (s.new x).n) : ρ s.n = none := h s.n (Nat.le_refl _) (Nat.lt_succ_self _)
theorem lt1 {x : ABlk} (h : (s.new x).n ≤ 65536) : s.n < 65536 := h

theorem alloc_good (ht : TTok P tt) {t : TypeId} : Good tt ρ w s ((do pure (Next.value (← Instr.alloc t true (.tuple #[]))) : Sem Next).run P w) (opAlloc tt s t) := by
  refine good_oTI fun ti hti => ?_
  intro hs hf hl
  obtain ⟨i, d, z, hview⟩ := ht.view hti
  refine ⟨_, _, _, rv (v := .pointer (some ⟨w.heap.size, 0, none⟩)) ?_, V.newPtr rfl, new_row (top := 0) (esz := 0) (arr := z.cells) (fz := (0, 0)) hs (free1 hf) (lt1 hl) (hview.czero (ρ := ρ)).rel (.inl rfl) (fun h => absurd h (by decide)) (fun _ => (hview.czero (ρ := ρ)).size)⟩
  unfold Instr.alloc
  simp only [Sem.run_bind, hview.rzero, Result.andThen_ok]
  simp [newVar, newRow]
theorem notTop_ne {v : AV} (h : notTop v = true) : v ≠ .top := by
  intro e; subst e; cases h
theorem box_good {t : TypeId} {x : AV} {x' : Value} (hx : V ρ x x') : Good tt ρ w s ((do pure (Next.value (← Instr.box t x')) : Sem Next).run P w) (opBox s t x) := by
  refine good_chk fun hne => ?_
  have hne := notTop_ne hne
  intro hs hf hl
  refine ⟨_, _, _, rv (v := .pointer (some ⟨w.heap.size, 0, none⟩)) ?_, V.newPtr rfl, new_row (top := 0) (esz := 0) (arr := x'.cells) (fz := (0, 0)) hs (free1 hf) (lt1 hl) (hx.cells hne).rel (.inl rfl) (fun h => absurd h (by decide)) (fun _ => (hx.cells hne).size)⟩
  simp [Instr.box, newVar, newRow]

/-! literals -/
theorem bindL_some {x : Option (List AV)} {f : List AV → Option (List AV)} {r : List AV} (h : bindL x f = some r) : ∃ c, x = some c ∧ f c = some r := by
  cases x with
  | none => cases h
  | some c => exact ⟨c, rfl, h⟩
theorem fillO_some {q : Option (Nat × Nat)} {v : AV} {c r : List AV} (h : fillO q v c = some r) : ∃ o n, q = some (o, n) ∧ v ≠ .top ∧ v.cells.length = n ∧ splice c o v.cells = some r := by
  cases q with
  | none => cases h
  | some q =>
    obtain ⟨o, n⟩ := q
    have h' : fillStep (o, n) v c = some r := h
    unfold fillStep at h'
    cases hb : andB (notTop v) (Nat.beq (lenL v.cells) n) with
    | false => rw [hb] at h'; cases h'
    | true =>
      rw [hb] at h'
      rw [andB_eq, Bool.and_eq_true] at hb
      exact ⟨o, n, rfl, notTop_ne hb.1, by rw [← lenL_eq]; exact Nat.beq_eq.mp hb.2, h'⟩

theorem foldl_set (vs : List Value) (off : Nat) : ∀ (k : Nat) (cells : Array Value),
    ((vs.zipIdx k).foldl (fun (cs : Array Value) (x : Value × Nat) => cs.setIfInBounds (off + x.2) x.1) cells).size = cells.size ∧
    ∀ j : Nat, ((vs.zipIdx k).foldl (fun (cs : Array Value) (x : Value × Nat) => cs.setIfInBounds (off + x.2) x.1) cells)[j]? =
      if off + k ≤ j ∧ j < off + k + vs.length ∧ j < cells.size then vs[j - (off + k)]? else cells[j]? := by
  induction vs with
  | nil => intro k cells; refine ⟨rfl, fun j => ?_⟩; rw [if_neg (by simp; omega)]; rfl
  | cons v t ih =>
    intro k cells
    rw [List.zipIdx_cons, List.foldl_cons]
    obtain ⟨h1, h2⟩ := ih (k + 1) (cells.setIfInBounds (off + k) v)
    refine ⟨by rw [h1]; simp, fun j => ?_⟩
    rw [h2]
    simp only [Array.size_setIfInBounds, List.length_cons, Array.getElem?_setIfInBounds]
    by_cases e : j = off + k
    · subst e
      rw [if_neg (by omega)]
      by_cases hlt : off + k < cells.size
      · rw [if_pos rfl, if_pos hlt, if_pos (by omega)]; simp
      · rw [if_pos rfl, if_neg hlt, if_neg (by omega)]
        rw [Array.getElem?_eq_none (by omega)]
    · rw [if_neg (Ne.symm e)]
      by_cases hc : off + (k + 1) ≤ j ∧ j < off + (k + 1) + t.length ∧ j < cells.size
      · rw [if_pos hc, if_pos (by omega), show j - (off + k) = (j - (off + (k + 1))) + 1 by omega, List.getElem?_cons_succ]
      · rw [if_neg hc, if_neg (by omega)]

/-- a literal's parts, filled in. -/
theorem fill_ok {place : Nat → Option (Nat × Nat)} {place' : Nat → Option (Nat × Nat)} (hpl : ∀ i o n, place i = some (o, n) → place' i = some (o, n)) :
    ∀ {ps : List (Nat × AV)} {qs : List (Nat × Value)} {c : List AV} {arr : Array Value} {r : List AV},
    ps.map (·.1) = qs.map (·.1) → Vs ρ (ps.map (·.2)) (qs.map (·.2)) → Vs ρ c arr.toList → fillParts place ps c = some r →
    ∃ arr' : Array Value, Instr.fill place' arr qs = some arr' ∧ Vs ρ r arr'.toList
  | [], qs, c, arr, r, h1, _, hc, h => by
    cases qs with
    | nil => have h' : some c = some r := h; cases h'; exact ⟨arr, rfl, hc⟩
    | cons => cases h1
  | p :: ps, qs, c, arr, r, h1, h2, hc, h => by
    cases qs with
    | nil => cases h1
    | cons q qs =>
      obtain ⟨i, v⟩ := p
      obtain ⟨i', v'⟩ := q
      simp only [List.map_cons, List.cons.injEq] at h1 h2
      obtain ⟨rfl, h1⟩ := h1
      simp only [Vs] at h2
      obtain ⟨u, l', e, hv, hrest⟩ := h2
      simp only [List.cons.injEq] at e
      obtain ⟨rfl, rfl⟩ := e
      obtain ⟨c1, h3, h4⟩ := bindL_some (show bindL (fillO (place i) v c) (fun c => fillParts place ps c) = some r from h)
      obtain ⟨o, n, h5, hne, h6, h7⟩ := fillO_some h3
      have hvc := hv.cells hne
      have hn : v'.cells.size = n := by have := hvc.length; rw [h6] at this; simpa using this.symm
      have hlen : c.length = arr.size := by have := hc.length; simpa using this
      obtain ⟨hfit, hc1⟩ := splice_some h7
      have hfit' : o + v'.cells.size ≤ arr.size := by omega
      obtain ⟨g1, g2⟩ := foldl_set v'.cells.toList o 0 arr
      let arr1 := v'.cells.zipIdx.foldl (fun (cs : Array Value) (x : Value × Nat) => cs.setIfInBounds (o + x.2) x.1) arr
      have ea : arr1 = (v'.cells.toList.zipIdx 0).foldl (fun (cs : Array Value) (x : Value × Nat) => cs.setIfInBounds (o + x.2) x.1) arr := by
        show v'.cells.zipIdx.foldl _ arr = _
        rw [← Array.foldl_toList, Array.toList_zipIdx]
      rw [← ea] at g1 g2
      have hc1' : Vs ρ c1 arr1.toList := by
        refine Vs.of_get (by rw [splice_length h7, hlen]; simpa using g1.symm) fun j a b ha hb => ?_
        have hb' : arr1[j]? = some b := by simpa using hb
        rw [g2 j] at hb'
        rw [hc1, List.append_assoc] at ha
        have e2 : (c.take o).length = o := by simp; omega
        have e3 : v.cells.length = v'.cells.size := by omega
        by_cases hj : o + 0 ≤ j ∧ j < o + 0 + v'.cells.toList.length ∧ j < arr.size
        · rw [if_pos hj] at hb'
          simp only [Array.length_toList] at hj
          rw [List.getElem?_append_right (by omega), e2, List.getElem?_append_left (by omega)] at ha
          obtain ⟨b', hb2, hr⟩ := hvc.get ha
          rw [Nat.add_zero] at hb'
          rw [hb2] at hb'; cases hb'; exact hr
        · rw [if_neg hj] at hb'
          simp only [Array.length_toList] at hj
          have hjs : j < arr.size := (Array.getElem?_eq_some_iff.1 hb').1
          by_cases hlo : j < o
          · rw [List.getElem?_append_left (by omega), List.getElem?_take, if_pos hlo] at ha
            obtain ⟨b', hb2, hr⟩ := hc.get ha
            rw [Array.getElem?_toList] at hb2
            rw [hb2] at hb'; cases hb'; exact hr
          · rw [List.getElem?_append_right (by omega), e2, List.getElem?_append_right (by omega), List.getElem?_drop] at ha
            obtain ⟨b', hb2, hr⟩ := hc.get ha
            rw [Array.getElem?_toList, show o + v.cells.length + (j - o - v.cells.length) = j by omega] at hb2
            rw [hb2] at hb'; cases hb'; exact hr
      obtain ⟨arr', g3, g4⟩ := fill_ok hpl h1 hrest hc1' h4
      refine ⟨arr', ?_, g4⟩
      simp only [Instr.fill, hpl i o n h5]
      rw [if_neg (by simp; omega)]
      exact g3
end
end Go.Dee
namespace Go.Dee
open Go

section
variable {P : Program} {tt : Trie TI} {F : Nat → Prop} {ρ : Ren} {w : World} {s : St}

theorem run_mapM {α β : Type} (f : α → Sem β) (g : α → β) : ∀ (l : List α), (∀ x ∈ l, (f x).run P w = .ok (g x) w) → (l.mapM f).run P w = .ok (l.map g) w
  | [], _ => rfl
  | x :: l, h => by
    rw [List.mapM_cons]
    simp only [Sem.run_bind, h x (by simp), Result.andThen_ok, run_mapM f g l (fun y hy => h y (by simp [hy])), Sem.run_pure, List.map_cons]
theorem run_mapM_arr {α β : Type} (f : α → Sem β) (g : α → β) (a : Array α) (h : ∀ x ∈ a.toList, (f x).run P w = .ok (g x) w) : (a.mapM f).run P w = .ok (a.map g) w := by
  have e : a.mapM f = List.toArray <$> a.toList.mapM f := by
    conv => lhs; rw [← Array.toArray_toList (xs := a)]
    rw [List.mapM_toArray]
  rw [e, Sem.run_map, run_mapM f g a.toList h]
  simp only [Result.andThen_ok]
  congr 1
  apply Array.toList_inj.1
  simp

theorem partPlace_some {t : TypeId} {k o n : Nat} (h : partPlace tt t k = some (o, n)) :
    ∃ ti, tt.get t = some ti ∧ ((∃ fs ft fi, ti.k = .struct fs ∧ fs[k]? = some (ft, o) ∧ tt.get ft = some fi ∧ n = fi.size) ∨
      (∃ len e te, ti.k = .array len e ∧ tt.get e = some te ∧ o = k * te.size ∧ n = te.size)) := by
  unfold partPlace at h
  split at h
  · rename_i ti hti
    refine ⟨ti, hti, ?_⟩
    split at h
    · rename_i fs hfs
      split at h
      · rename_i p hp
        cases h
        obtain ⟨ft, h1, h2⟩ := fieldIn_some hp
        exact .inl ⟨fs, ft, p.2, structFs_some hfs, h1, h2, rfl⟩
      · cases h
    · split at h
      · rename_i len e he
        split at h
        · rename_i te hte
          cases h
          exact .inr ⟨_, e, te, arrayOf_some he, hte, rfl, rfl⟩
        · cases h
      · cases h
  · cases h

theorem build_good (ht : TTok P tt) {t : TypeId} {ps : List (Nat × AV)} {qs : Array (Nat × Value)} (h1 : ps.map (·.1) = qs.toList.map (·.1)) (h2 : Vs ρ (ps.map (·.2)) (qs.toList.map (·.2))) :
    Good tt ρ w s ((do pure (Next.value (← Instr.build t qs)) : Sem Next).run P w) (opBuild tt s t ps) := by
  refine good_oTI fun ti hti => good_chk fun hagg => good_oCells fun cs hcs => ?_
  obtain ⟨i, d, z, hview⟩ := ht.view hti
  -- the model's places
  have key : ∀ place' : Nat → Option (Nat × Nat), (∀ k o n, partPlace tt t k = some (o, n) → place' k = some (o, n)) →
      ∃ arr' : Array Value, Instr.fill place' z.cells qs.toList = some arr' ∧ Vs ρ cs arr'.toList :=
    fun place' hp => fill_ok hp h1 h2 hview.czero hcs
  have hk := hview.kind
  cases hd : d with
  | struct fields =>
    subst hd
    obtain ⟨arr', g1, g2⟩ := key ((fields.map fun f => (f.offset, ((P.info? f.type).map (·.size)).getD 0))[·]?) (fun k o n hp => by
      obtain ⟨ti', hti', hcase⟩ := partPlace_some hp
      rw [hti] at hti'; cases hti'
      rcases hcase with ⟨fs, ft, fi, e1, e2, e3, e4⟩ | ⟨len, e, te, e1, _⟩
      · obtain ⟨fields', fd, e5, e6, e7, e8⟩ := hview.field e1 e2
        cases e5
        obtain ⟨i', d', z', hv'⟩ := ht.view e3
        simp only [Array.getElem?_map, e6, Option.map_some, Option.some.injEq, Prod.mk.injEq]
        rw [e7, hv'.info]
        exact ⟨e8, by simp [hv'.size, e4]⟩
      · rw [e1] at hk; cases hk)
    refine good_val (v' := .agg arr') (rv ?_) (by simp only [V]; exact ⟨arr', rfl, g2⟩)
    unfold Instr.build
    simp only [Sem.run_bind, hview.rzero, Result.andThen_ok, hview.rund]
    rw [run_mapM_arr _ (fun f => (f.offset, ((P.info? f.type).map (·.size)).getD 0)) fields (fun x hx => by
      obtain ⟨j, hj⟩ := hview.flds fields rfl x hx
      simp [run_siz hj, hj])]
    simp only [Result.andThen_ok, g1, Sem.run_pure]
  | array len e =>
    subst hd
    obtain ⟨je, hje⟩ := hview.elem len e rfl
    obtain ⟨arr', g1, g2⟩ := key (fun k => some (k * je.size, je.size)) (fun k o n hp => by
      obtain ⟨ti', hti', hcase⟩ := partPlace_some hp
      rw [hti] at hti'; cases hti'
      rcases hcase with ⟨fs, ft, fi, e1, e2, e3, e4⟩ | ⟨len', e', te, e1, e2, e3, e4⟩
      · rw [e1] at hk; obtain ⟨f, hf, _⟩ := hk; cases hf
      · rw [e1] at hk
        have hk' : TypeDesc.array len e = .array len' e' := hk
        cases hk'
        obtain ⟨i', d', z', hv'⟩ := ht.view e2
        have := hv'.info
        rw [hje] at this; cases this
        rw [e3, e4, hv'.size])
    refine good_val (v' := .agg arr') (rv ?_) (by simp only [V]; exact ⟨arr', rfl, g2⟩)
    unfold Instr.build
    simp only [Sem.run_bind, hview.rzero, Result.andThen_ok, hview.rund, run_siz hje, g1, Sem.run_pure]
  | _ =>
    have := hview.agg
    rw [hd, hagg] at this
    cases this
end
end Go.Dee
namespace Go.Dee
open Go

theorem repeatL_get (z : List AV) (m k : Nat) (h : k < m * z.length) : (repeatL z m)[k]? = z[k % z.length]? := by
  induction m generalizing k with
  | zero => omega
  | succ m ih =>
    rw [repeatL_succ]
    by_cases hk : k < z.length
    · rw [List.getElem?_append_left hk, Nat.mod_eq_of_lt hk]
    · have h' : k < m * z.length + z.length := by rw [Nat.add_mul] at h; omega
      have hk' : z.length ≤ k := by omega
      have e : k % z.length = (k - z.length) % z.length := Nat.mod_eq_sub_mod hk'
      rw [List.getElem?_append_right hk', ih (k - z.length) (by omega), e]

section
variable {P : Program} {tt : Trie TI} {F : Nat → Prop} {ρ : Ren} {w : World} {s : St}

theorem repeat_rel {z : List AV} {arr : Array Value} (h : Vs ρ z arr.toList) (m : Nat) :
    Vs ρ (repeatL z m) ((Array.range (m * arr.size)).map (fun i => arr[i % arr.size]!)).toList := by
  have hl : z.length = arr.size := by have := h.length; simpa using this
  refine Vs.of_get (by rw [repeatL_length, hl]; simp) fun k a v ha hv => ?_
  have hk : k < m * arr.size := by
    have := (List.getElem?_eq_some_iff.1 hv).1
    simpa using this
  have hpos : 0 < arr.size := by
    rcases Nat.eq_zero_or_pos arr.size with h0 | h0
    · rw [h0] at hk; omega
    · exact h0
  rw [repeatL_get z m k (by rw [hl]; exact hk), hl] at ha
  obtain ⟨u, hu, hr⟩ := h.get ha
  have hlt : k % arr.size < arr.size := Nat.mod_lt _ hpos
  have e : v = arr[k % arr.size]! := by
    simp only [Array.toList_map, Array.toList_range, List.getElem?_map] at hv
    rw [List.getElem?_range hk] at hv
    simpa using hv.symm
  rw [e]
  rw [Array.getElem?_toList, Array.getElem?_eq_getElem hlt] at hu
  cases hu
  rw [getElem!_pos arr _ hlt]
  exact hr

/-- the zero cells of a row, as the model makes them. -/
theorem zero_row {t : TypeId} {ti : TI} {i : TypeInfo} {d : TypeDesc} {z : Value} (hview : View P t ti i d z) (m : Nat) (f : Nat → Value) (h0 : m * ti.size ≠ 0 → f = fun i => z.cells[i % z.cells.size]!) :
    Vs ρ (repeatL ti.zero.cells m) ((Array.range (m * ti.size)).map f).toList := by
  by_cases h : m * ti.size = 0
  · have : repeatL ti.zero.cells m = [] := List.eq_nil_of_length_eq_zero (by rw [repeatL_length, hview.lzero, h])
    rw [this, h]; simp [Vs]
  · rw [h0 h]
    have := repeat_rel (hview.czero (ρ := ρ)) m
    rw [hview.zsize] at this
    rw [hview.zsize]; exact this

theorem View.slice {t : TypeId} {ti : TI} {i : TypeInfo} {d : TypeDesc} {z : Value} (hview : View P t ti i d z) {e : TypeId} (hk : ti.k = .slice e) : d = .slice e := by
  have := hview.kind; rw [hk] at this; exact this
theorem View.array {t : TypeId} {ti : TI} {i : TypeInfo} {d : TypeDesc} {z : Value} (hview : View P t ti i d z) {n : Nat} {e : TypeId} (hk : ti.k = .array n e) : d = .array n e := by
  have := hview.kind; rw [hk] at this; exact this
theorem View.str {t : TypeId} {ti : TI} {i : TypeInfo} {d : TypeDesc} {z : Value} (hview : View P t ti i d z) (hk : ti.k = .str) : d = .string := by
  have := hview.kind; rw [hk] at this; exact this
theorem View.map {t : TypeId} {ti : TI} {i : TypeInfo} {d : TypeDesc} {z : Value} (hview : View P t ti i d z) {k e : TypeId} (hk : ti.k = .map k e) : d = .map k e := by
  have := hview.kind; rw [hk] at this; exact this

/-- a table's slice type, in the model's words. -/
theorem slice_view (ht : TTok P tt) {t : TypeId} {p : TypeId × TI} (h : sliceTI tt t = some p) :
    ∃ ti i z ie de ze, tt.get t = some ti ∧ View P t ti i (.slice p.1) z ∧ tt.get p.1 = some p.2 ∧ View P p.1 p.2 ie de ze := by
  obtain ⟨ti, h1, h2, h3⟩ := sliceTI_some h
  obtain ⟨i, d, z, hv⟩ := ht.view h1
  obtain ⟨ie, de, ze, hve⟩ := ht.view h3
  have := hv.slice h2; subst this
  exact ⟨ti, i, z, ie, de, ze, h1, hv, h3, hve⟩
theorem array_view (ht : TTok P tt) {t : TypeId} {p : Nat × TI} (h : arrayTI tt t = some p) :
    ∃ ti i z e ie de ze, tt.get t = some ti ∧ View P t ti i (.array p.1 e) z ∧ tt.get e = some p.2 ∧ View P e p.2 ie de ze := by
  obtain ⟨ti, e, h1, h2, h3⟩ := arrayTI_some h
  obtain ⟨i, d, z, hv⟩ := ht.view h1
  obtain ⟨ie, de, ze, hve⟩ := ht.view h3
  have := hv.array h2; subst this
  exact ⟨ti, i, z, e, ie, de, ze, h1, hv, h3, hve⟩

theorem V.newSlice {n len : Nat} {p : Place} (hb : p.base = 0) (c : Nat) : V (ρ.upd n p) (.sl n 0 len (some c)) (.slice (some ⟨p.block, 0, none⟩) len c) := by
  simp only [V]; exact ⟨p, Ren.upd_same _ _ _, by rw [hb]⟩

theorem buildSlice_good (ht : TTok P tt) {t : TypeId} {len : Nat} {ps : List (Nat × AV)} {qs : Array (Nat × Value)} (h1 : ps.map (·.1) = qs.toList.map (·.1)) (h2 : Vs ρ (ps.map (·.2)) (qs.toList.map (·.2))) :
    Good tt ρ w s ((do pure (Next.value (← Instr.buildSlice t len qs)) : Sem Next).run P w) (opBuildSlice tt s t len ps) := by
  refine good_oElem fun p hp => good_chk fun hsz => good_oCells fun cs hcs => ?_
  obtain ⟨ti, i, z, ie, de, ze, _, hv, _, hve⟩ := slice_view ht hp
  intro hs hf hl
  have hsz' : len * p.2.size ≤ 65536 := Nat.ble_eq.mp hsz
  have fin : ∀ f : Nat → Value, (len * p.2.size ≠ 0 → f = fun i => ze.cells[i % ze.cells.size]!) →
      (∀ arr' : Array Value, Instr.fill (fun i => some (i * p.2.size, p.2.size)) ((Array.range (len * p.2.size)).map f) qs.toList = some arr' →
        (Instr.buildSlice t len qs).run P w = .ok (.slice (some ⟨w.heap.size, 0, none⟩) len len) { w with heap := w.heap.push (.cells arr' p.1 (0, 0)) }) →
      ∃ v' w' ρ', ((do pure (Next.value (← Instr.buildSlice t len qs)) : Sem Next).run P w) = .ok (.value v') w' ∧ V ρ' (.sl s.n 0 len (some len)) v' ∧ Adv tt (· ∈ []) ρ s w ρ' (s.new (.cells cs p.1 0)) w' := by
    intro f hf0 hrun
    obtain ⟨arr', g1, g2⟩ := fill_ok (ρ := ρ) (place := rowPlace p.2) (place' := fun i => some (i * p.2.size, p.2.size)) (fun k o n h => h) h1 h2 (zero_row hve len f hf0) hcs
    exact ⟨_, _, _, rv (hrun arr' g1), V.newSlice rfl len, new_row (top := 0) (esz := 0) (arr := arr') (fz := (0, 0)) hs (free1 hf) (lt1 hl) g2.rel (.inl rfl) (fun h => absurd h (by decide)) (fun _ => g2.size)⟩
  have hn : ¬ len * p.2.size > 2 ^ 24 := by omega
  by_cases h0 : len * p.2.size = 0
  · refine fin (fun _ => default) (fun h => absurd h0 h) fun arr' g1 => ?_
    unfold Instr.buildSlice
    simp [hv.rund, hve.rsize, h0] at g1 ⊢
    simp [g1, newRow]
  · refine fin (fun i => ze.cells[i % ze.cells.size]!) (fun _ => rfl) fun arr' g1 => ?_
    unfold Instr.buildSlice
    simp [hv.rund, hve.rsize, h0, hve.rzero, hn]
    rw [g1]
    simp [newRow]

theorem makeSlice_good (ht : TTok P tt) {t : TypeId} {l c : AV} {l' c' : Value} (hl : V ρ l l') (hc : V ρ c c') :
    Good tt ρ w s ((do pure (Next.value (← Instr.makeSlice t l' c')) : Sem Next).run P w) (opMakeSlice tt s t l c) := by
  refine good_oElem fun p hp => good_vNat fun k ln e1 => good_vNat fun k' cn e2 => good_chk fun hok => ?_
  subst e1; subst e2
  rw [hl.int, hc.int]
  rw [andB_eq, Bool.and_eq_true, andB_eq, Bool.and_eq_true] at hok
  have h1 : ln ≤ cn := Nat.ble_eq.mp hok.1
  have h2 : cn * p.2.bytes ≤ 1073741824 := Nat.ble_eq.mp hok.2.1
  have h3 : cn ≤ 1073741824 := Nat.ble_eq.mp hok.2.2
  obtain ⟨ti, i, z, ie, de, ze, _, hv, _, hve⟩ := slice_view ht hp
  intro hs hf hlt
  have w1 : IntKind.i64.wrap (Int.ofNat ln) = (ln : Int) := wrap_s .i64 rfl 9223372036854775808 rfl rfl (by rw [Int.ofNat_eq_natCast]; omega) (by rw [Int.ofNat_eq_natCast]; omega)
  have w2 : IntKind.i64.wrap (Int.ofNat cn) = (cn : Int) := wrap_s .i64 rfl 9223372036854775808 rfl rfl (by rw [Int.ofNat_eq_natCast]; omega) (by rw [Int.ofNat_eq_natCast]; omega)
  have hb : ie.bytes = p.2.bytes := hve.bytes
  have t1 : (decide ((cn : Int) < 0) || decide ((ie.bytes : Int) * (cn : Int) > 2 ^ 48)) = false := by
    have : (ie.bytes : Int) * (cn : Int) = ((cn * p.2.bytes : Nat) : Int) := by rw [hb, Nat.mul_comm]; simp
    rw [this, Bool.or_eq_false_iff]
    exact ⟨decide_eq_false (by omega), decide_eq_false (by omega)⟩
  have t2 : ¬ ((false || decide ((ln : Int) < 0) || decide ((ln : Int) > (cn : Int))) = true) := by
    simp only [Bool.false_or, Bool.or_eq_true, decide_eq_true_eq]; omega
  have e3 : ((cn : Int)).toNat = cn := by omega
  have e4 : ((ln : Int)).toNat = ln := by omega
  have fin : ∀ f : Nat → Value, (cn * p.2.size ≠ 0 → f = fun i => ze.cells[i % ze.cells.size]!) →
      (Instr.makeSlice t (.int k (Int.ofNat ln)) (.int k' (Int.ofNat cn))).run P w = .ok (.slice (some ⟨w.heap.size, 0, none⟩) ln cn) { w with heap := w.heap.push (.cells ((Array.range (cn * p.2.size)).map f) p.1 (0, 0)) } →
      ∃ v' w' ρ', ((do pure (Next.value (← Instr.makeSlice t (.int k (Int.ofNat ln)) (.int k' (Int.ofNat cn)))) : Sem Next).run P w) = .ok (.value v') w' ∧ V ρ' (.sl s.n 0 ln (some cn)) v' ∧
        Adv tt (· ∈ []) ρ s w ρ' (s.new (.cells (repeatL p.2.zero.cells cn) p.1 0)) w' := by
    intro f hf0 hrun
    exact ⟨_, _, _, rv hrun, V.newSlice rfl cn, new_row (top := 0) (esz := 0) (arr := (Array.range (cn * p.2.size)).map f) (fz := (0, 0)) hs (free1 hf) (lt1 hlt) (zero_row hve cn f hf0).rel (.inl rfl) (fun h => absurd h (by decide)) (fun _ => (zero_row (ρ := ρ) hve cn f hf0).size)⟩
  have step : ∀ r, ((do
      askRoom (((cn : Int)).toNat * ie.bytes)
      let n := ((cn : Int)).toNat * (← Go.sizeOf p.1)
      let zero ← if n = 0 then pure #[] else do pure (← zeroValue p.1).cells
      let a ← newRow p.1 ((Array.range n).map (zero[· % zero.size]!))
      pure (.slice (some a) ((ln : Int)).toNat ((cn : Int)).toNat)) : Sem Value).run P w = r → (Instr.makeSlice t (.int k (Int.ofNat ln)) (.int k' (Int.ofNat cn))).run P w = r := by
    intro r hr
    unfold Instr.makeSlice
    simp only [Sem.run_bind, hv.rund, Result.andThen_ok, asInt, asIntOf, Sem.run_pure, hve.rinfo, w1, w2, t1]
    rw [if_neg t2]
    rw [← hr]
  by_cases h0 : cn * p.2.size = 0
  · refine fin (fun _ => default) (fun h => absurd h0 h) (step _ ?_)
    simp [e3, e4, hve.rsize, h0, newRow]
  · refine fin (fun i => ze.cells[i % ze.cells.size]!) (fun _ => rfl) (step _ ?_)
    simp [e3, e4, hve.rsize, h0, hve.rzero, newRow]
end
end Go.Dee
namespace Go.Dee
open Go

section
variable {P : Program} {tt : Trie TI} {F : Nat → Prop} {ρ : Ren} {w : World} {s : St}

/-- a slice, in whatever make. -/
theorem V.sl {b o len : Nat} {cap : Option Nat} {v : Value} (h : V ρ (.sl b o len cap) v) :
    ∃ (a : Addr) (c : Nat), v = .slice (some a) len c ∧ ∃ p, ρ b = some p ∧ (0 < len → a = ⟨p.block, p.base + o, none⟩ ∧ len ≤ c ∨ cap.isSome = true ∧ a = ⟨p.block, p.base + o, none⟩) := by
  cases cap with
  | some c => simp only [V] at h; obtain ⟨p, hp, rfl⟩ := h; exact ⟨_, c, rfl, p, hp, fun _ => .inr ⟨rfl, rfl⟩⟩
  | none =>
    simp only [V] at h
    obtain ⟨p, a, c, hp, rfl, hlc, _, hcase⟩ := h
    refine ⟨a, c, rfl, p, hp, fun h0 => .inl ?_⟩
    rcases hcase.1 with rfl | rfl
    · omega
    · exact ⟨rfl, hlc⟩
theorem V.slAddr {b o len : Nat} {cap : Option Nat} {v : Value} (h : V ρ (.sl b o len cap) v) :
    ∃ (a : Addr) (c : Nat) (p : Place), v = .slice (some a) len c ∧ ρ b = some p ∧ (0 < len → a = ⟨p.block, p.base + o, none⟩) := by
  obtain ⟨a, c, e, p, hp, hc⟩ := h.sl
  exact ⟨a, c, p, e, hp, fun h0 => (hc h0).elim (·.1) (·.2)⟩
theorem V.nat {k : IntKind} {n : Nat} {v : Value} (h : V ρ (.int k (Int.ofNat n)) v) : v = .int k (n : Int) := h.int

theorem indexAddr_good (ht : TTok P tt) {t : TypeId} {x i : AV} {x' i' : Value} (hx : V ρ x x') (hi : V ρ i i') :
    Good tt ρ w s ((do pure (Next.value (← Instr.indexAt t x' i')) : Sem Next).run P w) (opIndexAddr tt s t x i) := by
  refine good_vNat fun k n e => ?_
  subst e
  rw [hi.nat]
  refine good_vIdx (fun b o l c e => good_oElem fun p hp => good_chk fun hlt => ?_) (fun b o e => good_oPair fun p hp => good_chk fun hlt => ?_)
  · subst e
    have hlt' : n < l := isLt_iff.1 hlt
    obtain ⟨a, c', pl, rfl, hpl, ha⟩ := hx.slAddr
    rw [ha (by omega)]
    obtain ⟨ti, ii, z, ie, de, ze, _, hv, _, hve⟩ := slice_view ht hp
    refine good_val (v' := .pointer (some ⟨pl.block, pl.base + (o + n * p.2.size), none⟩)) (rv ?_) (by simp only [V]; exact ⟨pl, hpl, rfl⟩)
    have h1 : (0 : Int) ≤ (n : Int) ∧ (n : Int) < (l : Int) := by omega
    have h2 : ((n : Int)).toNat = n := by omega
    simp [Instr.indexAt, asIntOf, hv.rund, hlt', hve.rsize, addr_add, Nat.add_assoc]
  · subst e
    have hlt' : n < p.1 := isLt_iff.1 hlt
    obtain ⟨pl, hpl, rfl⟩ := hx.ptr
    obtain ⟨ti, ii, z, e, ie, de, ze, _, hv, _, hve⟩ := array_view ht hp
    refine good_val (v' := .pointer (some ⟨pl.block, pl.base + (o + n * p.2.size), none⟩)) (rv ?_) (by simp only [V]; exact ⟨pl, hpl, rfl⟩)
    have h1 : (0 : Int) ≤ (n : Int) ∧ (n : Int) < (p.1 : Int) := by omega
    have h2 : ((n : Int)).toNat = n := by omega
    simp [Instr.indexAt, asIntOf, hv.rund, hlt', hve.rsize, addr_add, Nat.add_assoc, Instr.sureAddr]

theorem headB_some {l : List Nat} {v : AV} (h : headB l = some v) : ∃ b t, l = b :: t ∧ v = u8V b := by
  cases l with
  | nil => cases h
  | cons b t => exact ⟨b, t, rfl, (Option.some.inj h).symm⟩

theorem index_good (ht : TTok P tt) {t : TypeId} {x i : AV} {x' i' : Value} (hx : V ρ x x') (hi : V ρ i i') :
    Good tt ρ w s ((do pure (Next.value (← Instr.index t x' i')) : Sem Next).run P w) (opIndex tt s t x i) := by
  refine good_vNat fun k n e => ?_
  subst e
  rw [hi.nat]
  have h2 : ((n : Int)).toNat = n := by omega
  refine good_vIdxV (fun cs e => good_oPair fun p hp => good_chk fun hlt => good_oVal fun v hv => ?_) (fun l e => good_oTI fun ti hti => good_chk fun hstr => good_oVal fun v hv => ?_)
  · subst e
    have hlt' : n < p.1 := isLt_iff.1 hlt
    simp only [V] at hx
    obtain ⟨l, rfl, hl⟩ := hx
    obtain ⟨ti, ii, z, e, ie, de, ze, _, hvw, _, hve⟩ := array_view ht hp
    obtain ⟨v', hrun, hr⟩ := part_ok (w := w) hve hl hv
    refine good_val (rv ?_) hr
    have h1 : (0 : Int) ≤ (n : Int) ∧ (n : Int) < (p.1 : Int) := by omega
    simp only [Instr.index, asIntOf, Sem.run_bind, Sem.run_pure, Result.andThen_ok, hvw.rund, if_pos h1, hve.rsize, h2]
    exact hrun
  · subst e
    obtain ⟨xs, rfl, rfl⟩ := hx.str
    obtain ⟨ii, d, z, hvw⟩ := ht.view hti
    have := hvw.str (isStr_true hstr); subst this
    rw [dropB_eq] at hv
    obtain ⟨b, t', e1, rfl⟩ := headB_some hv
    have hb : (bytesL xs)[n]? = some b := by
      have := congrArg (fun l => l[0]?) e1
      simpa using this
    rw [bytesL_def, List.getElem?_map, Option.map_eq_some_iff] at hb
    obtain ⟨u, hu, rfl⟩ := hb
    have hu' : xs[n]? = some u := by
      rw [Array.getElem?_toList] at hu
      have hlt : n < xs.data.size := (Array.getElem?_eq_some_iff.1 hu).1
      have hlt' : n < xs.size := hlt
      rw [getElem?_pos xs n hlt']
      rw [Array.getElem?_eq_getElem hlt] at hu
      exact hu
    refine good_val (v' := .int .u8 u.toNat) (rv ?_) (by simp only [V, u8V]; rfl)
    have h1 : (0 : Int) ≤ (n : Int) := by omega
    simp [Instr.index, asIntOf, hvw.rund, hu']
end
end Go.Dee
namespace Go.Dee
open Go

section
variable {P : Program} {tt : Trie TI} {F : Nat → Prop} {ρ : Ren} {w : World} {s : St}

/-- an operand that there may be. -/
def OV (ρ : Ren) : Option AV → Option Value → Prop
  | none, v => v = none
  | some a, v => ∃ x, v = some x ∧ V ρ a x

/-- a bound: what it comes to. -/
def BR (x : Option Value) (d n : Nat) : Prop := (x = none ∧ n = d) ∨ ∃ k, x = some (.int k (n : Int))

theorem good_bound {x : Option AV} {x' : Option Value} {d : Nat} {f : Nat → AR} {r : Result Next} (hx : OV ρ x x') (h : ∀ n, BR x' d n → Good tt ρ w s r (f n)) : Good tt ρ w s r (bnd x d f) := by
  refine good_bnd (fun e => ?_) (fun k n e => ?_)
  · subst e; exact h d (.inl ⟨hx, rfl⟩)
  · subst e
    obtain ⟨v, rfl, hv⟩ := hx
    exact h n (.inr ⟨k, by rw [hv.nat]⟩)

theorem bound_run {k : IntKind} {n y : Nat} {code : BoundsCode} (h : n ≤ y) : (Instr.sliceBound (.int k (n : Int)) y code).run P w = .ok n w := by
  unfold Instr.sliceBound
  have h1 : (0 : Int) ≤ (n : Int) ∧ (n : Int) ≤ (y : Int) := by omega
  have h2 : ((n : Int)).toNat = n := by omega
  simp only [asIntOf, Sem.run_bind, Sem.run_pure, Result.andThen_ok]
  rw [if_pos h1, h2]; rfl

theorem bounds_run {b : Bool} {len cap m h l : Nat} {lo hi mx : Option Value} (hm : BR mx cap m) (hh : BR hi len h) (hl : BR lo 0 l) (h1 : m ≤ cap) (h2 : h ≤ m) (h3 : l ≤ h) (hx : mx = none ∨ hi ≠ none) :
    (Instr.sliceBounds b len cap lo hi mx).run P w = .ok (l, h, m) w := by
  unfold Instr.sliceBounds
  rcases hm with ⟨rfl, rfl⟩ | ⟨k, rfl⟩
  · rcases hh with ⟨rfl, rfl⟩ | ⟨k', rfl⟩
    · rcases hl with ⟨rfl, rfl⟩ | ⟨k'', rfl⟩
      · simp
      · simp [bound_run h3]
    · rcases hl with ⟨rfl, rfl⟩ | ⟨k'', rfl⟩
      · simp [bound_run h2]
      · simp [bound_run h2, bound_run h3]
  · rcases hh with ⟨rfl, rfl⟩ | ⟨k', rfl⟩
    · rcases hx with hx | hx
      · cases hx
      · exact absurd rfl hx
    · rcases hl with ⟨rfl, rfl⟩ | ⟨k'', rfl⟩
      · simp [bound_run h1, bound_run h2]
      · simp [bound_run h1, bound_run h2, bound_run h3]

theorem isNoneO_true {x : Option AV} (h : isNoneO x = true) : x = none := by
  cases x with
  | none => rfl
  | some _ => cases h

theorem slice_good (ht : TTok P tt) {t : TypeId} {x : AV} {x' : Value} {lo hi mx : Option AV} {lo' hi' mx' : Option Value} (hx : V ρ x x') (hlo : OV ρ lo lo') (hhi : OV ρ hi hi') (hmx : OV ρ mx mx') :
    Good tt ρ w s ((do pure (Next.value (← Instr.sliceAt t x' lo' hi' mx')) : Sem Next).run P w) (opSlice tt s t x lo hi mx) := by
  refine good_chk fun hxx => ?_
  have hfull : mx' = none ∨ hi' ≠ none := by
    rw [orB_eq, Bool.or_eq_true] at hxx
    rcases hxx with h | h
    · left; have := isNoneO_true h; subst this; exact hmx
    · right
      cases hi with
      | none => rw [notB_eq] at h; cases h
      | some a => obtain ⟨u, rfl, _⟩ := hhi; simp
  refine good_vCut (fun l e => ?_) (fun e => ?_) (fun b o l c e => ?_) (fun b o e => ?_)
  · -- a text
    refine good_oTI fun ti hti => good_chk fun hstr => ?_
    rw [andB_eq, Bool.and_eq_true] at hstr
    subst e
    obtain ⟨xs, rfl, rfl⟩ := hx.str
    obtain ⟨ii, d, z, hvw⟩ := ht.view hti
    have := hvw.str (isStr_true hstr.1); subst this
    have := isNoneO_true hstr.2; subst this
    have : mx' = none := hmx
    subst this
    refine good_bound hhi fun h hh => good_bound hlo fun l hl => good_chk fun hok => ?_
    rw [andB_eq, Bool.and_eq_true, lenL_eq, bytesL_length] at hok
    rw [lenL_eq, bytesL_length] at hh
    have h1 : h ≤ xs.size := Nat.ble_eq.mp hok.1
    have h2 : l ≤ h := Nat.ble_eq.mp hok.2
    refine good_val (v' := .string (xs.extract l h)) (rv ?_) ?_
    · unfold Instr.sliceAt
      simp only [Sem.run_bind, hvw.rund, Result.andThen_ok]
      unfold Instr.slice
      have hb := bounds_run (P := P) (w := w) (b := false) (len := xs.size) (cap := xs.size) (m := xs.size) (mx := none) (.inl ⟨rfl, rfl⟩) hh hl (Nat.le_refl _) h1 h2 (.inl rfl)
      simp [hvw.rund, hb]
    · simp only [V]
      refine ⟨_, rfl, ?_⟩
      rw [bytesL_def, takeB_eq, dropB_eq, bytesL_def, ByteArray.data_extract, Array.toList_extract]
      simp [List.extract_eq_take_drop, List.map_take, List.map_drop]
  · -- nil
    refine good_oElem fun p hp => ?_
    subst e
    have : x' = .slice none 0 0 := by simpa only [V] using hx
    subst this
    obtain ⟨ti, ii, z, ie, de, ze, _, hvw, _, hve⟩ := slice_view ht hp
    unfold zeroB
    refine good_bound hmx fun m hm => good_chk fun h0 => good_bound hhi fun h hh => good_chk fun h1 => good_bound hlo fun l hl => good_chk fun h2 => ?_
    have e0 : m = 0 := Nat.beq_eq.mp h0
    have e1 : h = 0 := Nat.beq_eq.mp h1
    have e2 : l = 0 := Nat.beq_eq.mp h2
    subst e0; subst e1; subst e2
    refine good_val (v' := .slice none 0 0) (rv ?_) (by simp only [V])
    unfold Instr.sliceAt
    simp only [Sem.run_bind, hvw.rund, Result.andThen_ok]
    unfold Instr.slice
    simp only [Sem.run_bind, hvw.rund, Result.andThen_ok, bounds_run (b := true) (cap := 0) hm hh hl (Nat.le_refl _) (Nat.le_refl _) (Nat.le_refl _) hfull]
    simp [hve.rsize]
  · -- a slice
    refine good_oElem fun p hp => ?_
    subst e
    obtain ⟨ti, ii, z, ie, de, ze, hti, hvw, hte, hve⟩ := slice_view ht hp
    have run : ∀ (a : Addr) (c m h l' : Nat), BR mx' c m → BR hi' l h → BR lo' 0 l' → m ≤ c → h ≤ m → l' ≤ h →
        (Instr.sliceAt t (.slice (some a) l c) lo' hi' mx').run P w = .ok (.slice (if m = l' then some a else (some a).map (·.add (l' * p.2.size))) (h - l') (m - l')) w := by
      intro a c m h l' hm hh hl a1 a2 a3
      unfold Instr.sliceAt
      simp only [Sem.run_bind, hvw.rund, Result.andThen_ok]
      unfold Instr.slice
      simp only [Sem.run_bind, hvw.rund, Result.andThen_ok, bounds_run (b := true) hm hh hl a1 a2 a3 hfull, hve.rsize]
      rfl
    have known : ∀ (pl : Place) (m h l' : Nat), ρ b = some pl → V ρ (cutSl p.2.size b o l' h m) (.slice (if m = l' then some ⟨pl.block, pl.base + o, none⟩ else (some (⟨pl.block, pl.base + o, none⟩ : Addr)).map (·.add (l' * p.2.size))) (h - l') (m - l')) := by
      intro pl m h l' hpl
      unfold cutSl
      rw [bifN_eq]
      by_cases e : m = l'
      · rw [if_pos e, e]
        have : Nat.beq l' l' = true := Nat.beq_refl l'
        rw [this, cond_true]
        simp only [V]
        exact ⟨pl, hpl, rfl⟩
      · have hne : Nat.beq m l' = false := by rw [Bool.eq_false_iff]; exact fun h => e (Nat.beq_eq.mp h)
        rw [if_neg e, hne, cond_false]
        simp only [V, Option.map_some, addr_add]
        exact ⟨pl, hpl, by rw [Nat.add_assoc]; rfl⟩
    cases c with
    | some c =>
      show Good tt ρ w s _ (sliceKnown s p.2.size b o l c lo hi mx)
      refine good_bound hmx fun m hm => good_bound hhi fun h hh => good_bound hlo fun l' hl => good_chk fun hok => ?_
      rw [andB_eq, Bool.and_eq_true, andB_eq, Bool.and_eq_true] at hok
      simp only [V] at hx
      obtain ⟨pl, hpl, rfl⟩ := hx
      exact good_val (rv (run _ c m h l' hm hh hl (Nat.ble_eq.mp hok.1) (Nat.ble_eq.mp hok.2.1) (Nat.ble_eq.mp hok.2.2))) (known pl m h l' hpl)
    | none =>
      show Good tt ρ w s _ (iff (isNoneO mx) (sliceOpen s p.1 p.2.size b o l lo hi) (sliceOpen3 s p.2.size b o l lo hi mx))
      simp only [V] at hx
      obtain ⟨pl, a, c, hpl, rfl, hlc, h63, hcase⟩ := hx
      refine good_iff (fun hn => ?_) (fun hn => ?_)
      · have := isNoneO_true hn; subst this
        have : mx' = none := hmx
        subst this
        refine good_withRow fun cs t' g hblk => good_chk fun htg => good_bound hhi fun h hh => good_bound hlo fun l' hl => good_chk fun hok => ?_
        rw [andB_eq, Bool.and_eq_true] at hok htg
        have h1 : h ≤ l := Nat.ble_eq.mp hok.1
        have h2 : l' ≤ h := Nat.ble_eq.mp hok.2
        have ht' : t' = p.1 := Nat.beq_eq.mp htg.1
        refine good_read fun hs => ?_
        have hlt := hs.dom b pl hpl
        obtain ⟨q, arr, fz, hq, hw, _, _, _, hgrow⟩ := hs.heap b _ (List.mem_singleton.2 rfl) hlt hblk
        rw [hpl] at hq; cases hq
        obtain ⟨_, _, ti', hti', hesz⟩ := hgrow (Nat.ble_eq.mp htg.2)
        rw [ht', hte] at hti'; cases hti'
        refine ⟨_, rv (run a c c h l' (.inl ⟨rfl, rfl⟩) hh hl (Nat.le_refl _) (by omega) h2), ?_⟩
        simp only [V]
        refine ⟨pl, (if c = l' then a else a.add (l' * p.2.size)), c - l', hpl, ?_, Nat.sub_le_sub_right (Nat.le_trans h1 hlc) l', by omega, ?_⟩
        · split <;> rfl
        · obtain ⟨hc1, htop⟩ := hcase
          have e3 : pl.base + (o + l' * p.2.size) + (c - l') * pl.esz = pl.top := by
            have : l' * p.2.size + (c - l') * pl.esz = c * pl.esz := by
              have e2 : l' + (c - l') = c := by omega
              rw [hesz, ← Nat.add_mul, e2]
            omega
          refine ⟨?_, e3⟩
          by_cases e : c = l'
          · left; omega
          · rw [if_neg e]
            rcases hc1 with rfl | rfl
            · omega
            · exact .inr (by rw [addr_add, Nat.add_assoc]; rfl)
      · refine good_bound hmx fun m hm => good_bound hhi fun h hh => good_bound hlo fun l' hl => good_chk fun hok => ?_
        simp only [andB_eq, Bool.and_eq_true] at hok
        obtain ⟨h1, h2, h3, h4⟩ := hok
        have h1 : m ≤ l := Nat.ble_eq.mp h1
        have h2 : h ≤ m := Nat.ble_eq.mp h2
        have h3 : l' ≤ h := Nat.ble_eq.mp h3
        have h4 : 1 ≤ l := Nat.ble_eq.mp h4
        have ha : a = ⟨pl.block, pl.base + o, none⟩ := by
          rcases hcase.1 with rfl | rfl
          · omega
          · rfl
        subst ha
        -- the third bound is there
        have hm' : BR mx' c m := by
          rcases hm with ⟨e, _⟩ | hm
          · cases mx with
            | none => cases hn
            | some u => obtain ⟨u', rfl, _⟩ := hmx; cases e
          · exact .inr hm
        exact good_val (rv (run _ c m h l' hm' hh hl (by omega) h2 h3)) (known pl m h l' hpl)
  · -- an array
    refine good_oPair fun p hp => ?_
    subst e
    obtain ⟨pl, hpl, rfl⟩ := hx.ptr
    obtain ⟨ti, ii, z, e, ie, de, ze, _, hvw, _, hve⟩ := array_view ht hp
    refine good_bound hmx fun m hm => good_bound hhi fun h hh => good_bound hlo fun l' hl => good_chk fun hok => ?_
    rw [andB_eq, Bool.and_eq_true, andB_eq, Bool.and_eq_true] at hok
    refine good_val (v' := .slice (some (if m = l' then ⟨pl.block, pl.base + o, none⟩ else (⟨pl.block, pl.base + o, none⟩ : Addr).add (l' * p.2.size))) (h - l') (m - l')) (rv ?_) ?_
    · unfold Instr.sliceAt
      simp only [Sem.run_bind, hvw.rund, Result.andThen_ok, Instr.sureAddr, Sem.run_pure, bounds_run (b := false) hm hh hl (Nat.ble_eq.mp hok.1) (Nat.ble_eq.mp hok.2.1) (Nat.ble_eq.mp hok.2.2) hfull, hve.rsize]
    · unfold cutSl
      rw [bifN_eq]
      by_cases e : m = l'
      · rw [if_pos e, e]
        have : Nat.beq l' l' = true := Nat.beq_refl l'
        rw [this, cond_true]
        simp only [V]
        exact ⟨pl, hpl, rfl⟩
      · have hne : Nat.beq m l' = false := by rw [Bool.eq_false_iff]; exact fun h => e (Nat.beq_eq.mp h)
        rw [if_neg e, hne, cond_false]
        simp only [V, addr_add]
        exact ⟨pl, hpl, by rw [Nat.add_assoc]; rfl⟩
end
end Go.Dee
namespace Go.Dee
open Go

section
variable {P : Program} {tt : Trie TI} {ρ : Ren} {w : World} {s : St}

theorem V.nilp {v : Value} (h : V ρ .nilp v) : v = .pointer none := by simpa only [V] using h
theorem V.nilsl {v : Value} (h : V ρ .nilsl v) : v = .slice none 0 0 := by simpa only [V] using h
theorem V.nilmap {v : Value} (h : V ρ .nilmap v) : v = .map none := by simpa only [V] using h
theorem V.nilfn {v : Value} (h : V ρ .nilfn v) : v = .nilFunc := by simpa only [V] using h
theorem V.nilif {v : Value} (h : V ρ .nilif v) : v = .nilIface := by simpa only [V] using h
theorem V.map {b : Nat} {v : Value} (h : V ρ (.map b) v) : ∃ p, ρ b = some p ∧ v = .map (some p.block) := by simpa only [V] using h
theorem V.fn {f : Fn} {a c : List AV} {v : Value} (h : V ρ (.fn f a c) v) : ∃ x y, v = .func f x y ∧ Vs ρ a x.toList ∧ Vs ρ c y.toList := by simpa only [V] using h
theorem V.iface {t : TypeId} {a : AV} {v : Value} (h : V ρ (.iface t a) v) : ∃ x, v = .iface t x ∧ V ρ a x := by simpa only [V] using h
theorem V.slSome {b o l : Nat} {c : Option Nat} {v : Value} (h : V ρ (.sl b o l c) v) : ∃ (a : Addr) (cap : Nat), v = .slice (some a) l cap := by
  cases c with
  | some c => simp only [V] at h; obtain ⟨p, _, rfl⟩ := h; exact ⟨_, _, rfl⟩
  | none => simp only [V] at h; obtain ⟨p, a, c, _, rfl, _⟩ := h; exact ⟨_, _, rfl⟩

/-- a check for nil. -/
theorem nilCheck_good {o : Oper} {X : Operand} {σ : Operand → Value} {x : AV} (ho : o.op = .nilCheck X) (hx : V ρ x (σ X)) :
    Good tt ρ w s ((execOp σ o).run P w) (opNilCheck s x) := by
  refine good_vNonNil (fun b o e => ?_) (fun t y e => ?_) fun g a c e => ?_
  · have hx' := hx; rw [e] at hx'
    obtain ⟨p, _, e'⟩ := hx'.ptr
    exact good_val (by simp [execOp, ho, e']) hx
  · have hx' := hx; rw [e] at hx'
    obtain ⟨p, e', _⟩ := hx'.iface
    exact good_val (by simp [execOp, ho, e']) hx
  · have hx' := hx; rw [e] at hx'
    obtain ⟨p, q, e', _⟩ := hx'.fn
    exact good_val (by simp [execOp, ho, e']) hx

/-! equality -/
theorem isBoolT_true {ti : TI} (h : isBoolT ti = true) : ti.k = .bool := by
  unfold isBoolT at h; split at h
  · assumption
  · cases h
theorem isSliceT_true {ti : TI} (h : isSliceT ti = true) : ∃ e, ti.k = .slice e := by
  unfold isSliceT at h; split at h
  · exact ⟨_, by assumption⟩
  · cases h
theorem isMapT_true {ti : TI} (h : isMapT ti = true) : ∃ k e, ti.k = .map k e := by
  unfold isMapT at h; split at h
  · exact ⟨_, _, by assumption⟩
  · cases h
theorem isFuncT_true {ti : TI} (h : isFuncT ti = true) : ti.k = .func := by
  unfold isFuncT at h; split at h
  · assumption
  · cases h
theorem isIface_true {ti : TI} (h : ti.isIface = true) : ∃ b, ti.k = .iface b := by
  unfold TI.isIface at h; split at h
  · exact ⟨_, by assumption⟩
  · cases h
theorem ptrElem_true {ti : TI} (h : ptrElem tt ti = true) : ∃ e te, ti.k = .ptr e ∧ tt.get e = some te ∧ 1 ≤ te.size := by
  unfold ptrElem at h; split at h
  · split at h
    · exact ⟨_, _, by assumption, by assumption, Nat.ble_eq.mp h⟩
    · cases h
  · cases h

/-- what equality comes to. -/
def EqRun (P : Program) (w : World) (t : TypeId) (x y : Value) (b : Bool) : Prop :=
  (binOp .eql t x y).run P w = .ok (.bool b) w ∧ (binOp .neq t x y).run P w = .ok (.bool (!b)) w

theorem eqRun_of {t : TypeId} {x y : Value} {b : Bool} (h1 : binOp .eql t x y = (do pure (.bool (← Op.equal t x y)))) (h2 : binOp .neq t x y = (do pure (.bool (!(← Op.equal t x y)))))
    (h : ∀ d, (Op.equalIn (d + 1) t x y).run P w = .ok b w) : EqRun P w t x y b := by
  have : (Op.equal t x y).run P w = .ok b w := h 9999
  constructor
  · rw [h1]; simp [this]
  · rw [h2]; simp [this]

theorem addr_beq (b o o' : Nat) : ((⟨b, o, none⟩ : Addr) == ⟨b, o', none⟩) = decide (o = o') := by
  rw [Bool.eq_iff_iff]; simp

theorem eq_run (ht : TTok P tt) {t : TypeId} {ti : TI} (hti : tt.get t = some ti) {x y : AV} {x' y' : Value}
    (hk : eqOk x (isBoolT ti) (ptrElem tt ti) (isSliceT ti) (isMapT ti) (isFuncT ti) ti.isIface = true) {b : Bool} (h : eqV x y = some b)
    (hp : ∀ p q, ptrOf x = some p → ptrOf y = some q → p.1 = q.1) (hx : V ρ x x') (hy : V ρ y y') : EqRun P w t x' y' b := by
  obtain ⟨i, d, z, hv⟩ := ht.view hti
  have hkind := hv.kind
  cases x with
  | top => cases h
  | agg => cases h
  | tup => cases h
  | bool a =>
    rw [isBoolT_true hk] at hkind; subst hkind
    cases y <;> first | (cases h; done) | skip
    rename_i c
    rw [hx.bool, hy.bool]
    have e : beqB a c = b := Option.some.inj h
    refine eqRun_of rfl rfl fun d => ?_
    simp only [Op.equalIn, Sem.run_bind, hv.rund, Result.andThen_ok, Sem.run_pure]
    rw [← e, beqB_eq]
  | int k n =>
    cases y <;> first | (cases h; done) | skip
    rename_i j m
    rw [hx.int, hy.int]
    have h : bifOB (kindEq k j) (some (ieq n m)) = some b := h
    cases hkj : kindEq k j with
    | false => rw [hkj] at h; cases h
    | true =>
      rw [hkj] at h
      have e : ieq n m = b := Option.some.inj h
      have := kindEq_iff.1 hkj; subst this
      subst e
      constructor
      · simp [binOp, Op.intCmp, ieq_eq]
      · simp [binOp, Op.intCmp, ieq_eq, bne]
  | str l =>
    cases y <;> first | (cases h; done) | skip
    rename_i m
    obtain ⟨xs, rfl, rfl⟩ := hx.str
    obtain ⟨ys, rfl, rfl⟩ := hy.str
    have e : eqL (bytesL xs) (bytesL ys) = b := Option.some.inj h
    subst e
    constructor
    · simp [binOp, Op.stringOp, eqL_bytes]
    · simp [binOp, Op.stringOp, eqL_bytes]
  | nilp =>
    obtain ⟨el, te, e1, e2, e3⟩ := ptrElem_true hk
    rw [e1] at hkind; subst hkind
    rw [hx.nilp]
    cases y <;> first | (cases h; done) | skip
    · rw [hy.nilp]
      cases h
      exact eqRun_of rfl rfl fun d => by simp only [Op.equalIn, Sem.run_bind, hv.rund, Result.andThen_ok, Sem.run_pure]; rfl
    · obtain ⟨p, _, rfl⟩ := hy.ptr
      cases h
      exact eqRun_of rfl rfl fun d => by simp only [Op.equalIn, Sem.run_bind, hv.rund, Result.andThen_ok, Sem.run_pure]; rfl
  | ptr b1 o1 =>
    obtain ⟨el, te, e1, e2, e3⟩ := ptrElem_true hk
    rw [e1] at hkind; subst hkind
    obtain ⟨p, hpp, rfl⟩ := hx.ptr
    cases y <;> first | (cases h; done) | skip
    · rw [hy.nilp]
      cases h
      exact eqRun_of rfl rfl fun d => by simp only [Op.equalIn, Sem.run_bind, hv.rund, Result.andThen_ok, Sem.run_pure]
    · rename_i b2 o2
      have eb : b1 = b2 := hp (b1, o1) (b2, o2) rfl rfl
      subst eb
      obtain ⟨q, hq, rfl⟩ := hy.ptr
      rw [hpp] at hq; cases hq
      have e : andB (Nat.beq b1 b1) (Nat.beq o1 o2) = b := Option.some.inj h
      obtain ⟨i', d', z', hv'⟩ := ht.view e2
      have hne : ¬ te.size = 0 := by omega
      refine eqRun_of rfl rfl fun d => ?_
      simp only [Op.equalIn, Sem.run_bind, hv.rund, Result.andThen_ok, hv'.rsize, ne_eq, hne, not_false_eq_true, if_true, sameAddr, beq_self_eq_true, Sem.run_pure, addr_beq]
      congr 1
      rw [← e, andB_eq, beq_eq', beq_eq', Bool.eq_iff_iff]
      simp
  | nilsl =>
    obtain ⟨el, e1⟩ := isSliceT_true hk
    rw [e1] at hkind; subst hkind
    rw [hx.nilsl]
    cases y <;> first | (cases h; done) | skip
    · rw [hy.nilsl]
      cases h
      exact eqRun_of rfl rfl fun d => by simp only [Op.equalIn, Sem.run_bind, hv.rund, Result.andThen_ok, Sem.run_pure]; rfl
    · obtain ⟨a, c, rfl⟩ := hy.slSome
      cases h
      exact eqRun_of rfl rfl fun d => by simp only [Op.equalIn, Sem.run_bind, hv.rund, Result.andThen_ok, Sem.run_pure]; rfl
  | sl b1 o1 l1 c1 =>
    obtain ⟨el, e1⟩ := isSliceT_true hk
    rw [e1] at hkind; subst hkind
    obtain ⟨a, c, rfl⟩ := hx.slSome
    cases y <;> first | (cases h; done) | skip
    rw [hy.nilsl]
    cases h
    exact eqRun_of rfl rfl fun d => by simp only [Op.equalIn, Sem.run_bind, hv.rund, Result.andThen_ok, Sem.run_pure]
  | nilmap =>
    obtain ⟨k, el, e1⟩ := isMapT_true hk
    rw [e1] at hkind; subst hkind
    rw [hx.nilmap]
    cases y <;> first | (cases h; done) | skip
    · rw [hy.nilmap]
      cases h
      exact eqRun_of rfl rfl fun d => by simp only [Op.equalIn, Sem.run_bind, hv.rund, Result.andThen_ok, Sem.run_pure]; rfl
    · obtain ⟨p, _, rfl⟩ := hy.map
      cases h
      exact eqRun_of rfl rfl fun d => by simp only [Op.equalIn, Sem.run_bind, hv.rund, Result.andThen_ok, Sem.run_pure]; rfl
  | map b1 =>
    obtain ⟨k, el, e1⟩ := isMapT_true hk
    rw [e1] at hkind; subst hkind
    obtain ⟨p, _, rfl⟩ := hx.map
    cases y <;> first | (cases h; done) | skip
    rw [hy.nilmap]
    cases h
    exact eqRun_of rfl rfl fun d => by simp only [Op.equalIn, Sem.run_bind, hv.rund, Result.andThen_ok, Sem.run_pure]
  | nilfn =>
    have e1 := isFuncT_true hk
    rw [e1] at hkind; obtain ⟨f1, f2, f3, rfl⟩ := hkind
    rw [hx.nilfn]
    cases y <;> first | (cases h; done) | skip
    · rw [hy.nilfn]
      cases h
      exact eqRun_of rfl rfl fun d => by simp only [Op.equalIn, Sem.run_bind, hv.rund, Result.andThen_ok, Sem.run_pure]
    · obtain ⟨p, q, rfl, _⟩ := hy.fn
      cases h
      exact eqRun_of rfl rfl fun d => by simp only [Op.equalIn, Sem.run_bind, hv.rund, Result.andThen_ok, Sem.run_pure]
  | fn f1 a1 c1 =>
    have e1 := isFuncT_true hk
    rw [e1] at hkind; obtain ⟨f1, f2, f3, rfl⟩ := hkind
    obtain ⟨p, q, rfl, _⟩ := hx.fn
    cases y <;> first | (cases h; done) | skip
    rw [hy.nilfn]
    cases h
    exact eqRun_of rfl rfl fun d => by simp only [Op.equalIn, Sem.run_bind, hv.rund, Result.andThen_ok, Sem.run_pure]
  | nilif =>
    obtain ⟨k, e1⟩ := isIface_true hk
    rw [e1] at hkind; obtain ⟨m, rfl⟩ := hkind
    rw [hx.nilif]
    cases y <;> first | (cases h; done) | skip
    obtain ⟨p, rfl, _⟩ := hy.iface
    cases h
    exact eqRun_of rfl rfl fun d => by simp only [Op.equalIn, Sem.run_bind, hv.rund, Result.andThen_ok, Sem.run_pure]
  | iface t1 a1 =>
    obtain ⟨k, e1⟩ := isIface_true hk
    rw [e1] at hkind; obtain ⟨m, rfl⟩ := hkind
    obtain ⟨p, rfl, _⟩ := hx.iface
    cases y <;> first | (cases h; done) | skip
    rw [hy.nilif]
    cases h
    exact eqRun_of rfl rfl fun d => by simp only [Op.equalIn, Sem.run_bind, hv.rund, Result.andThen_ok, Sem.run_pure]
end
end Go.Dee
namespace Go.Dee
open Go

section
variable {P : Program} {tt : Trie TI} {ρ : Ren} {w : World} {s : St}

theorem guard_ok {op : BinOp} {t : TypeId} {X Y : Operand} {a b : Value} (h1 : ∀ cs, a ≠ .agg cs) (h2 : a = .nilIface → b = .nilIface → orB (isConstO X) (isConstO Y) = true) :
    (eqGuard op t X Y a b).run P w = .ok () w := by
  have key : ∀ op : BinOp, isEqOp op = true → (eqGuard op t X Y a b).run P w = .ok () w := by
    intro op hop
    cases op <;> first | (cases hop; done) | skip
    all_goals
      cases a with
      | agg cs => exact absurd rfl (h1 cs)
      | nilIface =>
        cases b with
        | nilIface =>
          have h := h2 rfl rfl
          cases X <;> first | rfl | (cases Y <;> first | rfl | (cases h; done))
        | _ => rfl
      | _ => rfl
  cases hop : isEqOp op with
  | true => exact key op hop
  | false => cases op <;> first | rfl | (cases hop; done)

theorem isEqOp_iff {op : BinOp} (h : isEqOp op = true) : op = .eql ∨ op = .neq := by
  cases op <;> first | (cases h; done) | simp
theorem eqOk_ne {x : AV} {bo pt sl ma fu fi : Bool} (h : eqOk x bo pt sl ma fu fi = true) : x ≠ .top ∧ ∀ cs, x ≠ .agg cs := by
  constructor
  · intro e; subst e; cases h
  · intro cs e; subst e; cases h
theorem V.not_agg {x : AV} {x' : Value} (h : V ρ x x') (h1 : x ≠ .top) (h2 : ∀ cs, x ≠ .agg cs) : ∀ cs, x' ≠ .agg cs := by
  intro cs e
  subst e
  cases x with
  | top => exact h1 rfl
  | agg c => exact h2 c rfl
  | sl b o l c => obtain ⟨_, _, e⟩ := h.slSome; cases e
  | ptr => obtain ⟨_, _, e⟩ := h.ptr; cases e
  | map => obtain ⟨_, _, e⟩ := h.map; cases e
  | str => obtain ⟨_, e, _⟩ := h.str; cases e
  | fn => obtain ⟨_, _, e, _⟩ := h.fn; cases e
  | iface => obtain ⟨_, e, _⟩ := h.iface; cases e
  | tup => simp only [V] at h; obtain ⟨_, e, _⟩ := h; cases e
  | _ => simp only [V] at h; cases h
theorem V.of_nilIf {x : AV} (h : V ρ x .nilIface) (h1 : x ≠ .top) : x = .nilif := by
  cases x with
  | top => exact absurd rfl h1
  | nilif => rfl
  | agg c => simp only [V] at h; obtain ⟨_, e, _⟩ := h; cases e
  | sl b o l c => obtain ⟨_, _, e⟩ := h.slSome; cases e
  | ptr => obtain ⟨_, _, e⟩ := h.ptr; cases e
  | map => obtain ⟨_, _, e⟩ := h.map; cases e
  | str => obtain ⟨_, e, _⟩ := h.str; cases e
  | fn => obtain ⟨_, _, e, _⟩ := h.fn; cases e
  | iface => obtain ⟨_, e, _⟩ := h.iface; cases e
  | tup => simp only [V] at h; obtain ⟨_, e, _⟩ := h; cases e
  | _ => simp only [V] at h; cases h

theorem run_binop {o : Oper} {op : BinOp} {t : TypeId} {X Y : Operand} {p : TypeId} {σ : Operand → Value} (ho : o.op = .binOp op t X Y p) {v : Value}
    (hg : (eqGuard op t X Y (σ X) (σ Y)).run P w = .ok () w) (h : (binOp op t (σ X) (σ Y)).run P w = .ok v w) : (execOp σ o).run P w = .ok (.value v) w := by
  unfold execOp
  simp [ho, hg, h]

theorem toBoolO_some {b : Option Bool} {v : AV} (h : toBoolO b = some v) : ∃ c, b = some c ∧ v = .bool c := by
  cases b with
  | none => cases h
  | some c => exact ⟨c, rfl, (Option.some.inj h).symm⟩
theorem notBoolO_some {b : Option Bool} {v : AV} (h : notBoolO b = some v) : ∃ c, b = some c ∧ v = .bool (!c) := by
  cases b with
  | none => cases h
  | some c =>
    have e : AV.bool (notB c) = v := Option.some.inj h
    exact ⟨c, rfl, by rw [← e, notB_eq]⟩
theorem EqRun.binV {op : BinOp} (hop : isEqOp op = true) {x y v : AV} (h : binV op x y = some v) {t : TypeId} {x' y' : Value} (hr : ∀ b, eqV x y = some b → EqRun P w t x' y' b) :
    ∃ v', (binOp op t x' y').run P w = .ok v' w ∧ V ρ v v' := by
  rcases isEqOp_iff hop with rfl | rfl
  · obtain ⟨c, hc, rfl⟩ := toBoolO_some (show toBoolO (eqV x y) = some v from h)
    exact ⟨_, (hr c hc).1, by simp only [V]⟩
  · obtain ⟨c, hc, rfl⟩ := notBoolO_some (show notBoolO (eqV x y) = some v from h)
    exact ⟨_, (hr c hc).2, by simp only [V]⟩
theorem EqRun.nil {op : BinOp} {v : AV} (h : nilEq op = some v) {t : TypeId} {x' y' : Value} (hr : EqRun P w t x' y' true) :
    ∃ v', (binOp op t x' y').run P w = .ok v' w ∧ V ρ v v' := by
  cases op <;> first | (cases h; done) | skip
  · cases h; exact ⟨_, hr.1, by simp only [V]⟩
  · cases h; exact ⟨_, hr.2, by simp only [V]; rfl⟩
theorem plainRow_some {x : Option ABlk} (h : plainRow x = true) : ∃ c t g, x = some (.cells c t g) ∧ g ≤ 1 := by
  cases x with
  | none => cases h
  | some x => cases x <;> first | (cases h; done) | exact ⟨_, _, _, rfl, Nat.ble_eq.mp h⟩
theorem HB.plain {b : Nat} {c : List AV} {t : TypeId} {g : Nat} (h : HB tt ρ w b (.cells c t g)) (hg : g ≤ 1) {p : Place} (hp : ρ b = some p) : ∃ arr, w.heap[p.block]? = some (.cells arr t (0, 0)) := by
  obtain ⟨p', arr, fz, hp', h1, _, h2, _⟩ := h
  rw [hp] at hp'; cases hp'
  rcases h2 with rfl | ⟨h2, _⟩
  · exact ⟨arr, h1⟩
  · omega
/-- two rows that came out of no text. -/
theorem run_sameAddr {a b : Addr} {arr arr' : Array Value} {t t' : TypeId} (hne : a.block ≠ b.block) (h : w.heap[a.block]? = some (.cells arr t (0, 0))) (h' : w.heap[b.block]? = some (.cells arr' t' (0, 0))) :
    (sameAddr a b).run P w = .ok false w := by
  have f1 : ∀ k, w.frozen? ⟨a.block, k, none⟩ = false := fun k => by simp [World.frozen?, h]
  have f2 : ∀ k, w.frozen? ⟨b.block, k, none⟩ = false := fun k => by simp [World.frozen?, h']
  have g1 : w.frozen? a = false := by simp [World.frozen?, h]
  have g2 : w.frozen? b = false := by simp [World.frozen?, h']
  have s1 : w.shape? a.block = some (t, arr.size) := by simp [World.shape?, h]
  have s2 : w.shape? b.block = some (t', arr'.size) := by simp [World.shape?, h']
  have hb : (a.block == b.block) = false := by simpa using hne
  simp [sameAddr, hb, g1, g2, noView, viewAt, s1, s2, mayBeOne, stringish, f1, f2]

theorem bin_good (ht : TTok P tt) {o : Oper} {op : BinOp} {t : TypeId} {X Y : Operand} {p : TypeId} {σ : Operand → Value} (ho : o.op = .binOp op t X Y p) {x y : AV}
    (hx : V ρ x (σ X)) (hy : V ρ y (σ Y)) : Good tt ρ w s ((execOp σ o).run P w) (opBin tt s op t (orB (isConstO X) (isConstO Y)) x y) := by
  have done : ∀ {v : AV}, (eqGuard op t X Y (σ X) (σ Y)).run P w = .ok () w → (∃ v', (binOp op t (σ X) (σ Y)).run P w = .ok v' w ∧ V ρ v v') → Good tt ρ w s ((execOp σ o).run P w) (.val v s []) := by
    intro v hg h
    obtain ⟨v', hr, hv⟩ := h
    exact good_val (run_binop ho hg hr) hv
  refine good_iff (fun hop => ?_) (fun hop => ?_)
  · refine good_oTI fun ti hti => good_chk fun hk => ?_
    obtain ⟨hnt, hna⟩ := eqOk_ne hk
    have hna' := hx.not_agg hnt hna
    unfold opEq
    refine good_iff (fun hnil => good_chk fun hc => good_oVal fun v hv => ?_) (fun hnil => ?_)
    · rw [andB_eq, Bool.and_eq_true] at hnil
      have ex : x = .nilif := by cases x <;> first | rfl | cases hnil.1
      have ey : y = .nilif := by cases y <;> first | rfl | cases hnil.2
      refine done (guard_ok hna' fun _ _ => hc) ?_
      have hk' := hk
      rw [ex] at hk'
      obtain ⟨k, e1⟩ := isIface_true hk'
      obtain ⟨i, d, z, hview⟩ := ht.view hti
      have hkind := hview.kind
      rw [e1] at hkind; obtain ⟨m, rfl⟩ := hkind
      rw [ex] at hx; rw [ey] at hy
      rw [hx.nilif, hy.nilif]
      exact EqRun.nil hv (eqRun_of rfl rfl fun d => by simp only [Op.equalIn, Sem.run_bind, hview.rund, Result.andThen_ok, Sem.run_pure])
    · have hg : y ≠ .top → (eqGuard op t X Y (σ X) (σ Y)).run P w = .ok () w := by
        intro hyt
        refine guard_ok hna' fun e1 e2 => ?_
        rw [e1] at hx; rw [e2] at hy
        have ex := hx.of_nilIf hnt
        have ey := hy.of_nilIf hyt
        rw [ex, ey] at hnil
        cases hnil
      have plain : (∀ p q, ptrOf x = some p → ptrOf y = some q → p.1 = q.1) → Good tt ρ w s ((execOp σ o).run P w) (oVal s (binV op x y)) := by
        intro hp
        refine good_oVal fun v hv => ?_
        refine done (hg ?_) (EqRun.binV hop hv fun b hb => eq_run ht hti hk hb hp hx hy)
        intro e
        subst e
        have : eqV x .top = none := by cases x <;> rfl
        rcases isEqOp_iff hop with rfl | rfl
        · obtain ⟨c, hc, _⟩ := toBoolO_some (show toBoolO (eqV x .top) = some v from hv)
          rw [this] at hc; cases hc
        · obtain ⟨c, hc, _⟩ := notBoolO_some (show notBoolO (eqV x .top) = some v from hv)
          rw [this] at hc; cases hc
      cases hpx : ptrOf x with
      | none => exact plain fun p q h => by rw [hpx] at h; cases h
      | some p =>
        cases hpy : ptrOf y with
        | none => exact plain fun p q _ h => by rw [hpy] at h; cases h
        | some q =>
          have ex : x = .ptr p.1 p.2 := by cases x <;> first | (cases hpx; done) | (cases hpx; rfl)
          have ey : y = .ptr q.1 q.2 := by cases y <;> first | (cases hpy; done) | (cases hpy; rfl)
          show Good tt ρ w s ((execOp σ o).run P w) (ptrNe s op p q)
          unfold ptrNe
          refine good_iff (fun he => ?_) (fun he => good_chk fun hpl => good_oAV fun v hv => ?_)
          · have := plain fun p' q' h1 h2 => by rw [hpx] at h1; rw [hpy] at h2; cases h1; cases h2; exact Nat.beq_eq.mp he
            rw [ex, ey] at this
            exact this
          · refine good_read fun hs => ?_
            rw [andB_eq, Bool.and_eq_true] at hpl
            obtain ⟨c1, t1, g1, hc1, hg1⟩ := plainRow_some hpl.1
            obtain ⟨c2, t2, g2, hc2, hg2⟩ := plainRow_some hpl.2
            rw [ex] at hx hk; rw [ey] at hy
            obtain ⟨pl, hpl', e1⟩ := hx.ptr
            obtain ⟨ql, hql', e2⟩ := hy.ptr
            have hne : p.1 ≠ q.1 := fun e => by rw [e, beq_eq'] at he; simp at he
            have lp := hs.dom _ _ hpl'
            have lq := hs.dom _ _ hql'
            obtain ⟨a1, ha1⟩ := (hs.heap p.1 _ (by simp) lp hc1).plain hg1 hpl'
            obtain ⟨a2, ha2⟩ := (hs.heap q.1 _ (by simp) lq hc2).plain hg2 hql'
            have hbne : pl.block ≠ ql.block := fun e => hne (hs.inj p.1 q.1 pl ql (by simp) (by simp) (live_of lp hc1) (live_of lq hc2) hpl' hql' e)
            obtain ⟨el, te, k1, k2, k3⟩ := ptrElem_true hk
            obtain ⟨i, d, z, hview⟩ := ht.view hti
            have hkind := hview.kind
            rw [k1] at hkind; subst hkind
            obtain ⟨i', d', z', hview'⟩ := ht.view k2
            have hne0 : ¬ te.size = 0 := by omega
            have hE : EqRun P w t (.pointer (some ⟨pl.block, pl.base + p.2, none⟩)) (.pointer (some ⟨ql.block, ql.base + q.2, none⟩)) false := by
              refine eqRun_of rfl rfl fun d => ?_
              simp only [Op.equalIn, Sem.run_bind, hview.rund, Result.andThen_ok, hview'.rsize, ne_eq, hne0, not_false_eq_true, if_true]
              exact run_sameAddr hbne ha1 ha2
            have hb : ∀ b, eqV (.bool true) (.bool false) = some b → b = false := fun b h => by cases h; rfl
            obtain ⟨v', h1, h2⟩ := EqRun.binV (ρ := ρ) hop hv fun b h => by rw [hb b h]; exact hE
            refine ⟨v', run_binop ho (hg (by intro e; rw [e] at ey; cases ey)) (by rw [e1, e2]; exact h1), h2⟩
  · refine good_oVal fun v hv => ?_
    obtain ⟨v', h1, h2⟩ := binV_ok (P := P) (w := w) (t := t) hv hx hy hop
    refine done ?_ ⟨v', h1, h2⟩
    cases op <;> first | rfl | (cases hop; done)
end
end Go.Dee
