/- Soundness of the evaluator: functions without a body, calls, every operation. Part of the proof that FastKnown returns true on every schedule, its listed variables laid as the text lays them. -/
import Derived.Test.YtiinfilmfcmicaaGreatDoorD04
import Derived.Lib.Bytealg
namespace Go.Dee
open Go

/-- a function that is entered: it has a body. -/
def Enters (P : Program) (f : FuncId) : Prop := ∃ fn, P.funcs[f]? = some fn ∧ (fn.name == "runtime.NumGoroutine") = false ∧ fn.body.isSome = true

/-- the model's stand-ins that the evaluator knows. -/
def ExtRow (P : Program) (k : Nat) (e : Array Value → Sem Value) : Prop :=
  (k = 1 ∧ e = Extern.BytealgIndexByte.indexByte) ∨ (k = 2 ∧ e = Extern.BytealgCompare.compare) ∨ (k = 3 ∧ e = Extern.BytealgCount.count) ∨
  (k = 4 ∧ ∃ ps rs, e = Extern.SlicesOverlaps.overlaps ps rs ∧ ∃ t el i, ps[0]? = some t ∧ P.underlying t = some (.slice el) ∧ P.info? el = some i) ∨ (k = 5 ∧ e = Extern.AbiNoEscape.same)
def ExtOK (P : Program) (ext : Trie Nat) : Prop := ∀ f k, ext.get f = some k →
  ∃ fn, P.funcs[f]? = some fn ∧ (fn.name == "runtime.NumGoroutine") = false ∧ fn.body.isNone = true ∧ Extern.findNext fn = none ∧ ∃ e, Extern.find fn = some e ∧ ExtRow P k e

theorem extIndexByte_eq (b : Nat) (hb : b < 256) (l : List UInt8) : ∀ i, extIndexByte b (l.map UInt8.toNat) i = if Lib.indexByte l (b.toUInt8) = -1 then -1 else Lib.indexByte l (b.toUInt8) + i := by
  induction l with
  | nil => intro i; rfl
  | cons c l ih =>
    intro i
    show bifI (Nat.beq b c.toNat) (Int.ofNat i) (extIndexByte b (l.map UInt8.toNat) (i + 1)) = _
    rw [bifI_eq, beq_eq', ih]
    have hbc : b.toUInt8.toNat = b := by show (UInt8.ofNat b).toNat = b; simp; omega
    have hun : Lib.indexByte (c :: l) b.toUInt8 = if c == b.toUInt8 then 0 else if Lib.indexByte l b.toUInt8 == -1 then -1 else Lib.indexByte l b.toUInt8 + 1 := rfl
    rw [hun]
    by_cases h : b = c.toNat
    · have hc : (c == b.toUInt8) = true := by rw [beq_iff_eq]; exact u8_inj (by rw [hbc, h])
      rw [hc]
      simp only [h, decide_true, cond_true, if_true]
      simp
    · have hc : (c == b.toUInt8) = false := by rw [beq_eq_false_iff_ne]; intro e; exact h (by rw [e, hbc])
      rw [hc]
      simp only [decide_eq_false h, cond_false, Bool.false_eq_true, if_false]
      have hge := Lib.indexByte_ge l b.toUInt8
      by_cases h1 : Lib.indexByte l b.toUInt8 = -1
      · simp [h1]
      · have h2 : (Lib.indexByte l b.toUInt8 == -1) = false := by simpa using h1
        have h3 : ¬ Lib.indexByte l b.toUInt8 + 1 = -1 := by omega
        rw [if_neg h1, h2]
        simp only [Bool.false_eq_true, if_false]
        rw [if_neg h3]
        push_cast
        omega
theorem extCount_eq (b : Nat) (hb : b < 256) (l : List UInt8) : extCount b (l.map UInt8.toNat) = Lib.countByte l b.toUInt8 := by
  induction l with
  | nil => rfl
  | cons c l ih =>
    show bifN (Nat.beq b c.toNat) (Nat.succ (extCount b (l.map UInt8.toNat))) (extCount b (l.map UInt8.toNat)) = _
    rw [bifN_eq, beq_eq', ih]
    have hbc : b.toUInt8.toNat = b := by show (UInt8.ofNat b).toNat = b; simp; omega
    simp only [Lib.countByte, List.count_cons]
    by_cases h : b = c.toNat
    · have hc : (c == b.toUInt8) = true := by rw [beq_iff_eq]; exact u8_inj (by rw [hbc, h])
      rw [hc]
      simp [h]
    · have hc : ¬ c = b.toUInt8 := by intro e; exact h (by rw [e, hbc])
      simp [h, hc]
theorem extCmp_eq (a b : List UInt8) : extCmp (a.map UInt8.toNat) (b.map UInt8.toNat) = Lib.compareBytes a b := by
  induction a generalizing b with
  | nil => cases b <;> rfl
  | cons x a ih =>
    cases b with
    | nil => rfl
    | cons y b =>
      have h1 : ltL ((x :: a).map UInt8.toNat) ((y :: b).map UInt8.toNat) = orB (isLt x.toNat y.toNat) (andB (Nat.beq x.toNat y.toNat) (ltL (a.map UInt8.toNat) (b.map UInt8.toNat))) := rfl
      have h2 : ltL ((y :: b).map UInt8.toNat) ((x :: a).map UInt8.toNat) = orB (isLt y.toNat x.toNat) (andB (Nat.beq y.toNat x.toNat) (ltL (b.map UInt8.toNat) (a.map UInt8.toNat))) := rfl
      have ih' : bifI (ltL (a.map UInt8.toNat) (b.map UInt8.toNat)) (-1) (bifI (ltL (b.map UInt8.toNat) (a.map UInt8.toNat)) 1 0) = Lib.compareBytes a b := ih b
      unfold extCmp
      rw [h1, h2]
      unfold Lib.compareBytes
      rcases Nat.lt_trichotomy x.toNat y.toNat with h | h | h
      · have hx : x < y := UInt8.lt_iff_toNat_lt.2 h
        simp [hx, h]
      · have e := u8_inj h
        subst e
        have hx : ¬ x < x := fun e => by have := UInt8.lt_iff_toNat_lt.1 e; omega
        rw [if_neg hx]
        simp only [isLt_eq, Nat.lt_irrefl, decide_false, orB_eq, Bool.false_or, andB_eq, beq_eq', decide_true, Bool.true_and]
        rw [if_neg hx]
        exact ih'
      · have hx : y < x := UInt8.lt_iff_toNat_lt.2 h
        have hx2 : ¬ x < y := fun e => by have := UInt8.lt_iff_toNat_lt.1 e; omega
        have hn : ¬ x.toNat < y.toNat := by omega
        have hn2 : ¬ x.toNat = y.toNat := by omega
        simp [hx, hx2, h, hn, hn2, beq_eq']

section
variable {P : Program} {tt : Trie TI} {F : Nat → Prop} {ρ : Ren} {w : World} {s : St}

theorem vU8_256 {y : AV} {y' : Value} {b : Nat} (hy : V ρ y y') (e : y = .int .u8 (Int.ofNat b)) : y' = .int .u8 (b : Int) := by
  subst e; exact hy.int

theorem overlaps_eq (ps rs : Array TypeId) (a b : Option Addr) (la lb ca cb : Nat) : Extern.SlicesOverlaps.overlaps ps rs #[.slice a la ca, .slice b lb cb] = (do
    let some t := ps[0]? | stuck "slices.overlaps: no parameter types"
    let .slice elem ← underlying t | stuck "slices.overlaps: slice type expected"
    let size ← Go.sizeOf elem
    match a, b with
    | some a, some b =>
      if la = 0 ∨ lb = 0 ∨ size = 0 then pure (.bool false)
      else if a.block != b.block && (← frozen a) && (← frozen b) then unsupported .addressObserved
      else do
        if a.block != b.block then do
          noView a; noView b
          if ← mayBeOne a b then return .bool ((← choose (.extern "sameAddr.stringBytes" 2)) == 1)
        pure (.bool (a.block == b.block && a.off < b.off + lb * size && b.off < a.off + la * size))
    | _, _ => pure (.bool false) : Sem Value) := rfl
theorem run_overlaps {ps rs : Array TypeId} {t el : TypeId} {i : TypeInfo} (hp : ps[0]? = some t) (hu : P.underlying t = some (.slice el)) (hi : P.info? el = some i) {a b : Addr} {la lb ca cb : Nat}
    (h : la = 0 ∨ lb = 0 ∨ ∃ arr arr' e e', a.block ≠ b.block ∧ w.heap[a.block]? = some (.cells arr e (0, 0)) ∧ w.heap[b.block]? = some (.cells arr' e' (0, 0))) :
    (Extern.SlicesOverlaps.overlaps ps rs #[.slice (some a) la ca, .slice (some b) lb cb]).run P w = .ok (.bool false) w := by
  rw [overlaps_eq]
  rcases h with rfl | rfl | ⟨arr, arr', e, e', hne, ha, hb⟩
  · simp [hp, run_und hu, run_siz hi]
  · simp [hp, run_und hu, run_siz hi]
  · have f1 : ∀ k, w.frozen? ⟨a.block, k, none⟩ = false := fun k => by simp [World.frozen?, ha]
    have f2 : ∀ k, w.frozen? ⟨b.block, k, none⟩ = false := fun k => by simp [World.frozen?, hb]
    have g1 : w.frozen? a = false := by simp [World.frozen?, ha]
    have g2 : w.frozen? b = false := by simp [World.frozen?, hb]
    have s1 : w.shape? a.block = some (e, arr.size) := by simp [World.shape?, ha]
    have s2 : w.shape? b.block = some (e', arr'.size) := by simp [World.shape?, hb]
    have hb1 : (a.block == b.block) = false := by simpa using hne
    by_cases h0 : la = 0 ∨ lb = 0 ∨ i.size = 0
    · simp [hp, run_und hu, run_siz hi, h0]
    · simp [hp, run_und hu, run_siz hi, h0, hne, hb1, g1, g2, noView, viewAt, s1, s2, mayBeOne, stringish, f1, f2]
theorem run_overlapsNil {ps rs : Array TypeId} {t el : TypeId} {i : TypeInfo} (hp : ps[0]? = some t) (hu : P.underlying t = some (.slice el)) (hi : P.info? el = some i) {a b : Option Addr} {la lb ca cb : Nat}
    (h : a = none ∨ b = none) : (Extern.SlicesOverlaps.overlaps ps rs #[.slice a la ca, .slice b lb cb]).run P w = .ok (.bool false) w := by
  rw [overlaps_eq]
  rcases h with rfl | rfl
  · simp [hp, run_und hu, run_siz hi]
  · cases a <;> simp [hp, run_und hu, run_siz hi]

theorem ext_good {f : FuncId} {k : Nat} {ext : Trie Nat} (hE : ExtOK P ext) (hk : ext.get f = some k) {l : List AV} {args : Array Value} (hl : Vs ρ l args.toList) :
    Good tt ρ w s ((callFunc f args).run P w) (extF k l s) := by
  obtain ⟨fn, h1, h2, h3, h4, e, h5, hrow⟩ := hE f k hk
  rw [run_callFunc_extern h1 h2 h3 h4 h5]
  have rv' : ∀ {m : Sem Value} {v : Value}, m.run P w = .ok v w → ((m.run P w).andThen fun v w' => Result.ok (Next.value v) w') = .ok (.value v) w := fun h => by rw [h]; rfl
  rcases hrow with ⟨rfl, rfl⟩ | ⟨rfl, rfl⟩ | ⟨rfl, rfl⟩ | ⟨rfl, ps, rs, rfl, t, el, i, hp, hu, hi⟩ | ⟨rfl, rfl⟩
  · refine good_args2 fun x y e2 => good_vStr fun t et => good_vU8 fun b eb => good_chk fun hb => ?_
    subst e2; subst et
    obtain ⟨x', y', rfl, hx, hy⟩ := arr2 hl
    obtain ⟨xs, rfl, rfl⟩ := hx.str
    rw [vU8_256 hy eb]
    have hb := isLt_iff.1 hb
    refine good_val (rv' (Lib.run_indexByteString xs (b : Int) w)) ?_
    simp only [V]
    congr 1
    rw [bytesL_def, extIndexByte_eq b hb]
    have : ((b : Int)).toNat.toUInt8 = b.toUInt8 := rfl
    rw [this]
    split
    · assumption
    · simp
  · refine good_args2 fun x y e2 => good_vStr fun a ea => good_vStr fun b eb => ?_
    subst e2; subst ea; subst eb
    obtain ⟨x', y', rfl, hx, hy⟩ := arr2 hl
    obtain ⟨xs, rfl, rfl⟩ := hx.str
    obtain ⟨ys, rfl, rfl⟩ := hy.str
    refine good_val (rv' (Lib.run_compareString xs ys w)) ?_
    simp only [V]
    rw [bytesL_def, bytesL_def, extCmp_eq]
  · refine good_args2 fun x y e2 => good_vStr fun t et => good_vU8 fun b eb => good_chk fun hb => ?_
    subst e2; subst et
    obtain ⟨x', y', rfl, hx, hy⟩ := arr2 hl
    obtain ⟨xs, rfl, rfl⟩ := hx.str
    rw [vU8_256 hy eb]
    have hb := isLt_iff.1 hb
    refine good_val (rv' (Lib.run_countString xs (b : Int) w)) ?_
    simp only [V]
    rw [bytesL_def, extCount_eq b hb]
    rfl
  · have fin : V ρ (.bool false) (.bool false) := by simp only [V]
    refine good_args2 fun x y e2 => good_vSlE (fun ex => good_vSlE (fun ey => ?_) (fun c o m cap ey => ?_)) (fun b o n cap ex => good_vSlE (fun ey => ?_) (fun c o' m cap' ey => good_iff (fun h0 => ?_) (fun h0 => good_chk fun hok => good_read fun hs => ?_)))
    all_goals
      subst e2; subst ex; subst ey
      obtain ⟨x', y', rfl, hx, hy⟩ := arr2 hl
    · rw [hx.nilsl, hy.nilsl]
      exact good_val (rv' (run_overlapsNil hp hu hi (.inl rfl))) fin
    · obtain ⟨a2, c2, rfl⟩ := hy.slSome
      rw [hx.nilsl]
      exact good_val (rv' (run_overlapsNil hp hu hi (.inl rfl))) fin
    · obtain ⟨a2, c2, rfl⟩ := hx.slSome
      rw [hy.nilsl]
      exact good_val (rv' (run_overlapsNil hp hu hi (.inr rfl))) fin
    · obtain ⟨a1, c1, rfl⟩ := hx.slSome
      obtain ⟨a2, c2, rfl⟩ := hy.slSome
      rw [orB_eq, Bool.or_eq_true] at h0
      refine good_val (rv' (run_overlaps hp hu hi ?_)) fin
      rcases h0 with h | h
      · exact .inl (Nat.beq_eq.mp h)
      · exact .inr (.inl (Nat.beq_eq.mp h))
    · obtain ⟨a1, c1, p1, rfl, hp1, ha1⟩ := hx.slAddr
      obtain ⟨a2, c2, p2, rfl, hp2, ha2⟩ := hy.slAddr
      refine ⟨.bool false, rv' (run_overlaps hp hu hi ?_), fin⟩
      by_cases hn : n = 0
      · exact .inl hn
      by_cases hm : m = 0
      · exact .inr (.inl hm)
      have ha1 := ha1 (Nat.pos_of_ne_zero hn)
      have ha2 := ha2 (Nat.pos_of_ne_zero hm)
      subst ha1; subst ha2
      simp only [andB_eq, Bool.and_eq_true, notB_eq] at hok
      obtain ⟨k1, k2, k3⟩ := hok
      have hbc : b ≠ c := by intro e; subst e; simp at k1
      obtain ⟨q1, t1, g1, hc1, hg1⟩ := plainRow_some k2
      obtain ⟨q2, t2, g2, hc2, hg2⟩ := plainRow_some k3
      have l1 := hs.dom _ _ hp1
      have l2 := hs.dom _ _ hp2
      obtain ⟨r1, hr1⟩ := (hs.heap b _ (by simp) l1 hc1).plain hg1 hp1
      obtain ⟨r2, hr2⟩ := (hs.heap c _ (by simp) l2 hc2).plain hg2 hp2
      exact .inr (.inr ⟨r1, r2, t1, t2, fun e => hbc (hs.inj b c p1 p2 (by simp) (by simp) (live_of l1 hc1) (live_of l2 hc2) hp1 hp2 e), hr1, hr2⟩)
  · refine good_args1 fun x e2 => ?_
    subst e2
    obtain ⟨x', rfl, hx⟩ := arr1 hl
    exact good_val (rv' (show (Extern.AbiNoEscape.same #[x']).run P w = .ok x' w from rfl)) hx
end
end Go.Dee
namespace Go.Dee
open Go

section
variable {P : Program} {E : Env} {tt : Trie TI} {F : Nat → Prop} {ρ : Ren} {w : World} {s : St}

theorem listEval_ok {l : List Operand} {tm : Tmps} {σ : Operand → Value} (h : ∀ x ∈ l, V ρ (evalO x tm) (σ x)) : Vs ρ (listEval l tm) (l.map σ) := by
  induction l with
  | nil => exact Vs.nil'
  | cons x l ih => exact Vs.cons' (h x (by simp)) (ih fun y hy => h y (by simp [hy]))
theorem evalParts_fst (l : List (Nat × Operand)) (tm : Tmps) (σ : Operand → Value) : (evalParts l tm).map (·.1) = (l.map fun (p : Nat × Operand) => (p.1, σ p.2)).map (·.1) := by
  induction l with
  | nil => rfl
  | cons x l ih =>
    show x.1 :: (evalParts l tm).map (·.1) = _
    rw [ih]; rfl
theorem evalParts_snd {l : List (Nat × Operand)} {tm : Tmps} {σ : Operand → Value} (h : ∀ x ∈ l.map (·.2), V ρ (evalO x tm) (σ x)) : Vs ρ ((evalParts l tm).map (·.2)) ((l.map fun (p : Nat × Operand) => (p.1, σ p.2)).map (·.2)) := by
  induction l with
  | nil => exact Vs.nil'
  | cons x l ih => exact Vs.cons' (h x.2 (by simp)) (ih fun y hy => h y (by simp [hy]))
theorem evalOO_ok {x : Option Operand} {tm : Tmps} {σ : Operand → Value} (h : ∀ y ∈ x.toArray.toList, V ρ (evalO y tm) (σ y)) : OV ρ (evalOO x tm) (x.map σ) := by
  cases x with
  | none => rfl
  | some x => exact ⟨σ x, rfl, h x (by simp)⟩

theorem enter_good (hE : ExtOK P E.ext) {f : FuncId} {l : List AV} {args : Array Value} (hl : Vs ρ l args.toList) (he : E.ext.get f = none → Enters P f) :
    Good tt ρ w s ((callFunc f args).run P w) (opEnter E s f l) := by
  unfold opEnter
  cases hk : E.ext.get f with
  | none =>
    obtain ⟨fn, h1, h2, h3⟩ := he hk
    have h2' : fn.name ≠ "runtime.NumGoroutine" := by simpa using h2
    have h3' : fn.body ≠ none := by intro e; rw [e] at h3; cases h3
    exact ⟨args, by simp [callFunc, h1, h2', h3'], hl⟩
  | some k => exact ext_good hE hk hl

theorem findMeth_run (ht : TTok P tt) {t : TypeId} {ti : TI} (hti : tt.get t = some ti) {name : String} {f : FuncId} (h : findMeth name ti.meths = some (f, 0)) (n : Nat) (v : Value) :
    (method (n + 1) t v name).run P w = .ok (f, v) w := by
  obtain ⟨i, d, z, hv⟩ := ht.view hti
  obtain ⟨m, h1, h2, b, h3, h4, h5⟩ := hv.meth name f h
  unfold method
  have hf : follow [] t (.val v) = pure (t, .val v) := rfl
  simp only [Sem.run_bind, hv.rinfo, Result.andThen_ok, h1, h2, h3, hf, Sem.run_pure, Array.toList_empty]
  have hrec : ∀ wr, (receiverAt t (.val v) b wr).run P w = .ok v w := by
    intro wr
    unfold receiverAt
    simp only [Sem.run_bind, hv.rund, Result.andThen_ok]
    cases b with
    | true => obtain ⟨e, rfl⟩ := h5 rfl; rfl
    | false =>
      have hd := h4.resolve_left (by decide)
      cases d <;> first | exact absurd rfl (hd _) | rfl
  rw [hrec]
  rfl

theorem builtin_good (ht : TTok P E.tt) {b : Builtin} {ats : Array TypeId} {ty : TypeId} {cs : Array Bool} {l : List AV} {args : Array Value} (hl : Vs ρ l args.toList) :
    Good E.tt ρ w s ((builtin b ats ty cs args).run P w) (opBuiltin b E.tt s ats.toList l) := by
  cases b <;> first | trivial | skip
  · exact append_good ht hl
  · exact cap_good ht hl
  · exact clear_good ht hl
  · exact copy_good ht hl
  · exact len_good ht hl
  · exact max_good hl
  · exact min_good hl
  · exact sliceData_good hl
  · exact unsafeString_good ht hl

theorem call_good (ht : TTok P E.tt) (hX : ExtOK P E.ext) {c : Call} {ty : TypeId} {tm : Tmps} {σ : Operand → Value} (hσ : ∀ x ∈ c.operands.toList, V ρ (evalO x tm) (σ x))
    (he : ∀ f args, opCall E tm s c = .enter f args → Enters P f) : Good E.tt ρ w s ((do let d ← resolve σ c ty; invoke d.target d.args : Sem Next).run P w) (opCall E tm s c) := by
  obtain ⟨callee, cargs, cats⟩ := c
  have hargs : Vs ρ (listEval cargs.toList tm) (cargs.map σ).toList := by
    rw [Array.toList_map]
    refine listEval_ok fun x hx => hσ x ?_
    simp only [Call.operands, Array.toList_append, List.mem_append]
    exact .inr hx
  cases callee with
  | value f =>
    have hf : V ρ (evalO f tm) (σ f) := hσ f (by simp [Call.operands])
    have he : ∀ g args, opCallV E s (evalO f tm) (listEval cargs.toList tm) = .enter g args → Enters P g := he
    show Good E.tt ρ w s _ (opCallV E s (evalO f tm) (listEval cargs.toList tm))
    refine good_vFn fun g a c e => ?_
    rw [e] at hf he
    obtain ⟨x, y, hv, hx, hy⟩ := hf.fn
    have hr : (do let d ← resolve σ { callee := .value f, args := cargs, argTypes := cats } ty; invoke d.target d.args : Sem Next).run P w = (callFunc g (x ++ cargs.map σ ++ y)).run P w := by
      simp [resolve, hv, Deferred.ofValue, invoke]
    rw [hr]
    refine enter_good hX ?_ fun hk => he g (appL (appL a (listEval cargs.toList tm)) c) ?_
    · rw [appL_eq, appL_eq, Array.toList_append, Array.toList_append]
      exact (hx.append hargs).append hy
    · show opEnter E s g _ = _
      unfold opEnter
      rw [hk]
  | invoke r name =>
    have hr : V ρ (evalO r tm) (σ r) := hσ r (by simp [Call.operands])
    show Good E.tt ρ w s _ (opInvoke E.tt name (evalO r tm) (listEval cargs.toList tm))
    have he : ∀ g args, opInvoke E.tt name (evalO r tm) (listEval cargs.toList tm) = .enter g args → Enters P g := he
    refine good_vIface fun t v e => good_oTI fun ti hti => good_oMeth fun p hp => good_chk fun h0 => ?_
    rw [e] at hr he
    obtain ⟨x, hv, hx⟩ := hr.iface
    obtain ⟨f, k⟩ := p
    have h0 : k = 0 := Nat.beq_eq.mp h0
    subst h0
    have hen : Enters P f := he f (v :: listEval cargs.toList tm) (by
      show oTI (E.tt.get t) _ = _
      rw [hti]
      show oMeth (findMeth name ti.meths) _ = _
      rw [hp]; rfl)
    obtain ⟨fn, h1, h2, h3⟩ := hen
    have h2' : fn.name ≠ "runtime.NumGoroutine" := by simpa using h2
    have h3' : fn.body ≠ none := by intro e; rw [e] at h3; cases h3
    have hfuel : ∃ n, P.types.size + Made.depth = n + 1 := ⟨P.types.size + Made.depth - 1, by
      have : 0 < Made.depth := by decide
      omega⟩
    obtain ⟨n, hn⟩ := hfuel
    refine ⟨#[x] ++ cargs.map σ, ?_, ?_⟩
    · have hm := findMeth_run (w := w) ht hti hp n x
      have hext : (#[Value.iface t x] ++ cargs.map σ).extract 1 (#[Value.iface t x] ++ cargs.map σ).size = cargs.map σ := by
        apply Array.ext'
        simp
        exact List.take_of_length_le (by simp)
      simp only [resolve, hv, Sem.run_bind, Sem.run_pure, Result.andThen_ok, invoke]
      have h00 : (#[Value.iface t x] ++ cargs.map σ)[0]? = some (.iface t x) := by rw [← Array.getElem?_toList, Array.toList_append]; rfl
      rw [h00, hext]
      simp only [callMethod, Sem.run_bind, run_program, Result.andThen_ok, hn, hm]
      simp [callFunc, h1, h2', h3']
    · rw [Array.toList_append]
      exact Vs.cons' hx hargs
  | builtin b =>
    show Good E.tt ρ w s _ (opBuiltin b E.tt s cats.toList (listEval cargs.toList tm))
    have hr : (do let d ← resolve σ { callee := .builtin b, args := cargs, argTypes := cats } ty; invoke d.target d.args : Sem Next).run P w = (builtin b cats ty (cargs.map fun | .const _ => true | _ => false) (cargs.map σ)).run P w := rfl
    rw [hr]
    exact builtin_good ht hargs

theorem defer_good {c : Call} {ty : TypeId} {tm : Tmps} {σ : Operand → Value} (hσ : ∀ x ∈ c.operands.toList, V ρ (evalO x tm) (σ x)) :
    Good tt ρ w s ((do pure (Next.defer (← resolve σ c ty)) : Sem Next).run P w) (opDefer tm c) := by
  obtain ⟨callee, cargs, cats⟩ := c
  have hargs : Vs ρ (listEval cargs.toList tm) (cargs.map σ).toList := by
    rw [Array.toList_map]
    refine listEval_ok fun x hx => hσ x ?_
    simp only [Call.operands, Array.toList_append, List.mem_append]
    exact .inr hx
  cases callee with
  | value f =>
    have hf : V ρ (evalO f tm) (σ f) := hσ f (by simp [Call.operands])
    refine good_vFn fun g a c e => ?_
    rw [e] at hf ⊢
    obtain ⟨x, y, hv, hx, hy⟩ := hf.fn
    refine ⟨{ target := .fn (.func g) y, args := x ++ cargs.map σ }, by simp [resolve, hv, Deferred.ofValue], _, _, rfl, ?_⟩
    intro g' a' c' e'
    cases e'
    exact ⟨x, y, cargs.map σ, rfl, rfl, hx, hy, hargs⟩
  | invoke r name => trivial
  | builtin b => trivial
end
end Go.Dee
namespace Go.Dee
open Go

section
variable {P : Program} {E : Env} {ρ : Ren} {w : World} {s : St}

/-- EVERY OPERATION. -/
theorem aop_good (ht : TTok P E.tt) (hX : ExtOK P E.ext) {o : Oper} {tm : Tmps} {σ : Operand → Value} (hσ : ∀ x ∈ o.op.operands.toList, V ρ (evalO x tm) (σ x))
    (he : ∀ f args, aop o.op E tm s = .enter f args → Enters P f) : Good E.tt ρ w s ((execOp σ o).run P w) (aop o.op E tm s) := by
  have ho : o.op = o.op := rfl
  revert he hσ
  generalize hop : o.op = op
  intro hσ he
  have one : ∀ {x : Operand}, op.operands = #[x] → V ρ (evalO x tm) (σ x) := fun h => hσ _ (by rw [h]; simp)
  have ex : ∀ {op' : Op}, op = op' → execOp σ o = execOp σ { o with op := op' } := by
    intro op' h
    rw [← h, ← hop]
  cases op with
  | move x => rw [ex rfl]; exact good_val (v' := σ x) rfl (one rfl)
  | assign x => rw [ex rfl]; exact good_val (v' := σ x) rfl (one rfl)
  | pick c a b => rw [ex rfl]; exact pick_good (hσ c (by simp [Op.operands])) (hσ a (by simp [Op.operands])) (hσ b (by simp [Op.operands]))
  | alloc t => rw [ex rfl]; exact alloc_good ht
  | box t x => rw [ex rfl]; exact box_good (one rfl)
  | build t ps =>
    rw [ex rfl]
    refine build_good ht (qs := ps.map fun (p : Nat × Operand) => (p.1, σ p.2)) ?_ ?_
    · rw [Array.toList_map]; exact evalParts_fst _ _ _
    · rw [Array.toList_map]; exact evalParts_snd fun x hx => hσ x (by simpa [Op.operands] using hx)
  | buildSlice t len ps =>
    rw [ex rfl]
    refine buildSlice_good ht (qs := ps.map fun (p : Nat × Operand) => (p.1, σ p.2)) ?_ ?_
    · rw [Array.toList_map]; exact evalParts_fst _ _ _
    · rw [Array.toList_map]; exact evalParts_snd fun x hx => hσ x (by simpa [Op.operands] using hx)
  | load t a => rw [ex rfl]; exact load_good ht (one rfl)
  | store t a x => rw [ex rfl]; exact store_good ht (hσ a (by simp [Op.operands])) (hσ x (by simp [Op.operands]))
  | nilCheck x => exact nilCheck_good hop (one rfl)
  | binOp op t x y p => exact bin_good ht hop (hσ x (by simp [Op.operands])) (hσ y (by simp [Op.operands]))
  | unOp op t x => rw [ex rfl]; exact unV_ok (one rfl)
  | convert a b x => rw [ex rfl]; exact convert_good ht (one rfl)
  | makeInterface t x => rw [ex rfl]; exact makeIface_good ht (one rfl)
  | makeFunc f a b =>
    rw [ex rfl]
    refine good_val (v' := .func f (a.map σ) (b.map σ)) rfl ?_
    simp only [V]
    refine ⟨_, _, rfl, ?_, ?_⟩
    · rw [Array.toList_map]; exact listEval_ok fun x hx => hσ x (by simp [Op.operands]; exact .inl (by simpa using hx))
    · rw [Array.toList_map]; exact listEval_ok fun x hx => hσ x (by simp [Op.operands]; exact .inr (by simpa using hx))
  | makeMap t r => rw [ex rfl]; exact makeMap_good ht (evalOO_ok fun y hy => hσ y hy)
  | makeSlice t l c => rw [ex rfl]; exact makeSlice_good ht (hσ l (by simp [Op.operands])) (hσ c (by simp [Op.operands]))
  | slice t x lo hi mx =>
    rw [ex rfl]
    have mem : ∀ y, y = x ∨ y ∈ lo.toArray.toList ∨ y ∈ hi.toArray.toList ∨ y ∈ mx.toArray.toList → V ρ (evalO y tm) (σ y) := by
      intro y hy
      refine hσ y ?_
      simp only [Op.operands, Array.toList_append, List.mem_append]
      rcases hy with h | h | h | h
      · exact .inl (.inl (.inl (by simp [h])))
      · exact .inl (.inl (.inr h))
      · exact .inl (.inr h)
      · exact .inr h
    exact slice_good ht (mem x (.inl rfl)) (evalOO_ok fun y hy => mem y (.inr (.inl hy))) (evalOO_ok fun y hy => mem y (.inr (.inr (.inl hy)))) (evalOO_ok fun y hy => mem y (.inr (.inr (.inr hy))))
  | fieldAddr t x f => rw [ex rfl]; exact fieldAddr_good ht (one rfl)
  | field t x f => rw [ex rfl]; exact field_good ht (one rfl)
  | indexAddr t x i => rw [ex rfl]; exact indexAddr_good ht (hσ x (by simp [Op.operands])) (hσ i (by simp [Op.operands]))
  | index t x i => rw [ex rfl]; exact index_good ht (hσ x (by simp [Op.operands])) (hσ i (by simp [Op.operands]))
  | lookup t x i ok => rw [ex rfl]; exact lookup_good ht (hσ x (by simp [Op.operands])) (hσ i (by simp [Op.operands]))
  | mapUpdate t m k x => rw [ex rfl]; exact mapSet_good ht (hσ m (by simp [Op.operands])) (hσ k (by simp [Op.operands])) (hσ x (by simp [Op.operands]))
  | insert t m k x => rw [ex rfl]; exact mapSet_good ht (hσ m (by simp [Op.operands])) (hσ k (by simp [Op.operands])) (hσ x (by simp [Op.operands]))
  | range t x => rw [ex rfl]; exact range_good ht (one rfl)
  | next it isString => rw [ex rfl]; exact next_good (one rfl)
  | typeAssert x t a ok => rw [ex rfl]; exact assert_good ht (one rfl)
  | extract x i => rw [ex rfl]; exact extract_good (one rfl)
  | call c => rw [ex rfl]; exact call_good ht hX hσ he
  | defer c => rw [ex rfl]; exact defer_good hσ
  | panic x => rw [ex rfl]; exact panic_good (one rfl)
  | _ => trivial
end
end Go.Dee
namespace Go.Dee
open Go

theorem hset_mod (h : H4) (b : Nat) (x : Option ABlk) : hset h b x = hset h (b % 65536) x := by
  unfold hset
  have e0 : lo4 b = lo4 (b % 65536) := congrArg toHx (show b % 16 = b % 65536 % 16 by omega)
  have e1 : lo4 (hi4 b) = lo4 (hi4 (b % 65536)) := congrArg toHx (show b / 16 % 16 = b % 65536 / 16 % 16 by omega)
  have e2 : lo4 (hi4 (hi4 b)) = lo4 (hi4 (hi4 (b % 65536))) := congrArg toHx (show b / 16 / 16 % 16 = b % 65536 / 16 / 16 % 16 by omega)
  have e3 : lo4 (hi4 (hi4 (hi4 b))) = lo4 (hi4 (hi4 (hi4 (b % 65536)))) := congrArg toHx (show b / 16 / 16 / 16 % 16 = b % 65536 / 16 / 16 / 16 % 16 by omega)
  rw [e0, e1, e2, e3]
theorem hget_hset_ne (h : H4) {b c : Nat} (x : Option ABlk) (hc : c < 65536) (hne : b % 65536 ≠ c) : hget (hset h b x) c = hget h c := by
  rw [hset_mod, hget_hset h _ c x (Nat.mod_lt _ (by decide)) hc, if_neg hne]

/-- what isn't in the log is as it was; names only rise. -/
structure Log (s s' : St) : Prop where
  n : s.n ≤ s'.n
  sub : ∀ b, b ∈ s.w → b ∈ s'.w
  keep : ∀ b, b < 65536 → b < s.n → (∀ c ∈ s'.w, c % 65536 ≠ b) → hget s'.h b = hget s.h b
  na : (∀ b, s.n ≤ b → b < 65536 → hget s.h b = none) → ∀ b, s'.n ≤ b → b < 65536 → hget s'.h b = none

theorem mem_logW {b c : Nat} {l : List Nat} : c ∈ logW b l ↔ c = b ∨ c ∈ l := by
  cases l with
  | nil => show c ∈ [b] ↔ _; simp
  | cons d t =>
    show c ∈ (Bool.rec (motive := fun _ => Nat → Nat → List Nat → List Nat) (fun b c t => b :: c :: t) (fun _ c t => c :: t) (Nat.beq b d) b d t) ↔ _
    cases h : Nat.beq b d with
    | false => show c ∈ b :: d :: t ↔ _; simp
    | true =>
      have := Nat.beq_eq.mp h
      subst this
      show c ∈ b :: t ↔ _
      simp
theorem Log.refl (s : St) : Log s s := ⟨Nat.le_refl _, fun _ h => h, fun _ _ _ _ => rfl, fun h => h⟩
theorem Log.trans {s s' s'' : St} (h : Log s s') (h' : Log s' s'') : Log s s'' :=
  ⟨Nat.le_trans h.n h'.n, fun b hb => h'.sub b (h.sub b hb), fun b hlt hn hc => by
    rw [h'.keep b hlt (Nat.lt_of_lt_of_le hn h.n) hc, h.keep b hlt hn fun c hcm => hc c (h'.sub c hcm)], fun hn => h'.na (h.na hn)⟩
theorem hget_mod (h : H4) (b : Nat) : hget h b = hget h (b % 65536) := by
  unfold hget
  have e0 : lo4 b = lo4 (b % 65536) := congrArg toHx (show b % 16 = b % 65536 % 16 by omega)
  have e1 : lo4 (hi4 b) = lo4 (hi4 (b % 65536)) := congrArg toHx (show b / 16 % 16 = b % 65536 / 16 % 16 by omega)
  have e2 : lo4 (hi4 (hi4 b)) = lo4 (hi4 (hi4 (b % 65536))) := congrArg toHx (show b / 16 / 16 % 16 = b % 65536 / 16 / 16 % 16 by omega)
  have e3 : lo4 (hi4 (hi4 (hi4 b))) = lo4 (hi4 (hi4 (hi4 (b % 65536)))) := congrArg toHx (show b / 16 / 16 / 16 % 16 = b % 65536 / 16 / 16 / 16 % 16 by omega)
  rw [e0, e1, e2, e3]
theorem Log.set (s : St) (b : Nat) (x : Option ABlk) (h : hget s.h b ≠ none ∨ x = none) : Log s (s.setBlk b x) :=
  ⟨Nat.le_refl _, fun c hc => mem_logW.2 (.inr hc), fun c hlt _ hc => hget_hset_ne s.h x hlt (hc b (mem_logW.2 (.inl rfl))), fun hn c hc hlt => by
    by_cases e : b % 65536 = c
    · show hget (hset s.h b x) c = none
      rw [hset_mod, e, hget_hset s.h c c x hlt hlt, if_pos rfl]
      rcases h with h | h
      · rw [hget_mod, e] at h
        exact absurd (hn c hc hlt) h
      · exact h
    · exact (hget_hset_ne s.h x hlt e).trans (hn c hc hlt)⟩
theorem Log.setL {s : St} {b : Nat} {x : Option ABlk} {y : ABlk} (h : hget s.h b = some y) : Log s (s.setBlk b x) := Log.set s b x (.inl (by rw [h]; simp))
theorem Log.new (s : St) (x : ABlk) (h : (s.new x).n ≤ 65536) : Log s (s.new x) :=
  ⟨Nat.le_succ _, fun c hc => hc, fun c hlt hn _ => by
    have hs : s.n < 65536 := h
    exact hget_hset_ne s.h (some x) hlt (by rw [Nat.mod_eq_of_lt hs]; omega), fun hn c hc hlt => by
    have hs : s.n < 65536 := h
    have hc : s.n + 1 ≤ c := hc
    exact (hget_hset_ne s.h (some x) hlt (by rw [Nat.mod_eq_of_lt hs]; omega)).trans (hn c (by omega) hlt)⟩
theorem Log.setNew (s : St) (b : Nat) (x : ABlk) (h : ((s.setBlk b none).new x).n ≤ 65536) : Log s ((s.setBlk b none).new x) := (Log.set s b none (.inr rfl)).trans (Log.new _ x h)
theorem Log.write {s s' : St} {b o : Nat} {vs : List AV} (h : s.write b o vs = some s') : Log s s' := by
  obtain ⟨_, c, t, g, c', h1, _, rfl⟩ := St.write_some h
  exact Log.setL h1

def Stp (s : St) : AR → Prop
  | .val _ s' _ => s'.n ≤ 65536 → Log s s'
  | .skip s' _ => s'.n ≤ 65536 → Log s s'
  | .panic _ s' => s' = s
  | _ => True
theorem stp_same {s : St} {v : AV} {rd : List Nat} : Stp s (.val v s rd) := fun _ => .refl s
theorem stp_new {s : St} {v : AV} {x : ABlk} {rd : List Nat} : Stp s (.val v (s.new x) rd) := fun h => .new s x h

section
variable {s : St}
theorem stp_oTI {o : Option (TI)} {f : TI → AR} (h : ∀ x, o = some x → Stp s (f x)) : Stp s (oTI o f) := by
  cases o with
  | none => trivial
  | some x => exact h x rfl
theorem stp_oCells {o : Option (List AV)} {f : List AV → AR} (h : ∀ x, o = some x → Stp s (f x)) : Stp s (oCells o f) := by
  cases o with
  | none => trivial
  | some x => exact h x rfl
theorem stp_oAV {o : Option (AV)} {f : AV → AR} (h : ∀ x, o = some x → Stp s (f x)) : Stp s (oAV o f) := by
  cases o with
  | none => trivial
  | some x => exact h x rfl
theorem stp_oSt {o : Option (St)} {f : St → AR} (h : ∀ x, o = some x → Stp s (f x)) : Stp s (oSt o f) := by
  cases o with
  | none => trivial
  | some x => exact h x rfl
theorem stp_oBlk {o : Option (ABlk)} {f : ABlk → AR} (h : ∀ x, o = some x → Stp s (f x)) : Stp s (oBlk o f) := by
  cases o with
  | none => trivial
  | some x => exact h x rfl
theorem stp_oNat {o : Option (Nat)} {f : Nat → AR} (h : ∀ x, o = some x → Stp s (f x)) : Stp s (oNat o f) := by
  cases o with
  | none => trivial
  | some x => exact h x rfl
theorem stp_oBytes {o : Option (List Nat)} {f : List Nat → AR} (h : ∀ x, o = some x → Stp s (f x)) : Stp s (oBytes o f) := by
  cases o with
  | none => trivial
  | some x => exact h x rfl
theorem stp_oKind {o : Option (IntKind)} {f : IntKind → AR} (h : ∀ x, o = some x → Stp s (f x)) : Stp s (oKind o f) := by
  cases o with
  | none => trivial
  | some x => exact h x rfl
theorem stp_oElem {o : Option (TypeId × TI)} {f : TypeId × TI → AR} (h : ∀ x, o = some x → Stp s (f x)) : Stp s (oElem o f) := by
  cases o with
  | none => trivial
  | some x => exact h x rfl
theorem stp_oPair {o : Option (Nat × TI)} {f : Nat × TI → AR} (h : ∀ x, o = some x → Stp s (f x)) : Stp s (oPair o f) := by
  cases o with
  | none => trivial
  | some x => exact h x rfl
theorem stp_oFound {o : Option (Option (Nat × AV))} {f : Option (Nat × AV) → AR} (h : ∀ x, o = some x → Stp s (f x)) : Stp s (oFound o f) := by
  cases o with
  | none => trivial
  | some x => exact h x rfl
theorem stp_oDec {o : Option (Nat × Nat)} {f : Nat × Nat → AR} (h : ∀ x, o = some x → Stp s (f x)) : Stp s (oDec o f) := by
  cases o with
  | none => trivial
  | some x => exact h x rfl
theorem stp_oTid {o : Option (TypeId)} {f : TypeId → AR} (h : ∀ x, o = some x → Stp s (f x)) : Stp s (oTid o f) := by
  cases o with
  | none => trivial
  | some x => exact h x rfl
theorem stp_oMeth {o : Option (FuncId × Nat)} {f : FuncId × Nat → AR} (h : ∀ x, o = some x → Stp s (f x)) : Stp s (oMeth o f) := by
  cases o with
  | none => trivial
  | some x => exact h x rfl
theorem stp_oSrc {o : Option (List AV × List Nat)} {f : List AV × List Nat → AR} (h : ∀ x, o = some x → Stp s (f x)) : Stp s (oSrc o f) := by
  cases o with
  | none => trivial
  | some x => exact h x rfl
theorem stp_chk {b : Bool} {x : AR} (h : b = true → Stp s x) : Stp s (chk b x) := by
  cases b with
  | false => trivial
  | true => exact h rfl
theorem stp_iff {b : Bool} {x y : AR} (h : b = true → Stp s x) (h' : b = false → Stp s y) : Stp s (iff b x y) := by
  cases b with
  | false => exact h' rfl
  | true => exact h rfl
theorem stp_vPtr {v : AV} {f : Nat → Nat → AR} (h0 : ∀ b o, v = .ptr b o → Stp s (f b o)) : Stp s (vPtr v f) := by
  cases v <;> first
    | trivial
    | exact h0 _ _ rfl
theorem stp_vInt {v : AV} {f : IntKind → Int → AR} (h0 : ∀ k n, v = .int k n → Stp s (f k n)) : Stp s (vInt v f) := by
  cases v <;> first
    | trivial
    | exact h0 _ _ rfl
theorem stp_vNat {v : AV} {f : Nat → AR} (h : ∀ k n, v = .int k (Int.ofNat n) → Stp s (f n)) : Stp s (vNat v f) := by
  cases v with
  | int k n => cases n with
    | ofNat m => exact h k m rfl
    | negSucc m => trivial
  | _ => trivial
theorem stp_vStr {v : AV} {f : List Nat → AR} (h0 : ∀ l, v = .str l → Stp s (f l)) : Stp s (vStr v f) := by
  cases v <;> first
    | trivial
    | exact h0 _ rfl
theorem stp_vAgg {v : AV} {f : List AV → AR} (h0 : ∀ l, v = .agg l → Stp s (f l)) : Stp s (vAgg v f) := by
  cases v <;> first
    | trivial
    | exact h0 _ rfl
theorem stp_vTup {v : AV} {f : List AV → AR} (h0 : ∀ l, v = .tup l → Stp s (f l)) : Stp s (vTup v f) := by
  cases v <;> first
    | trivial
    | exact h0 _ rfl
theorem stp_vMap {v : AV} {f : Nat → AR} (h0 : ∀ b, v = .map b → Stp s (f b)) : Stp s (vMap v f) := by
  cases v <;> first
    | trivial
    | exact h0 _ rfl
theorem stp_vBool {v : AV} {f : Bool → AR} (h0 : ∀ b, v = .bool b → Stp s (f b)) : Stp s (vBool v f) := by
  cases v <;> first
    | trivial
    | exact h0 _ rfl
theorem stp_vIface {v : AV} {f : TypeId → AV → AR} (h0 : ∀ t x, v = .iface t x → Stp s (f t x)) : Stp s (vIface v f) := by
  cases v <;> first
    | trivial
    | exact h0 _ _ rfl
theorem stp_vFn {v : AV} {f : FuncId → List AV → List AV → AR} (h : ∀ g a c, v = .fn (.func g) a c → Stp s (f g a c)) : Stp s (vFn v f) := by
  cases v with
  | fn g a c => cases g with
    | func g => exact h g a c rfl
    | _ => trivial
  | _ => trivial
theorem stp_vSlE {v : AV} {x : AR} {f : Nat → Nat → Nat → Option Nat → AR} (h0 : v = .nilsl → Stp s (x)) (h1 : ∀ b o l c, v = .sl b o l c → Stp s (f b o l c)) : Stp s (vSlE v x f) := by
  cases v <;> first
    | trivial
    | exact h0 rfl
    | exact h1 _ _ _ _ rfl
theorem stp_vMapE {v : AV} {x : AR} {f : Nat → AR} (h0 : v = .nilmap → Stp s (x)) (h1 : ∀ b, v = .map b → Stp s (f b)) : Stp s (vMapE v x f) := by
  cases v <;> first
    | trivial
    | exact h0 rfl
    | exact h1 _ rfl
theorem stp_vIfaceE {v : AV} {x : AR} {f : TypeId → AV → AR} (h0 : v = .nilif → Stp s (x)) (h1 : ∀ t y, v = .iface t y → Stp s (f t y)) : Stp s (vIfaceE v x f) := by
  cases v <;> first
    | trivial
    | exact h0 rfl
    | exact h1 _ _ rfl
theorem stp_vNonNil {v : AV} {x : AR} (h0 : ∀ b o, v = .ptr b o → Stp s x) (h1 : ∀ t y, v = .iface t y → Stp s x) (h2 : ∀ g a c, v = .fn (.func g) a c → Stp s x) : Stp s (vNonNil v x) := by
  cases v with
  | ptr b o => exact h0 b o rfl
  | iface t y => exact h1 t y rfl
  | fn g a c => cases g with
    | func g => exact h2 g a c rfl
    | _ => trivial
  | _ => trivial
theorem stp_vConv {v : AV} {i : Int → AR} {st : List Nat → AR} {ns : AR} {sl : Nat → Nat → Nat → AR} {p : Nat → Nat → AR} (h0 : ∀ k n, v = .int k n → Stp s (i n)) (h1 : ∀ l, v = .str l → Stp s (st l)) (h2 : v = .nilsl → Stp s (ns)) (h3 : ∀ b o l c, v = .sl b o l c → Stp s (sl b o l)) (h4 : ∀ b o, v = .ptr b o → Stp s (p b o)) : Stp s (vConv v i st ns sl p) := by
  cases v <;> first
    | trivial
    | exact h0 _ _ rfl
    | exact h1 _ rfl
    | exact h2 rfl
    | exact h3 _ _ _ _ rfl
    | exact h4 _ _ rfl
theorem stp_vCut {v : AV} {st : List Nat → AR} {ns : AR} {sl : Nat → Nat → Nat → Option Nat → AR} {p : Nat → Nat → AR} (h0 : ∀ l, v = .str l → Stp s (st l)) (h1 : v = .nilsl → Stp s (ns)) (h2 : ∀ b o l c, v = .sl b o l c → Stp s (sl b o l c)) (h3 : ∀ b o, v = .ptr b o → Stp s (p b o)) : Stp s (vCut v st ns sl p) := by
  cases v <;> first
    | trivial
    | exact h0 _ rfl
    | exact h1 rfl
    | exact h2 _ _ _ _ rfl
    | exact h3 _ _ rfl
theorem stp_vIdx {v : AV} {sl : Nat → Nat → Nat → AR} {p : Nat → Nat → AR} (h0 : ∀ b o l c, v = .sl b o l c → Stp s (sl b o l)) (h1 : ∀ b o, v = .ptr b o → Stp s (p b o)) : Stp s (vIdx v sl p) := by
  cases v <;> first
    | trivial
    | exact h0 _ _ _ _ rfl
    | exact h1 _ _ rfl
theorem stp_vIdxV {v : AV} {g : List AV → AR} {st : List Nat → AR} (h0 : ∀ l, v = .agg l → Stp s (g l)) (h1 : ∀ l, v = .str l → Stp s (st l)) : Stp s (vIdxV v g st) := by
  cases v <;> first
    | trivial
    | exact h0 _ rfl
    | exact h1 _ rfl
theorem stp_vRange {v : AV} {st : List Nat → AR} {nm : AR} {m : Nat → AR} (h0 : ∀ l, v = .str l → Stp s (st l)) (h1 : v = .nilmap → Stp s (nm)) (h2 : ∀ b, v = .map b → Stp s (m b)) : Stp s (vRange v st nm m) := by
  cases v <;> first
    | trivial
    | exact h0 _ rfl
    | exact h1 rfl
    | exact h2 _ rfl
theorem stp_vLen {v : AV} {f : Nat → AR} {m : Nat → AR} (h0 : ∀ l, v = .str l → Stp s (f (lenL l))) (h1 : v = .nilsl → Stp s (f (nat_lit 0))) (h2 : v = .nilmap → Stp s (f (nat_lit 0))) (h3 : ∀ b o l c, v = .sl b o l c → Stp s (f l)) (h4 : ∀ b, v = .map b → Stp s (m b)) : Stp s (vLen v f m) := by
  cases v <;> first
    | trivial
    | exact h0 _ rfl
    | exact h1 rfl
    | exact h2 rfl
    | exact h3 _ _ _ _ rfl
    | exact h4 _ rfl
theorem stp_vPtrE {v : AV} {x : AR} (h0 : v = .nilp → Stp s (x)) (h1 : ∀ b o, v = .ptr b o → Stp s (x)) : Stp s (vPtrE v x) := by
  cases v <;> first
    | trivial
    | exact h0 rfl
    | exact h1 _ _ rfl
theorem stp_vU8 {v : AV} {f : Nat → AR} (h : ∀ n, v = .int .u8 (Int.ofNat n) → Stp s (f n)) : Stp s (vU8 v f) := by
  cases v with
  | int k n => cases k <;> first | trivial | (cases n with
    | ofNat m => exact h m rfl
    | negSucc m => trivial)
  | _ => trivial
theorem stp_bnd {x : Option AV} {d : Nat} {f : Nat → AR} (h0 : x = none → Stp s (f d)) (h1 : ∀ k n, x = some (.int k (Int.ofNat n)) → Stp s (f n)) : Stp s (bnd x d f) := by
  cases x with
  | none => exact h0 rfl
  | some v => exact stp_vNat (v := v) fun k n e => h1 k n (by rw [e])
theorem stp_withMap {x : Option ABlk} {f : List (AV × AV × Nat) → Nat → AR} (h : ∀ es c, x = some (.omap es c) → Stp s (f es c)) : Stp s (withMap x f) := by
  cases x with
  | none => trivial
  | some y => cases y <;> first | trivial | exact h _ _ rfl
theorem stp_withRow {x : Option ABlk} {f : List AV → TypeId → Nat → AR} (h : ∀ c t g, x = some (.cells c t g) → Stp s (f c t g)) : Stp s (withRow x f) := by
  cases x with
  | none => trivial
  | some y => cases y <;> first | trivial | exact h _ _ _ rfl
theorem stp_withIter {x : Option ABlk} {f : List Nat → Nat → AR} {g : Option Nat → Nat → List Nat → Nat → AR} (h : ∀ l p, x = some (.siter l p) → Stp s (f l p))
    (h' : ∀ m a b c, x = some (.miter m a b c) → Stp s (g m a b c)) : Stp s (withIter x f g) := by
  cases x with
  | none => trivial
  | some y => cases y <;> first | trivial | exact h _ _ rfl | exact h' _ _ _ _ rfl
theorem stp_hit {x : Option (Nat × AV)} {no : AR} {yes : Nat → AV → AR} (h : x = none → Stp s no) (h' : ∀ i v, x = some (i, v) → Stp s (yes i v)) : Stp s (hit x no yes) := by
  cases x with
  | none => exact h rfl
  | some p => exact h' p.1 p.2 rfl
theorem stp_atMostOne {l : List (AV × AV × Nat)} {no : AR} {one : AV × AV × Nat → AR} (h : l = [] → Stp s no) (h' : ∀ e, l = [e] → Stp s (one e)) : Stp s (atMostOne l no one) := by
  cases l with
  | nil => exact h rfl
  | cons e t => cases t with
    | nil => exact h' e rfl
    | cons => trivial
theorem stp_oVal {o : Option AV} (h : ∀ v, o = some v → Stp s (.val v s [])) : Stp s (oVal s o) := by
  cases o with
  | none => trivial
  | some v => exact h v rfl
theorem stp_args1 {l : List AV} {f : AV → AR} (h : ∀ x, l = [x] → Stp s (f x)) : Stp s (args1 l f) := by
  cases l with
  | nil => trivial
  | cons x t => cases t with
    | nil => exact h x rfl
    | cons => trivial
theorem stp_args2 {l : List AV} {f : AV → AV → AR} (h : ∀ x y, l = [x, y] → Stp s (f x y)) : Stp s (args2 l f) := by
  cases l with
  | nil => trivial
  | cons x t => exact stp_args1 (l := t) fun y e => h x y (by rw [e])
theorem stp_args0 {l : List AV} {f : AR} (h : l = [] → Stp s f) : Stp s (args0 l f) := by
  cases l with
  | nil => exact h rfl
  | cons => trivial

theorem stp_oEl {o : Option TypeId} {f : TypeId → AR} {g : AR} (h : ∀ e, o = some e → Stp s (f e)) (h' : o = none → Stp s g) : Stp s (oEl o f g) := by
  cases o with
  | none => exact h' rfl
  | some e => exact h e rfl
theorem stp_ty1 {ts : List TypeId} {f : TypeId → List TypeId → AR} (h : ∀ t u, ts = t :: u → Stp s (f t u)) : Stp s (ty1 ts f) := by
  cases ts with
  | nil => trivial
  | cons t u => exact h t u rfl
end
end Go.Dee
