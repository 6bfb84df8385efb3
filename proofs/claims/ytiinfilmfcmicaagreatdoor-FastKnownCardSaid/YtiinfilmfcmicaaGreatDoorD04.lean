/- Soundness of the evaluator: conversions, maps, ranges, builtins, append. Part of the proof that FastKnown returns true on every schedule, its listed variables laid as the text lays them. -/
import Derived.Test.YtiinfilmfcmicaaGreatDoorD03
import Derived.Laws.BytesString
import Derived.Deep.AppendSrc
import Derived.Lib.UnsafeStr
namespace Go.Dee
open Go

section
variable {P : Program} {tt : Trie TI} {F : Nat → Prop} {ρ : Ren} {w : World} {s : St}

theorem good_oEl {o : Option TypeId} {f : TypeId → AR} {g : AR} {r : Result Next} (h : ∀ e, o = some e → Good tt ρ w s r (f e)) (h' : o = none → Good tt ρ w s r g) : Good tt ρ w s r (oEl o f g) := by
  cases o with
  | none => exact h' rfl
  | some e => exact h e rfl
theorem ptrTo_some {ti : TI} {e : TypeId} (h : ti.ptrTo = some e) : ti.k = .ptr e := by
  unfold TI.ptrTo at h; split at h
  · rename_i e'; cases h; exact e'
  · cases h
theorem isUP_true {ti : TI} (h : ti.isUP = true) : ti.k = .other := by
  unfold TI.isUP at h; split at h
  · assumption
  · cases h
theorem View.ptr {t : TypeId} {ti : TI} {i : TypeInfo} {d : TypeDesc} {z : Value} (hview : View P t ti i d z) {e : TypeId} (hk : ti.k = .ptr e) : d = .pointer e := by
  have := hview.kind; rw [hk] at this; exact this
theorem View.up {t : TypeId} {ti : TI} {i : TypeInfo} {d : TypeDesc} {z : Value} (hview : View P t ti i d z) (hk : ti.k = .other) : d = .unsafePointer := by
  have := hview.kind; rw [hk] at this; exact this
theorem View.int {t : TypeId} {ti : TI} {i : TypeInfo} {d : TypeDesc} {z : Value} (hview : View P t ti i d z) {k : IntKind} (hk : ti.k = .int k) : d = .int k := by
  have := hview.kind; rw [hk] at this; exact this
theorem View.bool {t : TypeId} {ti : TI} {i : TypeInfo} {d : TypeDesc} {z : Value} (hview : View P t ti i d z) (hk : ti.k = .bool) : d = .bool := by
  have := hview.kind; rw [hk] at this; exact this

/-! bytes in memory -/
theorem u8Cons_some {v : AV} {r : Option (List Nat)} {l : List Nat} (h : u8Cons v r = some l) : ∃ m t, v = .int .u8 (Int.ofNat m) ∧ m < 256 ∧ r = some t ∧ l = m :: t := by
  cases v with
  | int k n =>
    cases k <;> first | (cases h; done) | skip
    cases n with
    | negSucc m => cases h
    | ofNat m =>
      cases r with
      | none => cases h
      | some t =>
        have h' : Bool.rec (motive := fun _ => Option (List Nat)) none (some (m :: t)) (isLt m 256) = some l := h
        cases hm : isLt m 256 with
        | false => rw [hm] at h'; cases h'
        | true =>
          rw [hm] at h'
          exact ⟨m, t, rfl, isLt_iff.1 hm, rfl, (Option.some.inj h').symm⟩
  | _ => cases h
theorem bytesOf_some {cs : List AV} {l : List Nat} (h : bytesOf cs = some l) : cs = l.map u8V ∧ ∀ m ∈ l, m < 256 := by
  induction cs generalizing l with
  | nil => cases h; exact ⟨rfl, fun _ h => by cases h⟩
  | cons c cs ih =>
    obtain ⟨m, t, rfl, hm, ht, rfl⟩ := u8Cons_some (show u8Cons c (bytesOf cs) = some l from h)
    obtain ⟨e, h2⟩ := ih ht
    refine ⟨by rw [e]; rfl, fun x hx => ?_⟩
    rcases List.mem_cons.1 hx with rfl | hx
    · exact hm
    · exact h2 x hx
theorem bytesIn_some {b o n : Nat} {l : List Nat} (h : bytesIn s b o n = some l) : s.cells b o n = some (l.map u8V) ∧ ∀ m ∈ l, m < 256 := by
  unfold bytesIn at h
  cases hc : s.cells b o n with
  | none => rw [hc] at h; cases h
  | some cs =>
    rw [hc] at h
    obtain ⟨e, h2⟩ := bytesOf_some (show bytesOf cs = some l from h)
    exact ⟨by rw [e], h2⟩
theorem Vs.u8 {l : List Nat} {vs : List Value} (h : Vs ρ (l.map u8V) vs) : vs = (l.map Int.ofNat).map (Value.int .u8) := by
  induction l generalizing vs with
  | nil => simpa only [List.map_nil, Vs] using h
  | cons m l ih =>
    simp only [List.map_cons, Vs] at h
    obtain ⟨v, l', rfl, hv, h2⟩ := h
    rw [ih h2, (show V ρ (.int .u8 (Int.ofNat m)) v from hv).int]
    rfl
theorem Vs.of_u8 (l : List Nat) : Vs ρ (l.map u8V) ((l.map Int.ofNat).map (Value.int .u8)) := by
  induction l with
  | nil => simp [Vs]
  | cons m l ih =>
    simp only [List.map_cons]
    exact Vs.cons' (by simp only [u8V, V]) ih
theorem bytesL_push (s : ByteArray) (b : UInt8) : bytesL (s.push b) = bytesL s ++ [b.toNat] := by
  rw [bytesL_def, bytesL_def]; simp [ByteArray.push]
theorem bytesL_fold (l : List Nat) (h : ∀ m ∈ l, m < 256) : ∀ s : ByteArray, bytesL ((l.map Int.ofNat).foldl (fun r n => r.push (UInt8.ofNat n.toNat)) s) = bytesL s ++ l := by
  induction l with
  | nil => intro s; simp
  | cons m l ih =>
    intro s
    simp only [List.map_cons, List.foldl_cons]
    rw [ih (fun x hx => h x (List.mem_cons_of_mem _ hx)), bytesL_push]
    have hm : m < 256 := h m (List.mem_cons_self ..)
    have : (UInt8.ofNat (Int.ofNat m).toNat).toNat = m := by
      show (UInt8.ofNat m).toNat = m
      simp; omega
    rw [this]; simp
theorem bytesL_empty : bytesL .empty = [] := rfl

theorem elemU8_true {t : TypeId} (h : elemU8 tt t = true) : ∃ p, sliceTI tt t = some p ∧ p.2.k = .int .u8 := by
  unfold elemU8 at h
  split at h
  · exact ⟨_, by assumption, isU8_true h⟩
  · cases h
end

section
variable {P : Program} {tt : Trie TI} {ρ : Ren} {w : World} {s : St}
/-- a row that is seen at its own type. -/
theorem run_variables {b : Nat} {arr : Array Value} {t : TypeId} {fz : Nat × Nat} (hw : w.heap[b]? = some (.cells arr t fz)) {i : TypeInfo} (hi : P.info? t = some i) (hs : 1 ≤ i.size) {o n : Nat}
    (hm : o % i.size = 0) (hfit : o / i.size + n ≤ arr.size / i.size) : (variablesAt ⟨b, o, none⟩ t n).run P w = .ok true w := by
  have hsh : w.shape? b = some (t, arr.size) := by simp [World.shape?, hw]
  have hc : P.cellsOf t = i.size := by simp [Program.cellsOf, hi]
  have hd : ∃ d, P.depth = d + 1 := ⟨2 * (P.types.size + Made.depth) + 1, by simp [Program.depth]⟩
  obtain ⟨d, hd⟩ := hd
  have h0 : ¬ i.size = 0 := by omega
  have hl : liesAt P P.depth t (arr.size / i.size) o t n = true := by
    have hsl : sameLayout P P.depth t t = true := by rw [hd]; simp [sameLayout]
    have hr : rowAt P (sameLayout P P.depth · t) P.depth t (arr.size / i.size) o n = true := by
      rw [hd]
      unfold rowAt
      rw [← hd]
      simp [hc, h0, hm, hfit, hsl]
    rw [hd]
    unfold liesAt
    rw [hr]; rfl
  simp [variablesAt, hsh, hc, hl]

theorem push_modify (a : Array Obj) (x : Obj) (f : Obj → Obj) : (a.push x).modify a.size f = a.push (f x) := by
  apply Array.ext_getElem?
  intro i
  simp only [Array.getElem?_modify, Array.getElem?_push]
  by_cases h : i = a.size
  · subst h; simp
  · simp [h, Ne.symm h]
def byteRow (xs : ByteArray) (cap : Nat) : Array Value := xs.data.map (fun (b : UInt8) => Value.int .u8 b.toNat) ++ Array.replicate (cap - xs.size) (.int .u8 0)
theorem byteRow_size (xs : ByteArray) {cap : Nat} (h : xs.size ≤ cap) : (byteRow xs cap).size = cap := by
  have e : xs.data.size = xs.size := rfl
  simp [byteRow]; omega
theorem run_stringToBytes (e : TypeId) (xs : ByteArray) {cap : Nat} (hcap : (Question.appendCap xs.size 0 e).cut (w.tape w.drawn (.appendCap xs.size 0 e)) = cap) (hle : xs.size ≤ cap) :
    (Conv.stringToBytes e xs).run P w = .ok (.slice (some ⟨w.heap.size, 0, none⟩) xs.size cap)
      { heap := w.heap.push (.cells (byteRow xs cap) e (cap, cap + 1)), tape := w.tape, drawn := w.drawn + 1, os := w.os, output := w.output } := by
  unfold Conv.stringToBytes
  have hq : (Question.appendCap xs.size 0 e).forced = false := rfl
  have hsz := byteRow_size xs hle
  simp only [Sem.run_bind, run_choose, hq, if_false, Result.andThen_ok, newRow, run_newObj, Sem.run_pure, markStringish, run_shape, Bool.false_eq_true, hcap]
  change Result.andThen (Sem.run P _ { heap := w.heap.push (.cells (byteRow xs cap) e (0, 0)), tape := w.tape, drawn := w.drawn + 1, os := w.os, output := w.output }) _ = _
  have hsh : (World.shape? { heap := w.heap.push (.cells (byteRow xs cap) e (0, 0)), tape := w.tape, drawn := w.drawn + 1, os := w.os, output := w.output } w.heap.size) = some (e, cap) := by
    simp [World.shape?, hsz]
  unfold byteRow at hsh
  rw [hsh]
  simp only [run_freeze, Result.andThen_ok, World.freeze, push_modify]
  simp [byteRow]

theorem convert_good (ht : TTok P tt) {src dst : TypeId} {x : AV} {x' : Value} (hx : V ρ x x') :
    Good tt ρ w s ((do pure (Next.value (← convert src dst x')) : Sem Next).run P w) (opConvert tt s src dst x) := by
  refine good_oTI fun sd hsd => good_oTI fun td htd => ?_
  obtain ⟨si, d1, sz, hv1⟩ := ht.view hsd
  obtain ⟨di, d2, dz, hv2⟩ := ht.view htd
  refine good_vConv (fun k n e => good_oKind fun j hj => ?_) (fun l e => ?_) (fun e => good_chk fun hok => ?_) (fun b o l c e => ?_) (fun b o e => ?_)
  · subst e
    rw [hx.int]
    have := hv2.int (intOf_some hj); subst this
    refine good_val (v' := .int j (j.wrap n)) (rv ?_) (by rw [zWrap_eq]; simp only [V])
    unfold convert
    simp only [Sem.run_bind, hv1.rund, hv2.rund, Result.andThen_ok]
    cases d1 <;> simp [Conv.intToInt]
  · subst e
    obtain ⟨xs, rfl, rfl⟩ := hx.str
    refine good_iff (fun hs => ?_) (fun _ => good_oElem fun p hp => good_chk fun hok => good_chk fun hsz => ?_)
    · have := hv2.str (isStr_true hs); subst this
      refine good_val (v' := .string xs) (rv ?_) hx
      unfold convert
      simp only [Sem.run_bind, hv1.rund, hv2.rund, Result.andThen_ok]
      cases d1 <;> simp
    · rw [andB_eq, Bool.and_eq_true, andB_eq, Bool.and_eq_true] at hok
      have hlen : 1 ≤ xs.size := by have := Nat.ble_eq.mp hok.2.2; rw [lenL_eq, bytesL_length] at this; exact this
      have hmax : xs.size ≤ 1073741824 := by have := Nat.ble_eq.mp hok.2.1; rw [lenL_eq, bytesL_length] at this; exact this
      have hsz : p.2.size = 1 := Nat.beq_eq.mp hsz
      obtain ⟨ti, i, z, ie, de, ze, hti, hv, hte, hve⟩ := slice_view ht hp
      rw [htd] at hti; cases hti
      have := hv.und; rw [hv2.und] at this; cases this
      have := hve.int (isU8_true hok.1); subst this
      intro hs hf hlt
      -- how much room there is
      obtain ⟨cap, hcut⟩ : ∃ cap, (Question.appendCap xs.size 0 p.1).cut (w.tape w.drawn (.appendCap xs.size 0 p.1)) = cap := ⟨_, rfl⟩
      have hcap : xs.size ≤ cap ∧ cap ≤ 2 ^ 63 := by
        rw [← hcut]
        show xs.size ≤ xs.size + w.tape w.drawn _ % (2 ^ 63 - xs.size) ∧ xs.size + w.tape w.drawn _ % (2 ^ 63 - xs.size) ≤ 2 ^ 63
        have : w.tape w.drawn (.appendCap xs.size 0 p.1) % (2 ^ 63 - xs.size) < 2 ^ 63 - xs.size := Nat.mod_lt _ (by omega)
        omega
      have harr := byteRow_size xs hcap.1
      have hrun := run_stringToBytes (P := P) (w := w) p.1 xs hcut hcap.1
      have hrel : cellsRel ρ (mapL u8V (bytesL xs)) (byteRow xs cap) 0 := by
        intro i a ha
        rw [mapL_eq, bytesL_def, List.map_map, List.getElem?_map, Option.map_eq_some_iff] at ha
        obtain ⟨b, hb, rfl⟩ := ha
        have hlt : i < xs.data.size := by have := (List.getElem?_eq_some_iff.1 hb).1; simpa using this
        refine ⟨.int .u8 b.toNat, ?_, by simp only [u8V, Function.comp, V]; rfl⟩
        have hb' : xs.data[i]? = some b := by simpa using hb
        simp only [byteRow, Nat.zero_add]
        rw [Array.getElem?_append_left (by simpa using hlt)]
        simp [hb']
      refine ⟨_, _, ρ.upd s.n ⟨w.heap.size, 0, cap, 1⟩, rv (v := .slice (some ⟨w.heap.size, 0, none⟩) xs.size cap) ?_, ?_, new_row' (w' := { heap := w.heap.push (.cells (byteRow xs cap) p.1 (cap, cap + 1)), tape := w.tape, drawn := w.drawn + 1, os := w.os, output := w.output }) (top := cap) (esz := 1) (arr := byteRow xs cap) (fz := (cap, cap + 1)) hs (free1 hf) (lt1 hlt) hrel (.inr ⟨rfl, by rw [harr]; exact Nat.le_refl _⟩) (fun _ => ⟨?_, by rw [harr]; exact Nat.le_refl _, p.2, hte, hsz.symm⟩) (fun h => absurd h (by decide)) rfl rfl rfl rfl⟩
      · unfold convert
        simp only [Sem.run_bind, hv1.rund, hv2.rund, Result.andThen_ok]
        cases d1 <;> simp [hve.rund, hrun]
      · simp only [V]
        refine ⟨_, _, cap, Ren.upd_same _ _ _, ?_, ?_, hcap.2, .inr rfl, by simp⟩
        · rw [lenL_eq, bytesL_length]
        · rw [lenL_eq, bytesL_length]; exact hcap.1
      · rw [mapL_eq, List.length_map, bytesL_length]; exact hcap.1
  · subst e
    rw [hx.nilsl]
    rw [andB_eq, Bool.and_eq_true] at hok
    obtain ⟨p, hp, hk⟩ := elemU8_true hok.1
    obtain ⟨ti, i, z, ie, de, ze, hti, hv, hte, hve⟩ := slice_view ht hp
    rw [hsd] at hti; cases hti
    have := hv.und; rw [hv1.und] at this; cases this
    have := hve.int hk; subst this
    have := hv2.str (isStr_true hok.2); subst this
    refine good_val (v' := .string .empty) (rv ?_) (by simp only [V]; exact ⟨_, rfl, rfl⟩)
    rw [run_convert_bytes_string w src dst p.1 none 0 0 hv1.und hve.und hv2.und]
    rfl
  · subst e
    refine good_chk fun hok => good_oBytes fun bs hbs => good_read fun hs => ?_
    rw [andB_eq, Bool.and_eq_true] at hok
    obtain ⟨p, hp, hk⟩ := elemU8_true hok.1
    obtain ⟨ti, i, z, ie, de, ze, hti, hv, hte, hve⟩ := slice_view ht hp
    rw [hsd] at hti; cases hti
    have := hv.und; rw [hv1.und] at this; cases this
    have := hve.int hk; subst this
    have := hv2.str (isStr_true hok.2); subst this
    obtain ⟨hcells, h256⟩ := bytesIn_some hbs
    obtain ⟨a, cap, pl, rfl, hpl, ha⟩ := hx.slAddr
    have hload : (loadCells a l).run P w = .ok ((bs.map Int.ofNat).map (Value.int .u8)).toArray w := by
      obtain ⟨vs, hr, hl, hvs⟩ := read_run (P := P) hs (F := (· ∈ [b])) (by simp) hpl hcells
      rw [← hvs.u8]
      by_cases h0 : 0 < l
      · rw [ha h0]; exact hr
      · have : l = 0 := by omega
        subst this
        have : vs = [] := List.eq_nil_of_length_eq_zero hl
        subst this
        rfl
    refine ⟨_, rv (by rw [run_convert_bytes_string w src dst p.1 _ _ _ hv1.und hve.und hv2.und]; exact run_bytesToString w a l cap _ hload), ?_⟩
    simp only [V]
    exact ⟨_, rfl, by rw [bytesL_fold bs h256, bytesL_empty]; rfl⟩
  · subst e
    obtain ⟨pl, hpl, rfl⟩ := hx.ptr
    refine good_oEl (fun el hel => good_chk fun hup => good_oTI fun te hte => good_withRow fun c t g hblk => good_chk fun hok => good_read fun hs => ?_)
      (fun _ => good_chk fun hup => good_oEl (fun el hel => good_oTI fun te hte => good_withRow fun c t g hblk => good_chk fun hok => good_read fun hs => ?_) (fun _ => good_chk fun hup2 => ?_))
    · have := hv1.ptr (ptrTo_some hel); subst this
      have := hv2.up (isUP_true hup); subst this
      rw [andB_eq, Bool.and_eq_true] at hok
      have h1 : 1 ≤ te.size := Nat.ble_eq.mp hok.1
      have h2 : o < c.length := by have := isLt_iff.1 hok.2; rwa [lenL_eq] at this
      obtain ⟨ie, de, ze, hve⟩ := ht.view hte
      obtain ⟨q, arr, fz, hq, hw, hc, _⟩ := hs.heap b _ (by simp) (hs.dom b pl hpl) hblk
      rw [hpl] at hq; cases hq
      obtain ⟨v, hv, _⟩ := hc o c[o] (List.getElem?_eq_getElem h2)
      have hlt := (Array.getElem?_eq_some_iff.1 hv).1
      have hsh : w.shape? pl.block = some (t, arr.size) := by simp [World.shape?, hw]
      have hne : ¬ te.size = 0 := by omega
      have hnb : ¬ arr.size ≤ pl.base + o := by omega
      refine ⟨.pointer (some ⟨pl.block, pl.base + o, none⟩), rv ?_, hx⟩
      unfold convert
      simp only [Sem.run_bind, hv1.rund, hv2.rund, Result.andThen_ok]
      simp [Conv.unsafePointer, hv1.rund, hv2.rund, Conv.seenAt, viewAt, hsh, cellsIn, hve.rsize, hne, hnb]
    · have := hv1.up (isUP_true hup); subst this
      have := hv2.ptr (ptrTo_some hel); subst this
      simp only [andB_eq, Bool.and_eq_true] at hok
      obtain ⟨⟨k1, k2⟩, k3, k4, k5⟩ := hok
      have k1 : t = el := Nat.beq_eq.mp k1
      have k2 : g = 0 := Nat.beq_eq.mp k2
      have k3 : o = 0 := Nat.beq_eq.mp k3
      have k4 : 1 ≤ te.size := Nat.ble_eq.mp k4
      have k5 : te.size ≤ c.length := by have := Nat.ble_eq.mp k5; rwa [lenL_eq] at this
      subst k1; subst k3
      obtain ⟨ie, de, ze, hve⟩ := ht.view hte
      obtain ⟨q, arr, fz, hq, hw, hc, _, hb0, _⟩ := hs.heap b _ (by simp) (hs.dom b pl hpl) hblk
      rw [hpl] at hq; cases hq
      have hb0 := (hb0 k2).1
      obtain ⟨v, hv, _⟩ := hc (te.size - 1) c[te.size - 1] (List.getElem?_eq_getElem (by omega))
      have hlt := (Array.getElem?_eq_some_iff.1 hv).1
      have hsh : w.shape? pl.block = some (t, arr.size) := by simp [World.shape?, hw]
      have hsz : ie.size = te.size := hve.size
      have hvar := run_variables (P := P) (w := w) hw hve.info (by omega) (o := pl.base + 0) (n := 1) (by rw [hb0]; simp) (by
        rw [hb0, hsz]
        have : 1 ≤ arr.size / te.size := (Nat.le_div_iff_mul_le (by omega)).2 (by omega)
        simpa using this)
      have hne : ¬ te.size = 0 := by omega
      refine ⟨.pointer (some ⟨pl.block, pl.base + 0, none⟩), rv ?_, hx⟩
      unfold convert
      simp only [Sem.run_bind, hv1.rund, hv2.rund, Result.andThen_ok]
      simp only [Conv.unsafePointer, Conv.seenAt, viewAt, Sem.run_bind, hv1.rund, hv2.rund, run_shape, hsh, Option.isSome_some, if_true, Sem.run_pure, Result.andThen_ok, hve.rsize, hvar, decide_eq_false hne, Bool.false_or]
    · have := hv1.up (isUP_true hup); subst this
      have := hv2.up (isUP_true hup2); subst this
      refine good_val (v' := .pointer (some ⟨pl.block, pl.base + o, none⟩)) (rv ?_) hx
      unfold convert
      simp only [Sem.run_bind, hv1.rund, hv2.rund, Result.andThen_ok]
      simp [Conv.unsafePointer, hv1.rund, hv2.rund]
end
end Go.Dee
namespace Go.Dee
open Go

/-- a key that is an integer, a text or a bool, at a type of its kind. -/
def KeyT (d : TypeDesc) (k : AV) : Prop := (∃ j n j', k = .int j n ∧ d = .int j') ∨ (∃ l, k = .str l ∧ d = .string) ∨ (∃ b, k = .bool b ∧ d = .bool)

section
variable {P : Program} {tt : Trie TI} {F : Nat → Prop} {ρ : Ren} {w : World} {s : St}

theorem keyOf_some {ti : TI} {k : TypeId} (h : ti.keyOf = some k) : ∃ e, ti.k = .map k e := by
  unfold TI.keyOf at h; split at h
  · rename_i e'; cases h; exact ⟨_, e'⟩
  · cases h
theorem isIntT_true {ti : TI} (h : ti.isIntT = true) : ∃ k, ti.k = .int k := by
  unfold TI.isIntT at h; split at h
  · exact ⟨_, by assumption⟩
  · cases h
theorem isIntT_false {ti : TI} (h : ti.isIntT = false) : ∀ k, ti.k ≠ .int k := by
  intro k e
  simp [TI.isIntT, e] at h
/-- a map's types, in the model's words. -/
theorem map_view (ht : TTok P tt) {t : TypeId} {te : TI} (h : mapTI tt t = some te) :
    ∃ ti i z k e ie de ze, tt.get t = some ti ∧ View P t ti i (.map k e) z ∧ ti.k = .map k e ∧ tt.get e = some te ∧ View P e te ie de ze := by
  obtain ⟨ti, k, e, h1, h2, h3⟩ := mapTI_some h
  obtain ⟨i, d, z, hv⟩ := ht.view h1
  obtain ⟨ie, de, ze, hve⟩ := ht.view h3
  have := hv.map h2; subst this
  exact ⟨ti, i, z, k, e, ie, de, ze, h1, hv, h2, h3, hve⟩
theorem mapKeyOk_true (ht : TTok P tt) {t : TypeId} {v : AV} (h : mapKeyOk tt t v = true) {ti : TI} {k e : TypeId} (hti : tt.get t = some ti) (hk : ti.k = .map k e) : ∃ d, P.underlying k = some d ∧ KeyT d v := by
  unfold mapKeyOk at h
  rw [hti] at h
  simp only at h
  cases hko : ti.keyOf with
  | none => rw [hko] at h; cases h
  | some k' =>
    rw [hko] at h
    obtain ⟨e', he⟩ := keyOf_some hko
    rw [hk] at he; cases he
    simp only at h
    cases hkt : tt.get k with
    | none => rw [hkt] at h; cases h
    | some kt =>
      rw [hkt] at h
      simp only at h
      obtain ⟨i, d, z, hv⟩ := ht.view hkt
      refine ⟨d, hv.und, ?_⟩
      cases v with
      | int j n => obtain ⟨j', hj⟩ := isIntT_true h; exact .inl ⟨j, n, j', rfl, hv.int hj⟩
      | str l => exact .inr (.inl ⟨l, rfl, hv.str (isStr_true h)⟩)
      | bool b => exact .inr (.inr ⟨b, rfl, hv.bool (isBoolT_true h)⟩)
      | _ => cases h

theorem sameNow_ok {d : TypeDesc} {k e : AV} {k' e' : Value} (hd : KeyT d k) (hk : V ρ k k') (he : V ρ e e') {b : Bool} (h : eqV k e = some b) :
    Instr.sameNow d k' e' = some b ∧ (b = true → Instr.sameBits 10000 e' k' = true) := by
  rcases hd with ⟨j, n, j', rfl, rfl⟩ | ⟨l, rfl, rfl⟩ | ⟨c, rfl, rfl⟩
  · cases e <;> first | (cases h; done) | skip
    rename_i j2 m
    rw [hk.int, he.int]
    have h : bifOB (kindEq j j2) (some (ieq n m)) = some b := h
    cases hkj : kindEq j j2 with
    | false => rw [hkj] at h; cases h
    | true =>
      rw [hkj] at h
      have e : ieq n m = b := Option.some.inj h
      have := kindEq_iff.1 hkj; subst this
      refine ⟨by simp [Instr.sameNow, ← e, ieq_eq], fun hb => ?_⟩
      have := ieq_iff.1 (e.trans hb)
      subst this
      simp [Instr.sameBits]
  · cases e <;> first | (cases h; done) | skip
    obtain ⟨xs, rfl, rfl⟩ := hk.str
    obtain ⟨ys, rfl, rfl⟩ := he.str
    have e : eqL (bytesL xs) (bytesL ys) = b := Option.some.inj h
    have hxy : eqL (bytesL xs) (bytesL ys) = (xs == ys) := by
      rw [Bool.eq_iff_iff, eqL_iff, MapKept.bytes_beq]
      exact ⟨bytesL_inj, fun h => by rw [h]⟩
    refine ⟨by simp [Instr.sameNow, ← e, hxy], fun hb => ?_⟩
    have := bytesL_inj (eqL_iff.1 (e.trans hb))
    subst this
    simp [Instr.sameBits, MapKept.bytes_beq]
  · cases e <;> first | (cases h; done) | skip
    rename_i c2
    rw [hk.bool, he.bool]
    have e : beqB c c2 = b := Option.some.inj h
    refine ⟨by simp [Instr.sameNow, ← e], fun hb => ?_⟩
    rw [beqB_eq] at e
    have := e.trans hb
    simp at this
    subst this
    simp [Instr.sameBits]

theorem checkKey_ok {kt : TypeId} {d : TypeDesc} {k : AV} {k' : Value} (hu : P.underlying kt = some d) (hd : KeyT d k) (hk : V ρ k k') (e : Bool) : (Instr.checkKey e 10000 kt k').run P w = .ok () w := by
  show (Instr.checkKey e (9999 + 1) kt k').run P w = .ok () w
  generalize 9999 = n
  unfold Instr.checkKey
  simp only [Sem.run_bind, run_und hu, Result.andThen_ok]
  rcases hd with ⟨j, n, j', rfl, rfl⟩ | ⟨l, rfl, rfl⟩ | ⟨c, rfl, rfl⟩
  · rw [hk.int]; simp
  · obtain ⟨xs, rfl, rfl⟩ := hk.str; simp
  · rw [hk.bool]; simp

/-- what a look at a map's entries comes to. -/
def Found (ρ : Ren) (k' : Value) (l : List MapEntry) (i : Nat) : Option (Nat × AV) → Option (Nat × Value) → Prop
  | none, r => r = none
  | some (j, v), r => ∃ n m, j = i + n ∧ r = some (j, m.val) ∧ l[n]? = some m ∧ V ρ v m.val ∧ Instr.sameBits 10000 m.key k' = true

theorem find_ok {d : TypeDesc} {k : AV} {k' : Value} (hd : KeyT d k) (hk : V ρ k k') {es : List (AV × AV × Nat)} {l : List MapEntry} (he : entRel ρ es l) : ∀ {i : Nat} {r : Option (Nat × AV)}, findKeyA k es i = some r →
    ∃ r', Instr.findNow d k' l i = some r' ∧ Found ρ k' l i r r' := by
  induction es generalizing l with
  | nil =>
    intro i r h
    simp only [entRel] at he
    subst he
    cases h
    exact ⟨none, rfl, rfl⟩
  | cons e es ih =>
    intro i r h
    simp only [entRel] at he
    obtain ⟨m, l', rfl, h1, h2, h3, h4⟩ := he
    have h : foundStep e i (eqV k e.1) (findKeyA k es) = some r := h
    cases hq : eqV k e.1 with
    | none => rw [hq] at h; cases h
    | some b =>
      rw [hq] at h
      obtain ⟨hs, hb⟩ := sameNow_ok hd hk h1 hq
      cases b with
      | true =>
        have h : some (some (i, e.2.1)) = some r := h
        cases h
        exact ⟨some (i, m.val), by simp [Instr.findNow, hs], 0, m, rfl, rfl, rfl, h2, hb rfl⟩
      | false =>
        have h : findKeyA k es (i + 1) = some r := h
        obtain ⟨r', hr, hf⟩ := ih h4 h
        refine ⟨r', by simp [Instr.findNow, hs, hr], ?_⟩
        cases r with
        | none => exact hf
        | some p =>
          obtain ⟨j, v⟩ := p
          obtain ⟨n, m', e1, e2, e3, e4, e5⟩ := hf
          exact ⟨n + 1, m', by omega, e2, by simpa using e3, e4, e5⟩

theorem findKey_ok {kt : TypeId} {d : TypeDesc} {k' : Value} {l : List MapEntry} {r : Option (Nat × Value)} (hu : P.underlying kt = some d) (h : Instr.findNow d k' l 0 = some r) : (Instr.findKey kt k' l).run P w = .ok r w := by
  simp [Instr.findKey, run_und hu, h]

theorem lookRes_V {ok : Bool} {v : AV} {v' : Value} (h : V ρ v v') (b : Bool) : V ρ (lookRes ok v b) (if ok = true then .tuple #[v', .bool b] else v') := by
  unfold lookRes
  rw [bifV_eq]
  cases ok with
  | false => exact h
  | true =>
    simp only [cond_true, if_true, V]
    exact ⟨_, rfl, Vs.cons' h (Vs.one (by simp only [V]))⟩

theorem lookup_good (ht : TTok P tt) {t : TypeId} {ok : Bool} {x k : AV} {x' k' : Value} (hx : V ρ x x') (hk : V ρ k k') :
    Good tt ρ w s ((do pure (Next.value (← Instr.lookup t x' k' ok)) : Sem Next).run P w) (opLookup tt s t ok x k) := by
  refine good_oTI fun te hte => good_chk fun hkey => ?_
  obtain ⟨ti, i, z, kt, e, ie, de, ze, h1, hv, h2, h3, hve⟩ := map_view ht hte
  obtain ⟨d, hu, hd⟩ := mapKeyOk_true ht hkey h1 h2
  refine good_vMapE (fun ex => ?_) (fun b ex => ?_)
  · subst ex
    rw [hx.nilmap]
    refine good_val (rv ?_) (lookRes_V (ok := ok) hve.vzero false)
    have hf : Instr.findNow d k' [] 0 = some none := rfl
    simp [Instr.lookup, hv.rund, checkKey_ok hu hd hk, findKey_ok hu hf, hve.rzero]
  · subst ex
    obtain ⟨p, hp, rfl⟩ := hx.map
    refine good_withMap fun es clock hblk => good_oFound fun r hr => ?_
    have key : SRon tt (· ∈ [b]) ρ s.h w → ∃ arr : Array MapEntry, w.heap[p.block]? = some (.map arr clock) ∧ ∃ r', Instr.findNow d k' arr.toList 0 = some r' ∧ Found ρ k' arr.toList 0 r r' := by
      intro hs
      obtain ⟨q, arr, hq, hw, he⟩ := hs.heap b _ (by simp) (hs.dom b p hp) hblk
      rw [hp] at hq; cases hq
      exact ⟨arr, hw, find_ok hd hk he hr⟩
    refine good_hit (fun e0 => ?_) (fun j v e0 => ?_)
    · subst e0
      refine good_read fun hs => ?_
      obtain ⟨arr, hw, r', hr', hf⟩ := key hs
      have hf : r' = none := hf
      subst hf
      refine ⟨_, rv ?_, lookRes_V (ok := ok) hve.vzero false⟩
      simp [Instr.lookup, hv.rund, MapKept.run_getObj_map hw, checkKey_ok hu hd hk, findKey_ok hu hr', hve.rzero]
    · subst e0
      refine good_read fun hs => ?_
      obtain ⟨arr, hw, r', hr', n, m, _, hf, _, hvm, _⟩ := key hs
      subst hf
      refine ⟨_, rv ?_, lookRes_V (ok := ok) hvm true⟩
      simp [Instr.lookup, hv.rund, MapKept.run_getObj_map hw, checkKey_ok hu hd hk, findKey_ok hu hr']

theorem entRel.append {es fs : List (AV × AV × Nat)} {l m : List MapEntry} (h : entRel ρ es l) (h' : entRel ρ fs m) : entRel ρ (es ++ fs) (l ++ m) := by
  induction es generalizing l with
  | nil => simp only [entRel] at h; subst h; exact h'
  | cons e es ih =>
    simp only [entRel] at h
    obtain ⟨x, l', rfl, h1, h2, h3, h4⟩ := h
    simp only [List.cons_append, entRel]
    exact ⟨x, l' ++ m, rfl, h1, h2, h3, ih h4⟩
theorem entRel.set {es : List (AV × AV × Nat)} {l : List MapEntry} (h : entRel ρ es l) {k v : AV} {k' v' : Value} (hk : V ρ k k') (hv : V ρ v v') (i : Nat) :
    entRel ρ (setAt es i k v) (l.modify i fun e => { e with key := k', val := v' }) := by
  induction es generalizing l i with
  | nil => simp only [entRel] at h; subst h; cases i <;> rfl
  | cons e es ih =>
    simp only [entRel] at h
    obtain ⟨x, l', rfl, h1, h2, h3, h4⟩ := h
    cases i with
    | zero =>
      show entRel ρ ((k, v, e.2.2) :: es) _
      simp only [List.modify_zero_cons, entRel]
      exact ⟨_, l', rfl, hk, hv, h3, h4⟩
    | succ i =>
      show entRel ρ (e :: setAt es i k v) _
      simp only [List.modify_succ_cons, entRel]
      exact ⟨x, _, rfl, h1, h2, h3, ih h4 i⟩

theorem set_other {w : World} {r : Nat} (o : Obj) : ∀ k, k ≠ r → ({ w with heap := w.heap.setIfInBounds r o } : World).heap[k]? = w.heap[k]? := fun k h => by simp [Ne.symm h]

theorem mapSet_good (ht : TTok P tt) {t : TypeId} {m k v : AV} {m' k' v' : Value} (hm : V ρ m m') (hk : V ρ k k') (hv' : V ρ v v') :
    Good tt ρ w s ((do Instr.mapUpdate t m' k' v'; pure Next.skip : Sem Next).run P w) (opMapSet tt s t m k v) := by
  refine good_vMap fun b ex => good_oTI fun te hte => good_chk fun hkey => good_withMap fun es clock hblk => good_oFound fun r hr => ?_
  subst ex
  obtain ⟨ti, i, z, kt, e, ie, de, ze, h1, hv, h2, h3, hve⟩ := map_view ht hte
  obtain ⟨d, hu, hd⟩ := mapKeyOk_true ht hkey h1 h2
  obtain ⟨p, hp, rfl⟩ := hm.map
  have key : SRon tt (· ∈ [b]) ρ s.h w → ∃ arr : Array MapEntry, w.heap[p.block]? = some (.map arr clock) ∧ entRel ρ es arr.toList ∧ ∃ r', Instr.findNow d k' arr.toList 0 = some r' ∧ Found ρ k' arr.toList 0 r r' := by
    intro hs
    obtain ⟨q, arr, hq, hw, he⟩ := hs.heap b _ (by simp) (hs.dom b p hp) hblk
    rw [hp] at hq; cases hq
    exact ⟨arr, hw, he, find_ok hd hk he hr⟩
  refine good_hit (fun e0 => ?_) (fun j u e0 => ?_)
  · subst e0
    intro hs _ _
    obtain ⟨arr, hw, he, r', hr', hf⟩ := key hs
    have hf : r' = none := hf
    subst hf
    have hset := MapKept.heap_set hw (o' := .map (arr.push { key := k', val := v', born := clock }) (clock + 1))
    refine ⟨_, ρ, ru (w' := { w with heap := w.heap.setIfInBounds p.block (.map (arr.push { key := k', val := v', born := clock }) (clock + 1)) }) ?_,
      Adv.put hs (by simp) (live_of (hs.dom b p hp) hblk) hp ?_ (set_other _) (by simp) rfl rfl rfl⟩
    · simp [Instr.mapUpdate, hv.rund, MapKept.run_getObj_map hw, checkKey_ok hu hd hk, findKey_ok hu hr', MapKept.run_setObj_map _ hw]
    · intro y hy
      cases hy
      refine ⟨p, _, hp, hset.1, ?_⟩
      rw [appL_eq, Array.toList_push]
      exact he.append (by simp only [entRel]; exact ⟨_, [], rfl, hk, hv', rfl, rfl⟩)
  · subst e0
    intro hs _ _
    obtain ⟨arr, hw, he, r', hr', n, me, hj, hf, hme, hvm, hsb⟩ := key hs
    subst hf
    have hjn : j = n := by omega
    subst hjn
    have hset := MapKept.heap_set hw (o' := .map (arr.modify j fun e => { e with key := k', val := v' }) clock)
    refine ⟨_, ρ, ru (w' := { w with heap := w.heap.setIfInBounds p.block (.map (arr.modify j fun e => { e with key := k', val := v' }) clock) }) ?_,
      Adv.put hs (by simp) (live_of (hs.dom b p hp) hblk) hp ?_ (set_other _) (by simp) rfl rfl rfl⟩
    · have hme' : arr[j]? = some me := by simpa using hme
      simp [Instr.mapUpdate, hv.rund, MapKept.run_getObj_map hw, checkKey_ok hu hd hk, findKey_ok hu hr', MapKept.run_setObj_map _ hw, hme', Instr.keyThatStays, hsb]
    · intro y hy
      cases hy
      refine ⟨p, _, hp, hset.1, ?_⟩
      rw [Array.toList_modify]
      exact he.set hk hv' j
end
end Go.Dee
namespace Go.Dee
open Go

section
variable {P : Program} {tt : Trie TI} {F : Nat → Prop} {ρ : Ren} {w : World} {s : St}

/-- a new block that is no row. -/
theorem new_obj (hs : SRon tt F ρ s.h w) {x : ABlk} {o : Obj} (hn : ρ s.n = none) (hlt : s.n < 65536)
    (hx : HB tt (ρ.upd s.n ⟨w.heap.size, 0, 0, 0⟩) { w with heap := w.heap.push o } s.n x) :
    Adv tt F ρ s w (ρ.upd s.n ⟨w.heap.size, 0, 0, 0⟩) (s.new x) { w with heap := w.heap.push o } :=
  Adv.add hs hn hlt hx (fun k hk => push_old w o k hk) (Nat.le_refl _) (by simp) rfl rfl rfl

theorem range_good (ht : TTok P tt) {t : TypeId} {x : AV} {x' : Value} (hx : V ρ x x') :
    Good tt ρ w s ((do pure (Next.value (← Instr.range t x')) : Sem Next).run P w) (opRange tt s t x) := by
  refine good_vRange (fun l e => good_oTI fun ti hti => good_chk fun hstr => ?_) (fun e => good_oTI fun te hte => ?_) (fun b e => good_oTI fun te hte => good_withMap fun es clock hblk => ?_)
  · subst e
    obtain ⟨xs, rfl, rfl⟩ := hx.str
    obtain ⟨i, d, z, hv⟩ := ht.view hti
    have := hv.str (isStr_true hstr); subst this
    intro hs hf hlt
    refine ⟨_, _, _, rv (v := .pointer (some ⟨w.heap.size, 0, none⟩)) ?_, V.newPtr rfl, new_obj (o := .stringIter xs 0) hs (free1 hf) (lt1 hlt) ⟨_, xs, Ren.upd_same _ _ _, rfl, push_new w _, rfl⟩⟩
    simp [Instr.range, hv.rund]
  · subst e
    rw [hx.nilmap]
    obtain ⟨ti, i, z, kt, e, ie, de, ze, h1, hv, h2, h3, hve⟩ := map_view ht hte
    intro hs hf hlt
    refine ⟨_, _, _, rv (v := .pointer (some ⟨w.heap.size, 0, none⟩)) ?_, V.newPtr rfl, new_obj (o := .mapIter none 0 #[] 0) hs (free1 hf) (lt1 hlt) ⟨_, none, Ren.upd_same _ _ _, rfl, push_new w _, rfl⟩⟩
    simp [Instr.range, hv.rund]
  · subst e
    obtain ⟨p, hp, rfl⟩ := hx.map
    obtain ⟨ti, i, z, kt, e, ie, de, ze, h1, hv, h2, h3, hve⟩ := map_view ht hte
    intro hs hf hlt
    obtain ⟨q, arr, hq, hw, he⟩ := hs.heap b _ (by simp) (hs.dom b p hp) hblk
    rw [hp] at hq; cases hq
    refine ⟨_, _, _, rv (v := .pointer (some ⟨w.heap.size, 0, none⟩)) ?_, V.newPtr rfl,
      new_obj (o := .mapIter (some p.block) clock #[] clock) hs (free1 hf) (lt1 hlt) ⟨_, some p.block, Ren.upd_same _ _ _, rfl, push_new w _, p, Ren.le_upd (free1 hf) _ _ hp, rfl⟩⟩
    simp [Instr.range, hv.rund, MapKept.run_getObj_map hw]

theorem bytesL_get {s : ByteArray} {i b : Nat} (h : (bytesL s)[i]? = some b) : i < s.size ∧ (s.get! i).toNat = b := by
  rw [bytesL_def, List.getElem?_map, Option.map_eq_some_iff] at h
  obtain ⟨c, hc, rfl⟩ := h
  have hc' : s.data[i]? = some c := by simpa using hc
  have hlt := (Array.getElem?_eq_some_iff.1 hc').1
  refine ⟨hlt, ?_⟩
  have : s.get! i = c := by
    show s.data[i]! = c
    simp only [Array.getElem!_eq_getD, Array.getD_eq_getD_getElem?, hc', Option.getD_some]
  rw [this]
theorem decodeL_ok {s : ByteArray} {pos c n : Nat} (h : decodeL ((bytesL s).drop pos) = some (c, n)) : Utf8.decode s pos = (c, n) := by
  unfold decodeL at h
  split at h
  · cases h
  · rename_i b0 r hd
    have h0 : (bytesL s)[pos]? = some b0 := by
      have : ((bytesL s).drop pos)[0]? = some b0 := by rw [hd]; rfl
      simpa using this
    obtain ⟨_, g0⟩ := bytesL_get h0
    by_cases hlt : b0 < 128
    · rw [isLt_iff.2 hlt] at h
      cases h
      simp only [Utf8.decode, Nat.add_zero, g0, hlt, if_true]
    · have : isLt b0 128 = false := by rw [Bool.eq_false_iff]; exact fun e => hlt (isLt_iff.1 e)
      rw [this] at h
      simp only [cond_false] at h
      split at h
      · cases h
      · rename_i b1 r' 
        have h1 : (bytesL s)[pos + 1]? = some b1 := by
          have : ((bytesL s).drop pos)[1]? = some b1 := by rw [hd]; rfl
          rwa [List.getElem?_drop] at this
        obtain ⟨l1, g1⟩ := bytesL_get h1
        cases hq : (Nat.beq (b0.div 32) 6 && Nat.beq (b1.div 64) 2 && Nat.ble 128 (b0 % 32 * 64 + b1 % 64)) with
        | false => rw [hq] at h; cases h
        | true =>
          rw [hq] at h
          cases h
          simp only [Bool.and_eq_true] at hq
          obtain ⟨⟨q1, q2⟩, q3⟩ := hq
          have q1 : b0 / 32 = 6 := Nat.beq_eq.mp q1
          have q2 : b1 / 64 = 2 := Nat.beq_eq.mp q2
          have q3 : 128 ≤ b0 % 32 * 64 + b1 % 64 := Nat.ble_eq.mp q3
          simp [Utf8.decode, g0, g1, hlt, q1, q2, l1, q3]

theorem run_getObj_other {r : Nat} {o : Obj} (h : w.heap[r]? = some o) (hc : ∀ c t f, o ≠ .cells c t f) : (getObj r).run P w = .ok o w := by
  cases o <;> first | exact absurd rfl (hc _ _ _) | simp [getObj, Sem.run, h]
theorem run_setObj_other {r : Nat} {o o' : Obj} (h : w.heap[r]? = some o) (hc : ∀ c t f, o ≠ .cells c t f) : (setObj r o').run P w = .ok () { w with heap := w.heap.setIfInBounds r o' } := by
  cases o <;> first | exact absurd rfl (hc _ _ _) | simp [setObj, Sem.run, h]

theorem unseen_rel {seen : List Nat} {es : List (AV × AV × Nat)} {l : List MapEntry} (h : entRel ρ es l) : entRel ρ (unseen seen es) (l.filter fun e => !seen.toArray.contains e.born) := by
  induction es generalizing l with
  | nil => simp only [entRel] at h; subst h; rfl
  | cons e es ih =>
    simp only [entRel] at h
    obtain ⟨m, l', rfl, h1, h2, h3, h4⟩ := h
    show entRel ρ (Bool.rec (motive := fun _ => List (AV × AV × Nat)) (e :: unseen seen es) (unseen seen es) (memN e.2.2 seen)) _
    cases hm : memN e.2.2 seen with
    | true =>
      have : (!seen.toArray.contains m.born) = false := by rw [h3]; simpa using memN_iff.1 hm
      rw [List.filter_cons, this]
      exact ih h4
    | false =>
      have : (!seen.toArray.contains m.born) = true := by
        rw [h3]
        have : ¬ e.2.2 ∈ seen := fun e' => by rw [memN_iff.2 e'] at hm; cases hm
        simpa using this
      rw [List.filter_cons, this]
      simp only [entRel]
      exact ⟨m, _, rfl, h1, h2, h3, ih h4⟩
theorem allBorn_rel {es : List (AV × AV × Nat)} {l : List MapEntry} (h : entRel ρ es l) {n : Nat} (hb : allBorn es n = true) : ∀ m ∈ l, m.born < n := by
  induction es generalizing l with
  | nil => simp only [entRel] at h; subst h; intro m hm; cases hm
  | cons e es ih =>
    simp only [entRel] at h
    obtain ⟨m, l', rfl, h1, h2, h3, h4⟩ := h
    have hb : andB (isLt e.2.2 n) (allBorn es n) = true := hb
    rw [andB_eq, Bool.and_eq_true] at hb
    intro x hx
    rcases List.mem_cons.1 hx with rfl | hx
    · rw [h3]; exact isLt_iff.1 hb.1
    · exact ih h4 hb.2 x hx

theorem V.tup {vs : List AV} {l : Array Value} (h : Vs ρ vs l.toList) : V ρ (.tup vs) (.tuple l) := by simp only [V]; exact ⟨l, rfl, h⟩
theorem V.overTup : V ρ (.tup [.bool false]) (.tuple #[.bool false]) := V.tup (Vs.one (by simp only [V]))

theorem next_good {isString : Bool} {it : AV} {it' : Value} {ty : TypeId} (hx : V ρ it it') :
    Good tt ρ w s ((do pure (Next.value (← Instr.next it' isString ty)) : Sem Next).run P w) (opNext s isString it) := by
  refine good_vPtr fun b o e => good_chk fun ho => ?_
  subst e
  have ho : o = 0 := Nat.beq_eq.mp ho
  subst ho
  obtain ⟨p, hp, rfl⟩ := hx.ptr
  refine good_withIter (fun l pos hblk => good_chk fun hstr => ?_) (fun m since seen last hblk => good_chk fun hstr => ?_)
  · have hstr : isString = true := hstr
    subst hstr
    have key : ∀ {G : Nat → Prop}, G b → SRon tt G ρ s.h w → p.base = 0 ∧ ∃ xs, w.heap[p.block]? = some (.stringIter xs pos) ∧ bytesL xs = l := by
      intro G hG hs
      obtain ⟨q, xs, hq, h0, hw, he⟩ := hs.heap b _ hG (hs.dom b p hp) hblk
      rw [hp] at hq; cases hq
      exact ⟨h0, xs, hw, he⟩
    refine good_iff (fun hle => good_read fun hs => ?_) (fun hgt => good_oDec fun q hq => ?_)
    · obtain ⟨h0, xs, hw, rfl⟩ := key (by simp) hs
      have hle : xs.size ≤ pos := by have := Nat.ble_eq.mp hle; rwa [lenL_eq, bytesL_length] at this
      have hn : ¬ pos < xs.size := by omega
      refine ⟨_, rv (v := .tuple #[.bool false]) ?_, V.overTup⟩
      rw [h0]
      simp [Instr.next, run_getObj_other hw (by intro _ _ _ h; cases h), hn]
    · intro hs _ _
      obtain ⟨h0, xs, hw, rfl⟩ := key (by simp) hs
      obtain ⟨c, n⟩ := q
      rw [dropB_eq] at hq
      have hdec := decodeL_ok hq
      have hlt : pos < xs.size := by
        rw [lenL_eq, bytesL_length] at hgt
        rw [ble_eq'] at hgt
        simpa using hgt
      have hset := MapKept.heap_set hw (o' := .stringIter xs (pos + n))
      refine ⟨_, { w with heap := w.heap.setIfInBounds p.block (.stringIter xs (pos + n)) }, ρ, rv (v := .tuple #[.bool true, goInt pos, .int .i32 c]) ?_, ?_, Adv.put hs (by simp) (live_of (hs.dom b p hp) hblk) hp ?_ (set_other _) (by simp) rfl rfl rfl⟩
      · rw [h0]
        simp [Instr.next, run_getObj_other hw (by intro _ _ _ h; cases h), hlt, hdec, run_setObj_other hw (by intro _ _ _ h; cases h)]
      · exact V.tup (Vs.cons' (by simp only [V]) (Vs.cons' (by simp only [V]; rfl) (Vs.one (by simp only [V]; rfl))))
      · intro y hy
        cases hy
        exact ⟨p, xs, hp, h0, hset.1, rfl⟩
  · have hstr : isString = false := by rw [notB_eq] at hstr; simpa using hstr
    subst hstr
    cases m with
    | none =>
      refine good_read fun hs => ?_
      obtain ⟨q, m', hq, h0, hw, he⟩ := hs.heap b _ (by simp) (hs.dom b p hp) hblk
      rw [hp] at hq; cases hq
      have he : m' = none := he
      subst he
      refine ⟨_, rv (v := .tuple #[.bool false]) ?_, V.overTup⟩
      rw [h0]
      simp [Instr.next, run_getObj_other hw (by intro _ _ _ h; cases h)]
    | some m =>
      refine good_withMap fun es clock hm => good_chk fun hok => ?_
      simp only [andB_eq, Bool.and_eq_true] at hok
      have k1 : clock = last := Nat.beq_eq.mp hok.1.1
      have k2 : clock = since := Nat.beq_eq.mp hok.1.2
      subst k1; subst k2
      have key : SRon tt (· ∈ [b, m]) ρ s.h w → p.base = 0 ∧ ∃ (r : Place) (arr : Array MapEntry), ρ m = some r ∧ w.heap[p.block]? = some (.mapIter (some r.block) clock seen.toArray clock) ∧ w.heap[r.block]? = some (.map arr clock) ∧ entRel ρ es arr.toList := by
        intro hs
        obtain ⟨q, m', hq, h0, hw, q', hq', he⟩ := hs.heap b _ (by simp) (hs.dom b p hp) hblk
        rw [hp] at hq; cases hq
        subst he
        obtain ⟨r, arr, hr, hwr, her⟩ := hs.heap m _ (by simp) (hs.dom m _ hq') hm
        rw [hq'] at hr; cases hr
        exact ⟨h0, _, arr, hq', hw, hwr, her⟩
      have noStop : ∀ {arr : Array MapEntry}, (∀ x ∈ arr.toList, x.born < clock) → (!seen.toArray.isEmpty && !arr.isEmpty && arr.all fun x => decide (x.born ≥ clock)) = false := by
        intro arr ha
        obtain ⟨l⟩ := arr
        cases l with
        | nil => simp
        | cons x l =>
          have hx := ha x (by simp)
          simp only [List.isEmpty_toArray, List.isEmpty_cons, Bool.not_false, Bool.and_true, List.all_toArray, List.all_cons, decide_eq_false (show ¬ x.born ≥ clock by omega), Bool.false_and, Bool.and_false]
      have filt : ∀ {arr : Array MapEntry} {l : List MapEntry}, arr.toList.filter (fun e => !seen.toArray.contains e.born) = l → arr.filter (fun e => !seen.toArray.contains e.born) = l.toArray := by
        intro arr l h
        apply Array.ext'
        rw [Array.toList_filter, h]
      refine good_atMostOne (fun hnil => good_read fun hs => ?_) (fun e hone => ?_)
      · obtain ⟨h0, r, arr, hr, hw, hwr, her⟩ := key hs
        have hu := unseen_rel (seen := seen) her
        rw [hnil] at hu
        have hu := filt (show _ = [] from hu)
        have hst := noStop (allBorn_rel her hok.2)
        refine ⟨_, rv (v := .tuple #[.bool false]) ?_, V.overTup⟩
        rw [h0]
        simp only [Instr.next, Sem.run_bind, run_getObj_other hw (by intro _ _ _ h; cases h), Result.andThen_ok, run_getObj_other hwr (by intro _ _ _ h; cases h), hst, hu, if_false, Bool.false_eq_true]
        simp [Question.forced]
      · intro hs _ _
        obtain ⟨h0, r, arr, hr, hw, hwr, her⟩ := key hs
        have hu := unseen_rel (seen := seen) her
        rw [hone] at hu
        simp only [entRel] at hu
        obtain ⟨x, l', hfl, h1, h2, h3, rfl⟩ := hu
        have hu := filt hfl
        have hall := allBorn_rel her hok.2
        have hst := noStop hall
        have hx : x.born < clock := hall x (by
          have : x ∈ arr.toList.filter (fun e => !seen.toArray.contains e.born) := by rw [hfl]; simp
          exact (List.mem_filter.1 this).1)
        have hset := MapKept.heap_set hw (o' := .mapIter (some r.block) clock (seen.toArray.push x.born) clock)
        refine ⟨_, { w with heap := w.heap.setIfInBounds p.block (.mapIter (some r.block) clock (seen.toArray.push x.born) clock) }, ρ, rv (v := .tuple #[.bool true, x.key, x.val]) ?_, ?_, Adv.put hs (by simp) (live_of (hs.dom b p hp) hblk) hp ?_ (set_other _) (by simp) rfl rfl rfl⟩
        · rw [h0]
          simp only [Instr.next, Sem.run_bind, run_getObj_other hw (by intro _ _ _ h; cases h), Result.andThen_ok, run_getObj_other hwr (by intro _ _ _ h; cases h), hst, hu, if_false, Bool.false_eq_true]
          have hnx : ¬ clock ≤ x.born := by omega
          simp [Question.forced, hx, hnx, run_setObj_other hw (by intro _ _ _ h; cases h)]
        · exact V.tup (Vs.cons' (by simp only [V]) (Vs.cons' h1 (Vs.one h2)))
        · intro y hy
          cases hy
          refine ⟨p, some r.block, hp, h0, ?_, r, hr, rfl⟩
          rw [hset.1, appL_eq, h3]
          simp

theorem assert_good (ht : TTok P tt) {xt asserted : TypeId} {ok : Bool} {x : AV} {x' : Value} (hx : V ρ x x') :
    Good tt ρ w s ((do pure (Next.value (← Instr.typeAssert x' xt asserted ok)) : Sem Next).run P w) (opAssert tt s asserted ok x) := by
  refine good_oTI fun ti hti => good_chk fun hif => ?_
  obtain ⟨i, d, z, hv⟩ := ht.view hti
  have hd : ∀ m, d ≠ .interface m := by
    intro m e
    subst e
    have := hv.kind
    have hk := isIface_false hif
    cases hkk : ti.k <;> rw [hkk] at this hk <;> simp only [kindOK] at this
    case iface b => exact absurd rfl (hk b)
    case struct fs => obtain ⟨f, e, _⟩ := this; cases e
    case func => obtain ⟨a, b, c, e⟩ := this; cases e
    all_goals (cases this)
  have hz : V ρ (.tup [ti.zero, .bool false]) (.tuple #[z, .bool false]) := V.tup (Vs.cons' hv.vzero (Vs.one (by simp only [V])))
  refine good_vIfaceE (fun e => good_chk fun hok => ?_) (fun t v e => good_iff (fun he => ?_) (fun he => good_chk fun hok => ?_))
  · subst e
    have hok : ok = true := hok
    subst hok
    rw [hx.nilif]
    refine good_val (rv ?_) hz
    simp only [Instr.typeAssert, Sem.run_bind, hv.rund, Result.andThen_ok]
    cases d <;> first | exact absurd rfl (hd _) | simp [hv.rzero]
  · subst e
    obtain ⟨y, rfl, hy⟩ := hx.iface
    have he : t = asserted := Nat.beq_eq.mp he
    subst he
    refine good_val (v' := if ok = true then .tuple #[y, .bool true] else y) (rv ?_) (lookRes_V hy true)
    simp only [Instr.typeAssert, Sem.run_bind, hv.rund, Result.andThen_ok]
    cases d <;> first | exact absurd rfl (hd _) | simp
  · subst e
    have hok : ok = true := hok
    subst hok
    obtain ⟨y, rfl, hy⟩ := hx.iface
    have he : ¬ t = asserted := by intro e; subst e; simp at he
    refine good_val (rv ?_) hz
    simp only [Instr.typeAssert, Sem.run_bind, hv.rund, Result.andThen_ok]
    cases d <;> first | exact absurd rfl (hd _) | simp [hv.rzero, he]

theorem panic_good {x : AV} {x' : Value} (hx : V ρ x x') : Good tt ρ w s ((do pure (Next.value (← Instr.panic x')) : Sem Next).run P w) (opPanic s x) := by
  refine good_vIface fun t v e => ?_
  subst e
  obtain ⟨y, rfl, hy⟩ := hx.iface
  exact ⟨rfl, .iface t y, by simp [Instr.panic], by simp only [V]; exact ⟨y, rfl, hy⟩⟩

theorem makeMap_good (ht : TTok P tt) {t : TypeId} {x : Option AV} {x' : Option Value} (hx : OV ρ x x') :
    Good tt ρ w s ((do pure (Next.value (← Instr.makeMap t x')) : Sem Next).run P w) (opMakeMap tt s t x) := by
  have fin : ∀ {r : Sem Value}, r.run P w = .ok (.map (some w.heap.size)) { w with heap := w.heap.push (.map #[] 0) } → Good tt ρ w s ((do pure (Next.value (← r)) : Sem Next).run P w) (newMap s) := by
    intro r hr hs hf hlt
    refine ⟨_, _, _, rv hr, ?_, new_obj (o := .map #[] 0) hs (free1 hf) (lt1 hlt) ⟨_, #[], Ren.upd_same _ _ _, push_new w _, by simp [entRel]⟩⟩
    simp only [V]; exact ⟨_, Ren.upd_same _ _ _, rfl⟩
  cases x with
  | none =>
    have : x' = none := hx
    subst this
    exact fin (by simp [Instr.makeMap])
  | some v =>
    obtain ⟨v', rfl, hv'⟩ := hx
    refine good_vInt fun k n e => good_oTI fun te hte => ?_
    subst e
    rw [hv'.int]
    obtain ⟨ti, i, z, kt, e, ie, de, ze, h1, hv, h2, h3, hve⟩ := map_view ht hte
    exact fin (by simp [Instr.makeMap, hv.rund, asInt, asIntOf])
end
end Go.Dee
namespace Go.Dee
open Go

section
variable {P : Program} {tt : Trie TI} {F : Nat → Prop} {ρ : Ren} {w : World} {s : St}

theorem good_ty1 {ts : List TypeId} {f : TypeId → List TypeId → AR} {r : Result Next} (h : ∀ t u, ts = t :: u → Good tt ρ w s r (f t u)) : Good tt ρ w s r (ty1 ts f) := by
  cases ts with
  | nil => trivial
  | cons t u => exact h t u rfl
theorem head0 {α : Type} {a : Array α} {t : α} {u : List α} (h : a.toList = t :: u) : a[0]? = some t := by
  rw [← Array.getElem?_toList, h]; rfl
theorem arr1 {a : Array Value} {x : AV} (h : Vs ρ [x] a.toList) : ∃ x', a = #[x'] ∧ V ρ x x' := by
  obtain ⟨v, hv, hx⟩ := h.inv1
  exact ⟨v, Array.ext' hv, hx⟩
theorem arr2 {a : Array Value} {x y : AV} (h : Vs ρ [x, y] a.toList) : ∃ x' y', a = #[x', y'] ∧ V ρ x x' ∧ V ρ y y' := by
  obtain ⟨v, u, hv, hx, hy⟩ := h.inv2
  exact ⟨v, u, Array.ext' hv, hx, hy⟩

theorem V.goInt (n : Nat) : V ρ (.int .i64 (Int.ofNat n)) (goInt (n : Int)) := by simp only [V]; rfl

theorem entRel.length {es : List (AV × AV × Nat)} {l : List MapEntry} (h : entRel ρ es l) : es.length = l.length := by
  induction es generalizing l with
  | nil => simp only [entRel] at h; subst h; rfl
  | cons e es ih =>
    simp only [entRel] at h
    obtain ⟨m, l', rfl, _, _, _, h4⟩ := h
    simp [ih h4]

theorem len_good (ht : TTok P tt) {ats : Array TypeId} {ty : TypeId} {args : Array Value} {l : List AV} (hl : Vs ρ l args.toList) :
    Good tt ρ w s ((do pure (Next.value (← Builtin.len_ ats ty args)) : Sem Next).run P w) (ty1 ats.toList fun t _ => args1 l fun x => opLen tt s t x) := by
  refine good_ty1 fun t u e => good_args1 fun x e2 => good_oTI fun ti hti => good_chk fun hok => ?_
  subst e2
  obtain ⟨x', rfl, hx⟩ := arr1 hl
  have h0 := head0 e
  obtain ⟨i, d, z, hv⟩ := ht.view hti
  refine good_vLen (fun l e => ?_) (fun e => ?_) (fun e => ?_) (fun b o n c e => ?_) (fun b e => good_withMap fun es clock hblk => good_read fun hs => ?_)
  · subst e
    obtain ⟨xs, rfl, rfl⟩ := hx.str
    have := hv.str (isStr_true hok); subst this
    refine good_val (rv (v := goInt (xs.size : Int)) ?_) (by rw [lenL_eq, bytesL_length]; exact V.goInt _)
    simp [Builtin.len_, h0, hv.rund]
  · subst e
    obtain ⟨el, hel⟩ := isSliceT_true hok
    have := hv.slice hel; subst this
    rw [hx.nilsl]
    exact good_val (rv (v := goInt 0) (by simp [Builtin.len_, h0, hv.rund])) (V.goInt 0)
  · subst e
    obtain ⟨k, el, hel⟩ := isMapT_true hok
    have := hv.map hel; subst this
    rw [hx.nilmap]
    exact good_val (rv (v := goInt 0) (by simp [Builtin.len_, h0, hv.rund])) (V.goInt 0)
  · subst e
    obtain ⟨el, hel⟩ := isSliceT_true hok
    have := hv.slice hel; subst this
    obtain ⟨a, c', rfl⟩ := hx.slSome
    exact good_val (rv (v := goInt (n : Int)) (by simp [Builtin.len_, h0, hv.rund])) (V.goInt _)
  · subst e
    obtain ⟨k, el, hel⟩ := isMapT_true hok
    have := hv.map hel; subst this
    obtain ⟨p, hp, rfl⟩ := hx.map
    obtain ⟨q, arr, hq, hw, he⟩ := hs.heap b _ (by simp) (hs.dom b p hp) hblk
    rw [hp] at hq; cases hq
    refine ⟨goInt (arr.size : Int), rv (by simp [Builtin.len_, h0, hv.rund, MapKept.run_getObj_map hw]), ?_⟩
    rw [lenL_eq, he.length]
    simpa using V.goInt (ρ := ρ) arr.size

theorem cap_good (ht : TTok P tt) {ats : Array TypeId} {ty : TypeId} {args : Array Value} {l : List AV} (hl : Vs ρ l args.toList) :
    Good tt ρ w s ((do pure (Next.value (← Builtin.cap_ ats ty args)) : Sem Next).run P w) (ty1 ats.toList fun t _ => args1 l fun x => opCap tt s t x) := by
  refine good_ty1 fun t u e => good_args1 fun x e2 => good_oElem fun p hp => ?_
  subst e2
  obtain ⟨x', rfl, hx⟩ := arr1 hl
  have h0 := head0 e
  obtain ⟨ti, i, z, ie, de, ze, _, hv, _, hve⟩ := slice_view ht hp
  refine good_vSlE (fun e => ?_) (fun b o n c e => good_oNat fun m hm => ?_)
  · subst e
    rw [hx.nilsl]
    exact good_val (rv (v := goInt 0) (by simp [Builtin.cap_, h0, hv.rund])) (V.goInt 0)
  · subst e; subst hm
    simp only [V] at hx
    obtain ⟨p, hp, rfl⟩ := hx
    exact good_val (rv (v := goInt (m : Int)) (by simp [Builtin.cap_, h0, hv.rund])) (V.goInt _)

theorem max_good {ats : Array TypeId} {ty : TypeId} {args : Array Value} {l : List AV} (hl : Vs ρ l args.toList) :
    Good tt ρ w s ((do pure (Next.value (← Builtin.max_ ats ty args)) : Sem Next).run P w) (args2 l fun x y => opMax s x y) := by
  refine good_args2 fun x y e2 => good_vInt fun k a e => good_vInt fun j b e' => ?_
  subst e2; subst e; subst e'
  obtain ⟨x', y', rfl, hx, hy⟩ := arr2 hl
  rw [hx.int, hy.int]
  refine good_val (rv (v := .int k (if b > a then b else a)) (by simp [Builtin.max_, Builtin.max2])) ?_
  simp only [V, bifI_eq, ilt_eq]
  by_cases h : a < b <;> simp [h]
theorem min_good {ats : Array TypeId} {ty : TypeId} {args : Array Value} {l : List AV} (hl : Vs ρ l args.toList) :
    Good tt ρ w s ((do pure (Next.value (← Builtin.min_ ats ty args)) : Sem Next).run P w) (args2 l fun x y => opMin s x y) := by
  refine good_args2 fun x y e2 => good_vInt fun k a e => good_vInt fun j b e' => ?_
  subst e2; subst e; subst e'
  obtain ⟨x', y', rfl, hx, hy⟩ := arr2 hl
  rw [hx.int, hy.int]
  refine good_val (rv (v := .int k (if b < a then b else a)) (by simp [Builtin.min_, Builtin.min2])) ?_
  simp only [V, bifI_eq, ilt_eq]
  by_cases h : b < a <;> simp [h]

theorem zero_rel {t : TypeId} {ti : TI} {i : TypeInfo} {d : TypeDesc} {z : Value} (hview : View P t ti i d z) (m : Nat) : Vs ρ (repeatL ti.zero.cells m) (Builtin.zeroCells z.cells m).toList := by
  have := zero_row (ρ := ρ) hview m (fun i => z.cells[i % z.cells.size]!) (fun _ => rfl)
  unfold Builtin.zeroCells
  rw [hview.zsize]
  rw [hview.zsize] at this
  exact this

theorem splice_nil {c r : List AV} {o : Nat} (h : splice c o [] = some r) : r = c := by
  obtain ⟨_, e⟩ := splice_some h
  rw [e]; simp
/-- a write, of nothing too. -/
theorem write_any {s' : St} {b o : Nat} {vs : List AV} {xs : List Value} {p : Place} (hs : SRon tt F ρ s.h w) (hF : F b) (hp : ρ b = some p)
    (hvs : Vs ρ vs xs) (h : s.write b o vs = some s') {a : Addr} (ha : xs ≠ [] → a = ⟨p.block, p.base + o, none⟩) :
    ∃ w', (storeCells a xs).run P w = .ok () w' ∧ Adv tt F ρ s w ρ s' w' := by
  by_cases hne : vs = []
  · subst hne
    have : xs = [] := by simpa only [Vs] using hvs
    subst this
    obtain ⟨hsc, c, t, g, c', h1, h2, rfl⟩ := St.write_some h
    have hlt := hs.dom b p hp
    refine ⟨w, rfl, Adv.put hs hF (live_of hlt h1) hp ?_ (fun _ _ => rfl) (Nat.le_refl _) rfl rfl rfl⟩
    intro y hy
    cases hy
    rw [splice_nil h2]
    exact hs.heap b _ hF hlt h1
  · have : xs ≠ [] := by
      intro e; subst e
      have := hvs.length
      exact hne (List.eq_nil_of_length_eq_zero this)
    rw [ha this]
    exact write_ok hs hF hp hvs h hne

theorem clear_good (ht : TTok P tt) {ats : Array TypeId} {ty : TypeId} {args : Array Value} {l : List AV} (hl : Vs ρ l args.toList) :
    Good tt ρ w s ((do pure (Next.value (← Builtin.clear_ ats ty args)) : Sem Next).run P w) (ty1 ats.toList fun t _ => args1 l fun x => opClear tt s t x) := by
  refine good_ty1 fun t u e => good_args1 fun x e2 => good_oElem fun p hp => ?_
  subst e2
  obtain ⟨x', rfl, hx⟩ := arr1 hl
  have h0 := head0 e
  obtain ⟨ti, i, z, ie, de, ze, _, hv, _, hve⟩ := slice_view ht hp
  refine good_vSlE (fun e => ?_) (fun b o n c e => good_oSt fun s' hs' => ?_)
  · subst e
    rw [hx.nilsl]
    exact good_val (rv (v := .tuple #[]) (by simp [Builtin.clear_, h0, hv.rund])) (by simp [V])
  · subst e
    obtain ⟨a, cap, pl, rfl, hpl, ha⟩ := hx.slAddr
    intro hs _ _
    obtain ⟨w', hrun, hadv⟩ := write_any (P := P) hs (F := (· ∈ [b])) (by simp) hpl (zero_rel hve n) hs' (a := a) (fun hne => ha (Nat.pos_of_ne_zero fun e => hne (by subst e; simp [Builtin.zeroCells])))
    refine ⟨_, w', ρ, rv (v := .tuple #[]) ?_, by simp [V], hadv⟩
    simp only [Builtin.clear_, h0]
    cases n with
    | zero =>
      have : w' = w := by
        have h : (storeCells a (Builtin.zeroCells ze.cells 0).toList).run P w = .ok () w := by simp [Builtin.zeroCells, storeCells]
        rw [h] at hrun
        exact (Result.ok.inj hrun).2.symm
      subst this
      simp [hv.rund]
    | succ n => simp [hv.rund, hve.rzero, hrun]

/-! what is appended, or copied -/
theorem srcV_some {y : AV} {n : Nat} {f : Nat → Nat → Option (List AV × List Nat)} {q : List AV × List Nat} (h : srcV y n f = some q) :
    (y = .nilsl ∧ q = ([], [])) ∨ (∃ l, y = .str l ∧ q = ((takeB n l).map u8V, [])) ∨ ∃ b o m c, y = .sl b o m c ∧ f b o = some q := by
  cases y with
  | nilsl => exact .inl ⟨rfl, (Option.some.inj h).symm⟩
  | str l => exact .inr (.inl ⟨l, rfl, by rw [← Option.some.inj h, mapL_eq]; rfl⟩)
  | sl b o m c => exact .inr (.inr ⟨b, o, m, c, rfl, h⟩)
  | _ => cases h
theorem pairO_some {x : Option (List AV)} {r : List Nat} {q : List AV × List Nat} (h : pairO x r = some q) : ∃ c, x = some c ∧ q = (c, r) := by
  cases x with
  | none => cases h
  | some c => exact ⟨c, rfl, (Option.some.inj h).symm⟩

/-- the cells that come out of a slice, or of a text. -/
theorem source_ok {y : AV} {y' : Value} {size n m : Nat} {q : List AV × List Nat} (h : sourceOf s size n y = some q) (hy : V ρ y y') (hlen : lenV y = some m) (hn : n ≤ m)
    (hF : ∀ b ∈ q.2, F b) (hs : SRon tt F ρ s.h w) :
    ∃ xs : List Value, Vs ρ q.1 xs ∧ ∀ w' : World, w'.heap = w.heap → (Builtin.firstCells size n y').run P w' = .ok xs.toArray w' := by
  rcases srcV_some h with ⟨rfl, rfl⟩ | ⟨l, rfl, rfl⟩ | ⟨b, o, k, c, rfl, hq⟩
  · rw [hy.nilsl]
    exact ⟨[], Vs.nil', fun w' _ => by simp [Builtin.firstCells]⟩
  · obtain ⟨xs, rfl, rfl⟩ := hy.str
    refine ⟨(((takeB n (bytesL xs)).map Int.ofNat).map (Value.int .u8)), Vs.of_u8 _, fun w' _ => ?_⟩
    simp only [Builtin.firstCells, Sem.run_pure]
    congr 1
    apply Array.ext'
    rw [takeB_eq, bytesL_def]
    simp [List.map_take, Function.comp_def]
  · obtain ⟨cs, hcs, rfl⟩ := pairO_some hq
    obtain ⟨a, cap, pl, rfl, hpl, ha⟩ := hy.slAddr
    obtain ⟨vs, hl, hvs, hc⟩ := read_cells hs (hF b (by simp)) hpl hcs
    refine ⟨vs, hvs, fun w' hw => ?_⟩
    have hm : k = m := Option.some.inj hlen
    have hc' : ∀ (j : Nat) v, vs[j]? = some v → w'.cell? (a.add j) = some v := by
      intro j v hv
      have hj := (List.getElem?_eq_some_iff.1 hv).1
      have hl' : vs.length = n * size := hl
      have hn0 : 0 < n := Nat.pos_of_ne_zero fun e => by subst e; rw [Nat.zero_mul] at hl'; rw [hl'] at hj; exact absurd hj (Nat.not_lt_zero _)
      rw [ha (by omega)]
      have := hc j v hv
      unfold World.cell? at this ⊢
      rw [hw]; exact this
    exact run_firstCells_some w' size n a k cap vs hl hc'

theorem minN_le {a b : Nat} : minN a b ≤ a ∧ minN a b ≤ b := by rw [minN_eq]; omega
theorem lenV_lenOf {y : AV} {y' : Value} {n : Nat} (hy : V ρ y y') (h : lenV y = some n) : (Builtin.lenOf y').run P w = .ok n w := by
  cases y <;> first | (cases h; done) | skip
  · obtain ⟨xs, rfl, rfl⟩ := hy.str
    have e : lenL (bytesL xs) = n := Option.some.inj h
    rw [lenL_eq, bytesL_length] at e
    simp [Builtin.lenOf, e]
  · rw [hy.nilsl]
    cases h
    simp [Builtin.lenOf]
  · obtain ⟨a, c, rfl⟩ := hy.slSome
    cases h
    simp [Builtin.lenOf]

theorem copy_good (ht : TTok P tt) {ats : Array TypeId} {ty : TypeId} {args : Array Value} {l : List AV} (hl : Vs ρ l args.toList) :
    Good tt ρ w s ((do pure (Next.value (← Builtin.copy_ ats ty args)) : Sem Next).run P w) (ty1 ats.toList fun t _ => args2 l fun x y => opCopy tt s t x y) := by
  refine good_ty1 fun t u e => good_args2 fun x y e2 => good_oElem fun p hp => good_oNat fun ny hny => ?_
  subst e2
  obtain ⟨x', y', rfl, hx, hy⟩ := arr2 hl
  have h0 := head0 e
  obtain ⟨ti, i, z, ie, de, ze, _, hv, _, hve⟩ := slice_view ht hp
  have firstZero : (Builtin.firstCells p.2.size 0 y').run P w = .ok #[] w := by
    cases y <;> first | (cases hny; done) | skip
    · obtain ⟨xs, rfl, rfl⟩ := hy.str
      simp [Builtin.firstCells]
    · rw [hy.nilsl]; simp [Builtin.firstCells]
    · obtain ⟨a, c, rfl⟩ := hy.slSome
      exact run_firstCells_some w _ 0 a _ c [] (by simp) (by simp)
  refine good_vSlE (fun e => ?_) (fun b o nx c e => good_iff (fun hz => ?_) (fun hz => good_oSrc fun q hq => good_oSt fun s' hs' => ?_))
  · subst e
    rw [hx.nilsl]
    refine good_val (rv (v := goInt 0) ?_) (V.goInt 0)
    have hmin : Nat.min ny 0 = 0 := Nat.min_zero ny
    simp [Builtin.copy_, h0, hv.rund, lenV_lenOf hy hny, hve.rsize, firstZero]
  · subst e
    obtain ⟨a, cap, pl, rfl, hpl, ha⟩ := hx.slAddr
    have hz : minN ny nx = 0 := Nat.beq_eq.mp hz
    rw [minN_eq] at hz
    have hmin : Nat.min ny nx = 0 := hz
    refine good_val (rv (v := goInt 0) ?_) (V.goInt 0)
    simp [Builtin.copy_, h0, hv.rund, lenV_lenOf hy hny, hve.rsize, hmin, firstZero, storeCells]
  · subst e
    obtain ⟨a, cap, pl, rfl, hpl, ha⟩ := hx.slAddr
    intro hs _ _
    have hmin : Nat.min ny nx = minN ny nx := (minN_eq ny nx).symm
    have hz : minN ny nx ≠ 0 := fun e => by rw [e] at hz; cases hz
    have hle : minN ny nx ≤ nx := minN_le.2
    obtain ⟨xs, hxs, hfirst⟩ := source_ok (P := P) hq hy hny minN_le.1 (fun b' hb' => List.mem_cons_of_mem _ hb') hs
    obtain ⟨w', hrun, hadv⟩ := write_any (P := P) hs (F := (· ∈ b :: q.2)) (by simp) hpl hxs hs' (a := a) (fun _ => ha (by omega))
    refine ⟨_, w', ρ, rv (v := goInt (minN ny nx : Nat)) ?_, V.goInt _, hadv⟩
    simp [Builtin.copy_, h0, hv.rund, lenV_lenOf hy hny, hve.rsize, hmin, hfirst w rfl, hrun]

theorem capThere_pos {b o len : Nat} {cap : Option Nat} {v : Value} (h : V ρ (.sl b o len cap) v) (hc : capThere len cap = true) :
    ∃ p c, ρ b = some p ∧ v = .slice (some ⟨p.block, p.base + o, none⟩) len c ∧ c ≠ 0 := by
  cases cap with
  | some c =>
    simp only [V] at h
    obtain ⟨p, hp, rfl⟩ := h
    have hc : 1 ≤ c := Nat.ble_eq.mp hc
    exact ⟨p, c, hp, rfl, by omega⟩
  | none =>
    simp only [V] at h
    obtain ⟨p, a, c, hp, rfl, hlc, _, hcase, _⟩ := h
    have hc : 1 ≤ len := Nat.ble_eq.mp hc
    rcases hcase with rfl | rfl
    · omega
    · exact ⟨p, c, hp, rfl, by omega⟩
theorem sliceData_good {ats : Array TypeId} {ty : TypeId} {args : Array Value} {l : List AV} (hl : Vs ρ l args.toList) :
    Good tt ρ w s ((do pure (Next.value (← Builtin.unsafeSliceData_ ats ty args)) : Sem Next).run P w) (args1 l fun x => opSliceData s x) := by
  refine good_args1 fun x e2 => good_vSlE (fun e => ?_) (fun b o n c e => good_chk fun hok => ?_)
  · subst e2; subst e
    obtain ⟨x', rfl, hx⟩ := arr1 hl
    rw [hx.nilsl]
    exact good_val (rv (v := .pointer none) (show (pure (Value.pointer none) : Sem Value).run P w = _ from rfl)) (by simp only [V])
  · subst e2; subst e
    obtain ⟨x', rfl, hx⟩ := arr1 hl
    obtain ⟨p, c', hp, rfl, hc⟩ := capThere_pos hx hok
    refine good_val (rv (v := .pointer (some ⟨p.block, p.base + o, none⟩)) ?_) (by simp only [V]; exact ⟨p, hp, rfl⟩)
    change Sem.run P (if c' ≠ 0 then pure (Value.pointer (some ⟨p.block, p.base + o, none⟩)) else _) w = _
    rw [if_pos hc]; rfl
end
end Go.Dee
namespace Go.Dee
open Go

section
variable {P : Program} {tt : Trie TI} {F : Nat → Prop} {ρ : Ren} {w : World} {s : St}

theorem ptrU8E_some {t : TypeId} {q : TypeId × TI} (h : ptrU8E tt t = some q) : ∃ ti, tt.get t = some ti ∧ ti.k = .ptr q.1 ∧ tt.get q.1 = some q.2 := by
  unfold ptrU8E at h
  split at h
  · rename_i ti hti
    split at h
    · rename_i e he
      split at h
      · rename_i te hte
        cases h
        exact ⟨ti, hti, ptrTo_some he, hte⟩
      · cases h
    · cases h
  · cases h
theorem asInt_run {k : IntKind} {n : Int} : (asInt (.int k n)).run P w = .ok n w := by simp [asInt, asIntOf]

theorem last_lt {o n L : Nat} (h : n ≤ L - o) (h0 : n ≠ 0) : o + n - 1 < L := by omega
theorem last_fit {b o n L : Nat} (h : b + (o + n - 1) < L) (h0 : n ≠ 0) : b + o + n ≤ L := by omega
theorem us_none (ats : Array TypeId) (ty : TypeId) (y : Value) : Builtin.unsafeString_ ats ty #[.pointer none, y] = (do
    let n ← asInt y
    let some _pt := ats[0]? | stuck "unsafe.String: no argument types"
    if n < 0 then runtimePanic (.error "unsafe.String: len out of range")
    if n > IntKind.i64.max then unsupported (.unsafePointer "String: a length above the largest int")
    if n = 0 then pure (.string .empty)
    else runtimePanic (.error "unsafe.String: ptr is nil and len is not zero") : Sem Value) := rfl
theorem us_some (ats : Array TypeId) (ty : TypeId) (a : Addr) (y : Value) : Builtin.unsafeString_ ats ty #[.pointer (some a), y] = (do
    let n ← asInt y
    let some pt := ats[0]? | stuck "unsafe.String: no argument types"
    if n < 0 then runtimePanic (.error "unsafe.String: len out of range")
    if n > IntKind.i64.max then unsupported (.unsafePointer "String: a length above the largest int")
    if n = 0 then pure (.string .empty)
    else if ← variablesAt a (← elemOf pt) n.toNat then do
      let s ← loadBytes a .empty n.toNat
      freeze a n.toNat
      pure (.string s)
    else unsupported (.unsafePointer "String: not so many bytes at ptr") : Sem Value) := rfl

theorem unsafeString_good (ht : TTok P tt) {ats : Array TypeId} {ty : TypeId} {args : Array Value} {l : List AV} (hl : Vs ρ l args.toList) :
    Good tt ρ w s ((do pure (Next.value (← Builtin.unsafeString_ ats ty args)) : Sem Next).run P w) (ty1 ats.toList fun t _ => args2 l fun p n => opUnsafeString tt s t p n) := by
  refine good_ty1 fun t u e => good_args2 fun x y e2 => good_vNat fun k n ey => ?_
  subst e2; subst ey
  obtain ⟨x', y', rfl, hx, hy⟩ := arr2 hl
  rw [hy.nat]
  have h0 := head0 e
  have hn0 : ¬ ((n : Int) < 0) := by omega
  refine good_iff (fun hz => ?_) (fun hz => ?_)
  · have hz : n = 0 := Nat.beq_eq.mp hz
    subst hz
    refine good_vPtrE (fun e => ?_) (fun b o e => ?_)
    · subst e
      rw [hx.nilp]
      refine good_val (rv (v := .string .empty) ?_) (by simp only [V]; exact ⟨_, rfl, rfl⟩)
      rw [us_none]
      simp [asInt_run, h0]
    · subst e
      obtain ⟨p, hp, rfl⟩ := hx.ptr
      refine good_val (rv (v := .string .empty) ?_) (by simp only [V]; exact ⟨_, rfl, rfl⟩)
      rw [us_some]
      simp [asInt_run, h0]
  · have hz : n ≠ 0 := fun e => by rw [e] at hz; cases hz
    refine good_vPtr fun b o e => good_oElem fun q hq => good_withRow fun c e1 g hblk => good_chk fun hok => good_oBytes fun bs hbs => ?_
    subst e
    obtain ⟨p, hp, rfl⟩ := hx.ptr
    simp only [andB_eq, Bool.and_eq_true] at hok
    obtain ⟨k1, k2, k3⟩ := hok
    have k1 : e1 = q.1 := Nat.beq_eq.mp k1
    have k2 : q.2.size = 1 := Nat.beq_eq.mp k2
    have k3 : n ≤ 1073741824 := Nat.ble_eq.mp k3
    subst k1
    obtain ⟨ti, hti, hkk, hte⟩ := ptrU8E_some hq
    obtain ⟨i, d, z, hv⟩ := ht.view hti
    obtain ⟨ie, de, ze, hve⟩ := ht.view hte
    have := hv.ptr hkk; subst this
    intro hs _ _
    obtain ⟨hcells, h256⟩ := bytesIn_some hbs
    have hlt := hs.dom b p hp
    obtain ⟨q', arr, fz, hq', hw, hc, hz1, _⟩ := hs.heap b _ (by simp) hlt hblk
    rw [hp] at hq'; cases hq'
    obtain ⟨vs, hlen, hvs, hcell⟩ := read_cells hs (F := (· ∈ [b])) (by simp) hp hcells
    rw [hvs.u8] at hcell hlen
    have hbl : bs.length = n := by simpa using hlen
    -- the last byte lies in the row
    have hfit : p.base + o + n ≤ arr.size := by
      obtain ⟨c', t', g', h3, h4⟩ := St.cells_some hcells
      rw [hblk] at h3; cases h3
      obtain ⟨h5, _⟩ := cellsAt_some h4
      have hlast : o + n - 1 < c.length := last_lt h5 hz
      obtain ⟨v, hv', _⟩ := hc (o + n - 1) c[o + n - 1] (List.getElem?_eq_getElem hlast)
      exact last_fit (Array.getElem?_eq_some_iff.1 hv').1 hz
    have hsz : ie.size = 1 := hve.size.trans k2
    have hvar := run_variables (P := P) (w := w) hw hve.info (by omega) (o := p.base + o) (n := n) (by rw [hsz]; omega) (by rw [hsz]; simpa using hfit)
    let L : List UInt8 := bs.map UInt8.ofNat
    have hLn : L.length = n := by simp [L, hbl]
    have hld := Lib.run_loadBytes (P := P) w L ⟨p.block, p.base + o, none⟩ .empty (fun j x hj => by
      obtain ⟨m, hm, rfl⟩ : ∃ m, bs[j]? = some m ∧ UInt8.ofNat m = x := by simpa [L] using hj
      have hm256 : m < 256 := h256 m (List.mem_of_getElem? hm)
      rw [hcell j (.int .u8 (Int.ofNat m)) (by simp [hm])]
      have : (UInt8.ofNat m).toNat = m := by simp; omega
      rw [this]; rfl)
    rw [hLn] at hld
    have hmax : ¬ ((n : Int) > IntKind.i64.max) := by
      have : IntKind.i64.max = 9223372036854775807 := rfl
      omega
    have hne : ¬ ((n : Int) = 0) := by omega
    refine ⟨_, w.freeze ⟨p.block, p.base + o, none⟩ n, ρ, rv (v := .string ⟨ByteArray.empty.data ++ L.toArray⟩) ?_, ?_, Adv.put hs (by simp) (live_of hlt hblk) hp (fun _ h => by cases h) ?_ ?_ ?_ ?_ ?_⟩
    · rw [us_some]
      have hmax2 : ¬ (9223372036854775807 < (n : Int)) := by omega
      simp [asInt_run, h0, hz, elemOf, hv.rund, hvar, hld, hn0, hmax2]
    · simp only [V]
      refine ⟨_, rfl, ?_⟩
      rw [bytesL_def]
      show (((#[] : Array UInt8) ++ L.toArray).toList.map UInt8.toNat) = bs
      simp only [L, Array.toList_append, List.nil_append, List.map_map]
      rw [List.map_congr_left (g := id)]
      · simp
      · intro m hm
        have : m < 256 := h256 m hm
        simp; omega
    · intro k hk
      unfold World.freeze
      split
      · rfl
      · simp [Array.getElem?_modify, Ne.symm hk]
    · unfold World.freeze; split <;> simp
    · unfold World.freeze; split <;> rfl
    · unfold World.freeze; split <;> rfl
    · unfold World.freeze; split <;> rfl
end
end Go.Dee
namespace Go.Dee
open Go

section
variable {P : Program} {tt : Trie TI} {F : Nat → Prop} {ρ : Ren} {w w' : World} {s : St}

theorem head1 {α : Type} {a : Array α} {t t2 : α} {u v : List α} (h : a.toList = t :: u) (h' : u = t2 :: v) : a[1]? = some t2 := by
  rw [← Array.getElem?_toList, h, h']; rfl

/-- a new block at the place that a block of F has left. -/
theorem Adv.adopt (hs : SRon tt F ρ s.h w) {b : Nat} {p q : Place} {x : ABlk} (hF : F b) (hl : liveIn s.h b) (hp : ρ b = some p) (hn : ρ s.n = none) (hlt : s.n < 65536)
    (hq : q.block = p.block) (hx : HB tt (ρ.upd s.n q) w' s.n x) (hw : ∀ k, k ≠ p.block → w'.heap[k]? = w.heap[k]?)
    (hsz : w.heap.size ≤ w'.heap.size) (hos : w'.os = w.os) (hout : w'.output = w.output) (htape : w'.tape = w.tape) :
    Adv tt F ρ s w (ρ.upd s.n q) ((s.setBlk b none).new x) w' := by
  have hbn : b ≠ s.n := fun e => by rw [← e, hp] at hn; cases hn
  have hget : ∀ c, c < 65536 → hget ((s.setBlk b none).new x).h c = if s.n = c then some x else if b = c then none else hget s.h c := by
    intro c hc
    have h1 : hget ((s.setBlk b none).new x).h c = if s.n = c then some x else hget (s.setBlk b none).h c := hget_hset _ s.n c (some x) hlt hc
    have h2 : hget (s.setBlk b none).h c = if b = c then none else hget s.h c := hget_hset s.h b c none hl.1 hc
    rw [h1, h2]
  have nn : ((s.setBlk b none).new x).n = s.n + 1 := rfl
  have new : ∀ c, (s.n ≤ c ∧ c < ((s.setBlk b none).new x).n) ↔ c = s.n := fun c => by rw [nn]; omega
  have le := Ren.le_upd (p := q) hn
  have old : ∀ c, c ≠ s.n → liveIn ((s.setBlk b none).new x).h c → liveIn s.h c ∧ c ≠ b := by
    intro c hc hlc
    have := hget c hlc.1
    rw [if_neg (Ne.symm hc)] at this
    by_cases e : b = c
    · rw [if_pos e] at this; exact absurd this hlc.2
    · rw [if_neg e] at this
      exact ⟨⟨hlc.1, by rw [← this]; exact hlc.2⟩, Ne.symm e⟩
  refine ⟨⟨?_, ?_, ?_⟩, le, ?_, by rw [nn]; exact Nat.le_succ _, ?_, ?_, ?_, hsz, hos, hout, htape⟩
  · intro c y hc hlt' hy
    rw [hget c hlt'] at hy
    by_cases e : s.n = c
    · rw [if_pos e] at hy; cases hy; exact e ▸ hx
    · rw [if_neg e] at hy
      by_cases eb : b = c
      · rw [if_pos eb] at hy; cases hy
      · rw [if_neg eb] at hy
        have hFc := hc.resolve_right fun h => e ((new c).1 h).symm
        refine (hs.heap c y hFc hlt' hy).mono le fun r hr => hw _ fun er => eb ?_
        exact (hs.inj c b r p hFc hF (live_of hlt' hy) hl hr hp er).symm
  · intro c d r r' hc hd hlc hld hr hr' e
    by_cases ec : c = s.n
    · by_cases ed : d = s.n
      · rw [ec, ed]
      · exfalso
        subst ec
        rw [Ren.upd_same] at hr; cases hr
        rw [Ren.upd_other ed] at hr'
        have hFd := hd.resolve_right fun h => ed ((new d).1 h)
        obtain ⟨hold, hdb⟩ := old d ed hld
        exact hdb (hs.inj d b r' p hFd hF hold hl hr' hp (by rw [← e, hq]))
    · rw [Ren.upd_other ec] at hr
      have hFc := hc.resolve_right fun h => ec ((new c).1 h)
      obtain ⟨hold, hcb⟩ := old c ec hlc
      by_cases ed : d = s.n
      · exfalso
        subst ed
        rw [Ren.upd_same] at hr'; cases hr'
        exact hcb (hs.inj c b r p hFc hF hold hl hr hp (by rw [e, hq]))
      · rw [Ren.upd_other ed] at hr'
        have hFd := hd.resolve_right fun h => ed ((new d).1 h)
        exact hs.inj c d r r' hFc hFd hold (old d ed hld).1 hr hr' e
  · intro c r hr
    by_cases ec : c = s.n
    · subst ec; exact hlt
    · rw [Ren.upd_other ec] at hr; exact hs.dom c r hr
  · intro c r hr
    by_cases ec : c = s.n
    · exact .inr ((new c).2 ec)
    · rw [Ren.upd_other ec] at hr; exact .inl hr
  · intro k _ hno
    exact hw k fun e => hno b p hF hl hp e.symm
  · intro c r hc hlc hr
    by_cases ec : c = s.n
    · subst ec
      rw [Ren.upd_same] at hr; cases hr
      exact .inr ⟨b, p, hF, hl, hp, hq.symm⟩
    · rw [Ren.upd_other ec] at hr
      have hFc := hc.resolve_right fun h => ec ((new c).1 h)
      exact .inr ⟨c, r, hFc, (old c ec hlc).1, hr, rfl⟩
  · intro c hlt' hFc hnc
    rw [hget c hlt', if_neg (fun e => hnc ((new c).2 e.symm)), if_neg (fun e => hFc (by rw [← e]; exact hF))]

/-- what an append of such a second argument comes to. -/
structure AppRun (P : Program) (w : World) (ats : Array TypeId) (ty e : TypeId) (size bytes : Nat) (z : Value) (x : Value) (n : Nat) (news : List Value) : Prop where
  room : ∀ (a : Addr) sLen sCap w', sLen + n ≤ sCap → (storeCells (a.add (sLen * size)) news).run P w = .ok () w' →
    (Builtin.append_ ats ty #[.slice (some a) sLen sCap, x]).run P w = .ok (.slice (some a) (sLen + n) sCap) w'
  grow : ∀ (base : Option Addr) sLen sCap (olds : List Value), (Builtin.firstCells size sLen (.slice base sLen sCap)).run P w.drew = .ok olds.toArray w.drew → sCap < sLen + n → sLen + n ≤ 1073741824 → (sLen + n) * bytes ≤ 1073741824 →
    (Builtin.append_ ats ty #[.slice base sLen sCap, x]).run P w = .ok (.slice (some ⟨w.heap.size, 0, none⟩) (sLen + n) (grownCap w (sLen + n) sCap e))
        (w.drew.alloc (.cells ((olds ++ news).toArray ++ Builtin.zeroCells z.cells (grownCap w (sLen + n) sCap e - (sLen + n))) e))

theorem isIntDesc_false {d : TypeDesc} (h : ∀ k, d ≠ .int k) : (match d with | .int _ => true | _ => false) = false := by
  cases d <;> first | exact absurd rfl (h _) | rfl

theorem appRun_src {ats : Array TypeId} {ty t tx e : TypeId} (h0 : ats[0]? = some t) (h1 : ats[1]? = some tx) (ht : P.underlying t = some (.slice e)) {dx : TypeDesc} (hx : P.underlying tx = some dx) (hdx : (∃ e', dx = .slice e') ∨ dx = .string)
    {i : TypeInfo} {z : Value} (hi : P.info? e = some i) (hz : i.zero = some z) {x : Value} {n : Nat} {news : List Value} (hlen : ∀ w' : World, (Builtin.lenOf x).run P w' = .ok n w')
    (hcells : ∀ w' : World, w'.heap = w.heap → (Builtin.firstCells i.size n x).run P w' = .ok news.toArray w') : AppRun P w ats ty e i.size i.bytes z x n news := by
  constructor
  · intro a sLen sCap w' hroom hst
    rcases hdx with ⟨e', rfl⟩ | rfl <;> simp [Builtin.append_, h0, h1, run_und ht, run_und hx, Go.sizeOf, typeInfo, hi, hlen, hroom, hcells w rfl, hst]
  · intro base sLen sCap olds hold hg hmax hby
    have hn : ¬ (sLen + n ≤ sCap) := by omega
    have h63' : ¬ (9223372036854775807 < ((sLen : Int) + (n : Int))) := by omega
    have h48' : ¬ (281474976710656 < Builtin.nextslicecap (sLen + n) sCap * i.bytes) := by
      have := growslice_fits (bytes := i.bytes) hg (by omega)
      omega
    rcases hdx with ⟨e', rfl⟩ | rfl <;>
      (simp [Builtin.append_, h0, h1, run_und ht, run_und hx, Go.sizeOf, typeInfo, zeroValue, hi, hz, hlen, hn, h63', h48', Question.forced, hcells w.drew rfl, hold, newRow, grownCap]
       congr 2
       apply Array.ext'
       simp [List.append_assoc])

theorem appRun_zeros {ats : Array TypeId} {ty t tx e : TypeId} (h0 : ats[0]? = some t) (h1 : ats[1]? = some tx) (ht : P.underlying t = some (.slice e)) {k' : IntKind} (hx : P.underlying tx = some (.int k'))
    {i : TypeInfo} {z : Value} (hi : P.info? e = some i) (hz : i.zero = some z) {k : IntKind} {n : Nat} (hn0 : n ≠ 0) (hs0 : i.size ≠ 0) (hn : n ≤ 1073741824) (hnb : n * i.bytes ≤ 1073741824) :
    AppRun P w ats ty e i.size i.bytes z (.int k (n : Int)) n (Builtin.zeroCells z.cells n).toList := by
  have hw : IntKind.i64.wrap (n : Int) = (n : Int) := wrap_s .i64 rfl 9223372036854775808 rfl rfl (by omega) (by omega)
  have hneg : ¬ ((n : Int) < 0) := by omega
  have hby : ¬ ((n : Int) * (i.bytes : Int) > 281474976710656) := by
    have : (n : Int) * (i.bytes : Int) = ((n * i.bytes : Nat) : Int) := by simp
    omega
  have hby' : ¬ (281474976710656 < (n : Int) * (i.bytes : Int)) := hby
  have hns : ¬ (n * i.size = 0) := Nat.mul_ne_zero hn0 hs0
  constructor
  · intro a sLen sCap w' hroom hst
    simp [Builtin.append_, h0, h1, run_und ht, run_und hx, Go.sizeOf, typeInfo, hi, asInt_run, hw, hneg, hby', hroom, zeroValue, hz, hst]
    intro h; exact absurd h hns
  · intro base sLen sCap olds hold hg hmax hbytes
    have hn' : ¬ (sLen + n ≤ sCap) := by omega
    have h63' : ¬ (9223372036854775807 < ((sLen : Int) + (n : Int))) := by omega
    have h48' : ¬ (281474976710656 < Builtin.nextslicecap (sLen + n) sCap * i.bytes) := by
      have := growslice_fits (bytes := i.bytes) hg (by omega)
      omega
    simp [Builtin.append_, h0, h1, run_und ht, run_und hx, Go.sizeOf, typeInfo, hi, asInt_run, hw, hneg, hby', zeroValue, hz, hn', h63', h48', Question.forced, hold, newRow, grownCap]
    rw [if_neg hns]
    congr 3
    apply Array.ext'
    simp [List.append_assoc]

/-- the new row of an append that grows. -/
theorem grow_adv {e : TypeId} {te : TI} {ie : TypeInfo} {de : TypeDesc} {ze : Value} (hte : tt.get e = some te) (hve : View P e te ie de ze) (hs : SRon tt F ρ s.h w) (hn : ρ s.n = none) (hlt : s.n < 65536)
    {g need cap : Nat} {c : List AV} {xs : List Value} (hc : Vs ρ c xs) (hlen : c.length = need * te.size) (hcap : need ≤ cap) (hg1 : 1 ≤ g) :
    Adv tt F ρ s w (ρ.upd s.n ⟨w.heap.size, 0, cap * te.size, te.size⟩) (s.new (.cells c e g)) (w.drew.alloc (.cells (xs.toArray ++ Builtin.zeroCells ze.cells (cap - need)) e)) := by
  have hsz : (xs.toArray ++ Builtin.zeroCells ze.cells (cap - need)).size = cap * te.size := by
    have h1 : xs.length = need * te.size := by rw [← hc.length, hlen]
    have h2 : (Builtin.zeroCells ze.cells (cap - need)).size = (cap - need) * te.size := by simp [Builtin.zeroCells, hve.zsize]
    rw [Array.size_append, h2, List.size_toArray, h1, ← Nat.add_mul]
    congr 1; omega
  refine new_row' hs hn hlt (g := g) (arr := xs.toArray ++ Builtin.zeroCells ze.cells (cap - need)) ?_ (.inl rfl) (fun _ => ⟨?_, by rw [hsz]; exact Nat.le_refl _, te, hte, rfl⟩) (fun h => absurd h (by omega)) rfl rfl rfl rfl
  · intro i a ha
    obtain ⟨v, hv, hr⟩ := hc.get ha
    have hi := (List.getElem?_eq_some_iff.1 hv).1
    refine ⟨v, ?_, hr⟩
    rw [Nat.zero_add, Array.getElem?_append_left (by simpa using hi)]
    simpa using hv
  · rw [hlen]; exact Nat.mul_le_mul_right _ hcap
theorem V.grown {n len : Nat} {q : Place} {cap : Nat} (hb : q.base = 0) (htop : q.top = cap * q.esz) (h1 : len ≤ cap) (h2 : cap ≤ 2 ^ 63) : V (ρ.upd n q) (.sl n 0 len none) (.slice (some ⟨q.block, 0, none⟩) len cap) := by
  simp only [V]
  exact ⟨q, _, cap, Ren.upd_same _ _ _, rfl, h1, h2, .inr (by rw [hb]), by rw [hb, htop]; simp⟩

/-- the cells of what is appended. -/
theorem newCells_ok (ht : TTok P tt) {ats : Array TypeId} {ty t tx : TypeId} {p : TypeId × TI} (h0 : ats[0]? = some t) (h1 : ats[1]? = some tx) {ti : TI} {i : TypeInfo} {z : Value} (hv : View P t ti i (.slice p.1) z)
    {ie : TypeInfo} {de : TypeDesc} {ze : Value} (hve : View P p.1 p.2 ie de ze) {yi : TI} (hyi : tt.get tx = some yi) {y : AV} {y' : Value} (hy : V ρ y y') (hsrc : srcOk yi y = true) {n : Nat} (hn : countV y = some n) (hn0 : n ≠ 0) (hs0 : 1 ≤ p.2.size)
    (hmax : n ≤ 1073741824) (hby : n * p.2.bytes ≤ 1073741824) {q : List AV × List Nat} (hq : newCells s p.2 n y = some q) (hF : ∀ b ∈ q.2, F b) (hs : SRon tt F ρ s.h w) :
    ∃ news, AppRun P w ats ty p.1 ie.size ie.bytes ze y' n news ∧ Vs ρ q.1 news := by
  obtain ⟨it, dt, zt, hvt⟩ := ht.view hyi
  have hb : ie.bytes = p.2.bytes := hve.bytes
  have hsz : ie.size = p.2.size := hve.size
  cases hint : isInt y with
  | true =>
    cases y <;> first | (cases hint; done) | skip
    rename_i k m
    cases m with
    | negSucc m => cases hn
    | ofNat m =>
      cases hn
      have hk : yi.isIntT = true := by
        unfold srcOk at hsrc
        rw [orB_eq, Bool.or_eq_true] at hsrc
        rcases hsrc with h | h
        · rw [andB_eq, Bool.and_eq_true] at h; exact h.1
        · cases h
      obtain ⟨k', hk'⟩ := isIntT_true hk
      have := hvt.int hk'; subst this
      have hq : some (repeatL p.2.zero.cells n, []) = some q := hq
      cases hq
      rw [hy.nat]
      exact ⟨_, appRun_zeros h0 h1 hv.und hvt.und hve.info hve.zero hn0 (by omega) hmax (by rw [hb]; exact hby), zero_rel hve n⟩
  | false =>
    have hq : sourceOf s p.2.size n y = some q := by unfold newCells at hq; rw [hint] at hq; exact hq
    have hlv : lenV y = some n := by
      cases y <;> first | (cases hint; done) | exact hn
    obtain ⟨xs, hxs, hfirst⟩ := source_ok (P := P) hq hy hlv (Nat.le_refl _) hF hs
    have hdx : (∃ e', dt = .slice e') ∨ dt = .string := by
      unfold srcOk at hsrc
      rw [orB_eq, Bool.or_eq_true] at hsrc
      rcases hsrc with h | h
      · rw [andB_eq, Bool.and_eq_true, hint] at h; cases h.2
      · cases y <;> first | (cases h; done) | skip
        · exact .inr (hvt.str (isStr_true h))
        · obtain ⟨e', he⟩ := isSliceT_true h; exact .inl ⟨e', hvt.slice he⟩
        · obtain ⟨e', he⟩ := isSliceT_true h; exact .inl ⟨e', hvt.slice he⟩
    exact ⟨xs, appRun_src h0 h1 hv.und hvt.und hdx hve.info hve.zero (fun w' => lenV_lenOf hy hlv) (fun w' hw' => by rw [hsz]; exact hfirst w' hw'), hxs⟩
end
end Go.Dee
namespace Go.Dee
open Go

section
variable {P : Program} {tt : Trie TI} {F : Nat → Prop} {ρ : Ren} {w : World} {s : St}

theorem append_nothing (ht : TTok P tt) {ats : Array TypeId} {ty t tx : TypeId} {p : TypeId × TI} (h0 : ats[0]? = some t) (h1 : ats[1]? = some tx) {i : TypeInfo} {z : Value} (hv : View P t p.2 i (.slice p.1) z ∨ P.underlying t = some (.slice p.1))
    {ie : TypeInfo} (hi : P.info? p.1 = some ie) {yi : TI} (hyi : tt.get tx = some yi) {y : AV} {y' : Value} (hy : V ρ y y') (hsrc : srcOk yi y = true) (hn : countV y = some 0) (base : Option Addr) {sLen sCap : Nat} (hle : sLen ≤ sCap) :
    (Builtin.append_ ats ty #[.slice base sLen sCap, y']).run P w = .ok (.slice base sLen sCap) w := by
  have hu : P.underlying t = some (.slice p.1) := hv.elim (·.und) id
  obtain ⟨it, dt, zt, hvt⟩ := ht.view hyi
  have zero0 : ∀ {y' : Value}, (Builtin.lenOf y').run P w = .ok 0 w → (Builtin.firstCells ie.size 0 y').run P w = .ok #[] w → ((∃ e', dt = .slice e') ∨ dt = .string) → (Builtin.append_ ats ty #[.slice base sLen sCap, y']).run P w = .ok (.slice base sLen sCap) w := by
    intro y' hl hf hd
    have hut := hvt.und
    rcases hd with ⟨e', rfl⟩ | rfl
    · cases base <;> simp [Builtin.append_, h0, h1, run_und hu, run_und hut, Go.sizeOf, typeInfo, hi, hl, hle, hf, storeCells]
    · cases base <;> simp [Builtin.append_, h0, h1, run_und hu, run_und hut, Go.sizeOf, typeInfo, hi, hl, hle, hf, storeCells]
  unfold srcOk at hsrc
  rw [orB_eq, Bool.or_eq_true] at hsrc
  rcases hsrc with h | h
  · rw [andB_eq, Bool.and_eq_true] at h
    obtain ⟨k', hk'⟩ := isIntT_true h.1
    have := hvt.int hk'; subst this
    cases y <;> first | (cases h.2; done) | skip
    rename_i k m
    cases m with
    | negSucc m => cases hn
    | ofNat m =>
      have hm : m = 0 := Option.some.inj hn
      subst hm
      rw [hy.nat]
      have hw : IntKind.i64.wrap 0 = 0 := rfl
      cases base <;> simp [Builtin.append_, h0, h1, run_und hu, run_und hvt.und, Go.sizeOf, typeInfo, hi, asInt_run, hw, hle, storeCells]
  · cases y <;> first | (cases h; done) | skip
    · obtain ⟨xs, rfl, rfl⟩ := hy.str
      have hs := hvt.str (isStr_true h)
      subst hs
      have hl : xs.size = 0 := by
        have : lenL (bytesL xs) = 0 := Option.some.inj hn
        rwa [lenL_eq, bytesL_length] at this
      exact zero0 (by simp [Builtin.lenOf, hl]) (by simp [Builtin.firstCells]) (.inr rfl)
    · obtain ⟨e', he⟩ := isSliceT_true h
      have := hvt.slice he; subst this
      rw [hy.nilsl]
      exact zero0 (by simp [Builtin.lenOf]) (by simp [Builtin.firstCells]) (.inl ⟨_, rfl⟩)
    · obtain ⟨e', he⟩ := isSliceT_true h
      have := hvt.slice he; subst this
      obtain ⟨a, c, rfl⟩ := hy.slSome
      have hl := Option.some.inj hn
      subst hl
      exact zero0 (by simp [Builtin.lenOf]) (run_firstCells_some w _ 0 a _ c [] (by simp) (by simp)) (.inl ⟨_, rfl⟩)

/-- the old cells of a slice that grows. -/
theorem old_ok (hs : SRon tt F ρ s.h w) {b o len size : Nat} {l : List AV} {p : Place} (hF : F b) (hp : ρ b = some p) (h : s.cells b o (len * size) = some l) {a : Addr} (ha : 0 < len → a = ⟨p.block, p.base + o, none⟩) (cap : Nat) :
    ∃ vs : List Value, Vs ρ l vs ∧ vs.length = len * size ∧ (Builtin.firstCells size len (.slice (some a) len cap)).run P w.drew = .ok vs.toArray w.drew := by
  obtain ⟨vs, hl, hvs, hc⟩ := read_cells hs hF hp h
  refine ⟨vs, hvs, hl, run_firstCells_some w.drew size len a len cap vs hl fun j v hv => ?_⟩
  have hj := (List.getElem?_eq_some_iff.1 hv).1
  have hpos : 0 < len := Nat.pos_of_ne_zero fun e => by subst e; rw [Nat.zero_mul] at hl; rw [hl] at hj; exact absurd hj (Nat.not_lt_zero _)
  rw [ha hpos]
  simpa using hc j v hv

theorem fits_true {size n : Nat} {new : List AV} (h : fits size n new = true) : (∀ v ∈ new, v.scalar = true) ∧ new.length = n * size := by
  unfold fits at h
  rw [andB_eq, Bool.and_eq_true] at h
  refine ⟨allScalar_iff.1 h.1, ?_⟩
  have := Nat.beq_eq.mp h.2
  rwa [lenL_eq] at this
theorem inRoom_true {te : TI} {n : Nat} (h : inRoom te n = true) : n * te.bytes ≤ 1073741824 ∧ n ≤ 1073741824 := by
  unfold inRoom at h
  rw [andB_eq, Bool.and_eq_true] at h
  exact ⟨Nat.ble_eq.mp h.1, Nat.ble_eq.mp h.2⟩

theorem cut_le {need old : Nat} (h : need ≤ 1073741824) (e : TypeId) : grownCap w need old e ≤ 2 ^ 63 := by
  have hlt := Nat.mod_lt (w.tape w.drawn (.appendCap need old e)) (show 0 < 2 ^ 63 - need by omega)
  simp only [grownCap, Question.cut]
  omega

theorem append_good (ht : TTok P tt) {ats : Array TypeId} {ty : TypeId} {args : Array Value} {l : List AV} (hl : Vs ρ l args.toList) :
    Good tt ρ w s ((do pure (Next.value (← Builtin.append_ ats ty args)) : Sem Next).run P w) (ty1 ats.toList fun t u => ty1 u fun t2 _ => args2 l fun x y => opAppend tt s t t2 x y) := by
  refine good_ty1 fun t u e => good_ty1 fun tx u2 e1 => good_args2 fun x y e2 => good_oElem fun p hp => good_oTI fun yi hyi => good_chk fun hsrc => good_oNat fun n hn => good_chk fun hok => ?_
  subst e2
  obtain ⟨x', y', rfl, hx, hy⟩ := arr2 hl
  have h0 := head0 e
  have h1 := head1 e e1
  obtain ⟨ti, i, z, ie, de, ze, _, hv, hte, hve⟩ := slice_view ht hp
  rw [andB_eq, Bool.and_eq_true] at hok
  have hsz1 : 1 ≤ p.2.size := Nat.ble_eq.mp hok.1
  have hnmax : n ≤ 1073741824 := Nat.ble_eq.mp hok.2
  have hb : ie.bytes = p.2.bytes := hve.bytes
  have hsz : ie.size = p.2.size := hve.size
  refine good_iff (fun hz => ?_) (fun hz => ?_)
  · have hz : n = 0 := Nat.beq_eq.mp hz
    subst hz
    have nothing := fun base sLen sCap hle => append_nothing (w := w) (ty := ty) (i := i) (z := z) ht h0 h1 (.inr hv.und) hve.info hyi hy hsrc hn base (sLen := sLen) (sCap := sCap) hle
    refine good_vSlE (fun e => ?_) (fun b o len cap e => good_chk fun hcap => ?_)
    · subst e
      rw [hx.nilsl]
      exact good_val (rv (nothing none 0 0 (Nat.le_refl _))) (by simp only [V])
    · subst e
      have hle : ∃ a c, x' = .slice (some a) len c ∧ len ≤ c := by
        cases cap with
        | some c =>
          simp only [V] at hx
          obtain ⟨q, _, rfl⟩ := hx
          exact ⟨_, c, rfl, Nat.ble_eq.mp hcap⟩
        | none =>
          simp only [V] at hx
          obtain ⟨q, a, c, _, rfl, h, _⟩ := hx
          exact ⟨a, c, rfl, h⟩
      obtain ⟨a, c, rfl, hle⟩ := hle
      exact good_val (rv (nothing (some a) len c hle)) hx
  · have hz : n ≠ 0 := fun e => by rw [e] at hz; cases hz
    refine good_vSlE (fun e => ?_) (fun b o len cap e => ?_)
    · subst e
      refine good_oSrc fun q hq => good_chk fun hok2 => ?_
      rw [andB_eq, Bool.and_eq_true] at hok2
      obtain ⟨hsc, hlen⟩ := fits_true hok2.1
      obtain ⟨hr1, hr2⟩ := inRoom_true hok2.2
      rw [hx.nilsl]
      intro hs hf hlt
      obtain ⟨news, hrun, hnews⟩ := newCells_ok (ty := ty) ht h0 h1 hv hve hyi hy hsrc hn hz hsz1 hnmax hr1 hq (fun b hb => hb) hs
      have hg := hrun.grow none 0 0 [] (run_firstCells_none w.drew _ 0 0 0) (by omega) (by omega) (by rw [Nat.zero_add, hb]; exact hr1)
      have hge := grownCap_ge w (0 + n) 0 p.1
      refine ⟨_, _, _, rv hg, ?_, grow_adv hte hve hs (free1 hf) (lt1 hlt) (g := 1) (need := 0 + n) hnews (by rw [hlen, Nat.zero_add]) hge (Nat.le_refl 1)⟩
      have := V.grown (ρ := ρ) (n := s.n) (len := 0 + n) (q := ⟨w.heap.size, 0, grownCap w (0 + n) 0 p.1 * p.2.size, p.2.size⟩) rfl rfl hge (cut_le (by omega) p.1)
      rw [Nat.zero_add] at this ⊢
      exact this
    · subst e
      refine good_oSrc fun q hq => good_chk fun hok2 => ?_
      rw [andB_eq, Bool.and_eq_true] at hok2
      obtain ⟨hsc, hlen⟩ := fits_true hok2.1
      obtain ⟨hr1, hr2⟩ := inRoom_true hok2.2
      have hr1 : (len + n) * p.2.bytes ≤ 1073741824 := hr1
      have hr2 : len + n ≤ 1073741824 := hr2
      have hnb : n * p.2.bytes ≤ 1073741824 := Nat.le_trans (Nat.mul_le_mul_right _ (Nat.le_add_left n len)) hr1
      have src : SRon tt (· ∈ b :: q.2) ρ s.h w → ∃ news, AppRun P w ats ty p.1 ie.size ie.bytes ze y' n news ∧ Vs ρ q.1 news := fun hs =>
        newCells_ok (ty := ty) ht h0 h1 hv hve hyi hy hsrc hn hz hsz1 hnmax hnb hq (fun b hb => List.mem_cons_of_mem _ hb) hs
      cases cap with
      | some c =>
        have hx0 := hx
        simp only [V] at hx
        obtain ⟨pl, hpl, rfl⟩ := hx
        refine good_iff (fun hroom => good_oSt fun s' hs' => ?_) (fun hroom => good_oCells fun old hold => ?_)
        · have hroom : len + n ≤ c := Nat.ble_eq.mp hroom
          intro hs _ _
          obtain ⟨news, hrun, hnews⟩ := src hs
          obtain ⟨w', hst, hadv⟩ := write_any (P := P) hs (F := (· ∈ b :: q.2)) (by simp) hpl hnews hs' (a := (⟨pl.block, pl.base + o, none⟩ : Addr).add (len * ie.size)) (fun _ => by rw [addr_add, hsz, Nat.add_assoc]; rfl)
          refine ⟨_, w', ρ, rv (hrun.room _ _ _ _ hroom hst), ?_, hadv⟩
          simp only [V]; exact ⟨pl, hpl, rfl⟩
        · have hroom : c < len + n := by
            rw [ble_eq'] at hroom
            simpa using hroom
          intro hs hf hlt
          obtain ⟨news, hrun, hnews⟩ := src hs
          obtain ⟨vs, hvs, hvl, hfirst⟩ := old_ok (P := P) hs (F := (· ∈ b :: q.2)) (by simp) hpl hold (a := ⟨pl.block, pl.base + o, none⟩) (fun _ => rfl) c
          have hg := hrun.grow (some ⟨pl.block, pl.base + o, none⟩) len c vs (by rw [hsz]; exact hfirst) hroom hr2 (by rw [hb]; exact hr1)
          have hge := grownCap_ge w (len + n) c p.1
          refine ⟨_, _, _, rv hg, V.grown (q := ⟨w.heap.size, 0, grownCap w (len + n) c p.1 * p.2.size, p.2.size⟩) rfl rfl hge (cut_le hr2 p.1), grow_adv hte hve hs (free1 hf) (lt1 hlt) (g := 1) (need := len + n) (by rw [appL_eq]; exact hvs.append hnews) (by rw [appL_eq, List.length_append, hvs.length, hvl, hlen, Nat.add_mul]) hge (Nat.le_refl 1)⟩
      | none =>
        have hx0 := hx
        simp only [V] at hx
        obtain ⟨pl, a, c, hpl, rfl, hlc, h63, hcase, htop⟩ := hx
        refine good_withRow fun cs t' g hblk => good_chk fun htg => ?_
        rw [andB_eq, Bool.and_eq_true] at htg
        have ht' : t' = p.1 := Nat.beq_eq.mp htg.1
        have hg1 : 1 ≤ g := Nat.ble_eq.mp htg.2
        subst ht'
        -- what the row's place says
        have place : SRon tt (· ∈ b :: q.2) ρ s.h w → ∃ arr fz, w.heap[pl.block]? = some (.cells arr p.1 fz) ∧ cellsRel ρ cs arr pl.base ∧ (fz = (0, 0) ∨ (g = 2 ∧ arr.size ≤ fz.1)) ∧ pl.base + cs.length ≤ pl.top ∧ pl.top ≤ arr.size ∧ pl.esz = p.2.size := by
          intro hs
          obtain ⟨q', arr, fz, hq', hw, hc, hz', _, hgrow⟩ := hs.heap b _ (by simp) (hs.dom b pl hpl) hblk
          rw [hpl] at hq'; cases hq'
          obtain ⟨a1, a2, ti', hti', a3⟩ := hgrow hg1
          rw [hte] at hti'; cases hti'
          exact ⟨arr, fz, hw, hc, hz', a1, a2, a3⟩
        refine good_iff (fun hroom => good_oSt fun s' hs' => ?_) (fun hroom => good_oCells fun old hold => ?_)
        · have hroom : o + (len + n) * p.2.size ≤ cs.length := by have := Nat.ble_eq.mp hroom; rwa [lenL_eq] at this
          intro hs _ _
          obtain ⟨arr, fz, hw, hc, hz', a1, a2, a3⟩ := place hs
          obtain ⟨news, hrun, hnews⟩ := src hs
          have hneed : len + n ≤ c := by
            rw [a3] at htop
            have : (len + n) * p.2.size ≤ c * p.2.size := by omega
            exact Nat.le_of_mul_le_mul_right this (by omega)
          have ha : a = ⟨pl.block, pl.base + o, none⟩ := by
            rcases hcase with rfl | h
            · omega
            · exact h
          subst ha
          obtain ⟨w', hst, hadv⟩ := write_any (P := P) hs (F := (· ∈ b :: q.2)) (by simp) hpl hnews hs' (a := (⟨pl.block, pl.base + o, none⟩ : Addr).add (len * ie.size)) (fun _ => by rw [addr_add, hsz, Nat.add_assoc]; rfl)
          refine ⟨_, w', ρ, rv (hrun.room _ _ _ _ hneed hst), ?_, hadv⟩
          simp only [V]; exact ⟨pl, _, c, hpl, rfl, hneed, h63, .inr rfl, htop⟩
        · have hold' : s.cells b o (len * p.2.size) = some old := by
            unfold St.cells
            rw [hblk]; exact hold
          intro hs hf hlt
          obtain ⟨arr, fz, hw, hc, hz', a1, a2, a3⟩ := place hs
          obtain ⟨news, hrun, hnews⟩ := src hs
          have ha0 : 0 < len → a = ⟨pl.block, pl.base + o, none⟩ := fun h => by
            rcases hcase with rfl | h
            · omega
            · exact h
          have hblt := hs.dom b pl hpl
          have hlive := live_of hblt hblk
          by_cases hneed : len + n ≤ c
          · -- there was room behind what is known of the row
            have ha : a = ⟨pl.block, pl.base + o, none⟩ := by
              rcases hcase with rfl | h
              · omega
              · exact h
            subst ha
            obtain ⟨hfit, hold2⟩ := cellsAt_some (show cellsAt cs o (len * p.2.size) = some old from hold)
            have hol : old.length = len * p.2.size := by rw [hold2]; simp; omega
            have hnl : news.length = n * p.2.size := by rw [← hnews.length, hlen]
            have hcm : (len + n) * p.2.size ≤ c * p.2.size := Nat.mul_le_mul_right _ hneed
            rw [Nat.add_mul] at hcm
            rw [a3] at htop
            have hin : pl.base + o + len * p.2.size + 0 + news.length ≤ arr.size := by omega
            have hst := run_storeCells_row (P := P) pl.block (pl.base + o + len * p.2.size) p.1 fz news 0 arr w hw (hz'.imp id (·.2)) hin (hnews.scalars hsc)
            have hadd : (⟨pl.block, pl.base + o, none⟩ : Addr).add (len * ie.size) = ⟨pl.block, pl.base + o + len * p.2.size, none⟩ := by rw [addr_add, hsz]
            have hst' := hst
            rw [← hadd] at hst'
            have hsize : (arr.toList.take (pl.base + o + len * p.2.size + 0) ++ news ++ arr.toList.drop (pl.base + o + len * p.2.size + 0 + news.length)).toArray.size = arr.size := by
              simp; omega
            refine ⟨_, _, ρ.upd s.n ⟨pl.block, pl.base + o, pl.top, pl.esz⟩, rv (hrun.room _ _ _ _ hneed hst'), ?_,
              Adv.adopt hs (F := (· ∈ b :: q.2)) (by simp) hlive hpl (free1 (s := s.setBlk b none) hf) (lt1 (s := s.setBlk b none) hlt) rfl ?_ (fun k hk => setRow_other w pl.block k _ hk) (by simp) rfl rfl rfl⟩
            · simp only [V]
              exact ⟨_, _, c, Ren.upd_same _ _ _, rfl, hneed, h63, .inr rfl, by rw [a3]; exact htop⟩
            · refine ⟨_, _, fz, Ren.upd_same _ _ _, setRow_heap w pl.block arr _ p.1 fz hw, ?_, ?_, fun h => absurd h (by omega), fun _ => ⟨?_, ?_, p.2, hte, a3⟩⟩
              · refine cellsRel.mono (Ren.le_upd (free1 (s := s.setBlk b none) hf)) ?_
                intro i v hi
                rw [appL_eq] at hi
                rw [List.getElem?_toArray]
                dsimp only
                by_cases hlt2 : i < old.length
                · have hi1 : i < len * p.2.size := hol ▸ hlt2
                  rw [List.getElem?_append_left hlt2, hold2, List.getElem?_take, if_pos hi1, List.getElem?_drop] at hi
                  obtain ⟨u, hu, hr⟩ := hc _ v hi
                  refine ⟨u, ?_, hr⟩
                  have hul := (Array.getElem?_eq_some_iff.1 hu).1
                  rw [List.append_assoc, List.getElem?_append_left (by simp; omega), List.getElem?_take, if_pos (by omega), Array.getElem?_toList, ← hu]
                  congr 1; omega
                · rw [List.getElem?_append_right (by omega)] at hi
                  obtain ⟨u, hu, hr⟩ := hnews.get hi
                  have hul := (List.getElem?_eq_some_iff.1 hu).1
                  refine ⟨u, ?_, hr⟩
                  have htl : (arr.toList.take (pl.base + o + len * p.2.size + 0)).length = pl.base + o + len * p.2.size := by simp; omega
                  rw [List.append_assoc, List.getElem?_append_right (by omega), htl, List.getElem?_append_left (by omega), ← hu]
                  congr 1; omega
              · rcases hz' with h | ⟨h, h'⟩
                · exact .inl h
                · exact .inr ⟨h, by rw [hsize]; exact h'⟩
              · rw [appL_eq, List.length_append, hol, hlen]
                show pl.base + o + (len * p.2.size + n * p.2.size) ≤ pl.top
                omega
              · rw [hsize]; exact a2
          · obtain ⟨vs, hvs, hvl, hfirst⟩ := old_ok (P := P) hs (F := (· ∈ b :: q.2)) (by simp) hpl hold' ha0 c
            have hg := hrun.grow (some a) len c vs (by rw [hsz]; exact hfirst) (by omega) hr2 (by rw [hb]; exact hr1)
            have hge := grownCap_ge w (len + n) c p.1
            have hput : Adv tt (· ∈ b :: q.2) ρ s w ρ (s.setBlk b none) w := Adv.put hs (by simp) hlive hpl (fun _ h => by cases h) (fun _ _ => rfl) (Nat.le_refl _) rfl rfl rfl
            have hs2 : SRon tt (· ∈ b :: q.2) ρ (s.setBlk b none).h w := hput.sr.sub fun b h => .inl h
            have hgr := grow_adv hte hve hs2 (free1 (s := s.setBlk b none) hf) (lt1 (s := s.setBlk b none) hlt) (g := g) (need := len + n) (c := appL old q.1) (by rw [appL_eq]; exact hvs.append hnews) (by rw [appL_eq, List.length_append, hvs.length, hvl, hlen, Nat.add_mul]) hge hg1
            exact ⟨_, _, _, rv hg, V.grown (q := ⟨w.heap.size, 0, grownCap w (len + n) c p.1 * p.2.size, p.2.size⟩) rfl rfl hge (cut_le hr2 p.1), hput.trans (fun b h => .inl h) hgr⟩
end
end Go.Dee
