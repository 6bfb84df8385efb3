/- What a program's functions lead to, by a table; this program's table. Part of the proof that LowerTests returns true for every input that reads as data, its listed variables laid as the text lays them. -/
import GoSem.ClaimSeven
import Derived.Test.YtooclgjcffpcgaaGreatDoorProg
import Derived.KernelRfl
/- What a program's functions lead to, by a table. Plain law. -/
namespace Go.Tab
/-- the list's place n, or d. -/
noncomputable def nth {α : Type} (d : α) (l : List α) : Nat → α :=
  List.rec (fun _ => d) (fun a _ ih n => Nat.rec a (fun m _ => ih m) n) l
theorem nth_nil {α : Type} (d : α) (n : Nat) : nth d [] n = d := rfl
theorem nth_zero {α : Type} (d a : α) (l : List α) : nth d (a :: l) 0 = a := rfl
theorem nth_succ {α : Type} (d a : α) (l : List α) (n : Nat) : nth d (a :: l) (n + 1) = nth d l n := rfl
theorem nth_getD {α : Type} (d : α) : ∀ (l : List α) (n : Nat), nth d l n = (l[n]?).getD d
  | [], n => by simp [nth_nil]
  | a :: l, 0 => by simp [nth_zero]
  | a :: l, n + 1 => by rw [nth_succ, nth_getD d l n]; simp
/-- every row but the last is of length c. -/
def rowsB {α : Type} (c : Nat) : List (List α) → Bool
  | [] => true
  | [r] => r.length ≤ c
  | r :: q :: T => r.length == c && rowsB c (q :: T)
noncomputable def nth2 {α : Type} (c : Nat) (d : α) (T : List (List α)) (f : Nat) : α := nth d (nth [] T (f / c)) (f % c)
theorem nth2_flatten {α : Type} (c : Nat) (hc : 0 < c) (d : α) : ∀ (T : List (List α)), rowsB c T = true → ∀ f, nth2 c d T f = (T.flatten[f]?).getD d
  | [], _, f => by simp [nth2, nth_nil]
  | [r], h, f => by
    have h' : r.length ≤ c := by simpa [rowsB] using h
    simp only [List.flatten_cons, List.flatten_nil, List.append_nil, nth2]
    by_cases hf : f < c
    · rw [Nat.div_eq_of_lt hf, Nat.mod_eq_of_lt hf, nth_zero, nth_getD]
    · have h1 : f / c = (f - c) / c + 1 := by
        rw [Nat.div_eq_sub_div hc (by omega)]
      rw [h1, nth_succ, nth_nil, nth_nil, List.getElem?_eq_none (by omega)]
      rfl
  | r :: q :: T, h, f => by
    simp only [rowsB, Bool.and_eq_true, beq_iff_eq] at h
    have ih := nth2_flatten c hc d (q :: T) h.2
    rw [List.flatten_cons]
    by_cases hf : f < c
    · rw [nth2, Nat.div_eq_of_lt hf, Nat.mod_eq_of_lt hf, nth_zero, nth_getD, List.getElem?_append_left (by omega)]
    · have h1 : f / c = (f - c) / c + 1 := by
        rw [Nat.div_eq_sub_div hc (by omega)]
      have h2 : f % c = (f - c) % c := by
        rw [Nat.mod_eq_sub_mod (by omega)]
      rw [nth2, h1, h2, nth_succ, List.getElem?_append_right (by omega), h.1]
      exact ih (f - c)
/-- the walk along a table, what has been seen as a number's bits. -/
noncomputable def visit (tbl : Nat → List Nat) (n : Nat) : List Nat → Nat → List Nat → List Nat :=
  Nat.rec (fun _ _ seen => seen.reverse) (fun _ ih todo m seen =>
    List.rec seen.reverse (fun f rest _ => Bool.rec (ih (tbl f ++ rest) (Nat.lor m (Nat.pow 2 f)) (f :: seen)) (ih rest m seen) (Nat.beq (Nat.land (Nat.shiftRight m f) 1) 1)) todo) n
theorem visit_zero (tbl : Nat → List Nat) (todo : List Nat) (m : Nat) (seen : List Nat) : visit tbl 0 todo m seen = seen.reverse := rfl
theorem visit_nil (tbl : Nat → List Nat) (n m : Nat) (seen : List Nat) : visit tbl (n + 1) [] m seen = seen.reverse := rfl
theorem bit (m f : Nat) : Nat.beq (Nat.land (Nat.shiftRight m f) 1) 1 = m.testBit f := by
  have h : Nat.land (Nat.shiftRight m f) 1 = m / 2 ^ f % 2 := by
    show (m >>> f) &&& 1 = _
    rw [Nat.and_one_is_mod, Nat.shiftRight_eq_div_pow]
  rw [h, Nat.testBit_eq_decide_div_mod_eq, Bool.eq_iff_iff]
  simp
theorem visit_cons (tbl : Nat → List Nat) (n m f : Nat) (rest seen : List Nat) : visit tbl (n + 1) (f :: rest) m seen =
    if m.testBit f then visit tbl n rest m seen else visit tbl n (tbl f ++ rest) (m ||| 2 ^ f) (f :: seen) := by
  rw [← bit]
  show (Bool.rec (visit tbl n (tbl f ++ rest) (m ||| 2 ^ f) (f :: seen)) (visit tbl n rest m seen) (Nat.beq (Nat.land (Nat.shiftRight m f) 1) 1) : List Nat) = _
  cases Nat.beq (Nat.land (Nat.shiftRight m f) 1) 1 <;> rfl
theorem via {P : Program} {tbl : Nat → List Nat} (h : ∀ f, (P.funcs[f]?).elim [] P.leadsTo = tbl f) : ∀ (n : Nat) (todo : List Nat) (m : Nat) (seen : List Nat), (∀ i, m.testBit i = seen.contains i) →
    P.closureVia n todo seen = visit tbl n todo m seen
  | 0, todo, m, seen, _ => by rw [visit_zero]; unfold Program.closureVia; rfl
  | n + 1, [], m, seen, _ => by rw [visit_nil]; unfold Program.closureVia; rfl
  | n + 1, f :: rest, m, seen, hm => by
    rw [visit_cons, Program.closureVia, hm f, h f]
    by_cases hs : seen.contains f = true
    · rw [if_pos hs, if_pos hs]
      exact via h n rest m seen hm
    · rw [if_neg hs, if_neg hs]
      refine via h n _ _ _ fun i => ?_
      rw [Nat.testBit_or, Nat.testBit_two_pow, hm i, List.contains_cons, Bool.or_comm]
      congr 1
      rw [Bool.eq_iff_iff, decide_eq_true_eq, beq_iff_eq]
      exact eq_comm
/-- what is wanted of a function. -/
structure Info where
  leads : List Nat
  place : Option String
  globs : List Nat
  reads : Option String
def info (P : Program) (fn : Func) : Info :=
  ⟨P.leadsTo fn, if fn.ours || fn.body.isNone || fn.name == "runtime.NumGoroutine" then some fn.name else none, fn.body.elim [] Code.globalsNamed, if fn.body.isNone then entryReads.lookup fn.name else none⟩
def dflt : Info := ⟨[], none, [], none⟩
section
variable {P : Program} {c : Nat} {FL : List (List Func)} {T : List (List Info)}
theorem at_table (hc : 0 < c) (hF : P.funcs.toList = FL.flatten) (hT : FL.map (·.map (info P)) = T) (hr : rowsB c T = true) (f : Nat) : nth2 c dflt T f = ((P.funcs[f]?).map (info P)).getD dflt := by
  rw [nth2_flatten c hc dflt T hr, ← hT, ← List.map_flatten, ← hF, List.getElem?_map, Array.getElem?_toList]
theorem leads_table (hc : 0 < c) (hF : P.funcs.toList = FL.flatten) (hT : FL.map (·.map (info P)) = T) (hr : rowsB c T = true) (f : Nat) : (P.funcs[f]?).elim [] P.leadsTo = (nth2 c dflt T f).leads := by
  rw [at_table hc hF hT hr f]
  cases P.funcs[f]? <;> rfl
theorem closure_table (hc : 0 < c) (hF : P.funcs.toList = FL.flatten) (hT : FL.map (·.map (info P)) = T) (hr : rowsB c T = true) {N : Nat} (hN : 1 + (T.flatten.map fun x => x.leads.length + 1).sum = N) {f : Nat} {L : List Nat}
    (hL : visit (fun f => (nth2 c dflt T f).leads) N [f] 0 [] = L) : P.closure f = L := by
  unfold Program.closure
  have e : (P.funcs.toList.map fun g => (P.leadsTo g).length + 1) = T.flatten.map fun x => x.leads.length + 1 := by
    rw [hF, ← hT, ← List.map_flatten, List.map_map]
    rfl
  rw [e, hN, via (leads_table hc hF hT hr) N [f] 0 [] (fun i => by simp), hL]
theorem inPlace_table (hc : 0 < c) (hF : P.funcs.toList = FL.flatten) (hT : FL.map (·.map (info P)) = T) (hr : rowsB c T = true) {f : Nat} {L : List Nat} (hL : P.closure f = L) {R : List String}
    (hR : (L.filterMap fun g => (nth2 c dflt T g).place) = R) : P.inPlace f = R := by
  unfold Program.inPlace
  rw [hL, ← hR]
  congr 1
  funext g
  rw [at_table hc hF hT hr g]
  cases P.funcs[g]? <;> rfl
theorem named_table (hc : 0 < c) (hF : P.funcs.toList = FL.flatten) (hT : FL.map (·.map (info P)) = T) (hr : rowsB c T = true) {f : Nat} {L : List Nat} (hL : P.closure f = L) {G : List Nat} {S R : List String}
    (hG : (L.flatMap fun g => (nth2 c dflt T g).globs).eraseDups = G) (hS : (L.filterMap fun g => (nth2 c dflt T g).reads) = S)
    (hR : (G.filterMap (fun g => (P.globals[g]?).map (·.name)) ++ S).eraseDups = R) : P.varsNamed f = R := by
  unfold Program.varsNamed
  rw [hL, ← hR, ← hG, ← hS]
  have e1 : (fun g => ((P.funcs[g]?).bind (·.body)).elim [] Code.globalsNamed) = fun g => (nth2 c dflt T g).globs := by
    funext g
    rw [at_table hc hF hT hr g]
    cases P.funcs[g]? <;> rfl
  have e2 : (fun g => (P.funcs[g]?).bind fun fn => if fn.body.isNone then entryReads.lookup fn.name else none) = fun g => (nth2 c dflt T g).reads := by
    funext g
    rw [at_table hc hF hT hr g]
    cases P.funcs[g]? <;> rfl
  rw [e1, e2]
theorem unfollowed_at {f g : Nat} {L : List Nat} (hL : P.closure f = L) (hg : g ∈ L) {fn : Func} {b : Code} (h1 : P.funcs[g]? = some fn) (h2 : fn.body = some b) (h3 : b.unfollowed = true) : P.unfollowed f = true := by
  unfold Program.unfollowed
  rw [hL, List.any_eq_true]
  exact ⟨g, hg, by rw [h1]; simp [h2, h3]⟩
theorem recurses_of {f : Nat} (h : P.unfollowed f = true) : P.recurses f = true := by
  unfold Program.recurses
  rw [h, Bool.true_or]
theorem goes_of {name : String} {f : Nat} (hn : P.funcNamed name = some f) (h : P.funcs.any Func.goes = false) : P.goesAt .entering name = false := by
  have h' := h
  rw [← Array.any_toList, List.any_eq_false] at h'
  simp only [Program.goesAt, Program.goesFrom, hn, Option.any_some, Bool.or_false, Program.goes, h, Bool.and_false]
  rw [List.any_eq_false]
  intro g _
  cases hg : P.funcs[g]? with
  | none => simp
  | some fn =>
    have := h' fn (by rw [Array.mem_toList_iff]; exact Array.mem_of_getElem? hg)
    simpa using this
theorem looks_of {g : Nat} {fn : Func} {b : Code} (h1 : P.funcs[g]? = some fn) (h2 : fn.body = some b) (h3 : b.looks P = true) : P.looks [] = true := by
  unfold Program.looks
  rw [List.any_eq_true]
  refine ⟨g, List.mem_range.2 (Array.getElem?_eq_some_iff.1 h1).1, ?_⟩
  rw [h1]
  simp [h2, h3]
end
end Go.Tab
namespace Go.Tab
theorem range_all {p : Nat → Bool} {a m n : Nat} (h1 : (List.range' a m).all p = true) (h2 : (List.range' (a + m) n).all p = true) : (List.range' a (m + n)).all p = true := by
  have e : List.range' a (m + n) = List.range' a m ++ List.range' (a + m) n := by
    have := List.range'_append (s := a) (m := m) (n := n) (step := 1)
    rw [Nat.one_mul] at this
    exact this.symm
  rw [e, List.all_append, h1, h2]
  rfl
theorem range_from {p : Nat → Bool} {n : Nat} (h : (List.range' 0 n).all p = true) : (List.range n).all p = true := by
  rw [List.range_eq_range']
  exact h
theorem laidOut_of {P : Program} {n : Nat} {fs : List Func} (hn : P.types.size = n) (hf : P.funcs.toList = fs) (h1 : (List.range' 0 n).all (rowFine P) = true) (h2 : P.globals.toList.all (fun g => decide (g.type < n)) = true)
    (h3 : fs.all (fun f => f.params.toList.all fun t => decide (t < n)) = true) : laidOutB P = true := by
  unfold laidOutB
  rw [← Array.all_toList, ← Array.all_toList, hf, hn, range_from h1, h2]
  have e : (fun (f : Func) => f.params.all fun t => decide (t < n)) = fun f => f.params.toList.all fun t => decide (t < n) := by
    funext f
    rw [Array.all_toList]
  rw [e, h3]
  rfl
end Go.Tab
namespace Go.Tab
/-- the places of a list at which a test says yes. -/
def posOf {α : Type} (p : α → Bool) : Nat → List α → List Nat
  | _, [] => []
  | k, a :: l => if p a then k :: posOf p (k + 1) l else posOf p (k + 1) l
theorem posOf_range {α : Type} (p : α → Bool) : ∀ (l : List α) (k : Nat), (List.range' k l.length).filter (fun i => (l[i - k]?).any p) = posOf p k l
  | [], _ => rfl
  | a :: l, k => by
    have ih := posOf_range p l (k + 1)
    rw [List.length_cons, List.range'_succ, List.filter_cons, Nat.sub_self, List.getElem?_cons_zero, Option.any_some, posOf]
    have e : (List.range' (k + 1) l.length).filter (fun i => ((a :: l)[i - k]?).any p) = (List.range' (k + 1) l.length).filter (fun i => (l[i - (k + 1)]?).any p) := by
      refine List.filter_congr fun i hi => ?_
      have h1 : k + 1 ≤ i := (List.mem_range'_1.1 hi).1
      obtain ⟨j, rfl⟩ : ∃ j, i = k + 1 + j := ⟨i - (k + 1), by omega⟩
      have h2 : k + 1 + j - k = j + 1 := by omega
      have h3 : k + 1 + j - (k + 1) = j := by omega
      rw [h2, h3, List.getElem?_cons_succ]
    rw [e, ih]
theorem funcNamed_of {P : Program} {fs : List Func} {name : String} {g : Nat} (hf : P.funcs.toList = fs) (h : posOf (fun fn => fn.name == name) 0 fs = [g]) : P.funcNamed name = some g := by
  have e : ((List.range P.funcs.size).filter fun i => (P.funcs[i]?).any (·.name == name)) = [g] := by
    rw [← h, ← posOf_range, List.range_eq_range', ← hf, Array.length_toList]
    refine List.filter_congr fun i _ => ?_
    rw [Nat.sub_zero, Array.getElem?_toList]
  unfold Program.funcNamed
  rw [e]
theorem worded_of {P : Program} {fs : List Func} {word : String} {b : Bool} (hf : P.funcs.toList = fs) (h : fs.any (fun fn => fn.body.isNone && fn.name == word) = b) : P.worded word = b := by
  unfold Program.worded
  rw [← Array.any_toList, hf, h]
end Go.Tab
/- What each function leads to. Printed by a program. -/
namespace Go.Proofs.LowF
open Go Go.Tab
set_option maxRecDepth 100000
noncomputable def fl0 : List Func := [Tryz.f0, Tryz.f1, Tryz.f2, Tryz.f3, Tryz.f4, Tryz.f5, Tryz.f6, Tryz.f7, Tryz.f8, Tryz.f9, Tryz.f10, Tryz.f11, Tryz.f12, Tryz.f13, Tryz.f14, Tryz.f15, Tryz.f16, Tryz.f17, Tryz.f18, Tryz.f19, Tryz.f20, Tryz.f21, Tryz.f22, Tryz.f23, Tryz.f24, Tryz.f25, Tryz.f26, Tryz.f27]
noncomputable def ti0 : List Info := [⟨[], (some "main.main"), [], none⟩, ⟨[], (some "gosem.cut"), [], none⟩, ⟨[1], none, [], none⟩, ⟨[4, 5, 6, 7], none, [], none⟩, ⟨[8, 8], none, [], none⟩, ⟨[5], none, [], none⟩, ⟨[9, 10, 6], none, [], none⟩, ⟨[11, 12, 7], none, [], none⟩, ⟨[13, 14, 15, 17, 16], none, [], none⟩, ⟨[18, 18], none, [], none⟩, ⟨[19], none, [], none⟩, ⟨[20], none, [], none⟩, ⟨[], none, [], none⟩, ⟨[21, 22, 24, 23, 25, 26, 26, 26, 25], none, [], none⟩, ⟨[27, 28, 29, 30], none, [], none⟩, ⟨[15, 31, 31, 10, 32], none, [], none⟩, ⟨[33, 34, 16], none, [], none⟩, ⟨[35, 36, 34, 17, 37], none, [], none⟩, ⟨[38, 39, 39, 39], none, [], none⟩, ⟨[40], none, [], none⟩, ⟨[], none, [], none⟩, ⟨[41, 42, 24, 43], none, [], none⟩, ⟨[], none, [], none⟩, ⟨[], none, [], none⟩, ⟨[44], none, [], none⟩, ⟨[45, 45, 45, 45, 34, 25], none, [], none⟩, ⟨[], none, [], none⟩, ⟨[46, 47, 48, 49, 50, 51, 51, 51, 27], none, [], none⟩]
noncomputable def fl1 : List Func := [Tryz.f28, Tryz.f29, Tryz.f30, Tryz.f31, Tryz.f32, Tryz.f33, Tryz.f34, Tryz.f35, Tryz.f36, Tryz.f37, Tryz.f38, Tryz.f39, Tryz.f40, Tryz.f41, Tryz.f42, Tryz.f43, Tryz.f44, Tryz.f45, Tryz.f46, Tryz.f47, Tryz.f48, Tryz.f49, Tryz.f50, Tryz.f51, Tryz.f52, Tryz.f53, Tryz.f54, Tryz.f55]
noncomputable def ti1 : List Info := [⟨[28], none, [], none⟩, ⟨[], none, [], none⟩, ⟨[34, 30, 52, 55, 54, 53, 55, 52, 53], none, [], none⟩, ⟨[32], none, [], none⟩, ⟨[], none, [], none⟩, ⟨[], none, [], none⟩, ⟨[], none, [], none⟩, ⟨[37, 56, 17, 17, 57, 17], none, [], none⟩, ⟨[9, 10], none, [], none⟩, ⟨[37], none, [], none⟩, ⟨[39], none, [], none⟩, ⟨[58], none, [], none⟩, ⟨[], none, [], none⟩, ⟨[27, 59, 61, 62], none, [], none⟩, ⟨[63, 64, 65, 66, 67], none, [], none⟩, ⟨[68, 22, 69, 22, 69, 23, 70, 71, 23, 70, 23, 72, 70, 23, 70, 73, 74, 75, 76, 77, 78, 79, 80, 81, 82, 83], none, [], none⟩, ⟨[42, 84, 45], none, [], none⟩, ⟨[85, 34, 86, 87, 45, 34, 88, 89, 45, 45], none, [], none⟩, ⟨[], none, [], none⟩, ⟨[90, 39], none, [], none⟩, ⟨[91, 92], none, [], none⟩, ⟨[49], none, [], none⟩, ⟨[93, 47], none, [], none⟩, ⟨[94], none, [], none⟩, ⟨[55, 55, 55, 55, 54], none, [], none⟩, ⟨[55], none, [], none⟩, ⟨[55, 55, 55, 55], none, [], none⟩, ⟨[], none, [], none⟩]
noncomputable def fl2 : List Func := [Tryz.f56, Tryz.f57, Tryz.f58, Tryz.f59, Tryz.f60, Tryz.f61, Tryz.f62, Tryz.f63, Tryz.f64, Tryz.f65, Tryz.f66, Tryz.f67, Tryz.f68, Tryz.f69, Tryz.f70, Tryz.f71, Tryz.f72, Tryz.f73, Tryz.f74, Tryz.f75, Tryz.f76, Tryz.f77, Tryz.f78, Tryz.f79, Tryz.f80, Tryz.f81, Tryz.f82, Tryz.f83]
noncomputable def ti2 : List Info := [⟨[34, 56], none, [], none⟩, ⟨[], none, [], none⟩, ⟨[95], none, [], none⟩, ⟨[60], none, [], none⟩, ⟨[18], none, [], none⟩, ⟨[39], none, [], none⟩, ⟨[97, 96, 98, 96, 99, 96, 97, 101, 100, 100, 99, 100, 98, 100], none, [], none⟩, ⟨[102], none, [], none⟩, ⟨[103, 103, 104], none, [], none⟩, ⟨[105], none, [], none⟩, ⟨[42, 106], none, [], none⟩, ⟨[105, 42, 42, 106], none, [], none⟩, ⟨[32], none, [], none⟩, ⟨[], none, [], none⟩, ⟨[107], none, [], none⟩, ⟨[91, 108], none, [], none⟩, ⟨[], none, [], none⟩, ⟨[], none, [], none⟩, ⟨[109, 69, 109, 43, 68, 110, 68, 111, 23, 70, 112], none, [], none⟩, ⟨[23, 70, 109, 43, 68, 24, 70, 70, 70], none, [], none⟩, ⟨[113, 113, 113, 109, 69, 109, 43, 68, 114, 115, 116, 117, 23, 70, 112, 119, 118], none, [], none⟩, ⟨[23, 109, 43, 70, 73, 109, 43, 70, 112, 109, 43, 109, 43, 70, 112, 109, 69, 68, 120, 109, 43, 70, 112, 109, 43, 107, 70, 122, 121, 122, 73], none, [], none⟩, ⟨[23, 109, 43, 109, 69, 32, 68, 109, 43, 123, 107, 70, 73, 124, 73, 109, 43, 107, 70, 73, 68, 122, 73], none, [], none⟩, ⟨[23, 109, 43, 109, 125, 32, 109, 43, 109, 43, 107, 70, 124, 73, 118, 109, 43, 32, 32, 70, 124, 73, 118], none, [], none⟩, ⟨[109, 43, 109, 69, 109, 69, 126, 68, 109, 43, 120, 68, 128, 127, 23, 70, 109, 43, 23, 70, 73], none, [], none⟩, ⟨[23, 72, 129, 70, 43, 70, 112, 130], none, [], none⟩, ⟨[23, 131, 14, 43, 70, 112, 132, 133, 109, 43, 109, 43, 126, 134, 70, 109, 43, 68, 109, 69, 70, 73, 109, 43, 123, 107, 68, 135, 107, 134, 70, 73], none, [], none⟩, ⟨[109, 43, 109, 69, 68, 109, 43, 68, 68, 135, 23, 70, 112], none, [], none⟩]
noncomputable def fl3 : List Func := [Tryz.f84, Tryz.f85, Tryz.f86, Tryz.f87, Tryz.f88, Tryz.f89, Tryz.f90, Tryz.f91, Tryz.f92, Tryz.f93, Tryz.f94, Tryz.f95, Tryz.f96, Tryz.f97, Tryz.f98, Tryz.f99, Tryz.f100, Tryz.f101, Tryz.f102, Tryz.f103, Tryz.f104, Tryz.f105, Tryz.f106, Tryz.f107, Tryz.f108, Tryz.f109, Tryz.f110, Tryz.f111]
noncomputable def ti3 : List Info := [⟨[136, 137, 136, 138], none, [], none⟩, ⟨[], none, [], none⟩, ⟨[], none, [], none⟩, ⟨[], none, [], none⟩, ⟨[], none, [], none⟩, ⟨[], none, [], none⟩, ⟨[139, 140, 141], none, [], none⟩, ⟨[142, 142, 103, 142, 143, 142, 144, 142, 145, 144], none, [], none⟩, ⟨[146], none, [], none⟩, ⟨[147], none, [], none⟩, ⟨[49, 94], none, [], none⟩, ⟨[148, 149, 148, 150, 149, 151], none, [0, 0, 0], none⟩, ⟨[152], none, [], none⟩, ⟨[153], none, [], none⟩, ⟨[], none, [], none⟩, ⟨[], none, [], none⟩, ⟨[154, 62], none, [], none⟩, ⟨[155, 98, 97], none, [], none⟩, ⟨[], none, [], none⟩, ⟨[], none, [], none⟩, ⟨[156], none, [], none⟩, ⟨[143], none, [], none⟩, ⟨[102], none, [], none⟩, ⟨[157], none, [], none⟩, ⟨[26, 158, 159, 34, 108], none, [], none⟩, ⟨[160], none, [], none⟩, ⟨[161], none, [], none⟩, ⟨[32, 133, 107, 162, 107, 24], none, [], none⟩]
noncomputable def fl4 : List Func := [Tryz.f112, Tryz.f113, Tryz.f114, Tryz.f115, Tryz.f116, Tryz.f117, Tryz.f118, Tryz.f119, Tryz.f120, Tryz.f121, Tryz.f122, Tryz.f123, Tryz.f124, Tryz.f125, Tryz.f126, Tryz.f127, Tryz.f128, Tryz.f129, Tryz.f130, Tryz.f131, Tryz.f132, Tryz.f133, Tryz.f134, Tryz.f135, Tryz.f136, Tryz.f137, Tryz.f138, Tryz.f139]
noncomputable def ti4 : List Info := [⟨[118], none, [], none⟩, ⟨[], none, [], none⟩, ⟨[163, 164, 164, 165, 166], none, [], none⟩, ⟨[163, 164, 164, 164, 167, 166], none, [], none⟩, ⟨[168, 169], none, [], none⟩, ⟨[168, 174], none, [], none⟩, ⟨[177, 121, 177], none, [], none⟩, ⟨[121, 178, 68, 124], none, [], none⟩, ⟨[], none, [], none⟩, ⟨[], none, [], none⟩, ⟨[], none, [], none⟩, ⟨[179, 179], none, [], none⟩, ⟨[], none, [], none⟩, ⟨[72, 180, 181], none, [], none⟩, ⟨[113, 107], none, [], none⟩, ⟨[182, 183, 26], none, [], none⟩, ⟨[109, 43, 126], none, [], none⟩, ⟨[70, 73, 70, 73, 109, 43, 70, 73, 184, 109, 43, 185, 26, 68, 70, 73, 109, 69, 109, 43, 68, 186, 70, 112], none, [], none⟩, ⟨[92, 109, 187, 109, 43, 68, 70, 112, 188, 189, 190, 191], none, [], none⟩, ⟨[131, 131, 131, 131], none, [], none⟩, ⟨[192, 132], none, [], none⟩, ⟨[], none, [], none⟩, ⟨[193, 193, 134, 134, 194, 195, 68, 196, 192, 197, 24, 134], none, [], none⟩, ⟨[163, 198, 164, 164, 166], none, [], none⟩, ⟨[26, 136, 199, 200, 201, 26], none, [], none⟩, ⟨[137, 137, 137], none, [], none⟩, ⟨[138, 138], none, [], none⟩, ⟨[], none, [], none⟩]
noncomputable def fl5 : List Func := [Tryz.f140, Tryz.f141, Tryz.f142, Tryz.f143, Tryz.f144, Tryz.f145, Tryz.f146, Tryz.f147, Tryz.f148, Tryz.f149, Tryz.f150, Tryz.f151, Tryz.f152, Tryz.f153, Tryz.f154, Tryz.f155, Tryz.f156, Tryz.f157, Tryz.f158, Tryz.f159, Tryz.f160, Tryz.f161, Tryz.f162, Tryz.f163, Tryz.f164, Tryz.f165, Tryz.f166, Tryz.f167]
noncomputable def ti5 : List Info := [⟨[], none, [], none⟩, ⟨[139, 202], none, [], none⟩, ⟨[], none, [], none⟩, ⟨[203], none, [], none⟩, ⟨[204, 205], none, [], none⟩, ⟨[143], none, [], none⟩, ⟨[], none, [], none⟩, ⟨[146], none, [], none⟩, ⟨[206], none, [], none⟩, ⟨[], (some "internal/bytealg.IndexString"), [], (some "internal/bytealg.MaxLen")⟩, ⟨[], none, [], none⟩, ⟨[207], none, [], none⟩, ⟨[], none, [], none⟩, ⟨[208], none, [], none⟩, ⟨[], none, [], none⟩, ⟨[209], none, [], none⟩, ⟨[103, 103, 210, 210, 211, 211], none, [], none⟩, ⟨[212, 213], none, [], none⟩, ⟨[214, 108, 108, 183, 159], none, [], none⟩, ⟨[26, 215], none, [], none⟩, ⟨[216], none, [], none⟩, ⟨[212, 217], none, [], none⟩, ⟨[219, 218], none, [], none⟩, ⟨[220, 221], none, [], none⟩, ⟨[222], none, [], none⟩, ⟨[223, 170, 171, 176, 224, 173, 172, 89, 223, 170, 225, 223, 170], none, [], none⟩, ⟨[226, 226, 44, 44], none, [], none⟩, ⟨[227, 173, 223, 170, 173, 170, 228, 170, 171, 171, 229, 170], none, [], none⟩]
noncomputable def fl6 : List Func := [Tryz.f168, Tryz.f169, Tryz.f170, Tryz.f171, Tryz.f172, Tryz.f173, Tryz.f174, Tryz.f175, Tryz.f176, Tryz.f177, Tryz.f178, Tryz.f179, Tryz.f180, Tryz.f181, Tryz.f182, Tryz.f183, Tryz.f184, Tryz.f185, Tryz.f186, Tryz.f187, Tryz.f188, Tryz.f189, Tryz.f190, Tryz.f191, Tryz.f192, Tryz.f193, Tryz.f194, Tryz.f195]
noncomputable def ti6 : List Info := [⟨[163, 164, 166], none, [], none⟩, ⟨[171, 170, 172, 89, 172, 170, 173], none, [], none⟩, ⟨[226], none, [], none⟩, ⟨[], none, [], none⟩, ⟨[], none, [], none⟩, ⟨[230], none, [], none⟩, ⟨[173, 176, 175, 170], none, [], none⟩, ⟨[231, 231], none, [], none⟩, ⟨[], none, [], none⟩, ⟨[], none, [], none⟩, ⟨[], none, [], none⟩, ⟨[212, 91, 217, 232, 34, 234, 233, 235], none, [], none⟩, ⟨[18, 72, 237, 236], none, [], none⟩, ⟨[27, 42, 239, 238, 45, 45], none, [], none⟩, ⟨[107, 240], none, [], none⟩, ⟨[241], none, [], none⟩, ⟨[109, 43, 109, 69, 68, 109, 43, 242, 242, 68, 68, 32, 32, 133, 243, 156, 70, 73], none, [], none⟩, ⟨[185, 185, 185, 185, 185, 185, 185, 244], none, [], none⟩, ⟨[245, 163, 163, 164, 164, 246, 166], none, [], none⟩, ⟨[72], none, [], none⟩, ⟨[], none, [], none⟩, ⟨[247, 248, 70, 73, 240, 240, 70, 73], none, [], none⟩, ⟨[26, 26, 70, 73], none, [], none⟩, ⟨[22, 249, 109, 43, 247, 247, 70, 112, 182, 182, 190], none, [], none⟩, ⟨[103, 250], none, [], none⟩, ⟨[], none, [], none⟩, ⟨[26], none, [], none⟩, ⟨[68, 68, 178, 89, 68, 68], none, [], none⟩]
noncomputable def fl7 : List Func := [Tryz.f196, Tryz.f197, Tryz.f198, Tryz.f199, Tryz.f200, Tryz.f201, Tryz.f202, Tryz.f203, Tryz.f204, Tryz.f205, Tryz.f206, Tryz.f207, Tryz.f208, Tryz.f209, Tryz.f210, Tryz.f211, Tryz.f212, Tryz.f213, Tryz.f214, Tryz.f215, Tryz.f216, Tryz.f217, Tryz.f218, Tryz.f219, Tryz.f220, Tryz.f221, Tryz.f222, Tryz.f223]
noncomputable def ti7 : List Info := [⟨[87, 251, 34, 89, 88, 252, 253, 254], none, [], none⟩, ⟨[107, 113, 107, 113, 107, 107], none, [], none⟩, ⟨[255, 256, 257, 258, 259, 260, 260, 261, 261, 261, 261], none, [], none⟩, ⟨[136, 136, 262], none, [], none⟩, ⟨[87, 263, 264, 267, 268, 266, 269, 199], none, [], none⟩, ⟨[26, 26, 183], none, [], none⟩, ⟨[], none, [], none⟩, ⟨[270, 270, 270, 270, 270, 270, 270], none, [1, 2], none⟩, ⟨[271], none, [], none⟩, ⟨[91], none, [], none⟩, ⟨[], (some "internal/bytealg.IndexByteString"), [], none⟩, ⟨[], none, [], none⟩, ⟨[272], none, [], none⟩, ⟨[146], none, [], none⟩, ⟨[], none, [], none⟩, ⟨[], none, [], none⟩, ⟨[42], none, [], none⟩, ⟨[226, 235], none, [], none⟩, ⟨[], none, [], none⟩, ⟨[26, 273, 26, 26], none, [], none⟩, ⟨[216], none, [], none⟩, ⟨[215, 274, 235], none, [], none⟩, ⟨[275, 276, 277, 278, 279, 280, 281, 282, 283, 218, 218], none, [], none⟩, ⟨[284, 285], none, [], none⟩, ⟨[286], none, [], none⟩, ⟨[42], none, [], none⟩, ⟨[26, 26], none, [], none⟩, ⟨[], none, [], none⟩]
noncomputable def fl8 : List Func := [Tryz.f224, Tryz.f225, Tryz.f226, Tryz.f227, Tryz.f228, Tryz.f229, Tryz.f230, Tryz.f231, Tryz.f232, Tryz.f233, Tryz.f234, Tryz.f235, Tryz.f236, Tryz.f237, Tryz.f238, Tryz.f239, Tryz.f240, Tryz.f241, Tryz.f242, Tryz.f243, Tryz.f244, Tryz.f245, Tryz.f246, Tryz.f247, Tryz.f248, Tryz.f249, Tryz.f250, Tryz.f251]
noncomputable def ti8 : List Info := [⟨[287, 287, 288, 288, 223, 170, 289, 289, 223, 170, 289, 289, 170, 289, 289, 170, 223, 170], none, [], none⟩, ⟨[251], none, [], none⟩, ⟨[42, 42, 290, 45], none, [], none⟩, ⟨[], none, [], none⟩, ⟨[], none, [], none⟩, ⟨[214, 183], none, [], none⟩, ⟨[291], none, [], none⟩, ⟨[288], none, [], none⟩, ⟨[292, 243], none, [], none⟩, ⟨[293], none, [], none⟩, ⟨[], none, [], none⟩, ⟨[44], none, [], none⟩, ⟨[294], none, [], none⟩, ⟨[180], none, [], none⟩, ⟨[295, 214, 214, 238, 238, 296, 238, 238, 296, 297], none, [], none⟩, ⟨[44], none, [], none⟩, ⟨[298], none, [], none⟩, ⟨[300, 300, 300, 300, 301, 302, 300, 303, 304, 305, 306, 307, 299], none, [], none⟩, ⟨[], none, [], none⟩, ⟨[288, 292], none, [], none⟩, ⟨[185], none, [], none⟩, ⟨[308, 309], none, [], none⟩, ⟨[310, 311, 312, 223, 170, 92, 313, 171, 314], none, [], none⟩, ⟨[315, 316, 317, 318, 319, 320, 321], none, [], none⟩, ⟨[247], none, [], none⟩, ⟨[155], none, [], none⟩, ⟨[322, 323], none, [], none⟩, ⟨[281, 324, 324], none, [], none⟩]
noncomputable def fl9 : List Func := [Tryz.f252, Tryz.f253, Tryz.f254, Tryz.f255, Tryz.f256, Tryz.f257, Tryz.f258, Tryz.f259, Tryz.f260, Tryz.f261, Tryz.f262, Tryz.f263, Tryz.f264, Tryz.f265, Tryz.f266, Tryz.f267, Tryz.f268, Tryz.f269, Tryz.f270, Tryz.f271, Tryz.f272, Tryz.f273, Tryz.f274, Tryz.f275, Tryz.f276, Tryz.f277, Tryz.f278, Tryz.f279]
noncomputable def ti9 : List Info := [⟨[325, 326], none, [], none⟩, ⟨[327, 328], none, [], none⟩, ⟨[329, 330], none, [], none⟩, ⟨[170, 170, 331, 176, 176, 332, 331, 333, 331, 171, 171, 226, 334, 334, 229, 170, 331, 172, 172, 335, 170, 173], none, [], none⟩, ⟨[331, 176, 176, 175, 332, 331, 171, 171, 229, 170, 173], none, [], none⟩, ⟨[331, 176, 176, 337, 336, 338, 176, 339, 338, 176, 339, 331, 170, 173], none, [], none⟩, ⟨[331, 176, 176, 340, 176, 341, 342, 331, 228, 343, 170, 173], none, [], none⟩, ⟨[331, 173, 176, 176, 344, 176, 341, 342], none, [], none⟩, ⟨[345, 346, 170, 170, 170], none, [], none⟩, ⟨[346, 170], none, [], none⟩, ⟨[347, 290, 136, 347], none, [], none⟩, ⟨[348], none, [], none⟩, ⟨[265, 265, 241], none, [], none⟩, ⟨[], none, [], none⟩, ⟨[265, 265, 247, 349], none, [], none⟩, ⟨[], none, [], none⟩, ⟨[265, 265, 183], none, [], none⟩, ⟨[351, 350, 290, 352, 290], none, [], none⟩, ⟨[], none, [], none⟩, ⟨[], none, [], none⟩, ⟨[353, 354, 355, 356], none, [], none⟩, ⟨[], none, [], none⟩, ⟨[], none, [], none⟩, ⟨[281], none, [], none⟩, ⟨[357, 357], none, [], none⟩, ⟨[358, 359], none, [], none⟩, ⟨[360, 360, 360, 361], none, [], none⟩, ⟨[], none, [], none⟩]
noncomputable def fl10 : List Func := [Tryz.f280, Tryz.f281, Tryz.f282, Tryz.f283, Tryz.f284, Tryz.f285, Tryz.f286, Tryz.f287, Tryz.f288, Tryz.f289, Tryz.f290, Tryz.f291, Tryz.f292, Tryz.f293, Tryz.f294, Tryz.f295, Tryz.f296, Tryz.f297, Tryz.f298, Tryz.f299, Tryz.f300, Tryz.f301, Tryz.f302, Tryz.f303, Tryz.f304, Tryz.f305, Tryz.f306, Tryz.f307]
noncomputable def ti10 : List Info := [⟨[281, 281, 281], none, [], none⟩, ⟨[362, 362], none, [], none⟩, ⟨[281, 281], none, [], none⟩, ⟨[281, 281, 281, 281], none, [], none⟩, ⟨[], none, [], none⟩, ⟨[], none, [], none⟩, ⟨[], none, [], none⟩, ⟨[153], none, [], none⟩, ⟨[103, 210, 363], none, [], none⟩, ⟨[156], none, [], none⟩, ⟨[26, 364, 365, 366, 367, 162, 368], none, [], none⟩, ⟨[143, 369], none, [], none⟩, ⟨[103, 103, 210, 210, 370, 363, 211, 371, 363, 371, 363], none, [], none⟩, ⟨[], none, [], none⟩, ⟨[], none, [], none⟩, ⟨[], none, [], none⟩, ⟨[157], none, [], none⟩, ⟨[372, 373, 372, 373, 374], none, [], none⟩, ⟨[212, 376, 375], none, [], none⟩, ⟨[], none, [], none⟩, ⟨[], none, [], none⟩, ⟨[], none, [], none⟩, ⟨[377, 377, 299], none, [], none⟩, ⟨[378], none, [], none⟩, ⟨[], none, [], none⟩, ⟨[379, 380, 241, 299], none, [], none⟩, ⟨[], none, [], none⟩, ⟨[303, 381, 300, 382, 241, 241, 299], none, [], none⟩]
noncomputable def fl11 : List Func := [Tryz.f308, Tryz.f309, Tryz.f310, Tryz.f311, Tryz.f312, Tryz.f313, Tryz.f314, Tryz.f315, Tryz.f316, Tryz.f317, Tryz.f318, Tryz.f319, Tryz.f320, Tryz.f321, Tryz.f322, Tryz.f323, Tryz.f324, Tryz.f325, Tryz.f326, Tryz.f327, Tryz.f328, Tryz.f329, Tryz.f330, Tryz.f331, Tryz.f332, Tryz.f333, Tryz.f334, Tryz.f335]
noncomputable def ti11 : List Info := [⟨[383, 384, 385, 386, 387, 388, 389, 390, 391, 392, 393, 394, 395, 396, 397, 398, 399, 400, 401, 402, 403, 404, 405, 406, 407, 408, 409, 410, 411, 412, 413, 414, 415, 416, 417, 418, 419, 420, 421, 422], none, [], none⟩, ⟨[153], none, [], none⟩, ⟨[423, 424, 170, 170, 425, 170, 170, 426, 229, 170, 176, 427, 336, 313, 429, 170, 428, 26, 170, 428, 429, 170], none, [], none⟩, ⟨[228, 170, 170, 214, 229, 170, 171, 429, 430, 428, 171, 430, 428, 170, 313, 431, 432, 431, 433, 429, 343, 170, 313, 343, 170, 346, 170], none, [], none⟩, ⟨[346, 170, 425, 425, 346, 170, 223, 170, 429, 343, 170, 434, 26, 170, 428, 313], none, [], none⟩, ⟨[93, 173], none, [], none⟩, ⟨[229, 170, 435, 229, 170, 223, 170, 170, 164, 436, 223, 226, 32, 215, 343, 170, 437, 170], none, [], none⟩, ⟨[32], none, [], none⟩, ⟨[], none, [], none⟩, ⟨[438], none, [], none⟩, ⟨[440, 439], none, [], none⟩, ⟨[247], none, [], none⟩, ⟨[443, 442], none, [], none⟩, ⟨[215], none, [], none⟩, ⟨[445], none, [], none⟩, ⟨[446, 447, 448, 449], none, [], none⟩, ⟨[], none, [], none⟩, ⟨[], (some "slices.overlaps[string]"), [], none⟩, ⟨[450], none, [], none⟩, ⟨[], (some "slices.overlaps[hallmark/api.Type]"), [], none⟩, ⟨[451], none, [], none⟩, ⟨[], (some "slices.overlaps[bool]"), [], none⟩, ⟨[452], none, [], none⟩, ⟨[338], none, [], none⟩, ⟨[453, 453, 336], none, [], none⟩, ⟨[228, 170, 170], none, [], none⟩, ⟨[], none, [], none⟩, ⟨[454, 225, 225, 226], none, [], none⟩]
noncomputable def fl12 : List Func := [Tryz.f336, Tryz.f337, Tryz.f338, Tryz.f339, Tryz.f340, Tryz.f341, Tryz.f342, Tryz.f343, Tryz.f344, Tryz.f345, Tryz.f346, Tryz.f347, Tryz.f348, Tryz.f349, Tryz.f350, Tryz.f351, Tryz.f352, Tryz.f353, Tryz.f354, Tryz.f355, Tryz.f356, Tryz.f357, Tryz.f358, Tryz.f359, Tryz.f360, Tryz.f361, Tryz.f362, Tryz.f363]
noncomputable def ti12 : List Info := [⟨[170], none, [], none⟩, ⟨[455, 455, 455, 455, 456, 457, 458, 458, 455], none, [], none⟩, ⟨[], none, [], none⟩, ⟨[289, 223, 459, 228, 170], none, [], none⟩, ⟨[427, 459, 458, 336, 458, 458, 336, 231, 336], none, [], none⟩, ⟨[438], none, [], none⟩, ⟨[230, 226], none, [], none⟩, ⟨[229], none, [], none⟩, ⟨[459, 458, 289, 289, 427, 453, 231, 289, 231, 289, 336], none, [], none⟩, ⟨[321, 321, 460, 461, 462, 463, 464], none, [], none⟩, ⟨[], none, [], none⟩, ⟨[183], none, [], none⟩, ⟨[465, 465, 466, 466], none, [], none⟩, ⟨[], none, [], none⟩, ⟨[467, 162], none, [], none⟩, ⟨[468], none, [], none⟩, ⟨[251], none, [], none⟩, ⟨[], none, [], none⟩, ⟨[285, 469, 470], none, [3], none⟩, ⟨[], none, [], none⟩, ⟨[471, 472], none, [], none⟩, ⟨[281, 281], none, [], none⟩, ⟨[219], none, [], none⟩, ⟨[], none, [], none⟩, ⟨[361], none, [], none⟩, ⟨[473, 473, 473], none, [], none⟩, ⟨[], none, [], none⟩, ⟨[], none, [], none⟩]
noncomputable def fl13 : List Func := [Tryz.f364, Tryz.f365, Tryz.f366, Tryz.f367, Tryz.f368, Tryz.f369, Tryz.f370, Tryz.f371, Tryz.f372, Tryz.f373, Tryz.f374, Tryz.f375, Tryz.f376, Tryz.f377, Tryz.f378, Tryz.f379, Tryz.f380, Tryz.f381, Tryz.f382, Tryz.f383, Tryz.f384, Tryz.f385, Tryz.f386, Tryz.f387, Tryz.f388, Tryz.f389, Tryz.f390, Tryz.f391]
noncomputable def ti13 : List Info := [⟨[474, 475, 476], none, [], none⟩, ⟨[477], none, [], none⟩, ⟨[478, 290], none, [], none⟩, ⟨[479], none, [], none⟩, ⟨[], none, [], none⟩, ⟨[480], none, [], none⟩, ⟨[481], none, [], none⟩, ⟨[481], none, [], none⟩, ⟨[482], none, [], none⟩, ⟨[], none, [], none⟩, ⟨[483, 372, 292, 243], none, [4], none⟩, ⟨[213, 235, 183, 484, 235], none, [], none⟩, ⟨[485, 486, 487, 488], none, [], none⟩, ⟨[104], none, [], none⟩, ⟨[362, 362], none, [], none⟩, ⟨[489, 489], none, [], none⟩, ⟨[379], none, [], none⟩, ⟨[], none, [], none⟩, ⟨[], none, [], none⟩, ⟨[490, 421, 491, 490, 490], none, [], none⟩, ⟨[490], none, [], none⟩, ⟨[295, 492], none, [], none⟩, ⟨[493, 490, 494], none, [], none⟩, ⟨[495, 441, 492, 495, 490, 496, 492], none, [], none⟩, ⟨[497, 492, 425, 425], none, [], none⟩, ⟨[425, 493], none, [], none⟩, ⟨[498, 493], none, [], none⟩, ⟨[103], none, [], none⟩]
noncomputable def fl14 : List Func := [Tryz.f392, Tryz.f393, Tryz.f394, Tryz.f395, Tryz.f396, Tryz.f397, Tryz.f398, Tryz.f399, Tryz.f400, Tryz.f401, Tryz.f402, Tryz.f403, Tryz.f404, Tryz.f405, Tryz.f406, Tryz.f407, Tryz.f408, Tryz.f409, Tryz.f410, Tryz.f411, Tryz.f412, Tryz.f413, Tryz.f414, Tryz.f415, Tryz.f416, Tryz.f417, Tryz.f418, Tryz.f419]
noncomputable def ti14 : List Info := [⟨[499, 493, 390], none, [], none⟩, ⟨[500], none, [], none⟩, ⟨[432, 493], none, [], none⟩, ⟨[433, 493], none, [], none⟩, ⟨[501, 490, 494], none, [], none⟩, ⟨[502, 503, 493], none, [], none⟩, ⟨[92, 492, 495], none, [], none⟩, ⟨[434, 492, 495], none, [], none⟩, ⟨[495, 93, 493], none, [], none⟩, ⟨[495, 504, 493], none, [], none⟩, ⟨[495, 505, 493, 494], none, [], none⟩, ⟨[495, 498, 506, 493], none, [], none⟩, ⟨[495, 507, 490, 494, 508, 509, 490, 494], none, [], none⟩, ⟨[494, 501, 510, 503, 493, 33, 511, 494], none, [], none⟩, ⟨[513, 512], none, [], none⟩, ⟨[514, 515, 512], none, [], none⟩, ⟨[514, 516, 494, 512], none, [], none⟩, ⟨[514, 517, 512], none, [], none⟩, ⟨[514, 519, 518], none, [], none⟩, ⟨[514, 520, 518], none, [], none⟩, ⟨[519, 518], none, [], none⟩, ⟨[520, 518], none, [], none⟩, ⟨[517, 512], none, [], none⟩, ⟨[521, 522, 523, 493, 521, 494, 524, 525], none, [], none⟩, ⟨[526, 494], none, [], none⟩, ⟨[521, 525, 494, 494], none, [], none⟩, ⟨[527], none, [], none⟩, ⟨[528], none, [], none⟩]
noncomputable def fl15 : List Func := [Tryz.f420, Tryz.f421, Tryz.f422, Tryz.f423, Tryz.f424, Tryz.f425, Tryz.f426, Tryz.f427, Tryz.f428, Tryz.f429, Tryz.f430, Tryz.f431, Tryz.f432, Tryz.f433, Tryz.f434, Tryz.f435, Tryz.f436, Tryz.f437, Tryz.f438, Tryz.f439, Tryz.f440, Tryz.f441, Tryz.f442, Tryz.f443, Tryz.f444, Tryz.f445, Tryz.f446, Tryz.f447]
noncomputable def ti15 : List Info := [⟨[529], none, [], none⟩, ⟨[93], none, [], none⟩, ⟨[494], none, [], none⟩, ⟨[429, 170, 176, 427, 336, 429, 170, 171, 287, 171, 530, 429, 170, 172, 214, 183, 172, 287, 172, 531, 287, 429, 170, 313], none, [], none⟩, ⟨[171, 429, 229, 170, 287, 429, 229, 170, 172, 214, 183, 228, 531, 229, 170, 531, 229, 170, 313], none, [], none⟩, ⟨[], none, [], none⟩, ⟨[170, 228, 170], none, [], none⟩, ⟨[458, 459, 175, 231, 457], none, [], none⟩, ⟨[93, 342], none, [], none⟩, ⟨[], none, [], none⟩, ⟨[247], none, [], none⟩, ⟨[228, 170, 170], none, [], none⟩, ⟨[532], none, [], none⟩, ⟨[532], none, [], none⟩, ⟨[533], none, [], none⟩, ⟨[214, 229], none, [], none⟩, ⟨[534, 535, 26, 170, 428, 176, 458, 429, 170, 176, 459, 429, 170, 429, 170, 228, 170, 171, 343, 170, 172, 172, 170, 170], none, [], none⟩, ⟨[214, 229, 170, 32, 164, 171, 223, 226, 229, 343, 170, 428], none, [], none⟩, ⟨[536, 537, 537], none, [], none⟩, ⟨[293], none, [], none⟩, ⟨[441], none, [], none⟩, ⟨[538], none, [], none⟩, ⟨[539], none, [], none⟩, ⟨[444], none, [], none⟩, ⟨[540, 541, 541, 247, 247], none, [], none⟩, ⟨[542], none, [], none⟩, ⟨[480], none, [5], none⟩, ⟨[480], none, [6], none⟩]
noncomputable def fl16 : List Func := [Tryz.f448, Tryz.f449, Tryz.f450, Tryz.f451, Tryz.f452, Tryz.f453, Tryz.f454, Tryz.f455, Tryz.f456, Tryz.f457, Tryz.f458, Tryz.f459, Tryz.f460, Tryz.f461, Tryz.f462, Tryz.f463, Tryz.f464, Tryz.f465, Tryz.f466, Tryz.f467, Tryz.f468, Tryz.f469, Tryz.f470, Tryz.f471, Tryz.f472, Tryz.f473, Tryz.f474, Tryz.f475]
noncomputable def ti16 : List Info := [⟨[480, 153, 543], none, [], none⟩, ⟨[480, 153, 543], none, [], none⟩, ⟨[482, 482, 482], none, [], none⟩, ⟨[544, 544, 544], none, [], none⟩, ⟨[545, 545, 545], none, [], none⟩, ⟨[292], none, [], none⟩, ⟨[265, 42, 269, 265, 45], none, [], none⟩, ⟨[546], none, [], none⟩, ⟨[289], none, [], none⟩, ⟨[289], none, [], none⟩, ⟨[289], none, [], none⟩, ⟨[289], none, [], none⟩, ⟨[], none, [], none⟩, ⟨[547, 548, 536], none, [], none⟩, ⟨[549, 439], none, [], none⟩, ⟨[345], none, [], none⟩, ⟨[550], none, [], none⟩, ⟨[], none, [], none⟩, ⟨[551, 466, 466], none, [], none⟩, ⟨[552], none, [], none⟩, ⟨[], none, [], none⟩, ⟨[], none, [], none⟩, ⟨[], none, [], none⟩, ⟨[], none, [], none⟩, ⟨[553, 554], none, [], none⟩, ⟨[281], none, [], none⟩, ⟨[555], none, [], none⟩, ⟨[156], none, [], none⟩]
noncomputable def fl17 : List Func := [Tryz.f476, Tryz.f477, Tryz.f478, Tryz.f479, Tryz.f480, Tryz.f481, Tryz.f482, Tryz.f483, Tryz.f484, Tryz.f485, Tryz.f486, Tryz.f487, Tryz.f488, Tryz.f489, Tryz.f490, Tryz.f491, Tryz.f492, Tryz.f493, Tryz.f494, Tryz.f495, Tryz.f496, Tryz.f497, Tryz.f498, Tryz.f499, Tryz.f500, Tryz.f501, Tryz.f502, Tryz.f503]
noncomputable def ti17 : List Info := [⟨[156], none, [], none⟩, ⟨[], none, [], none⟩, ⟨[556], none, [], none⟩, ⟨[], none, [], none⟩, ⟨[], none, [], none⟩, ⟨[], none, [], none⟩, ⟨[], none, [], none⟩, ⟨[372, 373, 557, 373, 372, 557], none, [], none⟩, ⟨[], none, [], none⟩, ⟨[558], none, [], none⟩, ⟨[], none, [], none⟩, ⟨[559, 375], none, [], none⟩, ⟨[183, 454, 454, 560, 559, 375, 235, 251, 213, 559, 375], none, [], none⟩, ⟨[], none, [], none⟩, ⟨[153], none, [], none⟩, ⟨[561], none, [], none⟩, ⟨[], none, [], none⟩, ⟨[], none, [], none⟩, ⟨[], none, [], none⟩, ⟨[], none, [], none⟩, ⟨[562, 562, 562, 563, 564, 565, 566, 379], none, [], none⟩, ⟨[39, 567, 204, 251, 497, 509], none, [], none⟩, ⟨[91, 569], none, [], none⟩, ⟨[570, 571, 522, 570, 523], none, [], none⟩, ⟨[572, 573, 574], none, [], none⟩, ⟨[], none, [], none⟩, ⟨[], none, [], none⟩, ⟨[576, 575, 523], none, [], none⟩]
noncomputable def fl18 : List Func := [Tryz.f504, Tryz.f505, Tryz.f506, Tryz.f507, Tryz.f508, Tryz.f509, Tryz.f510, Tryz.f511, Tryz.f512, Tryz.f513, Tryz.f514, Tryz.f515, Tryz.f516, Tryz.f517, Tryz.f518, Tryz.f519, Tryz.f520, Tryz.f521, Tryz.f522, Tryz.f523, Tryz.f524, Tryz.f525, Tryz.f526, Tryz.f527, Tryz.f528, Tryz.f529, Tryz.f530, Tryz.f531]
noncomputable def ti18 : List Info := [⟨[577], none, [], none⟩, ⟨[578], none, [], none⟩, ⟨[579, 522, 522, 522, 523], none, [], none⟩, ⟨[92], none, [], none⟩, ⟨[], none, [], none⟩, ⟨[496], none, [], none⟩, ⟨[], none, [], none⟩, ⟨[], none, [], none⟩, ⟨[494], none, [], none⟩, ⟨[580, 582, 581, 496], none, [], none⟩, ⟨[495], none, [], none⟩, ⟨[583], none, [], none⟩, ⟨[583, 496], none, [], none⟩, ⟨[516], none, [], none⟩, ⟨[], none, [], none⟩, ⟨[584, 585], none, [], none⟩, ⟨[584, 586], none, [], none⟩, ⟨[587, 204], none, [], none⟩, ⟨[588], none, [], none⟩, ⟨[], none, [], none⟩, ⟨[589, 590, 591, 590], none, [], none⟩, ⟨[93, 525], none, [], none⟩, ⟨[526], none, [], none⟩, ⟨[91, 592, 593, 594], none, [], none⟩, ⟨[91, 91, 592, 595, 594], none, [], none⟩, ⟨[91, 592, 596, 597, 594], none, [], none⟩, ⟨[287], none, [], none⟩, ⟨[], none, [], none⟩]
noncomputable def fl19 : List Func := [Tryz.f532, Tryz.f533, Tryz.f534, Tryz.f535, Tryz.f536, Tryz.f537, Tryz.f538, Tryz.f539, Tryz.f540, Tryz.f541, Tryz.f542, Tryz.f543, Tryz.f544, Tryz.f545, Tryz.f546, Tryz.f547, Tryz.f548, Tryz.f549, Tryz.f550, Tryz.f551, Tryz.f552, Tryz.f553, Tryz.f554, Tryz.f555, Tryz.f556, Tryz.f557, Tryz.f558, Tryz.f559]
noncomputable def ti19 : List Info := [⟨[], none, [], none⟩, ⟨[], none, [], none⟩, ⟨[598], none, [], none⟩, ⟨[], none, [], none⟩, ⟨[537], none, [], none⟩, ⟨[156], none, [], none⟩, ⟨[], none, [], none⟩, ⟨[], none, [], none⟩, ⟨[34], none, [], none⟩, ⟨[251], none, [], none⟩, ⟨[599, 599, 599, 599, 599, 599, 600], none, [], none⟩, ⟨[], none, [], none⟩, ⟨[], none, [], none⟩, ⟨[], none, [], none⟩, ⟨[103, 103, 210, 210, 603, 603, 602, 601, 363], none, [], none⟩, ⟨[537], none, [], none⟩, ⟨[537], none, [], none⟩, ⟨[441], none, [], none⟩, ⟨[540, 604, 439], none, [], none⟩, ⟨[605, 605, 605], none, [], none⟩, ⟨[], none, [], none⟩, ⟨[], none, [7], none⟩, ⟨[], none, [8], none⟩, ⟨[], none, [], none⟩, ⟨[], none, [], none⟩, ⟨[425], none, [], none⟩, ⟨[], none, [], none⟩, ⟨[485, 486, 606, 607], none, [], none⟩]
noncomputable def fl20 : List Func := [Tryz.f560, Tryz.f561, Tryz.f562, Tryz.f563, Tryz.f564, Tryz.f565, Tryz.f566, Tryz.f567, Tryz.f568, Tryz.f569, Tryz.f570, Tryz.f571, Tryz.f572, Tryz.f573, Tryz.f574, Tryz.f575, Tryz.f576, Tryz.f577, Tryz.f578, Tryz.f579, Tryz.f580, Tryz.f581, Tryz.f582, Tryz.f583, Tryz.f584, Tryz.f585, Tryz.f586, Tryz.f587]
noncomputable def ti20 : List Info := [⟨[251], none, [], none⟩, ⟨[], none, [], none⟩, ⟨[], none, [], none⟩, ⟨[156], none, [], none⟩, ⟨[608], none, [], none⟩, ⟨[609, 496], none, [], none⟩, ⟨[303, 565, 299], none, [], none⟩, ⟨[568, 204], none, [], none⟩, ⟨[497], none, [], none⟩, ⟨[91, 610, 523], none, [], none⟩, ⟨[588], none, [], none⟩, ⟨[611, 611], none, [], none⟩, ⟨[612], none, [], none⟩, ⟨[613, 614], none, [], none⟩, ⟨[], none, [], none⟩, ⟨[588, 615], none, [], none⟩, ⟨[616], none, [], none⟩, ⟨[533], none, [], none⟩, ⟨[617], none, [], none⟩, ⟨[588, 618], none, [], none⟩, ⟨[91], none, [], none⟩, ⟨[581, 581, 619], none, [], none⟩, ⟨[594], none, [], none⟩, ⟨[580, 594, 620, 621], none, [], none⟩, ⟨[580], none, [], none⟩, ⟨[496], none, [], none⟩, ⟨[496], none, [], none⟩, ⟨[], none, [], none⟩]
noncomputable def fl21 : List Func := [Tryz.f588, Tryz.f589, Tryz.f590, Tryz.f591, Tryz.f592, Tryz.f593, Tryz.f594, Tryz.f595, Tryz.f596, Tryz.f597, Tryz.f598, Tryz.f599, Tryz.f600, Tryz.f601, Tryz.f602, Tryz.f603, Tryz.f604, Tryz.f605, Tryz.f606, Tryz.f607, Tryz.f608, Tryz.f609, Tryz.f610, Tryz.f611, Tryz.f612, Tryz.f613, Tryz.f614, Tryz.f615]
noncomputable def ti21 : List Info := [⟨[622], none, [], none⟩, ⟨[204, 623], none, [], none⟩, ⟨[594], none, [], none⟩, ⟨[624, 625, 626, 627, 628, 629, 630, 631, 632, 633, 634], none, [], none⟩, ⟨[204, 635], none, [], none⟩, ⟨[637], none, [], none⟩, ⟨[34, 33, 594], none, [], none⟩, ⟨[638, 595, 639, 641, 640], none, [], none⟩, ⟨[593, 642, 643], none, [], none⟩, ⟨[597], none, [], none⟩, ⟨[], none, [], none⟩, ⟨[], none, [], none⟩, ⟨[599, 599, 599, 599, 599, 599], none, [], none⟩, ⟨[481], none, [], none⟩, ⟨[644], none, [], none⟩, ⟨[644], none, [], none⟩, ⟨[541, 541, 345], none, [], none⟩, ⟨[], none, [], none⟩, ⟨[183, 26], none, [], none⟩, ⟨[183, 26], none, [], none⟩, ⟨[645], none, [], none⟩, ⟨[], none, [], none⟩, ⟨[646, 647, 648], none, [], none⟩, ⟨[], none, [], none⟩, ⟨[649], none, [], none⟩, ⟨[], none, [], none⟩, ⟨[652, 653, 654, 655], none, [], none⟩, ⟨[656], none, [], none⟩]
noncomputable def fl22 : List Func := [Tryz.f616, Tryz.f617, Tryz.f618, Tryz.f619, Tryz.f620, Tryz.f621, Tryz.f622, Tryz.f623, Tryz.f624, Tryz.f625, Tryz.f626, Tryz.f627, Tryz.f628, Tryz.f629, Tryz.f630, Tryz.f631, Tryz.f632, Tryz.f633, Tryz.f634, Tryz.f635, Tryz.f636, Tryz.f637, Tryz.f638, Tryz.f639, Tryz.f640, Tryz.f641, Tryz.f642, Tryz.f643]
noncomputable def ti22 : List Info := [⟨[], none, [], none⟩, ⟨[657, 658, 58], none, [], none⟩, ⟨[659], none, [], none⟩, ⟨[], none, [], none⟩, ⟨[620, 620, 660], none, [], none⟩, ⟨[496], none, [], none⟩, ⟨[], (some "internal/abi.NoEscape"), [], none⟩, ⟨[91], none, [], none⟩, ⟨[661, 661, 662, 292, 663, 662, 664, 662, 665, 661, 662, 666, 661, 667], none, [], none⟩, ⟨[662, 243, 663, 662, 668, 204, 661, 667], none, [], none⟩, ⟨[662, 546, 663, 669, 669, 662, 670, 661, 667], none, [], none⟩, ⟨[662, 671, 667, 663, 662, 505, 661, 667], none, [], none⟩, ⟨[662, 667, 672, 667, 663], none, [], none⟩, ⟨[496, 673], none, [], none⟩, ⟨[496, 673], none, [], none⟩, ⟨[496, 673], none, [], none⟩, ⟨[496, 673], none, [], none⟩, ⟨[496, 673], none, [], none⟩, ⟨[496, 673], none, [], none⟩, ⟨[636], none, [], none⟩, ⟨[91], none, [], none⟩, ⟨[674, 675, 676, 677], none, [], none⟩, ⟨[538, 594], none, [], none⟩, ⟨[678, 143, 91, 594, 594, 679], none, [], none⟩, ⟨[595, 33], none, [], none⟩, ⟨[192], none, [], none⟩, ⟨[251, 641], none, [], none⟩, ⟨[], none, [], none⟩]
noncomputable def fl23 : List Func := [Tryz.f644, Tryz.f645, Tryz.f646, Tryz.f647, Tryz.f648, Tryz.f649, Tryz.f650, Tryz.f651, Tryz.f652, Tryz.f653, Tryz.f654, Tryz.f655, Tryz.f656, Tryz.f657, Tryz.f658, Tryz.f659, Tryz.f660, Tryz.f661, Tryz.f662, Tryz.f663, Tryz.f664, Tryz.f665, Tryz.f666, Tryz.f667, Tryz.f668, Tryz.f669, Tryz.f670, Tryz.f671]
noncomputable def ti23 : List Info := [⟨[], none, [], none⟩, ⟨[680], none, [], none⟩, ⟨[522, 522, 522, 522, 499, 522], none, [], none⟩, ⟨[681], none, [], none⟩, ⟨[681], none, [], none⟩, ⟨[650, 651], none, [], none⟩, ⟨[682, 683, 684, 685, 686], none, [], none⟩, ⟨[687, 688, 689], none, [], none⟩, ⟨[], none, [], none⟩, ⟨[690, 614, 691], none, [], none⟩, ⟨[690, 692, 614, 691, 693], none, [], none⟩, ⟨[], none, [], none⟩, ⟨[], none, [], none⟩, ⟨[561, 694], none, [], none⟩, ⟨[561, 695, 58], none, [], none⟩, ⟨[], (some "internal/bytealg.MakeNoZero"), [], none⟩, ⟨[], none, [], none⟩, ⟨[], none, [], none⟩, ⟨[], none, [], none⟩, ⟨[661], none, [], none⟩, ⟨[661], none, [], none⟩, ⟨[696], none, [], none⟩, ⟨[678, 678, 594, 594, 679], none, [], none⟩, ⟨[291], none, [], none⟩, ⟨[509], none, [], none⟩, ⟨[156, 661, 192, 664, 697, 664], none, [], none⟩, ⟨[678, 678, 594, 594, 698], none, [], none⟩, ⟨[699], none, [], none⟩]
noncomputable def fl24 : List Func := [Tryz.f672, Tryz.f673, Tryz.f674, Tryz.f675, Tryz.f676, Tryz.f677, Tryz.f678, Tryz.f679, Tryz.f680, Tryz.f681, Tryz.f682, Tryz.f683, Tryz.f684, Tryz.f685, Tryz.f686, Tryz.f687, Tryz.f688, Tryz.f689, Tryz.f690, Tryz.f691, Tryz.f692, Tryz.f693, Tryz.f694, Tryz.f695, Tryz.f696, Tryz.f697, Tryz.f698, Tryz.f699]
noncomputable def ti24 : List Info := [⟨[699], none, [], none⟩, ⟨[661, 661], none, [], none⟩, ⟨[638], none, [], none⟩, ⟨[641], none, [], none⟩, ⟨[], none, [], none⟩, ⟨[], none, [], none⟩, ⟨[91], none, [], none⟩, ⟨[251, 252, 700], none, [], none⟩, ⟨[], (some "internal/bytealg.abigen_runtime_cmpstring"), [], none⟩, ⟨[570, 570, 701, 499, 522, 570, 570, 610, 701, 570], none, [], none⟩, ⟨[], none, [], none⟩, ⟨[687], none, [], none⟩, ⟨[702], none, [], none⟩, ⟨[702, 103], none, [], none⟩, ⟨[703], none, [], none⟩, ⟨[148], none, [], none⟩, ⟨[], none, [], none⟩, ⟨[], none, [], none⟩, ⟨[], none, [], none⟩, ⟨[652, 655], none, [], none⟩, ⟨[652, 655, 441, 652, 655], none, [], none⟩, ⟨[144, 439, 704, 594, 679], none, [], none⟩, ⟨[705], none, [], none⟩, ⟨[], (some "internal/bytealg.CountString"), [], none⟩, ⟨[], none, [], none⟩, ⟨[706, 92, 92, 92, 92, 92, 579, 522, 707, 707, 707, 523, 522, 523], none, [], none⟩, ⟨[251, 698, 679], none, [], none⟩, ⟨[103, 103, 210, 210, 603, 603, 708, 601, 363, 601, 363], none, [], none⟩]
noncomputable def fl25 : List Func := [Tryz.f700, Tryz.f701, Tryz.f702, Tryz.f703, Tryz.f704, Tryz.f705, Tryz.f706, Tryz.f707, Tryz.f708, Tryz.f709, Tryz.f710, Tryz.f711, Tryz.f712, Tryz.f713, Tryz.f714, Tryz.f715, Tryz.f716, Tryz.f717, Tryz.f718, Tryz.f719, Tryz.f720, Tryz.f721, Tryz.f722, Tryz.f723, Tryz.f724, Tryz.f725, Tryz.f726, Tryz.f727]
noncomputable def ti25 : List Info := [⟨[709, 710], none, [], none⟩, ⟨[570, 697, 522], none, [], none⟩, ⟨[688, 689, 687], none, [], none⟩, ⟨[694, 523, 711, 575], none, [], none⟩, ⟨[143], none, [], none⟩, ⟨[], none, [1, 2], none⟩, ⟨[712, 713], none, [], none⟩, ⟨[], none, [], none⟩, ⟨[714, 644, 602, 602, 715, 716, 644, 714, 644], none, [], none⟩, ⟨[], (some "slices.overlaps[hallmark/api.Value]"), [], none⟩, ⟨[717], none, [], none⟩, ⟨[718, 719, 719, 720, 721, 718, 720], none, [], none⟩, ⟨[], none, [], none⟩, ⟨[], none, [], none⟩, ⟨[644], none, [], none⟩, ⟨[], none, [], none⟩, ⟨[], none, [], none⟩, ⟨[511, 511, 511], none, [], none⟩, ⟨[722, 722], none, [], none⟩, ⟨[], none, [], none⟩, ⟨[], none, [], none⟩, ⟨[], none, [], none⟩, ⟨[], none, [], none⟩, ⟨[], (some "(runtime.boundsError).Error"), [], none⟩, ⟨[], (some "(runtime.boundsError).RuntimeError"), [], none⟩, ⟨[], (some "(runtime.errorString).Error"), [], none⟩, ⟨[], (some "(runtime.errorString).RuntimeError"), [], none⟩, ⟨[], (some "(runtime.plainError).Error"), [], none⟩]
noncomputable def fl26 : List Func := [Tryz.f728, Tryz.f729, Tryz.f730, Tryz.f731, Tryz.f732, Tryz.f733, Tryz.f734, Tryz.f735, Tryz.f736, Tryz.f737, Tryz.f738, Tryz.f739, Tryz.f740, Tryz.f741, Tryz.f742, Tryz.f743, Tryz.f744, Tryz.f745, Tryz.f746, Tryz.f747, Tryz.f748, Tryz.f749, Tryz.f750, Tryz.f751, Tryz.f752, Tryz.f753, Tryz.f754, Tryz.f755]
noncomputable def ti26 : List Info := [⟨[], (some "(runtime.plainError).RuntimeError"), [], none⟩, ⟨[], (some "(runtime.errorAddressString).Error"), [], none⟩, ⟨[], (some "(runtime.errorAddressString).RuntimeError"), [], none⟩, ⟨[], (some "(*runtime.TypeAssertionError).Error"), [], none⟩, ⟨[], (some "(*runtime.TypeAssertionError).RuntimeError"), [], none⟩, ⟨[], (some "(*runtime.PanicNilError).Error"), [], none⟩, ⟨[], (some "(*runtime.PanicNilError).RuntimeError"), [], none⟩, ⟨[], (some "(*internal/abi.Type).Align"), [], none⟩, ⟨[], (some "(internal/runtime/maps.unhashableTypeError).Error"), [], none⟩, ⟨[], (some "(internal/runtime/maps.unhashableTypeError).RuntimeError"), [], none⟩, ⟨[], (some "(*hallmark/infer.look).suits"), [], none⟩, ⟨[740, 740], none, [], none⟩, ⟨[161], none, [], none⟩, ⟨[742, 741, 743, 743, 744, 741, 743, 745, 743, 745, 239, 239], none, [], none⟩, ⟨[215], none, [], none⟩, ⟨[32], none, [], none⟩, ⟨[251], none, [], none⟩, ⟨[743, 746], none, [], none⟩, ⟨[251, 34, 89, 88, 252, 253, 254], none, [], none⟩, ⟨[238], none, [], none⟩, ⟨[], none, [], none⟩, ⟨[742, 744, 743, 746, 214, 746, 239, 239], none, [], none⟩, ⟨[], (some "(internal/strconv.Error).Error"), [], none⟩, ⟨[], (some "(*strconv.NumError).Error"), [], none⟩, ⟨[753, 753, 740, 296, 740, 296], none, [], none⟩, ⟨[754], none, [], none⟩, ⟨[212, 755, 235], none, [], none⟩, ⟨[45, 45, 756, 484], none, [], none⟩]
noncomputable def fl27 : List Func := [Tryz.f756, Tryz.f757, Tryz.f758, Tryz.f759, Tryz.f760, Tryz.f761, Tryz.f762, Tryz.f763, Tryz.f764, Tryz.f765, Tryz.f766, Tryz.f767, Tryz.f768, Tryz.f769, Tryz.f770, Tryz.f771, Tryz.f772, Tryz.f773, Tryz.f774, Tryz.f775, Tryz.f776, Tryz.f777, Tryz.f778]
noncomputable def ti27 : List Info := [⟨[757, 758, 759, 760], none, [], none⟩, ⟨[441, 34], none, [], none⟩, ⟨[761, 761, 156], none, [], none⟩, ⟨[755, 762, 762], none, [], none⟩, ⟨[763], none, [], none⟩, ⟨[156], none, [], none⟩, ⟨[32], none, [], none⟩, ⟨[365, 755, 162, 368, 560, 560, 755, 762], none, [], none⟩, ⟨[], (some "(*strings.Builder).Reset"), [], none⟩, ⟨[71, 179, 753], none, [], none⟩, ⟨[], (some "(*errors.errorString).Error"), [], none⟩, ⟨[], (some "(internal/abi.Kind).String"), [], none⟩, ⟨[], (some "var's door: gosem.cut.vars holds initialisers alone; see the manifest's row cutvarsword (look 11, test files too)"), [], none⟩, ⟨[], (some "var's door: hallmark/narrow.facing is laid by its own initialiser, plain data (look 11)"), [], none⟩, ⟨[], (some "var's door: internal/strconv.uint64pow10 is laid by its own initialiser, plain data (look 11)"), [], none⟩, ⟨[], (some "var's door: math/bits.deBruijn32tab is laid by its own initialiser, plain data (look 11)"), [], none⟩, ⟨[], (some "var's door: math/bits.deBruijn64tab is laid by its own initialiser, plain data (look 11)"), [], none⟩, ⟨[], (some "var's door: strconv.ErrRange is laid by its own call of errors.New on one literal (look 11)"), [], none⟩, ⟨[], (some "var's door: strconv.ErrSyntax is laid by its own call of errors.New on one literal (look 11)"), [], none⟩, ⟨[], (some "var's door: the look of gosem.cut.vars went over the folder that the caller named as the repository's root (look 11)"), [], none⟩, ⟨[], (some "var's door: unicode/utf8.acceptRanges is laid by its own initialiser, plain data (look 11)"), [], none⟩, ⟨[], (some "var's door: unicode/utf8.first is laid by its text alone (pinned 1)"), [], none⟩, ⟨[543, 543], none, [7, 8, 3, 2, 6, 5, 4], none⟩]
noncomputable def FL : List (List Func) := [fl0, fl1, fl2, fl3, fl4, fl5, fl6, fl7, fl8, fl9, fl10, fl11, fl12, fl13, fl14, fl15, fl16, fl17, fl18, fl19, fl20, fl21, fl22, fl23, fl24, fl25, fl26, fl27]
noncomputable def T : List (List Info) := [ti0, ti1, ti2, ti3, ti4, ti5, ti6, ti7, ti8, ti9, ti10, ti11, ti12, ti13, ti14, ti15, ti16, ti17, ti18, ti19, ti20, ti21, ti22, ti23, ti24, ti25, ti26, ti27]
theorem hF : Tryz.prog.funcs.toList = FL.flatten := by kernel_rfl
theorem hr : rowsB 28 T = true := by kernel_rfl
end Go.Proofs.LowF
