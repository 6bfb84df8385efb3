/- What comes in as data is a code that can be read. Part of the proof that LowerTests returns true for every input that reads as data, its listed variables laid as the text lays them. -/
import Derived.Test.YtooclgjcffpcgaaGreatDoorW06
import Derived.ChangeArms
import Derived.DataReads
import Derived.ChangeShapes
import Derived.SizedLaws
/- What comes in as data is a code that can be read. -/
namespace Go.Proofs.LowW
open Go.RowKit Go.Proofs.LowM
set_option maxRecDepth 100000
section
variable {H : Type} {enc : TypeId × Value → H} {w : World} {base : Nat} {spare : Nat → Bool} {held : Bool}
theorem cells28 : Tryz.prog.cellsOf 28 = 11 := by kernel_rfl
theorem cells25 : Tryz.prog.cellsOf 25 = 5 := by kernel_rfl
theorem cells3 : Tryz.prog.cellsOf 3 = 1 := by kernel_rfl
theorem cells9 : Tryz.prog.cellsOf 9 = 1 := by kernel_rfl
theorem cells22 : Tryz.prog.cellsOf 22 = 1 := by kernel_rfl
theorem cells23 : Tryz.prog.cellsOf 23 = 1 := by kernel_rfl
theorem cells26 : Tryz.prog.cellsOf 26 = 1 := by kernel_rfl
/-- what a slice's cell holds. -/
theorem open_sl {t e : TypeId} {fuel : Nat} {c : Value} {x : DataW H × List MemPlace} (ht : Tryz.prog.underlying t = some (.slice e)) (h : DataW.trod enc Tryz.prog w base spare held fuel t [c] = some x) : ∃ (p : Option Addr) (l k : Nat), c = .slice p l k := by
  rcases DataW.trod_slice ht h with ⟨h1, _⟩ | ⟨a, len, cap, _, _, _, _, h1, _⟩
  · cases h1; exact ⟨none, 0, 0, rfl⟩
  · cases h1; exact ⟨some a, len, cap, rfl⟩
theorem add_at (b off n : Nat) : (⟨b, off, none⟩ : Addr).add n = ⟨b, off + n, none⟩ := by
  unfold Addr.add
  split
  · rename_i h; subst h; rfl
  · rfl
theorem weights_mem_all {P : Program} {e : TypeId} : ∀ {ds : List (DataW H)} {i : Nat} {d : DataW H}, ds[i]? = some d → ∀ n ∈ d.weights P e, n ∈ DataW.weightsAll P e ds
  | d0 :: ds, 0, d, hd, n, hn => by
    simp only [List.getElem?_cons_zero, Option.some.injEq] at hd
    subst hd
    simp only [DataW.weightsAll, List.mem_append]
    exact .inl hn
  | d0 :: ds, i + 1, d, hd, n, hn => by
    simp only [List.getElem?_cons_succ] at hd
    simp only [DataW.weightsAll, List.mem_append]
    exact .inr (weights_mem_all hd n hn)
  | [], _, _, hd, _, _ => by simp at hd
theorem open_code : ∀ (d fuel : Nat), fuel ≤ d → ∀ (cs : List Value) (x : DataW H × List MemPlace), DataW.trod enc Tryz.prog w base spare held fuel 28 cs = some x → (∀ n ∈ x.1.weights Tryz.prog 28, n ≤ reachBytes) → CodeT w d cs.toArray := by
  intro d
  induction d with
  | zero =>
    intro fuel hf cs x h _
    obtain ⟨xs, n, hn, _⟩ := DataW.trod_struct Tryz.underlying28 h
    omega
  | succ d ih =>
    intro fuel hf cs x h hw
    obtain ⟨xs, n, hn, hx, hlen, hxl, hfl⟩ := DataW.trod_struct Tryz.underlying28 h
    have hwe : ∀ n ∈ DataW.weightsEach Tryz.prog [3, 3, 3, 9, 25, 23, 26] (xs.map (·.1)), n ≤ reachBytes := by
      intro n hn
      refine hw n ?_
      rw [hx]
      simpa [DataW.weights, Tryz.underlying28] using hn
    rw [cells28] at hlen
    match cs, hlen with
    | [c0, c1, c2, c3, c4, c5, c6, c7, c8, c9, c10], _ =>
      have some_ : ∀ i, i < 7 → ∃ y, xs[i]? = some y := fun i hi => ⟨xs[i]'(by rw [hxl]; exact hi), List.getElem?_eq_getElem _⟩
      obtain ⟨y0, e0⟩ := some_ 0 (by decide)
      have h0 : DataW.trod enc Tryz.prog w base spare held n 3 [c0] = some y0 := by
        rw [← e0, ← hfl 0 _ rfl]
        simp [cells3]
      obtain ⟨y1, e1⟩ := some_ 1 (by decide)
      have h1 : DataW.trod enc Tryz.prog w base spare held n 3 [c1] = some y1 := by
        rw [← e1, ← hfl 1 _ rfl]
        simp [cells3]
      obtain ⟨y2, e2⟩ := some_ 2 (by decide)
      have h2 : DataW.trod enc Tryz.prog w base spare held n 3 [c2] = some y2 := by
        rw [← e2, ← hfl 2 _ rfl]
        simp [cells3]
      obtain ⟨y3, e3⟩ := some_ 3 (by decide)
      have h3 : DataW.trod enc Tryz.prog w base spare held n 9 [c3] = some y3 := by
        rw [← e3, ← hfl 3 _ rfl]
        simp [cells9]
      obtain ⟨y4, e4⟩ := some_ 4 (by decide)
      have h4 : DataW.trod enc Tryz.prog w base spare held n 25 [c4, c5, c6, c7, c8] = some y4 := by
        rw [← e4, ← hfl 4 _ rfl]
        simp [cells25]
      obtain ⟨y5, e5⟩ := some_ 5 (by decide)
      have h5 : DataW.trod enc Tryz.prog w base spare held n 23 [c9] = some y5 := by
        rw [← e5, ← hfl 5 _ rfl]
        simp [cells23]
      obtain ⟨y6, e6⟩ := some_ 6 (by decide)
      have h6 : DataW.trod enc Tryz.prog w base spare held n 26 [c10] = some y6 := by
        rw [← e6, ← hfl 6 _ rfl]
        simp [cells26]
      obtain ⟨xs5, n5, hn5, _, _, hxl5, hfl5⟩ := DataW.trod_struct Tryz.underlying25 h4
      have some5 : ∀ i, i < 5 → ∃ y, xs5[i]? = some y := fun i hi => ⟨xs5[i]'(by rw [hxl5]; exact hi), List.getElem?_eq_getElem _⟩
      obtain ⟨z0, f0⟩ := some5 0 (by decide)
      have q0 : DataW.trod enc Tryz.prog w base spare held n5 3 [c4] = some z0 := by
        rw [← f0, ← hfl5 0 _ rfl]
        simp [cells3]
      obtain ⟨z1, f1⟩ := some5 1 (by decide)
      have q1 : DataW.trod enc Tryz.prog w base spare held n5 9 [c5] = some z1 := by
        rw [← f1, ← hfl5 1 _ rfl]
        simp [cells9]
      obtain ⟨z2, f2⟩ := some5 2 (by decide)
      have q2 : DataW.trod enc Tryz.prog w base spare held n5 9 [c6] = some z2 := by
        rw [← f2, ← hfl5 2 _ rfl]
        simp [cells9]
      obtain ⟨z3, f3⟩ := some5 3 (by decide)
      have q3 : DataW.trod enc Tryz.prog w base spare held n5 22 [c7] = some z3 := by
        rw [← f3, ← hfl5 3 _ rfl]
        simp [cells22]
      obtain ⟨z4, f4⟩ := some5 4 (by decide)
      have q4 : DataW.trod enc Tryz.prog w base spare held n5 23 [c8] = some z4 := by
        rw [← f4, ← hfl5 4 _ rfl]
        simp [cells23]
      obtain ⟨o0, r0, _⟩ := DataW.trod_int Tryz.underlying3 h0
      obtain ⟨o1, r1, _⟩ := DataW.trod_int Tryz.underlying3 h1
      obtain ⟨o2, r2, _⟩ := DataW.trod_int Tryz.underlying3 h2
      obtain ⟨o3, r3, rx3, _⟩ := DataW.trod_string Tryz.underlying9 h3
      obtain ⟨o4, r4, _⟩ := DataW.trod_int Tryz.underlying3 q0
      obtain ⟨o5, r5, _⟩ := DataW.trod_string Tryz.underlying9 q1
      obtain ⟨o6, r6, _⟩ := DataW.trod_string Tryz.underlying9 q2
      obtain ⟨p7, l7, k7, r7⟩ := open_sl Tryz.underlying22 q3
      obtain ⟨p8, l8, k8, r8⟩ := open_sl Tryz.underlying23 q4
      obtain ⟨p9, l9, k9, r9⟩ := open_sl Tryz.underlying23 h5
      cases r0; cases r1; cases r2; cases r3; cases r4; cases r5; cases r6; subst r7; subst r8; subst r9
      have hsz' : o3.size < 9223372036854775000 := by
        have h8 := hwe o3.data.toList.length (DataW.weights_mem_each (j := 3) (t := 9) (d := .lit (.string o3.data.toList)) rfl (by rw [List.getElem?_map, e3, rx3]; rfl) _ (by simp [DataW.weights]))
        have h9 := reachBytes_lt
        have h10 : o3.data.toList.length = o3.size := Array.length_toList
        omega
      rcases DataW.trod_slice Tryz.underlying26 h6 with ⟨h7, _⟩ | ⟨a, len, cap, elems, rest, n6, hn6, h7, hx6, _, hlc, hcap, hel, hk, _⟩
      · cases h7
        exact ⟨o0, o1, o2, o3, o4, o5, o6, p7, l7, k7, p8, l8, k8, p9, l9, k9, _, rfl, hsz', .inl ⟨none, 0, rfl⟩⟩
      · cases h7
        rw [cells28] at hk
        by_cases hz : len = 0
        · subst hz
          exact ⟨o0, o1, o2, o3, o4, o5, o6, p7, l7, k7, p8, l8, k8, p9, l9, k9, _, rfl, hsz', .inl ⟨some a, cap, rfl⟩⟩
        · have kid : ∀ i, i < len → ∃ (cs' : List Value) (y : DataW H × List MemPlace), (∀ j, j < 11 → w.cell? ((a.add (i * 11)).add j) = cs'[j]?) ∧ cs'.length = 11 ∧ DataW.trod enc Tryz.prog w base spare held n6 28 cs' = some y ∧ (∀ n ∈ y.1.weights Tryz.prog 28, n ≤ reachBytes) := by
            intro i hi
            have h8 := hk i hi
            have h9 : elems[i]? = some (elems[i]'(by omega)) := List.getElem?_eq_getElem _
            rw [h9, Option.bind_eq_some_iff] at h8
            obtain ⟨cs', h10, h11⟩ := h8
            obtain ⟨_, h12, h13⟩ := World.cells?_some h10
            refine ⟨cs', _, h13, h12, h11, fun n hn => hwe n (DataW.weights_mem_each (j := 6) (t := 26) (d := y6.1) rfl (by rw [List.getElem?_map, e6]; rfl) n ?_)⟩
            rw [hx6]
            simp only [DataW.weights, Tryz.underlying26, List.mem_cons, List.mem_append]
            exact .inr (.inl (weights_mem_all (i := i) (by rw [List.getElem?_map, h9]; rfl) n hn))
          obtain ⟨b, off, spot⟩ := a
          have hspot : spot = none := by
            obtain ⟨cs', y, h13, h12, _, _⟩ := kid 0 (by omega)
            have g0 := h13 0 (by decide)
            rw [List.getElem?_eq_getElem (by omega)] at g0
            simpa [Addr.add] using World.cell?_spot g0
          subst hspot
          refine ⟨o0, o1, o2, o3, o4, o5, o6, p7, l7, k7, p8, l8, k8, p9, l9, k9, _, rfl, hsz', .inr ⟨b, off, len, cap, rfl, by unfold maxLen at hcap; omega, fun i hi => ?_⟩⟩
          obtain ⟨cs', y, h13, h12, h14, h15⟩ := kid i hi
          refine ⟨cs'.toArray, fun j hj => ?_, ih n6 (by omega) cs' y h14 h15⟩
          have := h13 j hj
          rw [add_at, add_at] at this
          rw [this]
          simp
end
end Go.Proofs.LowW
