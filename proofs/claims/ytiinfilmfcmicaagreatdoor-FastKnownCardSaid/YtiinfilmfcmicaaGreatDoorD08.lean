/- Drawn regions: their trace, their static check, any order gives the same. Part of the proof that FastKnown returns true on every schedule, its listed variables laid as the text lays them. -/
import Derived.Test.YtiinfilmfcmicaaGreatDoorD07
namespace Go.Dee
open Go

section
variable {tt : Trie TI} {F G : Nat → Prop} {ρ ρ' : Ren} {s s' t t' : St} {w w' : World}

/-- what isn't given out yet isn't looked at. -/
theorem SRon.up (h : SRon tt G ρ s.h w) (hna : NA s) (hG : ∀ b, F b → b < s.n → G b) : SRon tt F ρ s.h w := by
  have old : ∀ {b}, b < 65536 → hget s.h b ≠ none → b < s.n := fun {b} hb hx => by
    rcases Nat.lt_or_ge b s.n with h | h
    · exact h
    · exact absurd (hna b h hb) hx
  refine ⟨fun b x hF hb hx => h.heap b x (hG b hF (old hb (by rw [hx]; simp))) hb hx, fun b c p q hb hc hlb hlc hp hq e => ?_, h.dom⟩
  exact h.inj b c p q (hG b hb (old hlb.1 hlb.2)) (hG c hc (old hlc.1 hlc.2)) hlb hlc hp hq e
theorem Adv.below (h : Adv tt F ρ s w ρ' s' w') (hna : NA s) (hna' : NA s') (hG : ∀ b, G b ↔ F b ∧ b < s.n) : Adv tt G ρ s w ρ' s' w' := by
  have old : ∀ {b}, b < 65536 → hget s.h b ≠ none → b < s.n := fun {b} hb hx => by
    rcases Nat.lt_or_ge b s.n with h | h
    · exact h
    · exact absurd (hna b h hb) hx
  refine ⟨h.sr.sub fun b hb => hb.imp (fun h => ((hG b).1 h).1) id, h.le, h.fresh, h.n, fun k hk hno => h.frame k hk fun b p hF hl hp => hno b p ((hG b).2 ⟨hF, old hl.1 hl.2⟩) hl hp, ?_, ?_, h.size, h.os, h.output, h.tape⟩
  · intro b p hb hl hp
    rcases h.own b p (hb.imp (fun h => ((hG b).1 h).1) id) hl hp with h1 | ⟨c, q, hc, hlc, hq, e⟩
    · exact .inl h1
    · exact .inr ⟨c, q, (hG c).2 ⟨hc, old hlc.1 hlc.2⟩, hlc, hq, e⟩
  · intro b hb hng hnn
    by_cases hF : F b
    · have hge : s.n ≤ b := Nat.le_of_not_lt fun h => hng ((hG b).2 ⟨hF, h⟩)
      have hge' : s'.n ≤ b := Nat.le_of_not_lt fun h => hnn ⟨hge, h⟩
      rw [hna b hge hb, hna' b hge' hb]
    · exact h.stay b hb hF hnn
/-- the same on other heaps that agree where it looks. -/
theorem Adv.move (h : Adv tt F ρ s w ρ' s' w') (h1 : ∀ b, b < 65536 → F b → hget t.h b = hget s.h b)
    (h2 : ∀ b, b < 65536 → (F b ∨ (s.n ≤ b ∧ b < s'.n)) → hget t'.h b = hget s'.h b) (h3 : ∀ b, b < 65536 → ¬ F b → ¬ (s.n ≤ b ∧ b < s'.n) → hget t'.h b = hget t.h b)
    (hn : t.n = s.n) (hn' : t'.n = s'.n) : Adv tt F ρ t w ρ' t' w' := by
  have e1 : ∀ {b}, F b → (liveIn t.h b ↔ liveIn s.h b) := fun {b} hF => ⟨fun hl => ⟨hl.1, by rw [← h1 b hl.1 hF]; exact hl.2⟩, fun hl => ⟨hl.1, by rw [h1 b hl.1 hF]; exact hl.2⟩⟩
  have e2 : ∀ {b}, (F b ∨ (s.n ≤ b ∧ b < s'.n)) → (liveIn t'.h b ↔ liveIn s'.h b) := fun {b} hF => ⟨fun hl => ⟨hl.1, by rw [← h2 b hl.1 hF]; exact hl.2⟩, fun hl => ⟨hl.1, by rw [h2 b hl.1 hF]; exact hl.2⟩⟩
  constructor
  · rw [hn, hn']
    exact ⟨fun b x hb hlt hx => h.sr.heap b x hb hlt (by rw [← h2 b hlt hb]; exact hx), fun b c p q hb hc hlb hlc => h.sr.inj b c p q hb hc ((e2 hb).1 hlb) ((e2 hc).1 hlc), h.sr.dom⟩
  · exact h.le
  · rw [hn, hn']; exact h.fresh
  · rw [hn, hn']; exact h.n
  · exact fun k hk hno => h.frame k hk fun b p hF hl hp => hno b p hF ((e1 hF).2 hl) hp
  · rw [hn, hn']
    intro b p hb hl hp
    rcases h.own b p hb ((e2 hb).1 hl) hp with h4 | ⟨c, q, hc, hlc, r⟩
    · exact .inl h4
    · exact .inr ⟨c, q, hc, (e1 hc).2 hlc, r⟩
  · rw [hn, hn']; exact h3
  · exact h.size
  · exact h.os
  · exact h.output
  · exact h.tape
/-- only the heaps and the names count. -/
theorem Adv.same (h : Adv tt F ρ s w ρ' s' w') (h1 : ∀ b, b < 65536 → hget t.h b = hget s.h b) (h2 : ∀ b, b < 65536 → hget t'.h b = hget s'.h b) (hn : t.n = s.n) (hn' : t'.n = s'.n) : Adv tt F ρ t w ρ' t' w' :=
  h.move (fun b hb _ => h1 b hb) (fun b hb _ => h2 b hb) (fun b hb hF hnn => by rw [h1 b hb, h2 b hb, h.stay b hb hF hnn]) hn hn'

def box (h : H4) (n : Nat) : St := { h, n, w := [] }
/-- pieces of one region, in whatever order: all names lie between lo and hi. -/
theorem Adv.beside {lo hi : Nat} {h0 h1 h2 : H4} {ρ ρ1 ρ2 : Ren} {w w1 w2 : World} (a : Adv tt Any ρ (box h0 lo) w ρ1 (box h1 hi) w1) (b : Adv tt Any ρ1 (box h1 lo) w1 ρ2 (box h2 hi) w2) :
    Adv tt Any ρ (box h0 lo) w ρ2 (box h2 hi) w2 where
  sr := b.sr
  le := a.le.trans b.le
  fresh := fun x p hp => (b.fresh x p hp).elim (fun h => a.fresh x p h) .inr
  n := a.n
  frame := fun k hk hno => by
    rw [← a.frame k hk hno]
    refine b.frame k (Nat.lt_of_lt_of_le hk a.size) fun x p _ hl hp e => ?_
    rcases a.own x p (.inl trivial) hl hp with ho | ⟨c, q, _, hlc, hq, eq⟩
    · omega
    · exact hno c q trivial hlc hq (eq.trans e)
  own := fun x p _ hl hp => by
    rcases b.own x p (.inl trivial) hl hp with ho | ⟨c, q, _, hlc, hq, eq⟩
    · exact .inl (Nat.le_trans a.size ho)
    · rcases a.own c q (.inl trivial) hlc hq with ho | ⟨d, r, h1, h2, h3, h4⟩
      · exact .inl (by omega)
      · exact .inr ⟨d, r, h1, h2, h3, h4.trans eq⟩
  stay := fun _ _ hF => absurd trivial hF
  size := Nat.le_trans a.size b.size
  os := b.os.trans a.os
  output := b.output.trans a.output
  tape := b.tape.trans a.tape
theorem Adv.widen {lo hi lo' hi' : Nat} {h0 h1 : H4} (h : Adv tt Any ρ (box h0 lo) w ρ' (box h1 hi) w') (hl : lo' ≤ lo) (hh : hi ≤ hi') : Adv tt Any ρ (box h0 lo') w ρ' (box h1 hi') w' where
  sr := h.sr.sub fun _b _ => .inl trivial
  le := h.le
  fresh := fun b p hp => (h.fresh b p hp).imp id fun h => ⟨Nat.le_trans hl h.1, Nat.lt_of_lt_of_le h.2 hh⟩
  n := Nat.le_trans hl (Nat.le_trans h.n hh)
  frame := h.frame
  own := fun b p _ => h.own b p (.inl trivial)
  stay := fun _ _ hF => absurd trivial hF
  size := h.size
  os := h.os
  output := h.output
  tape := h.tape
theorem Adv.drawn (h : SRon tt Any ρ s.h w) : Adv tt Any ρ s w ρ s { w with drawn := w.drawn + 1 } :=
  ⟨(h.sub fun _ _ => trivial : SRon tt (fun b => Any b ∨ (s.n ≤ b ∧ b < s.n)) ρ s.h w) |> fun h => ⟨fun b x hb hl hx => (h.heap b x hb hl hx).mono (.refl _) fun _ _ => rfl, h.inj, h.dom⟩, .refl _, fun _ _ h => .inl h, Nat.le_refl _, fun _ _ _ => rfl,
    fun b p _ hl hp => .inr ⟨b, p, trivial, hl, hp, rfl⟩, fun _ _ hF => absurd trivial hF, Nat.le_refl _, rfl, rfl, rfl⟩
end

/-- a heap that takes the blocks of l out of another. -/
theorem heap_take (h g : H4) (l : List Nat) : ∃ r : H4, ∀ b, b < 65536 → hget r b = if b ∈ l then hget g b else hget h b := by
  induction l with
  | nil => exact ⟨h, fun b _ => by simp⟩
  | cons c l ih =>
    obtain ⟨r, hr⟩ := ih
    by_cases hc : c < 65536
    · refine ⟨hset r c (hget g c), fun b hb => ?_⟩
      rw [hget_hset _ _ _ _ hc hb, hr b hb]
      by_cases e : c = b
      · subst e; simp
      · rw [if_neg e]
        by_cases hm : b ∈ l
        · simp [hm]
        · simp [hm, Ne.symm e]
    · refine ⟨r, fun b hb => ?_⟩
      rw [hr b hb]
      have : b ≠ c := by omega
      simp [this]
end Go.Dee
namespace Go.Dee
open Go

/-! a drawn region: the evaluator's order, step by step -/
def consF {α : Type} (x : α) (f : Nat → α) : Nat → α
  | 0 => x
  | n + 1 => f n

def quiet (S : Nat → St) (RD WR : Nat → List Nat) (CL : Nat → Bool) (p : Nat) : Prop := RD p = [] ∧ WR p = [] ∧ CL p = false ∧ (S (p + 1)).n = (S p).n
def Foot (S : Nat → St) (RD : Nat → List Nat) (CL : Nat → Bool) (p b : Nat) : Prop := (CL p = true ∨ b ∈ RD p) ∧ b < (S p).n

/-- one step of the evaluator, as the model may take it. -/
def StepOK (P : Program) (E : Env) (g nt : Nat) (ops : Array Oper) (F : Nat → Prop) (i : Nat) (o : Oper) (a : AAct) (v : AV) (s s' : St) : Prop :=
  ∀ (ρ : Ren) (w : World) (a' : Act) (K : Act → World → Prop) (Q : Exit → Act → World → Prop), GOK ρ g → SRon E.tt F ρ s.h w → freeIn ρ s.n s'.n → nt ≤ a'.tmps.size →
    (∀ t ∈ o.looksAt ops, V ρ (tget a.tm t) (a'.tmps.getD t undef)) →
    (∀ v' w' ρ', Adv E.tt F ρ s w ρ' s' w' → V ρ' v v' → K (a'.put o.dst v') w') → wpOp P ops Q i K a' w

structure Facts (P : Program) (E : Env) (g nt : Nat) (ops : Array Oper) (ts : List Touch) (l : List Step) (S : Nat → St) (A : Nat → AAct) (VV : Nat → AV) (RD WR : Nat → List Nat) (CL : Nat → Bool) (p : Nat) (st : Step) : Prop where
  put : A (p + 1) = (A p).put st.o.dst (VV p)
  log : Log (S p) (S (p + 1))
  na : NA (S p)
  keep : ∀ b, b < 65536 → b < (S p).n → b ∉ WR p → hget (S (p + 1)).h b = hget (S p).h b
  wr : ∀ b ∈ WR p, b < (S p).n
  ok : StepOK P E g nt ops (Foot S RD CL p) st.i st.o (A p) (VV p) (S p) (S (p + 1))
  ts : ∀ k ∈ ts, hasBit st.pre k.i = true ∨ quiet S RD WR CL p ∨ okPair (RD p) (WR p) (CL p) k = true
  earlier : ∀ q, q < p → ∀ st', l[q]? = some st' → hasBit st.pre st'.i = true ∨ quiet S RD WR CL q ∨ quiet S RD WR CL p ∨
    okPair (RD p) (WR p) (CL p) ⟨st'.i, CL q, WR q, RD q, (S q).n, (S (q + 1)).n⟩ = true

theorem apart_iff {pre : Nat} {rd wr : List Nat} {cl : Bool} {l : List Touch} (h : apart pre rd wr cl l = true) : ∀ k ∈ l, hasBit pre k.i = true ∨ okPair rd wr cl k = true := by
  induction l with
  | nil => intro k hk; cases hk
  | cons x l ih =>
    have h : andB (orB (hasBit pre x.i) (okPair rd wr cl x)) (apart pre rd wr cl l) = true := h
    rw [andB_eq, Bool.and_eq_true, orB_eq, Bool.or_eq_true] at h
    intro k hk
    rcases List.mem_cons.1 hk with rfl | hk
    · exact h.1
    · exact ih h.2 k hk
theorem noBig_iff {l : List Nat} (h : noBig l = true) : ∀ b ∈ l, b < 65536 := by
  induction l with
  | nil => intro b hb; cases hb
  | cons x l ih =>
    have h : andB (isLt x 65536) (noBig l) = true := h
    rw [andB_eq, Bool.and_eq_true] at h
    intro b hb
    rcases List.mem_cons.1 hb with rfl | hb
    · exact isLt_iff.1 h.1
    · exact ih h.2 b hb

section
variable {P : Program} {E : Env} {call : CallF} {g nt : Nat} {ops : Array Oper}

/-- what one step leaves, before the rest of the run is looked at. -/
structure Head (P : Program) (E : Env) (g nt : Nat) (ops : Array Oper) (ts : List Touch) (st : Step) (a : AAct) (s : St) (v : AV) (rd wr : List Nat) (cl : Bool) (s2 : St) (ts2 : List Touch) : Prop where
  log : Log s s2
  keep : ∀ b, b < 65536 → b < s.n → b ∉ wr → hget s2.h b = hget s.h b
  old : ∀ b ∈ wr, b < s.n
  ok : StepOK P E g nt ops (fun b => (cl = true ∨ b ∈ rd) ∧ b < s.n) st.i st.o a v s s2
  ord : ∀ k ∈ ts, hasBit st.pre k.i = true ∨ (rd = [] ∧ wr = [] ∧ cl = false ∧ s2.n = s.n) ∨ okPair rd wr cl k = true
  nxt : (ts2 = ts ∧ rd = [] ∧ wr = [] ∧ cl = false ∧ s2.n = s.n) ∨ ts2 = ⟨st.i, cl, wr, rd, s.n, s2.n⟩ :: ts

theorem joined_keep {s s1 : St} (hlog : Log (clearW s) s1) (hbig : noBig (oldOnly s.n s1.w) = true) :
    (∀ b, b < 65536 → b < s.n → b ∉ oldOnly s.n s1.w → hget s1.h b = hget s.h b) ∧ ∀ b ∈ oldOnly s.n s1.w, b < s.n := by
  refine ⟨fun b hb hlt hm => hlog.keep b hb hlt fun c hc e => ?_, fun b hb => ?_⟩
  · by_cases hold : c < s.n ∨ 65536 ≤ c
    · have h1 := mem_oldOnly.2 ⟨hc, hold⟩
      have h2 := noBig_iff hbig c h1
      rw [Nat.mod_eq_of_lt h2] at e
      exact hm (e ▸ h1)
    · rw [Nat.mod_eq_of_lt (by omega)] at e
      omega
  · have h2 := noBig_iff hbig b hb
    rcases (mem_oldOnly.1 hb).2 with h | h
    · exact h
    · omega

theorem head_of (ht : TTok P E.tt) (hX : ExtOK P E.ext) (hc : CallOK P E.tt g call) (hl : CallLog call) (hops : ∀ o ∈ ops.toList, operOK nt g o = true) {st : Step} (hi : ops[st.i]? = some st.o)
    {a : AAct} {s : St} {ts : List Touch} {k : AAct → St → List Touch → Fin} {e : AExit} {a1 : AAct} {s1 : St} (hna : NA s)
    (h : (if wantedA ops.toList st.o.guard a.tm = true then stepDrawn call st.i st.pre (aop st.o.op E a.tm (clearW s)) st.o a s ts k else k (a.put st.o.dst .top) s ts) = .ok e a1 s1)
    (hk : ∀ {a2 s2 ts2}, k a2 s2 ts2 = .ok e a1 s1 → s2.n ≤ 65536) :
    ∃ v rd wr cl s2 ts2, k (a.put st.o.dst v) s2 ts2 = .ok e a1 s1 ∧ Head P E g nt ops ts st a s v rd wr cl s2 ts2 := by
  have hdst := dsts_of hops
  have hmem : st.o ∈ ops.toList := List.mem_of_getElem? (by rw [Array.getElem?_toList]; exact hi)
  -- a step that is wanted
  have begin_ : ∀ {ρ : Ren} {w : World} {a' : Act} {K : Act → World → Prop} {Q : Exit → Act → World → Prop}, wantedA ops.toList st.o.guard a.tm = true → nt ≤ a'.tmps.size →
      (∀ t ∈ st.o.looksAt ops, V ρ (tget a.tm t) (a'.tmps.getD t undef)) → st.o.wp P a' w K Q → wpOp P ops Q st.i K a' w := by
    intro ρ w a' K Q hwant hsz htm hwp
    unfold wpOp
    rw [hi]
    dsimp only
    rw [wanted_ok (o := st.o) hsz hdst htm, if_pos hwant]
    exact .inl hwp
  split at h
  · rename_i hwant
    have hst := aop_log (o := st.o.op) (E := E) (tm := a.tm) (s := clearW s)
    rcases stepDrawn_ok h with ⟨v, s2, rd, hx, hk1⟩ | ⟨s2, rd, hx, hk1⟩ | ⟨f, args, v, s2, hx, hcl, hk1⟩
    · rw [hx] at hst
      rcases goVal_ok hk1 with ⟨rfl, hw0, hn0, hk2⟩ | hk2
      · -- a step that looks at nothing
        have hsn : s.n ≤ 65536 := hk hk2
        have hlog : Log (clearW s) s2 := hst (by rw [← hn0]; exact hsn)
        have heq : ∀ b, b < 65536 → hget s2.h b = hget s.h b := by
          intro b hb
          rcases Nat.lt_or_ge b s.n with hlt | hge
          · exact hlog.keep b hb hlt (by rw [hw0]; intro c hc; cases hc)
          · rw [hna b hge hb]
            exact hlog.na hna b (by rw [← hn0]; exact hge) hb
        refine ⟨v, [], [], false, s, ts, hk2, .refl s, fun _ _ _ _ => rfl, fun b hb => (by cases hb), ?_, fun k _ => .inr (.inl ⟨rfl, rfl, rfl, rfl⟩), .inl ⟨rfl, rfl, rfl, rfl, rfl⟩⟩
        intro ρ w a' K Q hg hs hf hsz htm hK
        refine begin_ hwant hsz htm (step_val ht hX (opnds_ok (hops _ hmem) hg htm) hx (SRon.up (s := clearW s) hs hna fun b hb => by cases hb) (fun b h1 h2 => by
          rw [← hn0] at h2
          exact absurd h1 (by show ¬ s.n ≤ b; omega)) (by rw [← hn0]; exact hsn) fun v' w' ρ' hadv hv => hK v' w' ρ' ?_ hv)
        have hb := hadv.below (G := fun b => (false = true ∨ b ∈ ([] : List Nat)) ∧ b < s.n) hna (hlog.na hna) (fun b => by
          show (false = true ∨ b ∈ ([] : List Nat)) ∧ b < s.n ↔ b ∈ ([] : List Nat) ∧ b < s.n
          simp)
        exact hb.same (fun _ _ => rfl) (fun b hb => (heq b hb).symm) rfl hn0
      · obtain ⟨h1, h2, h3⟩ := goOn_ok (by simp) hk2
        have hn2' := hk h3
        have hn2 : s2.n ≤ 65536 := hn2'
        have hlog : Log (clearW s) s2 := hst hn2
        obtain ⟨j1, j2⟩ := joined_keep hlog h1
        refine ⟨v, rd, _, false, _, _, h3, .join hlog, j1, j2, ?_, fun k hk => (apart_iff h2 k hk).imp id .inr, .inr rfl⟩
        intro ρ w a' K Q hg hs hf hsz htm hK
        refine begin_ hwant hsz htm (step_val ht hX (opnds_ok (hops _ hmem) hg htm) hx (SRon.up (s := clearW s) hs hna fun b hb hlt => ⟨.inr hb, hlt⟩) hf hn2 fun v' w' ρ' hadv hv => hK v' w' ρ' ?_ hv)
        exact (hadv.below (G := fun b => (false = true ∨ b ∈ rd) ∧ b < s.n) hna (hlog.na hna) (fun b => by
          show (false = true ∨ b ∈ rd) ∧ b < s.n ↔ b ∈ rd ∧ b < s.n
          simp)).same (fun _ _ => rfl) (fun _ _ => rfl) rfl rfl
    · rw [hx] at hst
      obtain ⟨h1, h2, h3⟩ := goOn_ok (by simp) hk1
      have hn2' := hk h3
      have hn2 : s2.n ≤ 65536 := hn2'
      have hlog : Log (clearW s) s2 := hst hn2
      obtain ⟨j1, j2⟩ := joined_keep hlog h1
      refine ⟨.top, rd, _, false, _, _, h3, .join hlog, j1, j2, ?_, fun k hk => (apart_iff h2 k hk).imp id .inr, .inr rfl⟩
      intro ρ w a' K Q hg hs hf hsz htm hK
      refine begin_ hwant hsz htm (step_skip' ht hX (opnds_ok (hops _ hmem) hg htm) hx (SRon.up (s := clearW s) hs hna fun b hb hlt => ⟨.inr hb, hlt⟩) hf hn2 fun w' ρ' hadv => hK undef w' ρ' ?_ V.undef)
      exact (hadv.below (G := fun b => (false = true ∨ b ∈ rd) ∧ b < s.n) hna (hlog.na hna) (fun b => by
        show (false = true ∨ b ∈ rd) ∧ b < s.n ↔ b ∈ rd ∧ b < s.n
        simp)).same (fun _ _ => rfl) (fun _ _ => rfl) rfl rfl
    · obtain ⟨h1, h2, h3⟩ := goOn_ok (by simp) hk1
      have hn2' := hk h3
      have hn2 : s2.n ≤ 65536 := hn2'
      have hlog : Log (clearW s) s2 := (hl f args (clearW s)).1 _ _ hcl hn2
      obtain ⟨j1, j2⟩ := joined_keep hlog h1
      refine ⟨v, [], _, true, _, _, h3, .join hlog, j1, j2, ?_, fun k hk => (apart_iff h2 k hk).imp id .inr, .inr rfl⟩
      intro ρ w a' K Q hg hs hf hsz htm hK
      refine begin_ hwant hsz htm (step_enter (s := clearW s) (s0 := clearW s) ht hX (opnds_ok (hops _ hmem) hg htm) hc hx hcl hg hna (SRon.up (s := clearW s) hs hna fun b _ hlt => ⟨.inl rfl, hlt⟩) hf hn2 fun v' w' ρ' hadv hv => hK v' w' ρ' ?_ hv)
      exact (hadv.below (G := fun b => (true = true ∨ b ∈ ([] : List Nat)) ∧ b < s.n) hna (hlog.na hna) (fun b => by
        show (true = true ∨ b ∈ ([] : List Nat)) ∧ b < s.n ↔ True ∧ b < s.n
        simp)).same (fun _ _ => rfl) (fun _ _ => rfl) rfl rfl
  · rename_i hwant
    refine ⟨.top, [], [], false, s, ts, h, .refl s, fun _ _ _ _ => rfl, fun b hb => (by cases hb), ?_, fun k _ => .inr (.inl ⟨rfl, rfl, rfl, rfl⟩), .inl ⟨rfl, rfl, rfl, rfl, rfl⟩⟩
    intro ρ w a' K Q hg hs hf hsz htm hK
    unfold wpOp
    rw [hi]
    dsimp only
    rw [wanted_ok (o := st.o) hsz hdst htm, if_neg hwant]
    exact hK undef w ρ (.refl hs) V.undef

theorem trace (ht : TTok P E.tt) (hX : ExtOK P E.ext) (hc : CallOK P E.tt g call) (hl : CallLog call) (hops : ∀ o ∈ ops.toList, operOK nt g o = true) :
    ∀ (l : List Step), (∀ st ∈ l, ops[st.i]? = some st.o) → ∀ (a : AAct) (s : St) (ts : List Touch) (e : AExit) (a1 : AAct) (s1 : St), runDrawn E call ops.toList l a s ts = .ok e a1 s1 → s1.n ≤ 65536 → NA s →
      e = .normal ∧ ∃ (S : Nat → St) (A : Nat → AAct) (VV : Nat → AV) (RD WR : Nat → List Nat) (CL : Nat → Bool), S 0 = s ∧ A 0 = a ∧ S l.length = s1 ∧ A l.length = a1 ∧ NA s1 ∧
        ∀ p st, l[p]? = some st → Facts P E g nt ops ts l S A VV RD WR CL p st := by
  intro l
  induction l with
  | nil =>
    intro _ a s ts e a1 s1 h hn hna
    cases h
    exact ⟨rfl, fun _ => s, fun _ => a, fun _ => .top, fun _ => [], fun _ => [], fun _ => false, rfl, rfl, rfl, rfl, hna, fun p st h => by cases h⟩
  | cons st l ih =>
    intro hst a s ts e a1 s1 h hn hna
    rw [runDrawn_cons] at h
    obtain ⟨v, rd, wr, cl, s2, ts2, hk, hd⟩ := head_of ht hX hc hl hops (hst st (by simp)) hna h (fun {a2 s2 ts2} hk => Nat.le_trans (runDrawn_log hl _ _ _ _ _ _ _ hk hn).n hn)
    obtain ⟨he, S, A, VV, RD, WR, CL, h0, h1, h2, h3, h4, hf⟩ := ih (fun x hx => hst x (by simp [hx])) _ _ _ _ _ _ hk hn (hd.log.na hna)
    refine ⟨he, consF s S, consF a A, consF v VV, consF rd RD, consF wr WR, consF cl CL, rfl, rfl, h2, h3, h4, ?_⟩
    intro p st' hp
    cases p with
    | zero =>
      have : st = st' := by simpa using hp
      subst this
      refine ⟨by show A 0 = _; rw [h1]; rfl, by show Log s (S 0); rw [h0]; exact hd.log, hna, by show ∀ b, b < 65536 → b < s.n → b ∉ wr → hget (S 0).h b = _; rw [h0]; exact hd.keep, hd.old, ?_, ?_, fun q hq => absurd hq (by omega)⟩
      · show StepOK P E g nt ops (fun b => (cl = true ∨ b ∈ rd) ∧ b < s.n) st.i st.o a v s (S 0)
        rw [h0]; exact hd.ok
      · intro k hk
        rcases hd.ord k hk with h | ⟨q1, q2, q3, q4⟩ | h
        · exact .inl h
        · refine .inr (.inl ⟨q1, q2, q3, ?_⟩)
          show (S 0).n = s.n
          rw [h0]; exact q4
        · exact .inr (.inr h)
    | succ p =>
      have hp' : l[p]? = some st' := by simpa using hp
      have hF := hf p st' hp'
      have hsub : ∀ k ∈ ts, k ∈ ts2 := fun k hk => by
        rcases hd.nxt with ⟨h, _⟩ | h
        · rw [h]; exact hk
        · rw [h]; exact List.mem_cons_of_mem _ hk
      refine ⟨hF.put, hF.log, hF.na, hF.keep, hF.wr, hF.ok, fun k hk => hF.ts k (hsub k hk), ?_⟩
      intro q hq st'' hst''
      cases q with
      | zero =>
        have : st = st'' := by simpa using hst''
        subst this
        rcases hd.nxt with ⟨_, q1, q2, q3, q4⟩ | h
        · refine .inr (.inl ⟨q1, q2, q3, ?_⟩)
          show (S 0).n = s.n
          rw [h0]; exact q4
        · rcases hF.ts _ (by rw [h]; exact List.mem_cons_self) with h | h | h
          · exact .inl h
          · exact .inr (.inr (.inl h))
          · refine .inr (.inr (.inr ?_))
            show okPair (RD p) (WR p) (CL p) ⟨st.i, cl, wr, rd, s.n, (S 0).n⟩ = true
            rw [h0]; exact h
      | succ q => exact hF.earlier q (by omega) st'' (by simpa using hst'')
end
end Go.Dee
namespace Go.Dee
noncomputable section
open Go

/-! what is checked of a drawn region, whatever the run -/
def bitN (i : Nat) : Nat := Nat.pow (nat_lit 2) i
def opndM (x : Operand) : Nat := Operand.rec (motive := fun _ => Nat) (fun t => bitN t) (fun _ => nat_lit 0) (fun _ => nat_lit 0) (fun _ => nat_lit 0) x
def orM {α : Type} (f : α → Nat) (l : List α) : Nat := List.rec (motive := fun _ => Nat) (nat_lit 0) (fun x _ ih => Nat.lor (f x) ih) l
def dstM (d : Option Tmp) : Nat := Option.rec (motive := fun _ => Nat) (nat_lit 0) bitN d
def headM (l : List Oper) : Nat := List.rec (motive := fun _ => Nat) (nat_lit 0) (fun o _ _ => dstM o.dst) l
def guardM (ops : List Oper) (g : Option (Nat × Bool)) : Nat := Option.rec (motive := fun _ => Nat) (nat_lit 0) (fun p => headM (dropO p.1 ops)) g
def lookM (ops : List Oper) (o : Oper) : Nat := Nat.lor (orM opndM o.op.operands.toList) (guardM ops o.guard)
structure Info where
  i : Nat
  pre : Nat
  d : Nat
  lk : Nat
def bindsA (e : Edge) : Bool := match e.ground with | .textOnly _ => false | .gcOnly _ => false | _ => true
def preAt (i : Nat) (l : List Info) : Nat := List.rec (motive := fun _ => Nat) (nat_lit 0) (fun x _ ih => bifN (Nat.beq x.i i) x.pre ih) l
def inDone (i : Nat) (l : List Info) : Bool := List.rec (motive := fun _ => Bool) false (fun x _ ih => orB (Nat.beq x.i i) ih) l
def edgeM (l : List Info) (e : Edge) : Nat := bifN (bindsA e) (Nat.lor (bitN e.on) (preAt e.on l)) (nat_lit 0)
def edgeOK (l : List Info) (e : Edge) : Bool := orB (notB (bindsA e)) (inDone e.on l)
def isZ (n : Nat) : Bool := Nat.beq n (nat_lit 0)
def noClash (pre d lk : Nat) (x : Info) : Bool := orB (hasBit pre x.i) (andB (isZ (Nat.land x.d lk)) (andB (isZ (Nat.land x.d d)) (isZ (Nat.land d x.lk))))
def infoAt (ops : List Oper) (st : Step) : Info := ⟨st.i, st.pre, dstM st.o.dst, lookM ops st.o⟩
def stepCheck (x : Info) (after : List Edge) (done : List Info) : Bool :=
  andB (allB (edgeOK done) after) (andB (Nat.beq (Nat.lor x.pre (orM (edgeM done) after)) (orM (edgeM done) after)) (andB (notB (inDone x.i done)) (allB (noClash x.pre x.d x.lk) done)))
def stepsCheck (ops : List Oper) (l : List Step) : List Info → Bool :=
  List.rec (motive := fun _ => List Info → Bool) (fun _ => true) (fun st _ ih done => andB (stepCheck (infoAt ops st) st.o.after.toList done) (ih (infoAt ops st :: done))) l
def regCheck (ops : List Oper) (l : List Step) : Bool :=
  andB (Nat.ble (lenL l) (lenL ops)) (andB (stepsCheck ops l []) (Nat.beq (orM (fun st => bitN st.i) l) (Nat.sub (bitN (lenL ops)) (nat_lit 1))))

theorem hasBit_eq (m i : Nat) : hasBit m i = m.testBit i := by
  rw [Nat.testBit_eq_decide_div_mod_eq]
  show Nat.beq (m / 2 ^ i % 2) 1 = _
  exact beq_eq' _ _
theorem bitN_bit (i j : Nat) : hasBit (bitN i) j = decide (i = j) := by
  rw [hasBit_eq]
  exact Nat.testBit_two_pow
theorem lor_bit (a b i : Nat) : hasBit (Nat.lor a b) i = (hasBit a i || hasBit b i) := by
  rw [hasBit_eq, hasBit_eq, hasBit_eq]
  exact Nat.testBit_or a b i
theorem zero_bit (i : Nat) : hasBit 0 i = false := by rw [hasBit_eq]; exact Nat.zero_testBit i
theorem land_bit {a b : Nat} (h : isZ (Nat.land a b) = true) (i : Nat) : ¬ (hasBit a i = true ∧ hasBit b i = true) := by
  rintro ⟨h1, h2⟩
  rw [hasBit_eq] at h1 h2
  have h3 : (a &&& b).testBit i = true := by rw [Nat.testBit_and, h1, h2]; rfl
  have h4 : a &&& b = 0 := Nat.beq_eq.mp h
  rw [h4, Nat.zero_testBit] at h3
  cases h3
theorem orM_bit {α : Type} {f : α → Nat} {l : List α} {i : Nat} : hasBit (orM f l) i = true ↔ ∃ x ∈ l, hasBit (f x) i = true := by
  induction l with
  | nil => show hasBit 0 i = true ↔ _; rw [zero_bit]; simp
  | cons y l ih =>
    show hasBit (Nat.lor (f y) (orM f l)) i = true ↔ _
    rw [lor_bit, Bool.or_eq_true, ih]
    simp
theorem bindsA_eq (e : Edge) : Region.binds .any e = bindsA e := by
  unfold Region.binds bindsA
  cases e.ground <;> rfl
theorem dstM_bit {d : Option Tmp} {t : Nat} : hasBit (dstM d) t = true ↔ d = some t := by
  cases d with
  | none => show hasBit 0 t = true ↔ _; rw [zero_bit]; simp
  | some d => show hasBit (bitN d) t = true ↔ _; rw [bitN_bit]; simp
theorem lookM_bit {ops : Array Oper} {o : Oper} {t : Nat} (h : t ∈ o.looksAt ops) : hasBit (lookM ops.toList o) t = true := by
  unfold lookM
  rw [lor_bit, Bool.or_eq_true]
  unfold Oper.looksAt at h
  rcases List.mem_append.1 h with h | h
  · left
    obtain ⟨x, hx, e⟩ := List.mem_filterMap.1 h
    refine orM_bit.2 ⟨x, hx, ?_⟩
    cases x with
    | tmp u =>
      have e : u = t := by simpa using e
      subst e
      show hasBit (bitN u) u = true
      rw [bitN_bit]; simp
    | _ => cases e
  · right
    cases hg : o.guard with
    | none => rw [hg] at h; cases h
    | some p =>
      obtain ⟨j, want⟩ := p
      rw [hg] at h
      dsimp only at h
      show hasBit (headM (dropO j ops.toList)) t = true
      have hh := dropO_head (l := ops.toList) (j := j)
      rw [Array.getElem?_toList] at hh
      cases hj : ops[j]? with
      | none => rw [hj] at h; cases h
      | some q =>
        rw [hj] at hh h
        cases hd : dropO j ops.toList with
        | nil => rw [hd] at hh; cases hh
        | cons q' r =>
          rw [hd] at hh
          cases hh
          show hasBit (dstM q.dst) t = true
          rw [dstM_bit]
          cases hq : q.dst with
          | none => simp [hq] at h
          | some d => simp [hq] at h; rw [h]
theorem preAt_bit {i j : Nat} {l : List Info} (h : hasBit (preAt i l) j = true) : ∃ x ∈ l, x.i = i ∧ hasBit x.pre j = true := by
  induction l with
  | nil => have h : hasBit 0 j = true := h; rw [zero_bit] at h; cases h
  | cons x l ih =>
    have h : hasBit (bifN (Nat.beq x.i i) x.pre (preAt i l)) j = true := h
    rw [bifN_eq] at h
    cases hb : Nat.beq x.i i with
    | true => rw [hb] at h; exact ⟨x, by simp, Nat.beq_eq.mp hb, h⟩
    | false => rw [hb] at h; obtain ⟨y, h1, h2⟩ := ih h; exact ⟨y, by simp [h1], h2⟩
theorem inDone_iff {i : Nat} {l : List Info} : inDone i l = true ↔ ∃ x ∈ l, x.i = i := by
  induction l with
  | nil => exact ⟨fun h => (by cases h), fun ⟨_, h, _⟩ => (by cases h)⟩
  | cons x l ih =>
    show orB (Nat.beq x.i i) (inDone i l) = true ↔ _
    rw [orB_eq, Bool.or_eq_true, ih]
    constructor
    · rintro (h | ⟨y, h1, h2⟩)
      · exact ⟨x, by simp, Nat.beq_eq.mp h⟩
      · exact ⟨y, by simp [h1], h2⟩
    · rintro ⟨y, h1, h2⟩
      rcases List.mem_cons.1 h1 with rfl | h1
      · exact .inl (Nat.beq_eq.mpr h2)
      · exact .inr ⟨y, h1, h2⟩

theorem stepsCheck_at {ops : List Oper} : ∀ (l prev : List Step), stepsCheck ops l (prev.reverse.map (infoAt ops)) = true → ∀ p st, l[p]? = some st →
    stepCheck (infoAt ops st) st.o.after.toList ((prev ++ l.take p).reverse.map (infoAt ops)) = true := by
  intro l
  induction l with
  | nil => intro prev _ p st h; cases h
  | cons x l ih =>
    intro prev h p st hp
    have h : andB (stepCheck (infoAt ops x) x.o.after.toList (prev.reverse.map (infoAt ops))) (stepsCheck ops l (infoAt ops x :: prev.reverse.map (infoAt ops))) = true := h
    rw [andB_eq, Bool.and_eq_true] at h
    cases p with
    | zero =>
      have : x = st := by simpa using hp
      subst this
      simpa using h.1
    | succ p =>
      have := ih (prev ++ [x]) (by simpa using h.2) p st (by simpa using hp)
      simpa using this

/-- what the check says. -/
structure Static (ops : Array Oper) (l : List Step) : Prop where
  len : l.length ≤ ops.size
  at_ : ∀ (p : Nat) (st : Step), l[p]? = some st → ops[st.i]? = some st.o
  cover : ∀ i, i < ops.size → ∃ (p : Nat) (st : Step), l[p]? = some st ∧ st.i = i
  uniq : ∀ (p q : Nat) (st st' : Step), l[p]? = some st → l[q]? = some st' → st.i = st'.i → p = q
  edges : ∀ (p : Nat) (st : Step), l[p]? = some st → ∀ e ∈ st.o.after, Region.binds .any e = true → ∃ q, q < p ∧ ∃ st' : Step, l[q]? = some st' ∧ st'.i = e.on
  pre : ∀ (p : Nat) (st : Step), l[p]? = some st → ∀ j : Nat, hasBit st.pre j = true → ∃ e ∈ st.o.after, Region.binds .any e = true ∧ (j = e.on ∨ ∃ q, q < p ∧ ∃ st' : Step, l[q]? = some st' ∧ st'.i = e.on ∧ hasBit st'.pre j = true)
  tmps : ∀ (p : Nat) (st : Step), l[p]? = some st → ∀ q, q < p → ∀ st' : Step, l[q]? = some st' → hasBit st.pre st'.i = true ∨
    ((∀ d, st'.o.dst = some d → d ∉ st.o.looksAt ops ∧ st.o.dst ≠ some d) ∧ ∀ d, st.o.dst = some d → d ∉ st'.o.looksAt ops)

theorem steps_at {ops : Array Oper} : ∀ (xs ys : List Nat), ∀ st ∈ steps ops.toList xs ys, ops[st.i]? = some st.o := by
  intro xs
  induction xs with
  | nil => intro ys st h; cases h
  | cons x xs ih =>
    intro ys
    cases ys with
    | nil => intro st h; cases h
    | cons y ys =>
      show ∀ st ∈ stepAt x y (dropO x ops.toList) (steps ops.toList xs ys), _
      intro st hst
      have hh := dropO_head (l := ops.toList) (j := x)
      rw [Array.getElem?_toList] at hh
      cases hd : dropO x ops.toList with
      | nil => rw [hd] at hst; exact ih ys st hst
      | cons o r =>
        rw [hd] at hst hh
        rcases List.mem_cons.1 (show st ∈ (⟨x, y, o⟩ : Step) :: steps ops.toList xs ys from hst) with rfl | h
        · exact hh.symm
        · exact ih ys st h

theorem static_of {ops : Array Oper} {xs ys : List Nat} (h : regCheck ops.toList (steps ops.toList xs ys) = true) : Static ops (steps ops.toList xs ys) := by
  have hat := steps_at (ops := ops) xs ys
  revert h hat
  generalize steps ops.toList xs ys = l
  intro h hat
  unfold regCheck at h
  rw [andB_eq, Bool.and_eq_true, andB_eq, Bool.and_eq_true] at h
  obtain ⟨h0, h1, h2⟩ := h
  have mem : ∀ {p : Nat} {st : Step}, l[p]? = some st → st ∈ l := fun h => List.mem_of_getElem? h
  have took : ∀ {p : Nat} {x : Info}, x ∈ (([] : List Step) ++ l.take p).reverse.map (infoAt ops.toList) → ∃ q, q < p ∧ ∃ st' : Step, l[q]? = some st' ∧ x = infoAt ops.toList st' := by
    intro p x hx
    simp only [List.nil_append, List.mem_map, List.mem_reverse] at hx
    obtain ⟨st', hm, rfl⟩ := hx
    obtain ⟨q, hq⟩ := List.mem_iff_getElem?.1 hm
    rw [List.getElem?_take] at hq
    split at hq
    · rename_i hlt; exact ⟨q, hlt, st', hq, rfl⟩
    · cases hq
  have put : ∀ {p q : Nat} {st' : Step}, q < p → l[q]? = some st' → infoAt ops.toList st' ∈ (([] : List Step) ++ l.take p).reverse.map (infoAt ops.toList) := by
    intro p q st' hq hst
    simp only [List.nil_append, List.mem_map, List.mem_reverse]
    exact ⟨st', List.mem_of_getElem? (i := q) (by rw [List.getElem?_take, if_pos hq]; exact hst), rfl⟩
  have chk : ∀ (p : Nat) (st : Step), l[p]? = some st → _ := fun p st hp => stepsCheck_at l [] h1 p st hp
  have four : ∀ (p : Nat) (st : Step), l[p]? = some st → (∀ e ∈ st.o.after, Region.binds .any e = true → ∃ q, q < p ∧ ∃ st' : Step, l[q]? = some st' ∧ st'.i = e.on) ∧
      (∀ j : Nat, hasBit st.pre j = true → ∃ e ∈ st.o.after, Region.binds .any e = true ∧ (j = e.on ∨ ∃ q, q < p ∧ ∃ st' : Step, l[q]? = some st' ∧ st'.i = e.on ∧ hasBit st'.pre j = true)) ∧
      (∀ q, q < p → ∀ st' : Step, l[q]? = some st' → st'.i ≠ st.i) ∧
      (∀ q, q < p → ∀ st' : Step, l[q]? = some st' → hasBit st.pre st'.i = true ∨ ((∀ d, st'.o.dst = some d → d ∉ st.o.looksAt ops ∧ st.o.dst ≠ some d) ∧ ∀ d, st.o.dst = some d → d ∉ st'.o.looksAt ops)) := by
    intro p st hp
    have := chk p st hp
    unfold stepCheck at this
    simp only [andB_eq, Bool.and_eq_true, allB_iff] at this
    obtain ⟨c1, c2, c3, c4⟩ := this
    refine ⟨fun e he hb => ?_, fun j hj => ?_, fun q hq st' hst' heq => ?_, fun q hq st' hst' => ?_⟩
    · have := c1 e (Array.mem_toList_iff.2 he)
      unfold edgeOK at this
      rw [orB_eq, Bool.or_eq_true, notB_eq, ← bindsA_eq, hb] at this
      obtain ⟨x, hx, hi⟩ := inDone_iff.1 (this.resolve_left (by simp))
      obtain ⟨q, hq, st', hst', rfl⟩ := took hx
      exact ⟨q, hq, st', hst', hi⟩
    · have c2 : Nat.lor st.pre (orM (edgeM ((([] : List Step) ++ l.take p).reverse.map (infoAt ops.toList))) st.o.after.toList) = _ := Nat.beq_eq.mp c2
      have : hasBit (orM (edgeM ((([] : List Step) ++ l.take p).reverse.map (infoAt ops.toList))) st.o.after.toList) j = true := by rw [← c2, lor_bit, hj]; rfl
      obtain ⟨e, he, hb⟩ := orM_bit.1 this
      unfold edgeM at hb
      rw [bifN_eq] at hb
      cases hbi : bindsA e with
      | false => rw [hbi] at hb; exact absurd hb (by show ¬ hasBit 0 j = true; rw [zero_bit]; simp)
      | true =>
        rw [hbi] at hb
        have hb : hasBit (Nat.lor (bitN e.on) (preAt e.on _)) j = true := hb
        rw [lor_bit, Bool.or_eq_true, bitN_bit, decide_eq_true_iff] at hb
        refine ⟨e, Array.mem_toList_iff.1 he, by rw [bindsA_eq, hbi], ?_⟩
        rcases hb with h | h
        · exact .inl h.symm
        · obtain ⟨x, hx, hi, hpre⟩ := preAt_bit h
          obtain ⟨q, hq, st', hst', rfl⟩ := took hx
          exact .inr ⟨q, hq, st', hst', hi, hpre⟩
    · rw [notB_eq, Bool.not_eq_true'] at c3
      have : inDone (infoAt ops.toList st).i ((([] : List Step) ++ l.take p).reverse.map (infoAt ops.toList)) = true := inDone_iff.2 ⟨_, put hq hst', heq⟩
      rw [this] at c3
      cases c3
    · have := c4 _ (put hq hst')
      unfold noClash at this
      simp only [orB_eq, Bool.or_eq_true, andB_eq, Bool.and_eq_true] at this
      refine this.imp id fun ⟨d1, d2, d3⟩ => ⟨fun d hd => ⟨fun hl => ?_, fun hd' => ?_⟩, fun d hd hl => ?_⟩
      · exact land_bit d1 d ⟨dstM_bit.2 hd, lookM_bit hl⟩
      · exact land_bit d2 d ⟨dstM_bit.2 hd, dstM_bit.2 hd'⟩
      · exact land_bit d3 d ⟨dstM_bit.2 hd, lookM_bit hl⟩
  refine ⟨by simpa [lenL_eq] using Nat.le_of_ble_eq_true h0, fun p st hp => hat st (mem hp), fun i hi => ?_, ?_, fun p st hp => (four p st hp).1, fun p st hp => (four p st hp).2.1, fun p st hp => (four p st hp).2.2.2⟩
  · have h2 := Nat.beq_eq.mp h2
    have : hasBit (orM (fun st : Step => bitN st.i) l) i = true := by
      rw [h2, hasBit_eq]
      show (2 ^ (lenL ops.toList) - 1).testBit i = true
      rw [Nat.testBit_two_pow_sub_one, lenL_eq]
      simpa using hi
    obtain ⟨st, hm, hb⟩ := orM_bit.1 this
    obtain ⟨p, hp⟩ := List.mem_iff_getElem?.1 hm
    rw [bitN_bit, decide_eq_true_iff] at hb
    exact ⟨p, st, hp, hb⟩
  · intro p q st st' hp hq heq
    rcases Nat.lt_trichotomy p q with h | h | h
    · exact absurd heq ((four q st' hq).2.2.1 p h st hp)
    · exact h
    · exact absurd heq.symm ((four p st hp).2.2.1 q h st' hq)
end
end Go.Dee
namespace Go.Dee
open Go

theorem count_lt {f g : Nat → Bool} {p : Nat} (h : ∀ q, f q = true → g q = true) (hf : f p = false) (hg : g p = true) : ∀ l : List Nat, p ∈ l → l.countP f < l.countP g := by
  intro l
  induction l with
  | nil => intro hp; cases hp
  | cons x l ih =>
    intro hp
    have hle : l.countP f ≤ l.countP g := List.countP_mono_left fun q _ => h q
    rw [List.countP_cons, List.countP_cons]
    rcases List.mem_cons.1 hp with rfl | hp
    · simp only [hf, hg, Bool.false_eq_true, if_false, if_true]
      omega
    · have := ih hp
      cases hfx : f x with
      | false => simp only [Bool.false_eq_true, if_false]; split <;> omega
      | true => simp only [h x hfx, if_true]; omega

theorem notIn_of_apart {k : Touch} {l : List Nat} (h : apartAll k l = true) : ∀ b ∈ l, b ∉ k.wr ∧ ¬ (k.lo ≤ b ∧ b < k.hi) := by
  induction l with
  | nil => intro b hb; cases hb
  | cons x l ih =>
    have h : andB (apartOne k x) (apartAll k l) = true := h
    rw [andB_eq, Bool.and_eq_true] at h
    intro b hb
    rcases List.mem_cons.1 hb with rfl | hb
    · have h1 := h.1
      unfold apartOne at h1
      simp only [notB_eq, orB_eq, andB_eq, Bool.not_eq_true', Bool.or_eq_false_iff] at h1
      refine ⟨fun hm => ?_, fun ⟨h2, h3⟩ => ?_⟩
      · rw [memN_iff.2 hm] at h1; cases h1.1
      · have h4 := h1.2
        rw [Nat.ble_eq.mpr h2, isLt_iff.2 h3] at h4
        cases h4
    · exact ih h.2 b hb
theorem notIn_of_writes {k : Touch} {l : List Nat} (h : writesApart k l = true) : ∀ b ∈ l, (k.call = true → ¬ b < k.hi) ∧ (k.call = false → b ∉ k.rd) := by
  induction l with
  | nil => intro b hb; cases hb
  | cons x l ih =>
    have h : andB (notB (bifB k.call (isLt x k.hi) (memN x k.rd))) (writesApart k l) = true := h
    rw [andB_eq, Bool.and_eq_true] at h
    intro b hb
    rcases List.mem_cons.1 hb with rfl | hb
    · have h1 := h.1
      rw [notB_eq, Bool.not_eq_true'] at h1
      cases hc : k.call with
      | true =>
        rw [hc] at h1
        have h1 : isLt b k.hi = false := h1
        exact ⟨fun _ hlt => (by rw [isLt_iff.2 hlt] at h1; cases h1), fun h => (by cases h)⟩
      | false =>
        rw [hc] at h1
        have h1 : memN b k.rd = false := h1
        exact ⟨fun h => (by cases h), fun _ hm => (by rw [memN_iff.2 hm] at h1; cases h1)⟩
    · exact ih h.2 b hb

structure Run (P : Program) (E : Env) (g nt : Nat) (ops : Array Oper) (l : List Step) (S : Nat → St) (A : Nat → AAct) (VV : Nat → AV) (RD WR : Nat → List Nat) (CL : Nat → Bool) : Prop extends Static ops l where
  facts : ∀ (p : Nat) (st : Step), l[p]? = some st → Facts P E g nt ops [] l S A VV RD WR CL p st
  top : (S l.length).n ≤ 65536
  na : NA (S l.length)
  opers : ∀ o ∈ ops.toList, operOK nt g o = true
  small : nt ≤ 256

section
variable {P : Program} {E : Env} {g nt : Nat} {ops : Array Oper} {l : List Step} {S : Nat → St} {A : Nat → AAct} {VV : Nat → AV} {RD WR : Nat → List Nat} {CL : Nat → Bool}

def Touches (S : Nat → St) (WR : Nat → List Nat) (q b : Nat) : Prop := b ∈ WR q ∨ ((S q).n ≤ b ∧ b < (S (q + 1)).n)


theorem Run.get (_R : Run P E g nt ops l S A VV RD WR CL) {p : Nat} (hp : p < l.length) : ∃ st, l[p]? = some st := ⟨l[p], List.getElem?_eq_getElem hp⟩
theorem Run.lt (_R : Run P E g nt ops l S A VV RD WR CL) {p : Nat} {st : Step} (hp : l[p]? = some st) : p < l.length := (List.getElem?_eq_some_iff.1 hp).1
theorem Run.mono (R : Run P E g nt ops l S A VV RD WR CL) : ∀ {p q : Nat}, p ≤ q → q ≤ l.length → (S p).n ≤ (S q).n := by
  intro p q hpq hq
  induction q with
  | zero => have : p = 0 := by omega
            subst this; exact Nat.le_refl _
  | succ q ih =>
    rcases Nat.lt_or_ge p (q + 1) with h | h
    · obtain ⟨st, hst⟩ := R.get (p := q) (by omega)
      exact Nat.le_trans (ih (by omega) (by omega)) (R.facts q st hst).log.n
    · have : p = q + 1 := by omega
      subst this; exact Nat.le_refl _
theorem Run.naAt (R : Run P E g nt ops l S A VV RD WR CL) {p : Nat} (hp : p ≤ l.length) : NA (S p) := by
  rcases Nat.lt_or_ge p l.length with h | h
  · obtain ⟨st, hst⟩ := R.get h
    exact (R.facts p st hst).na
  · have : p = l.length := by omega
    subst this; exact R.na
theorem Run.one (R : Run P E g nt ops l S A VV RD WR CL) {p b : Nat} (hp : p < l.length) (hb : b < 65536) (ht : ¬ Touches S WR p b) : hget (S (p + 1)).h b = hget (S p).h b := by
  obtain ⟨st, hst⟩ := R.get hp
  have hF := R.facts p st hst
  rcases Nat.lt_or_ge b (S p).n with h | h
  · exact hF.keep b hb h fun hm => ht (.inl hm)
  · rcases Nat.lt_or_ge b (S (p + 1)).n with h' | h'
    · exact absurd (.inr ⟨h, h'⟩) ht
    · rw [R.naAt (p := p + 1) (by omega) b h' hb, hF.na b h hb]
theorem Run.steady (R : Run P E g nt ops l S A VV RD WR CL) {b : Nat} (hb : b < 65536) {p : Nat} : ∀ {q : Nat}, p ≤ q → q ≤ l.length → (∀ j, p ≤ j → j < q → ¬ Touches S WR j b) → hget (S q).h b = hget (S p).h b := by
  intro q hpq hq hno
  induction q with
  | zero => have : p = 0 := by omega
            subst this; rfl
  | succ q ih =>
    rcases Nat.lt_or_ge p (q + 1) with h | h
    · rw [R.one (by omega) hb (hno q (by omega) (by omega)), ih (by omega) (by omega) fun j h1 h2 => hno j h1 (by omega)]
    · have : p = q + 1 := by omega
      subst this; rfl
theorem Run.dlt (R : Run P E g nt ops l S A VV RD WR CL) {p : Nat} {st : Step} (hp : l[p]? = some st) : ∀ t, st.o.dst = some t → t < 256 := fun t ht =>
  Nat.lt_of_lt_of_le (dstOK_iff (dsts_of R.opers st.o (List.mem_of_getElem? (by rw [Array.getElem?_toList]; exact R.at_ p st hp))) t ht) R.small
theorem Run.steadyT (R : Run P E g nt ops l S A VV RD WR CL) {t : Nat} (ht : t < 256) {p : Nat} : ∀ {q : Nat}, p ≤ q → q ≤ l.length → (∀ j st, p ≤ j → j < q → l[j]? = some st → st.o.dst ≠ some t) → tget (A q).tm t = tget (A p).tm t := by
  intro q hpq hq hno
  induction q with
  | zero => have : p = 0 := by omega
            subst this; rfl
  | succ q ih =>
    rcases Nat.lt_or_ge p (q + 1) with h | h
    · obtain ⟨st, hst⟩ := R.get (p := q) (by omega)
      rw [(R.facts q st hst).put, aput_tm _ _ _ (R.dlt hst) ht, if_neg (hno q st (by omega) (by omega) hst), ih (by omega) (by omega) fun j st h1 h2 => hno j st h1 (by omega)]
    · have : p = q + 1 := by omega
      subst this; rfl
theorem Run.dsAt (R : Run P E g nt ops l S A VV RD WR CL) : ∀ {q : Nat}, q ≤ l.length → (A q).ds = (A 0).ds := by
  intro q hq
  induction q with
  | zero => rfl
  | succ q ih =>
    obtain ⟨st, hst⟩ := R.get (p := q) (by omega)
    rw [(R.facts q st hst).put, aput_ds, ih (by omega)]

/-- two steps without an order. -/
theorem Run.pair (R : Run P E g nt ops l S A VV RD WR CL) {p q : Nat} {st st' : Step} (hp : l[p]? = some st) (hq : l[q]? = some st') (hlt : q < p) (hno : ¬ hasBit st.pre st'.i = true) (b : Nat) :
    (Foot S RD CL p b → ¬ Touches S WR q b) ∧ (Touches S WR p b → ¬ Touches S WR q b) ∧ (Foot S RD CL q b → ¬ Touches S WR p b) := by
  have hF := R.facts p st hp
  have hG := R.facts q st' hq
  have hpl := R.lt hp
  have hm1 : (S (q + 1)).n ≤ (S p).n := R.mono (by omega) (by omega)
  have hm2 : (S q).n ≤ (S (q + 1)).n := R.mono (by omega) (by omega)
  have qt : ∀ {r}, quiet S RD WR CL r → ¬ Touches S WR r b := fun {r} hqt ht => by
    obtain ⟨_, h2, _, h4⟩ := hqt
    rcases ht with h | h
    · rw [h2] at h; cases h
    · omega
  have qf : ∀ {r}, quiet S RD WR CL r → ¬ Foot S RD CL r b := fun {r} hqt hf => by
    obtain ⟨h1, _, h3, _⟩ := hqt
    rcases hf.1 with h | h
    · rw [h3] at h; cases h
    · rw [h1] at h; cases h
  rcases hF.earlier q hlt st' hq with h | h | h | h
  · exact absurd h hno
  · exact ⟨fun _ => qt h, fun _ => qt h, fun hf => absurd hf (qf h)⟩
  · exact ⟨fun hf => absurd hf (qf h), fun ht => absurd ht (qt h), fun _ => qt h⟩
  · unfold okPair at h
    simp only [andB_eq, Bool.and_eq_true, notB_eq, Bool.not_eq_true'] at h
    obtain ⟨k1, k2, k3, k4⟩ := h
    refine ⟨fun hf ht => ?_, fun ht' ht => ?_, fun hf ht => ?_⟩
    · rcases hf.1 with h | h
      · rw [k1] at h; cases h
      · obtain ⟨n1, n2⟩ := notIn_of_apart k2 b h
        exact ht.elim n1 n2
    · rcases ht' with h | h
      · obtain ⟨n1, n2⟩ := notIn_of_apart k3 b h
        exact ht.elim n1 n2
      · rcases ht with h2 | h2
        · have := hG.wr b h2; omega
        · omega
    · have hlo := hf.2
      rcases ht with h | h
      · obtain ⟨n1, n2⟩ := notIn_of_writes k4 b h
        rcases hf.1 with hc | hr
        · exact n1 hc (by show b < (S (q + 1)).n; omega)
        · cases hcl : CL q with
          | true => exact n1 hcl (by show b < (S (q + 1)).n; omega)
          | false => exact n2 hcl hr
      · omega

def On (l : List Step) (listed : Array Bool) (q : Nat) : Prop := ∃ st, l[q]? = some st ∧ listed.getD st.i false = true

structure Inv (P : Program) (E : Env) (g nt : Nat) (ops : Array Oper) (l : List Step) (S : Nat → St) (A : Nat → AAct) (WR : Nat → List Nat) (ρ0 : Ren) (w0 : World) (a0 : Act)
    (listed : Array Bool) (ρ : Ren) (h : H4) (w : World) (a' : Act) : Prop where
  sz : listed.size = ops.size
  acc : Adv E.tt Any ρ0 (box (S 0).h (S 0).n) w0 ρ (box h (S l.length).n) w
  dom : ∀ b p, ρ b = some p → ρ0 b = some p ∨ ∃ q, q < l.length ∧ On l listed q ∧ (S q).n ≤ b ∧ b < (S (q + 1)).n
  cutM : ∀ b, b < 65536 → ∃ m, m ≤ l.length ∧ hget h b = hget (S m).h b ∧ (∀ q, q < m → Touches S WR q b → On l listed q) ∧ (∀ q, m ≤ q → q < l.length → Touches S WR q b → ¬ On l listed q)
  cutT : ∀ t, t < 256 → ∃ m, m ≤ l.length ∧ V ρ (tget (A m).tm t) (a'.tmps.getD t undef) ∧ (∀ q st, q < m → l[q]? = some st → st.o.dst = some t → On l listed q) ∧
    (∀ q st, m ≤ q → l[q]? = some st → st.o.dst = some t → ¬ On l listed q)
  closed : ∀ q st, l[q]? = some st → On l listed q → ∀ j st', l[j]? = some st' → hasBit st.pre st'.i = true → On l listed j
  size : nt ≤ a'.tmps.size
  defs : a'.defers = a0.defers

variable {ρ0 : Ren} {w0 : World} {a0 : Act}

theorem Run.step (R : Run P E g nt ops l S A VV RD WR CL) (hg0 : GOK ρ0 g) (hfree : freeIn ρ0 (S 0).n (S l.length).n) {listed : Array Bool} {ρ : Ren} {h : H4} {w : World} {a' : Act} (I : Inv P E g nt ops l S A WR ρ0 w0 a0 listed ρ h w a') {i : Nat}
    (hi : i ∈ Region.ready .any ops listed) {K : Act → World → Prop} {Q : Exit → Act → World → Prop}
    (hK : ∀ ρ' h' w' a'', Inv P E g nt ops l S A WR ρ0 w0 a0 (listed.setIfInBounds i true) ρ' h' w' a'' → K a'' w') :
    (∃ p, p < l.length ∧ ¬ On l listed p ∧ On l (listed.setIfInBounds i true) p) ∧ (∀ q, On l listed q → On l (listed.setIfInBounds i true) q) ∧ wpOp P ops Q i K a' w := by
  obtain ⟨hun, o, ho, hall⟩ := mem_ready.1 hi
  have hisz : i < ops.size := (Array.getElem?_eq_some_iff.1 ho).1
  obtain ⟨p, st, hp, rfl⟩ := R.cover i hisz
  have hpl := R.lt hp
  have hoeq : o = st.o := by have := R.at_ p st hp; rw [ho] at this; exact Option.some.inj this
  subst hoeq
  have hF := R.facts p st hp
  have hilt : st.i < listed.size := by rw [I.sz]; exact hisz
  have hunf : listed.getD st.i false = false := by
    have : listed.getD st.i true = listed.getD st.i false := by simp [Array.getD, hilt]
    rw [← this]; exact hun
  have hnon : ¬ On l listed p := by
    rintro ⟨st2, h2, h3⟩
    rw [hp] at h2; cases h2
    rw [hunf] at h3; cases h3
  have onMono : ∀ q, On l listed q → On l (listed.setIfInBounds st.i true) q := fun q ⟨s2, h1, h2⟩ => ⟨s2, h1, getD_set_true h2⟩
  have onP : On l (listed.setIfInBounds st.i true) p := ⟨st, hp, by simp [hilt]⟩
  have onOnly : ∀ q, On l (listed.setIfInBounds st.i true) q → q = p ∨ On l listed q := by
    rintro q ⟨s2, h1, h2⟩
    by_cases he : st.i = s2.i
    · exact .inl (R.uniq q p s2 st h1 hp he.symm)
    · exact .inr ⟨s2, h1, by rw [getD_set_ne false he] at h2; exact h2⟩
  -- what comes ahead of it is listed
  have preOn : ∀ j st', l[j]? = some st' → hasBit st.pre st'.i = true → On l listed j := by
    intro j st' hj hb
    obtain ⟨e, he, hbi, hcase⟩ := R.pre p st hp st'.i hb
    have hlist := hall e he hbi
    rcases hcase with h1 | ⟨q, hq, st2, hst2, h2, h3⟩
    · exact ⟨st', hj, by rw [h1]; exact hlist⟩
    · exact I.closed q st2 hst2 ⟨st2, hst2, by rw [h2]; exact hlist⟩ j st' hj h3
  have notPre : ∀ {j st'}, l[j]? = some st' → ¬ On l listed j → ¬ hasBit st.pre st'.i = true := fun {j st'} hj hno hb => hno (preOn j st' hj hb)
  have notPre' : ∀ {j st'}, l[j]? = some st' → On l listed j → ¬ hasBit st'.pre st.i = true := fun {j st'} hj hon hb => hnon (I.closed j st' hj hon p st hp hb)
  -- memory: where it writes, where it looks
  have alpha : ∀ b m, b < 65536 → m ≤ l.length → (∀ q, q < m → Touches S WR q b → On l listed q) → (∀ q, m ≤ q → q < l.length → Touches S WR q b → ¬ On l listed q) → Touches S WR p b →
      m ≤ p ∧ (∀ j, m ≤ j → j < p → ¬ Touches S WR j b) := by
    intro b m hb hm c1 c2 ht
    have hmp : m ≤ p := Nat.le_of_not_lt fun hlt => hnon (c1 p hlt ht)
    refine ⟨hmp, fun j h1 h2 htj => ?_⟩
    obtain ⟨sj, hsj⟩ := R.get (p := j) (by omega)
    exact (R.pair hp hsj h2 (notPre hsj (c2 j h1 (by omega) htj)) b).2.1 ht htj
  have beta : ∀ b, b < 65536 → Foot S RD CL p b → hget h b = hget (S p).h b := by
    intro b hb hf
    obtain ⟨m, hm, heq, c1, c2⟩ := I.cutM b hb
    rw [heq]
    rcases Nat.lt_or_ge p m with hlt | hge
    · refine R.steady hb (by omega) hm fun j h1 h2 htj => ?_
      by_cases hjp : j = p
      · subst hjp; exact hnon (c1 j hlt htj)
      · obtain ⟨sj, hsj⟩ := R.get (p := j) (by omega)
        exact (R.pair hsj hp (by omega) (notPre' hsj (c1 j h2 htj)) b).2.2 hf htj
    · refine (R.steady hb hge (by omega) fun j h1 h2 htj => ?_).symm
      obtain ⟨sj, hsj⟩ := R.get (p := j) (by omega)
      exact (R.pair hp hsj h2 (notPre hsj (c2 j h1 (by omega) htj)) b).1 hf htj
  -- temporaries
  have looks : ∀ t ∈ st.o.looksAt ops, t < 256 := fun t ht => Nat.lt_of_lt_of_le (looks_lt (R.opers st.o (List.mem_of_getElem? (by rw [Array.getElem?_toList]; exact ho))) (dsts_of R.opers) t ht) R.small
  have betaT : ∀ t ∈ st.o.looksAt ops, V ρ (tget (A p).tm t) (a'.tmps.getD t undef) := by
    intro t ht
    obtain ⟨m, hm, hv, c1, c2⟩ := I.cutT t (looks t ht)
    rcases Nat.lt_or_ge p m with hlt | hge
    · rw [← R.steadyT (looks t ht) (p := p) (q := m) (by omega) hm fun j sj h1 h2 hsj hd => ?_]
      · exact hv
      · by_cases hjp : j = p
        · subst hjp; exact hnon (c1 j sj hlt hsj hd)
        · rcases R.tmps j sj hsj p (by omega) st hp with h3 | ⟨_, h3⟩
          · exact notPre' hsj (c1 j sj h2 hsj hd) h3
          · exact h3 t hd ht
    · rw [R.steadyT (looks t ht) (p := m) (q := p) hge (by omega) fun j sj h1 h2 hsj hd => ?_]
      · exact hv
      · rcases R.tmps p st hp j h2 sj hsj with h3 | ⟨h3, _⟩
        · exact notPre hsj (c2 j sj h1 hsj hd) h3
        · exact (h3 t hd).1 ht
  have alphaT : ∀ t m, st.o.dst = some t → m ≤ l.length → (∀ q s2, q < m → l[q]? = some s2 → s2.o.dst = some t → On l listed q) → (∀ q s2, m ≤ q → l[q]? = some s2 → s2.o.dst = some t → ¬ On l listed q) →
      m ≤ p ∧ ∀ j sj, m ≤ j → j < p → l[j]? = some sj → sj.o.dst ≠ some t := by
    intro t m hd hm c1 c2
    have hmp : m ≤ p := Nat.le_of_not_lt fun hlt => hnon (c1 p st hlt hp hd)
    refine ⟨hmp, fun j sj h1 h2 hsj hdj => ?_⟩
    rcases R.tmps p st hp j h2 sj hsj with h3 | ⟨h3, _⟩
    · exact notPre hsj (c2 j sj h1 hsj hdj) h3
    · exact (h3 t hdj).2 hd
  refine ⟨⟨p, hpl, hnon, onP⟩, onMono, ?_⟩
  have hle0 : (S 0).n ≤ (S p).n := R.mono (by omega) (by omega)
  have hle1 : (S (p + 1)).n ≤ (S l.length).n := R.mono (by omega) (by omega)
  refine hF.ok ρ w a' K Q (hg0.mono I.acc.le) ?_ ?_ I.size betaT ?_
  · -- the blocks it looks at lie in the world
    have hs : SRon E.tt Any ρ h w := I.acc.srAny
    refine ⟨fun b x hf hb hx => hs.heap b x trivial hb (by show hget h b = some x; rw [beta b hb hf]; exact hx), fun b c pb pc hfb hfc hlb hlc => ?_, hs.dom⟩
    exact hs.inj b c pb pc trivial trivial ⟨hlb.1, by rw [beta b hlb.1 hfb]; exact hlb.2⟩ ⟨hlc.1, by rw [beta c hlc.1 hfc]; exact hlc.2⟩
  · -- its names are free
    intro b h1 h2
    cases hr : ρ b with
    | none => rfl
    | some pl =>
      rcases I.dom b pl hr with h3 | ⟨q, hq, hon, h4, h5⟩
      · rw [hfree b (by omega) (by omega)] at h3; cases h3
      · have hne : q ≠ p := fun e => hnon (e ▸ hon)
        rcases Nat.lt_or_ge q p with h6 | h6
        · have := R.mono (p := q + 1) (q := p) (by omega) (by omega); omega
        · have := R.mono (p := p + 1) (q := q) (by omega) (by omega); omega
  · intro v' w' ρ' hadv hv
    obtain ⟨h', hh'⟩ := heap_take h (S (p + 1)).h (WR p ++ List.range' (S p).n ((S (p + 1)).n - (S p).n))
    have memT : ∀ b, b ∈ WR p ++ List.range' (S p).n ((S (p + 1)).n - (S p).n) ↔ Touches S WR p b := by
      intro b
      rw [List.mem_append, List.mem_range'_1]
      unfold Touches
      have := hF.log.n
      constructor
      · rintro (h | h)
        · exact .inl h
        · exact .inr ⟨h.1, by omega⟩
      · rintro (h | h)
        · exact .inl h
        · exact .inr ⟨h.1, by omega⟩
    have hT : ∀ b, b < 65536 → Touches S WR p b → hget h' b = hget (S (p + 1)).h b := fun b hb ht => by rw [hh' b hb, if_pos ((memT b).2 ht)]
    have hN : ∀ b, b < 65536 → ¬ Touches S WR p b → hget h' b = hget h b := fun b hb ht => by rw [hh' b hb, if_neg fun hm => ht ((memT b).1 hm)]
    have hmove : Adv E.tt (Foot S RD CL p) ρ (box h (S p).n) w ρ' (box h' (S (p + 1)).n) w' := by
      refine hadv.move (fun b hb hf => beta b hb hf) (fun b hb hfn => ?_) (fun b hb hnf hnn => ?_) rfl rfl
      · show hget h' b = _
        by_cases ht : Touches S WR p b
        · exact hT b hb ht
        · have hf : Foot S RD CL p b := hfn.resolve_right fun hn => ht (.inr hn)
          rw [hN b hb ht, beta b hb hf, R.one hpl hb ht]
      · show hget h' b = hget h b
        by_cases ht : Touches S WR p b
        · obtain ⟨m, hm, heq, c1, c2⟩ := I.cutM b hb
          obtain ⟨h1, h2⟩ := alpha b m hb hm c1 c2 ht
          rw [hT b hb ht, hadv.stay b hb hnf hnn, heq]
          exact R.steady hb h1 (by omega) h2
        · exact hN b hb ht
    have hwide : Adv E.tt Any ρ (box h (S 0).n) w ρ' (box h' (S l.length).n) w' := (hmove.more (s := box h (S p).n) I.acc.srAny fun _ _ => trivial).widen hle0 hle1
    refine hK ρ' h' w' _ ⟨by simp [I.sz], I.acc.beside hwide, ?_, ?_, ?_, ?_, by rw [put_size]; exact I.size, by rw [put_defs]; exact I.defs⟩
    · intro b pl hr
      rcases hadv.fresh b pl hr with h1 | h1
      · rcases I.dom b pl h1 with h2 | ⟨q, hq, hon, h3⟩
        · exact .inl h2
        · exact .inr ⟨q, hq, onMono q hon, h3⟩
      · exact .inr ⟨p, hpl, onP, h1⟩
    · intro b hb
      obtain ⟨m, hm, heq, c1, c2⟩ := I.cutM b hb
      by_cases ht : Touches S WR p b
      · obtain ⟨h1, h2⟩ := alpha b m hb hm c1 c2 ht
        refine ⟨p + 1, hpl, hT b hb ht, fun q hq htq => ?_, fun q hq hql htq hon => ?_⟩
        · by_cases hqm : q < m
          · exact onMono q (c1 q hqm htq)
          · by_cases hqp : q = p
            · subst hqp; exact onP
            · exact absurd htq (h2 q (by omega) (by omega))
        · rcases onOnly q hon with rfl | hon
          · omega
          · exact c2 q (by omega) hql htq hon
      · refine ⟨m, hm, by rw [hN b hb ht]; exact heq, fun q hq htq => onMono q (c1 q hq htq), fun q hq hql htq hon => ?_⟩
        rcases onOnly q hon with rfl | hon
        · exact ht htq
        · exact c2 q hq hql htq hon
    · intro t ht
      obtain ⟨m, hm, hvt, c1, c2⟩ := I.cutT t ht
      have hdlt : ∀ u, st.o.dst = some u → u < a'.tmps.size := fun u hu =>
        Nat.lt_of_lt_of_le (dstOK_iff (dsts_of R.opers st.o (List.mem_of_getElem? (by rw [Array.getElem?_toList]; exact ho))) u hu) I.size
      rw [put_get hdlt]
      by_cases hd : st.o.dst = some t
      · rw [if_pos hd]
        obtain ⟨h1, h2⟩ := alphaT t m hd hm c1 c2
        refine ⟨p + 1, hpl, ?_, fun q sq hq hsq hdq => ?_, fun q sq hq hsq hdq hon => ?_⟩
        · rw [hF.put, aput_tm _ _ _ (R.dlt hp) ht, if_pos hd]
          exact hv
        · by_cases hqm : q < m
          · exact onMono q (c1 q sq hqm hsq hdq)
          · by_cases hqp : q = p
            · subst hqp; exact onP
            · exact absurd hdq (h2 q sq (by omega) (by omega) hsq)
        · rcases onOnly q hon with rfl | hon
          · omega
          · exact c2 q sq (by omega) hsq hdq hon
      · rw [if_neg hd]
        refine ⟨m, hm, hvt.mono hadv.le, fun q sq hq hsq hdq => onMono q (c1 q sq hq hsq hdq), fun q sq hq hsq hdq hon => ?_⟩
        rcases onOnly q hon with rfl | hon
        · rw [hp] at hsq; cases hsq; exact hd hdq
        · exact c2 q sq hq hsq hdq hon
    · intro q sq hsq hon j sj hsj hb
      rcases onOnly q hon with rfl | hon
      · rw [hp] at hsq; cases hsq
        exact onMono j (preOn j sj hsj hb)
      · exact onMono j (I.closed q sq hsq hon j sj hsj hb)

/-- where nothing is ready, all is listed. -/
theorem Run.all (R : Run P E g nt ops l S A VV RD WR CL) {listed : Array Bool} (hsz : listed.size = ops.size) (hr : Region.ready .any ops listed = []) : ∀ p, p < l.length → On l listed p := by
  intro p
  induction p using Nat.strongRecOn with
  | _ p ih =>
    intro hpl
    obtain ⟨st, hp⟩ := R.get hpl
    by_cases hon : On l listed p
    · exact hon
    exfalso
    have ho := R.at_ p st hp
    have hlt : st.i < ops.size := (Array.getElem?_eq_some_iff.1 ho).1
    have : st.i ∈ Region.ready .any ops listed := by
      rw [mem_ready]
      refine ⟨?_, st.o, ho, fun e he hb => ?_⟩
      · cases hc : listed.getD st.i true with
        | false => rfl
        | true =>
          have : listed.getD st.i false = true := by
            rw [← hc]
            have : st.i < listed.size := by rw [hsz]; exact hlt
            simp [Array.getD, this]
          exact absurd ⟨st, hp, this⟩ hon
      · obtain ⟨q, hq, st', hst', heq⟩ := R.edges p st hp e he hb
        obtain ⟨s2, h1, h2⟩ := ih q hq (by omega)
        rw [hst'] at h1; cases h1
        rw [← heq]; exact h2
    rw [hr] at this
    cases this

theorem Run.finish (R : Run P E g nt ops l S A VV RD WR CL) (hds : DsRel ρ0 (A 0).ds a0.defers) {listed : Array Bool} {ρ : Ren} {h : H4} {w : World} {a' : Act} (I : Inv P E g nt ops l S A WR ρ0 w0 a0 listed ρ h w a') (hr : ∀ p, p < l.length → On l listed p) :
    Post E.tt nt ρ0 (S 0) w0 .normal (A l.length) (S l.length) .normal a' w := by
  have heq : ∀ b, b < 65536 → hget (S l.length).h b = hget h b := by
    intro b hb
    obtain ⟨m, hm, heq, _, c2⟩ := I.cutM b hb
    rw [heq]
    exact R.steady hb hm (Nat.le_refl _) fun j h1 h2 ht => c2 j h1 h2 ht (hr j h2)
  refine ⟨ρ, I.acc.same (fun _ _ => rfl) heq rfl rfl, ⟨R.small, I.size, fun t ht => ?_, ?_⟩, trivial⟩
  · obtain ⟨m, hm, hv, _, c2⟩ := I.cutT t ht
    rw [R.steadyT ht hm (Nat.le_refl _) fun j sj h1 h2 hsj hd => c2 j sj h1 hsj hd (hr j h2)]
    exact hv
  · rw [R.dsAt (Nat.le_refl _), I.defs]
    exact hds.mono I.acc.le

theorem Run.any (R : Run P E g nt ops l S A VV RD WR CL) (hg0 : GOK ρ0 g) (hfree : freeIn ρ0 (S 0).n (S l.length).n) (hds : DsRel ρ0 (A 0).ds a0.defers) {Q : Exit → Act → World → Prop}
    (hQ : ∀ x b w', Post E.tt nt ρ0 (S 0) w0 .normal (A l.length) (S l.length) x b w' → Q x b w') :
    ∀ (fuel : Nat) (listed : Array Bool) (ρ : Ren) (h : H4) (w : World) (a' : Act), Inv P E g nt ops l S A WR ρ0 w0 a0 listed ρ h w a' →
      (List.range l.length).countP (fun q => match l[q]? with | some st => !listed.getD st.i false | none => false) ≤ fuel → wpAny P .any ops Q fuel listed a' w := by
  have on_iff : ∀ (listed : Array Bool) (q : Nat), q < l.length → ((match l[q]? with | some st => !listed.getD st.i false | none => false) = false ↔ On l listed q) := by
    intro listed q hq
    obtain ⟨st, hst⟩ := R.get hq
    rw [hst]
    dsimp only
    rw [Bool.not_eq_false']
    exact ⟨fun h => ⟨st, hst, h⟩, fun ⟨s2, h1, h2⟩ => by rw [hst] at h1; cases h1; exact h2⟩
  intro fuel
  induction fuel with
  | zero =>
    intro listed ρ h w a' I hc
    have hz := List.countP_eq_zero.1 (Nat.le_zero.1 hc)
    have hall : ∀ p, p < l.length → On l listed p := fun p hp => (on_iff listed p hp).1 (by
      have := hz p (List.mem_range.2 hp)
      simpa using this)
    refine ⟨?_, hQ _ _ _ (R.finish hds I hall)⟩
    cases hr : Region.ready .any ops listed with
    | nil => rfl
    | cons i rest =>
      have hi : i ∈ Region.ready .any ops listed := by rw [hr]; simp
      obtain ⟨hun, o, ho, _⟩ := mem_ready.1 hi
      have hisz : i < ops.size := (Array.getElem?_eq_some_iff.1 ho).1
      obtain ⟨p, st, hp, rfl⟩ := R.cover i hisz
      obtain ⟨s2, h1, h2⟩ := hall p (R.lt hp)
      rw [hp] at h1; cases h1
      have : listed.getD st.i true = listed.getD st.i false := by
        have : st.i < listed.size := by rw [I.sz]; exact hisz
        simp [Array.getD, this]
      rw [this, h2] at hun
      cases hun
  | succ fuel ih =>
    intro listed ρ h w a' I hc
    refine ⟨fun hr => hQ _ _ _ (R.finish hds I (R.all I.sz hr)), fun i hi => ?_⟩
    have hstep := fun K Q hK => R.step (K := K) (Q := Q) hg0 hfree I hi hK
    refine (hstep _ Q fun ρ' h' w' a'' I' => ih _ ρ' h' w' a'' I' ?_).2.2
    obtain ⟨⟨p, hp, hno, hyes⟩, hmono, _⟩ := hstep (fun _ _ => True) Q fun _ _ _ _ _ => trivial
    have := count_lt (f := fun q => match l[q]? with | some st => !(listed.setIfInBounds i true).getD st.i false | none => false)
      (g := fun q => match l[q]? with | some st => !listed.getD st.i false | none => false) (p := p) (fun q hq => ?_) ((on_iff _ p hp).2 hyes) ?_ (List.range l.length) (List.mem_range.2 hp)
    · omega
    · by_cases hql : q < l.length
      · cases hg : (match l[q]? with | some st => !listed.getD st.i false | none => false) with
        | true => rfl
        | false =>
          have h1 := (on_iff _ q hql).2 (hmono q ((on_iff _ q hql).1 hg))
          rw [h1] at hq
          cases hq
      · rw [List.getElem?_eq_none (by omega)] at hq
        cases hq
    · cases hg : (match l[p]? with | some st => !listed.getD st.i false | none => false) with
      | true => rfl
      | false => exact absurd ((on_iff _ p hp).1 hg) hno
end
end Go.Dee
