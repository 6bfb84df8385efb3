/- Bodies, results, deferred calls, calls: a closed call that the evaluator answers with true returns true in every world. Part of the proof that FastKnown returns true on every schedule, its listed variables laid as the text lays them. -/
import Derived.Test.YtiinfilmfcmicaaGreatDoorD08
import Derived.Recover
import Derived.Below
namespace Go.Dee
noncomputable section
open Go

def drawOK (E : Env) (fid id : Nat) (ops : List Oper) : Bool :=
  Option.rec (motive := fun _ => Bool) false (fun ri => regCheck ops (steps ops ri.ord ri.pre)) (infoOf E fid id)
def implB (a b : Bool) : Bool := Bool.rec (motive := fun _ => Bool → Bool) (fun _ => true) (fun b => b) a b
/-- what is checked of a function's code. -/
def codeOK (E : Env) (fid nt g : Nat) (c : Code) : Bool :=
  Code.rec (motive := fun _ => Bool) true
    (fun id ops draw => andB (allB (operOK nt g) ops.toList) (implB draw (drawOK E fid id ops.toList)))
    (fun _ _ ih ih' => andB ih ih') (fun c _ _ ih ih' => andB (opndOK nt g c) (andB ih ih')) (fun _ _ ih => ih) (fun _ ih => ih) (fun _ _ _ _ _ _ => true)
    (fun _ => true) (fun _ ih => ih) (fun _ => true) (fun _ => true) true (fun _ => true) c

section
variable {P : Program} {E : Env} {call : CallF} {g nt : Nat}

theorem drawn_ok (ht : TTok P E.tt) (hX : ExtOK P E.ext) (hc : CallOK P E.tt g call) (hl : CallLog call) (hm : P.follows .mixedOrders = true) {ops : Array Oper} {id : Nat} {l : List Step}
    (hops : ∀ o ∈ ops.toList, operOK nt g o = true) (hst : Static ops l) {a : AAct} {s : St} {e : AExit} {a1 : AAct} {s1 : St} (h : runDrawn E call ops.toList l a s [] = .ok e a1 s1) (hn : s1.n ≤ 65536) (hna : NA s)
    {ρ : Ren} {w : World} {a' : Act} (hg : GOK ρ g) (hs : SRon E.tt Any ρ s.h w) (ha : AOK ρ nt a a') (hf : freeIn ρ s.n s1.n) : (Code.region id ops true).wp P (Post E.tt nt ρ s w e a1 s1) a' w := by
  obtain ⟨rfl, S, A, VV, RD, WR, CL, rfl, rfl, rfl, rfl, hna1, hF⟩ := trace (nt := nt) ht hX hc hl hops l (fun st hm => by
    obtain ⟨p, hp⟩ := List.mem_iff_getElem?.1 hm
    exact hst.at_ p st hp) a s [] e a1 s1 h hn hna
  have R : Run P E g nt ops l S A VV RD WR CL := ⟨hst, hF, hn, hna1, hops, ha.small⟩
  have hd : Adv E.tt Any ρ (S 0) w ρ (S 0) { w with drawn := w.drawn + 1 } := .drawn hs
  have hs0 := hd.srAny
  have noOn : ∀ q, ¬ On l (Array.replicate ops.size false) q := by
    rintro q ⟨st, _, h2⟩
    simp [Array.getD] at h2
  refine wp_region_any hm (R.any (ρ0 := ρ) (a0 := a') (w0 := { w with drawn := w.drawn + 1 }) hg hf ha.ds ?_ ops.size _ ρ (S 0).h _ a' ?_ ?_)
  · rintro x b w' ⟨ρ', h1, h2, h3⟩
    exact ⟨ρ', hd.then h1, h2, h3⟩
  · refine ⟨by simp, ?_, fun b p h => .inl h, fun b _ => ⟨0, Nat.zero_le _, rfl, fun q hq => absurd hq (by omega), fun q _ _ _ => noOn q⟩, fun t ht => ⟨0, Nat.zero_le _, ha.tm t ht, fun q _ hq => absurd hq (by omega), fun q _ _ _ _ => noOn q⟩,
      fun q _ _ hon => absurd hon (noOn q), ha.size, rfl⟩
    exact (Adv.refl (s := box (S 0).h (S 0).n) hs0).widen (Nat.le_refl _) (R.mono (Nat.zero_le _) (Nat.le_refl _))
  · -- the number of steps is the number of operations
    have hle := List.countP_le_length (l := List.range l.length) (p := fun q => match l[q]? with | some st => !(Array.replicate ops.size false).getD st.i false | none => false)
    refine Nat.le_trans hle ?_
    rw [List.length_range]
    exact hst.len

/-! loops -/
def LoopWp (P : Program) (c : Code) (Q : Exit → Act → World → Prop) (a : Act) (w : World) : Prop :=
  ∀ (b : Frame) (k : List Item) (cs : List Frame), ∃ e a' w', Q e a' w' ∧ Arrives P (lone (b.at a (.code c :: .inLoop c :: k)) cs w) b k cs e a' w'
theorem loopWp_of {c : Code} {Q : Exit → Act → World → Prop} {a : Act} {w : World} (h : c.wp P (Exit.then (LoopWp P c Q) Q) a w) : LoopWp P c Q a w := by
  intro b k cs
  obtain ⟨e, a₁, w₁, hq, harr⟩ := h b (.inLoop c :: k) cs
  cases e with
  | normal =>
    obtain ⟨e₂, a₂, w₂, hq₂, harr₂⟩ := hq b k cs
    exact ⟨e₂, a₂, w₂, hq₂, .of_steps (Steps.trans harr (.one step_inLoop)) harr₂⟩
  | exit id => exact ⟨_, a₁, w₁, hq, .pass (x := .inLoop c) rfl (fun _ _ => .inl (by simp)) harr⟩
  | goto l => exact ⟨_, a₁, w₁, hq, .pass (x := .inLoop c) rfl (fun _ _ => .inl (by simp)) harr⟩
  | ret => exact ⟨_, a₁, w₁, hq, .pass (x := .inLoop c) rfl (fun _ _ => .inl (by simp)) harr⟩
  | panic ch => exact ⟨_, a₁, w₁, hq, .pass (x := .inLoop c) rfl (fun _ _ => .inl (by simp)) harr⟩
  | outgrown => exact ⟨_, a₁, w₁, hq, .pass (x := .inLoop c) rfl (fun _ _ => .inl (by simp)) harr⟩
theorem wp_loop_of {c : Code} {Q : Exit → Act → World → Prop} {a : Act} {w : World} (h : LoopWp P c Q a w) : (Code.loop c).wp P Q a w :=
  fun b k cs => let ⟨e, a', w', hq, harr⟩ := h b k cs; ⟨e, a', w', hq, .of_steps (.one step_loop) harr⟩

theorem then_ok {c : Code} {Y : Act → World → Prop} {ρ : Ren} {s s1 s2 : St} {w : World} {e e1 : AExit} {a1 a2 : AAct} {a' : Act} (h1 : c.wp P (Post E.tt nt ρ s w e1 a2 s2) a' w)
    (h2 : e1 = .normal → ∀ ρ2 w2 b, Adv E.tt Any ρ s w ρ2 s2 w2 → AOK ρ2 nt a2 b → Y b w2) (h3 : e1 ≠ .normal → e = e1 ∧ a1 = a2 ∧ s1 = s2) : c.wp P (Exit.then Y (Post E.tt nt ρ s w e a1 s1)) a' w := by
  refine wp_mono h1 fun x b w' hp => ?_
  obtain ⟨ρ2, p1, p2, p3⟩ := hp
  by_cases he : e1 = .normal
  · subst he
    cases x <;> first | exact h2 rfl ρ2 w' b p1 p2 | exact p3.elim
  · obtain ⟨rfl, rfl, rfl⟩ := h3 he
    have : x ≠ .normal := by
      intro hx
      subst hx
      cases e <;> first | exact he rfl | exact p3.elim
    cases x with
    | normal => exact absurd rfl this
    | _ => exact ⟨ρ2, p1, p2, p3⟩

theorem exec_ok (ht : TTok P E.tt) (hX : ExtOK P E.ext) (hc : CallOK P E.tt g call) (hl : CallLog call) (hm : P.follows .mixedOrders = true) {fid : Nat} : ∀ n : Nat,
    (∀ (c : Code), codeOK E fid nt g c = true → ∀ (a : AAct) (s : St) (e : AExit) (a1 : AAct) (s1 : St), exec E call fid n c a s = .ok e a1 s1 → s1.n ≤ 65536 → NA s →
      ∀ (ρ : Ren) (w : World) (a' : Act), GOK ρ g → SRon E.tt Any ρ s.h w → AOK ρ nt a a' → freeIn ρ s.n s1.n → c.wp P (Post E.tt nt ρ s w e a1 s1) a' w) ∧
    (∀ (c : Code), codeOK E fid nt g c = true → ∀ (a : AAct) (s : St) (e : AExit) (a1 : AAct) (s1 : St), exec E call fid n (.loop c) a s = .ok e a1 s1 → s1.n ≤ 65536 → NA s →
      ∀ (ρ : Ren) (w : World) (a' : Act), GOK ρ g → SRon E.tt Any ρ s.h w → AOK ρ nt a a' → freeIn ρ s.n s1.n → LoopWp P c (Post E.tt nt ρ s w e a1 s1) a' w) := by
  intro n
  induction n with
  | zero => exact ⟨fun c _ a s e a1 s1 h => (by cases h), fun c _ a s e a1 s1 h => (by cases h)⟩
  | succ n ih =>
    obtain ⟨ih1, ih2⟩ := ih
    -- a piece and what comes behind it
    have seq : ∀ {x : Code} {f : Code} {a : AAct} {s : St} {e : AExit} {a1 : AAct} {s1 : St} {ρ : Ren} {w : World} {a' : Act} {Y : (Exit → Act → World → Prop) → Act → World → Prop},
        (∀ {Q Q' : Exit → Act → World → Prop} {b w}, Y Q b w → (∀ e a w, Q e a w → Q' e a w) → Y Q' b w) →
        (∀ (a2 : AAct) (s2 : St), exec E call fid n f a2 s2 = .ok e a1 s1 → s1.n ≤ 65536 → NA s2 → ∀ (ρ : Ren) (w : World) (a' : Act), GOK ρ g → SRon E.tt Any ρ s2.h w → AOK ρ nt a2 a' → freeIn ρ s2.n s1.n → Y (Post E.tt nt ρ s2 w e a1 s1) a' w) →
        codeOK E fid nt g x = true → thenK (exec E call fid n x a s) (exec E call fid n f) = .ok e a1 s1 → s1.n ≤ 65536 → NA s → GOK ρ g → SRon E.tt Any ρ s.h w → AOK ρ nt a a' → freeIn ρ s.n s1.n →
        x.wp P (Exit.then (Y (Post E.tt nt ρ s w e a1 s1)) (Post E.tt nt ρ s w e a1 s1)) a' w := by
      intro x f a s e a1 s1 ρ w a' Y hmono hy hx h hn hna hg hs ha hf
      obtain ⟨e1, a2, s2, hxr, hcase⟩ := thenK_ok h
      have hlog1 : LogU s s2 := exec_log hl n x a s e1 a2 s2 hxr
      have hlog2 : LogU s2 s1 := by
        rcases hcase with ⟨_, hk⟩ | ⟨_, _, _, rfl⟩
        · exact exec_log hl n f a2 s2 e a1 s1 hk
        · exact .refl _
      have hn2 := (hlog2 hn).n
      have hlog1 := hlog1 (Nat.le_trans hn2 hn)
      refine then_ok (ih1 x hx a s e1 a2 s2 hxr (Nat.le_trans hn2 hn) hna ρ w a' hg hs ha (hf.less hn2)) (fun he ρ2 w2 b hadv hab => ?_) (fun he => ?_)
      · rcases hcase with ⟨_, hk⟩ | ⟨hne, _⟩
        · refine hmono (hy a2 s2 hk hn (hlog1.na hna) ρ2 w2 b (hg.mono hadv.le) hadv.srAny hab (hadv.free hf)) ?_
          rintro x b' w' ⟨ρ3, p1, p2, p3⟩
          exact ⟨ρ3, hadv.then p1, p2, p3⟩
        · exact absurd he hne
      · rcases hcase with ⟨h1, _⟩ | ⟨_, h2, h3, h4⟩
        · exact absurd h1 he
        · exact ⟨h2, h3, h4⟩
    have leaf : ∀ {c : Code} {a : AAct} {s : St} {ρ : Ren} {w : World} {a' : Act} {e : AExit} {x : Exit}, (∀ {Q : Exit → Act → World → Prop}, Q x a' w → c.wp P Q a' w) → exitRel ρ e x → SRon E.tt Any ρ s.h w → AOK ρ nt a a' →
        c.wp P (Post E.tt nt ρ s w e a s) a' w := fun hw he hs ha => hw ⟨_, .refl hs, ha, he⟩
    have loops : ∀ (c : Code), codeOK E fid nt g c = true → ∀ (a : AAct) (s : St) (e : AExit) (a1 : AAct) (s1 : St), exec E call fid (n + 1) (.loop c) a s = .ok e a1 s1 → s1.n ≤ 65536 → NA s →
        ∀ (ρ : Ren) (w : World) (a' : Act), GOK ρ g → SRon E.tt Any ρ s.h w → AOK ρ nt a a' → freeIn ρ s.n s1.n → LoopWp P c (Post E.tt nt ρ s w e a1 s1) a' w := by
      intro c hcode a s e a1 s1 h hn hna ρ w a' hg hs ha hf
      refine loopWp_of (seq (f := .loop c) (Y := LoopWp P c) (fun hq hm b k cs => ?_) (fun a2 s2 hk hn hna ρ w a' hg hs ha hf => ih2 c hcode a2 s2 e a1 s1 hk hn hna ρ w a' hg hs ha hf) hcode
        (show thenK (exec E call fid n c a s) (exec E call fid n (.loop c)) = _ from h) hn hna hg hs ha hf)
      obtain ⟨e, a', w', q, r⟩ := hq b k cs
      exact ⟨e, a', w', hm _ _ _ q, r⟩
    refine ⟨?_, loops⟩
    intro c hcode a s e a1 s1 h hn hna ρ w a' hg hs ha hf
    cases c with
    | skip => cases h; exact leaf wp_skip trivial hs ha
    | region id ops draw =>
      have hcode : andB (allB (operOK nt g) ops.toList) (implB draw (drawOK E fid id ops.toList)) = true := hcode
      rw [andB_eq, Bool.and_eq_true, allB_iff] at hcode
      obtain ⟨hops, hdr⟩ := hcode
      cases draw with
      | false =>
        have hr := runOps_ok (nt := nt) ht hX hc hl ops hops ops.toList [] rfl a s e a1 s1 (show runOps E call ops.toList ops.toList a s = _ from h) hn hna ρ w a' hg hs ha hf _ fun _ _ _ h => h
        refine wp_region ?_
        rw [List.range_eq_range']
        simpa using hr
      | true =>
        obtain ⟨ri, hri, hr⟩ := drawnK_ok (show drawnK E call fid id ops.toList a s = _ from h)
        have hdr : drawOK E fid id ops.toList = true := hdr
        unfold drawOK at hdr
        rw [hri] at hdr
        exact drawn_ok ht hX hc hl hm hops (static_of hdr) hr hn hna hg hs ha hf
    | seq x y =>
      have hcode : andB (codeOK E fid nt g x) (codeOK E fid nt g y) = true := hcode
      rw [andB_eq, Bool.and_eq_true] at hcode
      exact wp_seq (seq (f := y) (Y := fun Q => y.wp P Q) (fun hq hm => wp_mono hq hm) (fun a2 s2 hk hn hna ρ w a' hg hs ha hf => ih1 y hcode.2 a2 s2 e a1 s1 hk hn hna ρ w a' hg hs ha hf) hcode.1
        (show thenK (exec E call fid n x a s) (exec E call fid n y) = _ from h) hn hna hg hs ha hf)
    | cond c x y =>
      have hcode : andB (opndOK nt g c) (andB (codeOK E fid nt g x) (codeOK E fid nt g y)) = true := hcode
      simp only [andB_eq, Bool.and_eq_true] at hcode
      obtain ⟨h1, h2, h3⟩ := hcode
      obtain ⟨b, hb, hk⟩ := condK_ok (show condK (evalO c a.tm) (fun _ => exec E call fid n x a s) (fun _ => exec E call fid n y a s) = _ from h)
      have hv := evalO_ok (a' := a') (tm := a.tm) h1 hg (fun t he => ha.tm t (by
        subst he
        exact Nat.lt_of_lt_of_le (isLt_iff.1 h1) ha.small))
      rw [hb] at hv
      refine wp_cond hv.bool ?_
      cases b with
      | true => exact ih1 x h2 a s e a1 s1 hk hn hna ρ w a' hg hs ha hf
      | false => exact ih1 y h3 a s e a1 s1 hk hn hna ρ w a' hg hs ha hf
    | block id x =>
      obtain ⟨e1, h1, hcase⟩ := blockK_ok (show blockK id (exec E call fid n x a s) = _ from h)
      refine wp_block (wp_mono (ih1 x hcode a s e1 a1 s1 h1 hn hna ρ w a' hg hs ha hf) ?_)
      rintro x' b w' ⟨ρ2, p1, p2, p3⟩
      rcases hcase with ⟨rfl, rfl⟩ | ⟨rfl, rfl⟩ | ⟨rfl, hn1, hn2⟩
      · cases x' <;> first | exact ⟨ρ2, p1, p2, p3⟩ | exact p3.elim
      · cases x' with
        | exit j =>
          have : id = j := p3
          subst this
          simp only [Exit.inBlock, if_true]
          exact ⟨ρ2, p1, p2, trivial⟩
        | _ => exact p3.elim
      · cases x' with
        | exit j =>
          cases e1 with
          | exit i =>
            have : i = j := p3
            subst this
            have hne : i ≠ id := fun he => hn2 (by rw [he])
            simp only [Exit.inBlock, if_neg hne]
            exact ⟨ρ2, p1, p2, rfl⟩
          | _ => exact p3.elim
        | _ => exact ⟨ρ2, p1, p2, p3⟩
    | loop x => exact wp_loop_of (loops x hcode a s e a1 s1 h hn hna ρ w a' hg hs ha hf)
    | exit id => cases h; exact leaf wp_exit rfl hs ha
    | scope x =>
      obtain ⟨h1, h2⟩ := scopeK_ok (show scopeK (exec E call fid n x a s) = _ from h)
      refine wp_scope_straight (wp_mono (ih1 x hcode a s e a1 s1 h1 hn hna ρ w a' hg hs ha hf) ?_)
      rintro x' b w' ⟨ρ2, p1, p2, p3⟩
      cases x' with
      | goto j =>
        cases e with
        | goto i => exact absurd rfl (h2 i)
        | _ => exact p3.elim
      | _ => exact ⟨ρ2, p1, p2, p3⟩
    | label l => cases h; exact leaf wp_label trivial hs ha
    | goto l => cases h; exact leaf wp_goto rfl hs ha
    | ret => cases h; exact leaf wp_ret trivial hs ha
    | _ => cases h
end
end
end Go.Dee
namespace Go.Dee
noncomputable section
open Go

/-! results -/
def resOK (nt : Nat) (r : ResultVar) : Bool := ResultVar.rec (motive := fun _ => Bool) (fun t => isLt t nt) (fun a _ => isLt a nt) r
def resCell (_P : Program) (tmps : Array Value) (r : ResultVar) : Sem Value :=
  match r with
  | .tmp t => pure (tmps.getD t undef)
  | .cell a t => do loadVar t (← asAddr (tmps.getD a undef))

theorem bindV_some {x : Option AV} {f : AV → Option (List AV)} {l : List AV} (h : bindV x f = some l) : ∃ v, x = some v ∧ f v = some l := by
  cases x with
  | none => cases h
  | some v => exact ⟨v, rfl, h⟩
theorem vPtrO_some {a v : AV} {f : Nat → Nat → Option AV} (h : vPtrO a f = some v) : ∃ b o, a = .ptr b o ∧ f b o = some v := by
  cases a with
  | ptr b o => exact ⟨b, o, rfl, h⟩
  | _ => cases h

section
variable {P : Program} {E : Env} {call : CallF} {g nt : Nat} {ρ : Ren} {s : St} {w : World}

theorem resV_ok (ht : TTok P E.tt) {tm : Tmps} {tmps : Array Value} (hs : SRon E.tt Any ρ s.h w) (hsm : nt ≤ 256) (htm : ∀ i, i < 256 → V ρ (tget tm i) (tmps.getD i undef)) {r : ResultVar} (hr : resOK nt r = true)
    {v : AV} (h : resV E.tt tm s r = some v) : ∃ v', (resCell P tmps r).run P w = .ok v' w ∧ V ρ v v' := by
  cases r with
  | tmp t =>
    have h : some (tget tm t) = some v := h
    cases h
    exact ⟨_, rfl, htm t (Nat.lt_of_lt_of_le (isLt_iff.1 hr) hsm)⟩
  | cell a t =>
    have h : cellRes E.tt s t (tget tm a) = some v := h
    unfold cellRes at h
    obtain ⟨b, o, hb, h⟩ := vPtrO_some h
    have hv := htm a (Nat.lt_of_lt_of_le (isLt_iff.1 hr) hsm)
    rw [hb] at hv
    obtain ⟨p, hp, hval⟩ := hv.ptr
    cases hti : E.tt.get t with
    | none => rw [hti] at h; cases h
    | some ti =>
      rw [hti] at h
      dsimp only at h
      cases hl : s.cells b o ti.loadSize with
      | none => rw [hl] at h; cases h
      | some l =>
        rw [hl] at h
        obtain ⟨i, d, z, hview⟩ := ht.view hti
        obtain ⟨v', hrun, hr'⟩ := loadVar_ok (P := P) hview hs trivial hp hl h
        refine ⟨v', ?_, hr'⟩
        simp [resCell, hval, asAddr, hrun]
theorem resultsA_ok (ht : TTok P E.tt) {tm : Tmps} {tmps : Array Value} (hs : SRon E.tt Any ρ s.h w) (hsm : nt ≤ 256) (htm : ∀ i, i < 256 → V ρ (tget tm i) (tmps.getD i undef)) :
    ∀ (l : List ResultVar), (∀ r ∈ l, resOK nt r = true) → ∀ vs, resultsA E.tt tm s l = some vs → ∃ vs', (l.mapM (resCell P tmps)).run P w = .ok vs' w ∧ Vs ρ vs vs' := by
  intro l
  induction l with
  | nil => intro _ vs h; cases h; exact ⟨[], rfl, Vs.nil'⟩
  | cons r l ih =>
    intro hr vs h
    have h : bindV (resV E.tt tm s r) (fun v => consO v (resultsA E.tt tm s l)) = some vs := h
    obtain ⟨v, hv, h2⟩ := bindV_some h
    obtain ⟨t, ht2, rfl⟩ := consO_some h2
    obtain ⟨v', h3, h4⟩ := resV_ok ht hs hsm htm (hr r (by simp)) hv
    obtain ⟨t', h5, h6⟩ := ih (fun r hr' => hr r (by simp [hr'])) t ht2
    refine ⟨v' :: t', ?_, Vs.cons' h4 h6⟩
    simp only [List.mapM_cons, Sem.run_bind, h3, Result.andThen_ok, h5, Sem.run_pure]
theorem oneOrTup_ok {vs : List AV} {vs' : List Value} (h : Vs ρ vs vs') : V ρ (oneOrTup vs) (if h : vs'.toArray.size = 1 then vs'.toArray[0] else .tuple vs'.toArray) := by
  cases vs with
  | nil =>
    simp only [Vs] at h
    subst h
    show V ρ (.tup []) _
    simp only [V]
    exact ⟨#[], by simp, Vs.nil'⟩
  | cons v vs =>
    cases vs with
    | nil =>
      obtain ⟨x, rfl, hx⟩ := h.inv1
      show V ρ v _
      simpa using hx
    | cons u vs =>
      show V ρ (.tup (v :: u :: vs)) _
      have hl := h.length
      have hne : ¬ vs'.toArray.size = 1 := by
        rw [List.size_toArray, ← hl]
        simp
      rw [dif_neg hne]
      simp only [V]
      exact ⟨_, rfl, by simpa using h⟩

/-- how a call may end, the deferred calls run. -/
theorem finish_ok (ht : TTok P E.tt) {fn : AFn} {gn : Func} (hres : gn.results.toList = fn.results) (hr : ∀ r ∈ fn.results, resOK nt r = true) {a : AAct} {s' : St} {v : AV} (h : finish E fn a s = .ret v s') :
    s' = s ∧ ∀ (ρ : Ren) (w : World) (tmps : Array Value), SRon E.tt Any ρ s.h w → nt ≤ 256 → (∀ i, i < 256 → V ρ (tget a.tm i) (tmps.getD i undef)) → ∃ v', (results gn tmps).run P w = .ok v' w ∧ V ρ v v' := by
  unfold finish at h
  cases hv : resultsA E.tt a.tm s fn.results with
  | none => rw [hv] at h; cases h
  | some vs =>
    rw [hv] at h
    cases h
    refine ⟨rfl, fun ρ w tmps hs hsm htm => ?_⟩
    obtain ⟨vs', h1, h2⟩ := resultsA_ok (P := P) ht hs hsm htm fn.results hr vs hv
    refine ⟨_, ?_, oneOrTup_ok h2⟩
    have e : results gn tmps = (do
        let vs ← gn.results.mapM (resCell P tmps)
        pure (if h : vs.size = 1 then vs[0] else .tuple vs) : Sem Value) := by
      unfold results resCell
      rfl
    rw [e, Array.mapM_eq_mapM_toList, hres]
    simp [h1]
end

/-! what the evaluator's own tables say of functions -/
structure FTok (P : Program) (E : Env) (g : Nat) : Prop where
  fn : ∀ f fn, E.ft.get f = some fn → ∃ gn : Func, P.funcs[f]? = some gn ∧ (gn.name == "runtime.NumGoroutine") = false ∧ gn.body = fn.body ∧ gn.ntmps = fn.ntmps ∧ gn.results.toList = fn.results ∧
    fn.ntmps ≤ 256 ∧ (∀ c, fn.body = some c → codeOK E f fn.ntmps g c = true) ∧ ∀ r ∈ fn.results, resOK fn.ntmps r = true

/-! the first temporaries of a call -/
theorem argTmps_get : ∀ (l : List AV) (k : Nat) (t : Tmps) (i : Nat), k + l.length ≤ 256 → i < 256 → tget (argTmps l k t) i = if k ≤ i ∧ i < k + l.length then l.getD (i - k) .top else tget t i := by
  intro l
  induction l with
  | nil =>
    intro k t i _ _
    rw [if_neg (by simp only [List.length_nil]; omega)]
    rfl
  | cons v l ih =>
    intro k t i hk hi
    show tget (argTmps l (k + 1) (tset t k v)) i = _
    rw [List.length_cons] at hk ⊢
    rw [ih (k + 1) _ i (by omega) hi, tget_tset _ _ _ _ (by omega) hi]
    by_cases h1 : k + 1 ≤ i ∧ i < k + 1 + l.length
    · rw [if_pos h1, if_pos (by omega), show i - k = (i - (k + 1)) + 1 by omega, List.getD_cons_succ]
    · rw [if_neg h1]
      by_cases h2 : k = i
      · subst h2
        rw [if_pos rfl, if_pos (by omega), Nat.sub_self, List.getD_cons_zero]
      · rw [if_neg h2, if_neg (by omega)]
theorem AOK.start {ρ : Ren} {l : List AV} {args : Array Value} {nt : Nat} (h : Vs ρ l args.toList) (hl : l.length ≤ nt) (hn : nt ≤ 256) :
    AOK ρ nt ⟨argTmps l 0 tms0, []⟩ { tmps := args ++ Array.replicate (nt - args.size) undef, defers := [] } := by
  have hlen : l.length = args.size := by rw [h.length]; simp
  refine ⟨hn, by simp; omega, fun i hi => ?_, rfl⟩
  show V ρ (tget (argTmps l 0 tms0) i) _
  rw [argTmps_get l 0 tms0 i (by omega) hi]
  by_cases hlt : i < l.length
  · rw [if_pos (by omega)]
    have ha : l[i]? = some l[i] := List.getElem?_eq_getElem hlt
    obtain ⟨v, hv, hr⟩ := h.get ha
    have e1 : l.getD (i - 0) .top = l[i] := by simp [List.getD, ha]
    have e2 : (args ++ Array.replicate (nt - args.size) undef).getD i undef = v := by
      have hv' : args[i]? = some v := by simpa using hv
      have : i < args.size := by omega
      rw [Array.getD_eq_getD_getElem?, Array.getElem?_append, if_pos this, hv']
      rfl
    rw [e1, e2]
    exact hr
  · rw [if_neg (by omega), tget_tms0]
    have : (args ++ Array.replicate (nt - args.size) undef).getD i undef = undef := by
      rw [Array.getD_eq_getD_getElem?, Array.getElem?_append]
      have : ¬ i < args.size := by omega
      rw [if_neg this]
      by_cases h2 : i - args.size < nt - args.size
      · simp [h2]
      · simp [h2]
    rw [this]
    exact V.undef

/-! what a call leaves -/
theorem leave_keep {s0 s : St} (hlog : Log (clearW s0) s) (hna : NA s0) (hz : isNilL (oldOnly s0.n s.w) = true) : ∀ b, b < 65536 → hget s0.h b ≠ none → hget s.h b = hget s0.h b := by
  intro b hb hx
  have hlt : b < s0.n := by
    rcases Nat.lt_or_ge b s0.n with h | h
    · exact h
    · exact absurd (hna b h hb) hx
  refine hlog.keep b hb hlt fun c hc e => ?_
  by_cases hold : c < s0.n ∨ 65536 ≤ c
  · have := mem_oldOnly.2 ⟨hc, hold⟩
    rw [isNilL_iff.1 hz] at this
    cases this
  · rw [Nat.mod_eq_of_lt (by omega)] at e
    omega
theorem leave_eq (s0 : St) (v : AV) (s : St) : leave s0 v s = if (v.plain && isNilL (oldOnly s0.n s.w)) = true then { h := s0.h, n := s.n, w := s0.w } else { h := s.h, n := s.n, w := appL (oldOnly s0.n s.w) s0.w } := by
  unfold leave
  rw [andB_eq]
  cases (v.plain && isNilL (oldOnly s0.n s.w)) <;> rfl
theorem leave_log {s0 s : St} {v : AV} (h : LogU (clearW s0) s) : LogU s0 (leave s0 v s) := by
  intro hn
  rw [leave_eq] at hn ⊢
  split
  · rename_i hc
    rw [if_pos hc] at hn
    have hlog := h hn
    refine ⟨hlog.n, fun b hb => hb, fun _ _ _ _ => rfl, fun hna b hb hlt => hna b (Nat.le_trans hlog.n hb) hlt⟩
  · rename_i hc
    rw [if_neg hc] at hn
    exact .join (h hn)
theorem leave_adv {tt : Trie TI} {s0 s : St} {v : AV} {ρ ρ' : Ren} {w w' : World} (hlog : Log (clearW s0) s) (hna : NA s0) (h : Adv tt Any ρ (clearW s0) w ρ' s w') : Adv tt Any ρ s0 w ρ' (leave s0 v s) w' := by
  rw [leave_eq]
  split
  · rename_i hc
    rw [Bool.and_eq_true] at hc
    have keep := leave_keep hlog hna hc.2
    have live : ∀ {b}, liveIn s0.h b → liveIn s.h b := fun {b} hl => ⟨hl.1, by rw [keep b hl.1 hl.2]; exact hl.2⟩
    have hsr := h.srAny
    refine ⟨⟨fun b x _ hb hx => hsr.heap b x trivial hb ?_, fun b c p q _ _ hlb hlc => hsr.inj b c p q trivial trivial (live hlb) (live hlc), hsr.dom⟩, h.le, h.fresh, h.n, h.frame,
      fun b p _ hl hp => h.own b p (.inl trivial) (live hl) hp, fun _ _ hF => absurd trivial hF, h.size, h.os, h.output, h.tape⟩
    rw [keep b hb (by rw [hx]; simp)]
    exact hx
  · exact h.same (fun _ _ => rfl) (fun _ _ => rfl) rfl rfl
theorem panic_adv {tt : Trie TI} {s0 s : St} {ρ ρ' : Ren} {w w' : World} (h : Adv tt Any ρ (clearW s0) w ρ' s w') : Adv tt Any ρ s0 w ρ' { h := s.h, n := s.n, w := appL (oldOnly s0.n s.w) s0.w } w' :=
  h.same (fun _ _ => rfl) (fun _ _ => rfl) rfl rfl
end
end Go.Dee
namespace Go.Dee
open Go

/-! deferred bodies: what they leave in the log -/
def FinSLog (s : St) (f : FinS) : Prop := ∀ e a r s', f = .ok e a r s' → LogU s s'
section
variable {E : Env} {call : CallF} {ops l : List Oper} {o : Oper} {a a' : AAct} {s s' : St} {e : AExit} {x : AR} {fid : Nat} {r r' : Rec}

theorem runOpsS_cons : runOpsS E call ops (o :: l) a r s = if wantedA ops o.guard a.tm = true then stepOpS call (aop o.op E a.tm s) o a r s (runOpsS E call ops l) else runOpsS E call ops l (a.put o.dst .top) r s := by
  show Bool.rec (motive := fun _ => FinS) (runOpsS E call ops l (a.put o.dst .top) r s) (stepOpS call (aop o.op E a.tm s) o a r s (runOpsS E call ops l)) (wantedA ops o.guard a.tm) = _
  cases wantedA ops o.guard a.tm <;> rfl
theorem stepOpS_ok {k : AAct → Rec → St → FinS} (h : stepOpS call x o a r s k = .ok e a' r' s') :
    (∃ v s1 rd, x = .val v s1 rd ∧ k (a.put o.dst v) r s1 = .ok e a' r' s') ∨
    (∃ s1 rd, x = .skip s1 rd ∧ k (a.put o.dst .top) r s1 = .ok e a' r' s') ∨
    (∃ f args v s1, x = .enter f args ∧ call f args s = .ret v s1 ∧ k (a.put o.dst v) r s1 = .ok e a' r' s') ∨
    (x = .recover ∧ recTo r o a s k = .ok e a' r' s') := by
  cases x with
  | val v s1 rd => exact .inl ⟨v, s1, rd, rfl, h⟩
  | skip s1 rd => exact .inr (.inl ⟨s1, rd, rfl, h⟩)
  | enter f args =>
    have h : AEnd.rec (motive := fun _ => FinS) .bad (fun v s' => k (a.put o.dst v) r s') (fun _ _ => .bad) (call f args s) = .ok e a' r' s' := h
    cases hc : call f args s with
    | bad => rw [hc] at h; cases h
    | ret v s1 => rw [hc] at h; exact .inr (.inr (.inl ⟨f, args, v, s1, rfl, hc, h⟩))
    | panicked v s1 => rw [hc] at h; cases h
  | recover => exact .inr (.inr (.inr ⟨rfl, h⟩))
  | _ => cases h
theorem liftS_ok {f : Fin} (h : liftS r f = .ok e a r' s) : f = .ok e a s ∧ r' = r := by
  cases f with
  | bad => cases h
  | ok e1 a1 s1 => cases h; exact ⟨rfl, rfl⟩
theorem thenS_ok {f : FinS} {k : AAct → Rec → St → FinS} (h : thenS f k = .ok e a r s) :
    ∃ e1 a1 r1 s1, f = .ok e1 a1 r1 s1 ∧ ((e1 = .normal ∧ k a1 r1 s1 = .ok e a r s) ∨ (e1 ≠ .normal ∧ e = e1 ∧ a = a1 ∧ r = r1 ∧ s = s1)) := by
  cases f with
  | bad => cases h
  | ok e1 a1 r1 s1 =>
    refine ⟨e1, a1, r1, s1, rfl, ?_⟩
    cases e1 with
    | normal => exact .inl ⟨rfl, h⟩
    | _ => cases h; exact .inr ⟨by simp, rfl, rfl, rfl, rfl⟩
theorem vCondS_ok {c : AV} {x y : Unit → FinS} (h : vCondS c x y = .ok e a r s) : ∃ b, c = .bool b ∧ (if b = true then x () else y ()) = .ok e a r s := by
  unfold vCondS at h
  cases c with
  | bool b => cases b <;> exact ⟨_, rfl, h⟩
  | _ => cases h
/-- a call of recover. -/
theorem recTo_eq {k : AAct → Rec → St → FinS} : ∃ v r1, recTo r o a s k = k (a.put o.dst v) r1 s ∧
    ((r = .returning ∧ v = .nilif ∧ r1 = .returning) ∨ (∃ u, r = .panicking u ∧ v = u ∧ r1 = .recovered u) ∨ (∃ u, r = .recovered u ∧ v = .nilif ∧ r1 = .recovered u)) := by
  cases r with
  | returning => exact ⟨.nilif, .returning, rfl, .inl ⟨rfl, rfl, rfl⟩⟩
  | panicking u => exact ⟨u, .recovered u, rfl, .inr (.inl ⟨u, rfl, rfl, rfl⟩)⟩
  | recovered u => exact ⟨.nilif, .recovered u, rfl, .inr (.inr ⟨u, rfl, rfl, rfl⟩)⟩

theorem runOpsS_log (hc : CallLog call) : ∀ (l : List Oper) (a : AAct) (r : Rec) (s : St), FinSLog s (runOpsS E call ops l a r s) := by
  intro l
  induction l with
  | nil => intro a r s e a' r' s' h; cases h; exact .refl s
  | cons o l ih =>
    intro a r s e a' r' s' h
    rw [runOpsS_cons] at h
    split at h
    · have hst := aop_log (o := o.op) (E := E) (tm := a.tm) (s := s)
      rcases stepOpS_ok h with ⟨v, s1, rd, hx, hk⟩ | ⟨s1, rd, hx, hk⟩ | ⟨f, args, v, s1, hx, hcl, hk⟩ | ⟨hx, hk⟩
      · rw [hx] at hst; exact LogU.trans hst (ih _ _ _ _ _ _ _ hk)
      · rw [hx] at hst; exact LogU.trans hst (ih _ _ _ _ _ _ _ hk)
      · exact LogU.trans ((hc f args s).1 _ _ hcl) (ih _ _ _ _ _ _ _ hk)
      · obtain ⟨v, r1, he, _⟩ := recTo_eq (r := r) (o := o) (a := a) (s := s) (k := runOpsS E call ops l)
        rw [he] at hk
        exact ih _ _ _ _ _ _ _ hk
    · exact ih _ _ _ _ _ _ _ h

theorem execS_lift {n : Nat} {c : Code} (h1 : ∀ id ops d, c ≠ .region id ops d) (h2 : ∀ x y, c ≠ .seq x y) (h3 : ∀ d x y, c ≠ .cond d x y) : execS E call fid (n + 1) c a r s = liftS r (exec E call fid (n + 1) c a s) := by
  cases c with
  | region id ops d => exact absurd rfl (h1 _ _ _)
  | seq x y => exact absurd rfl (h2 _ _)
  | cond d x y => exact absurd rfl (h3 _ _ _)
  | _ => rfl
theorem execS_log (hc : CallLog call) : ∀ (n : Nat) (c : Code) (a : AAct) (r : Rec) (s : St), FinSLog s (execS E call fid n c a r s) := by
  intro n
  induction n with
  | zero => intro c a r s e a' r' s' h; cases h
  | succ n ih =>
    intro c a r s e a' r' s' h
    have other : (∀ id ops d, c ≠ .region id ops d) → (∀ x y, c ≠ .seq x y) → (∀ d x y, c ≠ .cond d x y) → LogU s s' := fun h1 h2 h3 => by
      rw [execS_lift h1 h2 h3] at h
      exact exec_log hc _ _ _ _ _ _ _ (liftS_ok h).1
    cases c with
    | region id rops draw =>
      cases draw with
      | false => exact runOpsS_log hc _ _ _ _ _ _ _ _ (show runOpsS E call rops.toList rops.toList a r s = _ from h)
      | true =>
        obtain ⟨ri, _, hr⟩ := drawnK_ok (liftS_ok (show liftS r (drawnK E call fid id rops.toList a s) = _ from h)).1
        exact runDrawn_log hc _ _ _ _ _ _ _ hr
    | seq x y =>
      obtain ⟨e1, a1, r1, s1, hf, ⟨_, hk⟩ | ⟨_, _, _, _, rfl⟩⟩ := thenS_ok (show thenS (execS E call fid n x a r s) (execS E call fid n y) = _ from h)
      · exact (ih x a r s _ _ _ _ hf).trans (ih y a1 r1 s1 _ _ _ _ hk)
      · exact ih x a r s _ _ _ _ hf
    | cond c x y =>
      obtain ⟨b, _, hb⟩ := vCondS_ok (show vCondS (evalO c a.tm) (fun _ => execS E call fid n x a r s) (fun _ => execS E call fid n y a r s) = _ from h)
      cases b with
      | true => exact ih _ _ _ _ _ _ _ _ hb
      | false => exact ih _ _ _ _ _ _ _ _ hb
    | _ => exact other (by simp) (by simp) (by simp)
end

/-! the deferred calls -/
section
variable {E : Env} {call : CallF} {fn : AFn} {a : AAct}
theorem ifF_ok {b : Bool} {x : Fin} {e : AExit} {s : St} (h : ifF b x = .ok e a s) : b = true ∧ x = .ok e a s := by
  cases b with
  | false => cases h
  | true => exact ⟨rfl, h⟩
theorem ifFS_ok {b : Bool} {x : FinS} {e : AExit} {r : Rec} {s : St} (h : ifFS b x = .ok e a r s) : b = true ∧ x = .ok e a r s := by
  cases b with
  | false => cases h
  | true => exact ⟨rfl, h⟩
theorem startBody_ok {f : FuncId} {args : List AV} {s s' : St} {e : AExit} (h : startBody E call f args s fn = .ok e a s') :
    ∃ c, fn.body = some c ∧ args.length ≤ fn.ntmps ∧ exec E call f fuel c ⟨argTmps args 0 tms0, []⟩ s = .ok e a s' := by
  unfold startBody at h
  cases hb : fn.body with
  | none => rw [hb] at h; cases h
  | some c =>
    rw [hb] at h
    obtain ⟨h1, h2⟩ := ifF_ok h
    exact ⟨c, rfl, by simpa using Nat.le_of_ble_eq_true h1, h2⟩
theorem startS_ok {f : FuncId} {args : List AV} {r r' : Rec} {s s' : St} {e : AExit} (h : startS E call f args r s fn = .ok e a r' s') :
    ∃ c, fn.body = some c ∧ args.length ≤ fn.ntmps ∧ execS E call f fuel c ⟨argTmps args 0 tms0, []⟩ r s = .ok e a r' s' := by
  unfold startS at h
  cases hb : fn.body with
  | none => rw [hb] at h; cases h
  | some c =>
    rw [hb] at h
    obtain ⟨h1, h2⟩ := ifFS_ok h
    exact ⟨c, rfl, by simpa using Nat.le_of_ble_eq_true h1, h2⟩
theorem vFnE_ok {v : AV} {f : FuncId → List AV → List AV → AEnd} {x : AEnd} (hx : x ≠ .bad) (h : vFnE v f = x) : ∃ g fs cs, v = .fn (.func g) fs cs ∧ f g fs cs = x := by
  cases v with
  | fn g fs cs => cases g with
    | func g => exact ⟨g, fs, cs, rfl, h⟩
    | _ => exact absurd h.symm hx
  | _ => exact absurd h.symm hx
theorem noDefers_iff {l : List (AV × List AV)} : noDefers l = true ↔ l = [] := by
  cases l with
  | nil => exact ⟨fun _ => rfl, fun _ => rfl⟩
  | cons => exact ⟨fun h => (by cases h), fun h => (by cases h)⟩
theorem deferK_ok {gn : AFn} {k : Rec → St → AEnd} {f : FinS} {x : AEnd} (hx : x ≠ .bad) (h : deferK E gn k f = x) :
    ∃ e a r s v s', f = .ok e a r s ∧ (e = .normal ∨ e = .ret) ∧ a.ds = [] ∧ finish E gn a s = .ret v s' ∧ k (settleA r) s = x := by
  cases f with
  | bad => exact absurd h.symm hx
  | ok e a r s =>
    have done : ∀ {e}, e = .normal ∨ e = .ret → (Bool.rec (motive := fun _ => AEnd) .bad (k (settleA r) s) (andB (noDefers a.ds) (isEnd (finish E gn a s)))) = x →
        ∃ e' a' r' s2 v s', FinS.ok e a r s = .ok e' a' r' s2 ∧ (e' = .normal ∨ e' = .ret) ∧ a'.ds = [] ∧ finish E gn a' s2 = .ret v s' ∧ k (settleA r') s2 = x := by
      intro e he hb
      cases hc : andB (noDefers a.ds) (isEnd (finish E gn a s)) with
      | false => rw [hc] at hb; exact absurd hb.symm hx
      | true =>
        rw [hc] at hb
        rw [andB_eq, Bool.and_eq_true] at hc
        cases hfin : finish E gn a s with
        | bad => rw [hfin] at hc; exact absurd hc.2 (by intro h; cases h)
        | panicked v s' => rw [hfin] at hc; exact absurd hc.2 (by intro h; cases h)
        | ret v s' => exact ⟨e, a, r, s, v, s', rfl, he, noDefers_iff.1 hc.1, hfin, hb⟩
    cases e with
    | normal => exact done (.inl rfl) h
    | ret => exact done (.inr rfl) h
    | _ => exact absurd h.symm hx
theorem leaves_cons_ok {p : AV × List AV} {l : List (AV × List AV)} {r : Rec} {s : St} {x : AEnd} (hx : x ≠ .bad) (h : leaves E call fn a (p :: l) r s = x) :
    ∃ g fs cs gn e b r' s' v s'', p.1 = .fn (.func g) fs cs ∧ E.ft.get g = some gn ∧ startS E call g (appL (appL fs p.2) cs) r s gn = .ok e b r' s' ∧ (e = .normal ∨ e = .ret) ∧ b.ds = [] ∧
      finish E gn b s' = .ret v s'' ∧ leaves E call fn a l (settleA r') s' = x := by
  have h : vFnE p.1 (fun g fs cs => Option.rec (motive := fun _ => AEnd) .bad
      (fun gn => deferK E gn (leaves E call fn a l) (startS E call g (appL (appL fs p.2) cs) r s gn)) (E.ft.get g)) = x := h
  obtain ⟨g, fs, cs, hp, h2⟩ := vFnE_ok hx h
  cases hg : E.ft.get g with
  | none => rw [hg] at h2; exact absurd h2.symm hx
  | some gn =>
    rw [hg] at h2
    obtain ⟨e, b, r', s', v, s'', h3, h4, h5, h6, h7⟩ := deferK_ok hx h2
    exact ⟨g, fs, cs, gn, e, b, r', s', v, s'', hp, hg, h3, h4, h5, h6, h7⟩
theorem finish_same {s s' : St} {v : AV} (h : finish E fn a s = .ret v s') : s' = s := by
  unfold finish at h
  cases hv : resultsA E.tt a.tm s fn.results with
  | none => rw [hv] at h; cases h
  | some vs => rw [hv] at h; cases h; rfl
theorem finish_panic {s s' : St} {v : AV} (h : finish E fn a s = .panicked v s') : False := by
  unfold finish at h
  cases hv : resultsA E.tt a.tm s fn.results with
  | none => rw [hv] at h; cases h
  | some vs => rw [hv] at h; cases h
theorem leaves_log (hc : CallLog call) : ∀ (l : List (AV × List AV)) (r : Rec) (s : St), EndLog s (leaves E call fn a l r s) := by
  intro l
  induction l with
  | nil =>
    intro r s
    cases r with
    | returning => exact ⟨fun v s' h => (by rw [finish_same (show finish E fn a s = _ from h)]; exact .refl s), fun v s' h => (finish_panic (show finish E fn a s = _ from h)).elim⟩
    | panicking u => exact ⟨fun v s' h => (by cases h), fun v s' h => (by cases h; exact .refl s)⟩
    | recovered u => exact ⟨fun v s' h => (by cases h), fun v s' h => (by cases h)⟩
  | cons p l ih =>
    intro r s
    refine ⟨fun v s' h => ?_, fun v s' h => ?_⟩
    · obtain ⟨g, fs, cs, gn, e, b, r', s1, _, _, _, _, h3, _, _, _, h7⟩ := leaves_cons_ok (by simp) h
      obtain ⟨c, _, _, h4⟩ := startS_ok h3
      exact (execS_log hc _ _ _ _ _ _ _ _ _ h4).trans ((ih _ _).1 _ _ h7)
    · obtain ⟨g, fs, cs, gn, e, b, r', s1, _, _, _, _, h3, _, _, _, h7⟩ := leaves_cons_ok (by simp) h
      obtain ⟨c, _, _, h4⟩ := startS_ok h3
      exact (execS_log hc _ _ _ _ _ _ _ _ _ h4).trans ((ih _ _).2 _ _ h7)

theorem endK_ok {f : Fin} {x : AEnd} (hx : x ≠ .bad) (h : endK E call fn f = x) :
    ∃ e b s r, f = .ok e b s ∧ leaves E call fn b b.ds r s = x ∧ ((r = .returning ∧ (e = .normal ∨ e = .ret)) ∨ ∃ v, e = .panic v ∧ r = .panicking v) := by
  cases f with
  | bad => exact absurd h.symm hx
  | ok e b s =>
    have done : (Bool.rec (motive := fun _ => AEnd) (leaves E call fn b b.ds .returning s) (finish E fn b s) (noDefers b.ds)) = x → leaves E call fn b b.ds .returning s = x := by
      intro h
      cases hc : noDefers b.ds with
      | false => rw [hc] at h; exact h
      | true => rw [hc] at h; rw [noDefers_iff.1 hc]; exact h
    cases e with
    | normal => exact ⟨_, b, s, .returning, rfl, done h, .inl ⟨rfl, .inl rfl⟩⟩
    | ret => exact ⟨_, b, s, .returning, rfl, done h, .inl ⟨rfl, .inr rfl⟩⟩
    | panic v =>
      refine ⟨_, b, s, .panicking v, rfl, ?_, .inr ⟨v, rfl, rfl⟩⟩
      have h : (Bool.rec (motive := fun _ => AEnd) (leaves E call fn b b.ds (.panicking v) s) (.panicked v s) (noDefers b.ds)) = x := h
      cases hc : noDefers b.ds with
      | false => rw [hc] at h; exact h
      | true => rw [hc] at h; rw [noDefers_iff.1 hc]; exact h
    | _ => exact absurd h.symm hx
theorem outK_ok {s0 : St} {x y : AEnd} (hy : y ≠ .bad) (h : outK s0 x = y) : (∃ v s, x = .ret v s ∧ y = .ret v (leave s0 v s)) ∨ (∃ v s, x = .panicked v s ∧ y = .panicked v { h := s.h, n := s.n, w := appL (oldOnly s0.n s.w) s0.w }) := by
  cases x with
  | bad => exact absurd h.symm hy
  | ret v s => exact .inl ⟨v, s, rfl, h.symm⟩
  | panicked v s => exact .inr ⟨v, s, rfl, h.symm⟩
/-- a function, the calls in it answered by `call`. -/
noncomputable def callStep (E : Env) (call : CallF) : CallF := fun f args s => Option.rec (motive := fun _ => AEnd) .bad (fun fn => outK s (endK E call fn (startBody E call f args (clearW s) fn))) (E.ft.get f)
theorem callStep_succ {f : FuncId} {args : List AV} {s : St} {x : AEnd} (hx : x ≠ .bad) (h : callStep E call f args s = x) :
    ∃ fn y, E.ft.get f = some fn ∧ endK E call fn (startBody E call f args (clearW s) fn) = y ∧ outK s y = x := by
  have h : Option.rec (motive := fun _ => AEnd) .bad (fun fn => outK s (endK E call fn (startBody E call f args (clearW s) fn))) (E.ft.get f) = x := h
  cases hf : E.ft.get f with
  | none => rw [hf] at h; exact absurd h.symm hx
  | some fn => rw [hf] at h; exact ⟨fn, _, rfl, rfl, h⟩
theorem endK_log (hc : CallLog call) {s0 : St} {f : Fin} (hf : ∀ e b s, f = .ok e b s → LogU s0 s) : EndLog s0 (endK E call fn f) := by
  refine ⟨fun v s' h => ?_, fun v s' h => ?_⟩
  · obtain ⟨e, b, s, r, h1, h2, _⟩ := endK_ok (by simp) h
    exact (hf e b s h1).trans ((leaves_log hc _ _ _).1 _ _ h2)
  · obtain ⟨e, b, s, r, h1, h2, _⟩ := endK_ok (by simp) h
    exact (hf e b s h1).trans ((leaves_log hc _ _ _).2 _ _ h2)
theorem callStep_log (ih : CallLog call) : CallLog (callStep E call) := by
    intro f args s
    have key : ∀ {x}, x ≠ .bad → callStep E call f args s = x → ∃ y, outK s y = x ∧ EndLog (clearW s) y := by
      intro x hx h
      obtain ⟨fn, y, h1, h2, h3⟩ := callStep_succ hx h
      refine ⟨y, h3, ?_⟩
      rw [← h2]
      refine endK_log ih fun e b s' hb => ?_
      obtain ⟨c, _, _, h4⟩ := startBody_ok hb
      exact exec_log ih _ _ _ _ _ _ _ h4
    refine ⟨fun v s' h => ?_, fun v s' h => ?_⟩
    · obtain ⟨y, h1, h2⟩ := key (by simp) h
      rcases outK_ok (by simp) h1 with ⟨v1, s1, rfl, h3⟩ | ⟨v1, s1, rfl, h3⟩
      · cases h3
        exact leave_log (h2.1 _ _ rfl)
      · cases h3
    · obtain ⟨y, h1, h2⟩ := key (by simp) h
      rcases outK_ok (by simp) h1 with ⟨v1, s1, rfl, h3⟩ | ⟨v1, s1, rfl, h3⟩
      · cases h3
      · cases h3
        exact fun hn => .join (h2.2 _ _ rfl hn)
theorem callN_log : ∀ n, CallLog (callN E n) := by
  intro n
  induction n with
  | zero => intro f args s; exact ⟨fun v s' h => (by cases h), fun v s' h => (by cases h)⟩
  | succ n ih => exact callStep_log ih
end
end Go.Dee
namespace Go.Dee
open Go

/-! deferred bodies, against the model -/
def RecRel (ρ : Ren) : Rec → FrameMode → Prop
  | .returning, .returning => True
  | .panicking v, .panicking ch => ∃ v', ch = [{ v := v', recovered := false }] ∧ V ρ v v'
  | .recovered v, .panicking ch => ∃ v', ch = [{ v := v', recovered := true }] ∧ V ρ v v'
  | _, _ => False
theorem RecRel.mono {ρ ρ' : Ren} (h : ρ.le ρ') {r : Rec} {u : FrameMode} (hr : RecRel ρ r u) : RecRel ρ' r u := by
  cases r <;> cases u <;> first | exact hr | (obtain ⟨v', h1, h2⟩ := hr; exact ⟨v', h1, h2.mono h⟩)
theorem RecRel.settle {ρ : Ren} {r : Rec} {u : FrameMode} (hr : RecRel ρ r u) : RecRel ρ (settleA r) (Go.settle u) := by
  cases r <;> cases u <;> first | exact hr.elim | exact trivial | (obtain ⟨v', rfl, h2⟩ := hr; first | exact ⟨v', rfl, h2⟩ | exact trivial)
theorem RecRel.notRun {ρ : Ren} {r : Rec} {u : FrameMode} (hr : RecRel ρ r u) : u ≠ .run := by
  rintro rfl
  cases r <;> exact hr.elim

def PostS (tt : Trie TI) (nt : Nat) (ρ : Ren) (s : St) (w : World) (e : AExit) (a : AAct) (r : Rec) (s1 : St) (c₀ : Frame) (cs : List Frame) (x : Exit) (a' : Act) (cs' : List Frame) (w' : World) : Prop :=
  ∃ ρ' u', cs' = { c₀ with mode := u' } :: cs ∧ RecRel ρ' r u' ∧ Adv tt Any ρ s w ρ' s1 w' ∧ AOK ρ' nt a a' ∧ exitRel ρ' e x

section
variable {P : Program} {E : Env} {call : CallF} {g nt : Nat}

theorem wpS_one {o : Oper} {ops : Array Oper} {rest : List Nat} {a : Act} {cs : List Frame} {w : World} {Q : Exit → Act → List Frame → World → Prop}
    (h : o.wp P a w (fun a' w' => wpOpsS P ops Q rest a' cs w') (fun e a' w' => Q e a' cs w')) :
    (match (execOp a.eval o).run P w with
      | .ok .recover w' =>
        match recoverD cs with
        | some (v, cs') => wpOpsS P ops Q rest (a.put o.dst v) cs' w'
        | none => wpOpsS P ops Q rest (a.put o.dst .nilIface) cs w'
      | r => o.upon P a (fun a' w' => wpOpsS P ops Q rest a' cs w') (fun e a' w' => Q e a' cs w') r) := by
  unfold Oper.wp at h
  revert h
  generalize (execOp a.eval o).run P w = r
  intro h
  cases r with
  | ok n w' => cases n <;> first | exact h | exact h.elim
  | halt x w' => exact h

theorem runOpsS_ok (ht : TTok P E.tt) (hX : ExtOK P E.ext) (hc : CallOK P E.tt g call) (hl : CallLog call) (ops : Array Oper) (hops : ∀ o ∈ ops.toList, operOK nt g o = true) (c₀ : Frame) (cs : List Frame) :
    ∀ (l pre : List Oper), ops.toList = pre ++ l → ∀ (a : AAct) (r : Rec) (s : St) (e : AExit) (a1 : AAct) (r1 : Rec) (s1 : St), runOpsS E call ops.toList l a r s = .ok e a1 r1 s1 → s1.n ≤ 65536 → NA s →
      ∀ (ρ : Ren) (w : World) (a' : Act) (u : FrameMode), RecRel ρ r u → GOK ρ g → SRon E.tt Any ρ s.h w → AOK ρ nt a a' → freeIn ρ s.n s1.n →
      ∀ (Q : Exit → Act → List Frame → World → Prop), (∀ x b cs' w', PostS E.tt nt ρ s w e a1 r1 s1 c₀ cs x b cs' w' → Q x b cs' w') →
        wpOpsS P ops Q (List.range' pre.length l.length) a' ({ c₀ with mode := u } :: cs) w := by
  have hdst := dsts_of hops
  intro l
  induction l with
  | nil =>
    intro pre hpre a r s e a1 r1 s1 h hn hna ρ w a' u hu hg hs ha hf Q hQ
    cases h
    exact hQ _ _ _ _ ⟨ρ, u, rfl, hu, .refl hs, ha, trivial⟩
  | cons o l ih =>
    intro pre hpre a r s e a1 r1 s1 h hn hna ρ w a' u hu hg hs ha hf Q hQ
    have ho : ops[pre.length]? = some o := by rw [← Array.getElem?_toList, hpre]; simp
    have hmem : o ∈ ops.toList := by rw [hpre]; simp
    have hpre' : ops.toList = (pre ++ [o]) ++ l := by rw [hpre]; simp
    have hlen : (pre ++ [o]).length = pre.length + 1 := by simp
    have htm : ∀ t ∈ o.looksAt ops, V ρ (tget a.tm t) (a'.tmps.getD t undef) := fun t ht => ha.tm t (Nat.lt_of_lt_of_le (looks_lt (hops o hmem) hdst t ht) ha.small)
    have hw := wanted_ok (o := o) (tm := a.tm) ha.size hdst htm
    have hσ := opnds_ok (ops := ops) (tm := a.tm) (a' := a') (hops o hmem) hg htm
    have hd : dstOK nt o.dst = true := hdst o hmem
    show wpOpsS P ops Q (pre.length :: List.range' (pre.length + 1) l.length) a' _ w
    unfold wpOpsS
    rw [ho]
    dsimp only
    rw [hw]
    rw [runOpsS_cons] at h
    have rest : ∀ {a2 : AAct} {r2 : Rec} {s2 : St}, runOpsS E call ops.toList l a2 r2 s2 = .ok e a1 r1 s1 → LogU s s2 → ∀ {ρ2 : Ren} {w2 : World} {a2' : Act} {u2 : FrameMode}, RecRel ρ2 r2 u2 → Adv E.tt Any ρ s w ρ2 s2 w2 → AOK ρ2 nt a2 a2' →
        wpOpsS P ops Q (List.range' (pre.length + 1) l.length) a2' ({ c₀ with mode := u2 } :: cs) w2 := by
      intro a2 r2 s2 hr hlog ρ2 w2 a2' u2 hu2 hadv ha2
      have hlog2 := runOpsS_log hl _ _ _ _ _ _ _ _ hr hn
      rw [← hlen]
      refine ih (pre ++ [o]) hpre' a2 r2 s2 e a1 r1 s1 hr hn ((hlog (Nat.le_trans hlog2.n hn)).na hna) ρ2 w2 a2' u2 hu2 (hg.mono hadv.le) hadv.srAny ha2 (hadv.free hf) Q ?_
      rintro x b cs' w' ⟨ρ3, u3, h0, h1, h2, h3, h4⟩
      exact hQ _ _ _ _ ⟨ρ3, u3, h0, h1, hadv.then h2, h3, h4⟩
    have le_of : ∀ {a2 : AAct} {r2 : Rec} {s2 : St}, runOpsS E call ops.toList l a2 r2 s2 = .ok e a1 r1 s1 → s2.n ≤ s1.n := fun hr => (runOpsS_log hl _ _ _ _ _ _ _ _ hr hn).n
    split
    · rename_i hwant
      rw [if_pos hwant] at h
      have hst := aop_log (o := o.op) (E := E) (tm := a.tm) (s := s)
      rcases stepOpS_ok h with ⟨v, s2, rd, hx, hk⟩ | ⟨s2, rd, hx, hk⟩ | ⟨f, args, v, s2, hx, hcl, hk⟩ | ⟨hx, hk⟩
      · rw [hx] at hst
        have h2 := le_of hk
        refine wpS_one (step_val ht hX hσ hx (hs.sub fun _ _ => trivial) (hf.less h2) (Nat.le_trans h2 hn) fun v' w' ρ' hadv hv => ?_)
        exact rest hk hst (hu.mono hadv.le) (hadv.more hs fun _ _ => trivial) ((ha.mono hadv.le).put hd hv)
      · rw [hx] at hst
        have h2 := le_of hk
        refine wpS_one (step_skip' ht hX hσ hx (hs.sub fun _ _ => trivial) (hf.less h2) (Nat.le_trans h2 hn) fun w' ρ' hadv => ?_)
        exact rest hk hst (hu.mono hadv.le) (hadv.more hs fun _ _ => trivial) ((ha.mono hadv.le).put hd V.undef)
      · have h2 := le_of hk
        refine wpS_one (step_enter ht hX hσ hc hx hcl hg hna hs (hf.less h2) (Nat.le_trans h2 hn) fun v' w' ρ' hadv hv => ?_)
        exact rest hk ((hl f args s).1 _ _ hcl) (hu.mono hadv.le) hadv ((ha.mono hadv.le).put hd hv)
      · have hgood := aop_good (P := P) (E := E) (ρ := ρ) (w := w) (s := s) ht hX hσ (fun f args e => by rw [hx] at e; cases e)
        rw [hx] at hgood
        have hrun : (execOp a'.eval o).run P w = .ok .recover w := hgood
        rw [hrun]
        dsimp only
        obtain ⟨v, r2, he, hcase⟩ := recTo_eq (r := r) (o := o) (a := a) (s := s) (k := runOpsS E call ops.toList l)
        rw [he] at hk
        rcases hcase with ⟨rfl, rfl, rfl⟩ | ⟨q, rfl, rfl, rfl⟩ | ⟨q, rfl, rfl, rfl⟩
        · cases u with
          | returning =>
            have hrec : recoverD ({ c₀ with mode := .returning } :: cs) = none := rfl
            rw [hrec]
            exact rest hk (.refl s) (u2 := .returning) trivial (.refl hs) (ha.put hd (by simp only [V]))
          | _ => exact hu.elim
        · cases u with
          | panicking ch =>
            obtain ⟨v', rfl, hv⟩ := hu
            have hrec : recoverD ({ c₀ with mode := .panicking [{ v := v', recovered := false }] } :: cs) = some (v', { c₀ with mode := .panicking [{ v := v', recovered := true }] } :: cs) := rfl
            rw [hrec]
            exact rest hk (.refl s) (u2 := .panicking [{ v := v', recovered := true }]) ⟨v', rfl, hv⟩ (.refl hs) (ha.put hd hv)
          | _ => exact hu.elim
        · cases u with
          | panicking ch =>
            obtain ⟨v', rfl, hv⟩ := hu
            have hrec : recoverD ({ c₀ with mode := .panicking [{ v := v', recovered := true }] } :: cs) = none := rfl
            rw [hrec]
            exact rest hk (.refl s) (u2 := .panicking [{ v := v', recovered := true }]) ⟨v', rfl, hv⟩ (.refl hs) (ha.put hd (by simp only [V]))
          | _ => exact hu.elim
    · rename_i hwant
      rw [if_neg hwant] at h
      exact rest h (.refl s) hu (.refl hs) (ha.put hd V.undef)

theorem wpS_mono {c : Code} {Q Q' : Exit → Act → List Frame → World → Prop} {a : Act} {cs : List Frame} {w : World} (h : c.wpS P Q a cs w) (hq : ∀ e a cs w, Q e a cs w → Q' e a cs w) : c.wpS P Q' a cs w :=
  fun b k hb hr => let ⟨e, a', cs', w', q, r⟩ := h b k hb hr; ⟨e, a', cs', w', hq _ _ _ _ q, r⟩

theorem execS_ok (ht : TTok P E.tt) (hX : ExtOK P E.ext) (hc : CallOK P E.tt g call) (hl : CallLog call) (hm : P.follows .mixedOrders = true) {fid : Nat} (c₀ : Frame) (cs : List Frame) : ∀ (n : Nat) (c : Code), codeOK E fid nt g c = true →
    ∀ (a : AAct) (r : Rec) (s : St) (e : AExit) (a1 : AAct) (r1 : Rec) (s1 : St), execS E call fid n c a r s = .ok e a1 r1 s1 → s1.n ≤ 65536 → NA s →
      ∀ (ρ : Ren) (w : World) (a' : Act) (u : FrameMode), RecRel ρ r u → GOK ρ g → SRon E.tt Any ρ s.h w → AOK ρ nt a a' → freeIn ρ s.n s1.n →
        c.wpS P (PostS E.tt nt ρ s w e a1 r1 s1 c₀ cs) a' ({ c₀ with mode := u } :: cs) w := by
  intro n
  induction n with
  | zero => intro c _ a r s e a1 r1 s1 h; cases h
  | succ n ih =>
    intro c hcode a r s e a1 r1 s1 h hn hna ρ w a' u hu hg hs ha hf
    have lift : ∀ {x : Exit} {b : Act} {w' : World}, Post E.tt nt ρ s w e a1 s1 x b w' → PostS E.tt nt ρ s w e a1 r s1 c₀ cs x b ({ c₀ with mode := u } :: cs) w' := by
      rintro x b w' ⟨ρ2, h1, h2, h3⟩
      exact ⟨ρ2, u, rfl, hu.mono h1.le, h1, h2, h3⟩
    have other : (∀ id ops d, c ≠ .region id ops d) → (∀ x y, c ≠ .seq x y) → (∀ d x y, c ≠ .cond d x y) → c.wpS P (PostS E.tt nt ρ s w e a1 r1 s1 c₀ cs) a' ({ c₀ with mode := u } :: cs) w := fun h1 h2 h3 => by
      rw [execS_lift h1 h2 h3] at h
      obtain ⟨h4, rfl⟩ := liftS_ok h
      exact wpS_of_wp (wp_mono ((exec_ok ht hX hc hl hm (n + 1)).1 c hcode a s e a1 s1 h4 hn hna ρ w a' hg hs ha hf) fun x b w' hp => lift hp)
    cases c with
    | region id ops draw =>
      have hcode0 : andB (allB (operOK nt g) ops.toList) (implB draw (drawOK E fid id ops.toList)) = true := hcode
      rw [andB_eq, Bool.and_eq_true, allB_iff] at hcode0
      obtain ⟨hops, hdr⟩ := hcode0
      cases draw with
      | false =>
        have hr := runOpsS_ok (nt := nt) ht hX hc hl ops hops c₀ cs ops.toList [] rfl a r s e a1 r1 s1 (show runOpsS E call ops.toList ops.toList a r s = _ from h) hn hna ρ w a' u hu hg hs ha hf _ fun _ _ _ _ h => h
        refine wpS_region ?_
        rw [List.range_eq_range']
        simpa using hr
      | true =>
        obtain ⟨h4, rfl⟩ := liftS_ok (show liftS r (drawnK E call fid id ops.toList a s) = _ from h)
        obtain ⟨ri, hri, hr⟩ := drawnK_ok h4
        have hdr : drawOK E fid id ops.toList = true := hdr
        unfold drawOK at hdr
        rw [hri] at hdr
        exact wpS_of_wp (wp_mono (drawn_ok ht hX hc hl hm hops (static_of hdr) hr hn hna hg hs ha hf) fun x b w' hp => lift hp)
    | seq x y =>
      have hcode : andB (codeOK E fid nt g x) (codeOK E fid nt g y) = true := hcode
      rw [andB_eq, Bool.and_eq_true] at hcode
      obtain ⟨e1, a2, r2, s2, hf1, hcase⟩ := thenS_ok (show thenS (execS E call fid n x a r s) (execS E call fid n y) = _ from h)
      have hlog1 := execS_log hl n x a r s _ _ _ _ hf1
      have hlog2 : LogU s2 s1 := by
        rcases hcase with ⟨_, hk⟩ | ⟨_, _, _, _, rfl⟩
        · exact execS_log hl n y a2 r2 s2 _ _ _ _ hk
        · exact .refl _
      have hn2 := (hlog2 hn).n
      have hlog1 := hlog1 (Nat.le_trans hn2 hn)
      refine wpS_seq (wpS_mono (ih x hcode.1 a r s e1 a2 r2 s2 hf1 (Nat.le_trans hn2 hn) hna ρ w a' u hu hg hs ha (hf.less hn2)) ?_)
      rintro x' b cs' w' ⟨ρ2, u2, rfl, p1, p2, p3, p4⟩
      rcases hcase with ⟨rfl, hk⟩ | ⟨hne, rfl, rfl, rfl, rfl⟩
      · cases x' with
        | normal =>
          refine wpS_mono (ih y hcode.2 a2 r2 s2 e a1 r1 s1 hk hn (hlog1.na hna) ρ2 w' b u2 p1 (hg.mono p2.le) p2.srAny p3 (p2.free hf)) ?_
          rintro x2 b2 cs2 w2 ⟨ρ3, u3, q0, q1, q2, q3, q4⟩
          exact ⟨ρ3, u3, q0, q1, p2.then q2, q3, q4⟩
        | _ => exact p4.elim
      · cases x' with
        | normal => cases e <;> first | exact absurd rfl hne | exact p4.elim
        | _ => exact ⟨ρ2, u2, rfl, p1, p2, p3, p4⟩
    | cond c x y =>
      have hcode : andB (opndOK nt g c) (andB (codeOK E fid nt g x) (codeOK E fid nt g y)) = true := hcode
      simp only [andB_eq, Bool.and_eq_true] at hcode
      obtain ⟨h1, h2, h3⟩ := hcode
      obtain ⟨b, hb, hk⟩ := vCondS_ok (show vCondS (evalO c a.tm) (fun _ => execS E call fid n x a r s) (fun _ => execS E call fid n y a r s) = _ from h)
      have hv := evalO_ok (a' := a') (tm := a.tm) h1 hg (fun t he => ha.tm t (by
        subst he
        exact Nat.lt_of_lt_of_le (isLt_iff.1 h1) ha.small))
      rw [hb] at hv
      refine wpS_cond hv.bool ?_
      cases b with
      | true => exact ih x h2 a r s e a1 r1 s1 hk hn hna ρ w a' u hu hg hs ha hf
      | false => exact ih y h3 a r s e a1 r1 s1 hk hn hna ρ w a' u hu hg hs ha hf
    | _ => exact other (by simp) (by simp) (by simp)

/-! where a call ends -/
def EndPost (tt : Trie TI) (ρ : Ren) (s : St) (w : World) (x : AEnd) (e : Ending) (w' : World) : Prop :=
  match x, e with
  | .ret v s1, .returned v' => ∃ ρ', Adv tt Any ρ s w ρ' s1 w' ∧ V ρ' v v'
  | .panicked v s1, .panicked ch => ∃ ρ' v', ch = [{ v := v', recovered := false }] ∧ Adv tt Any ρ s w ρ' s1 w' ∧ V ρ' v v'
  | _, _ => False
def endN : AEnd → Nat
  | .bad => 0
  | .ret _ s => s.n
  | .panicked _ s => s.n
theorem EndLog.n {s : St} {x : AEnd} (h : EndLog s x) (hb : x ≠ .bad) (hn : endN x ≤ 65536) : s.n ≤ endN x := by
  cases x with
  | bad => exact absurd rfl hb
  | ret v s' => exact (h.1 v s' rfl hn).n
  | panicked v s' => exact (h.2 v s' rfl hn).n
theorem EndPost.then {tt : Trie TI} {ρ ρ2 : Ren} {s s2 : St} {w w2 : World} {x : AEnd} {e : Ending} {w' : World} (h : Adv tt Any ρ s w ρ2 s2 w2) (h' : EndPost tt ρ2 s2 w2 x e w') : EndPost tt ρ s w x e w' := by
  cases x <;> cases e <;> first
    | exact h'.elim
    | (obtain ⟨ρ', h1, h2⟩ := h'; exact ⟨ρ', h.then h1, h2⟩)
    | (obtain ⟨ρ', v', h0, h1, h2⟩ := h'; exact ⟨ρ', v', h0, h.then h1, h2⟩)

theorem leaves_ok (ht : TTok P E.tt) (hX : ExtOK P E.ext) (hF : FTok P E g) (hc : CallOK P E.tt g call) (hl : CallLog call) (hm : P.follows .mixedOrders = true) {fn : AFn} {gn : Func} (hres : gn.results.toList = fn.results)
    (hr : ∀ r ∈ fn.results, resOK nt r = true) {a : AAct} : ∀ (l : List (AV × List AV)) (r : Rec) (s : St) (x : AEnd), leaves E call fn a l r s = x → x ≠ .bad → endN x ≤ 65536 → NA s →
      ∀ (ρ : Ren) (w : World) (a' : Act) (ds : List Deferred) (u : FrameMode), RecRel ρ r u → DsRel ρ l ds → GOK ρ g → SRon E.tt Any ρ s.h w → AOK ρ nt a a' → freeIn ρ s.n (endN x) →
      ∀ (R : Ending → World → Prop), (∀ e w', EndPost E.tt ρ s w x e w' → R e w') → Leaves P gn a'.tmps R ds u w := by
  intro l
  induction l with
  | nil =>
    intro r s x h hx hn hna ρ w a' ds u hu hds hg hs ha hf R hR
    have hds : ds = [] := hds
    subst hds
    cases r with
    | returning =>
      cases u with
      | returning =>
        have h : finish E fn a s = x := h
        cases x with
        | bad => exact absurd rfl hx
        | panicked v s' => exact (finish_panic h).elim
        | ret v s' =>
          obtain ⟨rfl, h2⟩ := finish_ok (P := P) (nt := nt) ht hres hr h
          obtain ⟨v', h3, h4⟩ := h2 ρ w a'.tmps hs ha.small ha.tm
          exact ⟨v', h3, hR _ _ ⟨ρ, .refl hs, h4⟩⟩
      | _ => exact hu.elim
    | panicking v =>
      cases u with
      | panicking ch =>
        obtain ⟨v', rfl, hv⟩ := hu
        have h : AEnd.panicked v s = x := h
        subst h
        exact hR _ _ ⟨ρ, v', rfl, .refl hs, hv⟩
      | _ => exact hu.elim
    | recovered v => exact absurd (show AEnd.bad = x from h).symm hx
  | cons p l ih =>
    intro r s x h hx hn hna ρ w a' ds u hu hds hg hs ha hf R hR
    obtain ⟨d, ds', rfl, hd, hds'⟩ := hds
    obtain ⟨f, fs, cs, gd, e, b, r', s', v, s'', hp, hgd, hstart, he, hbds, hfin, hrest⟩ := leaves_cons_ok hx h
    obtain ⟨c, hbody, hlen, hexec⟩ := startS_ok hstart
    obtain ⟨gf, k1, k2, k3, k4, k5, k6, k7, k8⟩ := hF.fn f gd hgd
    obtain ⟨f', args', rfl, hd2⟩ := hd
    obtain ⟨xa, ya, as, rfl, rfl, h3, h4, h5⟩ := hd2 (.func f) fs cs hp
    have hargs : Vs ρ (appL (appL fs p.2) cs) (xa ++ as ++ ya).toList := by
      rw [appL_eq, appL_eq, Array.toList_append, Array.toList_append]
      exact (h3.append h5).append h4
    have hbf : gf.body = some c := by rw [k3, hbody]
    have hinv : (invoke (.fn (.func f) ya) (xa ++ as)).run P w = .ok (.enter f (xa ++ as ++ ya)) w := by
      have k2' : gf.name ≠ "runtime.NumGoroutine" := by simpa using k2
      simp [invoke, callFunc, k1, k2', hbf]
    have hlog1 := execS_log hl _ _ _ _ _ _ _ _ _ hexec
    have hlog2 := leaves_log (E := E) (fn := fn) (a := a) hl l (settleA r') s'
    rw [hrest] at hlog2
    have hn2 := hlog2.n hx hn
    have hn1 : s'.n ≤ 65536 := Nat.le_trans hn2 hn
    have hlog1 := hlog1 hn1
    refine leaves_cons hu.notRun hinv (callsD_of_wpS k1 hbf fun c₀ cs0 hmode => ?_)
    have hc0 : c₀ = { c₀ with mode := u } := by subst hmode; rfl
    have hwp := execS_ok (nt := gd.ntmps) ht hX hc hl hm c₀ cs0 fuel c (k7 c hbody) _ r s e b r' s' hexec hn1 hna ρ w _ u hu hg hs (AOK.start hargs hlen k6) (hf.less hn2)
    rw [← hc0] at hwp
    have hsz : gd.ntmps = gf.ntmps := k4.symm
    rw [hsz] at hwp
    refine wpS_mono hwp ?_
    rintro x' b' cs' w' ⟨ρ2, u2, rfl, p1, p2, p3, p4⟩
    have hdef : b'.defers = [] := by
      have := p3.ds
      rw [hbds] at this
      exact this
    obtain ⟨rfl, hfin2⟩ := finish_ok (P := P) (gn := gf) (nt := gd.ntmps) ht k5 k8 hfin
    obtain ⟨v', hv1, _⟩ := hfin2 ρ2 w' b'.tmps p2.srAny k6 p3.tm
    have tail : Leaves P gn a'.tmps R ds' (settle u2) w' := by
      refine ih (settleA r') s'' x hrest hx hn (hlog1.na hna) ρ2 w' a' ds' (settle u2) p1.settle (hds'.mono p2.le) (hg.mono p2.le) p2.srAny (ha.mono p2.le) (p2.free hf) R ?_
      intro e2 w2 hp2
      exact hR _ _ (EndPost.then p2 hp2)
    have post : b'.defers = [] ∧ ∃ u', ({ c₀ with mode := u2 } :: cs0 : List Frame) = { c₀ with mode := u' } :: cs0 ∧ ∃ v, (results gf b'.tmps).run P w' = .ok v w' ∧ Leaves P gn a'.tmps R ds' (settle u') w' :=
      ⟨hdef, u2, rfl, v', hv1, tail⟩
    rcases he with rfl | rfl
    · cases x' with
      | normal => exact post
      | _ => exact p4.elim
    · cases x' with
      | ret => exact post
      | _ => exact p4.elim

theorem callStep_ok (ht : TTok P E.tt) (hX : ExtOK P E.ext) (hF : FTok P E g) (hm : P.follows .mixedOrders = true) (ih : CallOK P E.tt g call) (hl : CallLog call) : CallOK P E.tt g (callStep E call) := by
    intro f args s
    -- what a call comes to that doesn't go wrong
    have key : ∀ {x}, x ≠ .bad → callStep E call f args s = x → ∃ y, outK s y = x ∧ EndLog (clearW s) y ∧ y ≠ .bad ∧ Enters P f ∧ ∀ ρ w (args' : Array Value), GOK ρ g → NA s → SRon E.tt Any ρ s.h w → Vs ρ args args'.toList →
        freeIn ρ s.n (endN y) → endN y ≤ 65536 → Calls P f args' w (EndPost E.tt ρ (clearW s) w y) := by
      intro x hx h
      obtain ⟨fn, y, h1, h2, h3⟩ := callStep_succ hx h
      have hy : y ≠ .bad := by
        rintro rfl
        exact hx h3.symm
      obtain ⟨e, b, s1, r, hb, hlv, hcase⟩ := endK_ok hy h2
      obtain ⟨c, hbody, hlen, hexec⟩ := startBody_ok hb
      obtain ⟨gf, k1, k2, k3, k4, k5, k6, k7, k8⟩ := hF.fn f fn h1
      have hbf : gf.body = some c := by rw [k3, hbody]
      have hlogU := exec_log hl _ _ _ _ _ _ _ hexec
      have hlog2 := leaves_log (E := E) (fn := fn) (a := b) hl b.ds r s1
      rw [hlv] at hlog2
      refine ⟨y, h3, ?_, hy, ⟨gf, k1, k2, by rw [hbf]; rfl⟩, ?_⟩
      · exact ⟨fun v s' e => hlogU.trans (hlog2.1 v s' e), fun v s' e => hlogU.trans (hlog2.2 v s' e)⟩
      · intro ρ w args' hg hna hs hargs hf hn
        have hn2 := hlog2.n hy hn
        have hn1 : s1.n ≤ 65536 := Nat.le_trans hn2 hn
        have hlog1 := hlogU hn1
        refine calls_of_wp_defers k1 hbf ?_
        have hwp := (exec_ok (nt := fn.ntmps) ht hX ih hl hm fuel).1 c (k7 c hbody) _ (clearW s) e b s1 hexec hn1 hna ρ w _ hg hs (AOK.start hargs hlen k6) (hf.less hn2)
        rw [← k4] at hwp
        refine wp_mono hwp ?_
        rintro x' b' w' ⟨ρ2, p1, p2, p3⟩
        have go : ∀ u, RecRel ρ2 r u → Leaves P gf b'.tmps (EndPost E.tt ρ (clearW s) w y) b'.defers u w' := fun u hu =>
          leaves_ok (nt := gf.ntmps) ht hX hF ih hl hm k5 (by rw [k4]; exact k8) b.ds r s1 y hlv hy hn (hlog1.na hna) ρ2 w' b' b'.defers u hu p2.ds (hg.mono p1.le) p1.srAny p2 (p1.free hf) _ fun e2 w2 hp2 => EndPost.then p1 hp2
        rcases hcase with ⟨rfl, rfl | rfl⟩ | ⟨v, rfl, rfl⟩
        · cases x' with
          | normal => exact go .returning trivial
          | _ => exact p3.elim
        · cases x' with
          | ret => exact go .returning trivial
          | _ => exact p3.elim
        · cases x' with
          | panic ch => exact go (.panicking ch) p3
          | _ => exact p3.elim
    cases hcall : callStep E call f args s with
    | bad => exact trivial
    | ret v s' =>
      obtain ⟨y, h1, hlog, hy, hen, hrun⟩ := key (by simp) hcall
      rcases outK_ok (by simp) h1 with ⟨v1, s1, rfl, h2⟩ | ⟨v1, s1, rfl, h2⟩
      · cases h2
        refine ⟨hen, fun ρ w args' hg hna hs hargs hf hn => ?_⟩
        have hsn : (leave s v s1).n = s1.n := by rw [leave_eq]; split <;> rfl
        rw [hsn] at hf hn
        refine Calls.mono (hrun ρ w args' hg hna hs hargs hf hn) fun e w' hp => ?_
        cases e with
        | returned v' =>
          obtain ⟨ρ', h3, h4⟩ := hp
          exact ⟨ρ', leave_adv (hlog.1 v s1 rfl hn) hna h3, h4⟩
        | _ => exact hp.elim
      · cases h2
    | panicked v s' =>
      obtain ⟨y, h1, hlog, hy, hen, hrun⟩ := key (by simp) hcall
      rcases outK_ok (by simp) h1 with ⟨v1, s1, rfl, h2⟩ | ⟨v1, s1, rfl, h2⟩
      · cases h2
      · cases h2
        refine ⟨hen, fun ρ w args' hg hna hs hargs hf hn => ?_⟩
        refine Calls.mono (hrun ρ w args' hg hna hs hargs hf hn) fun e w' hp => ?_
        cases e with
        | panicked ch =>
          obtain ⟨ρ', v', h0, h3, h4⟩ := hp
          exact ⟨ρ', v', h0, panic_adv h3, h4⟩
        | _ => exact hp.elim
/-- EVERY CALL. -/
theorem callN_ok (ht : TTok P E.tt) (hX : ExtOK P E.ext) (hF : FTok P E g) (hm : P.follows .mixedOrders = true) : ∀ n, CallOK P E.tt g (callN E n) := by
  intro n
  induction n with
  | zero => intro f args s; exact trivial
  | succ n ih => exact callStep_ok ht hX hF hm ih (callN_log n)
end
end Go.Dee
namespace Go.Dee
noncomputable section
open Go

/-! tries -/
def allT {α : Type} (p : Nat → α → Bool) (t : Trie α) : Nat → Nat → Bool :=
  Trie.rec (motive := fun _ => Nat → Nat → Bool) (fun _ _ => true)
    (fun v _ _ il ir a b => andB (Option.rec (motive := fun _ => Bool) true (fun x => p b x) v) (andB (il (Nat.mul (nat_lit 2) a) (Nat.add a b)) (ir (Nat.mul (nat_lit 2) a) (Nat.add (Nat.mul (nat_lit 2) a) b)))) t
theorem get_node {α : Type} (v : Option α) (l r : Trie α) (n : Nat) : (Trie.node v l r).get n = match n with | 0 => v | m + 1 => if m % 2 = 0 then l.get (m / 2) else r.get (m / 2) := by
  cases n with
  | zero => rfl
  | succ m =>
    show (bif Nat.beq (Nat.mod m 2) 0 then l.get (Nat.div m 2) else r.get (Nat.div m 2)) = _
    have e : Nat.beq (Nat.mod m 2) 0 = decide (m % 2 = 0) := beq_eq' _ _
    rw [e]
    by_cases h : m % 2 = 0 <;> simp [h] <;> rfl
theorem allT_get {α : Type} {p : Nat → α → Bool} : ∀ (t : Trie α) (a b : Nat), allT p t a b = true → ∀ j x, t.get j = some x → p (a * j + b) x = true := by
  intro t
  induction t with
  | leaf => intro a b _ j x h; cases h
  | node v l r il ir =>
    intro a b h j x hx
    have h : andB (Option.rec (motive := fun _ => Bool) true (fun x => p b x) v) (andB (allT p l (2 * a) (a + b)) (allT p r (2 * a) (2 * a + b))) = true := h
    simp only [andB_eq, Bool.and_eq_true] at h
    obtain ⟨h1, h2, h3⟩ := h
    rw [get_node] at hx
    cases j with
    | zero =>
      have hx : v = some x := hx
      subst hx
      simpa using h1
    | succ m =>
      dsimp only at hx
      split at hx
      · rename_i he
        have := il _ _ h2 (m / 2) x hx
        have e : 2 * a * (m / 2) + (a + b) = a * (m + 1) + b := by
          have : m = 2 * (m / 2) := by omega
          generalize m / 2 = q at *
          subst this
          rw [Nat.mul_add, Nat.mul_one, Nat.mul_comm 2 a, Nat.mul_assoc, Nat.add_assoc]
        rw [← e]; exact this
      · rename_i he
        have := ir _ _ h3 (m / 2) x hx
        have e : 2 * a * (m / 2) + (2 * a + b) = a * (m + 1) + b := by
          have : m = 2 * (m / 2) + 1 := by omega
          generalize m / 2 = q at *
          subst this
          rw [Nat.mul_add, Nat.mul_add, Nat.mul_comm 2 a, Nat.mul_assoc, Nat.mul_one, Nat.mul_two]
          omega
        rw [← e]; exact this
theorem putF_get {α : Type} : ∀ (f : Nat) (t : Trie α) (n : Nat) (x : Option α) (m : Nat), n < f → (Trie.putF f t n x).get m = if m = n then x else t.get m := by
  intro f
  induction f with
  | zero => intro t n x m h; omega
  | succ f ih =>
    intro t n x m h
    have leafGet : ∀ k, (Trie.leaf : Trie α).get k = none := fun _ => rfl
    cases n with
    | zero =>
      cases t with
      | leaf =>
        show (Trie.node x .leaf .leaf).get m = _
        rw [get_node]
        cases m with
        | zero => rfl
        | succ m => dsimp only; split <;> simp [leafGet]
      | node v l r =>
        show (Trie.node x l r).get m = _
        rw [get_node, get_node]
        cases m with
        | zero => rfl
        | succ m => simp
    | succ n =>
      have e : Nat.beq (Nat.mod n 2) 0 = decide (n % 2 = 0) := beq_eq' _ _
      have hd : n / 2 < f := by omega
      cases t with
      | leaf =>
        show (bif Nat.beq (Nat.mod n 2) 0 then Trie.node none (Trie.putF f .leaf (Nat.div n 2) x) .leaf else Trie.node none .leaf (Trie.putF f .leaf (Nat.div n 2) x)).get m = _
        rw [e]
        by_cases hn : n % 2 = 0
        · simp only [hn, decide_true, cond_true]
          rw [get_node]
          cases m with
          | zero => simp [leafGet]
          | succ m =>
            dsimp only
            split
            · rename_i hm
              rw [show Nat.div n 2 = n / 2 from rfl, ih _ _ _ _ hd]
              by_cases hq : m / 2 = n / 2
              · have : m = n := by omega
                subst this; simp
              · have : ¬ m = n := by intro h; exact hq (by rw [h])
                simp [hq, this, leafGet]
            · rename_i hm
              have : ¬ m = n := by intro h; subst h; exact hm hn
              simp [this, leafGet]
        · simp only [hn, decide_false, cond_false]
          rw [get_node]
          cases m with
          | zero => simp [leafGet]
          | succ m =>
            dsimp only
            split
            · rename_i hm
              have : ¬ m = n := by intro h; subst h; exact hn hm
              simp [this, leafGet]
            · rename_i hm
              rw [show Nat.div n 2 = n / 2 from rfl, ih _ _ _ _ hd]
              by_cases hq : m / 2 = n / 2
              · have : m = n := by omega
                subst this; simp
              · have : ¬ m = n := by intro h; exact hq (by rw [h])
                simp [hq, this, leafGet]
      | node v l r =>
        show (bif Nat.beq (Nat.mod n 2) 0 then Trie.node v (Trie.putF f l (Nat.div n 2) x) r else Trie.node v l (Trie.putF f r (Nat.div n 2) x)).get m = _
        rw [e]
        by_cases hn : n % 2 = 0
        · simp only [hn, decide_true, cond_true]
          rw [get_node, get_node]
          cases m with
          | zero => simp
          | succ m =>
            dsimp only
            split
            · rename_i hm
              rw [show Nat.div n 2 = n / 2 from rfl, ih _ _ _ _ hd]
              by_cases hq : m / 2 = n / 2
              · have : m = n := by omega
                subst this; simp
              · have : ¬ m = n := by intro h; exact hq (by rw [h])
                simp [hq, this]
            · rename_i hm
              have : ¬ m = n := by intro h; subst h; exact hm hn
              simp [this]
        · simp only [hn, decide_false, cond_false]
          rw [get_node, get_node]
          cases m with
          | zero => simp
          | succ m =>
            dsimp only
            split
            · rename_i hm
              have : ¬ m = n := by intro h; subst h; exact hn hm
              simp [this]
            · rename_i hm
              rw [show Nat.div n 2 = n / 2 from rfl, ih _ _ _ _ hd]
              by_cases hq : m / 2 = n / 2
              · have : m = n := by omega
                subst this; simp
              · have : ¬ m = n := by intro h; exact hq (by rw [h])
                simp [hq, this]
theorem ofList_get {α : Type} {l : List (Nat × α)} {n : Nat} {x : α} (h : (Trie.ofList l).get n = some x) : (n, x) ∈ l := by
  induction l with
  | nil => cases h
  | cons p l ih =>
    have h : (Trie.putF (p.1 + 1) (Trie.ofList l) p.1 (some p.2)).get n = some x := h
    rw [putF_get _ _ _ _ _ (Nat.lt_succ_self _)] at h
    split at h
    · rename_i e
      cases h
      rw [e]; simp
    · exact List.mem_cons_of_mem _ (ih h)

/-! types -/
def sameFs : List (TypeId × Nat) → List Field → Bool
  | [], [] => true
  | (t, o) :: l, f :: m => andB (Nat.beq t f.type) (andB (Nat.beq o f.offset) (sameFs l m))
  | _, _ => false
def tkOK (k : TK) (d : TypeDesc) : Bool :=
  match k with
  | .bool => (match d with | .bool => true | _ => false)
  | .int a => (match d with | .int b => kindEq a b | _ => false)
  | .str => (match d with | .string => true | _ => false)
  | .ptr e => (match d with | .pointer e' => Nat.beq e e' | _ => false)
  | .slice e => (match d with | .slice e' => Nat.beq e e' | _ => false)
  | .array n e => (match d with | .array n' e' => andB (Nat.beq n n') (Nat.beq e e') | _ => false)
  | .map k e => (match d with | .map k' e' => andB (Nat.beq k k') (Nat.beq e e') | _ => false)
  | .struct fs => (match d with | .struct f => sameFs fs f.toList | _ => false)
  | .func => (match d with | .func _ _ _ => true | _ => false)
  | .iface _ => (match d with | .interface _ => true | _ => false)
  | .other => (match d with | .unsafePointer => true | _ => false)
theorem sameFs_eq {l : List (TypeId × Nat)} {m : List Field} (h : sameFs l m = true) : m.map (fun x => (x.type, x.offset)) = l := by
  induction l generalizing m with
  | nil => cases m with
    | nil => rfl
    | cons => cases h
  | cons p l ih =>
    obtain ⟨t, o⟩ := p
    cases m with
    | nil => cases h
    | cons f m =>
      have h : andB (Nat.beq t f.type) (andB (Nat.beq o f.offset) (sameFs l m)) = true := h
      simp only [andB_eq, Bool.and_eq_true] at h
      rw [List.map_cons, ih h.2.2, ← Nat.beq_eq.mp h.1, ← Nat.beq_eq.mp h.2.1]
theorem tkOK_ok {k : TK} {d : TypeDesc} (h : tkOK k d = true) : kindOK k d := by
  unfold tkOK at h
  cases k <;> cases d <;> first
    | (cases h; done)
    | rfl
    | exact ⟨_, _, _, rfl⟩
    | exact ⟨_, rfl⟩
    | exact ⟨_, rfl, sameFs_eq h⟩
    | (have e := kindEq_iff.1 h; subst e; rfl)
    | (have e := Nat.beq_eq.mp h; subst e; rfl)
    | (simp only [andB_eq, Bool.and_eq_true] at h
       have e1 := Nat.beq_eq.mp h.1
       have e2 := Nat.beq_eq.mp h.2
       subst e1; subst e2; rfl)

def sameB : List Nat → List Nat → Bool
  | [], [] => true
  | a :: l, b :: m => andB (Nat.beq a b) (sameB l m)
  | _, _ => false
def sameS (a b : AV) : Bool :=
  match a with
  | .bool x => (match b with | .bool y => beqB x y | _ => false)
  | .int j x => (match b with | .int k y => andB (kindEq j k) (ieq x y) | _ => false)
  | .str x => (match b with | .str y => sameB x y | _ => false)
  | .nilp => (match b with | .nilp => true | _ => false)
  | .nilsl => (match b with | .nilsl => true | _ => false)
  | .nilmap => (match b with | .nilmap => true | _ => false)
  | .nilfn => (match b with | .nilfn => true | _ => false)
  | .nilif => (match b with | .nilif => true | _ => false)
  | .top => (match b with | .top => true | _ => false)
  | _ => false
def sameL : List AV → List AV → Bool
  | [], [] => true
  | a :: l, b :: m => andB (sameS a b) (sameL l m)
  | _, _ => false
def sameZ (a b : AV) : Bool :=
  match a with
  | .agg l => (match b with | .agg m => sameL l m | _ => false)
  | a => sameS a b
theorem sameB_eq {a b : List Nat} (h : sameB a b = true) : a = b := by
  induction a generalizing b with
  | nil => cases b with
    | nil => rfl
    | cons => cases h
  | cons x a ih => cases b with
    | nil => cases h
    | cons y b =>
      have h : andB (Nat.beq x y) (sameB a b) = true := h
      simp only [andB_eq, Bool.and_eq_true] at h
      rw [Nat.beq_eq.mp h.1, ih h.2]
theorem sameS_eq {a b : AV} (h : sameS a b = true) : a = b := by
  unfold sameS at h
  cases a <;> cases b <;> first
    | (cases h; done)
    | rfl
    | (rename_i x y; cases x <;> cases y <;> first | rfl | (cases h; done))
    | (have := sameB_eq h; subst this; rfl)
    | (simp only [andB_eq, Bool.and_eq_true] at h
       have e1 := kindEq_iff.1 h.1
       have e2 := ieq_iff.1 h.2
       subst e1; subst e2; rfl)
theorem sameL_eq {a b : List AV} (h : sameL a b = true) : a = b := by
  induction a generalizing b with
  | nil => cases b with
    | nil => rfl
    | cons => cases h
  | cons x a ih => cases b with
    | nil => cases h
    | cons y b =>
      have h : andB (sameS x y) (sameL a b) = true := h
      simp only [andB_eq, Bool.and_eq_true] at h
      rw [sameS_eq h.1, ih h.2]
theorem sameZ_eq {a b : AV} (h : sameZ a b = true) : a = b := by
  cases a with
  | agg l =>
    cases b with
    | agg m => exact congrArg AV.agg (sameL_eq h)
    | _ => cases h
  | _ => exact sameS_eq h

def isPtrD (d : TypeDesc) : Bool := match d with | .pointer _ => true | _ => false
def isSomeI (P : Program) (t : TypeId) : Bool := (P.info? t).isSome
def partsOK (P : Program) (d : TypeDesc) : Bool :=
  match d with
  | .struct f => allB (fun x => isSomeI P x.type) f.toList
  | .array _ e => isSomeI P e
  | _ => true
def methOK (i : TypeInfo) (d : TypeDesc) (n : String) (f : FuncId) : Bool :=
  match i.methods.find? (·.name == n) with
  | some m => andB m.path.isEmpty (match m.func with | some (f', b) => andB (Nat.beq f f') (beqB b (isPtrD d)) | none => false)
  | none => false
def methsOK (i : TypeInfo) (d : TypeDesc) (l : List (String × FuncId × Nat)) : Bool := allB (fun p => orB (notB (Nat.beq p.2.2 (nat_lit 0))) (methOK i d p.1 p.2.1)) l
def tiCheck (P : Program) (t : Nat) (ti : TI) : Bool :=
  match P.info? t with
  | some i => (match P.underlying t with
    | some d => (match i.zero with
      | some z => andB (tkOK ti.k d) (andB (Nat.beq i.size ti.size) (andB (Nat.beq i.bytes ti.bytes) (andB (sameZ ti.zero (ofConst z)) (andB (notTop ti.zero)
          (andB (Nat.beq z.cells.size ti.size) (andB (beqB ti.agg (descAgg d)) (andB (partsOK P d) (methsOK i d ti.meths))))))))
      | none => false)
    | none => false)
  | none => false
theorem findMeth_mem {n : String} {l : List (String × FuncId × Nat)} {f : FuncId} {k : Nat} (h : findMeth n l = some (f, k)) : (n, f, k) ∈ l := by
  induction l with
  | nil => cases h
  | cons p l ih =>
    obtain ⟨m, g, j⟩ := p
    unfold findMeth at h
    split at h
    · rename_i e
      cases h
      have e : m = n := by simpa using e
      subst e; simp
    · exact List.mem_cons_of_mem _ (ih h)
theorem beqB_true {a b : Bool} (h : beqB a b = true) : a = b := by cases a <;> cases b <;> first | rfl | (cases h; done)
theorem tiCheck_ok {P : Program} {t : Nat} {ti : TI} (h : tiCheck P t ti = true) : TIok P t ti := by
  unfold tiCheck at h
  cases hi : P.info? t with
  | none => rw [hi] at h; cases h
  | some i =>
    rw [hi] at h
    dsimp only at h
    cases hd : P.underlying t with
    | none => rw [hd] at h; cases h
    | some d =>
      rw [hd] at h
      dsimp only at h
      cases hz : i.zero with
      | none => rw [hz] at h; cases h
      | some z =>
        rw [hz] at h
        simp only [andB_eq, Bool.and_eq_true] at h
        obtain ⟨h1, h2, h3, h4, h5, h6, h7, h8, h9⟩ := h
        refine ⟨i, d, z, hi, hd, tkOK_ok h1, Nat.beq_eq.mp h2, Nat.beq_eq.mp h3, hz, sameZ_eq h4, notTop_ne h5, Nat.beq_eq.mp h6, beqB_true h7, ?_, ?_, ?_⟩
        · rintro f rfl x hx
          have := allB_iff.1 h8 x hx
          exact Option.isSome_iff_exists.1 this
        · rintro n e rfl
          exact Option.isSome_iff_exists.1 (show (P.info? e).isSome = true from h8)
        · intro n f hf
          have hm := allB_iff.1 h9 _ (findMeth_mem hf)
          rw [orB_eq, Bool.or_eq_true] at hm
          have hm : methOK i d n f = true := hm.resolve_left (by intro h; cases h)
          unfold methOK at hm
          cases hfi : i.methods.find? (·.name == n) with
          | none => rw [hfi] at hm; cases hm
          | some m =>
            rw [hfi] at hm
            dsimp only at hm
            rw [andB_eq, Bool.and_eq_true] at hm
            obtain ⟨k1, k2⟩ := hm
            cases hmf : m.func with
            | none => rw [hmf] at k2; cases k2
            | some q =>
              obtain ⟨f', b⟩ := q
              rw [hmf] at k2
              dsimp only at k2
              rw [andB_eq, Bool.and_eq_true] at k2
              have e1 := Nat.beq_eq.mp k2.1
              have e2 := beqB_true k2.2
              subst e1
              refine ⟨m, rfl, by simpa using k1, b, hmf, ?_, ?_⟩
              · subst e2
                cases d <;> first | exact .inl rfl | exact .inr (by intro e he; cases he)
              · intro hb
                rw [hb] at e2
                cases d <;> first | exact ⟨_, rfl⟩ | (cases e2; done)
theorem TTok.of {P : Program} {tt : Trie TI} (h : allT (tiCheck P) tt 1 0 = true) : TTok P tt := fun t ti ht => by
  have := allT_get tt 1 0 h t ti ht
  rw [Nat.one_mul, Nat.add_zero] at this
  exact tiCheck_ok this

/-! functions -/
def afn (g : Func) : AFn := ⟨g.ntmps, g.body, g.results.toList⟩
def fnCheck (E : Env) (g : Nat) (p : Nat × Func) : Bool :=
  andB (notB (p.2.name == "runtime.NumGoroutine")) (andB (Nat.ble p.2.ntmps (nat_lit 256))
    (andB (Option.rec (motive := fun _ => Bool) true (fun c => codeOK E p.1 p.2.ntmps g c) p.2.body) (allB (resOK p.2.ntmps) p.2.results.toList)))
def FuncsAt (P : Program) (l : List (Nat × Func)) : Prop := ∀ p ∈ l, P.funcs[p.1]? = some p.2
theorem FuncsAt.nil {P : Program} : FuncsAt P [] := fun p h => by cases h
theorem FuncsAt.cons {P : Program} {f : Nat} {g : Func} {l : List (Nat × Func)} (h : P.funcs[f]? = some g) (t : FuncsAt P l) : FuncsAt P ((f, g) :: l) := fun p hp => by
  rcases List.mem_cons.1 hp with rfl | hp
  · exact h
  · exact t p hp
theorem FTok.of {P : Program} {E : Env} {g : Nat} (gl : List (Nat × Func)) (h1 : FuncsAt P gl) (h2 : E.ft = Trie.ofList (mapL (fun p => (p.1, afn p.2)) gl)) (h3 : ∀ p ∈ gl, fnCheck E g p = true) : FTok P E g := by
  refine ⟨fun f fn hf => ?_⟩
  rw [h2] at hf
  have hm := ofList_get hf
  rw [mapL_eq, List.mem_map] at hm
  obtain ⟨p, hp, e⟩ := hm
  cases e
  have hc := h3 p hp
  unfold fnCheck at hc
  simp only [andB_eq, Bool.and_eq_true] at hc
  obtain ⟨c1, c2, c3, c4⟩ := hc
  refine ⟨p.2, h1 p hp, by simpa [notB_eq] using c1, rfl, rfl, rfl, Nat.le_of_ble_eq_true c2, fun c hb => ?_, allB_iff.1 c4⟩
  have hb : p.2.body = some c := hb
  rw [hb] at c3
  exact c3

/-! functions without a body -/
def ExtAt (P : Program) (p : Nat × Nat) : Prop :=
  ∃ fn, P.funcs[p.1]? = some fn ∧ (fn.name == "runtime.NumGoroutine") = false ∧ fn.body.isNone = true ∧ Extern.findNext fn = none ∧ ∃ e, Extern.find fn = some e ∧ ExtRow P p.2 e
theorem ExtOK.of {P : Program} {ext : Trie Nat} (el : List (Nat × Nat)) (h : ext = Trie.ofList el) (hall : ∀ p ∈ el, ExtAt P p) : ExtOK P ext := fun f k hk => by
  rw [h] at hk
  exact hall _ (ofList_get hk)

/-! a closed call that answers true -/
def endTrue (x : AEnd) : Bool := AEnd.rec (motive := fun _ => Bool) false (fun v s => andB (vIsBool v true) (Nat.ble s.n (nat_lit 65536))) (fun _ _ => false) x
def start (g : Nat) : St := { h := h40, n := g, w := [] }
def baseRen (g : Nat) : Ren := fun b => if b < g then some ⟨b, 0, 0, 0⟩ else none
theorem closed {P : Program} {E : Env} {g : Nat} (ht : TTok P E.tt) (hX : ExtOK P E.ext) (hF : FTok P E g) (hm : P.follows .mixedOrders = true) {n : Nat} {f : FuncId} (hg : g ≤ 65536)
    (h : endTrue (callN E n f [] (start g)) = true) (w : World) : Calls P f #[] w fun
      | .returned v, w' => v = .bool true ∧ Go.RowKit.Below w.heap.size w w'
      | _, _ => False := by
  have hok := callN_ok ht hX hF hm n f [] (start g)
  cases hc : callN E n f [] (start g) with
  | bad => rw [hc] at h; cases h
  | panicked v s => rw [hc] at h; cases h
  | ret v s =>
    rw [hc] at h hok
    have h : andB (vIsBool v true) (Nat.ble s.n 65536) = true := h
    rw [andB_eq, Bool.and_eq_true] at h
    have hn : s.n ≤ 65536 := Nat.le_of_ble_eq_true h.2
    refine Calls.mono (hok.2 (baseRen g) w #[] ?_ ?_ ?_ Vs.nil' ?_ hn) fun e w' he => ?_
    · intro b hb
      exact ⟨⟨b, 0, 0, 0⟩, if_pos hb, rfl, rfl⟩
    · intro b _ _
      exact hget_h40 b
    · refine ⟨fun b x _ _ hx => ?_, fun b c p q _ _ hb => absurd (hget_h40 b) hb.2, fun b p hp => ?_⟩
      · rw [show hget (start g).h b = none from hget_h40 b] at hx; cases hx
      · unfold baseRen at hp
        split at hp
        · omega
        · cases hp
    · intro b hb _
      have hb : g ≤ b := hb
      exact if_neg (by omega)
    · cases e with
      | returned v' =>
        obtain ⟨ρ', hadv, hv⟩ := he
        have hb : v = .bool true := by
          cases v with
          | bool b => cases b <;> first | rfl | (cases h.1; done)
          | _ => cases h.1
        subst hb
        refine ⟨hv.bool, hadv.os, hadv.tape, hadv.output, hadv.size, fun k hk => hadv.frame k hk fun b p _ hl => absurd (hget_h40 b) hl.2⟩
      | _ => exact he.elim
end
end Go.Dee
namespace Go.Dee
open Go
theorem FuncsAt.app {P : Program} {l m : List (Nat × Func)} (h : FuncsAt P l) (h' : FuncsAt P m) : FuncsAt P (l ++ m) := fun p hp => (List.mem_append.1 hp).elim (h p) (h' p)
theorem app_ok {α : Type} {f : α → Bool} {l m : List α} (h : ∀ p ∈ l, f p = true) (h' : ∀ p ∈ m, f p = true) : ∀ p ∈ l ++ m, f p = true := fun p hp => (List.mem_append.1 hp).elim (h p) (h' p)
end Go.Dee
