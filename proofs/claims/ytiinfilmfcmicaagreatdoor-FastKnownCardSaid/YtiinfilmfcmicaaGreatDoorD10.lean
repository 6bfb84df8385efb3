/- Calls that are known, strings.Contains, variables of the program: the closed call from variables that hold what is told. Part of the proof that FastKnown returns true on every schedule, its listed variables laid as the text lays them. -/
import Derived.Test.YtiinfilmfcmicaaGreatDoorD09
import Derived.Lib.IndexMore
import Derived.ChangeArms
import Derived.OpenShut
namespace Go.Dee
noncomputable section
open Go

/-! A CALL THAT IS KNOWN: where a function is called with just the arguments and the memory of a run that is known to answer true, nothing is run. -/
def belowS (n : Nat) : AV → Bool
  | .bool _ => true
  | .int _ _ => true
  | .str _ => true
  | .nilp => true
  | .ptr b _ => isLt b n
  | .nilsl => true
  | .sl b _ _ _ => isLt b n
  | .nilmap => true
  | .nilfn => true
  | .nilif => true
  | _ => false
def belowV (n : Nat) : AV → Bool
  | .agg l => allB (belowS n) l
  | v => belowS n v
def belowBlk (n : Nat) : ABlk → Bool
  | .cells c _ _ => allB (belowS n) c
  | _ => false
def eqON : Option Nat → Option Nat → Bool
  | none, none => true
  | some a, some b => Nat.beq a b
  | _, _ => false
def eqS (a b : AV) : Bool :=
  match a with
  | .ptr x y => (match b with | .ptr x' y' => andB (Nat.beq x x') (Nat.beq y y') | _ => false)
  | .sl x y z c => (match b with | .sl x' y' z' c' => andB (Nat.beq x x') (andB (Nat.beq y y') (andB (Nat.beq z z') (eqON c c'))) | _ => false)
  | a => sameS a b
def eqSL : List AV → List AV → Bool
  | [], [] => true
  | a :: l, b :: m => andB (eqS a b) (eqSL l m)
  | _, _ => false
def eqW (a b : AV) : Bool :=
  match a with
  | .agg l => (match b with | .agg m => eqSL l m | _ => false)
  | a => eqS a b
def eqWL : List AV → List AV → Bool
  | [], [] => true
  | a :: l, b :: m => andB (eqW a b) (eqWL l m)
  | _, _ => false
def eqBlk (a b : ABlk) : Bool :=
  match a with
  | .cells c t g => (match b with | .cells c' t' g' => andB (Nat.beq t t') (andB (Nat.beq g g') (eqSL c c')) | _ => false)
  | _ => false
def eqOBlk : Option ABlk → Option ABlk → Bool
  | none, none => true
  | some a, some b => eqBlk a b
  | _, _ => false

theorem eqON_eq {a b : Option Nat} (h : eqON a b = true) : a = b := by
  cases a <;> cases b <;> first | rfl | (cases h; done) | exact congrArg some (Nat.beq_eq.mp h)
theorem eqS_eq {a b : AV} (h : eqS a b = true) : a = b := by
  unfold eqS at h
  cases a with
  | ptr x y =>
    cases b with
    | ptr x' y' =>
      simp only [andB_eq, Bool.and_eq_true] at h
      rw [Nat.beq_eq.mp h.1, Nat.beq_eq.mp h.2]
    | _ => cases h
  | sl x y z c =>
    cases b with
    | sl x' y' z' c' =>
      simp only [andB_eq, Bool.and_eq_true] at h
      rw [Nat.beq_eq.mp h.1, Nat.beq_eq.mp h.2.1, Nat.beq_eq.mp h.2.2.1, eqON_eq h.2.2.2]
    | _ => cases h
  | _ => exact sameS_eq h
theorem eqSL_eq {a b : List AV} (h : eqSL a b = true) : a = b := by
  induction a generalizing b with
  | nil => cases b with
    | nil => rfl
    | cons => cases h
  | cons x a ih => cases b with
    | nil => cases h
    | cons y b =>
      have h : andB (eqS x y) (eqSL a b) = true := h
      simp only [andB_eq, Bool.and_eq_true] at h
      rw [eqS_eq h.1, ih h.2]
theorem eqW_eq {a b : AV} (h : eqW a b = true) : a = b := by
  cases a with
  | agg l =>
    cases b with
    | agg m => exact congrArg AV.agg (eqSL_eq h)
    | _ => cases h
  | _ => exact eqS_eq h
theorem eqWL_eq {a b : List AV} (h : eqWL a b = true) : a = b := by
  induction a generalizing b with
  | nil => cases b with
    | nil => rfl
    | cons => cases h
  | cons x a ih => cases b with
    | nil => cases h
    | cons y b =>
      have h : andB (eqW x y) (eqWL a b) = true := h
      simp only [andB_eq, Bool.and_eq_true] at h
      rw [eqW_eq h.1, ih h.2]
theorem eqOBlk_eq {a b : Option ABlk} (h : eqOBlk a b = true) : a = b := by
  cases a with
  | none => cases b with
    | none => rfl
    | some => cases h
  | some a => cases b with
    | none => cases h
    | some b =>
      have h : eqBlk a b = true := h
      cases a with
      | cells c t g =>
        cases b with
        | cells c' t' g' =>
          have h : andB (Nat.beq t t') (andB (Nat.beq g g') (eqSL c c')) = true := h
          simp only [andB_eq, Bool.and_eq_true] at h
          rw [Nat.beq_eq.mp h.1, Nat.beq_eq.mp h.2.1, eqSL_eq h.2.2]
        | _ => cases h
      | _ => cases h

/-- a call that is known: the names that are used up, the arguments, the memory (but for one variable of the program that holds a number, whatever it is). -/
structure Ent where
  n : Nat
  args : List AV
  blks : List (Nat × ABlk)

def lookB (l : List (Nat × ABlk)) (b : Nat) : Option ABlk :=
  List.rec (motive := fun _ => Option ABlk) none (fun p _ ih => Bool.rec (motive := fun _ => Option ABlk) ih (some p.2) (Nat.beq p.1 b)) l
def putAll (l : List (Nat × ABlk)) : H4 := List.rec (motive := fun _ => H4) h40 (fun p _ ih => hset ih p.1 (some p.2)) l
def numBlk (tm : TypeId) (m : Int) : ABlk := .cells [.int .i64 m] tm 0
def Ent.all (e : Ent) (gm : Nat) (tm : TypeId) (m : Int) : List (Nat × ABlk) := (gm, numBlk tm m) :: e.blks
def Ent.st (e : Ent) (gm : Nat) (tm : TypeId) (m : Int) : St := { h := putAll (e.all gm tm m), n := e.n, w := [] }
def allBelow (n : Nat) (p : Nat → Bool) : Bool := Nat.rec (motive := fun _ => Bool) true (fun b ih => andB (p b) ih) n
def isNum (tm : TypeId) : Option ABlk → Bool
  | some (.cells [.int .i64 _] t 0) => Nat.beq t tm
  | _ => false
theorem isNum_ok {tm : TypeId} {x : Option ABlk} (h : isNum tm x = true) : ∃ m, x = some (numBlk tm m) := by
  unfold isNum at h
  split at h
  · exact ⟨_, by rw [Nat.beq_eq.mp h]; rfl⟩
  · cases h
def Ent.fits (e : Ent) (gm : Nat) (tm : TypeId) (args : List AV) (s : St) : Bool :=
  andB (Nat.beq s.n e.n) (andB (eqWL args e.args) (andB (isNum tm (hget s.h gm)) (allBelow e.n fun b => orB (Nat.beq gm b) (eqOBlk (hget s.h b) (lookB e.blks b)))))
def Ent.ok (e : Ent) (g gm : Nat) : Bool :=
  andB (Nat.ble e.n (nat_lit 65536)) (andB (Nat.ble g e.n) (andB (isLt gm g) (andB (allB (belowV e.n) e.args) (allB (fun p => andB (isLt p.1 e.n) (belowBlk e.n p.2)) e.blks))))
def isTrue (x : AEnd) : Bool := AEnd.rec (motive := fun _ => Bool) false (fun v s => andB (vIsBool v true) (andB (Nat.ble s.n (nat_lit 65536)) (isNilL s.w))) (fun _ _ => false) x
def Ent.runs (e : Ent) (gm : Nat) (tm : TypeId) (call : CallF) (f : FuncId) (m : Int) : Bool := isTrue (call f e.args (e.st gm tm m))

def oracle (gm : Nat) (tm : TypeId) (l : List Ent) : List AV → St → AEnd :=
  List.rec (motive := fun _ => List AV → St → AEnd) (fun _ _ => .bad) (fun e _ ih args s => Bool.rec (motive := fun _ => AEnd) (ih args s) (.ret (.bool true) s) (e.fits gm tm args s)) l
/-- a function, so many calls deep, the calls of some functions answered without a run. -/
def callK (E : Env) (hit : FuncId → Bool) (H : CallF) (n : Nat) : CallF :=
  Nat.rec (motive := fun _ => CallF) (fun _ _ _ => .bad)
    (fun _ ih f args s => Bool.rec (motive := fun _ => AEnd) (callStep E ih f args s) (H f args s) (hit f)) n

/-! strings.Contains -/
def headL (sub : List Nat) : List Nat → Bool :=
  List.rec (motive := fun _ => List Nat → Bool) (fun _ => true) (fun x _ ih l => List.rec (motive := fun _ => Bool) false (fun y t _ => andB (Nat.beq x y) (ih t)) l) sub
def hasL (sub l : List Nat) : Bool := List.rec (motive := fun _ => Bool) (headL sub []) (fun x t ih => orB (headL sub (x :: t)) ih) l
def has2 (tm gm : Nat) (s : St) (a b : List Nat) : AEnd :=
  Bool.rec (motive := fun _ => AEnd) .bad (.ret (.bool (hasL b a)) s) (andB (isNum tm (hget s.h gm)) (Nat.ble (lenL a) maxText))
def hasArgs (tm gm : Nat) (args : List AV) (s : St) : AEnd :=
  match args with
  | [.str a, .str b] => has2 tm gm s a b
  | _ => .bad
def hitF (fc : FuncId) (f : FuncId) : Bool := Nat.beq f fc
def has (tm gm : Nat) : CallF := fun _ args s => hasArgs tm gm args s
def hitFO (fc f0 : FuncId) (f : FuncId) : Bool := orB (Nat.beq f fc) (Nat.beq f f0)
def hasO (tm gm : Nat) (f0 : FuncId) (l : List Ent) : CallF := fun f args s => Bool.rec (motive := fun _ => AEnd) (hasArgs tm gm args s) (oracle gm tm l args s) (Nat.beq f f0)

theorem lookB_mem {l : List (Nat × ABlk)} {b : Nat} {x : ABlk} (h : lookB l b = some x) : (b, x) ∈ l := by
  induction l with
  | nil => cases h
  | cons p l ih =>
    have h : Bool.rec (motive := fun _ => Option ABlk) (lookB l b) (some p.2) (Nat.beq p.1 b) = some x := h
    cases hc : Nat.beq p.1 b with
    | false => rw [hc] at h; exact List.mem_cons_of_mem _ (ih h)
    | true =>
      rw [hc] at h
      cases h
      rw [← Nat.beq_eq.mp hc]
      simp
theorem putAll_get {l : List (Nat × ABlk)} (hl : ∀ p ∈ l, p.1 < 65536) {b : Nat} (hb : b < 65536) : hget (putAll l) b = lookB l b := by
  induction l with
  | nil => exact hget_h40 b
  | cons p l ih =>
    show hget (hset (putAll l) p.1 (some p.2)) b = Bool.rec (motive := fun _ => Option ABlk) (lookB l b) (some p.2) (Nat.beq p.1 b)
    rw [hget_hset _ _ _ _ (hl p (by simp)) hb, ih fun q hq => hl q (List.mem_cons_of_mem _ hq)]
    cases hc : Nat.beq p.1 b with
    | true => rw [if_pos (Nat.beq_eq.mp hc)]
    | false => rw [if_neg (fun e => by rw [e, Nat.beq_refl] at hc; cases hc)]
theorem allBelow_ok {n : Nat} {p : Nat → Bool} (h : allBelow n p = true) : ∀ b, b < n → p b = true := by
  induction n with
  | zero => intro b hb; omega
  | succ n ih =>
    have h : andB (p n) (allBelow n p) = true := h
    rw [andB_eq, Bool.and_eq_true] at h
    intro b hb
    by_cases e : b = n
    · subst e; exact h.1
    · exact ih h.2 b (by omega)

def Agree (n : Nat) (ρ ρ' : Ren) : Prop := ∀ b, b < n → ρ b = ρ' b
theorem V_agreeS {n : Nat} {ρ ρ' : Ren} (h : Agree n ρ ρ') {a : AV} {v : Value} (ha : belowS n a = true) (hv : V ρ a v) : V ρ' a v := by
  cases a with
  | ptr b o =>
    have hb : b < n := isLt_iff.1 ha
    simp only [V] at hv ⊢
    rw [← h b hb]; exact hv
  | sl b o l c =>
    have hb : b < n := isLt_iff.1 ha
    cases c <;> simp only [V] at hv ⊢ <;> rw [← h b hb] <;> exact hv
  | map => cases ha
  | fn => cases ha
  | iface => cases ha
  | agg => cases ha
  | tup => cases ha
  | top => cases ha
  | _ => simp only [V] at hv ⊢; exact hv
theorem Vs_agreeS {n : Nat} {ρ ρ' : Ren} (h : Agree n ρ ρ') {l : List AV} (hl : allB (belowS n) l = true) {vs : List Value} (hv : Vs ρ l vs) : Vs ρ' l vs := by
  induction l generalizing vs with
  | nil => simpa only [Vs] using hv
  | cons a l ih =>
    have hl : andB (belowS n a) (allB (belowS n) l) = true := hl
    rw [andB_eq, Bool.and_eq_true] at hl
    simp only [Vs] at hv ⊢
    obtain ⟨v, l', e, h1, h2⟩ := hv
    exact ⟨v, l', e, V_agreeS h hl.1 h1, ih hl.2 h2⟩
theorem V_agree {n : Nat} {ρ ρ' : Ren} (h : Agree n ρ ρ') {a : AV} {v : Value} (ha : belowV n a = true) (hv : V ρ a v) : V ρ' a v := by
  cases a with
  | agg l =>
    simp only [V] at hv ⊢
    obtain ⟨x, e, h1⟩ := hv
    exact ⟨x, e, Vs_agreeS h ha h1⟩
  | _ => exact V_agreeS h ha hv
theorem Vs_agree {n : Nat} {ρ ρ' : Ren} (h : Agree n ρ ρ') {l : List AV} (hl : allB (belowV n) l = true) {vs : List Value} (hv : Vs ρ l vs) : Vs ρ' l vs := by
  induction l generalizing vs with
  | nil => simpa only [Vs] using hv
  | cons a l ih =>
    have hl : andB (belowV n a) (allB (belowV n) l) = true := hl
    rw [andB_eq, Bool.and_eq_true] at hl
    simp only [Vs] at hv ⊢
    obtain ⟨v, l', e, h1, h2⟩ := hv
    exact ⟨v, l', e, V_agree h hl.1 h1, ih hl.2 h2⟩
theorem HB_agree {tt : Trie TI} {n : Nat} {ρ ρ' : Ren} (h : Agree n ρ ρ') {w : World} {b : Nat} (hb : b < n) {x : ABlk} (hx : belowBlk n x = true) (hv : HB tt ρ w b x) : HB tt ρ' w b x := by
  cases x with
  | cells c t g =>
    obtain ⟨p, arr, fz, h1, h2, h3, h4⟩ := hv
    refine ⟨p, arr, fz, by rw [← h b hb]; exact h1, h2, ?_, h4⟩
    exact fun i a hi => let ⟨v, k1, k2⟩ := h3 i a hi; ⟨v, k1, V_agreeS h (allB_iff.1 (show allB (belowS n) c = true from hx) a (List.mem_of_getElem? hi)) k2⟩
  | _ => cases hx
end
end Go.Dee
namespace Go.Dee
noncomputable section
open Go
variable {P : Program} {E : Env} {g : Nat}

theorem allB_mem {α : Type} {p : α → Bool} {l : List α} (h : allB p l = true) : ∀ x ∈ l, p x = true := allB_iff.1 h

/-- what is known of one call holds wherever the call is the same. -/
theorem Ent.endOK {call : CallF} (hcall : CallOK P E.tt g call) (hclog : CallLog call) {e : Ent} {gm : Nat} {tm : TypeId} {f : FuncId} (he : e.ok g gm = true) (hrm : ∀ m, e.runs gm tm call f m = true) {args : List AV} {s : St} (hfit : e.fits gm tm args s = true) :
    EndOK P E.tt g f args s (.ret (.bool true) s) := by
  have he : andB (Nat.ble e.n 65536) (andB (Nat.ble g e.n) (andB (isLt gm g) (andB (allB (belowV e.n) e.args) (allB (fun p => andB (isLt p.1 e.n) (belowBlk e.n p.2)) e.blks)))) = true := he
  simp only [andB_eq, Bool.and_eq_true] at he
  obtain ⟨he1, he2, heg, he3, he4⟩ := he
  have he1 : e.n ≤ 65536 := Nat.le_of_ble_eq_true he1
  have he2 : g ≤ e.n := Nat.le_of_ble_eq_true he2
  have heg : gm < g := isLt_iff.1 heg
  have hfit : andB (Nat.beq s.n e.n) (andB (eqWL args e.args) (andB (isNum tm (hget s.h gm)) (allBelow e.n fun b => orB (Nat.beq gm b) (eqOBlk (hget s.h b) (lookB e.blks b))))) = true := hfit
  simp only [andB_eq, Bool.and_eq_true] at hfit
  obtain ⟨hf1, hf2, hfm, hf3'⟩ := hfit
  obtain ⟨m, hm0⟩ := isNum_ok hfm
  have hr := hrm m
  have hf1 : s.n = e.n := Nat.beq_eq.mp hf1
  have hf2 : args = e.args := eqWL_eq hf2
  have hblk : ∀ p ∈ e.all gm tm m, p.1 < e.n ∧ belowBlk e.n p.2 = true := fun p hp => by
    rcases List.mem_cons.1 hp with rfl | hp
    · exact ⟨by show gm < e.n; omega, rfl⟩
    · have := allB_mem he4 p hp
      simp only [Bool.and_eq_true] at this
      exact ⟨isLt_iff.1 this.1, this.2⟩
  have hf3 : ∀ b, b < e.n → hget s.h b = lookB (e.all gm tm m) b := fun b hb => by
    have h := allBelow_ok hf3' b hb
    show _ = Bool.rec (motive := fun _ => Option ABlk) (lookB e.blks b) (some (numBlk tm m)) (Nat.beq gm b)
    cases hc : Nat.beq gm b with
    | true => rw [← Nat.beq_eq.mp hc]; exact hm0
    | false =>
      rw [hc] at h
      exact eqOBlk_eq h
  have hget1 : ∀ b, b < 65536 → hget (e.st gm tm m).h b = lookB (e.all gm tm m) b := fun b hb => putAll_get (fun p hp => Nat.lt_of_lt_of_le (hblk p hp).1 he1) hb
  have hlive : ∀ b x, b < 65536 → hget (e.st gm tm m).h b = some x → b < e.n ∧ belowBlk e.n x = true ∧ hget s.h b = some x := fun b x hb hx => by
    rw [hget1 b hb] at hx
    have := hblk _ (lookB_mem hx)
    refine ⟨this.1, this.2, ?_⟩
    rw [hf3 b this.1]
    exact hx
  -- the run itself
  have hok := hcall f e.args (e.st gm tm m)
  have hlog := hclog f e.args (e.st gm tm m)
  have hr : isTrue (call f e.args (e.st gm tm m)) = true := hr
  cases hc : call f e.args (e.st gm tm m) with
  | bad => rw [hc] at hr; cases hr
  | panicked v t => rw [hc] at hr; cases hr
  | ret v t =>
    rw [hc] at hr hok hlog
    have hr : andB (vIsBool v true) (andB (Nat.ble t.n 65536) (isNilL t.w)) = true := hr
    simp only [andB_eq, Bool.and_eq_true] at hr
    obtain ⟨hr1, hr2, hr3⟩ := hr
    have hr2 : t.n ≤ 65536 := Nat.le_of_ble_eq_true hr2
    have htw : t.w = [] := by
      cases hw : t.w with
      | nil => rfl
      | cons => rw [hw] at hr3; cases hr3
    have hv : v = .bool true := by
      cases v with
      | bool b => cases b <;> first | rfl | (cases hr1; done)
      | _ => cases hr1
    subst hv
    have hlg := hlog.1 _ _ rfl hr2
    refine ⟨hok.1, fun ρ w args' hg hna hs hargs _ _ => ?_⟩
    have hback : ∀ b x, b < 65536 → hget s.h b = some x → b < e.n ∧ hget (e.st gm tm m).h b = some x := fun b x hb hx => by
      have hbn : b < e.n := Nat.lt_of_not_le fun hle => by
        rw [hna b (by rw [hf1]; exact hle) hb] at hx
        cases hx
      refine ⟨hbn, ?_⟩
      rw [hget1 b hb, ← hf3 b hbn]
      exact hx
    let ρ0 : Ren := fun b => if b < e.n then ρ b else none
    have h0 : Agree e.n ρ ρ0 := fun b hb => (if_pos hb).symm
    have hle : ρ0.le ρ := fun b p hp => by
      by_cases hb : b < e.n
      · rw [show ρ0 b = ρ b from if_pos hb] at hp; exact hp
      · rw [show ρ0 b = none from if_neg hb] at hp; cases hp
    have hnone : ∀ b, e.n ≤ b → ρ0 b = none := fun b hb => if_neg (by omega)
    have run := hok.2 ρ0 w args' (fun b hb => by rw [← h0 b (by omega)]; exact hg b hb)
      (fun b hb hb2 => by
        cases hx : hget (e.st gm tm m).h b with
        | none => rfl
        | some x =>
          have := (hlive b x hb2 hx).1
          have hb : e.n ≤ b := hb
          omega)
      ⟨fun b x _ hb hx => HB_agree h0 (hlive b x hb hx).1 (hlive b x hb hx).2.1 (hs.heap b x trivial hb (hlive b x hb hx).2.2),
       fun b c p q _ _ hb hc hp hq => by
        have l1 : liveIn s.h b := ⟨hb.1, by
          cases hx : hget (e.st gm tm m).h b with
          | none => exact absurd hx hb.2
          | some x => rw [(hlive b x hb.1 hx).2.2]; exact fun h => by cases h⟩
        have l2 : liveIn s.h c := ⟨hc.1, by
          cases hx : hget (e.st gm tm m).h c with
          | none => exact absurd hx hc.2
          | some x => rw [(hlive c x hc.1 hx).2.2]; exact fun h => by cases h⟩
        exact hs.inj b c p q trivial trivial l1 l2 (hle _ _ hp) (hle _ _ hq),
       fun b p hp => hs.dom b p (hle _ _ hp)⟩
      (Vs_agree h0 he3 (hf2 ▸ hargs))
      (fun b hb _ => hnone b hb) hr2
    refine Calls.mono run fun e' w' hp => ?_
    cases e' with
    | returned v' =>
      obtain ⟨ρ', hadv, hv'⟩ := hp
      refine ⟨ρ, ?_, by have := hv'.bool; subst this; simp only [V]⟩
      have hag : ∀ b, b < e.n → ρ' b = ρ b := fun b hb => by
        rw [h0 b hb]
        cases hx : ρ0 b with
        | some p => exact hadv.le _ _ hx
        | none =>
          cases hy : ρ' b with
          | none => rfl
          | some p =>
            rcases hadv.fresh b p hy with h | h
            · rw [hx] at h; cases h
            · have : e.n ≤ b := h.1
              omega
      have hkeep : ∀ b x, b < 65536 → hget s.h b = some x → hget t.h b = some x := fun b x hb hx => by
        have h2 := hback b x hb hx
        rw [hlg.keep b hb h2.1 (fun c hcm => by rw [htw] at hcm; cases hcm)]
        exact h2.2
      have hlv : ∀ b, liveIn s.h b → b < e.n ∧ liveIn t.h b ∧ liveIn (e.st gm tm m).h b := fun b hb => by
        cases hx : hget s.h b with
        | none => exact absurd hx hb.2
        | some x =>
          refine ⟨(hback b x hb.1 hx).1, ⟨hb.1, by rw [hkeep b x hb.1 hx]; exact fun h => by cases h⟩, ⟨hb.1, by rw [(hback b x hb.1 hx).2]; exact fun h => by cases h⟩⟩
      refine ⟨⟨fun b x _ hb hx => ?_, fun b c p q _ _ hb hc hp hq => ?_, hs.dom⟩, .refl _, fun b p h => .inl h, Nat.le_refl _, fun k hk h => ?_, fun b p _ hb hp => .inr ⟨b, p, trivial, hb, hp, rfl⟩, fun _ _ _ _ => rfl, hadv.size, hadv.os, hadv.output, hadv.tape⟩
      · have hbn := (hback b x hb hx).1
        have hbb := (hlive b x hb (hback b x hb hx).2).2.1
        exact HB_agree (fun c hc => hag c hc) hbn hbb (hadv.sr.heap b x (.inl trivial) hb (hkeep b x hb hx))
      · have h1 := hlv b hb
        have h2 := hlv c hc
        exact hadv.sr.inj b c p q (.inl trivial) (.inl trivial) h1.2.1 h2.2.1 (by rw [hag b h1.1]; exact hp) (by rw [hag c h2.1]; exact hq)
      · refine hadv.frame k hk fun b p _ hb hp => ?_
        cases hx : hget (e.st gm tm m).h b with
        | none => exact absurd hx hb.2
        | some x =>
          exact h b p trivial ⟨hb.1, by rw [(hlive b x hb.1 hx).2.2]; exact fun h => by cases h⟩ (hle _ _ hp)
    | _ => exact hp.elim

theorem oracle_ret {gm : Nat} {tm : TypeId} {l : List Ent} {args : List AV} {s : St} {x : AEnd} (h : oracle gm tm l args s = x) : x = .bad ∨ (x = .ret (.bool true) s ∧ ∃ e ∈ l, e.fits gm tm args s = true) := by
  induction l with
  | nil => exact .inl h.symm
  | cons e l ih =>
    have h : Bool.rec (motive := fun _ => AEnd) (oracle gm tm l args s) (.ret (.bool true) s) (e.fits gm tm args s) = x := h
    cases hc : e.fits gm tm args s with
    | false =>
      rw [hc] at h
      rcases ih h with h | ⟨h, e', he, hf⟩
      · exact .inl h
      · exact .inr ⟨h, e', List.mem_cons_of_mem _ he, hf⟩
    | true =>
      rw [hc] at h
      exact .inr ⟨h.symm, e, by simp, hc⟩

theorem callK_log {hit : FuncId → Bool} {H : CallF} (hH : ∀ f, hit f = true → ∀ args s, EndLog s (H f args s)) : ∀ n, CallLog (callK E hit H n) := by
  intro n
  induction n with
  | zero => intro f args s; exact ⟨fun v s' h => (by cases h), fun v s' h => (by cases h)⟩
  | succ n ih =>
    intro f args s
    have e : callK E hit H (n + 1) f args s = Bool.rec (motive := fun _ => AEnd) (callStep E (callK E hit H n) f args s) (H f args s) (hit f) := rfl
    rw [e]
    cases hb : hit f with
    | false => exact callStep_log ih f args s
    | true => exact hH f hb args s
theorem callK_ok (ht : TTok P E.tt) (hX : ExtOK P E.ext) (hF : FTok P E g) (hm : P.follows .mixedOrders = true) {hit : FuncId → Bool} {H : CallF} (hH : ∀ f, hit f = true → ∀ args s, EndLog s (H f args s))
    (hO : ∀ f, hit f = true → ∀ args s, EndOK P E.tt g f args s (H f args s)) : ∀ n, CallOK P E.tt g (callK E hit H n) := by
  intro n
  induction n with
  | zero => intro f args s; exact trivial
  | succ n ih =>
    intro f args s
    have e : callK E hit H (n + 1) f args s = Bool.rec (motive := fun _ => AEnd) (callStep E (callK E hit H n) f args s) (H f args s) (hit f) := rfl
    rw [e]
    cases hb : hit f with
    | false => exact callStep_ok ht hX hF hm ih (callK_log hH n) f args s
    | true => exact hO f hb args s

/-! strings.Contains -/
theorem headL_eq : ∀ (sub l : List UInt8), headL (mapL UInt8.toNat sub) (mapL UInt8.toNat l) = sub.isPrefixOf l := by
  intro sub
  induction sub with
  | nil => intro l; cases l <;> rfl
  | cons a sub ih =>
    intro l
    cases l with
    | nil => rfl
    | cons b l =>
      show andB (Nat.beq a.toNat b.toNat) (headL (mapL UInt8.toNat sub) (mapL UInt8.toNat l)) = (a == b && sub.isPrefixOf l)
      rw [andB_eq, ih]
      congr 1
      rw [beq_eq' a.toNat b.toNat]
      by_cases h : a = b
      · subst h; simp
      · have : ¬ a.toNat = b.toNat := fun e => h (UInt8.toNat_inj.1 e)
        simp [h, this]
theorem hasL_eq (sub l : List UInt8) : hasL (mapL UInt8.toNat sub) (mapL UInt8.toNat l) = Lib.contains l sub := by
  induction l with
  | nil =>
    show headL (mapL UInt8.toNat sub) (mapL UInt8.toNat []) = _
    rw [headL_eq]
    cases sub <;> rfl
  | cons x l ih =>
    show orB (headL (mapL UInt8.toNat sub) (mapL UInt8.toNat (x :: l))) (hasL (mapL UInt8.toNat sub) (mapL UInt8.toNat l)) = _
    rw [orB_eq, ih, headL_eq]
    unfold Lib.contains
    rw [show Lib.index (x :: l) sub = (if sub.isPrefixOf (x :: l) then 0 else if Lib.index l sub == -1 then -1 else Lib.index l sub + 1) from by conv => lhs; unfold Lib.index]
    cases hp : sub.isPrefixOf (x :: l) with
    | true => simp
    | false =>
      rcases Lib.index_spec l sub with ⟨h1, _⟩ | ⟨i, h1, _⟩
      · rw [h1]; rfl
      · rw [h1]
        have : ((i : Int) == -1) = false := by rw [beq_eq_false_iff_ne]; omega
        simp [this]
        omega

/-- what is told of strings.Contains, where this variable holds a number. -/
def HasOK (P : Program) (fc gm : Nat) : Prop := Enters P fc ∧ ∀ (s sub : ByteArray) (m : Int) (w : World), s.size < 4294967281 → w.cell? ⟨gm, 0, none⟩ = some (.int .i64 m) →
  Calls P fc #[.string s, .string sub] w fun e w' => e = .returned (.bool (Lib.contains s.data.toList sub.data.toList)) ∧ w' = w

theorem hasArgs_log {tm gm : Nat} {args : List AV} {s : St} : EndLog s (hasArgs tm gm args s) := by
  unfold hasArgs
  split
  · unfold has2
    cases andB (isNum tm (hget s.h gm)) (Nat.ble (lenL _) maxText) with
    | false => exact ⟨fun v s' h => (by cases h), fun v s' h => (by cases h)⟩
    | true => exact ⟨fun v s' h => (by cases h; exact .refl s), fun v s' h => (by cases h)⟩
  · exact ⟨fun v s' h => (by cases h), fun v s' h => (by cases h)⟩
theorem lenL_bytes (s : ByteArray) : lenL (bytesL s) = s.size := by
  have : ∀ l : List UInt8, lenL (mapL UInt8.toNat l) = l.length := by
    intro l
    induction l with
    | nil => rfl
    | cons x l ih => show Nat.succ (lenL (mapL UInt8.toNat l)) = _; rw [ih]; rfl
  show lenL (mapL UInt8.toNat s.data.toList) = _
  rw [this]; exact Array.length_toList
theorem hasArgs_ok {fc gm : Nat} {tm : TypeId} (hc : HasOK P fc gm) (hgm : gm < g) {args : List AV} {s : St} : EndOK P E.tt g fc args s (hasArgs tm gm args s) := by
  unfold hasArgs
  split
  · rename_i a b
    unfold has2
    cases hk : andB (isNum tm (hget s.h gm)) (Nat.ble (lenL a) maxText) with
    | false => exact trivial
    | true =>
      rw [andB_eq, Bool.and_eq_true] at hk
      obtain ⟨m, hm⟩ := isNum_ok hk.1
      have hlen : lenL a ≤ 1073741824 := Nat.le_of_ble_eq_true hk.2
      refine ⟨hc.1, fun ρ w args' hg hna hs hargs _ hn => ?_⟩
      have hgn : gm < 65536 := by
        obtain ⟨p, hp, _⟩ := hg gm hgm
        exact hs.dom gm p hp
      obtain ⟨p, arr, fz, h1, h2, h3, _⟩ := hs.heap gm _ trivial hgn hm
      obtain ⟨p', hp', hb1, hb2⟩ := hg gm hgm
      obtain rfl : p' = p := Option.some.inj (hp'.symm.trans h1)
      obtain ⟨v, hv1, hv2⟩ := h3 0 (.int .i64 m) rfl
      have hcell : w.cell? ⟨gm, 0, none⟩ = some (.int .i64 m) := by
        rw [hb1] at h2
        rw [hb2] at hv1
        simp only [V] at hv2
        subst hv2
        simpa [World.cell?, h2] using hv1
      simp only [Vs] at hargs
      obtain ⟨va, l1, e1, ⟨sa, rfl, ha⟩, vb, l2, rfl, ⟨sb, rfl, hb⟩, rfl⟩ := (show ∃ v l', args'.toList = v :: l' ∧ (∃ s, v = .string s ∧ bytesL s = a) ∧ ∃ v2 l2, l' = v2 :: l2 ∧ (∃ s, v2 = .string s ∧ bytesL s = b) ∧ l2 = [] from by
        simpa only [V] using hargs)
      have he : args' = #[.string sa, .string sb] := by
        rw [← Array.toArray_toList (xs := args'), e1]
      subst he
      subst ha
      subst hb
      rw [lenL_bytes] at hlen
      refine Calls.mono (hc.2 sa sb m w (by omega) hcell) fun e w' he => ?_
      obtain ⟨rfl, rfl⟩ := he
      refine ⟨ρ, .refl hs, ?_⟩
      simp only [V]
      exact congrArg Value.bool (hasL_eq sb.data.toList sa.data.toList).symm
  · exact trivial

/-- where the calls of strings.Contains are answered. -/
theorem call1_log {fc : FuncId} {tm gm : Nat} (n : Nat) : CallLog (callK E (hitF fc) (has tm gm) n) := callK_log (fun _ _ _ _ => hasArgs_log) n
theorem call1_ok (ht : TTok P E.tt) (hX : ExtOK P E.ext) (hF : FTok P E g) (hm : P.follows .mixedOrders = true) {fc gm : Nat} {tm : TypeId} (hc : HasOK P fc gm) (hgm : gm < g) (n : Nat) : CallOK P E.tt g (callK E (hitF fc) (has tm gm) n) :=
  callK_ok ht hX hF hm (fun _ _ _ _ => hasArgs_log) (fun f hf args s => by
    rw [Nat.beq_eq.mp (show Nat.beq f fc = true from hf)]
    exact hasArgs_ok hc hgm) n
theorem call2_log {fc f0 : FuncId} {tm gm : Nat} {l : List Ent} (n : Nat) : CallLog (callK E (hitFO fc f0) (hasO tm gm f0 l) n) := by
  refine callK_log (fun f _ args s => ?_) n
  show EndLog s (Bool.rec (motive := fun _ => AEnd) (hasArgs tm gm args s) (oracle gm tm l args s) (Nat.beq f f0))
  cases Nat.beq f f0 with
  | false => exact hasArgs_log
  | true =>
    refine ⟨fun v s' h => ?_, fun v s' h => ?_⟩
    · rcases oracle_ret h with h | ⟨h, _⟩
      · cases h
      · cases h; exact .refl s
    · rcases oracle_ret h with h | ⟨h, _⟩ <;> cases h
/-- where the calls of one function more are answered as known. -/
theorem call2_ok (ht : TTok P E.tt) (hX : ExtOK P E.ext) (hF : FTok P E g) (hm : P.follows .mixedOrders = true) {fc gm : Nat} {tm : TypeId} (hc : HasOK P fc gm) (hgm : gm < g) {f0 : FuncId} {l : List Ent} {k : Nat}
    (hl : ∀ e ∈ l, e.ok g gm = true ∧ ∀ m, e.runs gm tm (callK E (hitF fc) (has tm gm) k) f0 m = true) (n : Nat) : CallOK P E.tt g (callK E (hitFO fc f0) (hasO tm gm f0 l) n) := by
  have hlog : ∀ f, hitFO fc f0 f = true → ∀ args s, EndLog s (hasO tm gm f0 l f args s) := by
    intro f _ args s
    show EndLog s (Bool.rec (motive := fun _ => AEnd) (hasArgs tm gm args s) (oracle gm tm l args s) (Nat.beq f f0))
    cases Nat.beq f f0 with
    | false => exact hasArgs_log
    | true =>
      refine ⟨fun v s' h => ?_, fun v s' h => ?_⟩
      · rcases oracle_ret h with h | ⟨h, _⟩
        · cases h
        · cases h; exact .refl s
      · rcases oracle_ret h with h | ⟨h, _⟩ <;> cases h
  refine callK_ok ht hX hF hm hlog (fun f hf args s => ?_) n
  have hf : orB (Nat.beq f fc) (Nat.beq f f0) = true := hf
  show EndOK P E.tt g f args s (Bool.rec (motive := fun _ => AEnd) (hasArgs tm gm args s) (oracle gm tm l args s) (Nat.beq f f0))
  cases hb : Nat.beq f f0 with
  | false =>
    rw [hb, orB_eq, Bool.or_false] at hf
    rw [Nat.beq_eq.mp hf]
    exact hasArgs_ok hc hgm
  | true =>
    rw [Nat.beq_eq.mp hb]
    show EndOK P E.tt g f0 args s (oracle gm tm l args s)
    rcases oracle_ret (gm := gm) (tm := tm) (l := l) (args := args) (s := s) rfl with h | ⟨h, e, he, hfit⟩
    · rw [h]; exact trivial
    · rw [h]; exact Ent.endOK (call1_ok ht hX hF hm hc hgm k) (call1_log k) (hl e he).1 (hl e he).2 hfit

/-! values that say all of what they stand for -/
def exactS : AV → Bool
  | .bool _ => true
  | .int _ _ => true
  | .str _ => true
  | _ => false
def exactBlk : ABlk → Bool
  | .cells c _ 0 => allB exactS c
  | _ => false
theorem exactS_eq {ρ ρ' : Ren} {a : AV} {v v' : Value} (ha : exactS a = true) (h : V ρ a v) (h' : V ρ' a v') : v = v' := by
  cases a with
  | bool b => simp only [V] at h h'; rw [h, h']
  | int k n => simp only [V] at h h'; rw [h, h']
  | str l =>
    simp only [V] at h h'
    obtain ⟨s, rfl, h1⟩ := h
    obtain ⟨t, rfl, h2⟩ := h'
    rw [bytesL_inj (h1.trans h2.symm)]
  | _ => cases ha
theorem HB_exact {tt : Trie TI} {ρ ρ' : Ren} {w w' : World} {b : Nat} {x : ABlk} {p : Place} (hx : exactBlk x = true) (h : HB tt ρ w b x) (h' : HB tt ρ' w' b x) (hp : ρ b = some p) (hp' : ρ' b = some p) : w'.heap[p.block]? = w.heap[p.block]? := by
  cases x with
  | cells c t g =>
    have hg : g = 0 := by
      cases g with
      | zero => rfl
      | succ => cases hx
    subst hg
    have hx : allB exactS c = true := hx
    obtain ⟨q, arr, fz, h1, h2, h3, h4, h5, _⟩ := h
    obtain ⟨q', arr', fz', h1', h2', h3', h4', h5', _⟩ := h'
    rw [hp] at h1; cases h1
    rw [hp'] at h1'; cases h1'
    obtain ⟨hb, hs⟩ := h5 rfl
    obtain ⟨_, hs'⟩ := h5' rfl
    have e1 : fz = (0, 0) := h4.resolve_right fun h => by cases h.1
    have e2 : fz' = (0, 0) := h4'.resolve_right fun h => by cases h.1
    subst e1; subst e2
    rw [h2, h2']
    have : arr' = arr := by
      refine Array.ext (by rw [hs, hs']) fun i hi hi' => ?_
      have hc : c[i]? = some c[i] := List.getElem?_eq_getElem (by omega)
      obtain ⟨v, hv, hr⟩ := h3 i _ hc
      obtain ⟨v', hv', hr'⟩ := h3' i _ hc
      rw [hb, Nat.zero_add] at hv hv'
      have := exactS_eq (allB_iff.1 hx _ (List.getElem_mem _)) hr hr'
      rw [Array.getElem?_eq_getElem hi'] at hv
      rw [Array.getElem?_eq_getElem hi] at hv'
      cases hv; cases hv'
      exact this.symm
    rw [this]
  | _ => cases hx

theorem lookB_some {l : List (Nat × ABlk)} {p : Nat × ABlk} (hp : p ∈ l) : lookB l p.1 ≠ none := by
  induction l with
  | nil => cases hp
  | cons q l ih =>
    show Bool.rec (motive := fun _ => Option ABlk) (lookB l p.1) (some q.2) (Nat.beq q.1 p.1) ≠ none
    cases hc : Nat.beq q.1 p.1 with
    | true => exact fun h => by cases h
    | false =>
      refine ih ?_
      rcases List.mem_cons.1 hp with rfl | hp
      · rw [Nat.beq_refl] at hc; cases hc
      · exact hp
/-- a closed call that answers true, from variables of the program that hold what is told. -/
theorem closedG {call : CallF} (hok : CallOK P E.tt g call) {f : FuncId} {e : Ent} {gm : Nat} {tm : TypeId} (he : e.ok g gm = true) (hn : e.n = g) (hex : allB (fun p => exactBlk p.2) e.blks = true) {m : Int} (hlog : CallLog call)
    (h : isTrue (call f [] (e.st gm tm m)) = true) {w : World} (hw : ∀ p ∈ e.all gm tm m, HB E.tt (baseRen g) w p.1 p.2) : Calls P f #[] w fun
      | .returned v, w' => v = .bool true ∧ Go.RowKit.Below w.heap.size w w'
      | _, _ => False := by
  have he : andB (Nat.ble e.n 65536) (andB (Nat.ble g e.n) (andB (isLt gm g) (andB (allB (belowV e.n) e.args) (allB (fun p => andB (isLt p.1 e.n) (belowBlk e.n p.2)) e.blks)))) = true := he
  simp only [andB_eq, Bool.and_eq_true] at he
  obtain ⟨he1, _, heg, _, he4⟩ := he
  have he1 : e.n ≤ 65536 := Nat.le_of_ble_eq_true he1
  have heg : gm < g := isLt_iff.1 heg
  have hblk : ∀ p ∈ e.all gm tm m, p.1 < g := fun p hp => by
    rcases List.mem_cons.1 hp with rfl | hp
    · exact heg
    · have := allB_mem he4 p hp
      simp only [Bool.and_eq_true] at this
      rw [← hn]
      exact isLt_iff.1 this.1
  have hget1 : ∀ b, b < 65536 → hget (e.st gm tm m).h b = lookB (e.all gm tm m) b := fun b hb => putAll_get (fun p hp => Nat.lt_of_lt_of_le (hblk p hp) (by omega)) hb
  have hmem : ∀ b x, b < 65536 → hget (e.st gm tm m).h b = some x → (b, x) ∈ e.all gm tm m := fun b x hb hx => by
    rw [hget1 b hb] at hx
    exact lookB_mem hx
  have hbase : ∀ b p, baseRen g b = some p → b < g ∧ p = ⟨b, 0, 0, 0⟩ := fun b p hp => by
    unfold baseRen at hp
    split at hp
    · cases hp; exact ⟨by assumption, rfl⟩
    · cases hp
  have hok := hok f [] (e.st gm tm m)
  have hlog := hlog f [] (e.st gm tm m)
  have hexm : ∀ p ∈ e.all gm tm m, exactBlk p.2 = true := fun p hp => by
    rcases List.mem_cons.1 hp with rfl | hp
    · rfl
    · exact allB_mem hex p hp
  cases hc : call f [] (e.st gm tm m) with
  | bad => rw [hc] at h; cases h
  | panicked v s => rw [hc] at h; cases h
  | ret v s =>
    rw [hc] at h hok hlog
    have h : andB (vIsBool v true) (andB (Nat.ble s.n 65536) (isNilL s.w)) = true := h
    simp only [andB_eq, Bool.and_eq_true] at h
    have hn2 : s.n ≤ 65536 := Nat.le_of_ble_eq_true h.2.1
    have hsw : s.w = [] := by
      cases hw : s.w with
      | nil => rfl
      | cons => rw [hw] at h; cases h.2.2
    have hlg := hlog.1 _ _ rfl hn2
    refine Calls.mono (hok.2 (baseRen g) w #[] ?_ ?_ ?_ Vs.nil' ?_ hn2) fun e' w' he' => ?_
    · intro b hb
      exact ⟨⟨b, 0, 0, 0⟩, if_pos hb, rfl, rfl⟩
    · intro b hb hb2
      cases hx : hget (e.st gm tm m).h b with
      | none => rfl
      | some x =>
        have := hblk _ (hmem b x hb2 hx)
        have hb : e.n ≤ b := hb
        dsimp only at this
        omega
    · refine ⟨fun b x _ hb hx => hw _ (hmem b x hb hx), fun b c p q _ _ _ _ hp hq hpq => ?_, fun b p hp => ?_⟩
      · rw [(hbase b p hp).2, (hbase c q hq).2] at hpq
        exact hpq
      · have := (hbase b p hp).1
        omega
    · intro b hb _
      have hb : e.n ≤ b := hb
      exact if_neg (by omega)
    · cases e' with
      | returned v' =>
        obtain ⟨ρ', hadv, hv⟩ := he'
        have hb : v = .bool true := by
          cases v with
          | bool b => cases b <;> first | rfl | (cases h.1; done)
          | _ => cases h.1
        subst hb
        refine ⟨hv.bool, hadv.os, hadv.tape, hadv.output, hadv.size, fun k hk => ?_⟩
        by_cases hk2 : ∃ p ∈ e.all gm tm m, p.1 = k
        · obtain ⟨p, hp, rfl⟩ := hk2
          have hlt := hblk p hp
          have hp65 : p.1 < 65536 := by omega
          cases hx : hget (e.st gm tm m).h p.1 with
          | none =>
            rw [hget1 p.1 hp65] at hx
            exact absurd hx (lookB_some hp)
          | some x =>
            have hmx := hmem p.1 x hp65 hx
            have hx2 : hget s.h p.1 = some x := by
              rw [hlg.keep p.1 hp65 (show p.1 < e.n by omega) (fun c hc => by rw [hsw] at hc; cases hc)]
              exact hx
            exact HB_exact (hexm _ hmx) (hw _ hmx) (hadv.sr.heap p.1 x (.inl trivial) hp65 hx2) (show baseRen g p.1 = some ⟨p.1, 0, 0, 0⟩ from if_pos hlt) (hadv.le _ _ (show baseRen g p.1 = some ⟨p.1, 0, 0, 0⟩ from if_pos hlt))
        · refine hadv.frame k hk fun b p _ hl hp => ?_
          cases hx : hget (e.st gm tm m).h b with
          | none => exact absurd hx hl.2
          | some x =>
            rw [(hbase b p hp).2]
            exact fun e' => hk2 ⟨_, hmem b x hl.1 hx, e'⟩
      | _ => exact he'.elim
end
end Go.Dee
/- A table of the program's text, as the evaluator has it. -/
namespace Go.Dee
open Go
section
variable {H : Type} {enc : TypeId × Value → H} {P : Program} {w : World} {base : Nat} {spare : Nat → Bool} {held : Bool} {fuel : Nat}
abbrev Row4 := List UInt8 × Int × Int × Int
def Row4.datum (r : Row4) : DataW H := .agg [.lit (.string r.1), .lit (.int .i64 r.2.1), .lit (.int .i64 r.2.2.1), .lit (.int .i64 r.2.2.2)]
noncomputable def Row4.cells (r : Row4) : List AV := [.str (mapL UInt8.toNat r.1), .int .i64 r.2.1, .int .i64 r.2.2.1, .int .i64 r.2.2.2]
noncomputable def flat4 (rows : List Row4) : List AV := rows.flatMap Row4.cells

theorem row4_read {e : TypeId} {a b c d : Field} (he : P.underlying e = some (.struct #[a, b, c, d])) (ce : P.cellsOf e = 4)
    (ha : P.underlying a.type = some .string) (hb : P.underlying b.type = some (.int .i64)) (hc : P.underlying c.type = some (.int .i64)) (hd : P.underlying d.type = some (.int .i64))
    (oa : a.offset = 0 ∧ P.cellsOf a.type = 1) (ob : b.offset = 1 ∧ P.cellsOf b.type = 1) (oc : c.offset = 2 ∧ P.cellsOf c.type = 1) (od : d.offset = 3 ∧ P.cellsOf d.type = 1)
    {cs : List Value} {r : Row4} {p : List MemPlace} (h : DataW.trod enc P w base spare held fuel e cs = some (r.datum, p)) (ρ : Ren) : Vs ρ r.cells cs := by
  obtain ⟨xs, n, rfl, hx, hlen, hxl, hfl⟩ := DataW.trod_struct he h
  rw [ce] at hlen
  match cs, hlen with
  | [c0, c1, c2, c3], _ =>
    have hx1 : xs.map (·.1) = [.lit (.string r.1), .lit (.int .i64 r.2.1), .lit (.int .i64 r.2.2.1), .lit (.int .i64 r.2.2.2)] := by
      have := (Prod.mk.inj hx).1
      unfold Row4.datum at this
      injection this with this
      exact this.symm
    have hxl : xs.length = 4 := hxl
    obtain ⟨x0, x1, x2, x3, rfl⟩ : ∃ x0 x1 x2 x3, xs = [x0, x1, x2, x3] := match xs, hxl with
      | [a, b, c, d], _ => ⟨a, b, c, d, rfl⟩
    have hx1 : [x0.1, x1.1, x2.1, x3.1] = [DataW.lit (Lit.string r.1), .lit (.int .i64 r.2.1), .lit (.int .i64 r.2.2.1), .lit (.int .i64 r.2.2.2)] := hx1
    simp only [List.cons.injEq, and_true] at hx1
    obtain ⟨e0, e1, e2, e3⟩ := hx1
    have t0 := hfl 0 a rfl
    have t1 := hfl 1 b rfl
    have t2 := hfl 2 c rfl
    have t3 := hfl 3 d rfl
    rw [oa.1, oa.2] at t0
    rw [ob.1, ob.2] at t1
    rw [oc.1, oc.2] at t2
    rw [od.1, od.2] at t3
    obtain ⟨s, k0, q0, _⟩ := DataW.trod_string ha (show DataW.trod enc P w base spare held n a.type [c0] = some x0 from t0)
    obtain ⟨i1, k1, q1, _⟩ := DataW.trod_int hb (show DataW.trod enc P w base spare held n b.type [c1] = some x1 from t1)
    obtain ⟨i2, k2, q2, _⟩ := DataW.trod_int hc (show DataW.trod enc P w base spare held n c.type [c2] = some x2 from t2)
    obtain ⟨i3, k3, q3, _⟩ := DataW.trod_int hd (show DataW.trod enc P w base spare held n d.type [c3] = some x3 from t3)
    cases k0; cases k1; cases k2; cases k3
    rw [q0] at e0; rw [q1] at e1; rw [q2] at e2; rw [q3] at e3
    simp only [DataW.lit.injEq, Lit.string.injEq, Lit.int.injEq, true_and] at e0 e1 e2 e3
    unfold Row4.cells
    simp only [Vs, V]
    exact ⟨_, _, rfl, ⟨s, rfl, by rw [← e0]; rfl⟩, _, _, rfl, by rw [e1], _, _, rfl, by rw [e2], _, _, rfl, by rw [e3], rfl⟩

theorem rows4_read {t e : TypeId} {a b c d : Field} {rows : List Row4} (ht : P.underlying t = some (.array rows.length e)) (ct : P.cellsOf t = rows.length * 4) (he : P.underlying e = some (.struct #[a, b, c, d])) (ce : P.cellsOf e = 4)
    (ha : P.underlying a.type = some .string) (hb : P.underlying b.type = some (.int .i64)) (hc : P.underlying c.type = some (.int .i64)) (hd : P.underlying d.type = some (.int .i64))
    (oa : a.offset = 0 ∧ P.cellsOf a.type = 1) (ob : b.offset = 1 ∧ P.cellsOf b.type = 1) (oc : c.offset = 2 ∧ P.cellsOf c.type = 1) (od : d.offset = 3 ∧ P.cellsOf d.type = 1)
    {cs : List Value} {p : List MemPlace} (h : DataW.trod enc P w base spare held fuel t cs = some (.agg (rows.map Row4.datum), p)) (ρ : Ren) : Vs ρ (flat4 rows) cs := by
  obtain ⟨xs, n, rfl, hx, hlen, hxl, hfl⟩ := DataW.trod_array ht h
  have hx1 : xs.map (·.1) = rows.map Row4.datum := by
    have := (Prod.mk.inj hx).1
    injection this with this
    exact this.symm
  rw [ct] at hlen
  have key : ∀ j, j ≤ rows.length → Vs ρ (flat4 (rows.drop (rows.length - j))) (cs.drop ((rows.length - j) * 4)) := by
    intro j
    induction j with
    | zero =>
      intro _
      rw [Nat.sub_zero, List.drop_length, List.drop_eq_nil_of_le (by omega)]
      simp only [flat4, List.flatMap_nil, Vs]
    | succ j ih =>
      intro hj
      have hi : rows.length - (j + 1) < rows.length := by omega
      generalize hk : rows.length - (j + 1) = i at hi
      have hk2 : rows.length - j = i + 1 := by omega
      have ih := ih (by omega)
      rw [hk2] at ih
      have hrow : rows.drop i = rows[i] :: rows.drop (i + 1) := (List.drop_eq_getElem_cons hi)
      have hxi : xs[i]? = some (xs[i]'(by omega)) := List.getElem?_eq_getElem _
      have hdi : (xs[i]'(by omega)).1 = (rows[i]).datum := by
        have := congrArg (fun l => l[i]?) hx1
        simp only [List.getElem?_map, hxi, List.getElem?_eq_getElem hi, Option.map_some, Option.some.injEq] at this
        exact this
      have ht := hfl i hi
      rw [ce, hxi] at ht
      have hr := row4_read he ce ha hb hc hd oa ob oc od (r := rows[i]) (p := (xs[i]'(by omega)).2) (by rw [ht, ← hdi]) ρ
      have hcs : cs.drop (i * 4) = (cs.drop (i * 4)).take 4 ++ cs.drop ((i + 1) * 4) := by
        rw [Nat.add_mul, Nat.one_mul, ← List.drop_drop, List.take_append_drop]
      rw [hrow, hcs]
      show Vs ρ (Row4.cells rows[i] ++ flat4 (rows.drop (i + 1))) _
      exact hr.append ih
  have := key rows.length (Nat.le_refl _)
  rw [Nat.sub_self] at this
  simpa using this

/-- a row whose cells are told, in the world, is the evaluator's. -/
theorem HB_of {tt : Trie TI} {g : Nat} {b : Nat} (hb : b < g) {c : List AV} {t : TypeId} {arr : Array Value} (h : w.heap[b]? = some (.cells arr t)) (hv : Vs (baseRen g) c arr.toList) : HB tt (baseRen g) w b (.cells c t 0) := by
  refine ⟨⟨b, 0, 0, 0⟩, arr, (0, 0), if_pos hb, h, hv.rel, .inl rfl, fun _ => ⟨rfl, hv.size⟩, fun h => absurd h (by omega)⟩
end
end Go.Dee
