/- Library contracts at this program; the plain law of words and faults. Part of the proof that LowerTests returns true for every input that reads as data, its listed variables laid as the text lays them. -/
import Derived.Shelf.Strings.Search1
import Derived.Shelf.Strings.Search2
import Derived.Shelf.Strings.Search3
import Derived.Test.YtooclgjcffpcgaaGreatDoorProg
import Derived.Shelf.Slices.Turned
import Derived.Lib.IndexMore
/- strings.Contains at this program: the shelf's contracts, laid in plain words. -/
namespace Go.Proofs
open Go.Shelf
def Tryz.lays144_ren : Go.Shelf.Ren := ⟨fun | 144 => 39 | 143 => 58 | 219 => 95 | 217 => 148 | 225 => 149 | 224 => 150 | 267 => 151 | 266 => 206 | 314 => 207 | n => n, fun | 9 => 9 | 4 => 4 | 3 => 3 | 5 => 5 | 46 => 188 | 146 => 251 | 51 => 250 | n => n, fun | 1 => 0 | n => n⟩
theorem Tryz.lays144 : Go.Proofs.Lays.n144 Tryz.prog Tryz.lays144_ren := {
  mixed := by kernel_rfl
  f143 := Tryz.func58.trans (congrArg some (by kernel_rfl))
  f144 := Tryz.func39.trans (congrArg some (by kernel_rfl))
  f217 := Tryz.func148.trans (congrArg some (by kernel_rfl))
  f219 := Tryz.func95.trans (congrArg some (by kernel_rfl))
  f224 := Tryz.func150.trans (congrArg some (by kernel_rfl))
  f225 := Tryz.func149.trans (congrArg some (by kernel_rfl))
  f266 := Tryz.func206.trans (congrArg some (by kernel_rfl))
  f267 := Tryz.func151.trans (congrArg some (by kernel_rfl))
  f314 := Tryz.func207.trans (congrArg some (by kernel_rfl))
  t3 := Tryz.underlying3
  a3 := Tryz.isAgg3
  z3 := Tryz.sizeOf3
  v3 := Tryz.zeroValue3
  t4 := Tryz.underlying4
  a4 := Tryz.isAgg4
  z4 := Tryz.sizeOf4
  v4 := Tryz.zeroValue4
  t5 := Tryz.underlying5
  a5 := Tryz.isAgg5
  z5 := Tryz.sizeOf5
  v5 := Tryz.zeroValue5
  t9 := Tryz.underlying9
  a9 := Tryz.isAgg9
  z9 := Tryz.sizeOf9
  v9 := Tryz.zeroValue9
  t46 := Tryz.underlying188
  a46 := Tryz.isAgg188
  z46 := Tryz.sizeOf188
  v46 := Tryz.zeroValue188
  t51 := Tryz.underlying250
  a51 := Tryz.isAgg250
  z51 := Tryz.sizeOf250
  v51 := Tryz.zeroValue250
  t146 := Tryz.underlying251
  a146 := Tryz.isAgg251
  z146 := Tryz.sizeOf251
  v146 := Tryz.zeroValue251
  g1 := by kernel_rfl }
theorem Tryz.strings_Contains_one (s : ByteArray) (c : UInt8) (w : World) :
    Calls Tryz.prog 39 #[.string s, .string ⟨#[c]⟩] w fun e w' => e = .returned (.bool (decide (0 ≤ Lib.indexByte s.data.toList c))) ∧ w' = w := Any.strings_Contains_one Tryz.lays144 s c w
theorem Tryz.strings_Contains (s sub : ByteArray) (m : Int) (w : World) (hs : s.size < 4294967281) (hm : w.cell? ⟨0, 0, none⟩ = some (.int .i64 m)) :
    Calls Tryz.prog 39 #[.string s, .string sub] w fun e w' => e = .returned (.bool (Lib.contains s.data.toList sub.data.toList)) ∧ w' = w := Any.strings_Contains Tryz.lays144 s sub m w hs hm
end Go.Proofs
/- slices.Contains of integers at this program: the shelf's contract, laid in plain words. -/
namespace Go.Proofs
open Go.Shelf
def Tryz.lays107_ren : Go.Shelf.Ren := ⟨fun | 107 => 19 | 108 => 40 | n => n, fun | 28 => 65 | 3 => 3 | 4 => 4 | n => n, fun | n => n⟩
theorem Tryz.lays107 : Go.Proofs.Lays.n107 Tryz.prog Tryz.lays107_ren := {
  mixed := by kernel_rfl
  f107 := Tryz.func19.trans (congrArg some (by kernel_rfl))
  f108 := Tryz.func40.trans (congrArg some (by kernel_rfl))
  t0 := Tryz.underlying0
  a0 := Tryz.isAgg0
  z0 := Tryz.sizeOf0
  v0 := Tryz.zeroValue0
  t3 := Tryz.underlying3
  a3 := Tryz.isAgg3
  z3 := Tryz.sizeOf3
  v3 := Tryz.zeroValue3
  t4 := Tryz.underlying4
  a4 := Tryz.isAgg4
  z4 := Tryz.sizeOf4
  v4 := Tryz.zeroValue4
  t28 := Tryz.underlying65
  a28 := Tryz.isAgg65
  z28 := Tryz.sizeOf65
  v28 := Tryz.zeroValue65 }
theorem Tryz.slices_Contains_int (b off n c : Nat) (zs : List Int) (x : Int) (w : World) (hz : n ≤ zs.length) (hbig : n ≤ 9223372036854775807) (hc : ∀ j, j < zs.length → w.cell? ⟨b, off + j, none⟩ = some (.int .i64 (zs.getD j 0))) :
    Calls Tryz.prog 19 #[.slice (some ⟨b, off, none⟩) n c, .int .i64 x] w fun e w' => e = .returned (.bool ((zs.take n).contains x)) ∧ w' = w := Any.slices_Contains_int Tryz.lays107 b off n c zs x w hz hbig hc
end Go.Proofs
namespace Go.Proofs.LowM

/-! plain law: words in a text -/
theorem occ_infix {s sub : List UInt8} {i : Nat} (h : Go.Lib.occAt s sub i = true) : sub <:+: s := by
  unfold Go.Lib.occAt at h
  exact (List.isPrefixOf_iff_prefix.1 h).isInfix.trans (List.drop_suffix i s).isInfix
theorem infix_occ {s sub : List UInt8} (h : sub <:+: s) : ∃ i, i ≤ s.length ∧ Go.Lib.occAt s sub i = true := by
  obtain ⟨a, b, rfl⟩ := h
  refine ⟨a.length, by simp, ?_⟩
  unfold Go.Lib.occAt
  rw [List.isPrefixOf_iff_prefix]
  simp [List.append_assoc]
theorem contains_iff (s sub : List UInt8) : Go.Lib.contains s sub = true ↔ sub <:+: s := by
  unfold Go.Lib.contains
  rw [decide_eq_true_iff]
  rcases Go.Lib.index_spec s sub with ⟨h1, h2⟩ | ⟨i, h1, h2, h3, _⟩
  · rw [h1]
    constructor
    · intro h; omega
    · intro h
      obtain ⟨i, hi, ho⟩ := infix_occ h
      rw [h2 i hi] at ho; cases ho
  · rw [h1]
    exact ⟨fun _ => occ_infix h3, fun _ => by omega⟩
theorem byte_iff (l : List UInt8) (c : UInt8) : 0 ≤ Go.Lib.indexByte l c ↔ c ∈ l := by
  induction l with
  | nil => simp [Go.Lib.indexByte]
  | cons b l ih =>
    have hge := Go.Lib.indexByte_ge l c
    unfold Go.Lib.indexByte
    by_cases h : b = c
    · subst h; simp
    · have h1 : (b == c) = false := by simpa using h
      rw [h1]
      by_cases h2 : Go.Lib.indexByte l c = -1
      · have : c ∉ l := fun hm => by have := ih.2 hm; omega
        simp [h2, this, Ne.symm h]
      · have hm : c ∈ l := ih.1 (by omega)
        have h3 : (Go.Lib.indexByte l c == -1) = false := by simpa using h2
        simp [h3, hm]
        omega

def spaced (ws : List (List UInt8)) : List UInt8 := 32 :: ws.flatMap fun w => w ++ [32]
def around (l : List UInt8) : List UInt8 := 32 :: (l ++ [32])
theorem spaced_cons (w : List UInt8) (ws : List (List UInt8)) : spaced (w :: ws) = 32 :: (w ++ spaced ws) := by simp [spaced]
theorem past {l w : List UInt8} (X : List UInt8) (hw : (32 : UInt8) ∉ w) : around l <:+: w ++ X ↔ around l <:+: X := by
  induction w with
  | nil => simp
  | cons a w ih =>
    rw [List.cons_append, List.infix_cons_iff, ih fun h => hw (List.mem_cons_of_mem _ h)]
    constructor
    · rintro (h | h)
      · unfold around at h
        rw [List.cons_prefix_cons] at h
        exact absurd (h.1 ▸ List.mem_cons_self) hw
      · exact h
    · exact .inr
theorem head_eq {l w X : List UInt8} (hl : (32 : UInt8) ∉ l) (hw : (32 : UInt8) ∉ w) (h : l ++ [32] <+: w ++ 32 :: X) : l = w := by
  induction l generalizing w with
  | nil =>
    cases w with
    | nil => rfl
    | cons a w =>
      simp only [List.nil_append, List.cons_append, List.cons_prefix_cons] at h
      exact absurd (h.1 ▸ List.mem_cons_self) hw
  | cons b l ih =>
    cases w with
    | nil =>
      simp only [List.nil_append, List.cons_append, List.cons_prefix_cons] at h
      exact absurd (h.1 ▸ List.mem_cons_self) hl
    | cons a w =>
      simp only [List.cons_append, List.cons_prefix_cons] at h
      rw [h.1, ih (fun hm => hl (List.mem_cons_of_mem _ hm)) (fun hm => hw (List.mem_cons_of_mem _ hm)) h.2]
theorem words {l : List UInt8} (hl : (32 : UInt8) ∉ l) : ∀ ws : List (List UInt8), (∀ w ∈ ws, (32 : UInt8) ∉ w) → (around l <:+: spaced ws ↔ l ∈ ws) := by
  intro ws
  induction ws with
  | nil =>
    intro _
    constructor
    · intro h
      have := h.length_le
      simp [around, spaced] at this
    · intro h; cases h
  | cons w ws ih =>
    intro hws
    have hw := hws w (by simp)
    rw [spaced_cons, List.infix_cons_iff, past _ hw, ih fun x hx => hws x (List.mem_cons_of_mem _ hx), List.mem_cons]
    constructor
    · rintro (h | h)
      · unfold around at h
        rw [List.cons_prefix_cons] at h
        exact .inl (head_eq hl hw h.2)
      · exact .inr h
    · rintro (h | h)
      · subst h
        left
        unfold around spaced
        rw [List.cons_prefix_cons]
        exact ⟨rfl, ⟨_, by rw [List.append_assoc]; rfl⟩⟩
      · exact .inr h

def by_ (s : String) : List UInt8 := s.toUTF8.data.toList
def w0 : List (List UInt8) := ["empty", "error", "length", "utf8bytelength", "not", "keys", "type", "tostring", "tonumber", "tojson", "fromjson", "ascii_downcase", "ascii_upcase", "explode", "implode", "reverse", "sort", "min", "max", "unique", "add", "flatten", "transpose", "abs", "toarray"].map by_
def w1 : List (List UInt8) := ["error", "path", "has", "contains", "startswith", "endswith", "ltrimstr", "rtrimstr", "split", "join", "indices", "_sort_by", "_group_by", "_unique_by", "_min_by", "_max_by", "getpath", "delpaths"].map by_
def w2 : List (List UInt8) := ["range", "setpath"].map by_
def n0 : List UInt8 := by_ " empty error length utf8bytelength not keys type tostring tonumber tojson fromjson ascii_downcase ascii_upcase explode implode reverse sort min max unique add flatten transpose abs toarray "
def n1 : List UInt8 := by_ " error path has contains startswith endswith ltrimstr rtrimstr split join indices _sort_by _group_by _unique_by _min_by _max_by getpath delpaths "
def n2 : List UInt8 := by_ " range setpath "
theorem n0_eq : n0 = spaced w0 := by decide +kernel
theorem n1_eq : n1 = spaced w1 := by decide +kernel
theorem n2_eq : n2 = spaced w2 := by decide +kernel
theorem w0_ok : ∀ w ∈ w0, (32 : UInt8) ∉ w := by decide +kernel
theorem w1_ok : ∀ w ∈ w1, (32 : UInt8) ∉ w := by decide +kernel
theorem w2_ok : ∀ w ∈ w2, (32 : UInt8) ∉ w := by decide +kernel
theorem w0_ne : ([] : List UInt8) ∉ w0 := by decide +kernel
theorem w1_ne : ([] : List UInt8) ∉ w1 := by decide +kernel
theorem w2_ne : ([] : List UInt8) ∉ w2 := by decide +kernel

theorem w0_eq : w0 = [[101, 109, 112, 116, 121], [101, 114, 114, 111, 114], [108, 101, 110, 103, 116, 104], [117, 116, 102, 56, 98, 121, 116, 101, 108, 101, 110, 103, 116, 104], [110, 111, 116], [107, 101, 121, 115], [116, 121, 112, 101], [116, 111, 115, 116, 114, 105, 110, 103], [116, 111, 110, 117, 109, 98, 101, 114], [116, 111, 106, 115, 111, 110], [102, 114, 111, 109, 106, 115, 111, 110], [97, 115, 99, 105, 105, 95, 100, 111, 119, 110, 99, 97, 115, 101], [97, 115, 99, 105, 105, 95, 117, 112, 99, 97, 115, 101], [101, 120, 112, 108, 111, 100, 101], [105, 109, 112, 108, 111, 100, 101], [114, 101, 118, 101, 114, 115, 101], [115, 111, 114, 116], [109, 105, 110], [109, 97, 120], [117, 110, 105, 113, 117, 101], [97, 100, 100], [102, 108, 97, 116, 116, 101, 110], [116, 114, 97, 110, 115, 112, 111, 115, 101], [97, 98, 115], [116, 111, 97, 114, 114, 97, 121]] := by decide +kernel
theorem w1_eq : w1 = [[101, 114, 114, 111, 114], [112, 97, 116, 104], [104, 97, 115], [99, 111, 110, 116, 97, 105, 110, 115], [115, 116, 97, 114, 116, 115, 119, 105, 116, 104], [101, 110, 100, 115, 119, 105, 116, 104], [108, 116, 114, 105, 109, 115, 116, 114], [114, 116, 114, 105, 109, 115, 116, 114], [115, 112, 108, 105, 116], [106, 111, 105, 110], [105, 110, 100, 105, 99, 101, 115], [95, 115, 111, 114, 116, 95, 98, 121], [95, 103, 114, 111, 117, 112, 95, 98, 121], [95, 117, 110, 105, 113, 117, 101, 95, 98, 121], [95, 109, 105, 110, 95, 98, 121], [95, 109, 97, 120, 95, 98, 121], [103, 101, 116, 112, 97, 116, 104], [100, 101, 108, 112, 97, 116, 104, 115]] := by decide +kernel
theorem w2_eq : w2 = [[114, 97, 110, 103, 101], [115, 101, 116, 112, 97, 116, 104]] := by decide +kernel
def plainB (l : List UInt8) : Bool := !l.isEmpty && !decide (0 ≤ Go.Lib.indexByte l 32)
def scopeB (l : List UInt8) (k : Int) : Bool :=
  plainB l && (if (k == 0) = true then Go.Lib.contains n0 (around l) else if (k == 1) = true then Go.Lib.contains n1 (around l) else if (k == 2) = true then Go.Lib.contains n2 (around l) else false)
def ref19B (l : List UInt8) (k : Int) : Bool :=
  if (k == 0) = true then w0.contains l else if (k == 1) = true then w1.contains l else if (k == 2) = true then w2.contains l else false
theorem one {l : List UInt8} {n : List UInt8} {ws : List (List UInt8)} (hn : n = spaced ws) (hok : ∀ w ∈ ws, (32 : UInt8) ∉ w) (hne : ([] : List UInt8) ∉ ws) : (plainB l && Go.Lib.contains n (around l)) = ws.contains l := by
  subst hn
  rw [Bool.eq_iff_iff]
  by_cases h0 : l = []
  · subst h0
    have : plainB [] = false := rfl
    simp [this, hne]
  by_cases h32 : (32 : UInt8) ∈ l
  · have hp : plainB l = false := by
      unfold plainB
      rw [decide_eq_true ((byte_iff l 32).2 h32)]
      simp
    simp only [hp, Bool.false_and, List.contains_iff_mem]
    exact ⟨fun h => (by cases h), fun h => absurd h32 (hok l h)⟩
  · have hp : plainB l = true := by
      unfold plainB
      rw [decide_eq_false fun h => h32 ((byte_iff l 32).1 h)]
      cases l with
      | nil => exact absurd rfl h0
      | cons => rfl
    rw [hp, Bool.true_and, contains_iff, words h32 ws hok, List.contains_iff_mem]
theorem scope_ref (l : List UInt8) (k : Int) : scopeB l k = ref19B l k := by
  unfold scopeB ref19B
  split
  · exact one n0_eq w0_ok w0_ne
  · split
    · exact one n1_eq w1_ok w1_ne
    · split
      · exact one n2_eq w2_ok w2_ne
      · simp

/-! which parts have a test of their own fault -/
def eE : List UInt8 := [101, 109, 112, 116, 121]
def eR : List UInt8 := [101, 114, 114, 111, 114]
def eP : List UInt8 := [112, 97, 116, 104]
def opIn (op : Int) : Bool := op == 5 || op == 7 || op == 8 || op == 9 || op == 11 || op == 14 || op == 15 || op == 16 || op == 17 || op == 18
def lowB (op : Int) (l : List UInt8) (k : Int) : Bool :=
  if opIn op = true then true else if (op == 33) = true then (if (l == eE || l == eR) = true then false else if (l == eP) = true then (k != 1 && scopeB l k) else scopeB l k) else false
def opIn' (op : Int) : Bool := op == 5 || (decide (7 ≤ op) && decide (op ≤ 9)) || op == 11 || (decide (14 ≤ op) && decide (op ≤ 18))
def refB (op : Int) (l : List UInt8) (k : Int) : Bool :=
  if opIn' op = true then true else if (op != 33 || (l == eE && k == 0) || (l == eR && decide (k < 2)) || (l == eP && k == 1)) = true then false else ref19B l k
theorem opIn_eq (op : Int) : opIn op = opIn' op := by
  unfold opIn opIn'
  rw [Bool.eq_iff_iff]
  simp only [Bool.or_eq_true, Bool.and_eq_true, beq_iff_eq, decide_eq_true_iff]
  omega
theorem e1 : w1.contains eE = false := by decide +kernel
theorem e2 : w2.contains eE = false := by decide +kernel
theorem r2 : w2.contains eR = false := by decide +kernel
theorem low_ref (op : Int) (l : List UInt8) (k : Int) : lowB op l k = refB op l k := by
  unfold lowB refB
  rw [opIn_eq, scope_ref]
  by_cases h0 : opIn' op = true
  · rw [if_pos h0, if_pos h0]
  rw [if_neg h0, if_neg h0]
  by_cases h33 : ¬ op = 33
  · simp [h33]
  have h33 : op = 33 := by simpa using h33
  subst h33
  by_cases hE : l = eE
  · subst hE
    by_cases hk : k = 0
    · subst hk; rfl
    · have : ref19B eE k = false := by
        unfold ref19B
        have hk0 : (k == 0) = false := by simpa using hk
        rw [hk0, e1, e2]
        simp
      simp [this]
  by_cases hR : l = eR
  · subst hR
    have hne : eR ≠ eE := by decide
    by_cases hk : k < 2
    · simp [hk]
    · have : ref19B eR k = false := by
        unfold ref19B
        have h1 : (k == 0) = false := by rw [beq_eq_false_iff_ne]; omega
        have h2 : (k == 1) = false := by rw [beq_eq_false_iff_ne]; omega
        rw [h1, h2, r2]
        simp
      simp [this]
  by_cases hP : l = eP
  · subst hP
    have n1 : eP ≠ eE := by decide
    have n2 : eP ≠ eR := by decide
    by_cases hk : k = 1
    · subst hk; simp [hE, hR]
    · simp [hE, hR, hk]
  · simp [hE, hR, hP]
theorem ref19_two {l : List UInt8} {k : Int} (h0 : (k == 0) = false) (h1 : (k == 1) = false) (h2 : (k == 2) = true) : (l == [114, 97, 110, 103, 101] || l == [115, 101, 116, 112, 97, 116, 104]) = ref19B l k := by
  unfold ref19B
  rw [h0, h1, h2, w2_eq]
  simp [List.contains, List.elem]
  cases (l == [114, 97, 110, 103, 101]) <;> cases (l == [115, 101, 116, 112, 97, 116, 104]) <;> rfl
theorem refB_far {op k : Int} {l : List UInt8} (h5 : ¬ op = 5) (h11 : ¬ op = 11) (h33 : ¬ op = 33) (ha : ¬ (7 ≤ op ∧ op ≤ 9)) (hb : ¬ (14 ≤ op ∧ op ≤ 18)) : false = refB op l k := by
  have h : opIn' op = false := by
    rw [Bool.eq_false_iff]
    unfold opIn'
    simp only [ne_eq, Bool.or_eq_true, Bool.and_eq_true, beq_iff_eq, decide_eq_true_iff]
    omega
  unfold refB
  simp [h, h33]
theorem scopeB_no {l : List UInt8} {k : Int} (hp : (!plainB l) = true) : false = scopeB l k := by
  unfold scopeB
  have : plainB l = false := by simpa using hp
  rw [this]; rfl
theorem scopeB_0 {l n : List UInt8} {k : Int} (hp : (!plainB l) = false) (h0 : (k == 0) = true) (hn : n = n0) : Go.Lib.contains n (around l) = scopeB l k := by
  unfold scopeB
  have : plainB l = true := by simpa using hp
  rw [this, if_pos h0, hn, Bool.true_and]
theorem scopeB_1 {l n : List UInt8} {k : Int} (hp : (!plainB l) = false) (h0 : (k == 0) = false) (h1 : (k == 1) = true) (hn : n = n1) : Go.Lib.contains n (around l) = scopeB l k := by
  unfold scopeB
  have : plainB l = true := by simpa using hp
  rw [this, if_neg (by rw [h0]; simp), if_pos h1, hn, Bool.true_and]
theorem scopeB_2 {l n : List UInt8} {k : Int} (hp : (!plainB l) = false) (h0 : (k == 0) = false) (h1 : (k == 1) = false) (h2 : (k == 2) = true) (hn : n = n2) : Go.Lib.contains n (around l) = scopeB l k := by
  unfold scopeB
  have : plainB l = true := by simpa using hp
  rw [this, if_neg (by rw [h0]; simp), if_neg (by rw [h1]; simp), if_pos h2, hn, Bool.true_and]
theorem scopeB_3 {l : List UInt8} {k : Int} (h0 : (k == 0) = false) (h1 : (k == 1) = false) (h2 : (k == 2) = false) : false = scopeB l k := by
  unfold scopeB
  rw [if_neg (by rw [h0]; simp), if_neg (by rw [h1]; simp), if_neg (by rw [h2]; simp)]
  simp
end Go.Proofs.LowM
