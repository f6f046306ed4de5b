/-
  Several texts in one: BvA1, BvA2, BvA3, BvA4, BvA5, BvA6, BvA7, BvA8.
-/
import Derived.Test.YtomlmcfcjlfhjaaBvZ
/-
  Small functions: ranges, lists of integers in a range, a category's table.
-/
namespace Go.Av
set_option linter.unusedSectionVars false
set_option linter.unusedSimpArgs false
set_option linter.unusedVariables false
variable [md : Md]
open Classical
set_option linter.unusedSimpArgs false
set_option linter.unusedVariables false
variable {P : Program} {ν : Nat → FuncId}

def V_inRange : Vc :=
  .op true (.p (.bin .geq) [.t 0, .t 1]) <|
  .br 3
   (.op true (.p (.bin .leq) [.t 0, .t 2]) <|
   .ret [(.t 4, none)])
   (.ret [(.c (bool false), none)])
theorem inRange_ok (h : Has P ν 32 3 V_inRange) (a b c : Int) : Fn P ν 32 [int a, int b, int c] (bool (decide (b ≤ a ∧ a ≤ c))) := by
  intro H nx
  refine h _ _ _ _ rfl fun hwf => ?_
  unfold V_inRange
  simp only [SS, Nat.reduceEqDiff, Nat.reduceAdd, iput, puts]
  refine ⟨fun h1 => ?_, fun h1 => ?_⟩
  · refine ⟨_, rfl, H, fun _ _ h => h, ?_, rfl, Nat.le_refl _⟩
    show bool (decide (a ≤ c)) = _
    have : b ≤ a := h1
    simp [this]
  · exact ⟨_, rfl, H, fun _ _ h => h, ret_false (by omega), rfl, Nat.le_refl _⟩

def V_spec_l01In : Vc :=
  .op true (.p (.bin .geq) [.t 0, .t 1]) <|
  .br 3
   (.op true (.p (.bin .leq) [.t 0, .t 2]) <|
   .ret [(.t 4, none)])
   (.ret [(.c (bool false), none)])
theorem l01In_ok (h : Has P ν 35 3 V_spec_l01In) (a b c : Int) : Fn P ν 35 [int a, int b, int c] (bool (decide (b ≤ a ∧ a ≤ c))) := by
  intro H nx
  refine h _ _ _ _ rfl fun hwf => ?_
  unfold V_spec_l01In
  simp only [SS, Nat.reduceEqDiff, Nat.reduceAdd, iput, puts]
  refine ⟨fun h1 => ?_, fun h1 => ?_⟩
  · refine ⟨_, rfl, H, fun _ _ h => h, ?_, rfl, Nat.le_refl _⟩
    show bool (decide (a ≤ c)) = _
    have : b ≤ a := h1
    simp [this]
  · exact ⟨_, rfl, H, fun _ _ h => h, ret_false (by omega), rfl, Nat.le_refl _⟩

/-- All numbers of the list lie from 0 on below n. -/
def Wn (l : List Int) (n : Int) : Prop := ∀ k, k < l.length → 0 ≤ l.getD k 0 ∧ l.getD k 0 < n

def V_within : Vc :=
  .op true (.p .len [.t 0]) <|
  .loop 0 [.c (int 0)] <|
  .op true (.p (.bin .lss) [.t 3, .t 2]) <|
  .br 4
   (.op true (.p (.iad 1) [.t 0, .t 3]) <|
   .op true (.p (.ld none) [.t 5]) <|
   .op true (.p (.bin .sub) [.t 1, .c (int 1)]) <|
   .op true (.call (.f 32) [.t 6, .c (int 0), .t 7]) <|
   .op true (.p .bnot [.t 8]) <|
   .br 9
    (.ret [(.c (bool false), none)])
    (.op true (.p (.bin .add) [.t 3, .c (int 1)]) <|
    .again 0 [.t 10]))
   (.ret [(.c (bool true), none)])
theorem within_ok (hin : Has P ν 32 3 V_inRange) (h : Has P ν 25 2 V_within) (l : List Int) (n : Int) (h1 : -9223372036854775807 ≤ n) (h2 : n ≤ 9223372036854775807) (hl : l.length < 9223372036854775807) : Fn P ν 25 [islice l, int n] (bool (decide (Wn l n))) := by
  intro H nx
  refine h _ _ _ _ rfl fun hwf => ?_
  unfold V_within
  simp only [SS, Nat.reduceEqDiff, Nat.reduceAdd, iput, puts]
  refine den_for l.length (fun i => ∀ k, k < i → 0 ≤ l.getD k 0 ∧ l.getD k 0 < n) (fun k hk => by omega) fun i hi hp => ?_
  by_cases hlt : i < l.length
  · simp only [SS, Nat.reduceEqDiff, Nat.reduceAdd, iput, puts, hlt, not_true_eq_false]
    refine den_call (fc := (32, [])) rfl (by first | (simp only [SS, Nat.reduceEqDiff, Nat.reduceAdd, iput, puts, FF]; done) | (simp only [SS, Nat.reduceEqDiff, Nat.reduceAdd, iput, puts, FF]; rfl)) ((inRange_ok hin (l.getD i 0) 0 (IntKind.i64.wrap (n - 1))).fzb) ?_
    simp only [SS, Nat.reduceEqDiff, Nat.reduceAdd, iput, puts, wrap_succ (Nat.lt_trans hlt hl), wrap_id (show -9223372036854775808 ≤ n - 1 by omega) (show n - 1 ≤ 9223372036854775807 by omega)]
    refine ⟨fun h3 => ?_, fun h3 => up rfl hlt fun k hk => ?_⟩
    · exact ⟨_, rfl, H, fun _ _ h => h, ret_false (fun hw => h3 (by have := hw i hlt; omega)), rfl, Nat.le_refl _⟩
    · by_cases e : k = i
      · subst e; omega
      · exact hp k (by omega)
  · simp only [SS, Nat.reduceEqDiff, Nat.reduceAdd, iput, puts, hlt, not_false_eq_true]
    exact ⟨_, rfl, H, fun _ _ h => h, ret_true (fun k hk => hp k (by omega)), rfl, Nat.le_refl _⟩

def V_spec_l01Map : Vc :=
  .loop 0 [.c (int 0)] <|
  .op true (.p .len [.t 1]) <|
  .op true (.p (.bin .lss) [.t 2, .t 3]) <|
  .br 4
   (.op true (.p (.iad 1) [.t 1, .t 2]) <|
   .op true (.p (.ld none) [.t 5]) <|
   .op true (.p (.bin .lss) [.t 6, .c (int 0)]) <|
   .br 7
    (.ret [(.c (bool false), none)])
    (.op true (.p (.iad 1) [.t 1, .t 2]) <|
    .op true (.p (.ld none) [.t 8]) <|
    .op true (.p (.bin .geq) [.t 9, .t 0]) <|
    .br 10
     (.ret [(.c (bool false), none)])
     (.op true (.p (.bin .add) [.t 2, .c (int 1)]) <|
     .again 0 [.t 11])))
   (.ret [(.c (bool true), none)])
theorem l01Map_ok (h : Has P ν 37 2 V_spec_l01Map) (l : List Int) (n : Int) (hl : l.length < 9223372036854775807) : Fn P ν 37 [int n, islice l] (bool (decide (Wn l n))) := by
  intro H nx
  refine h _ _ _ _ rfl fun hwf => ?_
  unfold V_spec_l01Map
  refine den_for l.length (fun i => ∀ k, k < i → 0 ≤ l.getD k 0 ∧ l.getD k 0 < n) (fun k hk => by omega) fun i hi hp => ?_
  by_cases hlt : i < l.length
  · simp only [SS, Nat.reduceEqDiff, Nat.reduceAdd, iput, puts, hlt, not_true_eq_false, wrap_succ (Nat.lt_trans hlt hl)]
    have bad : ¬ (0 ≤ l.getD i 0 ∧ l.getD i 0 < n) → ¬ Wn l n := fun h3 hw => h3 (hw i hlt)
    refine ⟨fun h3 => ?_, fun h3 => ⟨fun h4 => ?_, fun h4 => up rfl hlt fun k hk => ?_⟩⟩
    · exact ⟨_, rfl, H, fun _ _ h => h, ret_false (bad (by omega)), rfl, Nat.le_refl _⟩
    · exact ⟨_, rfl, H, fun _ _ h => h, ret_false (bad (by omega)), rfl, Nat.le_refl _⟩
    · by_cases e : k = i
      · subst e; omega
      · exact hp k (by omega)
  · simp only [SS, Nat.reduceEqDiff, Nat.reduceAdd, iput, puts, hlt, not_false_eq_true]
    exact ⟨_, rfl, H, fun _ _ h => h, ret_true (fun k hk => hp k (by omega)), rfl, Nat.le_refl _⟩

def V_spec_l02Ends : Vc :=
  .op true (.p .len [.t 0]) <|
  .op true (.p (.bin .eql) [.t 3, .t 1]) <|
  .br 4
   (.op true (.call (.f 37) [.t 2, .t 0]) <|
   .ret [(.t 5, none)])
   (.ret [(.c (bool false), none)])
theorem l02Ends_ok (hm : Has P ν 37 2 V_spec_l01Map) (h : Has P ν 36 3 V_spec_l02Ends) (l : List Int) (m n : Int) (hl : l.length < 9223372036854775807) : Fn P ν 36 [islice l, int m, int n] (bool (decide ((l.length : Int) = m ∧ Wn l n))) := by
  intro H nx
  refine h _ _ _ _ rfl fun hwf => ?_
  unfold V_spec_l02Ends
  simp only [SS, Nat.reduceEqDiff, Nat.reduceAdd, iput, puts]
  refine ⟨fun h1 => ?_, fun h1 => ?_⟩
  · refine den_call (fc := (37, [])) rfl (by first | (simp only [SS, Nat.reduceEqDiff, Nat.reduceAdd, iput, puts, FF]; done) | (simp only [SS, Nat.reduceEqDiff, Nat.reduceAdd, iput, puts, FF]; rfl)) ((l01Map_ok hm l n hl).fzb) ?_
    refine ⟨_, rfl, H, fun _ _ h => h, ?_, rfl, Nat.le_refl _⟩
    show bool (decide (Wn l n)) = _
    have : (l.length : Int) = m := by simpa using h1
    simp [this]
  · exact ⟨_, rfl, H, fun _ _ h => h, ret_false (fun h => h1 h.1), rfl, Nat.le_refl _⟩

structure Cat where
  o : Int
  f : List Int
  t : List Int
  i : List Int
  c : List (List Int)
def Cat.cells (c : Cat) : List AV := [int c.o, islice c.f, islice c.t, islice c.i, .sl (rows c.c) c.c.length]
theorem cat0 (c : Cat) : c.cells[0]? = some (int c.o) := rfl
theorem cat1 (c : Cat) : c.cells[1]? = some (islice c.f) := rfl
theorem cat2 (c : Cat) : c.cells[2]? = some (islice c.t) := rfl
theorem cat3 (c : Cat) : c.cells[3]? = some (islice c.i) := rfl
theorem cat4 (c : Cat) : c.cells[4]? = some (.sl (rows c.c) c.c.length) := rfl
theorem cat_still (c : Cat) : c.cells.all AV.still = true := rfl
theorem cat_one (c : Cat) : c.cells.all AV.one = true := rfl
theorem p_boxc {H : Hp} (c : Cat) : pvf H .box [.agg c.cells] = some (.ptr c.cells 0) := p_box (cat_still c) (cat_one c)
theorem p_ldc {H : Hp} (c : Cat) : pvf H (.ld (some 5)) [.ptr c.cells 0] = some (.agg c.cells) := p_lda rfl
theorem frzL_cat {H : Hp} {l : List AV} (c : Cat) : frzL H (.agg c.cells :: l) = (frzL H l).map (.agg c.cells :: ·) := frzL_agg (cat_still c)
/-- The composite of two arrows in the table. -/
def Cat.K (c : Cat) (a b : Int) : Int := (c.c.getD a.toNat []).getD b.toNat 0
def Cat.F (c : Cat) (a : Int) : Int := c.f.getD a.toNat 0
def Cat.T (c : Cat) (a : Int) : Int := c.t.getD a.toNat 0
def Cat.I (c : Cat) (a : Int) : Int := c.i.getD a.toNat 0

def V_Category_arrows : Vc :=
  .op true (.p .nck [.t 0]) <|
  .op true (.p (.fad 1) [.t 1]) <|
  .op true (.p (.ld none) [.t 2]) <|
  .op true (.p .len [.t 3]) <|
  .ret [(.t 4, none)]
theorem arrows_ok (h : Has P ν 26 1 V_Category_arrows) (c : Cat) : Fn P ν 26 [.ptr c.cells 0] (int c.f.length) := by
  intro H nx
  refine h _ _ _ _ rfl fun hwf => ?_
  unfold V_Category_arrows
  simp only [SS, Nat.reduceEqDiff, Nat.reduceAdd, iput, puts, cat1]
  exact ⟨_, rfl, H, fun _ _ h => h, rfl, rfl, Nat.le_refl _⟩

def V_Category_then : Vc :=
  .op true (.p .nck [.t 0]) <|
  .op true (.p (.fad 4) [.t 3]) <|
  .op true (.p (.ld none) [.t 4]) <|
  .op true (.p (.iad 1) [.t 5, .t 1]) <|
  .op true (.p (.ld none) [.t 6]) <|
  .op true (.p (.iad 1) [.t 7, .t 2]) <|
  .op true (.p (.ld none) [.t 8]) <|
  .ret [(.t 9, none)]
theorem then_ok (h : Has P ν 34 3 V_Category_then) (c : Cat) (a b : Int) (h1 : 0 ≤ a) (h2 : a < c.c.length) (h3 : 0 ≤ b) (h4 : b < (c.c.getD a.toNat []).length) : Fn P ν 34 [.ptr c.cells 0, int a, int b] (int (c.K a b)) := by
  intro H nx
  refine h _ _ _ _ rfl fun hwf => ?_
  unfold V_Category_then
  have h5 : a.toNat < c.c.length := by omega
  have h6 : b.toNat < (c.c.getD a.toNat []).length := by omega
  simp only [SS, Nat.reduceEqDiff, Nat.reduceAdd, iput, puts, cat4, h1, h2, h3, h4, h5, h6]
  exact ⟨_, rfl, H, fun _ _ h => h, rfl, rfl, Nat.le_refl _⟩

theorem sub_hput {H : Hp} {nx o : Nat} {c : Option (List AV)} (hw : Wf H nx) (ho : nx ≤ o) : Sub H (hput H o c) := fun k d hk => by
  have : k ≠ o := fun e => by subst e; rw [hw k ho] at hk; cases hk
  simp only [hput]; rw [if_neg this]; exact hk

def V_Category_ends : Vc :=
  .op true (.new [int 0, int 0]) <|
  .op true (.p .nck [.t 0]) <|
  .op true (.p (.fad 1) [.t 3]) <|
  .op true (.p (.ld none) [.t 4]) <|
  .op true (.p (.iad 1) [.t 5, .t 1]) <|
  .op true (.p (.ld none) [.t 6]) <|
  .op true (.p .nck [.t 0]) <|
  .op true (.p (.fad 2) [.t 8]) <|
  .op true (.p (.ld none) [.t 9]) <|
  .op true (.p (.iad 1) [.t 10, .t 1]) <|
  .op true (.p (.ld none) [.t 11]) <|
  .op true (.p (.mka [int 0, int 0] [(0, 1), (1, 1)]) [.t 7, .t 12]) <|
  .op true (.st 2 (.t 2) (.t 13)) <|
  .ret [(.t 2, some (some 2))]
theorem ends_ok (h : Has P ν 38 2 V_Category_ends) (c : Cat) (a : Int) (h1 : 0 ≤ a) (h2 : a < c.f.length) (h3 : a < c.t.length) : Fn P ν 38 [.ptr c.cells 0, int a] (.agg [int (c.F a), int (c.T a)]) := by
  intro H nx
  refine h _ _ _ _ rfl fun hwf => ?_
  unfold V_Category_ends
  refine den_new ?_
  have h5 : a.toNat < c.f.length := by omega
  have h6 : a.toNat < c.t.length := by omega
  simp only [SS, Nat.reduceEqDiff, Nat.reduceAdd, iput, puts, cat1, cat2, h1, h2, h3, h5, h6]
  refine den_st (h := hput H nx (some [int (c.F a), int (c.T a)])) ?_ ?_
  · simp only [SS, Nat.reduceEqDiff, Nat.reduceAdd, iput, puts, stTo, hput_hput, AV.cells, Cat.F, Cat.T]
    simp [hput, AV.one, int, Value.oneCell']
  · refine ⟨.agg [int (c.F a), int (c.T a)], ?_, H, sub_hput hwf (Nat.le_refl _), rfl, rfl, Nat.le_succ _⟩
    simp [retOf, rets, SS, Nat.reduceEqDiff, Nat.reduceAdd, iput, puts, pLd, hput]
end Go.Av

/-
  When a table is a category: the program's test and the reference's.
-/
namespace Go.Av
set_option linter.unusedSectionVars false
set_option linter.unusedSimpArgs false
set_option linter.unusedVariables false
variable [md : Md]
open Classical
set_option linter.unusedSimpArgs false
set_option linter.unusedVariables false
variable {P : Program} {ν : Nat → FuncId}

/-- The entry of the table at two arrows is as it must be. -/
def Cell (c : Cat) (a b : Nat) : Prop :=
  if c.t.getD a 0 = c.f.getD b 0 then 0 ≤ c.K a b ∧ c.K a b < c.f.length ∧ c.F (c.K a b) = c.f.getD a 0 ∧ c.T (c.K a b) = c.t.getD b 0 else c.K a b = -1
structure Shape (c : Cat) : Prop where
  o0 : 0 ≤ c.o
  o8 : c.o ≤ 8
  n40 : c.f.length ≤ 40
  tl : c.t.length = c.f.length
  fw : Wn c.f c.o
  tw : Wn c.t c.o
  il : (c.i.length : Int) = c.o
  iw : Wn c.i c.f.length
  cl : c.c.length = c.f.length
  id : ∀ x : Nat, x < c.i.length → c.F (c.i.getD x 0) = x ∧ c.T (c.i.getD x 0) = x
  row : ∀ a : Nat, a < c.f.length → (c.c.getD a []).length = c.f.length ∧ ∀ b : Nat, b < c.f.length → Cell c a b

theorem K_nat (c : Cat) (a b : Nat) : c.K a b = (c.c.getD a []).getD b 0 := rfl
theorem F_nat (c : Cat) (a : Nat) : c.F a = c.f.getD a 0 := rfl
theorem T_nat (c : Cat) (a : Nat) : c.T a = c.t.getD a 0 := rfl

theorem Fn.fz2 {P : Program} {ν : Nat → FuncId} {id : Nat} {args : List AV} {a b : Int} (h : Fn P ν id args (.agg [int a, int b])) : Fz (OkM P ν) id args (.agg [int a, int b]) := h.fz fun _ => rfl

def V_Category_isShape : Vc :=
  .op true (.call (.f 26) [.t 0]) <|
  .op true (.p .nck [.t 0]) <|
  .op true (.p (.fad 0) [.t 2]) <|
  .op true (.p (.ld none) [.t 3]) <|
  .op true (.call (.f 32) [.t 4, .c (int 0), .c (int 8)]) <|
  .op true (.p .bnot [.t 5]) <|
  .br 6
   (.ret [(.c (bool false), none)])
   (.op true (.p (.bin .gtr) [.t 1, .c (int 40)]) <|
   .br 7
    (.ret [(.c (bool false), none)])
    (.op true (.p .nck [.t 0]) <|
    .op true (.p (.fad 2) [.t 8]) <|
    .op true (.p (.ld none) [.t 9]) <|
    .op true (.p .len [.t 10]) <|
    .op true (.p (.bin .neq) [.t 11, .t 1]) <|
    .br 12
     (.ret [(.c (bool false), none)])
     (.op true (.p .nck [.t 0]) <|
     .op true (.p (.fad 1) [.t 13]) <|
     .op true (.p (.ld none) [.t 14]) <|
     .op true (.p .nck [.t 0]) <|
     .op true (.p (.fad 0) [.t 16]) <|
     .op true (.p (.ld none) [.t 17]) <|
     .op true (.call (.f 25) [.t 15, .t 18]) <|
     .op true (.p .bnot [.t 19]) <|
     .br 20
      (.ret [(.c (bool false), none)])
      (.op true (.p .nck [.t 0]) <|
      .op true (.p (.fad 2) [.t 21]) <|
      .op true (.p (.ld none) [.t 22]) <|
      .op true (.p .nck [.t 0]) <|
      .op true (.p (.fad 0) [.t 24]) <|
      .op true (.p (.ld none) [.t 25]) <|
      .op true (.call (.f 25) [.t 23, .t 26]) <|
      .op true (.p .bnot [.t 27]) <|
      .br 28
       (.ret [(.c (bool false), none)])
       (.op true (.p .nck [.t 0]) <|
       .op true (.p (.fad 3) [.t 29]) <|
       .op true (.p (.ld none) [.t 30]) <|
       .op true (.p .len [.t 31]) <|
       .op true (.p .nck [.t 0]) <|
       .op true (.p (.fad 0) [.t 33]) <|
       .op true (.p (.ld none) [.t 34]) <|
       .op true (.p (.bin .neq) [.t 32, .t 35]) <|
       .br 36
        (.ret [(.c (bool false), none)])
        (.op true (.p .nck [.t 0]) <|
        .op true (.p (.fad 3) [.t 37]) <|
        .op true (.p (.ld none) [.t 38]) <|
        .op true (.call (.f 25) [.t 39, .t 1]) <|
        .op true (.p .bnot [.t 40]) <|
        .br 41
         (.ret [(.c (bool false), none)])
         (.op true (.p .nck [.t 0]) <|
         .op true (.p (.fad 4) [.t 42]) <|
         .op true (.p (.ld none) [.t 43]) <|
         .op true (.p .len [.t 44]) <|
         .op true (.p (.bin .neq) [.t 45, .t 1]) <|
         .br 46
          (.ret [(.c (bool false), none)])
          (.op true (.p .nck [.t 0]) <|
          .op true (.p (.fad 3) [.t 47]) <|
          .op true (.p (.ld none) [.t 48]) <|
          .op true (.p .len [.t 49]) <|
          .loop 0 [.c (int 0)] <|
          .op true (.p (.bin .lss) [.t 51, .t 50]) <|
          .br 52
           (.op true (.p (.iad 1) [.t 49, .t 51]) <|
           .op true (.p (.ld none) [.t 53]) <|
           .op true (.call (.f 38) [.t 0, .t 54]) <|
           .op true (.p (.mka [int 0, int 0] [(0, 1), (1, 1)]) [.t 51, .t 51]) <|
           .op true (.p (.eqs true 2) [.t 55, .t 56]) <|
           .br 57
            (.ret [(.c (bool false), none)])
            (.op true (.p (.bin .add) [.t 51, .c (int 1)]) <|
            .again 0 [.t 58]))
           (.op true (.p .nck [.t 0]) <|
           .op true (.p (.fad 4) [.t 53]) <|
           .op true (.p (.ld none) [.t 54]) <|
           .op true (.p .len [.t 55]) <|
           .loop 0 [.c (int 0)] <|
           .op true (.p (.bin .lss) [.t 57, .t 56]) <|
           .br 58
            (.op true (.p (.iad 1) [.t 55, .t 57]) <|
            .op true (.p (.ld none) [.t 59]) <|
            .op true (.p .len [.t 60]) <|
            .op true (.p (.bin .neq) [.t 61, .t 1]) <|
            .br 62
             (.ret [(.c (bool false), none)])
             (.op true (.p .len [.t 60]) <|
             .loop 1 [.c (int 0)] <|
             .op true (.p (.bin .lss) [.t 64, .t 63]) <|
             .br 65
              (.op true (.p (.iad 1) [.t 60, .t 64]) <|
              .op true (.p (.ld none) [.t 66]) <|
              .op true (.p .nck [.t 0]) <|
              .op true (.p (.fad 2) [.t 68]) <|
              .op true (.p (.ld none) [.t 69]) <|
              .op true (.p (.iad 1) [.t 70, .t 57]) <|
              .op true (.p (.ld none) [.t 71]) <|
              .op true (.p .nck [.t 0]) <|
              .op true (.p (.fad 1) [.t 73]) <|
              .op true (.p (.ld none) [.t 74]) <|
              .op true (.p (.iad 1) [.t 75, .t 64]) <|
              .op true (.p (.ld none) [.t 76]) <|
              .op true (.p (.bin .neq) [.t 72, .t 77]) <|
              .br 78
               (.op true (.p (.bin .neq) [.t 67, .c (int (-1))]) <|
               .br 79
                (.ret [(.c (bool false), none)])
                (.op true (.p (.bin .add) [.t 64, .c (int 1)]) <|
                .again 1 [.t 80]))
               (.op true (.p (.bin .sub) [.t 1, .c (int 1)]) <|
               .op true (.call (.f 32) [.t 67, .c (int 0), .t 79]) <|
               .op true (.p .bnot [.t 80]) <|
               .br 81
                (.ret [(.c (bool false), none)])
                (.op true (.call (.f 38) [.t 0, .t 67]) <|
                .op true (.p .nck [.t 0]) <|
                .op true (.p (.fad 1) [.t 83]) <|
                .op true (.p (.ld none) [.t 84]) <|
                .op true (.p (.iad 1) [.t 85, .t 57]) <|
                .op true (.p (.ld none) [.t 86]) <|
                .op true (.p .nck [.t 0]) <|
                .op true (.p (.fad 2) [.t 88]) <|
                .op true (.p (.ld none) [.t 89]) <|
                .op true (.p (.iad 1) [.t 90, .t 64]) <|
                .op true (.p (.ld none) [.t 91]) <|
                .op true (.p (.mka [int 0, int 0] [(0, 1), (1, 1)]) [.t 87, .t 92]) <|
                .op true (.p (.eqs true 2) [.t 82, .t 93]) <|
                .br 94
                 (.ret [(.c (bool false), none)])
                 (.op true (.p (.bin .add) [.t 64, .c (int 1)]) <|
                 .again 1 [.t 95]))))
              (.op true (.p (.bin .add) [.t 57, .c (int 1)]) <|
              .again 0 [.t 66])))
            (.ret [(.c (bool true), none)]))))))))))
set_option maxHeartbeats 1000000 in
theorem isShape_ok (ha : Has P ν 26 1 V_Category_arrows) (hi : Has P ν 32 3 V_inRange) (hw : Has P ν 25 2 V_within) (he : Has P ν 38 2 V_Category_ends) (h : Has P ν 30 1 V_Category_isShape) (c : Cat) (b1 : c.f.length ≤ 1048576) (b2 : c.t.length ≤ 1048576) (b3 : c.i.length ≤ 1048576) (b4 : c.c.length ≤ 1048576) :
    Fn P ν 30 [.ptr c.cells 0] (bool (decide (Shape c))) := by
  intro H nx
  refine h _ _ _ _ rfl fun hwf => ?_
  unfold V_Category_isShape
  refine den_call (fc := (26, [])) rfl (by first | (simp only [SS, Nat.reduceEqDiff, Nat.reduceAdd, iput, puts, FF, frzL_cat]; done) | (simp only [SS, Nat.reduceEqDiff, Nat.reduceAdd, iput, puts, FF, frzL_cat]; rfl)) ((arrows_ok ha c).fzi) ?_
  simp only [SS, Nat.reduceEqDiff, Nat.reduceAdd, iput, puts, cat0]
  refine den_call (fc := (32, [])) rfl (by first | (simp only [SS, Nat.reduceEqDiff, Nat.reduceAdd, iput, puts, FF, frzL_cat]; done) | (simp only [SS, Nat.reduceEqDiff, Nat.reduceAdd, iput, puts, FF, frzL_cat]; rfl)) ((inRange_ok hi c.o 0 8).fzb) ?_
  simp only [SS, Nat.reduceEqDiff, Nat.reduceAdd, iput, puts, cat0, cat1, cat2, cat3, cat4]
  refine ⟨fun h1 => ?_, fun h1 => ⟨fun h2 => ?_, fun h2 => ⟨fun h3 => ?_, fun h3 => ?_⟩⟩⟩
  · exact ⟨_, rfl, H, fun _ _ h => h, ret_false (fun s => h1 ⟨s.o0, s.o8⟩), rfl, Nat.le_refl _⟩
  · exact ⟨_, rfl, H, fun _ _ h => h, ret_false (fun s => by have := s.n40; omega), rfl, Nat.le_refl _⟩
  · exact ⟨_, rfl, H, fun _ _ h => h, ret_false (fun s => by have := s.tl; omega), rfl, Nat.le_refl _⟩
  have h3' : c.t.length = c.f.length := by omega
  have h2' : c.f.length ≤ 40 := by omega
  refine den_call (fc := (25, [])) rfl (by first | (simp only [SS, Nat.reduceEqDiff, Nat.reduceAdd, iput, puts, FF, frzL_cat]; done) | (simp only [SS, Nat.reduceEqDiff, Nat.reduceAdd, iput, puts, FF, frzL_cat]; rfl)) ((within_ok hi hw c.f c.o (by omega) (by omega) (by omega)).fzb) ?_
  simp only [SS, Nat.reduceEqDiff, Nat.reduceAdd, iput, puts, cat0, cat1, cat2, cat3, cat4]
  refine ⟨fun h4 => ?_, fun h4 => ?_⟩
  · exact ⟨_, rfl, H, fun _ _ h => h, ret_false (fun s => h4 s.fw), rfl, Nat.le_refl _⟩
  refine den_call (fc := (25, [])) rfl (by first | (simp only [SS, Nat.reduceEqDiff, Nat.reduceAdd, iput, puts, FF, frzL_cat]; done) | (simp only [SS, Nat.reduceEqDiff, Nat.reduceAdd, iput, puts, FF, frzL_cat]; rfl)) ((within_ok hi hw c.t c.o (by omega) (by omega) (by omega)).fzb) ?_
  simp only [SS, Nat.reduceEqDiff, Nat.reduceAdd, iput, puts, cat0, cat1, cat2, cat3, cat4]
  refine ⟨fun h5 => ?_, fun h5 => ⟨fun h6 => ?_, fun h6 => ?_⟩⟩
  · exact ⟨_, rfl, H, fun _ _ h => h, ret_false (fun s => h5 s.tw), rfl, Nat.le_refl _⟩
  · exact ⟨_, rfl, H, fun _ _ h => h, ret_false (fun s => h6 s.il), rfl, Nat.le_refl _⟩
  refine den_call (fc := (25, [])) rfl (by first | (simp only [SS, Nat.reduceEqDiff, Nat.reduceAdd, iput, puts, FF, frzL_cat]; done) | (simp only [SS, Nat.reduceEqDiff, Nat.reduceAdd, iput, puts, FF, frzL_cat]; rfl)) ((within_ok hi hw c.i c.f.length (by omega) (by omega) (by omega)).fzb) ?_
  simp only [SS, Nat.reduceEqDiff, Nat.reduceAdd, iput, puts, cat0, cat1, cat2, cat3, cat4]
  refine ⟨fun h7 => ?_, fun h7 => ⟨fun h8 => ?_, fun h8 => ?_⟩⟩
  · exact ⟨_, rfl, H, fun _ _ h => h, ret_false (fun s => h7 s.iw), rfl, Nat.le_refl _⟩
  · exact ⟨_, rfl, H, fun _ _ h => h, ret_false (fun s => h8 (by have := s.cl; omega)), rfl, Nat.le_refl _⟩
  have h8' : c.c.length = c.f.length := by omega
  refine den_for c.i.length (fun i => ∀ x : Nat, x < i → c.F (c.i.getD x 0) = x ∧ c.T (c.i.getD x 0) = x) (fun x hx => by omega) fun i hi' hp => ?_
  by_cases hlt : i < c.i.length
  · simp only [SS, Nat.reduceEqDiff, Nat.reduceAdd, iput, puts, hlt, not_true_eq_false]
    obtain ⟨g1, g2⟩ := h7 i hlt
    refine den_call (fc := (38, [])) rfl (by first | (simp only [SS, Nat.reduceEqDiff, Nat.reduceAdd, iput, puts, FF, frzL_cat]; done) | (simp only [SS, Nat.reduceEqDiff, Nat.reduceAdd, iput, puts, FF, frzL_cat]; rfl)) ((ends_ok he c (c.i.getD i 0) g1 g2 (by omega)).fz2) ?_
    simp only [SS, Nat.reduceEqDiff, Nat.reduceAdd, iput, puts, wrap_succ (show i < 9223372036854775807 by omega)]
    refine ⟨fun h9 => ?_, fun h9 => up rfl hlt fun x hx => ?_⟩
    · exact ⟨_, rfl, H, fun _ _ h => h, ret_false (fun s => by have := s.id i hlt; rw [this.1, this.2] at h9; simp at h9), rfl, Nat.le_refl _⟩
    · by_cases e : x = i
      · subst e; simpa using h9
      · exact hp x (by omega)
  simp only [SS, Nat.reduceEqDiff, Nat.reduceAdd, iput, puts, hlt, not_false_eq_true, cat4]
  refine den_for c.c.length (fun a => ∀ k : Nat, k < a → (c.c.getD k []).length = c.f.length ∧ ∀ b : Nat, b < c.f.length → Cell c k b) (fun x hx => by omega) fun a hi'' hq => ?_
  by_cases hlt2 : a < c.c.length
  · simp only [SS, Nat.reduceEqDiff, Nat.reduceAdd, iput, puts, hlt2, not_true_eq_false]
    refine ⟨fun h9 => ?_, fun h9 => ?_⟩
    · exact ⟨_, rfl, H, fun _ _ h => h, ret_false (fun s => h9 (by have := (s.row a (by omega)).1; omega)), rfl, Nat.le_refl _⟩
    have h9' : (c.c.getD a []).length = c.f.length := by omega
    refine den_for c.f.length (fun b => ∀ k : Nat, k < b → Cell c a k) (fun x hx => by omega) fun b hb hr => ?_
    have hlt4 : a < c.t.length := by omega
    have hlt6 : a < c.f.length := by omega
    by_cases hlt3 : b < c.f.length
    · have hlt5 : b < c.t.length := by omega
      simp only [SS, Nat.reduceEqDiff, Nat.reduceAdd, iput, puts, hlt3, hlt4, hlt5, hlt6, h9', cat1, cat2, cat3, cat4, not_true_eq_false, wrap_succ (show b < 9223372036854775807 by omega)]
      refine ⟨fun h10 => ⟨fun h11 => ?_, fun h11 => ?_⟩, fun h10 => ?_⟩
      · exact ⟨_, rfl, H, fun _ _ h => h, ret_false (fun s => by have := (s.row a hlt6).2 b hlt3; rw [Cell, if_neg h10, K_nat] at this; exact h11 this), rfl, Nat.le_refl _⟩
      · refine up rfl hlt3 fun k hk => ?_
        by_cases e : k = b
        · subst e; rw [Cell, if_neg h10, K_nat]; exact h11
        · exact hr k (by omega)
      · refine den_call (fc := (32, [])) rfl (by first | (simp only [SS, Nat.reduceEqDiff, Nat.reduceAdd, iput, puts, FF, frzL_cat]; done) | (simp only [SS, Nat.reduceEqDiff, Nat.reduceAdd, iput, puts, FF, frzL_cat]; rfl)) ((inRange_ok hi ((c.c.getD a []).getD b 0) 0 (IntKind.i64.wrap ((c.f.length : Int) - 1))).fzb) ?_
        simp only [SS, Nat.reduceEqDiff, Nat.reduceAdd, iput, puts, wrap_id (show -9223372036854775808 ≤ (c.f.length : Int) - 1 by omega) (show (c.f.length : Int) - 1 ≤ 9223372036854775807 by omega)]
        have cell : ∀ s : Shape c, 0 ≤ c.K a b ∧ c.K a b < c.f.length ∧ c.F (c.K a b) = c.f.getD a 0 ∧ c.T (c.K a b) = c.t.getD b 0 := fun s => by
          have := (s.row a hlt6).2 b hlt3; rwa [Cell, if_pos h10] at this
        refine ⟨fun h11 => ?_, fun h11 => ?_⟩
        · exact ⟨_, rfl, H, fun _ _ h => h, ret_false (fun s => by have := cell s; rw [K_nat] at this; omega), rfl, Nat.le_refl _⟩
        refine den_call (fc := (38, [])) rfl (by first | (simp only [SS, Nat.reduceEqDiff, Nat.reduceAdd, iput, puts, FF, frzL_cat]; done) | (simp only [SS, Nat.reduceEqDiff, Nat.reduceAdd, iput, puts, FF, frzL_cat]; rfl)) ((ends_ok he c ((c.c.getD a []).getD b 0) (by omega) (by omega) (by omega)).fz2) ?_
        simp only [SS, Nat.reduceEqDiff, Nat.reduceAdd, iput, puts, hlt3, hlt4, hlt5, hlt6, cat1, cat2, cat3, cat4, wrap_succ (show b < 9223372036854775807 by omega)]
        refine ⟨fun h12 => ?_, fun h12 => ?_⟩
        · exact ⟨_, rfl, H, fun _ _ h => h, ret_false (fun s => by have := cell s; rw [K_nat] at this; rw [this.2.2.1, this.2.2.2] at h12; simp at h12), rfl, Nat.le_refl _⟩
        refine up rfl hlt3 fun k hk => ?_
        by_cases e : k = b
        · subst e; rw [Cell, if_pos h10, K_nat]; exact ⟨by omega, by omega, h12.1, h12.2⟩
        · exact hr k (by omega)
    · simp only [SS, Nat.reduceEqDiff, Nat.reduceAdd, iput, puts, hlt3, h9', not_false_eq_true, wrap_succ (show a < 9223372036854775807 by omega)]
      refine up rfl hlt2 fun k hk => ?_
      by_cases e : k = a
      · subst e; exact ⟨h9', fun b hb => hr b (by omega)⟩
      · exact hq k (by omega)
  · simp only [SS, Nat.reduceEqDiff, Nat.reduceAdd, iput, puts, hlt2, not_false_eq_true]
    exact ⟨_, rfl, H, fun _ _ h => h, ret_true (⟨h1.1, h1.2, h2', h3', h4, h5, h6, h7, h8', fun x hx => hp x (by omega), fun k hk => hq k (by omega)⟩), rfl, Nat.le_refl _⟩

def V_spec_IsShape : Vc :=
  .op true (.p .box [.t 0]) <|
  .op true (.p (.fad 1) [.t 1]) <|
  .op true (.p (.ld none) [.t 2]) <|
  .op true (.p .len [.t 3]) <|
  .op true (.p (.fad 0) [.t 1]) <|
  .op true (.p (.ld none) [.t 5]) <|
  .op true (.call (.f 35) [.t 6, .c (int 0), .c (int 8)]) <|
  .op true (.p .bnot [.t 7]) <|
  .br 8
   (.ret [(.c (bool false), none)])
   (.op true (.p (.bin .gtr) [.t 4, .c (int 40)]) <|
   .br 9
    (.ret [(.c (bool false), none)])
    (.op true (.p (.fad 1) [.t 1]) <|
    .op true (.p (.ld none) [.t 10]) <|
    .op true (.p (.fad 0) [.t 1]) <|
    .op true (.p (.ld none) [.t 12]) <|
    .op true (.call (.f 36) [.t 11, .t 4, .t 13]) <|
    .op true (.p .bnot [.t 14]) <|
    .br 15
     (.ret [(.c (bool false), none)])
     (.op true (.p (.fad 2) [.t 1]) <|
     .op true (.p (.ld none) [.t 16]) <|
     .op true (.p (.fad 0) [.t 1]) <|
     .op true (.p (.ld none) [.t 18]) <|
     .op true (.call (.f 36) [.t 17, .t 4, .t 19]) <|
     .op true (.p .bnot [.t 20]) <|
     .br 21
      (.ret [(.c (bool false), none)])
      (.op true (.p (.fad 4) [.t 1]) <|
      .op true (.p (.ld none) [.t 22]) <|
      .op true (.p .len [.t 23]) <|
      .op true (.p (.bin .neq) [.t 24, .t 4]) <|
      .br 25
       (.ret [(.c (bool false), none)])
       (.op true (.p (.fad 3) [.t 1]) <|
       .op true (.p (.ld none) [.t 26]) <|
       .op true (.p .len [.t 27]) <|
       .op true (.p (.fad 0) [.t 1]) <|
       .op true (.p (.ld none) [.t 29]) <|
       .op true (.p (.bin .neq) [.t 28, .t 30]) <|
       .br 31
        (.ret [(.c (bool false), none)])
        (.op true (.p (.fad 3) [.t 1]) <|
        .op true (.p (.ld none) [.t 32]) <|
        .op true (.call (.f 37) [.t 4, .t 33]) <|
        .op true (.p .bnot [.t 34]) <|
        .br 35
         (.ret [(.c (bool false), none)])
         (.loop 0 [.c (int 0)] <|
         .op true (.p (.fad 0) [.t 1]) <|
         .op true (.p (.ld none) [.t 37]) <|
         .op true (.p (.bin .lss) [.t 36, .t 38]) <|
         .br 39
          (.op true (.p (.fad 1) [.t 1]) <|
          .op true (.p (.ld none) [.t 40]) <|
          .op true (.p (.fad 3) [.t 1]) <|
          .op true (.p (.ld none) [.t 42]) <|
          .op true (.p (.iad 1) [.t 43, .t 36]) <|
          .op true (.p (.ld none) [.t 44]) <|
          .op true (.p (.iad 1) [.t 41, .t 45]) <|
          .op true (.p (.ld none) [.t 46]) <|
          .op true (.p (.bin .neq) [.t 47, .t 36]) <|
          .br 48
           (.ret [(.c (bool false), none)])
           (.op true (.p (.fad 2) [.t 1]) <|
           .op true (.p (.ld none) [.t 49]) <|
           .op true (.p (.fad 3) [.t 1]) <|
           .op true (.p (.ld none) [.t 51]) <|
           .op true (.p (.iad 1) [.t 52, .t 36]) <|
           .op true (.p (.ld none) [.t 53]) <|
           .op true (.p (.iad 1) [.t 50, .t 54]) <|
           .op true (.p (.ld none) [.t 55]) <|
           .op true (.p (.bin .neq) [.t 56, .t 36]) <|
           .br 57
            (.ret [(.c (bool false), none)])
            (.op true (.p (.bin .add) [.t 36, .c (int 1)]) <|
            .again 0 [.t 58])))
          (.loop 0 [.c (int 0)] <|
          .op true (.p (.bin .lss) [.t 40, .t 4]) <|
          .br 41
           (.op true (.p (.fad 4) [.t 1]) <|
           .op true (.p (.ld none) [.t 42]) <|
           .op true (.p (.iad 1) [.t 43, .t 40]) <|
           .op true (.p (.ld none) [.t 44]) <|
           .op true (.p .len [.t 45]) <|
           .op true (.p (.bin .neq) [.t 46, .t 4]) <|
           .br 47
            (.ret [(.c (bool false), none)])
            (.loop 1 [.c (int 0)] <|
            .op true (.p (.bin .lss) [.t 48, .t 4]) <|
            .br 49
             (.op true (.p (.fad 4) [.t 1]) <|
             .op true (.p (.ld none) [.t 50]) <|
             .op true (.p (.iad 1) [.t 51, .t 40]) <|
             .op true (.p (.ld none) [.t 52]) <|
             .op true (.p (.iad 1) [.t 53, .t 48]) <|
             .op true (.p (.ld none) [.t 54]) <|
             .op true (.p (.fad 2) [.t 1]) <|
             .op true (.p (.ld none) [.t 56]) <|
             .op true (.p (.iad 1) [.t 57, .t 40]) <|
             .op true (.p (.ld none) [.t 58]) <|
             .op true (.p (.fad 1) [.t 1]) <|
             .op true (.p (.ld none) [.t 60]) <|
             .op true (.p (.iad 1) [.t 61, .t 48]) <|
             .op true (.p (.ld none) [.t 62]) <|
             .op true (.p (.bin .neq) [.t 59, .t 63]) <|
             .br 64
              (.op true (.p (.bin .neq) [.t 55, .c (int (-1))]) <|
              .br 65
               (.ret [(.c (bool false), none)])
               (.op true (.p (.bin .add) [.t 48, .c (int 1)]) <|
               .again 1 [.t 66]))
              (.op true (.p (.bin .lss) [.t 55, .c (int 0)]) <|
              .br 65
               (.ret [(.c (bool false), none)])
               (.op true (.p (.bin .geq) [.t 55, .t 4]) <|
               .br 66
                (.ret [(.c (bool false), none)])
                (.op true (.p (.fad 1) [.t 1]) <|
                .op true (.p (.ld none) [.t 67]) <|
                .op true (.p (.iad 1) [.t 68, .t 55]) <|
                .op true (.p (.ld none) [.t 69]) <|
                .op true (.p (.fad 1) [.t 1]) <|
                .op true (.p (.ld none) [.t 71]) <|
                .op true (.p (.iad 1) [.t 72, .t 40]) <|
                .op true (.p (.ld none) [.t 73]) <|
                .op true (.p (.bin .neq) [.t 70, .t 74]) <|
                .br 75
                 (.ret [(.c (bool false), none)])
                 (.op true (.p (.fad 2) [.t 1]) <|
                 .op true (.p (.ld none) [.t 76]) <|
                 .op true (.p (.iad 1) [.t 77, .t 55]) <|
                 .op true (.p (.ld none) [.t 78]) <|
                 .op true (.p (.fad 2) [.t 1]) <|
                 .op true (.p (.ld none) [.t 80]) <|
                 .op true (.p (.iad 1) [.t 81, .t 48]) <|
                 .op true (.p (.ld none) [.t 82]) <|
                 .op true (.p (.bin .neq) [.t 79, .t 83]) <|
                 .br 84
                  (.ret [(.c (bool false), none)])
                  (.op true (.p (.bin .add) [.t 48, .c (int 1)]) <|
                  .again 1 [.t 85]))))))
             (.op true (.p (.bin .add) [.t 40, .c (int 1)]) <|
             .again 0 [.t 50])))
           (.ret [(.c (bool true), none)])))))))))
set_option maxHeartbeats 1000000 in
theorem sIsShape_ok (hi : Has P ν 35 3 V_spec_l01In) (hm : Has P ν 37 2 V_spec_l01Map) (he : Has P ν 36 3 V_spec_l02Ends) (h : Has P ν 28 1 V_spec_IsShape) (c : Cat) (b1 : c.f.length ≤ 1048576) (b2 : c.t.length ≤ 1048576) (b3 : c.i.length ≤ 1048576) (b4 : c.c.length ≤ 1048576) :
    Fn P ν 28 [.agg c.cells] (bool (decide (Shape c))) := by
  intro H nx
  refine h _ _ _ _ rfl fun hwf => ?_
  unfold V_spec_IsShape
  simp only [SS, Nat.reduceEqDiff, Nat.reduceAdd, iput, puts, p_boxc, cat0, cat1]
  refine den_call (fc := (35, [])) rfl (by first | (simp only [SS, Nat.reduceEqDiff, Nat.reduceAdd, iput, puts, FF, frzL_cat]; done) | (simp only [SS, Nat.reduceEqDiff, Nat.reduceAdd, iput, puts, FF, frzL_cat]; rfl)) ((l01In_ok hi c.o 0 8).fzb) ?_
  simp only [SS, Nat.reduceEqDiff, Nat.reduceAdd, iput, puts, cat0, cat1, cat2, cat3, cat4]
  refine ⟨fun h1 => ?_, fun h1 => ⟨fun h2 => ?_, fun h2 => ?_⟩⟩
  · exact ⟨_, rfl, H, fun _ _ h => h, ret_false (fun s => h1 ⟨s.o0, s.o8⟩), rfl, Nat.le_refl _⟩
  · exact ⟨_, rfl, H, fun _ _ h => h, ret_false (fun s => by have := s.n40; omega), rfl, Nat.le_refl _⟩
  have h2' : c.f.length ≤ 40 := by omega
  refine den_call (fc := (36, [])) rfl (by first | (simp only [SS, Nat.reduceEqDiff, Nat.reduceAdd, iput, puts, FF, frzL_cat]; done) | (simp only [SS, Nat.reduceEqDiff, Nat.reduceAdd, iput, puts, FF, frzL_cat]; rfl)) ((l02Ends_ok hm he c.f c.f.length c.o (by omega)).fzb) ?_
  simp only [SS, Nat.reduceEqDiff, Nat.reduceAdd, iput, puts, cat0, cat1, cat2, cat3, cat4]
  refine ⟨fun h3 => ?_, fun h3 => ?_⟩
  · exact ⟨_, rfl, H, fun _ _ h => h, ret_false (fun s => h3 s.fw), rfl, Nat.le_refl _⟩
  refine den_call (fc := (36, [])) rfl (by first | (simp only [SS, Nat.reduceEqDiff, Nat.reduceAdd, iput, puts, FF, frzL_cat]; done) | (simp only [SS, Nat.reduceEqDiff, Nat.reduceAdd, iput, puts, FF, frzL_cat]; rfl)) ((l02Ends_ok hm he c.t c.f.length c.o (by omega)).fzb) ?_
  simp only [SS, Nat.reduceEqDiff, Nat.reduceAdd, iput, puts, cat0, cat1, cat2, cat3, cat4]
  refine ⟨fun h4 => ?_, fun h4 => ⟨fun h5 => ?_, fun h5 => ⟨fun h6 => ?_, fun h6 => ?_⟩⟩⟩
  · exact ⟨_, rfl, H, fun _ _ h => h, ret_false (fun s => h4 ⟨by have := s.tl; omega, s.tw⟩), rfl, Nat.le_refl _⟩
  · exact ⟨_, rfl, H, fun _ _ h => h, ret_false (fun s => h5 (by have := s.cl; omega)), rfl, Nat.le_refl _⟩
  · exact ⟨_, rfl, H, fun _ _ h => h, ret_false (fun s => h6 s.il), rfl, Nat.le_refl _⟩
  have h4' : c.t.length = c.f.length := by have := h4.1; omega
  have h5' : c.c.length = c.f.length := by omega
  refine den_call (fc := (37, [])) rfl (by first | (simp only [SS, Nat.reduceEqDiff, Nat.reduceAdd, iput, puts, FF, frzL_cat]; done) | (simp only [SS, Nat.reduceEqDiff, Nat.reduceAdd, iput, puts, FF, frzL_cat]; rfl)) ((l01Map_ok hm c.i c.f.length (by omega)).fzb) ?_
  simp only [SS, Nat.reduceEqDiff, Nat.reduceAdd, iput, puts, cat0, cat1, cat2, cat3, cat4]
  refine ⟨fun h7 => ?_, fun h7 => ?_⟩
  · exact ⟨_, rfl, H, fun _ _ h => h, ret_false (fun s => h7 s.iw), rfl, Nat.le_refl _⟩
  refine den_for c.i.length (fun i => ∀ x : Nat, x < i → c.F (c.i.getD x 0) = x ∧ c.T (c.i.getD x 0) = x) (fun x hx => by omega) fun i hi' hp => ?_
  by_cases hlt : i < c.i.length
  · obtain ⟨g1, g2⟩ := h7 i hlt
    have g3 : (c.i.getD i 0).toNat < c.f.length := by omega
    have g4 : (c.i.getD i 0).toNat < c.t.length := by omega
    have g5 : c.i.getD i 0 < (c.t.length : Int) := by omega
    have hlt' : (i : Int) < c.o := by omega
    simp only [SS, Nat.reduceEqDiff, Nat.reduceAdd, iput, puts, cat0, cat1, cat2, cat3, cat4, hlt, hlt', not_true_eq_false, g1, g2, g3, g4, g5, wrap_succ (show i < 9223372036854775807 by omega)]
    refine ⟨fun h9 => ?_, fun h9 => ⟨fun h10 => ?_, fun h10 => up rfl hlt fun x hx => ?_⟩⟩
    · exact ⟨_, rfl, H, fun _ _ h => h, ret_false (fun s => h9 (s.id i hlt).1), rfl, Nat.le_refl _⟩
    · exact ⟨_, rfl, H, fun _ _ h => h, ret_false (fun s => h10 (s.id i hlt).2), rfl, Nat.le_refl _⟩
    · by_cases e : x = i
      · subst e; exact ⟨h9, h10⟩
      · exact hp x (by omega)
  have hlt' : ¬ (i : Int) < c.o := by omega
  simp only [SS, Nat.reduceEqDiff, Nat.reduceAdd, iput, puts, cat0, hlt', not_false_eq_true]
  refine den_for c.f.length (fun a => ∀ k : Nat, k < a → (c.c.getD k []).length = c.f.length ∧ ∀ b : Nat, b < c.f.length → Cell c k b) (fun x hx => by omega) fun a hi'' hq => ?_
  by_cases hlt2 : a < c.f.length
  · have hlt2' : a < c.c.length := by omega
    simp only [SS, Nat.reduceEqDiff, Nat.reduceAdd, iput, puts, hlt2, hlt2', cat4, not_true_eq_false]
    refine ⟨fun h9 => ?_, fun h9 => ?_⟩
    · exact ⟨_, rfl, H, fun _ _ h => h, ret_false (fun s => h9 (by have := (s.row a (by omega)).1; omega)), rfl, Nat.le_refl _⟩
    have h9' : (c.c.getD a []).length = c.f.length := by omega
    refine den_for c.f.length (fun b => ∀ k : Nat, k < b → Cell c a k) (fun x hx => by omega) fun b hb hr => ?_
    have hlt4 : a < c.t.length := by omega
    by_cases hlt3 : b < c.f.length
    · have hlt5 : b < c.t.length := by omega
      simp only [SS, Nat.reduceEqDiff, Nat.reduceAdd, iput, puts, hlt2, hlt2', hlt3, hlt4, hlt5, h9', cat1, cat2, cat3, cat4, not_true_eq_false, wrap_succ (show b < 9223372036854775807 by omega)]
      have cell : ∀ s : Shape c, c.t.getD a 0 = c.f.getD b 0 → 0 ≤ c.K a b ∧ c.K a b < c.f.length ∧ c.F (c.K a b) = c.f.getD a 0 ∧ c.T (c.K a b) = c.t.getD b 0 := fun s h10 => by
        have := (s.row a hlt2).2 b hlt3; rwa [Cell, if_pos h10] at this
      refine ⟨fun h10 => ⟨fun h11 => ?_, fun h11 => ?_⟩, fun h10 => ⟨fun h11 => ?_, fun h11 => ⟨fun h12 => ?_, fun h12 => ?_⟩⟩⟩
      · exact ⟨_, rfl, H, fun _ _ h => h, ret_false (fun s => by have := (s.row a hlt2).2 b hlt3; rw [Cell, if_neg h10, K_nat] at this; exact h11 this), rfl, Nat.le_refl _⟩
      · refine up rfl hlt3 fun k hk => ?_
        by_cases e : k = b
        · subst e; rw [Cell, if_neg h10, K_nat]; exact h11
        · exact hr k (by omega)
      · exact ⟨_, rfl, H, fun _ _ h => h, ret_false (fun s => by have := cell s h10; rw [K_nat] at this; omega), rfl, Nat.le_refl _⟩
      · exact ⟨_, rfl, H, fun _ _ h => h, ret_false (fun s => by have := cell s h10; rw [K_nat] at this; omega), rfl, Nat.le_refl _⟩
      have g1 : 0 ≤ (c.c.getD a []).getD b 0 := by omega
      have g2 : (c.c.getD a []).getD b 0 < (c.f.length : Int) := by omega
      have g3 : ((c.c.getD a []).getD b 0).toNat < c.f.length := by omega
      have g4 : ((c.c.getD a []).getD b 0).toNat < c.t.length := by omega
      have g5 : (c.c.getD a []).getD b 0 < (c.t.length : Int) := by omega
      simp only [SS, Nat.reduceEqDiff, Nat.reduceAdd, iput, puts, g1, g2, g3, g4, g5]
      refine ⟨fun h13 => ?_, fun h13 => ⟨fun h14 => ?_, fun h14 => ?_⟩⟩
      · exact ⟨_, rfl, H, fun _ _ h => h, ret_false (fun s => by have := cell s h10; rw [K_nat] at this; exact h13 this.2.2.1), rfl, Nat.le_refl _⟩
      · exact ⟨_, rfl, H, fun _ _ h => h, ret_false (fun s => by have := cell s h10; rw [K_nat] at this; exact h14 this.2.2.2), rfl, Nat.le_refl _⟩
      refine up rfl hlt3 fun k hk => ?_
      by_cases e : k = b
      · subst e; rw [Cell, if_pos h10, K_nat]; exact ⟨g1, g2, h13, h14⟩
      · exact hr k (by omega)
    · simp only [SS, Nat.reduceEqDiff, Nat.reduceAdd, iput, puts, hlt3, h9', not_false_eq_true, wrap_succ (show a < 9223372036854775807 by omega)]
      refine up rfl hlt2 fun k hk => ?_
      by_cases e : k = a
      · subst e; exact ⟨h9', fun b hb => hr b (by omega)⟩
      · exact hq k (by omega)
  · simp only [SS, Nat.reduceEqDiff, Nat.reduceAdd, iput, puts, hlt2, not_false_eq_true]
    exact ⟨_, rfl, H, fun _ _ h => h, ret_true (⟨h1.1, h1.2, h2', h4', h3, h4.2, h6, h7, h5', fun x hx => hp x (by omega), fun k hk => hq k (by omega)⟩), rfl, Nat.le_refl _⟩
end Go.Av

/-
  The laws of a category: the first fault; when a table is a category.
-/
namespace Go.Av
set_option linter.unusedSectionVars false
set_option linter.unusedSimpArgs false
set_option linter.unusedVariables false
variable [md : Md]
open Classical
set_option linter.unusedSimpArgs false
set_option linter.unusedVariables false
variable {P : Program} {ν : Nat → FuncId}

def idOk (c : Cat) (f : Nat) : Bool := c.K (c.I (c.F f)) f == (f : Int) && c.K f (c.I (c.T f)) == (f : Int)
def asBad (c : Cat) (f g h : Nat) : Bool := c.T f == c.F g && c.T g == c.F h && c.K (c.K f g) h != c.K f (c.K g h)
def idF (c : Cat) : Option Nat := (List.range c.f.length).findSome? fun f => if idOk c f then none else some f
def asF (c : Cat) : Option (Nat × Nat × Nat) :=
  (List.range c.f.length).findSome? fun f => (List.range c.f.length).findSome? fun g => (List.range c.f.length).findSome? fun h => if asBad c f g h then some (f, g, h) else none
def faultV (c : Cat) : AV :=
  match idF c with
  | some f => .tup [int 1, int f, int 0, int 0]
  | none => match asF c with
    | some (f, g, h) => .tup [int 2, int f, int g, int h]
    | none => .tup [int 0, int 0, int 0, int 0]
def Laws (c : Cat) : Prop := idF c = none ∧ asF c = none
def IsCat (c : Cat) : Prop := Shape c ∧ Laws c
theorem faultV_tup (c : Cat) : ∃ k a b d : Int, faultV c = .tup [int k, int a, int b, int d] ∧ (k = 0 ↔ Laws c) := by
  unfold faultV Laws
  cases h1 : idF c with
  | some f => exact ⟨1, f, 0, 0, rfl, by simp⟩
  | none =>
    cases h2 : asF c with
    | some x => exact ⟨2, x.1, x.2.1, x.2.2, rfl, by simp⟩
    | none => exact ⟨0, 0, 0, 0, rfl, by simp⟩

section sh
variable {c : Cat}
theorem Shape.fLt (s : Shape c) {a : Nat} (h : a < c.f.length) : 0 ≤ c.F a ∧ c.F a < c.i.length := by have h1 := s.fw a h; have h2 := s.il; rw [F_nat]; omega
theorem Shape.tLt (s : Shape c) {a : Nat} (h : a < c.f.length) : 0 ≤ c.T a ∧ c.T a < c.i.length := by have h1 := s.tw a (by rw [s.tl]; exact h); have h2 := s.il; rw [T_nat]; omega
theorem Shape.iLt (s : Shape c) {x : Int} (h0 : 0 ≤ x) (h : x < c.i.length) : 0 ≤ c.I x ∧ c.I x < c.f.length := s.iw x.toNat (by omega)
theorem Shape.rowLen (s : Shape c) {a : Int} (h0 : 0 ≤ a) (h : a < c.f.length) : (c.c.getD a.toNat []).length = c.f.length := (s.row a.toNat (by omega)).1
theorem Shape.kPos (s : Shape c) {a b : Nat} (ha : a < c.f.length) (hb : b < c.f.length) (h : c.T a = c.F b) : 0 ≤ c.K a b ∧ c.K a b < c.f.length ∧ c.F (c.K a b) = c.F a ∧ c.T (c.K a b) = c.T b := by
  have := (s.row a ha).2 b hb
  rw [Cell, if_pos (by rw [← T_nat, ← F_nat]; exact h)] at this
  rw [F_nat, T_nat]
  exact this
theorem Shape.kNeg (s : Shape c) {a b : Nat} (ha : a < c.f.length) (hb : b < c.f.length) (h : c.T a ≠ c.F b) : c.K a b = -1 := by
  have := (s.row a ha).2 b hb
  rwa [Cell, if_neg (by rw [← T_nat, ← F_nat]; exact h)] at this
theorem Shape.kIff (s : Shape c) {a b : Nat} (ha : a < c.f.length) (hb : b < c.f.length) : 0 ≤ c.K a b ↔ c.T a = c.F b := by
  constructor
  · intro h
    by_cases e : c.T a = c.F b
    · exact e
    · have := s.kNeg ha hb e; omega
  · intro h; exact (s.kPos ha hb h).1
end sh

theorem idF_some {c : Cat} {f : Nat} (hf : f < c.f.length) (h : idOk c f = false) (hlt : ∀ k, k < f → idOk c k = true) : idF c = some f :=
  findSome_at hf (by simp [h]) (fun j hj => by simp [hlt j hj])
theorem idF_none {c : Cat} (h : ∀ k, k < c.f.length → idOk c k = true) : idF c = none := findSome_none fun j hj => by simp [h j hj]
theorem asF_some {c : Cat} {f g h : Nat} (hf : f < c.f.length) (hg : g < c.f.length) (hh : h < c.f.length) (hb : asBad c f g h = true) (h1 : ∀ f', f' < f → ∀ g', g' < c.f.length → ∀ h', h' < c.f.length → asBad c f' g' h' = false)
    (h2 : ∀ g', g' < g → ∀ h', h' < c.f.length → asBad c f g' h' = false) (h3 : ∀ h', h' < h → asBad c f g h' = false) : asF c = some (f, g, h) :=
  findSome_at hf (findSome_at hg (findSome_at hh (by simp [hb]) (fun j hj => by simp [h3 j hj])) (fun j hj => findSome_none fun h' hh' => by simp [h2 j hj h' hh'])) (fun j hj => findSome_none fun g' hg' => findSome_none fun h' hh' => by simp [h1 j hj g' hg' h' hh'])
theorem asF_none {c : Cat} (h1 : ∀ f', f' < c.f.length → ∀ g', g' < c.f.length → ∀ h', h' < c.f.length → asBad c f' g' h' = false) : asF c = none :=
  findSome_none fun f' hf' => findSome_none fun g' hg' => findSome_none fun h' hh' => by simp [h1 f' hf' g' hg' h' hh']

def V_spec_l02Fault : Vc :=
  .op true (.p .box [.t 0]) <|
  .op true (.p (.fad 1) [.t 1]) <|
  .op true (.p (.ld none) [.t 2]) <|
  .op true (.p .len [.t 3]) <|
  .loop 0 [.c (int 0)] <|
  .op true (.p (.bin .lss) [.t 5, .t 4]) <|
  .br 6
   (.op true (.p (.fad 4) [.t 1]) <|
   .op true (.p (.ld none) [.t 7]) <|
   .op true (.p (.fad 3) [.t 1]) <|
   .op true (.p (.ld none) [.t 9]) <|
   .op true (.p (.fad 1) [.t 1]) <|
   .op true (.p (.ld none) [.t 11]) <|
   .op true (.p (.iad 1) [.t 12, .t 5]) <|
   .op true (.p (.ld none) [.t 13]) <|
   .op true (.p (.iad 1) [.t 10, .t 14]) <|
   .op true (.p (.ld none) [.t 15]) <|
   .op true (.p (.iad 1) [.t 8, .t 16]) <|
   .op true (.p (.ld none) [.t 17]) <|
   .op true (.p (.iad 1) [.t 18, .t 5]) <|
   .op true (.p (.ld none) [.t 19]) <|
   .op true (.p (.bin .neq) [.t 20, .t 5]) <|
   .br 21
    (.ret [(.c (int 1), none), (.t 5, none), (.c (int 0), none), (.c (int 0), none)])
    (.op true (.p (.fad 4) [.t 1]) <|
    .op true (.p (.ld none) [.t 22]) <|
    .op true (.p (.iad 1) [.t 23, .t 5]) <|
    .op true (.p (.ld none) [.t 24]) <|
    .op true (.p (.fad 3) [.t 1]) <|
    .op true (.p (.ld none) [.t 26]) <|
    .op true (.p (.fad 2) [.t 1]) <|
    .op true (.p (.ld none) [.t 28]) <|
    .op true (.p (.iad 1) [.t 29, .t 5]) <|
    .op true (.p (.ld none) [.t 30]) <|
    .op true (.p (.iad 1) [.t 27, .t 31]) <|
    .op true (.p (.ld none) [.t 32]) <|
    .op true (.p (.iad 1) [.t 25, .t 33]) <|
    .op true (.p (.ld none) [.t 34]) <|
    .op true (.p (.bin .neq) [.t 35, .t 5]) <|
    .br 36
     (.ret [(.c (int 1), none), (.t 5, none), (.c (int 0), none), (.c (int 0), none)])
     (.op true (.p (.bin .add) [.t 5, .c (int 1)]) <|
     .again 0 [.t 37])))
   (.loop 0 [.c (int 0)] <|
   .op true (.p (.bin .lss) [.t 7, .t 4]) <|
   .br 8
    (.loop 1 [.c (int 0)] <|
    .op true (.p (.bin .lss) [.t 9, .t 4]) <|
    .br 10
     (.op true (.p (.fad 2) [.t 1]) <|
     .op true (.p (.ld none) [.t 11]) <|
     .op true (.p (.iad 1) [.t 12, .t 7]) <|
     .op true (.p (.ld none) [.t 13]) <|
     .op true (.p (.fad 1) [.t 1]) <|
     .op true (.p (.ld none) [.t 15]) <|
     .op true (.p (.iad 1) [.t 16, .t 9]) <|
     .op true (.p (.ld none) [.t 17]) <|
     .op true (.p (.bin .neq) [.t 14, .t 18]) <|
     .br 19
      (.op true (.p (.bin .add) [.t 9, .c (int 1)]) <|
      .again 1 [.t 20])
      (.loop 2 [.c (int 0)] <|
      .op true (.p (.bin .lss) [.t 20, .t 4]) <|
      .br 21
       (.op true (.p (.fad 2) [.t 1]) <|
       .op true (.p (.ld none) [.t 22]) <|
       .op true (.p (.iad 1) [.t 23, .t 9]) <|
       .op true (.p (.ld none) [.t 24]) <|
       .op true (.p (.fad 1) [.t 1]) <|
       .op true (.p (.ld none) [.t 26]) <|
       .op true (.p (.iad 1) [.t 27, .t 20]) <|
       .op true (.p (.ld none) [.t 28]) <|
       .op true (.p (.bin .eql) [.t 25, .t 29]) <|
       .br 30
        (.op true (.p (.fad 4) [.t 1]) <|
        .op true (.p (.ld none) [.t 31]) <|
        .op true (.p (.fad 4) [.t 1]) <|
        .op true (.p (.ld none) [.t 33]) <|
        .op true (.p (.iad 1) [.t 34, .t 7]) <|
        .op true (.p (.ld none) [.t 35]) <|
        .op true (.p (.iad 1) [.t 36, .t 9]) <|
        .op true (.p (.ld none) [.t 37]) <|
        .op true (.p (.iad 1) [.t 32, .t 38]) <|
        .op true (.p (.ld none) [.t 39]) <|
        .op true (.p (.iad 1) [.t 40, .t 20]) <|
        .op true (.p (.ld none) [.t 41]) <|
        .op true (.p (.fad 4) [.t 1]) <|
        .op true (.p (.ld none) [.t 43]) <|
        .op true (.p (.iad 1) [.t 44, .t 7]) <|
        .op true (.p (.ld none) [.t 45]) <|
        .op true (.p (.fad 4) [.t 1]) <|
        .op true (.p (.ld none) [.t 47]) <|
        .op true (.p (.iad 1) [.t 48, .t 9]) <|
        .op true (.p (.ld none) [.t 49]) <|
        .op true (.p (.iad 1) [.t 50, .t 20]) <|
        .op true (.p (.ld none) [.t 51]) <|
        .op true (.p (.iad 1) [.t 46, .t 52]) <|
        .op true (.p (.ld none) [.t 53]) <|
        .op true (.p (.bin .neq) [.t 42, .t 54]) <|
        .br 55
         (.ret [(.c (int 2), none), (.t 7, none), (.t 9, none), (.t 20, none)])
         (.op true (.p (.bin .add) [.t 20, .c (int 1)]) <|
         .again 2 [.t 56]))
        (.op true (.p (.bin .add) [.t 20, .c (int 1)]) <|
        .again 2 [.t 31]))
       (.op true (.p (.bin .add) [.t 9, .c (int 1)]) <|
       .again 1 [.t 22])))
     (.op true (.p (.bin .add) [.t 7, .c (int 1)]) <|
     .again 0 [.t 11]))
    (.ret [(.c (int 0), none), (.c (int 0), none), (.c (int 0), none), (.c (int 0), none)]))
set_option maxHeartbeats 1000000 in
theorem l02Fault_ok (h : Has P ν 29 1 V_spec_l02Fault) (c : Cat) (s : Shape c) : Fn P ν 29 [.agg c.cells] (faultV c) := by
  intro H nx
  refine h _ _ _ _ rfl fun hwf => ?_
  unfold V_spec_l02Fault
  simp only [SS, Nat.reduceEqDiff, Nat.reduceAdd, iput, puts, p_boxc, cat1]
  have n40 := s.n40
  refine den_for c.f.length (fun i => ∀ k, k < i → idOk c k = true) (fun x hx => by omega) fun f hf hp => ?_
  by_cases hlt : f < c.f.length
  · obtain ⟨a1, a2⟩ := s.fLt hlt
    obtain ⟨a3, a4⟩ := s.iLt a1 a2
    have a5 := s.rowLen a3 a4
    obtain ⟨b1, b2⟩ := s.tLt hlt
    obtain ⟨b3, b4⟩ := s.iLt b1 b2
    have b5 := s.rowLen (a := f) (by omega) (by omega)
    have cl := s.cl
    have tl := s.tl
    simp only [Cat.F, Cat.T, Cat.I, Int.toNat_natCast] at a1 a2 a3 a4 a5 b1 b2 b3 b4 b5
    have a6 : (c.f.getD f 0).toNat < c.i.length := by omega
    have a7 : (c.i.getD (c.f.getD f 0).toNat 0).toNat < c.f.length := by omega
    have b6 : (c.t.getD f 0).toNat < c.i.length := by omega
    have b7 : (c.i.getD (c.t.getD f 0).toNat 0).toNat < c.f.length := by omega
    simp only [SS, Nat.reduceEqDiff, Nat.reduceAdd, iput, puts, cat1, cat2, cat3, cat4, hlt, a1, a2, a3, a4, a5, a6, a7, b1, b2, b3, b4, b5, b6, b7, cl, tl, not_true_eq_false, wrap_succ (show f < 9223372036854775807 by omega)]
    have bad : ¬ (c.K (c.I (c.F f)) f = f ∧ c.K f (c.I (c.T f)) = f) → .tup [int 1, int f, int 0, int 0] = faultV c := fun hb => by
      have : idOk c f = false := by simpa [idOk] using hb
      simp only [faultV, idF_some hlt this hp]
    refine ⟨fun h1 => ?_, fun h1 => ⟨fun h2 => ?_, fun h2 => up rfl hlt fun k hk => ?_⟩⟩
    · exact ⟨_, rfl, H, fun _ _ h => h, bad (fun hb => h1 hb.1), rfl, Nat.le_refl _⟩
    · exact ⟨_, rfl, H, fun _ _ h => h, bad (fun hb => h2 hb.2), rfl, Nat.le_refl _⟩
    · by_cases e : k = f
      · subst e; simp only [idOk, Bool.and_eq_true, beq_iff_eq]; exact ⟨h1, h2⟩
      · exact hp k (by omega)
  simp only [SS, Nat.reduceEqDiff, Nat.reduceAdd, iput, puts, hlt, not_false_eq_true]
  have hid := idF_none (c := c) fun k hk => hp k (by omega)
  clear hp hlt hf
  have cl := s.cl
  have tl := s.tl
  refine den_for c.f.length (fun i => ∀ f', f' < i → ∀ g', g' < c.f.length → ∀ h', h' < c.f.length → asBad c f' g' h' = false) (fun x hx => by omega) fun f hf h1 => ?_
  by_cases hlt : f < c.f.length
  · simp only [SS, Nat.reduceEqDiff, Nat.reduceAdd, iput, puts, hlt, not_true_eq_false]
    refine den_for c.f.length (fun i => ∀ g', g' < i → ∀ h', h' < c.f.length → asBad c f g' h' = false) (fun x hx => by omega) fun g hg h2 => ?_
    by_cases hlt2 : g < c.f.length
    · simp only [SS, Nat.reduceEqDiff, Nat.reduceAdd, iput, puts, cat1, cat2, hlt, hlt2, tl, not_true_eq_false, wrap_succ (show g < 9223372036854775807 by omega)]
      refine ⟨fun h3 => up rfl hlt2 fun k hk h' hh' => ?_, fun h3 => ?_⟩
      · by_cases e : k = g
        · subst e; simp only [asBad, T_nat, F_nat]; simp only [beq_eq_false_iff_ne.2 h3, Bool.false_and]
        · exact h2 k (by omega) h' hh'
      · refine den_for c.f.length (fun i => ∀ h', h' < i → asBad c f g h' = false) (fun x hx => by omega) fun h hh h4 => ?_
        by_cases hlt3 : h < c.f.length
        · simp only [SS, Nat.reduceEqDiff, Nat.reduceAdd, iput, puts, cat1, cat2, hlt, hlt2, hlt3, tl, not_true_eq_false, wrap_succ (show h < 9223372036854775807 by omega)]
          refine ⟨fun h5 => ?_, fun h5 => up rfl hlt3 fun k hk => ?_⟩
          · obtain ⟨k1, k2, k3, k4⟩ := s.kPos hlt hlt2 (by rw [T_nat, F_nat]; exact h3)
            obtain ⟨m1, m2, m3, m4⟩ := s.kPos hlt2 hlt3 (by rw [T_nat, F_nat]; exact h5)
            have k5 := s.rowLen k1 k2
            have r1 := s.rowLen (a := f) (by omega) (by omega)
            have r2 := s.rowLen (a := g) (by omega) (by omega)
            simp only [Cat.K, Int.toNat_natCast] at k1 k2 k5 m1 m2 r1 r2
            have k6 : ((c.c.getD f []).getD g 0).toNat < c.f.length := by omega
            have m6 : ((c.c.getD g []).getD h 0).toNat < c.f.length := by omega
            simp only [SS, Nat.reduceEqDiff, Nat.reduceAdd, iput, puts, cat4, hlt, hlt2, hlt3, cl, k1, k2, k5, k6, m1, m2, m6, r1, r2, wrap_succ (show h < 9223372036854775807 by omega)]
            refine ⟨fun h6 => ?_, fun h6 => up rfl hlt3 fun k hk => ?_⟩
            · refine ⟨_, rfl, H, fun _ _ h => h, ?_, rfl, Nat.le_refl _⟩
              have hb : asBad c f g h = true := by simp only [asBad, T_nat, F_nat, Bool.and_eq_true, beq_iff_eq, bne_iff_ne, ne_eq]; exact ⟨⟨h3, h5⟩, h6⟩
              simp only [faultV, hid, asF_some hlt hlt2 hlt3 hb h1 h2 h4]
              rfl
            · by_cases e : k = h
              · subst e; simp only [asBad]; rw [show (c.K (c.K f g) k != c.K f (c.K g k)) = false from bne_eq_false_iff_eq.2 h6]; simp
              · exact h4 k (by omega)
          · by_cases e : k = h
            · subst e; simp only [asBad, T_nat, F_nat]; simp only [beq_eq_false_iff_ne.2 h5, Bool.and_false, Bool.false_and]
            · exact h4 k (by omega)
        · simp only [SS, Nat.reduceEqDiff, Nat.reduceAdd, iput, puts, hlt3, not_false_eq_true, wrap_succ (show g < 9223372036854775807 by omega)]
          refine up rfl hlt2 fun k hk h' hh' => ?_
          by_cases e : k = g
          · subst e; exact h4 h' (by omega)
          · exact h2 k (by omega) h' hh'
    · simp only [SS, Nat.reduceEqDiff, Nat.reduceAdd, iput, puts, hlt2, not_false_eq_true, wrap_succ (show f < 9223372036854775807 by omega)]
      refine up rfl hlt fun k hk g' hg' h' hh' => ?_
      by_cases e : k = f
      · subst e; exact h2 g' (by omega) h' hh'
      · exact h1 k (by omega) g' hg' h' hh'
  · simp only [SS, Nat.reduceEqDiff, Nat.reduceAdd, iput, puts, hlt, not_false_eq_true]
    refine ⟨_, rfl, H, fun _ _ h => h, ?_, rfl, Nat.le_refl _⟩
    simp only [faultV, hid, asF_none fun f' hf' => h1 f' (by omega)]
    rfl

def V_Category_fault : Vc :=
  .op true (.call (.f 26) [.t 0]) <|
  .loop 0 [.c (int 0)] <|
  .op true (.p (.bin .lss) [.t 2, .t 1]) <|
  .br 3
   (.op true (.p .nck [.t 0]) <|
   .op true (.p (.fad 3) [.t 4]) <|
   .op true (.p (.ld none) [.t 5]) <|
   .op true (.p .nck [.t 0]) <|
   .op true (.p (.fad 1) [.t 7]) <|
   .op true (.p (.ld none) [.t 8]) <|
   .op true (.p (.iad 1) [.t 9, .t 2]) <|
   .op true (.p (.ld none) [.t 10]) <|
   .op true (.p (.iad 1) [.t 6, .t 11]) <|
   .op true (.p (.ld none) [.t 12]) <|
   .op true (.call (.f 34) [.t 0, .t 13, .t 2]) <|
   .op true (.p (.bin .neq) [.t 14, .t 2]) <|
   .br 15
    (.ret [(.c (int 1), none), (.t 2, none), (.c (int 0), none), (.c (int 0), none)])
    (.op true (.p .nck [.t 0]) <|
    .op true (.p (.fad 3) [.t 16]) <|
    .op true (.p (.ld none) [.t 17]) <|
    .op true (.p .nck [.t 0]) <|
    .op true (.p (.fad 2) [.t 19]) <|
    .op true (.p (.ld none) [.t 20]) <|
    .op true (.p (.iad 1) [.t 21, .t 2]) <|
    .op true (.p (.ld none) [.t 22]) <|
    .op true (.p (.iad 1) [.t 18, .t 23]) <|
    .op true (.p (.ld none) [.t 24]) <|
    .op true (.call (.f 34) [.t 0, .t 2, .t 25]) <|
    .op true (.p (.bin .neq) [.t 26, .t 2]) <|
    .br 27
     (.ret [(.c (int 1), none), (.t 2, none), (.c (int 0), none), (.c (int 0), none)])
     (.op true (.p (.bin .add) [.t 2, .c (int 1)]) <|
     .again 0 [.t 28])))
   (.loop 0 [.c (int 0)] <|
   .op true (.p (.bin .lss) [.t 4, .t 1]) <|
   .br 5
    (.loop 1 [.c (int 0)] <|
    .op true (.p (.bin .lss) [.t 6, .t 1]) <|
    .br 7
     (.op true (.call (.f 34) [.t 0, .t 4, .t 6]) <|
     .op true (.p (.bin .lss) [.t 8, .c (int 0)]) <|
     .br 9
      (.op true (.p (.bin .add) [.t 6, .c (int 1)]) <|
      .again 1 [.t 10])
      (.loop 2 [.c (int 0)] <|
      .op true (.p (.bin .lss) [.t 10, .t 1]) <|
      .br 11
       (.op true (.call (.f 34) [.t 0, .t 6, .t 10]) <|
       .op true (.p (.bin .geq) [.t 12, .c (int 0)]) <|
       .br 13
        (.op true (.call (.f 34) [.t 0, .t 4, .t 6]) <|
        .op true (.call (.f 34) [.t 0, .t 14, .t 10]) <|
        .op true (.call (.f 34) [.t 0, .t 6, .t 10]) <|
        .op true (.call (.f 34) [.t 0, .t 4, .t 16]) <|
        .op true (.p (.bin .neq) [.t 15, .t 17]) <|
        .br 18
         (.ret [(.c (int 2), none), (.t 4, none), (.t 6, none), (.t 10, none)])
         (.op true (.p (.bin .add) [.t 10, .c (int 1)]) <|
         .again 2 [.t 19]))
        (.op true (.p (.bin .add) [.t 10, .c (int 1)]) <|
        .again 2 [.t 14]))
       (.op true (.p (.bin .add) [.t 6, .c (int 1)]) <|
       .again 1 [.t 12])))
     (.op true (.p (.bin .add) [.t 4, .c (int 1)]) <|
     .again 0 [.t 8]))
    (.ret [(.c (int 0), none), (.c (int 0), none), (.c (int 0), none), (.c (int 0), none)]))
set_option maxHeartbeats 1000000 in
theorem fault_ok (ha : Has P ν 26 1 V_Category_arrows) (ht : Has P ν 34 3 V_Category_then) (h : Has P ν 31 1 V_Category_fault) (c : Cat) (s : Shape c) : Fn P ν 31 [.ptr c.cells 0] (faultV c) := by
  intro H nx
  refine h _ _ _ _ rfl fun hwf => ?_
  unfold V_Category_fault
  refine den_call (fc := (26, [])) rfl (by first | (simp only [SS, Nat.reduceEqDiff, Nat.reduceAdd, iput, puts, FF, frzL_cat]; done) | (simp only [SS, Nat.reduceEqDiff, Nat.reduceAdd, iput, puts, FF, frzL_cat]; rfl)) ((arrows_ok ha c).fzi) ?_
  have n40 := s.n40
  have cl := s.cl
  have tl := s.tl
  have th : ∀ a b : Int, 0 ≤ a → a < c.f.length → 0 ≤ b → b < c.f.length → Fz (OkM P ν) 34 [.ptr c.cells 0, int a, int b] (int (c.K a b)) := fun a b h1 h2 h3 h4 =>
    (then_ok ht c a b h1 (by omega) h3 (by rw [s.rowLen h1 h2]; exact h4)).fzi
  refine den_for c.f.length (fun i => ∀ k, k < i → idOk c k = true) (fun x hx => by omega) fun f hf hp => ?_
  by_cases hlt : f < c.f.length
  · obtain ⟨a1, a2⟩ := s.fLt hlt
    obtain ⟨a3, a4⟩ := s.iLt a1 a2
    obtain ⟨b1, b2⟩ := s.tLt hlt
    obtain ⟨b3, b4⟩ := s.iLt b1 b2
    simp only [Cat.F, Cat.T, Cat.I, Int.toNat_natCast] at a1 a2 a3 a4 b1 b2 b3 b4
    have a6 : (c.f.getD f 0).toNat < c.i.length := by omega
    have b6 : (c.t.getD f 0).toNat < c.i.length := by omega
    simp only [SS, Nat.reduceEqDiff, Nat.reduceAdd, iput, puts, cat1, cat2, cat3, cat4, hlt, a1, a2, a6, b1, b2, b6, cl, tl, not_true_eq_false]
    have bad : ¬ (c.K (c.I (c.F f)) f = f ∧ c.K f (c.I (c.T f)) = f) → .tup [int 1, int f, int 0, int 0] = faultV c := fun hb => by
      have : idOk c f = false := by simpa [idOk] using hb
      simp only [faultV, idF_some hlt this hp]
    refine den_call (fc := (34, [])) rfl (by first | (simp only [SS, Nat.reduceEqDiff, Nat.reduceAdd, iput, puts, FF, frzL_cat]; done) | (simp only [SS, Nat.reduceEqDiff, Nat.reduceAdd, iput, puts, FF, frzL_cat]; rfl)) (th (c.i.getD (c.f.getD f 0).toNat 0) f a3 a4 (by omega) (by omega)) ?_
    simp only [SS, Nat.reduceEqDiff, Nat.reduceAdd, iput, puts, cat1, cat2, cat3, cat4, hlt, a1, a2, a6, b1, b2, b6, cl, tl, not_true_eq_false]
    refine ⟨fun h1 => ?_, fun h1 => ?_⟩
    · exact ⟨_, rfl, H, fun _ _ h => h, bad (fun hb => h1 hb.1), rfl, Nat.le_refl _⟩
    refine den_call (fc := (34, [])) rfl (by first | (simp only [SS, Nat.reduceEqDiff, Nat.reduceAdd, iput, puts, FF, frzL_cat]; done) | (simp only [SS, Nat.reduceEqDiff, Nat.reduceAdd, iput, puts, FF, frzL_cat]; rfl)) (th f (c.i.getD (c.t.getD f 0).toNat 0) (by omega) (by omega) b3 b4) ?_
    simp only [SS, Nat.reduceEqDiff, Nat.reduceAdd, iput, puts, wrap_succ (show f < 9223372036854775807 by omega)]
    refine ⟨fun h2 => ?_, fun h2 => up rfl hlt fun k hk => ?_⟩
    · exact ⟨_, rfl, H, fun _ _ h => h, bad (fun hb => h2 hb.2), rfl, Nat.le_refl _⟩
    · by_cases e : k = f
      · subst e; simp only [idOk, Bool.and_eq_true, beq_iff_eq]; exact ⟨h1, h2⟩
      · exact hp k (by omega)
  simp only [SS, Nat.reduceEqDiff, Nat.reduceAdd, iput, puts, hlt, not_false_eq_true]
  have hid := idF_none (c := c) fun k hk => hp k (by omega)
  clear hp hlt hf
  refine den_for c.f.length (fun i => ∀ f', f' < i → ∀ g', g' < c.f.length → ∀ h', h' < c.f.length → asBad c f' g' h' = false) (fun x hx => by omega) fun f hf h1 => ?_
  by_cases hlt : f < c.f.length
  · simp only [SS, Nat.reduceEqDiff, Nat.reduceAdd, iput, puts, hlt, not_true_eq_false]
    refine den_for c.f.length (fun i => ∀ g', g' < i → ∀ h', h' < c.f.length → asBad c f g' h' = false) (fun x hx => by omega) fun g hg h2 => ?_
    by_cases hlt2 : g < c.f.length
    · simp only [SS, Nat.reduceEqDiff, Nat.reduceAdd, iput, puts, cat1, cat2, hlt, hlt2, tl, not_true_eq_false]
      refine den_call (fc := (34, [])) rfl (by first | (simp only [SS, Nat.reduceEqDiff, Nat.reduceAdd, iput, puts, FF, frzL_cat]; done) | (simp only [SS, Nat.reduceEqDiff, Nat.reduceAdd, iput, puts, FF, frzL_cat]; rfl)) (th f g (by omega) (by omega) (by omega) (by omega)) ?_
      simp only [SS, Nat.reduceEqDiff, Nat.reduceAdd, iput, puts, wrap_succ (show g < 9223372036854775807 by omega)]
      refine ⟨fun h3 => up rfl hlt2 fun k hk h' hh' => ?_, fun h3 => ?_⟩
      · by_cases e : k = g
        · subst e
          have : c.T f ≠ c.F k := fun e => by have := (s.kIff hlt hlt2).2 e; omega
          simp only [asBad]; simp only [beq_eq_false_iff_ne.2 this, Bool.false_and]
        · exact h2 k (by omega) h' hh'
      · have h3' : c.T f = c.F g := (s.kIff hlt hlt2).1 (by omega)
        refine den_for c.f.length (fun i => ∀ h', h' < i → asBad c f g h' = false) (fun x hx => by omega) fun h hh h4 => ?_
        by_cases hlt3 : h < c.f.length
        · simp only [SS, Nat.reduceEqDiff, Nat.reduceAdd, iput, puts, cat1, cat2, hlt, hlt2, hlt3, tl, not_true_eq_false]
          refine den_call (fc := (34, [])) rfl (by first | (simp only [SS, Nat.reduceEqDiff, Nat.reduceAdd, iput, puts, FF, frzL_cat]; done) | (simp only [SS, Nat.reduceEqDiff, Nat.reduceAdd, iput, puts, FF, frzL_cat]; rfl)) (th g h (by omega) (by omega) (by omega) (by omega)) ?_
          simp only [SS, Nat.reduceEqDiff, Nat.reduceAdd, iput, puts, wrap_succ (show h < 9223372036854775807 by omega)]
          refine ⟨fun h5 => ?_, fun h5 => up rfl hlt3 fun k hk => ?_⟩
          · have h5' : c.T g = c.F h := (s.kIff hlt2 hlt3).1 (by omega)
            obtain ⟨k1, k2, k3, k4⟩ := s.kPos hlt hlt2 h3'
            obtain ⟨m1, m2, m3, m4⟩ := s.kPos hlt2 hlt3 h5'
            refine den_call (fc := (34, [])) rfl (by first | (simp only [SS, Nat.reduceEqDiff, Nat.reduceAdd, iput, puts, FF, frzL_cat]; done) | (simp only [SS, Nat.reduceEqDiff, Nat.reduceAdd, iput, puts, FF, frzL_cat]; rfl)) (th f g (by omega) (by omega) (by omega) (by omega)) ?_
            refine den_call (fc := (34, [])) rfl (by first | (simp only [SS, Nat.reduceEqDiff, Nat.reduceAdd, iput, puts, FF, frzL_cat]; done) | (simp only [SS, Nat.reduceEqDiff, Nat.reduceAdd, iput, puts, FF, frzL_cat]; rfl)) (th (c.K f g) h k1 k2 (by omega) (by omega)) ?_
            refine den_call (fc := (34, [])) rfl (by first | (simp only [SS, Nat.reduceEqDiff, Nat.reduceAdd, iput, puts, FF, frzL_cat]; done) | (simp only [SS, Nat.reduceEqDiff, Nat.reduceAdd, iput, puts, FF, frzL_cat]; rfl)) (th g h (by omega) (by omega) (by omega) (by omega)) ?_
            refine den_call (fc := (34, [])) rfl (by first | (simp only [SS, Nat.reduceEqDiff, Nat.reduceAdd, iput, puts, FF, frzL_cat]; done) | (simp only [SS, Nat.reduceEqDiff, Nat.reduceAdd, iput, puts, FF, frzL_cat]; rfl)) (th f (c.K g h) (by omega) (by omega) m1 m2) ?_
            simp only [SS, Nat.reduceEqDiff, Nat.reduceAdd, iput, puts, wrap_succ (show h < 9223372036854775807 by omega)]
            refine ⟨fun h6 => ?_, fun h6 => up rfl hlt3 fun k hk => ?_⟩
            · refine ⟨_, rfl, H, fun _ _ h => h, ?_, rfl, Nat.le_refl _⟩
              have hb : asBad c f g h = true := by simp only [asBad, Bool.and_eq_true, beq_iff_eq, bne_iff_ne, ne_eq]; exact ⟨⟨h3', h5'⟩, h6⟩
              simp only [faultV, hid, asF_some hlt hlt2 hlt3 hb h1 h2 h4]
              rfl
            · by_cases e : k = h
              · subst e; simp only [asBad]; rw [show (c.K (c.K f g) k != c.K f (c.K g k)) = false from bne_eq_false_iff_eq.2 h6]; simp
              · exact h4 k (by omega)
          · by_cases e : k = h
            · subst e
              have : c.T g ≠ c.F k := fun e => by have := (s.kIff hlt2 hlt3).2 e; omega
              simp only [asBad]; simp only [beq_eq_false_iff_ne.2 this, Bool.and_false, Bool.false_and]
            · exact h4 k (by omega)
        · simp only [SS, Nat.reduceEqDiff, Nat.reduceAdd, iput, puts, hlt3, not_false_eq_true, wrap_succ (show g < 9223372036854775807 by omega)]
          refine up rfl hlt2 fun k hk h' hh' => ?_
          by_cases e : k = g
          · subst e; exact h4 h' (by omega)
          · exact h2 k (by omega) h' hh'
    · simp only [SS, Nat.reduceEqDiff, Nat.reduceAdd, iput, puts, hlt2, not_false_eq_true, wrap_succ (show f < 9223372036854775807 by omega)]
      refine up rfl hlt fun k hk g' hg' h' hh' => ?_
      by_cases e : k = f
      · subst e; exact h2 g' (by omega) h' hh'
      · exact h1 k (by omega) g' hg' h' hh'
  · simp only [SS, Nat.reduceEqDiff, Nat.reduceAdd, iput, puts, hlt, not_false_eq_true]
    refine ⟨_, rfl, H, fun _ _ h => h, ?_, rfl, Nat.le_refl _⟩
    simp only [faultV, hid, asF_none fun f' hf' => h1 f' (by omega)]
    rfl

/-- The lists are no longer than the statements let by. -/
structure Small (c : Cat) : Prop where
  f : c.f.length ≤ 1048576
  t : c.t.length ≤ 1048576
  i : c.i.length ≤ 1048576
  c : c.c.length ≤ 1048576

def V_Category_isCategory : Vc :=
  .op true (.call (.f 30) [.t 0]) <|
  .op true (.p .bnot [.t 1]) <|
  .br 2
   (.ret [(.c (bool false), none)])
   (.op true (.call (.f 31) [.t 0]) <|
   .op true (.p (.ext 0) [.t 3]) <|
   .op true (.p (.ext 1) [.t 3]) <|
   .op true (.p (.ext 2) [.t 3]) <|
   .op true (.p (.ext 3) [.t 3]) <|
   .op true (.p (.bin .eql) [.t 4, .c (int 0)]) <|
   .ret [(.t 8, none)])
/-- What the program's test for a category rests on. -/
structure HCat (P : Program) (ν : Nat → FuncId) : Prop where
  arrows : Has P ν 26 1 V_Category_arrows
  inRange : Has P ν 32 3 V_inRange
  within : Has P ν 25 2 V_within
  ends : Has P ν 38 2 V_Category_ends
  thn : Has P ν 34 3 V_Category_then
  isShape : Has P ν 30 1 V_Category_isShape
  fault : Has P ν 31 1 V_Category_fault
  isCategory : Has P ν 24 1 V_Category_isCategory

theorem isCategory_ok (K : HCat P ν) (c : Cat) (b : Small c) : Fn P ν 24 [.ptr c.cells 0] (bool (decide (IsCat c))) := by
  intro H nx
  refine K.isCategory _ _ _ _ rfl fun hwf => ?_
  unfold V_Category_isCategory
  refine den_call (fc := (30, [])) rfl (by first | (simp only [SS, Nat.reduceEqDiff, Nat.reduceAdd, iput, puts, FF, frzL_cat]; done) | (simp only [SS, Nat.reduceEqDiff, Nat.reduceAdd, iput, puts, FF, frzL_cat]; rfl)) ((isShape_ok K.arrows K.inRange K.within K.ends K.isShape c b.f b.t b.i b.c).fzb) ?_
  simp only [SS, Nat.reduceEqDiff, Nat.reduceAdd, iput, puts]
  refine ⟨fun h1 => ?_, fun h1 => ?_⟩
  · exact ⟨_, rfl, H, fun _ _ h => h, ret_false (fun s => h1 s.1), rfl, Nat.le_refl _⟩
  obtain ⟨k, x, y, z, e1, e2⟩ := faultV_tup c
  have hf := fault_ok K.arrows K.thn K.fault c h1
  rw [e1] at hf
  refine den_call (fc := (31, [])) rfl (by first | (simp only [SS, Nat.reduceEqDiff, Nat.reduceAdd, iput, puts, FF, frzL_cat]; done) | (simp only [SS, Nat.reduceEqDiff, Nat.reduceAdd, iput, puts, FF, frzL_cat]; rfl)) (hf.fz4) ?_
  simp only [SS, Nat.reduceEqDiff, Nat.reduceAdd, iput, puts]
  refine ⟨_, rfl, H, fun _ _ h => h, ?_, rfl, Nat.le_refl _⟩
  show bool (k == 0) = _
  by_cases e : k = 0
  · rw [show (k == 0) = true from by simpa using e]; exact ret_true ⟨h1, e2.1 e⟩
  · rw [show (k == 0) = false from by simpa using e]; exact ret_false fun s => e (e2.2 s.2)

def V_spec_l02Is : Vc :=
  .op true (.p .box [.t 0]) <|
  .op true (.p (.ld (some 5)) [.t 1]) <|
  .op true (.call (.f 28) [.t 2]) <|
  .op true (.p .bnot [.t 3]) <|
  .br 4
   (.ret [(.c (bool false), none)])
   (.op true (.p (.ld (some 5)) [.t 1]) <|
   .op true (.call (.f 29) [.t 5]) <|
   .op true (.p (.ext 0) [.t 6]) <|
   .op true (.p (.ext 1) [.t 6]) <|
   .op true (.p (.ext 2) [.t 6]) <|
   .op true (.p (.ext 3) [.t 6]) <|
   .op true (.p (.bin .eql) [.t 7, .c (int 0)]) <|
   .ret [(.t 11, none)])
structure HSpec (P : Program) (ν : Nat → FuncId) : Prop where
  l01In : Has P ν 35 3 V_spec_l01In
  l01Map : Has P ν 37 2 V_spec_l01Map
  l02Ends : Has P ν 36 3 V_spec_l02Ends
  isShape : Has P ν 28 1 V_spec_IsShape
  l02Fault : Has P ν 29 1 V_spec_l02Fault
  l02Is : Has P ν 22 1 V_spec_l02Is
theorem l02Is_ok (K : HSpec P ν) (c : Cat) (b : Small c) : Fn P ν 22 [.agg c.cells] (bool (decide (IsCat c))) := by
  intro H nx
  refine K.l02Is _ _ _ _ rfl fun hwf => ?_
  unfold V_spec_l02Is
  simp only [SS, Nat.reduceEqDiff, Nat.reduceAdd, iput, puts, p_boxc, p_ldc]
  refine den_call (fc := (28, [])) rfl (by first | (simp only [SS, Nat.reduceEqDiff, Nat.reduceAdd, iput, puts, FF, frzL_cat, frzL_cat]; done) | (simp only [SS, Nat.reduceEqDiff, Nat.reduceAdd, iput, puts, FF, frzL_cat, frzL_cat]; rfl)) ((sIsShape_ok K.l01In K.l01Map K.l02Ends K.isShape c b.f b.t b.i b.c).fzb) ?_
  simp only [SS, Nat.reduceEqDiff, Nat.reduceAdd, iput, puts, p_ldc]
  refine ⟨fun h1 => ?_, fun h1 => ?_⟩
  · exact ⟨_, rfl, H, fun _ _ h => h, ret_false (fun s => h1 s.1), rfl, Nat.le_refl _⟩
  obtain ⟨k, x, y, z, e1, e2⟩ := faultV_tup c
  have hf := l02Fault_ok K.l02Fault c h1
  rw [e1] at hf
  refine den_call (fc := (29, [])) rfl (by first | (simp only [SS, Nat.reduceEqDiff, Nat.reduceAdd, iput, puts, FF, frzL_cat, frzL_cat]; done) | (simp only [SS, Nat.reduceEqDiff, Nat.reduceAdd, iput, puts, FF, frzL_cat, frzL_cat]; rfl)) hf.fz4 ?_
  simp only [SS, Nat.reduceEqDiff, Nat.reduceAdd, iput, puts]
  refine ⟨_, rfl, H, fun _ _ h => h, ?_, rfl, Nat.le_refl _⟩
  show bool (k == 0) = _
  by_cases e : k = 0
  · rw [show (k == 0) = true from by simpa using e]; exact ret_true ⟨h1, e2.1 e⟩
  · rw [show (k == 0) = false from by simpa using e]; exact ret_false fun s => e (e2.2 s.2)
end Go.Av

/-
  Arrows between two objects, lifts, sections; the error codes.
-/
namespace Go.Av
set_option linter.unusedSectionVars false
set_option linter.unusedSimpArgs false
set_option linter.unusedVariables false
variable [md : Md]
open Classical
set_option linter.unusedSimpArgs false
set_option linter.unusedVariables false
variable {P : Program} {ν : Nat → FuncId}

/-- The numbers below n that meet p, rising. -/
def selL (n : Nat) (p : Nat → Bool) : List Int := ((List.range n).filter p).map fun (k : Nat) => (k : Int)
theorem selL_succ (m : Nat) (p : Nat → Bool) : selL (m + 1) p = selL m p ++ (if p m then [(m : Int)] else []) := by
  simp only [selL, List.range_succ, List.filter_append, List.map_append]
  congr 1
  simp only [List.filter_cons, List.filter_nil]
  split <;> simp
theorem selL_len (m : Nat) (p : Nat → Bool) : (selL m p).length ≤ m := by
  simp only [selL, List.length_map]; exact Nat.le_trans (List.length_filter_le _ _) (by simp)

def homL (c : Cat) (x y : Int) : List Int := selL c.f.length fun k => c.F k == x && c.T k == y

def V_Category_hom : Vc :=
  .op true (.p (.msl 0 [] []) []) <|
  .op true (.p .nck [.t 0]) <|
  .op true (.p (.fad 1) [.t 4]) <|
  .op true (.p (.ld none) [.t 5]) <|
  .op true (.p .len [.t 6]) <|
  .loop 0 [.t 3, .c (int 0)] <|
  .op true (.p (.bin .lss) [.t 9, .t 7]) <|
  .br 10
   (.op true (.p .nck [.t 0]) <|
   .op true (.p (.fad 1) [.t 11]) <|
   .op true (.p (.ld none) [.t 12]) <|
   .op true (.p (.iad 1) [.t 13, .t 9]) <|
   .op true (.p (.ld none) [.t 14]) <|
   .op true (.p (.bin .eql) [.t 15, .t 1]) <|
   .br 16
    (.op true (.p .nck [.t 0]) <|
    .op true (.p (.fad 2) [.t 17]) <|
    .op true (.p (.ld none) [.t 18]) <|
    .op true (.p (.iad 1) [.t 19, .t 9]) <|
    .op true (.p (.ld none) [.t 20]) <|
    .op true (.p (.bin .eql) [.t 21, .t 2]) <|
    .br 22
     (.op true (.p (.msl 1 [int 0] [(0, 1)]) [.t 9]) <|
     .op true (.app 1 (.t 8) (.t 23)) <|
     .op true (.p (.bin .add) [.t 9, .c (int 1)]) <|
     .again 0 [.t 24, .t 25])
     (.op true (.p (.bin .add) [.t 9, .c (int 1)]) <|
     .again 0 [.t 8, .t 23]))
    (.op true (.p (.bin .add) [.t 9, .c (int 1)]) <|
    .again 0 [.t 8, .t 17]))
   (.ret [(.t 8, none)])
theorem hom_ok (h : Has P ν 33 3 V_Category_hom) (c : Cat) (x y : Int) (H : Hp) (nx : Nat) (hc : c.f.length ≤ c.t.length) (hb : c.f.length ≤ 1048576) : OkM P ν 33 [.ptr c.cells 0, int x, int y] H nx (IsI (homL c x y) H nx) := by
  refine h _ _ _ _ rfl fun hwf => ?_
  unfold V_Category_hom
  simp only [SS, Nat.reduceEqDiff, Nat.reduceAdd, iput, puts, cat1]
  refine den_loop (α := Nat × AV) (fun a => [a.2, int a.1]) (fun a H' nx' => a.1 ≤ c.f.length ∧ IsI (selL a.1 fun k => c.F k == x && c.T k == y) H nx a.2 H' nx') (fun a => c.f.length - a.1) (0, .nil) ?_ ?_ ?_
  · simp only [SS, Nat.reduceEqDiff, Nat.reduceAdd, iput, puts]; rfl
  · exact ⟨Nat.zero_le _, Nat.le_refl _, .inl ⟨rfl, rfl, rfl⟩⟩
  · rintro ⟨i, v⟩ H' nx' ⟨hi, hI⟩
    simp only at hi hI
    have hs := selL_succ i fun k => c.F k == x && c.T k == y
    have hl := selL_len i fun k => c.F k == x && c.T k == y
    by_cases hlt : i < c.f.length
    · have hlt2 : i < c.t.length := by omega
      simp only [SS, Nat.reduceEqDiff, Nat.reduceAdd, iput, puts, cat1, cat2, hlt, hlt2, wrap_succ (show i < 9223372036854775807 by omega), not_true_eq_false]
      refine ⟨fun h1 => ⟨fun h2 => ?_, fun h2 => ?_⟩, fun h1 => ?_⟩
      · refine den_appI (m := [(i : Int)]) (H0 := H) (nx0 := nx) hI rfl (by simp) (by simp; omega) fun v2 H2 nx2 hI2 => ?_
        simp only [SS, Nat.reduceEqDiff, Nat.reduceAdd, iput, puts, wrap_succ (show i < 9223372036854775807 by omega)]
        rw [← F_nat] at h1
        rw [← T_nat] at h2
        exact ⟨(i + 1, v2), rfl, ⟨by simp only; omega, by simp only [hs, h1, h2]; simpa using hI2⟩, by simp only; omega⟩
      · rw [← T_nat] at h2
        exact ⟨(i + 1, v), rfl, ⟨by simp only; omega, by simp only [hs, beq_eq_false_iff_ne.2 h2]; simpa using hI⟩, by simp only; omega⟩
      · rw [← F_nat] at h1
        exact ⟨(i + 1, v), rfl, ⟨by simp only; omega, by simp only [hs, beq_eq_false_iff_ne.2 h1]; simpa using hI⟩, by simp only; omega⟩
    · have hi' : i = c.f.length := by omega
      subst hi'
      simp only [SS, Nat.reduceEqDiff, Nat.reduceAdd, iput, puts, hlt, not_false_eq_true]
      exact ⟨v, rfl, H', fun _ _ h => h, hI⟩
theorem hom_fz (h : Has P ν 33 3 V_Category_hom) (c : Cat) (x y : Int) (hc : c.f.length ≤ c.t.length) (hb : c.f.length ≤ 1048576) : Fz (OkM P ν) 33 [.ptr c.cells 0, int x, int y] (islice (homL c x y)) :=
  OkM.fz (fun H nx => hom_ok h c x y H nx hc hb) fun _ _ _ hh => hh.frz _

/-- A pair of a slice of the call's own and a number. -/
def IsP (l : List Int) (k : Int) (H : Hp) (nx : Nat) (r : AV) (H' : Hp) (nx' : Nat) : Prop := ∃ r0, r = .tup [r0, int k] ∧ IsI l H nx r0 H' nx'
theorem IsP.frz {l : List Int} {k : Int} {H : Hp} {nx : Nat} {r : AV} {H' : Hp} {nx' : Nat} (h : IsP l k H nx r H' nx') : frzN H' fuel r = some (.tup [islice l, int k]) := by
  obtain ⟨r0, rfl, h⟩ := h
  have := h.frz 4
  simp [fuel, frzN, this, frzN_int]






end Go.Av

/-
  SectionsOf: the program's and the reference's.
-/
namespace Go.Av
set_option linter.unusedSectionVars false
set_option linter.unusedSimpArgs false
set_option linter.unusedVariables false
variable [md : Md]
open Classical
set_option linter.unusedSimpArgs false
set_option linter.unusedVariables false
variable {P : Program} {ν : Nat → FuncId}

theorem IsI.some (l : List Int) (H : Hp) (nx : Nat) : ∃ u H' nx', IsI l H nx u H' nx' := by
  by_cases e : l = []
  · exact ⟨.nil, H, nx, Nat.le_refl _, .inl ⟨e, rfl, rfl⟩⟩
  · exact ⟨_, _, nx + 1, Nat.le_succ _, .inr ⟨nx, Nat.le_refl _, Nat.lt_succ_self _, rfl, rfl⟩⟩
theorem IsI.nil (H : Hp) (nx : Nat) : IsI [] H nx .nil H nx := ⟨Nat.le_refl _, .inl ⟨rfl, rfl, rfl⟩⟩






end Go.Av

/-
  The statements' own helpers: sizes, copies, comparisons, marks.
-/
namespace Go.Av
set_option linter.unusedSectionVars false
set_option linter.unusedSimpArgs false
set_option linter.unusedVariables false
variable [md : Md]
open Classical
set_option linter.unusedSimpArgs false
set_option linter.unusedVariables false
variable {P : Program} {ν : Nat → FuncId}

theorem list_eq_of {l m : List Int} (h1 : l.length = m.length) (h2 : ∀ k, k < l.length → l.getD k 0 = m.getD k 0) : l = m := by
  refine List.ext_getElem h1 fun i a b => ?_
  have := h2 i a
  simpa [List.getD, a, b] using this
theorem lists_eq_of {l m : List (List Int)} (h1 : l.length = m.length) (h2 : ∀ k, k < l.length → l.getD k [] = m.getD k []) : l = m := by
  refine List.ext_getElem h1 fun i a b => ?_
  have := h2 i a
  simpa [List.getD, a, b] using this

def V_laws_eqInt64S : Vc :=
  .op true (.p .len [.t 0]) <|
  .op true (.p .len [.t 1]) <|
  .op true (.p (.bin .neq) [.t 2, .t 3]) <|
  .br 4
   (.ret [(.c (bool false), none)])
   (.loop 0 [.c (int 0)] <|
   .op true (.p .len [.t 0]) <|
   .op true (.p (.bin .lss) [.t 5, .t 6]) <|
   .br 7
    (.op true (.p (.iad 1) [.t 0, .t 5]) <|
    .op true (.p (.ld none) [.t 8]) <|
    .op true (.p (.iad 1) [.t 1, .t 5]) <|
    .op true (.p (.ld none) [.t 10]) <|
    .op true (.p (.bin .neq) [.t 9, .t 11]) <|
    .br 12
     (.ret [(.c (bool false), none)])
     (.op true (.p (.bin .add) [.t 5, .c (int 1)]) <|
     .again 0 [.t 13]))
    (.ret [(.c (bool true), none)]))
theorem eqI_ok (h : Has P ν 7 2 V_laws_eqInt64S) (l m : List Int) (hl : l.length < 9223372036854775807) : Fn P ν 7 [islice l, islice m] (bool (decide (l = m))) := by
  intro H nx
  refine h _ _ _ _ rfl fun hwf => ?_
  unfold V_laws_eqInt64S
  simp only [SS, Nat.reduceEqDiff, Nat.reduceAdd, iput, puts]
  refine ⟨fun h1 => ?_, fun h1 => ?_⟩
  · exact ⟨_, rfl, H, fun _ _ h => h, ret_false (fun e => h1 (by rw [e])), rfl, Nat.le_refl _⟩
  have h1' : l.length = m.length := by omega
  refine den_for l.length (fun i => ∀ k, k < i → l.getD k 0 = m.getD k 0) (fun k hk => by omega) fun i hi hp => ?_
  by_cases hlt : i < l.length
  · have hlt2 : i < m.length := by omega
    simp only [SS, Nat.reduceEqDiff, Nat.reduceAdd, iput, puts, hlt, hlt2, not_true_eq_false, wrap_succ (Nat.lt_trans hlt hl)]
    refine ⟨fun h3 => ?_, fun h3 => up rfl hlt fun k hk => ?_⟩
    · exact ⟨_, rfl, H, fun _ _ h => h, ret_false (fun e => h3 (by rw [e])), rfl, Nat.le_refl _⟩
    · by_cases e : k = i
      · subst e; exact h3
      · exact hp k (by omega)
  · simp only [SS, Nat.reduceEqDiff, Nat.reduceAdd, iput, puts, hlt, not_false_eq_true]
    exact ⟨_, rfl, H, fun _ _ h => h, ret_true (list_eq_of h1' fun k hk => hp k (by omega)), rfl, Nat.le_refl _⟩

def V_laws_eqInt64SS : Vc :=
  .op true (.p .len [.t 0]) <|
  .op true (.p .len [.t 1]) <|
  .op true (.p (.bin .neq) [.t 2, .t 3]) <|
  .br 4
   (.ret [(.c (bool false), none)])
   (.loop 0 [.c (int 0)] <|
   .op true (.p .len [.t 0]) <|
   .op true (.p (.bin .lss) [.t 5, .t 6]) <|
   .br 7
    (.op true (.p (.iad 1) [.t 0, .t 5]) <|
    .op true (.p (.ld none) [.t 8]) <|
    .op true (.p (.iad 1) [.t 1, .t 5]) <|
    .op true (.p (.ld none) [.t 10]) <|
    .op true (.call (.f 7) [.t 9, .t 11]) <|
    .op true (.p .bnot [.t 12]) <|
    .br 13
     (.ret [(.c (bool false), none)])
     (.op true (.p (.bin .add) [.t 5, .c (int 1)]) <|
     .again 0 [.t 14]))
    (.ret [(.c (bool true), none)]))
theorem eqII_ok (he : Has P ν 7 2 V_laws_eqInt64S) (h : Has P ν 20 2 V_laws_eqInt64SS) (l m : List (List Int)) (hl : l.length < 9223372036854775807) (hr : ∀ k, k < l.length → (l.getD k []).length < 9223372036854775807) : Fn P ν 20 [.sl (rows l) l.length, .sl (rows m) m.length] (bool (decide (l = m))) := by
  intro H nx
  refine h _ _ _ _ rfl fun hwf => ?_
  unfold V_laws_eqInt64SS
  simp only [SS, Nat.reduceEqDiff, Nat.reduceAdd, iput, puts]
  refine ⟨fun h1 => ?_, fun h1 => ?_⟩
  · exact ⟨_, rfl, H, fun _ _ h => h, ret_false (fun e => h1 (by rw [e])), rfl, Nat.le_refl _⟩
  have h1' : l.length = m.length := by omega
  refine den_for l.length (fun i => ∀ k, k < i → l.getD k [] = m.getD k []) (fun k hk => by omega) fun i hi hp => ?_
  by_cases hlt : i < l.length
  · have hlt2 : i < m.length := by omega
    simp only [SS, Nat.reduceEqDiff, Nat.reduceAdd, iput, puts, hlt, hlt2, not_true_eq_false]
    refine den_call (fc := (7, [])) rfl (by first | (simp only [SS, Nat.reduceEqDiff, Nat.reduceAdd, iput, puts, FF, frzL_cat]; done) | (simp only [SS, Nat.reduceEqDiff, Nat.reduceAdd, iput, puts, FF, frzL_cat]; rfl)) ((eqI_ok he (l.getD i []) (m.getD i []) (hr i hlt)).fzb) ?_
    simp only [SS, Nat.reduceEqDiff, Nat.reduceAdd, iput, puts, wrap_succ (Nat.lt_trans hlt hl)]
    refine ⟨fun h3 => ?_, fun h3 => up rfl hlt fun k hk => ?_⟩
    · exact ⟨_, rfl, H, fun _ _ h => h, ret_false (fun e => h3 (by rw [e])), rfl, Nat.le_refl _⟩
    · by_cases e : k = i
      · subst e; exact h3
      · exact hp k (by omega)
  · simp only [SS, Nat.reduceEqDiff, Nat.reduceAdd, iput, puts, hlt, not_false_eq_true]
    exact ⟨_, rfl, H, fun _ _ h => h, ret_true (lists_eq_of h1' fun k hk => hp k (by omega)), rfl, Nat.le_refl _⟩

theorem Cat.ext {a b : Cat} (h1 : a.o = b.o) (h2 : a.f = b.f) (h3 : a.t = b.t) (h4 : a.i = b.i) (h5 : a.c = b.c) : a = b := by cases a; cases b; simp_all
/-- All the lists are short, the rows too. -/
structure Small2 (x : Cat) : Prop extends Small x where
  row : ∀ k, k < x.c.length → (x.c.getD k []).length ≤ 1048576

def V_laws_eqCategory : Vc :=
  .op true (.p .box [.t 0]) <|
  .op true (.p .box [.t 1]) <|
  .op true (.p (.fad 0) [.t 2]) <|
  .op true (.p (.ld none) [.t 4]) <|
  .op true (.p (.fad 0) [.t 3]) <|
  .op true (.p (.ld none) [.t 6]) <|
  .op true (.p (.bin .neq) [.t 5, .t 7]) <|
  .br 8
   (.ret [(.c (bool false), none)])
   (.op true (.p (.fad 1) [.t 2]) <|
   .op true (.p (.ld none) [.t 9]) <|
   .op true (.p (.fad 1) [.t 3]) <|
   .op true (.p (.ld none) [.t 11]) <|
   .op true (.call (.f 7) [.t 10, .t 12]) <|
   .op true (.p .bnot [.t 13]) <|
   .br 14
    (.ret [(.c (bool false), none)])
    (.op true (.p (.fad 2) [.t 2]) <|
    .op true (.p (.ld none) [.t 15]) <|
    .op true (.p (.fad 2) [.t 3]) <|
    .op true (.p (.ld none) [.t 17]) <|
    .op true (.call (.f 7) [.t 16, .t 18]) <|
    .op true (.p .bnot [.t 19]) <|
    .br 20
     (.ret [(.c (bool false), none)])
     (.op true (.p (.fad 3) [.t 2]) <|
     .op true (.p (.ld none) [.t 21]) <|
     .op true (.p (.fad 3) [.t 3]) <|
     .op true (.p (.ld none) [.t 23]) <|
     .op true (.call (.f 7) [.t 22, .t 24]) <|
     .op true (.p .bnot [.t 25]) <|
     .br 26
      (.ret [(.c (bool false), none)])
      (.op true (.p (.fad 4) [.t 2]) <|
      .op true (.p (.ld none) [.t 27]) <|
      .op true (.p (.fad 4) [.t 3]) <|
      .op true (.p (.ld none) [.t 29]) <|
      .op true (.call (.f 20) [.t 28, .t 30]) <|
      .op true (.p .bnot [.t 31]) <|
      .br 32
       (.ret [(.c (bool false), none)])
       (.ret [(.c (bool true), none)])))))
theorem eqCat_ok (he : Has P ν 7 2 V_laws_eqInt64S) (he2 : Has P ν 20 2 V_laws_eqInt64SS) (h : Has P ν 8 2 V_laws_eqCategory) (a b : Cat) (s : Small2 a) : Fn P ν 8 [.agg a.cells, .agg b.cells] (bool (decide (a = b))) := by
  intro H nx
  refine h _ _ _ _ rfl fun hwf => ?_
  unfold V_laws_eqCategory
  have s1 := s.f
  have s2 := s.t
  have s3 := s.i
  have s4 := s.c
  simp only [SS, Nat.reduceEqDiff, Nat.reduceAdd, iput, puts, p_boxc, cat0, cat1]
  refine ⟨fun h1 => ?_, fun h1 => ?_⟩
  · exact ⟨_, rfl, H, fun _ _ h => h, ret_false (fun e => h1 (by rw [e])), rfl, Nat.le_refl _⟩
  refine den_call (fc := (7, [])) rfl (by first | (simp only [SS, Nat.reduceEqDiff, Nat.reduceAdd, iput, puts, FF, frzL_cat]; done) | (simp only [SS, Nat.reduceEqDiff, Nat.reduceAdd, iput, puts, FF, frzL_cat]; rfl)) ((eqI_ok he a.f b.f (by omega)).fzb) ?_
  simp only [SS, Nat.reduceEqDiff, Nat.reduceAdd, iput, puts, cat2]
  refine ⟨fun h2 => ?_, fun h2 => ?_⟩
  · exact ⟨_, rfl, H, fun _ _ h => h, ret_false (fun e => h2 (by rw [e])), rfl, Nat.le_refl _⟩
  refine den_call (fc := (7, [])) rfl (by first | (simp only [SS, Nat.reduceEqDiff, Nat.reduceAdd, iput, puts, FF, frzL_cat]; done) | (simp only [SS, Nat.reduceEqDiff, Nat.reduceAdd, iput, puts, FF, frzL_cat]; rfl)) ((eqI_ok he a.t b.t (by omega)).fzb) ?_
  simp only [SS, Nat.reduceEqDiff, Nat.reduceAdd, iput, puts, cat3]
  refine ⟨fun h3 => ?_, fun h3 => ?_⟩
  · exact ⟨_, rfl, H, fun _ _ h => h, ret_false (fun e => h3 (by rw [e])), rfl, Nat.le_refl _⟩
  refine den_call (fc := (7, [])) rfl (by first | (simp only [SS, Nat.reduceEqDiff, Nat.reduceAdd, iput, puts, FF, frzL_cat]; done) | (simp only [SS, Nat.reduceEqDiff, Nat.reduceAdd, iput, puts, FF, frzL_cat]; rfl)) ((eqI_ok he a.i b.i (by omega)).fzb) ?_
  simp only [SS, Nat.reduceEqDiff, Nat.reduceAdd, iput, puts, cat4]
  refine ⟨fun h4 => ?_, fun h4 => ?_⟩
  · exact ⟨_, rfl, H, fun _ _ h => h, ret_false (fun e => h4 (by rw [e])), rfl, Nat.le_refl _⟩
  refine den_call (fc := (20, [])) rfl (by first | (simp only [SS, Nat.reduceEqDiff, Nat.reduceAdd, iput, puts, FF, frzL_cat]; done) | (simp only [SS, Nat.reduceEqDiff, Nat.reduceAdd, iput, puts, FF, frzL_cat]; rfl)) ((eqII_ok he he2 a.c b.c (by omega) (fun k hk => by have := s.row k hk; omega)).fzb) ?_
  simp only [SS, Nat.reduceEqDiff, Nat.reduceAdd, iput, puts]
  refine ⟨fun h5 => ?_, fun h5 => ?_⟩
  · exact ⟨_, rfl, H, fun _ _ h => h, ret_false (fun e => h5 (by rw [e])), rfl, Nat.le_refl _⟩
  · exact ⟨_, rfl, H, fun _ _ h => h, ret_true (Cat.ext h1 h2 h3 h4 h5), rfl, Nat.le_refl _⟩

/-- Sizes. -/
def szS (l : List Int) (left : Int) : Int := if left - l.length < 0 then -1 else left - l.length
def szR : List (List Int) → Int → Int
  | [], left => left
  | r :: rs, left => if szS r left < 0 then -1 else szR rs (szS r left)
def szSS (m : List (List Int)) (left : Int) : Int := if left - m.length < 0 then -1 else szR m (left - m.length)
theorem szS_le (l : List Int) (left : Int) (h : 0 ≤ left) : szS l left ≤ left := by unfold szS; split <;> omega
theorem szS_pos {l : List Int} {left : Int} (h : 0 ≤ szS l left) : (l.length : Int) ≤ left ∧ szS l left ≤ left := by unfold szS at *; split at h <;> split <;> omega

def V_laws_szInt64S : Vc :=
  .op true (.p .len [.t 0]) <|
  .op true (.p (.bin .sub) [.t 1, .t 2]) <|
  .op true (.p (.bin .lss) [.t 3, .c (int 0)]) <|
  .br 4
   (.ret [(.c (int (-1)), none)])
   (.ret [(.t 3, none)])
theorem szI_ok (h : Has P ν 12 2 V_laws_szInt64S) (l : List Int) (left : Int) (h0 : 0 ≤ left) (h1 : left ≤ 1048576) (hl : l.length ≤ 9223372036854775807) : Fn P ν 12 [islice l, int left] (int (szS l left)) := by
  intro H nx
  refine h _ _ _ _ rfl fun hwf => ?_
  unfold V_laws_szInt64S
  simp only [SS, Nat.reduceEqDiff, Nat.reduceAdd, iput, puts, wrap_id (show -9223372036854775808 ≤ left - (l.length : Int) by omega) (show left - (l.length : Int) ≤ 9223372036854775807 by omega)]
  refine ⟨fun h2 => ?_, fun h2 => ?_⟩
  · exact ⟨_, rfl, H, fun _ _ h => h, by unfold szS; rw [if_pos h2]; rfl, rfl, Nat.le_refl _⟩
  · exact ⟨_, rfl, H, fun _ _ h => h, by unfold szS; rw [if_neg h2]; rfl, rfl, Nat.le_refl _⟩

theorem szR_pos : ∀ (m : List (List Int)) (left : Int), 0 ≤ left → 0 ≤ szR m left → ∀ k, k < m.length → ((m.getD k []).length : Int) ≤ left
  | [], _, _, _, k, hk => by simp at hk
  | r :: rs, left, h0, h, k, hk => by
    simp only [szR] at h
    split at h
    · omega
    · rename_i h1
      have h2 := szS_pos (l := r) (left := left) (by omega)
      cases k with
      | zero => simpa using h2.1
      | succ k =>
        have := szR_pos rs (szS r left) (by omega) h k (by simpa using hk)
        simp only [List.getD_cons_succ]
        omega
theorem drop_at {m : List (List Int)} {i : Nat} (h : i < m.length) : m.drop i = m.getD i [] :: m.drop (i + 1) := by
  rw [List.drop_eq_getElem_cons h]; simp [List.getD, h]

def V_laws_szInt64SS : Vc :=
  .op true (.p .len [.t 0]) <|
  .op true (.p (.bin .sub) [.t 1, .t 2]) <|
  .op true (.p (.bin .lss) [.t 3, .c (int 0)]) <|
  .br 4
   (.ret [(.c (int (-1)), none)])
   (.loop 0 [.t 3, .c (int 0)] <|
   .op true (.p .len [.t 0]) <|
   .op true (.p (.bin .lss) [.t 6, .t 7]) <|
   .br 8
    (.op true (.p (.iad 1) [.t 0, .t 6]) <|
    .op true (.p (.ld none) [.t 9]) <|
    .op true (.call (.f 12) [.t 10, .t 5]) <|
    .op true (.p (.bin .lss) [.t 11, .c (int 0)]) <|
    .br 12
     (.ret [(.c (int (-1)), none)])
     (.op true (.p (.bin .add) [.t 6, .c (int 1)]) <|
     .again 0 [.t 11, .t 13]))
    (.ret [(.t 5, none)]))
theorem szII_ok (hz : Has P ν 12 2 V_laws_szInt64S) (h : Has P ν 13 2 V_laws_szInt64SS) (m : List (List Int)) (left : Int) (h0 : 0 ≤ left) (h1 : left ≤ 1048576) (hl : m.length ≤ 9223372036854775807) (hr : ∀ k, k < m.length → (m.getD k []).length ≤ 9223372036854775807) :
    Fn P ν 13 [.sl (rows m) m.length, int left] (int (szSS m left)) := by
  intro H nx
  refine h _ _ _ _ rfl fun hwf => ?_
  unfold V_laws_szInt64SS
  simp only [SS, Nat.reduceEqDiff, Nat.reduceAdd, iput, puts, wrap_id (show -9223372036854775808 ≤ left - (m.length : Int) by omega) (show left - (m.length : Int) ≤ 9223372036854775807 by omega)]
  refine ⟨fun h2 => ?_, fun h2 => ?_⟩
  · exact ⟨_, rfl, H, fun _ _ h => h, by unfold szSS; rw [if_pos h2]; rfl, rfl, Nat.le_refl _⟩
  have e0 : szSS m left = szR m (left - m.length) := by unfold szSS; rw [if_neg h2]
  refine den_loop (α := Nat × Int) (fun a => [int a.2, int a.1]) (fun a H' nx' => a.1 ≤ m.length ∧ 0 ≤ a.2 ∧ a.2 ≤ 1048576 ∧ szSS m left = szR (m.drop a.1) a.2 ∧ H' = H ∧ nx' = nx) (fun a => m.length - a.1) (0, left - m.length) ?_ ?_ ?_
  · simp only [SS, Nat.reduceEqDiff, Nat.reduceAdd, iput, puts]; rfl
  · exact ⟨Nat.zero_le _, by simp only; omega, by simp only; omega, e0, rfl, rfl⟩
  · rintro ⟨i, x⟩ H' nx' ⟨g1, g2, g3, g4, g5, g6⟩
    simp only at g1 g2 g3 g4
    subst g5; subst g6
    by_cases hlt : i < m.length
    · rw [drop_at hlt] at g4
      simp only [szR] at g4
      simp only [SS, Nat.reduceEqDiff, Nat.reduceAdd, iput, puts, hlt, not_true_eq_false]
      refine den_call (fc := (12, [])) rfl (by first | (simp only [SS, Nat.reduceEqDiff, Nat.reduceAdd, iput, puts, FF, frzL_cat]; done) | (simp only [SS, Nat.reduceEqDiff, Nat.reduceAdd, iput, puts, FF, frzL_cat]; rfl)) ((szI_ok hz (m.getD i []) x g2 g3 (hr i hlt)).fzi) ?_
      simp only [SS, Nat.reduceEqDiff, Nat.reduceAdd, iput, puts, wrap_succ (show i < 9223372036854775807 by omega)]
      refine ⟨fun h5 => ?_, fun h5 => ?_⟩
      · exact ⟨_, rfl, H', fun _ _ h => h, by rw [g4, if_pos h5]; rfl, rfl, Nat.le_refl _⟩
      · rw [if_neg h5] at g4
        have := szS_pos (l := m.getD i []) (left := x) (by omega)
        exact ⟨(i + 1, szS (m.getD i []) x), rfl, ⟨by simp only; omega, by simp only; omega, by simp only; omega, g4⟩, by simp only; omega⟩
    · simp only [SS, Nat.reduceEqDiff, Nat.reduceAdd, iput, puts, hlt, not_false_eq_true]
      have : m.drop i = [] := List.drop_eq_nil_of_le (by omega)
      rw [this] at g4
      exact ⟨_, rfl, H', fun _ _ h => h, by rw [g4]; rfl, rfl, Nat.le_refl _⟩

def szCat (c : Cat) (left : Int) : Int :=
  if szS c.f left < 0 then -1 else if szS c.t (szS c.f left) < 0 then -1 else if szS c.i (szS c.t (szS c.f left)) < 0 then -1 else
  if szSS c.c (szS c.i (szS c.t (szS c.f left))) < 0 then -1 else szSS c.c (szS c.i (szS c.t (szS c.f left)))
/-- What is known of a category that came in. -/
structure Read (x : Cat) : Prop where
  f : x.f.length ≤ 9223372036854775807
  t : x.t.length ≤ 9223372036854775807
  i : x.i.length ≤ 9223372036854775807
  c : x.c.length ≤ 9223372036854775807
  row : ∀ k, k < x.c.length → (x.c.getD k []).length ≤ 9223372036854775807
theorem szCat_small {c : Cat} {left : Int} (h0 : 0 ≤ left) (h1 : left ≤ 1048576) (h : 0 ≤ szCat c left) : Small2 c := by
  unfold szCat at h
  split at h
  · omega
  · rename_i a1
    split at h
    · omega
    · rename_i a2
      split at h
      · omega
      · rename_i a3
        split at h
        · omega
        · rename_i a4
          have b1 := szS_pos (l := c.f) (left := left) (by omega)
          have b2 := szS_pos (l := c.t) (left := szS c.f left) (by omega)
          have b3 := szS_pos (l := c.i) (left := szS c.t (szS c.f left)) (by omega)
          unfold szSS at a4
          split at a4
          · omega
          · rename_i a5
            have b4 := szR_pos c.c (szS c.i (szS c.t (szS c.f left)) - c.c.length) (by omega) (by omega)
            exact ⟨⟨by omega, by omega, by omega, by omega⟩, fun k hk => by have := b4 k hk; omega⟩

def V_laws_szCategory : Vc :=
  .op true (.p .box [.t 0]) <|
  .op true (.p (.fad 1) [.t 2]) <|
  .op true (.p (.ld none) [.t 3]) <|
  .op true (.call (.f 12) [.t 4, .t 1]) <|
  .op true (.p (.bin .lss) [.t 5, .c (int 0)]) <|
  .br 6
   (.ret [(.c (int (-1)), none)])
   (.op true (.p (.fad 2) [.t 2]) <|
   .op true (.p (.ld none) [.t 7]) <|
   .op true (.call (.f 12) [.t 8, .t 5]) <|
   .op true (.p (.bin .lss) [.t 9, .c (int 0)]) <|
   .br 10
    (.ret [(.c (int (-1)), none)])
    (.op true (.p (.fad 3) [.t 2]) <|
    .op true (.p (.ld none) [.t 11]) <|
    .op true (.call (.f 12) [.t 12, .t 9]) <|
    .op true (.p (.bin .lss) [.t 13, .c (int 0)]) <|
    .br 14
     (.ret [(.c (int (-1)), none)])
     (.op true (.p (.fad 4) [.t 2]) <|
     .op true (.p (.ld none) [.t 15]) <|
     .op true (.call (.f 13) [.t 16, .t 13]) <|
     .op true (.p (.bin .lss) [.t 17, .c (int 0)]) <|
     .br 18
      (.ret [(.c (int (-1)), none)])
      (.ret [(.t 17, none)]))))
theorem szCat_ok (hz : Has P ν 12 2 V_laws_szInt64S) (hz2 : Has P ν 13 2 V_laws_szInt64SS) (h : Has P ν 3 2 V_laws_szCategory) (c : Cat) (s : Read c) (left : Int) (h0 : 0 ≤ left) (h1 : left ≤ 1048576) : Fn P ν 3 [.agg c.cells, int left] (int (szCat c left)) := by
  intro H nx
  refine h _ _ _ _ rfl fun hwf => ?_
  unfold V_laws_szCategory
  simp only [SS, Nat.reduceEqDiff, Nat.reduceAdd, iput, puts, p_boxc, cat1]
  refine den_call (fc := (12, [])) rfl (by first | (simp only [SS, Nat.reduceEqDiff, Nat.reduceAdd, iput, puts, FF, frzL_cat]; done) | (simp only [SS, Nat.reduceEqDiff, Nat.reduceAdd, iput, puts, FF, frzL_cat]; rfl)) ((szI_ok hz c.f left h0 h1 s.f).fzi) ?_
  simp only [SS, Nat.reduceEqDiff, Nat.reduceAdd, iput, puts, cat2]
  have l1 := szS_le c.f left h0
  refine ⟨fun h2 => ?_, fun h2 => ?_⟩
  · exact ⟨_, rfl, H, fun _ _ h => h, by unfold szCat; rw [if_pos h2]; rfl, rfl, Nat.le_refl _⟩
  refine den_call (fc := (12, [])) rfl (by first | (simp only [SS, Nat.reduceEqDiff, Nat.reduceAdd, iput, puts, FF, frzL_cat]; done) | (simp only [SS, Nat.reduceEqDiff, Nat.reduceAdd, iput, puts, FF, frzL_cat]; rfl)) ((szI_ok hz c.t (szS c.f left) (by omega) (by omega) s.t).fzi) ?_
  simp only [SS, Nat.reduceEqDiff, Nat.reduceAdd, iput, puts, cat3]
  have l2 := szS_le c.t (szS c.f left) (by omega)
  refine ⟨fun h3 => ?_, fun h3 => ?_⟩
  · exact ⟨_, rfl, H, fun _ _ h => h, by unfold szCat; rw [if_neg h2, if_pos h3]; rfl, rfl, Nat.le_refl _⟩
  refine den_call (fc := (12, [])) rfl (by first | (simp only [SS, Nat.reduceEqDiff, Nat.reduceAdd, iput, puts, FF, frzL_cat]; done) | (simp only [SS, Nat.reduceEqDiff, Nat.reduceAdd, iput, puts, FF, frzL_cat]; rfl)) ((szI_ok hz c.i (szS c.t (szS c.f left)) (by omega) (by omega) s.i).fzi) ?_
  simp only [SS, Nat.reduceEqDiff, Nat.reduceAdd, iput, puts, cat4]
  have l3 := szS_le c.i (szS c.t (szS c.f left)) (by omega)
  refine ⟨fun h4 => ?_, fun h4 => ?_⟩
  · exact ⟨_, rfl, H, fun _ _ h => h, by unfold szCat; rw [if_neg h2, if_neg h3, if_pos h4]; rfl, rfl, Nat.le_refl _⟩
  refine den_call (fc := (13, [])) rfl (by first | (simp only [SS, Nat.reduceEqDiff, Nat.reduceAdd, iput, puts, FF, frzL_cat]; done) | (simp only [SS, Nat.reduceEqDiff, Nat.reduceAdd, iput, puts, FF, frzL_cat]; rfl)) ((szII_ok hz hz2 c.c (szS c.i (szS c.t (szS c.f left))) (by omega) (by omega) s.c s.row).fzi) ?_
  simp only [SS, Nat.reduceEqDiff, Nat.reduceAdd, iput, puts]
  refine ⟨fun h5 => ?_, fun h5 => ?_⟩
  · exact ⟨_, rfl, H, fun _ _ h => h, by unfold szCat; rw [if_neg h2, if_neg h3, if_neg h4, if_pos h5]; rfl, rfl, Nat.le_refl _⟩
  · exact ⟨_, rfl, H, fun _ _ h => h, by unfold szCat; rw [if_neg h2, if_neg h3, if_neg h4, if_neg h5]; rfl, rfl, Nat.le_refl _⟩
theorem szR_le : ∀ (m : List (List Int)) (left : Int), 0 ≤ left → 0 ≤ szR m left → szR m left ≤ left
  | [], _, _, _ => by simp [szR]
  | r :: rs, left, h0, h => by
    simp only [szR] at h ⊢
    split at h
    · omega
    · rename_i h1
      rw [if_neg h1]
      have h2 := szS_pos (l := r) (left := left) (by omega)
      have := szR_le rs (szS r left) (by omega) h
      omega
theorem szSS_pos {m : List (List Int)} {left : Int} (h0 : 0 ≤ left) (h : 0 ≤ szSS m left) : (m.length : Int) ≤ left ∧ szSS m left ≤ left ∧ ∀ k, k < m.length → ((m.getD k []).length : Int) ≤ left := by
  unfold szSS at *
  split at h
  · omega
  · rename_i h1
    rw [if_neg h1]
    have h2 := szR_le m (left - m.length) (by omega) h
    have h3 := szR_pos m (left - m.length) (by omega) h
    exact ⟨by omega, by omega, fun k hk => by have := h3 k hk; omega⟩
theorem szCat_le {c : Cat} {left : Int} (h0 : 0 ≤ left) (h : 0 ≤ szCat c left) : szCat c left ≤ left := by
  unfold szCat at *
  split at h
  · omega
  split at h
  · omega
  split at h
  · omega
  split at h
  · omega
  rename_i a1 a2 a3 a4
  rw [if_neg a1, if_neg a2, if_neg a3, if_neg a4]
  have b1 := szS_pos (l := c.f) (left := left) (by omega)
  have b2 := szS_pos (l := c.t) (left := szS c.f left) (by omega)
  have b3 := szS_pos (l := c.i) (left := szS c.t (szS c.f left)) (by omega)
  have b4 := szSS_pos (m := c.c) (left := szS c.i (szS c.t (szS c.f left))) (by omega) (by omega)
  omega
end Go.Av

/-
  The statements' own helpers: copies, marks.
-/
namespace Go.Av
set_option linter.unusedSectionVars false
set_option linter.unusedSimpArgs false
set_option linter.unusedVariables false
variable [md : Md]
open Classical
set_option linter.unusedSimpArgs false
set_option linter.unusedVariables false
variable {P : Program} {ν : Nat → FuncId}

theorem flat1 {α : Type} (n : Nat) (a : α) : (List.replicate n [a]).flatten = List.replicate n a := by
  induction n with
  | zero => rfl
  | succ n ih => simp [List.replicate_succ, ih]
theorem hput_eq (H : Hp) (o : Nat) (c : Option (List AV)) : hput H o c o = c := by simp [hput]
theorem hput_ne (H : Hp) (o k : Nat) (c : Option (List AV)) (h : k ≠ o) : hput H o c k = H k := by simp [hput, h]

section
variable {H : Hp} {o n : Nat} {i : Int}
theorem p_iadm {c : List AV} (h : H o = some c) (hl : c.length = n) : pvf H (.iad 1) [.ms o 0 n 1, int i] = if 0 ≤ i ∧ i < n then some (.mp o i.toNat n) else none := by
  simp [pvf, pIad, h, int, hl]
theorem p_lenm {c : List AV} (h : H o = some c) (hl : c.length = n) : pvf H .len [.ms o 0 n 1] = some (int n) := by
  simp [pvf, pLen, h, int, hl]
theorem p_ldm {c : List AV} {p : Nat} (h : H o = some c) (hl : c.length = n) : pvf H (.ld none) [.mp o p n] = c[p]? := by
  simp [pvf, pLd, h, hl]
end
section
variable {C : Ct} {Φ : AV → Hp → Nat → Prop} {n : Nat} {vars : Nat → AV} {H : Hp} {nx : Nat} {Is : Nat → Inv} {r : Vc}
/-- A store of one cell into an object. -/
theorem den_st1 {x y : Opd} {o p m : Nat} {c : List AV} {u : AV} (hx : ev vars x = .mp o p m) (hy : ev vars y = u) (ho : H o = some c) (hl : c.length = m) (hp : p < m) (h1 : u.one = true) (hk : den C Φ r (n + 1) (put vars n (.v undef)) (hput H o (some (c.set p u))) nx Is) :
    den C Φ (.op true (.st 1 x y) r) n vars H nx Is := by
  refine den_st (h := hput H o (some (c.set p u))) ?_ hk
  have hc : u.cells = [u] := by cases u <;> first | rfl | (simp [AV.one] at h1)
  rw [hx, hy]
  simp only [stTo, ho, hl, hc, List.length_cons, List.length_nil, Nat.zero_add, List.all_cons, List.all_nil, h1, Bool.and_true]
  rw [if_pos ⟨trivial, trivial, hp, trivial⟩, List.set_eq_take_append_cons_drop, if_pos (by omega)]
  simp
end
theorem ints_set (l : List Int) (p : Nat) (x : Int) : (ints l).set p (int x) = ints (l.set p x) := by simp [ints, List.map_set]

def IsMk (l : List Int) (H : Hp) (nx : Nat) (r : AV) (H' : Hp) (nx' : Nat) : Prop := r = .ms nx 0 l.length 1 ∧ H' = hput H nx (some (ints l)) ∧ nx' = nx + 1

theorem fill_succ {l : List Int} {i : Nat} (h : i < l.length) : (l.take i ++ List.replicate (l.length - i) 0).set i (l.getD i 0) = l.take (i + 1) ++ List.replicate (l.length - (i + 1)) 0 := by
  refine List.ext_getElem (by simp; omega) fun k h1 h2 => ?_
  simp only [List.getElem_set, List.getElem_append, List.length_take, List.getElem_take, List.getElem_replicate]
  by_cases e1 : i = k
  · subst e1
    simp [h]
    omega
  · by_cases e2 : k < i
    · rw [if_neg e1, dif_pos (by omega), dif_pos (by omega)]
    · rw [if_neg e1, dif_neg (by omega), dif_neg (by omega)]

def V_laws_toInt64S : Vc :=
  .op true (.p .len [.t 0]) <|
  .op true (.mks [int 0] (.t 1) (.t 1)) <|
  .loop 0 [.c (int 0)] <|
  .op true (.p .len [.t 0]) <|
  .op true (.p (.bin .lss) [.t 3, .t 4]) <|
  .br 5
   (.op true (.p (.iad 1) [.t 0, .t 3]) <|
   .op true (.p (.ld none) [.t 6]) <|
   .op true (.p (.iad 1) [.t 2, .t 3]) <|
   .op true (.st 1 (.t 8) (.t 7)) <|
   .op true (.p (.bin .add) [.t 3, .c (int 1)]) <|
   .again 0 [.t 10])
   (.ret [(.t 2, none)])
theorem toI_ok (h : Has P ν 16 1 V_laws_toInt64S) (l : List Int) (hl : l.length ≤ 1048576) (H : Hp) (nx : Nat) : OkM P ν 16 [islice l] H nx (IsMk l H nx) := by
  refine h _ _ _ _ rfl fun hwf => ?_
  unfold V_laws_toInt64S
  simp only [SS, Nat.reduceEqDiff, Nat.reduceAdd, iput, puts]
  refine den_mks (q := (.ms nx 0 l.length 1, hput H nx (some (ints (l.take 0 ++ List.replicate (l.length - 0) 0))), nx + 1)) ?_ ?_
  · simp only [SS, Nat.reduceEqDiff, Nat.reduceAdd, iput, puts, mkTo, int]
    rw [if_pos (by omega), flat1]
    simp [ints, int]
  refine den_loop (α := Nat) (fun i => [int i]) (fun i H' nx' => i ≤ l.length ∧ H' = hput H nx (some (ints (l.take i ++ List.replicate (l.length - i) 0))) ∧ nx' = nx + 1) (fun i => l.length - i) 0 rfl ⟨Nat.zero_le _, rfl, rfl⟩ ?_
  rintro i H' nx' ⟨hi, e1, e2⟩
  subst e1; subst e2
  by_cases hlt : i < l.length
  · have hll : (ints (l.take i ++ List.replicate (l.length - i) 0)).length = l.length := by simp [ints]; omega
    simp only [SS, Nat.reduceEqDiff, Nat.reduceAdd, iput, puts, hlt, p_iadm (hput_eq H nx _) hll, not_true_eq_false]
    refine den_st1 (o := nx) (p := i) (m := l.length) (u := int (l.getD i 0)) rfl rfl (hput_eq H nx _) hll hlt rfl ?_
    simp only [SS, Nat.reduceEqDiff, Nat.reduceAdd, iput, puts, hput_hput, ints_set, fill_succ hlt, wrap_succ (show i < 9223372036854775807 by omega)]
    exact ⟨i + 1, rfl, ⟨by omega, rfl⟩, by omega⟩
  · simp only [SS, Nat.reduceEqDiff, Nat.reduceAdd, iput, puts, hlt, not_false_eq_true]
    refine ⟨_, rfl, _, fun _ _ h => h, rfl, ?_, rfl⟩
    rw [List.take_of_length_le (by omega), show l.length - i = 0 by omega]
    simp

def outer (m : List (List Int)) (nx i : Nat) : List AV := (List.range m.length).map fun j => if j < i then .ms (nx + 1 + j) 0 (m.getD j []).length 1 else .nil
def rowsH (H : Hp) (nx : Nat) (m : List (List Int)) (i : Nat) : Hp := fun k => if k = nx then some (outer m nx i) else if nx < k ∧ k ≤ nx + i then some (ints (m.getD (k - nx - 1) [])) else H k
theorem outer_len (m : List (List Int)) (nx i : Nat) : (outer m nx i).length = m.length := by simp [outer]
theorem outer_set {m : List (List Int)} {nx i : Nat} (h : i < m.length) : (outer m nx i).set i (.ms (nx + 1 + i) 0 (m.getD i []).length 1) = outer m nx (i + 1) := by
  refine List.ext_getElem (by simp [outer]) fun k h1 h2 => ?_
  simp only [outer, List.getElem_set, List.getElem_map, List.getElem_range]
  by_cases e1 : i = k
  · subst e1; simp
  · rw [if_neg e1]
    by_cases e2 : k < i
    · rw [if_pos e2, if_pos (by omega)]
    · rw [if_neg e2, if_neg (by omega)]
def IsMk2 (m : List (List Int)) (H : Hp) (nx : Nat) (r : AV) (H' : Hp) (nx' : Nat) : Prop := r = .ms nx 0 m.length 1 ∧ H' = rowsH H nx m m.length ∧ nx' = nx + 1 + m.length
theorem IsMk.some (l : List Int) (H : Hp) (nx : Nat) : ∃ u H' nx', IsMk l H nx u H' nx' := ⟨_, _, _, rfl, rfl, rfl⟩

def V_laws_toInt64SS : Vc :=
  .op true (.p .len [.t 0]) <|
  .op true (.mks [.nil] (.t 1) (.t 1)) <|
  .loop 0 [.c (int 0)] <|
  .op true (.p .len [.t 0]) <|
  .op true (.p (.bin .lss) [.t 3, .t 4]) <|
  .br 5
   (.op true (.p (.iad 1) [.t 0, .t 3]) <|
   .op true (.p (.ld none) [.t 6]) <|
   .op true (.callm (.f 16) [.t 7]) <|
   .op true (.p (.iad 1) [.t 2, .t 3]) <|
   .op true (.st 1 (.t 9) (.t 8)) <|
   .op true (.p (.bin .add) [.t 3, .c (int 1)]) <|
   .again 0 [.t 11])
   (.ret [(.t 2, none)])
theorem toII_ok (ht : Has P ν 16 1 V_laws_toInt64S) (h : Has P ν 17 1 V_laws_toInt64SS) (m : List (List Int)) (hl : m.length ≤ 1048576) (hr : ∀ k, k < m.length → (m.getD k []).length ≤ 1048576) (H : Hp) (nx : Nat) : OkM P ν 17 [.sl (rows m) m.length] H nx (IsMk2 m H nx) := by
  refine h _ _ _ _ rfl fun hwf => ?_
  unfold V_laws_toInt64SS
  simp only [SS, Nat.reduceEqDiff, Nat.reduceAdd, iput, puts]
  refine den_mks (q := (.ms nx 0 m.length 1, rowsH H nx m 0, nx + 1)) ?_ ?_
  · simp only [SS, Nat.reduceEqDiff, Nat.reduceAdd, iput, puts, mkTo, int]
    rw [if_pos (by omega), flat1]
    simp only [Option.some.injEq, Prod.mk.injEq, Int.toNat_natCast, and_true, true_and, List.length_cons, List.length_nil]
    funext k
    simp only [hput, rowsH]
    by_cases e : k = nx
    · rw [if_pos e, if_pos e]
      congr 1
      refine List.ext_getElem (by simp [outer]) fun k h1 h2 => ?_
      simp [outer]
    · rw [if_neg e, if_neg e, if_neg (by omega)]
  refine den_loop (α := Nat) (fun i => [int i]) (fun i H' nx' => i ≤ m.length ∧ H' = rowsH H nx m i ∧ nx' = nx + 1 + i) (fun i => m.length - i) 0 rfl ⟨Nat.zero_le _, rfl, rfl⟩ ?_
  rintro i H' nx' ⟨hi, e1, e2⟩
  subst e1; subst e2
  by_cases hlt : i < m.length
  · simp only [SS, Nat.reduceEqDiff, Nat.reduceAdd, iput, puts, hlt, not_true_eq_false]
    refine den_callm (fc := (16, [])) rfl (toI_ok ht (m.getD i []) (hr i hlt) (rowsH H nx m i) (nx + 1 + i)) (IsMk.some _ _ _) fun u H' nx' hu => ?_
    obtain ⟨rfl, rfl, rfl⟩ := hu
    have ho : hput (rowsH H nx m i) (nx + 1 + i) (some (ints (m.getD i []))) nx = some (outer m nx i) := by rw [hput_ne _ _ _ _ (by omega)]; simp [rowsH]
    simp only [SS, Nat.reduceEqDiff, Nat.reduceAdd, iput, puts, p_iadm ho (outer_len m nx i), hlt]
    refine den_st1 (o := nx) (p := i) (m := m.length) (u := .ms (nx + 1 + i) 0 (m.getD i []).length 1) rfl rfl ho (outer_len m nx i) hlt rfl ?_
    simp only [SS, Nat.reduceEqDiff, Nat.reduceAdd, iput, puts, wrap_succ (show i < 9223372036854775807 by omega)]
    refine ⟨i + 1, rfl, ⟨by omega, ?_, by omega⟩, by omega⟩
    rw [outer_set hlt]
    funext k
    simp only [hput, rowsH]
    by_cases e : k = nx
    · rw [if_pos e, if_pos e]
    · rw [if_neg e, if_neg e, if_neg e]
      by_cases e2 : k = nx + 1 + i
      · rw [if_pos e2, if_pos (by omega), show k - nx - 1 = i by omega]
      · rw [if_neg e2]
        by_cases e3 : nx < k ∧ k ≤ nx + i
        · rw [if_pos e3, if_pos (by omega)]
        · rw [if_neg e3, if_neg (by omega)]
  · simp only [SS, Nat.reduceEqDiff, Nat.reduceAdd, iput, puts, hlt, not_false_eq_true]
    have : i = m.length := by omega
    subst this
    exact ⟨_, rfl, _, fun _ _ h => h, rfl, rfl, rfl⟩

/-- A category of the call's own, from object n0 on. -/
def catM (c : Cat) (n0 : Nat) : AV := .agg [int c.o, .ms n0 0 c.f.length 1, .ms (n0 + 1) 0 c.t.length 1, .ms (n0 + 2) 0 c.i.length 1, .ms (n0 + 3) 0 c.c.length 1]
def catH (H : Hp) (n0 : Nat) (c : Cat) : Hp := rowsH (hput (hput (hput H n0 (some (ints c.f))) (n0 + 1) (some (ints c.t))) (n0 + 2) (some (ints c.i))) (n0 + 3) c.c c.c.length
def IsMkC (c : Cat) (H : Hp) (nx : Nat) (r : AV) (H' : Hp) (nx' : Nat) : Prop := ∃ n0, nx ≤ n0 ∧ r = catM c n0 ∧ H' = catH H n0 c ∧ nx' = n0 + 4 + c.c.length
theorem IsMk2.some (m : List (List Int)) (H : Hp) (nx : Nat) : ∃ u H' nx', IsMk2 m H nx u H' nx' := ⟨_, _, _, rfl, rfl, rfl⟩

theorem rowsH_lo (H : Hp) (nx : Nat) (m : List (List Int)) (i k : Nat) (h : k < nx) : rowsH H nx m i k = H k := by
  simp only [rowsH]; rw [if_neg (by omega), if_neg (by omega)]

section
variable {C : Ct} {Φ : AV → Hp → Nat → Prop} {n : Nat} {vars : Nat → AV} {H : Hp} {nx : Nat} {Is : Nat → Inv} {r : Vc}
/-- A store of a struct over the whole of an object. -/
theorem den_stA {x y : Opd} {o m : Nat} {c d : List AV} (hx : ev vars x = .mp o 0 m) (hy : ev vars y = .agg d) (ho : H o = some c) (hl : c.length = m) (hd : d.length = m) (h1 : d.all AV.one = true) (hk : den C Φ r (n + 1) (put vars n (.v undef)) (hput H o (some d)) nx Is) :
    den C Φ (.op true (.st m x y) r) n vars H nx Is := by
  refine den_st (h := hput H o (some d)) ?_ hk
  rw [hx, hy]
  simp only [stTo, ho, AV.cells, hl, hd, h1]
  rw [if_pos ⟨trivial, trivial, by omega, trivial⟩]
  simp [← hl]
end
theorem p_fadm {H : Hp} {o p l k : Nat} {c : List AV} (h : H o = some c) (hl : c.length = l) : pvf H (.fad k) [.mp o p l] = some (.mp o (p + k) l) := by
  simp [pvf, pFad, h, hl]
theorem p_ldsm {H : Hp} {o l : Nat} {c : List AV} (h : H o = some c) (hl : c.length = l) : pvf H (.ld (some l)) [.mp o 0 l] = some (.agg c) := by
  subst hl; simp [pvf, pLd, h]

section
variable {C : Ct} {Φ : AV → Hp → Nat → Prop} {n : Nat} {vars : Nat → AV} {H : Hp} {nx : Nat} {Is : Nat → Inv} {r : Vc}
/-- A field of an object is set. -/
theorem den_fset {k d : Nat} {x : Opd} {o m : Nat} {c : List AV} {u : AV} (hd : vars d = .mp o 0 m) (hx : ev (put vars n (.mp o k m)) x = u) (ho : H o = some c) (hl : c.length = m) (hk : k < m) (h1 : u.one = true)
    (hr : den C Φ r (n + 1 + 1) (put (put vars n (.mp o k m)) (n + 1) (.v undef)) (hput H o (some (c.set k u))) nx Is) :
    den C Φ (.op true (.p (.fad k) [.t d]) (.op true (.st 1 (.t n) x) r)) n vars H nx Is := by
  rw [den_p]
  simp only [if_true, List.map_cons, List.map_nil, ev_t, hd, p_fadm ho hl, Nat.zero_add, denS_some]
  exact den_st1 (o := o) (p := k) (m := m) (u := u) (by rw [ev_t, put_eq]) hx ho hl hk h1 hr
/-- A field of an object is read. -/
theorem den_fget {k d : Nat} {o m : Nat} {c : List AV} {u : AV} (hd : vars d = .mp o 0 m) (ho : H o = some c) (hl : c.length = m) (hk : c[k]? = some u)
    (hr : den C Φ r (n + 1 + 1) (put (put vars n (.mp o k m)) (n + 1) u) H nx Is) :
    den C Φ (.op true (.p (.fad k) [.t d]) (.op true (.p (.ld none) [.t n]) r)) n vars H nx Is := by
  rw [den_p]
  simp only [if_true, List.map_cons, List.map_nil, ev_t, hd, p_fadm ho hl, Nat.zero_add, denS_some]
  rw [den_p]
  simp only [if_true, List.map_cons, List.map_nil, ev_t, put_eq, p_ldm ho hl, hk, denS_some]
  exact hr
/-- A whole object is read. -/
theorem den_lda {d : Nat} {o m : Nat} {c : List AV} (hd : vars d = .mp o 0 m) (ho : H o = some c) (hl : c.length = m) (hr : den C Φ r (n + 1) (put vars n (.agg c)) H nx Is) : den C Φ (.op true (.p (.ld (some m)) [.t d]) r) n vars H nx Is := by
  rw [den_p]
  simp only [if_true, List.map_cons, List.map_nil, ev_t, hd, p_ldsm ho hl, denS_some]
  exact hr
end
theorem hp2 {H : Hp} {o k : Nat} {c : Option (List AV)} {x : List AV} (h : k ≠ o) (hk : H k = some x) : hput H o c k = some x := by rw [hput_ne _ _ _ _ h]; exact hk
theorem hput_comm {H : Hp} {o k : Nat} {a b : Option (List AV)} (h : o ≠ k) : hput (hput H o a) k b = hput (hput H k b) o a := by
  funext t; simp only [hput]; by_cases e1 : t = k <;> by_cases e2 : t = o <;> simp [e1, e2]
  · subst e1; exact absurd e2.symm h
  · subst e1; intro e; exact absurd e.symm h
  · subst e2; intro e; exact absurd e h

def V_laws_toCategory : Vc :=
  .op true (.p .box [.t 0]) <|
  .op true (.new [int 0, .nil, .nil, .nil, .nil]) <|
  .op true (.new [int 0, .nil, .nil, .nil, .nil]) <|
  .op true (.p (.fad 0) [.t 1]) <|
  .op true (.p (.ld none) [.t 4]) <|
  .op true (.p (.fad 0) [.t 3]) <|
  .op true (.st 1 (.t 6) (.t 5)) <|
  .op true (.p (.fad 1) [.t 1]) <|
  .op true (.p (.ld none) [.t 8]) <|
  .op true (.callm (.f 16) [.t 9]) <|
  .op true (.p (.fad 1) [.t 3]) <|
  .op true (.st 1 (.t 11) (.t 10)) <|
  .op true (.p (.fad 2) [.t 1]) <|
  .op true (.p (.ld none) [.t 13]) <|
  .op true (.callm (.f 16) [.t 14]) <|
  .op true (.p (.fad 2) [.t 3]) <|
  .op true (.st 1 (.t 16) (.t 15)) <|
  .op true (.p (.fad 3) [.t 1]) <|
  .op true (.p (.ld none) [.t 18]) <|
  .op true (.callm (.f 16) [.t 19]) <|
  .op true (.p (.fad 3) [.t 3]) <|
  .op true (.st 1 (.t 21) (.t 20)) <|
  .op true (.p (.fad 4) [.t 1]) <|
  .op true (.p (.ld none) [.t 23]) <|
  .op true (.callm (.f 17) [.t 24]) <|
  .op true (.p (.fad 4) [.t 3]) <|
  .op true (.st 1 (.t 26) (.t 25)) <|
  .op true (.p (.ld (some 5)) [.t 3]) <|
  .op true (.st 5 (.t 2) (.t 28)) <|
  .ret [(.t 2, some (some 5))]
set_option maxHeartbeats 1000000 in
theorem toCat_ok (ht : Has P ν 16 1 V_laws_toInt64S) (ht2 : Has P ν 17 1 V_laws_toInt64SS) (h : Has P ν 5 1 V_laws_toCategory) (c : Cat) (b : Small2 c) (H : Hp) (nx : Nat) : OkM P ν 5 [.agg c.cells] H nx (IsMkC c H nx) := by
  refine h _ _ _ _ rfl fun hwf => ?_
  unfold V_laws_toCategory
  simp only [SS, Nat.reduceEqDiff, Nat.reduceAdd, iput, puts, p_boxc]
  refine den_new ?_
  refine den_new ?_
  generalize hH0 : hput H nx (some [int 0, .nil, .nil, .nil, .nil]) = H0
  have k0 : H0 nx = some [int 0, .nil, .nil, .nil, .nil] := by rw [← hH0]; exact hput_eq _ _ _
  simp only [SS, Nat.reduceEqDiff, Nat.reduceAdd, iput, puts, cat0, p_fadm (l := 5) (hput_eq H0 (nx + 1) (some [int 0, .nil, .nil, .nil, .nil])) rfl]
  refine den_st1 (o := nx + 1) (p := 0) (m := 5) (u := int c.o) rfl rfl (hput_eq _ _ _) rfl (by omega) rfl ?_
  simp only [SS, Nat.reduceEqDiff, Nat.reduceAdd, iput, puts, cat1, hput_hput, List.set_cons_zero, List.set_cons_succ]
  refine den_callm (fc := (16, [])) rfl (toI_ok ht c.f b.f _ _) (IsMk.some _ _ _) fun u H' nx' hu => ?_
  obtain ⟨rfl, rfl, rfl⟩ := hu
  refine den_fset (o := nx + 1) (m := 5) (u := .ms (nx + 1 + 1) 0 c.f.length 1) rfl rfl (hp2 (by omega) (hput_eq _ _ _)) rfl (by omega) rfl ?_
  rw [hput_comm (o := nx + 1 + 1) (k := nx + 1) (by omega), hput_hput]
  simp only [SS, Nat.reduceEqDiff, Nat.reduceAdd, iput, puts, cat2, List.set_cons_zero, List.set_cons_succ]
  refine den_callm (fc := (16, [])) rfl (toI_ok ht c.t b.t _ _) (IsMk.some _ _ _) fun u H' nx' hu => ?_
  obtain ⟨rfl, rfl, rfl⟩ := hu
  refine den_fset (o := nx + 1) (m := 5) (u := .ms (nx + 1 + 1 + 1) 0 c.t.length 1) rfl rfl (hp2 (by omega) (hp2 (by omega) (hput_eq _ _ _))) rfl (by omega) rfl ?_
  rw [hput_comm (o := nx + 1 + 1 + 1) (k := nx + 1) (by omega), hput_comm (o := nx + 1 + 1) (k := nx + 1) (by omega), hput_hput]
  simp only [SS, Nat.reduceEqDiff, Nat.reduceAdd, iput, puts, cat3, List.set_cons_zero, List.set_cons_succ]
  refine den_callm (fc := (16, [])) rfl (toI_ok ht c.i b.i _ _) (IsMk.some _ _ _) fun u H' nx' hu => ?_
  obtain ⟨rfl, rfl, rfl⟩ := hu
  refine den_fset (o := nx + 1) (m := 5) (u := .ms (nx + 1 + 1 + 1 + 1) 0 c.i.length 1) rfl rfl (hp2 (by omega) (hp2 (by omega) (hp2 (by omega) (hput_eq _ _ _)))) rfl (by omega) rfl ?_
  rw [hput_comm (o := nx + 1 + 1 + 1 + 1) (k := nx + 1) (by omega), hput_comm (o := nx + 1 + 1 + 1) (k := nx + 1) (by omega), hput_comm (o := nx + 1 + 1) (k := nx + 1) (by omega), hput_hput]
  simp only [SS, Nat.reduceEqDiff, Nat.reduceAdd, iput, puts, cat4, List.set_cons_zero, List.set_cons_succ]
  refine den_callm (fc := (17, [])) rfl (toII_ok ht ht2 c.c b.c b.row _ _) (IsMk2.some _ _ _) fun u H' nx' hu => ?_
  obtain ⟨rfl, rfl, rfl⟩ := hu
  refine den_fset (o := nx + 1) (m := 5) (c := [int c.o, .ms (nx + 1 + 1) 0 c.f.length 1, .ms (nx + 1 + 1 + 1) 0 c.t.length 1, .ms (nx + 1 + 1 + 1 + 1) 0 c.i.length 1, .nil]) (u := .ms (nx + 1 + 1 + 1 + 1 + 1) 0 c.c.length 1) rfl rfl ?_ rfl (by omega) rfl ?_
  · rw [rowsH_lo _ _ _ _ _ (by omega)]; exact hp2 (by omega) (hp2 (by omega) (hp2 (by omega) (hput_eq _ _ _)))
  simp only [List.set_cons_zero, List.set_cons_succ]
  refine den_lda (o := nx + 1) (m := 5) rfl (hput_eq _ _ _) rfl ?_
  refine den_stA (o := nx) (m := 5) (c := [int 0, .nil, .nil, .nil, .nil]) rfl rfl ?_ rfl rfl rfl ?_
  · refine hp2 (by omega) ?_
    rw [rowsH_lo _ _ _ _ _ (by omega)]; exact hp2 (by omega) (hp2 (by omega) (hp2 (by omega) (hp2 (by omega) k0)))
  refine ⟨catM c (nx + 2), ?_, catH H (nx + 2) c, ?_, nx + 2, by omega, rfl, rfl, by omega⟩
  · simp only [retOf, rets, SS, Nat.reduceEqDiff, Nat.reduceAdd, iput, puts, pLd, hput_eq]
    rfl
  · intro k d hk
    have hlt : H nx = none := hwf nx (Nat.le_refl _)
    have hlt1 : H (nx + 1) = none := hwf (nx + 1) (by omega)
    simp only [catH, rowsH, hput] at hk ⊢
    rw [← hH0]
    simp only [hput]
    by_cases e0 : k = nx
    · subst e0; rw [if_neg (by omega), if_neg (by omega), if_neg (by omega), if_neg (by omega), if_neg (by omega), hlt] at hk; cases hk
    · by_cases e1 : k = nx + 1
      · subst e1; rw [if_neg (by omega), if_neg (by omega), if_neg (by omega), if_neg (by omega), if_neg (by omega), hlt1] at hk; cases hk
      · rw [if_neg e0, if_neg e1]
        simp only [if_neg e0, if_neg e1]
        exact hk
end Go.Av

/-
  Marks: what the statements write into memory, and how it is found again.
-/
namespace Go.Av
set_option linter.unusedSectionVars false
set_option linter.unusedSimpArgs false
set_option linter.unusedVariables false
variable [md : Md]
open Classical
set_option linter.unusedSimpArgs false
set_option linter.unusedVariables false
variable {P : Program} {ν : Nat → FuncId}

def seqI (k : Int) (n : Nat) : List Int := (List.range n).map fun (j : Nat) => k + j
theorem seqI_len (k : Int) (n : Nat) : (seqI k n).length = n := by simp [seqI]
theorem seq_set {l : List Int} {k : Int} {i : Nat} (h : i < l.length) : (seqI k i ++ l.drop i).set i (k + i) = seqI k (i + 1) ++ l.drop (i + 1) := by
  refine List.ext_getElem (by simp [seqI]; omega) fun j h1 h2 => ?_
  simp only [List.getElem_set, List.getElem_append, seqI_len, List.getElem_drop, seqI, List.getElem_map, List.getElem_range, List.length_map, List.length_range]
  by_cases e1 : i = j
  · subst e1; simp
  · by_cases e2 : j < i
    · rw [if_neg e1, dif_pos e2, dif_pos (by omega)]
    · rw [if_neg e1, dif_neg e2, dif_neg (by omega)]; congr 1; omega

/-- A list of integers that lies in an object of its own (or has no memory). -/
def Own1 (l : List Int) (r : AV) (M : Hp) (lo hi : Nat) : Prop := (l = [] ∧ r = .nil) ∨ ∃ o, lo ≤ o ∧ o < hi ∧ r = .ms o 0 l.length 1 ∧ M o = some (ints l)
theorem Own1.frz {l : List Int} {r : AV} {M : Hp} {lo hi : Nat} (h : Own1 l r M lo hi) : frz M fuel r = some (islice l) := by
  rcases h with ⟨rfl, rfl⟩ | ⟨o, _, _, rfl, ho⟩
  · rfl
  · have : ∀ (l : List Int) (k : Nat), (ints l).mapM (Av.frz M k) = some (ints l) := fun l k => frz_stills (by simp [ints, AV.still, int])
    simp only [fuel, Av.frz, ho, ints_length, Nat.zero_add, Nat.mul_one, if_true, this]
    simp [islice]
theorem Own1.frzL {l : List Int} {r : AV} {M : Hp} {lo hi : Nat} (h : Own1 l r M lo hi) (t : List AV) : frzL M (r :: t) = (Av.frzL M t).map (islice l :: ·) := by
  simp only [Av.frzL, List.mapM_cons, h.frz]; cases List.mapM (Av.frz M fuel) t <;> rfl
theorem Own1.mono {l : List Int} {r : AV} {M M' : Hp} {lo hi hi' : Nat} (h : Own1 l r M lo hi) (hh : hi ≤ hi') (hM : ∀ o, lo ≤ o → o < hi → M' o = M o) : Own1 l r M' lo hi' := by
  rcases h with ⟨rfl, rfl⟩ | ⟨o, h1, h2, rfl, ho⟩
  · exact .inl ⟨rfl, rfl⟩
  · exact .inr ⟨o, h1, by omega, rfl, (hM o h1 h2).trans ho⟩

def V_laws_markInt64S : Vc :=
  .loop 0 [.t 1, .c (int 0)] <|
  .op true (.p .len [.t 0]) <|
  .op true (.p (.bin .lss) [.t 3, .t 4]) <|
  .br 5
   (.op true (.p (.iad 1) [.t 0, .t 3]) <|
   .op true (.st 1 (.t 6) (.t 2)) <|
   .op true (.p (.bin .add) [.t 2, .c (int 1)]) <|
   .op true (.p (.bin .add) [.t 3, .c (int 1)]) <|
   .again 0 [.t 8, .t 9])
   (.ret [(.t 2, none)])
theorem markI_ms (h : Has P ν 10 2 V_laws_markInt64S) (l : List Int) (k : Int) (o : Nat) (H : Hp) (nx : Nat) (ho : H o = some (ints l)) (k0 : 0 ≤ k) (kl : k ≤ 2305843009213693952) (hl : l.length ≤ 2305843009213693952) :
    OkM P ν 10 [.ms o 0 l.length 1, int k] H nx (fun r H' nx' => r = int (k + l.length) ∧ H' = hput H o (some (ints (seqI k l.length))) ∧ nx' = nx) := by
  refine h _ _ _ _ rfl fun hwf => ?_
  unfold V_laws_markInt64S
  refine den_loop (α := Nat) (fun i => [int (k + i), int i]) (fun i H' nx' => i ≤ l.length ∧ H' = hput H o (some (ints (seqI k i ++ l.drop i))) ∧ nx' = nx) (fun i => l.length - i) 0 ?_ ?_ ?_
  · simp [ev_t, ev_c, env0_def]
  · refine ⟨Nat.zero_le _, ?_, rfl⟩
    funext t; simp only [hput]; split
    · rename_i e; rw [e, ho]; simp [seqI]
    · rfl
  · rintro i H' nx' ⟨hi, rfl, rfl⟩
    have hll : (ints (seqI k i ++ l.drop i)).length = l.length := by simp [ints, seqI]; omega
    by_cases hlt : i < l.length
    · simp only [SS, Nat.reduceEqDiff, Nat.reduceAdd, iput, puts, hlt, p_lenm (hput_eq H o _) hll, p_iadm (hput_eq H o _) hll, not_true_eq_false]
      refine den_st1 (o := o) (p := i) (m := l.length) (u := int (k + i)) rfl rfl (hput_eq H o _) hll hlt rfl ?_
      simp only [SS, Nat.reduceEqDiff, Nat.reduceAdd, iput, puts, hput_hput, ints_set, seq_set hlt, wrap_succ (show i < 9223372036854775807 by omega), wrap_id (show -9223372036854775808 ≤ k + (i : Int) + 1 by omega) (show k + (i : Int) + 1 ≤ 9223372036854775807 by omega)]
      refine ⟨i + 1, ?_, ⟨by omega, rfl⟩, by omega⟩
      rw [show k + (i : Int) + 1 = k + ((i + 1 : Nat) : Int) by omega]
    · have : i = l.length := by omega
      subst this
      simp only [SS, Nat.reduceEqDiff, Nat.reduceAdd, iput, puts, hlt, p_lenm (hput_eq H o _) hll, not_false_eq_true]
      refine ⟨_, rfl, _, fun _ _ h => h, rfl, ?_, rfl⟩
      rw [List.drop_length, List.append_nil]
theorem markI_nil (h : Has P ν 10 2 V_laws_markInt64S) (k : Int) (H : Hp) (nx : Nat) : OkM P ν 10 [.nil, int k] H nx (fun r H' nx' => r = int k ∧ H' = H ∧ nx' = nx) := by
  refine h _ _ _ _ rfl fun hwf => ?_
  unfold V_laws_markInt64S
  refine den_loop (α := Unit) (fun _ => [int k, int 0]) (fun _ H' nx' => H' = H ∧ nx' = nx) (fun _ => 0) () ?_ ⟨rfl, rfl⟩ ?_
  · simp [ev_t, ev_c, env0_def]
  · rintro _ H' nx' ⟨rfl, rfl⟩
    have : ¬ (0 : Int) < 0 := by omega
    simp only [SS, Nat.reduceEqDiff, Nat.reduceAdd, iput, puts, this, not_false_eq_true]
    exact ⟨_, rfl, _, fun _ _ h => h, rfl, rfl, rfl⟩

def V_laws_heldInt64S : Vc :=
  .loop 0 [.t 1, .c (int 0)] <|
  .op true (.p .len [.t 0]) <|
  .op true (.p (.bin .lss) [.t 3, .t 4]) <|
  .br 5
   (.op true (.p (.iad 1) [.t 0, .t 3]) <|
   .op true (.p (.ld none) [.t 6]) <|
   .op true (.p (.bin .neq) [.t 7, .t 2]) <|
   .br 8
    (.ret [(.c (int (-1)), none)])
    (.op true (.p (.bin .add) [.t 2, .c (int 1)]) <|
    .op true (.p (.bin .add) [.t 3, .c (int 1)]) <|
    .again 0 [.t 9, .t 10]))
   (.ret [(.t 2, none)])
theorem heldI_ok (h : Has P ν 11 2 V_laws_heldInt64S) (k : Int) (n : Nat) (k0 : 0 ≤ k) (kl : k ≤ 2305843009213693952) (hl : n ≤ 2305843009213693952) : Fn P ν 11 [islice (seqI k n), int k] (int (k + n)) := by
  intro H nx
  refine h _ _ _ _ rfl fun hwf => ?_
  unfold V_laws_heldInt64S
  have hl := seqI_len k n
  refine den_loop (α := Nat) (fun i => [int (k + i), int i]) (fun i H' nx' => i ≤ n ∧ H' = H ∧ nx' = nx) (fun i => n - i) 0 ?_ ⟨Nat.zero_le _, rfl, rfl⟩ ?_
  · simp [ev_t, ev_c, env0_def]
  · rintro i H' nx' ⟨hi, rfl, rfl⟩
    by_cases hlt : i < n
    · have hg : (seqI k n).getD i 0 = k + i := by simp [seqI, hlt]
      simp only [SS, Nat.reduceEqDiff, Nat.reduceAdd, iput, puts, hlt, hl, hg, not_true_eq_false, wrap_succ (show i < 9223372036854775807 by omega), wrap_id (show -9223372036854775808 ≤ k + (i : Int) + 1 by omega) (show k + (i : Int) + 1 ≤ 9223372036854775807 by omega)]
      refine ⟨i + 1, ?_, by omega, by omega⟩
      rw [show k + (i : Int) + 1 = k + ((i + 1 : Nat) : Int) by omega]
    · have : i = n := by omega
      subst this
      simp only [SS, Nat.reduceEqDiff, Nat.reduceAdd, iput, puts, hlt, hl, not_false_eq_true]
      exact ⟨_, rfl, _, fun _ _ h => h, rfl, rfl, Nat.le_refl _⟩

/-- Rows of an object. -/
def RowsAt (H : Hp) (m : Nat) (id len : Nat → Nat) : Prop := ∀ j, j < m → ∃ l : List Int, H (id j) = some (ints l) ∧ l.length = len j
def outerC (m : Nat) (id len : Nat → Nat) : List AV := (List.range m).map fun j => .ms (id j) 0 (len j) 1
theorem outerC_get {m : Nat} {id len : Nat → Nat} {j : Nat} (h : j < m) : (outerC m id len)[j]? = some (.ms (id j) 0 (len j) 1) := by simp [outerC, h]

def V_laws_markInt64SS : Vc :=
  .loop 0 [.t 1, .c (int 0)] <|
  .op true (.p .len [.t 0]) <|
  .op true (.p (.bin .lss) [.t 3, .t 4]) <|
  .br 5
   (.op true (.p (.iad 1) [.t 0, .t 3]) <|
   .op true (.p (.ld none) [.t 6]) <|
   .op true (.callm (.f 10) [.t 7, .t 2]) <|
   .op true (.p (.bin .add) [.t 3, .c (int 1)]) <|
   .again 0 [.t 8, .t 9])
   (.ret [(.t 2, none)])
theorem markII_ok (hm : Has P ν 10 2 V_laws_markInt64S) (h : Has P ν 21 2 V_laws_markInt64SS) (e m : Nat) (id len : Nat → Nat) (k : Int) (H : Hp) (nx : Nat) (he : H e = some (outerC m id len)) (hr : RowsAt H m id len) (hne : ∀ j, j < m → id j ≠ e) (hb : ∀ j, j < m → len j ≤ 1048576) (hm' : m ≤ 1048576) (k0 : 0 ≤ k) (kl : k ≤ 4398046511104) :
    OkM P ν 21 [.ms e 0 m 1, int k] H nx (fun r H' nx' => ∃ k' : Int, r = int k' ∧ 0 ≤ k' ∧ k' ≤ k + m * 1048576 ∧ nx' = nx ∧ ∀ o, (∀ j, j < m → o ≠ id j) → H' o = H o) := by
  refine h _ _ _ _ rfl fun hwf => ?_
  unfold V_laws_markInt64SS
  have hll : (outerC m id len).length = m := by simp [outerC]
  refine den_loop (α := Nat × Int) (fun a => [int a.2, int a.1]) (fun a H' nx' => a.1 ≤ m ∧ 0 ≤ a.2 ∧ a.2 ≤ k + a.1 * 1048576 ∧ nx' = nx ∧ RowsAt H' m id len ∧ ∀ o, (∀ j, j < m → o ≠ id j) → H' o = H o) (fun a => m - a.1) (0, k) ?_ ?_ ?_
  · simp [ev_t, ev_c, env0_def]
  · exact ⟨Nat.zero_le _, k0, by simp, rfl, hr, fun _ _ => rfl⟩
  · rintro ⟨i, x⟩ H' nx' ⟨g1, g2, g3, rfl, g5, g6⟩
    simp only at g1 g2 g3
    have he' : H' e = some (outerC m id len) := (g6 e fun j hj => (hne j hj).symm).trans he
    by_cases hlt : i < m
    · obtain ⟨l, hl1, hl2⟩ := g5 i hlt
      have hbi := hb i hlt
      simp only [SS, Nat.reduceEqDiff, Nat.reduceAdd, iput, puts, hlt, p_lenm he' hll, p_iadm he' hll, p_ldm he' hll, outerC_get hlt, not_true_eq_false, ← hl2]
      refine den_callm (fc := (10, [])) rfl (markI_ms hm l x (id i) H' nx' hl1 g2 (by omega) (by omega)) ⟨_, _, _, rfl, rfl, rfl⟩ fun u H2 nx2 hu => ?_
      obtain ⟨rfl, rfl, rfl⟩ := hu
      simp only [SS, Nat.reduceEqDiff, Nat.reduceAdd, iput, puts, wrap_succ (show i < 9223372036854775807 by omega)]
      refine ⟨(i + 1, x + l.length), rfl, ⟨by simp only; omega, by simp only; omega, by simp only; omega, ?_, ?_⟩, by simp only; omega⟩
      · intro j hj
        by_cases ej : id j = id i
        · obtain ⟨l', q1, q2⟩ := g5 j hj
          refine ⟨seqI x l.length, by rw [ej]; exact hput_eq _ _ _, ?_⟩
          rw [ej, hl1] at q1
          have : ints l = ints l' := by injection q1
          have := congrArg List.length this
          simp only [ints_length] at this
          rw [seqI_len]; omega
        · obtain ⟨l', q1, q2⟩ := g5 j hj
          exact ⟨l', by rw [hput_ne _ _ _ _ ej]; exact q1, q2⟩
      · intro o ho
        rw [hput_ne _ _ _ _ (ho i hlt)]
        exact g6 o ho
    · have : i = m := by omega
      subst this
      simp only [SS, Nat.reduceEqDiff, Nat.reduceAdd, iput, puts, hlt, p_lenm he' hll, not_false_eq_true]
      exact ⟨_, rfl, _, fun _ _ h => h, x, rfl, g2, g3, rfl, g6⟩

/-- The objects of a category of the call's own. -/
structure CatAt (H : Hp) (n0 : Nat) (x : Cat) : Prop where
  f : H n0 = some (ints x.f)
  t : H (n0 + 1) = some (ints x.t)
  i : H (n0 + 2) = some (ints x.i)
  c : H (n0 + 3) = some (outerC x.c.length (fun j => n0 + 4 + j) (fun j => (x.c.getD j []).length))
  row : ∀ j, j < x.c.length → H (n0 + 4 + j) = some (ints (x.c.getD j []))
theorem outer_full (m : List (List Int)) (nx : Nat) : outer m nx m.length = outerC m.length (fun j => nx + 1 + j) (fun j => (m.getD j []).length) := by
  refine List.ext_getElem (by simp [outer, outerC]) fun j h1 h2 => ?_
  have : j < m.length := by simpa [outer] using h1
  simp [outer, outerC, this]
theorem catH_at (H : Hp) (n0 : Nat) (c : Cat) : CatAt (catH H n0 c) n0 c := by
  refine ⟨?_, ?_, ?_, ?_, fun j hj => ?_⟩
  · simp only [catH, rowsH, hput]; rw [if_neg (by omega), if_neg (by omega), if_neg (by omega), if_neg (by omega), if_pos trivial]
  · simp only [catH, rowsH, hput]; rw [if_neg (by omega), if_neg (by omega), if_neg (by omega), if_pos trivial]
  · simp only [catH, rowsH, hput]; rw [if_neg (by omega), if_neg (by omega), if_pos trivial]
  · simp only [catH, rowsH]; rw [if_pos trivial, outer_full]
  · simp only [catH, rowsH]; rw [if_neg (by omega), if_pos (by omega), show n0 + 4 + j - (n0 + 3) - 1 = j by omega]
theorem catH_lo (H : Hp) (n0 : Nat) (c : Cat) (o : Nat) (h : o < n0) : catH H n0 c o = H o := by
  simp only [catH, rowsH, hput]; rw [if_neg (by omega), if_neg (by omega), if_neg (by omega), if_neg (by omega), if_neg (by omega)]
theorem mapM_outer {f : AV → Option AV} {x : List (List Int)} {g : Nat → AV} (h : ∀ j, j < x.length → f (g j) = some (islice (x.getD j []))) : ((List.range x.length).map g).mapM f = some (rows x) := by
  have key : ∀ n, n ≤ x.length → ((List.range n).map g).mapM f = some ((List.range n).map fun j => islice (x.getD j [])) := by
    intro n
    induction n with
    | zero => intro _; rfl
    | succ n ih =>
      intro hn
      rw [List.range_succ, List.map_append, List.mapM_append, ih (by omega)]
      simp [h n (by omega)]
  rw [key _ (Nat.le_refl _)]
  congr 1
  refine List.ext_getElem (by simp [rows]) fun j h1 h2 => ?_
  have : j < x.length := by simpa [rows] using h2
  simp [rows, this]
theorem CatAt.frz {H : Hp} {n0 : Nat} {x : Cat} (h : CatAt H n0 x) : frz H fuel (catM x n0) = some (.agg x.cells) := by
  have st : ∀ (l : List Int) (k : Nat), (ints l).mapM (Av.frz H k) = some (ints l) := fun l k => frz_stills (by simp [ints, AV.still, int])
  have hi : ∀ (o : Nat) (l : List Int) (k : Nat), H o = some (ints l) → Av.frz H (k + 1) (.ms o 0 l.length 1) = some (islice l) := fun o l k ho => by
    simp only [Av.frz, ho, ints_length, Nat.zero_add, Nat.mul_one, if_true, st]; simp [islice]
  have hrows : Av.frz H 5 (.ms (n0 + 3) 0 x.c.length 1) = some (.sl (rows x.c) x.c.length) := by
    have hl : (outerC x.c.length (fun j => n0 + 4 + j) (fun j => (x.c.getD j []).length)).length = x.c.length := by simp [outerC]
    simp only [Av.frz, h.c, hl, Nat.zero_add, Nat.mul_one, if_true]
    rw [show outerC x.c.length (fun j => n0 + 4 + j) (fun j => (x.c.getD j []).length) = (List.range x.c.length).map fun j => .ms (n0 + 4 + j) 0 (x.c.getD j []).length 1 from rfl, mapM_outer fun j hj => hi _ _ _ (h.row j hj)]
    simp
  show ([int x.o, .ms n0 0 x.f.length 1, .ms (n0 + 1) 0 x.t.length 1, .ms (n0 + 2) 0 x.i.length 1, .ms (n0 + 3) 0 x.c.length 1].mapM (Av.frz H 5)).map AV.agg = _
  simp only [List.mapM_cons, List.mapM_nil, frz_int, hi _ _ 4 h.f, hi _ _ 4 h.t, hi _ _ 4 h.i, hrows]
  rfl
theorem CatAt.frzN {H : Hp} {n0 : Nat} {x : Cat} (h : CatAt H n0 x) : frzN H fuel (catM x n0) = some (.agg x.cells) := by
  have hi : ∀ (o : Nat) (l : List Int) (k : Nat), H o = some (ints l) → Av.frzN H (k + 1) (.ms o 0 l.length 1) = some (islice l) := fun o l k ho => by
    simp only [Av.frzN, ho, ints_length, Nat.zero_add, Nat.mul_one, if_true, frzN_ints]; simp [islice]
  have hrows : Av.frzN H 5 (.ms (n0 + 3) 0 x.c.length 1) = some (.sl (rows x.c) x.c.length) := by
    have hl : (outerC x.c.length (fun j => n0 + 4 + j) (fun j => (x.c.getD j []).length)).length = x.c.length := by simp [outerC]
    simp only [Av.frzN, h.c, hl, Nat.zero_add, Nat.mul_one, if_true]
    rw [show outerC x.c.length (fun j => n0 + 4 + j) (fun j => (x.c.getD j []).length) = (List.range x.c.length).map fun j => .ms (n0 + 4 + j) 0 (x.c.getD j []).length 1 from rfl, mapM_outer fun j hj => hi _ _ _ (h.row j hj)]
    simp
  show ([int x.o, .ms n0 0 x.f.length 1, .ms (n0 + 1) 0 x.t.length 1, .ms (n0 + 2) 0 x.i.length 1, .ms (n0 + 3) 0 x.c.length 1].mapM (Av.frzN H 5)).map AV.agg = _
  simp only [List.mapM_cons, List.mapM_nil, frzN_int, hi _ _ 4 h.f, hi _ _ 4 h.t, hi _ _ 4 h.i, hrows]
  rfl
theorem CatAt.frzL {H : Hp} {n0 : Nat} {x : Cat} (h : CatAt H n0 x) (t : List AV) : frzL H (catM x n0 :: t) = (Av.frzL H t).map (.agg x.cells :: ·) := by
  simp only [Av.frzL, List.mapM_cons, h.frz]; cases List.mapM (Av.frz H fuel) t <;> rfl
theorem CatAt.mono {H H' : Hp} {n0 : Nat} {x : Cat} (h : CatAt H n0 x) (hh : ∀ o, n0 ≤ o → o < n0 + 4 + x.c.length → H' o = H o) : CatAt H' n0 x :=
  ⟨(hh _ (by omega) (by omega)).trans h.f, (hh _ (by omega) (by omega)).trans h.t, (hh _ (by omega) (by omega)).trans h.i, (hh _ (by omega) (by omega)).trans h.c, fun j hj => (hh _ (by omega) (by omega)).trans (h.row j hj)⟩
theorem IsMkC.some (c : Cat) (H : Hp) (nx : Nat) : ∃ u H' nx', IsMkC c H nx u H' nx' := ⟨_, _, _, nx, Nat.le_refl _, rfl, rfl, rfl⟩

def V_laws_markCategory : Vc :=
  .op true (.boxm (.t 0)) <|
  .op true (.p (.fad 1) [.t 2]) <|
  .op true (.p (.ld none) [.t 3]) <|
  .op true (.callm (.f 10) [.t 4, .t 1]) <|
  .op true (.p (.fad 2) [.t 2]) <|
  .op true (.p (.ld none) [.t 6]) <|
  .op true (.callm (.f 10) [.t 7, .t 5]) <|
  .op true (.p (.fad 3) [.t 2]) <|
  .op true (.p (.ld none) [.t 9]) <|
  .op true (.callm (.f 10) [.t 10, .t 8]) <|
  .op true (.p (.fad 4) [.t 2]) <|
  .op true (.p (.ld none) [.t 12]) <|
  .op true (.callm (.f 21) [.t 13, .t 11]) <|
  .ret [(.t 14, none)]
set_option maxHeartbeats 1000000 in
theorem markCat_ok (hm : Has P ν 10 2 V_laws_markInt64S) (hm2 : Has P ν 21 2 V_laws_markInt64SS) (h : Has P ν 9 2 V_laws_markCategory) (c : Cat) (b : Small2 c) (n0 : Nat) (k : Int) (H : Hp) (nx : Nat) (hc : CatAt H n0 c) (hn : n0 + 4 + c.c.length ≤ nx) (k0 : 0 ≤ k) (kl : k ≤ 3298534883328) :
    OkM P ν 9 [catM c n0, int k] H nx (fun r H' nx' => ∃ k' : Int, r = int k' ∧ 0 ≤ k' ∧ k' ≤ k + 1099514773504 ∧ nx ≤ nx' ∧ ∀ o, o < n0 ∨ n0 + 4 + c.c.length ≤ o → o < nx → H' o = H o) := by
  refine h _ _ _ _ rfl fun hwf => ?_
  unfold V_laws_markCategory
  have b1 := b.f
  have b2 := b.t
  have b3 := b.i
  have b4 := b.c
  refine den_boxm rfl ?_
  refine den_fget (o := nx) (m := 5) rfl (hput_eq _ _ _) rfl rfl ?_
  generalize hH1 : hput H nx (some (ev (env0 [catM c n0, int k]) (.t 0)).cells) = H1
  have x1 : H1 nx = some [int c.o, .ms n0 0 c.f.length 1, .ms (n0 + 1) 0 c.t.length 1, .ms (n0 + 2) 0 c.i.length 1, .ms (n0 + 3) 0 c.c.length 1] := by rw [← hH1]; exact hput_eq _ _ _
  have y1 : ∀ o, o < nx → H1 o = H o := fun o ho => by rw [← hH1]; exact hput_ne _ _ _ _ (by omega)
  have c1 : CatAt H1 n0 c := hc.mono fun o _ ho => y1 o (by omega)
  refine den_callm (fc := (10, [])) rfl (markI_ms hm c.f k n0 _ _ c1.f k0 (by omega) (by omega)) ⟨_, _, _, rfl, rfl, rfl⟩ fun u H' nx' hu => ?_
  obtain ⟨rfl, rfl, rfl⟩ := hu
  refine den_fget (o := nx) (m := 5) rfl (hp2 (by omega) x1) rfl rfl ?_
  have c2 : hput H1 n0 (some (ints (seqI k c.f.length))) (n0 + 1) = some (ints c.t) := hp2 (by omega) c1.t
  refine den_callm (fc := (10, [])) rfl (markI_ms hm c.t (k + c.f.length) (n0 + 1) _ _ c2 (by omega) (by omega) (by omega)) ⟨_, _, _, rfl, rfl, rfl⟩ fun u H' nx' hu => ?_
  obtain ⟨rfl, rfl, rfl⟩ := hu
  refine den_fget (o := nx) (m := 5) rfl (hp2 (by omega) (hp2 (by omega) x1)) rfl rfl ?_
  have c3 : hput (hput H1 n0 (some (ints (seqI k c.f.length)))) (n0 + 1) (some (ints (seqI (k + c.f.length) c.t.length))) (n0 + 2) = some (ints c.i) := hp2 (by omega) (hp2 (by omega) c1.i)
  refine den_callm (fc := (10, [])) rfl (markI_ms hm c.i (k + c.f.length + c.t.length) (n0 + 2) _ _ c3 (by omega) (by omega) (by omega)) ⟨_, _, _, rfl, rfl, rfl⟩ fun u H' nx' hu => ?_
  obtain ⟨rfl, rfl, rfl⟩ := hu
  refine den_fget (o := nx) (m := 5) rfl (hp2 (by omega) (hp2 (by omega) (hp2 (by omega) x1))) rfl rfl ?_
  refine den_callm (fc := (21, [])) rfl (markII_ok hm hm2 (n0 + 3) c.c.length (fun j => n0 + 4 + j) (fun j => (c.c.getD j []).length) (k + c.f.length + c.t.length + c.i.length) _ _ ?_ ?_ (fun j _ => by omega) b.row (by omega) (by omega) (by omega)) ⟨int 0, _, _, 0, rfl, by omega, by omega, rfl, fun _ _ => rfl⟩ fun u H' nx' hu => ?_
  · exact hp2 (by omega) (hp2 (by omega) (hp2 (by omega) c1.c))
  · intro j hj; exact ⟨c.c.getD j [], hp2 (by show n0 + 4 + j ≠ n0 + 2; omega) (hp2 (by show n0 + 4 + j ≠ n0 + 1; omega) (hp2 (by show n0 + 4 + j ≠ n0; omega) (c1.row j hj))), rfl⟩
  · obtain ⟨k', rfl, q1, q2, rfl, q4⟩ := hu
    refine ⟨_, rfl, H', fun _ _ h => h, k', rfl, q1, by omega, Nat.le_succ _, fun o h1 h2 => ?_⟩
    rw [q4 o (fun j hj => by show o ≠ n0 + 4 + j; omega), hput_ne _ _ _ _ (by omega), hput_ne _ _ _ _ (by omega), hput_ne _ _ _ _ (by omega)]
    exact y1 o h2
end Go.Av
