/-
  Several texts in one: AvA1, AvA2, AvA3, AvA4, AvA5, AvA6, AvA7, AvA8.
-/
import Derived.Test.YtbalggpkmaabmaaAvQ
/-
  Small functions: ranges, lists of integers in a range, a category's table.
-/
namespace Go.Av
open Classical
set_option linter.unusedSimpArgs false
set_option linter.unusedVariables false
variable {P : Program} {ν : Nat → FuncId}

def V_inRange : Vc :=
  .op true (.p (.bin .geq) [.t 0, .t 1]) <|
  .br 3
   (.op true (.p (.bin .leq) [.t 0, .t 2]) <|
   .ret [(.t 4, none)])
   (.ret [(.c (bool false), none)])
theorem inRange_ok (h : Has P ν 32 3 V_inRange) (a b c : Int) : Fn P ν 32 [int a, int b, int c] (bool (decide (b ≤ a ∧ a ≤ c))) := by
  intro H nx
  refine h _ _ _ _ rfl fun hwf => ?_
  unfold V_inRange
  simp only [SS, Nat.reduceEqDiff, Nat.reduceAdd, iput, puts]
  refine ⟨fun h1 => ?_, fun h1 => ?_⟩
  · refine ⟨_, rfl, H, fun _ _ h => h, ?_, rfl, Nat.le_refl _⟩
    show bool (decide (a ≤ c)) = _
    have : b ≤ a := h1
    simp [this]
  · exact ⟨_, rfl, H, fun _ _ h => h, ret_false (by omega), rfl, Nat.le_refl _⟩


/-- All numbers of the list lie from 0 on below n. -/
def Wn (l : List Int) (n : Int) : Prop := ∀ k, k < l.length → 0 ≤ l.getD k 0 ∧ l.getD k 0 < n

def V_within : Vc :=
  .op true (.p .len [.t 0]) <|
  .loop 0 [.c (int 0)] <|
  .op true (.p (.bin .lss) [.t 3, .t 2]) <|
  .br 4
   (.op true (.p (.iad 1) [.t 0, .t 3]) <|
   .op true (.p (.ld none) [.t 5]) <|
   .op true (.p (.bin .sub) [.t 1, .c (int 1)]) <|
   .op true (.call (.f 32) [.t 6, .c (int 0), .t 7]) <|
   .op true (.p .bnot [.t 8]) <|
   .br 9
    (.ret [(.c (bool false), none)])
    (.op true (.p (.bin .add) [.t 3, .c (int 1)]) <|
    .again 0 [.t 10]))
   (.ret [(.c (bool true), none)])
theorem within_ok (hin : Has P ν 32 3 V_inRange) (h : Has P ν 25 2 V_within) (l : List Int) (n : Int) (h1 : -9223372036854775807 ≤ n) (h2 : n ≤ 9223372036854775807) (hl : l.length < 9223372036854775807) : Fn P ν 25 [islice l, int n] (bool (decide (Wn l n))) := by
  intro H nx
  refine h _ _ _ _ rfl fun hwf => ?_
  unfold V_within
  simp only [SS, Nat.reduceEqDiff, Nat.reduceAdd, iput, puts]
  refine den_for l.length (fun i => ∀ k, k < i → 0 ≤ l.getD k 0 ∧ l.getD k 0 < n) (fun k hk => by omega) fun i hi hp => ?_
  by_cases hlt : i < l.length
  · simp only [SS, Nat.reduceEqDiff, Nat.reduceAdd, iput, puts, hlt, not_true_eq_false]
    refine den_call (fc := (32, [])) rfl (by first | (simp only [SS, Nat.reduceEqDiff, Nat.reduceAdd, iput, puts, FF]; done) | (simp only [SS, Nat.reduceEqDiff, Nat.reduceAdd, iput, puts, FF]; rfl)) ((inRange_ok hin (l.getD i 0) 0 (IntKind.i64.wrap (n - 1))).fzb) ?_
    simp only [SS, Nat.reduceEqDiff, Nat.reduceAdd, iput, puts, wrap_succ (Nat.lt_trans hlt hl), wrap_id (show -9223372036854775808 ≤ n - 1 by omega) (show n - 1 ≤ 9223372036854775807 by omega)]
    refine ⟨fun h3 => ?_, fun h3 => up rfl hlt fun k hk => ?_⟩
    · exact ⟨_, rfl, H, fun _ _ h => h, ret_false (fun hw => h3 (by have := hw i hlt; omega)), rfl, Nat.le_refl _⟩
    · by_cases e : k = i
      · subst e; omega
      · exact hp k (by omega)
  · simp only [SS, Nat.reduceEqDiff, Nat.reduceAdd, iput, puts, hlt, not_false_eq_true]
    exact ⟨_, rfl, H, fun _ _ h => h, ret_true (fun k hk => hp k (by omega)), rfl, Nat.le_refl _⟩

def V_spec_l01Map : Vc :=
  .loop 0 [.c (int 0)] <|
  .op true (.p .len [.t 1]) <|
  .op true (.p (.bin .lss) [.t 2, .t 3]) <|
  .br 4
   (.op true (.p (.iad 1) [.t 1, .t 2]) <|
   .op true (.p (.ld none) [.t 5]) <|
   .op true (.p (.bin .lss) [.t 6, .c (int 0)]) <|
   .br 7
    (.ret [(.c (bool false), none)])
    (.op true (.p (.iad 1) [.t 1, .t 2]) <|
    .op true (.p (.ld none) [.t 8]) <|
    .op true (.p (.bin .geq) [.t 9, .t 0]) <|
    .br 10
     (.ret [(.c (bool false), none)])
     (.op true (.p (.bin .add) [.t 2, .c (int 1)]) <|
     .again 0 [.t 11])))
   (.ret [(.c (bool true), none)])
theorem l01Map_ok (h : Has P ν 37 2 V_spec_l01Map) (l : List Int) (n : Int) (hl : l.length < 9223372036854775807) : Fn P ν 37 [int n, islice l] (bool (decide (Wn l n))) := by
  intro H nx
  refine h _ _ _ _ rfl fun hwf => ?_
  unfold V_spec_l01Map
  refine den_for l.length (fun i => ∀ k, k < i → 0 ≤ l.getD k 0 ∧ l.getD k 0 < n) (fun k hk => by omega) fun i hi hp => ?_
  by_cases hlt : i < l.length
  · simp only [SS, Nat.reduceEqDiff, Nat.reduceAdd, iput, puts, hlt, not_true_eq_false, wrap_succ (Nat.lt_trans hlt hl)]
    have bad : ¬ (0 ≤ l.getD i 0 ∧ l.getD i 0 < n) → ¬ Wn l n := fun h3 hw => h3 (hw i hlt)
    refine ⟨fun h3 => ?_, fun h3 => ⟨fun h4 => ?_, fun h4 => up rfl hlt fun k hk => ?_⟩⟩
    · exact ⟨_, rfl, H, fun _ _ h => h, ret_false (bad (by omega)), rfl, Nat.le_refl _⟩
    · exact ⟨_, rfl, H, fun _ _ h => h, ret_false (bad (by omega)), rfl, Nat.le_refl _⟩
    · by_cases e : k = i
      · subst e; omega
      · exact hp k (by omega)
  · simp only [SS, Nat.reduceEqDiff, Nat.reduceAdd, iput, puts, hlt, not_false_eq_true]
    exact ⟨_, rfl, H, fun _ _ h => h, ret_true (fun k hk => hp k (by omega)), rfl, Nat.le_refl _⟩


structure Cat where
  o : Int
  f : List Int
  t : List Int
  i : List Int
  c : List (List Int)
def Cat.cells (c : Cat) : List AV := [int c.o, islice c.f, islice c.t, islice c.i, .sl (rows c.c) c.c.length]
theorem cat0 (c : Cat) : c.cells[0]? = some (int c.o) := rfl
theorem cat1 (c : Cat) : c.cells[1]? = some (islice c.f) := rfl
theorem cat2 (c : Cat) : c.cells[2]? = some (islice c.t) := rfl
theorem cat3 (c : Cat) : c.cells[3]? = some (islice c.i) := rfl
theorem cat4 (c : Cat) : c.cells[4]? = some (.sl (rows c.c) c.c.length) := rfl
theorem cat_still (c : Cat) : c.cells.all AV.still = true := rfl
theorem cat_one (c : Cat) : c.cells.all AV.one = true := rfl
theorem p_boxc {H : Hp} (c : Cat) : pvf H .box [.agg c.cells] = some (.ptr c.cells 0) := p_box (cat_still c) (cat_one c)
theorem p_ldc {H : Hp} (c : Cat) : pvf H (.ld (some 5)) [.ptr c.cells 0] = some (.agg c.cells) := p_lda rfl
theorem frzL_cat {H : Hp} {l : List AV} (c : Cat) : frzL H (.agg c.cells :: l) = (frzL H l).map (.agg c.cells :: ·) := frzL_agg (cat_still c)
/-- The composite of two arrows in the table. -/
def Cat.K (c : Cat) (a b : Int) : Int := (c.c.getD a.toNat []).getD b.toNat 0
def Cat.F (c : Cat) (a : Int) : Int := c.f.getD a.toNat 0
def Cat.T (c : Cat) (a : Int) : Int := c.t.getD a.toNat 0
def Cat.I (c : Cat) (a : Int) : Int := c.i.getD a.toNat 0

def V_Category_arrows : Vc :=
  .op true (.p .nck [.t 0]) <|
  .op true (.p (.fad 1) [.t 1]) <|
  .op true (.p (.ld none) [.t 2]) <|
  .op true (.p .len [.t 3]) <|
  .ret [(.t 4, none)]
theorem arrows_ok (h : Has P ν 26 1 V_Category_arrows) (c : Cat) : Fn P ν 26 [.ptr c.cells 0] (int c.f.length) := by
  intro H nx
  refine h _ _ _ _ rfl fun hwf => ?_
  unfold V_Category_arrows
  simp only [SS, Nat.reduceEqDiff, Nat.reduceAdd, iput, puts, cat1]
  exact ⟨_, rfl, H, fun _ _ h => h, rfl, rfl, Nat.le_refl _⟩

def V_Category_then : Vc :=
  .op true (.p .nck [.t 0]) <|
  .op true (.p (.fad 4) [.t 3]) <|
  .op true (.p (.ld none) [.t 4]) <|
  .op true (.p (.iad 1) [.t 5, .t 1]) <|
  .op true (.p (.ld none) [.t 6]) <|
  .op true (.p (.iad 1) [.t 7, .t 2]) <|
  .op true (.p (.ld none) [.t 8]) <|
  .ret [(.t 9, none)]


def V_Category_ends : Vc :=
  .op true (.new [int 0, int 0]) <|
  .op true (.p .nck [.t 0]) <|
  .op true (.p (.fad 1) [.t 3]) <|
  .op true (.p (.ld none) [.t 4]) <|
  .op true (.p (.iad 1) [.t 5, .t 1]) <|
  .op true (.p (.ld none) [.t 6]) <|
  .op true (.p .nck [.t 0]) <|
  .op true (.p (.fad 2) [.t 8]) <|
  .op true (.p (.ld none) [.t 9]) <|
  .op true (.p (.iad 1) [.t 10, .t 1]) <|
  .op true (.p (.ld none) [.t 11]) <|
  .op true (.p (.mka [int 0, int 0] [(0, 1), (1, 1)]) [.t 7, .t 12]) <|
  .op true (.st 2 (.t 2) (.t 13)) <|
  .ret [(.t 2, some (some 2))]
end Go.Av

/-
  When a table is a category: the program's test and the reference's.
-/
namespace Go.Av
open Classical
set_option linter.unusedSimpArgs false
set_option linter.unusedVariables false
variable {P : Program} {ν : Nat → FuncId}

/-- The entry of the table at two arrows is as it must be. -/
def Cell (c : Cat) (a b : Nat) : Prop :=
  if c.t.getD a 0 = c.f.getD b 0 then 0 ≤ c.K a b ∧ c.K a b < c.f.length ∧ c.F (c.K a b) = c.f.getD a 0 ∧ c.T (c.K a b) = c.t.getD b 0 else c.K a b = -1
structure Shape (c : Cat) : Prop where
  o0 : 0 ≤ c.o
  o8 : c.o ≤ 8
  n40 : c.f.length ≤ 40
  tl : c.t.length = c.f.length
  fw : Wn c.f c.o
  tw : Wn c.t c.o
  il : (c.i.length : Int) = c.o
  iw : Wn c.i c.f.length
  cl : c.c.length = c.f.length
  id : ∀ x : Nat, x < c.i.length → c.F (c.i.getD x 0) = x ∧ c.T (c.i.getD x 0) = x
  row : ∀ a : Nat, a < c.f.length → (c.c.getD a []).length = c.f.length ∧ ∀ b : Nat, b < c.f.length → Cell c a b

theorem F_nat (c : Cat) (a : Nat) : c.F a = c.f.getD a 0 := rfl
theorem T_nat (c : Cat) (a : Nat) : c.T a = c.t.getD a 0 := rfl


def V_Category_isShape : Vc :=
  .op true (.call (.f 26) [.t 0]) <|
  .op true (.p .nck [.t 0]) <|
  .op true (.p (.fad 0) [.t 2]) <|
  .op true (.p (.ld none) [.t 3]) <|
  .op true (.call (.f 32) [.t 4, .c (int 0), .c (int 8)]) <|
  .op true (.p .bnot [.t 5]) <|
  .br 6
   (.ret [(.c (bool false), none)])
   (.op true (.p (.bin .gtr) [.t 1, .c (int 40)]) <|
   .br 7
    (.ret [(.c (bool false), none)])
    (.op true (.p .nck [.t 0]) <|
    .op true (.p (.fad 2) [.t 8]) <|
    .op true (.p (.ld none) [.t 9]) <|
    .op true (.p .len [.t 10]) <|
    .op true (.p (.bin .neq) [.t 11, .t 1]) <|
    .br 12
     (.ret [(.c (bool false), none)])
     (.op true (.p .nck [.t 0]) <|
     .op true (.p (.fad 1) [.t 13]) <|
     .op true (.p (.ld none) [.t 14]) <|
     .op true (.p .nck [.t 0]) <|
     .op true (.p (.fad 0) [.t 16]) <|
     .op true (.p (.ld none) [.t 17]) <|
     .op true (.call (.f 25) [.t 15, .t 18]) <|
     .op true (.p .bnot [.t 19]) <|
     .br 20
      (.ret [(.c (bool false), none)])
      (.op true (.p .nck [.t 0]) <|
      .op true (.p (.fad 2) [.t 21]) <|
      .op true (.p (.ld none) [.t 22]) <|
      .op true (.p .nck [.t 0]) <|
      .op true (.p (.fad 0) [.t 24]) <|
      .op true (.p (.ld none) [.t 25]) <|
      .op true (.call (.f 25) [.t 23, .t 26]) <|
      .op true (.p .bnot [.t 27]) <|
      .br 28
       (.ret [(.c (bool false), none)])
       (.op true (.p .nck [.t 0]) <|
       .op true (.p (.fad 3) [.t 29]) <|
       .op true (.p (.ld none) [.t 30]) <|
       .op true (.p .len [.t 31]) <|
       .op true (.p .nck [.t 0]) <|
       .op true (.p (.fad 0) [.t 33]) <|
       .op true (.p (.ld none) [.t 34]) <|
       .op true (.p (.bin .neq) [.t 32, .t 35]) <|
       .br 36
        (.ret [(.c (bool false), none)])
        (.op true (.p .nck [.t 0]) <|
        .op true (.p (.fad 3) [.t 37]) <|
        .op true (.p (.ld none) [.t 38]) <|
        .op true (.call (.f 25) [.t 39, .t 1]) <|
        .op true (.p .bnot [.t 40]) <|
        .br 41
         (.ret [(.c (bool false), none)])
         (.op true (.p .nck [.t 0]) <|
         .op true (.p (.fad 4) [.t 42]) <|
         .op true (.p (.ld none) [.t 43]) <|
         .op true (.p .len [.t 44]) <|
         .op true (.p (.bin .neq) [.t 45, .t 1]) <|
         .br 46
          (.ret [(.c (bool false), none)])
          (.op true (.p .nck [.t 0]) <|
          .op true (.p (.fad 3) [.t 47]) <|
          .op true (.p (.ld none) [.t 48]) <|
          .op true (.p .len [.t 49]) <|
          .loop 0 [.c (int 0)] <|
          .op true (.p (.bin .lss) [.t 51, .t 50]) <|
          .br 52
           (.op true (.p (.iad 1) [.t 49, .t 51]) <|
           .op true (.p (.ld none) [.t 53]) <|
           .op true (.call (.f 38) [.t 0, .t 54]) <|
           .op true (.p (.mka [int 0, int 0] [(0, 1), (1, 1)]) [.t 51, .t 51]) <|
           .op true (.p (.eqs true 2) [.t 55, .t 56]) <|
           .br 57
            (.ret [(.c (bool false), none)])
            (.op true (.p (.bin .add) [.t 51, .c (int 1)]) <|
            .again 0 [.t 58]))
           (.op true (.p .nck [.t 0]) <|
           .op true (.p (.fad 4) [.t 53]) <|
           .op true (.p (.ld none) [.t 54]) <|
           .op true (.p .len [.t 55]) <|
           .loop 0 [.c (int 0)] <|
           .op true (.p (.bin .lss) [.t 57, .t 56]) <|
           .br 58
            (.op true (.p (.iad 1) [.t 55, .t 57]) <|
            .op true (.p (.ld none) [.t 59]) <|
            .op true (.p .len [.t 60]) <|
            .op true (.p (.bin .neq) [.t 61, .t 1]) <|
            .br 62
             (.ret [(.c (bool false), none)])
             (.op true (.p .len [.t 60]) <|
             .loop 1 [.c (int 0)] <|
             .op true (.p (.bin .lss) [.t 64, .t 63]) <|
             .br 65
              (.op true (.p (.iad 1) [.t 60, .t 64]) <|
              .op true (.p (.ld none) [.t 66]) <|
              .op true (.p .nck [.t 0]) <|
              .op true (.p (.fad 2) [.t 68]) <|
              .op true (.p (.ld none) [.t 69]) <|
              .op true (.p (.iad 1) [.t 70, .t 57]) <|
              .op true (.p (.ld none) [.t 71]) <|
              .op true (.p .nck [.t 0]) <|
              .op true (.p (.fad 1) [.t 73]) <|
              .op true (.p (.ld none) [.t 74]) <|
              .op true (.p (.iad 1) [.t 75, .t 64]) <|
              .op true (.p (.ld none) [.t 76]) <|
              .op true (.p (.bin .neq) [.t 72, .t 77]) <|
              .br 78
               (.op true (.p (.bin .neq) [.t 67, .c (int (-1))]) <|
               .br 79
                (.ret [(.c (bool false), none)])
                (.op true (.p (.bin .add) [.t 64, .c (int 1)]) <|
                .again 1 [.t 80]))
               (.op true (.p (.bin .sub) [.t 1, .c (int 1)]) <|
               .op true (.call (.f 32) [.t 67, .c (int 0), .t 79]) <|
               .op true (.p .bnot [.t 80]) <|
               .br 81
                (.ret [(.c (bool false), none)])
                (.op true (.call (.f 38) [.t 0, .t 67]) <|
                .op true (.p .nck [.t 0]) <|
                .op true (.p (.fad 1) [.t 83]) <|
                .op true (.p (.ld none) [.t 84]) <|
                .op true (.p (.iad 1) [.t 85, .t 57]) <|
                .op true (.p (.ld none) [.t 86]) <|
                .op true (.p .nck [.t 0]) <|
                .op true (.p (.fad 2) [.t 88]) <|
                .op true (.p (.ld none) [.t 89]) <|
                .op true (.p (.iad 1) [.t 90, .t 64]) <|
                .op true (.p (.ld none) [.t 91]) <|
                .op true (.p (.mka [int 0, int 0] [(0, 1), (1, 1)]) [.t 87, .t 92]) <|
                .op true (.p (.eqs true 2) [.t 82, .t 93]) <|
                .br 94
                 (.ret [(.c (bool false), none)])
                 (.op true (.p (.bin .add) [.t 64, .c (int 1)]) <|
                 .again 1 [.t 95]))))
              (.op true (.p (.bin .add) [.t 57, .c (int 1)]) <|
              .again 0 [.t 66])))
            (.ret [(.c (bool true), none)]))))))))))

end Go.Av

/-
  The laws of a category: the first fault; when a table is a category.
-/
namespace Go.Av
open Classical
set_option linter.unusedSimpArgs false
set_option linter.unusedVariables false
variable {P : Program} {ν : Nat → FuncId}

def idOk (c : Cat) (f : Nat) : Bool := c.K (c.I (c.F f)) f == (f : Int) && c.K f (c.I (c.T f)) == (f : Int)
def asBad (c : Cat) (f g h : Nat) : Bool := c.T f == c.F g && c.T g == c.F h && c.K (c.K f g) h != c.K f (c.K g h)
def idF (c : Cat) : Option Nat := (List.range c.f.length).findSome? fun f => if idOk c f then none else some f
def asF (c : Cat) : Option (Nat × Nat × Nat) :=
  (List.range c.f.length).findSome? fun f => (List.range c.f.length).findSome? fun g => (List.range c.f.length).findSome? fun h => if asBad c f g h then some (f, g, h) else none
def Laws (c : Cat) : Prop := idF c = none ∧ asF c = none

section sh
variable {c : Cat}
theorem Shape.iLt (s : Shape c) {x : Int} (h0 : 0 ≤ x) (h : x < c.i.length) : 0 ≤ c.I x ∧ c.I x < c.f.length := s.iw x.toNat (by omega)
theorem Shape.rowLen (s : Shape c) {a : Int} (h0 : 0 ≤ a) (h : a < c.f.length) : (c.c.getD a.toNat []).length = c.f.length := (s.row a.toNat (by omega)).1
theorem Shape.kPos (s : Shape c) {a b : Nat} (ha : a < c.f.length) (hb : b < c.f.length) (h : c.T a = c.F b) : 0 ≤ c.K a b ∧ c.K a b < c.f.length ∧ c.F (c.K a b) = c.F a ∧ c.T (c.K a b) = c.T b := by
  have := (s.row a ha).2 b hb
  rw [Cell, if_pos (by rw [← T_nat, ← F_nat]; exact h)] at this
  rw [F_nat, T_nat]
  exact this
end sh



def V_Category_fault : Vc :=
  .op true (.call (.f 26) [.t 0]) <|
  .loop 0 [.c (int 0)] <|
  .op true (.p (.bin .lss) [.t 2, .t 1]) <|
  .br 3
   (.op true (.p .nck [.t 0]) <|
   .op true (.p (.fad 3) [.t 4]) <|
   .op true (.p (.ld none) [.t 5]) <|
   .op true (.p .nck [.t 0]) <|
   .op true (.p (.fad 1) [.t 7]) <|
   .op true (.p (.ld none) [.t 8]) <|
   .op true (.p (.iad 1) [.t 9, .t 2]) <|
   .op true (.p (.ld none) [.t 10]) <|
   .op true (.p (.iad 1) [.t 6, .t 11]) <|
   .op true (.p (.ld none) [.t 12]) <|
   .op true (.call (.f 34) [.t 0, .t 13, .t 2]) <|
   .op true (.p (.bin .neq) [.t 14, .t 2]) <|
   .br 15
    (.ret [(.c (int 1), none), (.t 2, none), (.c (int 0), none), (.c (int 0), none)])
    (.op true (.p .nck [.t 0]) <|
    .op true (.p (.fad 3) [.t 16]) <|
    .op true (.p (.ld none) [.t 17]) <|
    .op true (.p .nck [.t 0]) <|
    .op true (.p (.fad 2) [.t 19]) <|
    .op true (.p (.ld none) [.t 20]) <|
    .op true (.p (.iad 1) [.t 21, .t 2]) <|
    .op true (.p (.ld none) [.t 22]) <|
    .op true (.p (.iad 1) [.t 18, .t 23]) <|
    .op true (.p (.ld none) [.t 24]) <|
    .op true (.call (.f 34) [.t 0, .t 2, .t 25]) <|
    .op true (.p (.bin .neq) [.t 26, .t 2]) <|
    .br 27
     (.ret [(.c (int 1), none), (.t 2, none), (.c (int 0), none), (.c (int 0), none)])
     (.op true (.p (.bin .add) [.t 2, .c (int 1)]) <|
     .again 0 [.t 28])))
   (.loop 0 [.c (int 0)] <|
   .op true (.p (.bin .lss) [.t 4, .t 1]) <|
   .br 5
    (.loop 1 [.c (int 0)] <|
    .op true (.p (.bin .lss) [.t 6, .t 1]) <|
    .br 7
     (.op true (.call (.f 34) [.t 0, .t 4, .t 6]) <|
     .op true (.p (.bin .lss) [.t 8, .c (int 0)]) <|
     .br 9
      (.op true (.p (.bin .add) [.t 6, .c (int 1)]) <|
      .again 1 [.t 10])
      (.loop 2 [.c (int 0)] <|
      .op true (.p (.bin .lss) [.t 10, .t 1]) <|
      .br 11
       (.op true (.call (.f 34) [.t 0, .t 6, .t 10]) <|
       .op true (.p (.bin .geq) [.t 12, .c (int 0)]) <|
       .br 13
        (.op true (.call (.f 34) [.t 0, .t 4, .t 6]) <|
        .op true (.call (.f 34) [.t 0, .t 14, .t 10]) <|
        .op true (.call (.f 34) [.t 0, .t 6, .t 10]) <|
        .op true (.call (.f 34) [.t 0, .t 4, .t 16]) <|
        .op true (.p (.bin .neq) [.t 15, .t 17]) <|
        .br 18
         (.ret [(.c (int 2), none), (.t 4, none), (.t 6, none), (.t 10, none)])
         (.op true (.p (.bin .add) [.t 10, .c (int 1)]) <|
         .again 2 [.t 19]))
        (.op true (.p (.bin .add) [.t 10, .c (int 1)]) <|
        .again 2 [.t 14]))
       (.op true (.p (.bin .add) [.t 6, .c (int 1)]) <|
       .again 1 [.t 12])))
     (.op true (.p (.bin .add) [.t 4, .c (int 1)]) <|
     .again 0 [.t 8]))
    (.ret [(.c (int 0), none), (.c (int 0), none), (.c (int 0), none), (.c (int 0), none)]))

/-- The lists are no longer than the statements let by. -/
structure Small (c : Cat) : Prop where
  f : c.f.length ≤ 1048576
  t : c.t.length ≤ 1048576
  i : c.i.length ≤ 1048576
  c : c.c.length ≤ 1048576

def V_Category_isCategory : Vc :=
  .op true (.call (.f 30) [.t 0]) <|
  .op true (.p .bnot [.t 1]) <|
  .br 2
   (.ret [(.c (bool false), none)])
   (.op true (.call (.f 31) [.t 0]) <|
   .op true (.p (.ext 0) [.t 3]) <|
   .op true (.p (.ext 1) [.t 3]) <|
   .op true (.p (.ext 2) [.t 3]) <|
   .op true (.p (.ext 3) [.t 3]) <|
   .op true (.p (.bin .eql) [.t 4, .c (int 0)]) <|
   .ret [(.t 8, none)])
/-- What the program's test for a category rests on. -/
structure HCat (P : Program) (ν : Nat → FuncId) : Prop where
  arrows : Has P ν 26 1 V_Category_arrows
  inRange : Has P ν 32 3 V_inRange
  within : Has P ν 25 2 V_within
  ends : Has P ν 38 2 V_Category_ends
  thn : Has P ν 34 3 V_Category_then
  isShape : Has P ν 30 1 V_Category_isShape
  fault : Has P ν 31 1 V_Category_fault
  isCategory : Has P ν 24 1 V_Category_isCategory


end Go.Av

/-
  Arrows between two objects, lifts, sections; the error codes.
-/
namespace Go.Av
open Classical
set_option linter.unusedSimpArgs false
set_option linter.unusedVariables false
variable {P : Program} {ν : Nat → FuncId}

/-- The numbers below n that meet p, rising. -/
def selL (n : Nat) (p : Nat → Bool) : List Int := ((List.range n).filter p).map fun (k : Nat) => (k : Int)
theorem selL_succ (m : Nat) (p : Nat → Bool) : selL (m + 1) p = selL m p ++ (if p m then [(m : Int)] else []) := by
  simp only [selL, List.range_succ, List.filter_append, List.map_append]
  congr 1
  simp only [List.filter_cons, List.filter_nil]
  split <;> simp
theorem selL_len (m : Nat) (p : Nat → Bool) : (selL m p).length ≤ m := by
  simp only [selL, List.length_map]; exact Nat.le_trans (List.length_filter_le _ _) (by simp)

def homL (c : Cat) (x y : Int) : List Int := selL c.f.length fun k => c.F k == x && c.T k == y

def V_Category_hom : Vc :=
  .op true (.p (.msl 0 [] []) []) <|
  .op true (.p .nck [.t 0]) <|
  .op true (.p (.fad 1) [.t 4]) <|
  .op true (.p (.ld none) [.t 5]) <|
  .op true (.p .len [.t 6]) <|
  .loop 0 [.t 3, .c (int 0)] <|
  .op true (.p (.bin .lss) [.t 9, .t 7]) <|
  .br 10
   (.op true (.p .nck [.t 0]) <|
   .op true (.p (.fad 1) [.t 11]) <|
   .op true (.p (.ld none) [.t 12]) <|
   .op true (.p (.iad 1) [.t 13, .t 9]) <|
   .op true (.p (.ld none) [.t 14]) <|
   .op true (.p (.bin .eql) [.t 15, .t 1]) <|
   .br 16
    (.op true (.p .nck [.t 0]) <|
    .op true (.p (.fad 2) [.t 17]) <|
    .op true (.p (.ld none) [.t 18]) <|
    .op true (.p (.iad 1) [.t 19, .t 9]) <|
    .op true (.p (.ld none) [.t 20]) <|
    .op true (.p (.bin .eql) [.t 21, .t 2]) <|
    .br 22
     (.op true (.p (.msl 1 [int 0] [(0, 1)]) [.t 9]) <|
     .op true (.app 1 (.t 8) (.t 23)) <|
     .op true (.p (.bin .add) [.t 9, .c (int 1)]) <|
     .again 0 [.t 24, .t 25])
     (.op true (.p (.bin .add) [.t 9, .c (int 1)]) <|
     .again 0 [.t 8, .t 23]))
    (.op true (.p (.bin .add) [.t 9, .c (int 1)]) <|
    .again 0 [.t 8, .t 17]))
   (.ret [(.t 8, none)])
theorem hom_ok (h : Has P ν 33 3 V_Category_hom) (c : Cat) (x y : Int) (H : Hp) (nx : Nat) (hc : c.f.length ≤ c.t.length) (hb : c.f.length ≤ 1048576) : OkM P ν 33 [.ptr c.cells 0, int x, int y] H nx (IsI (homL c x y) H nx) := by
  refine h _ _ _ _ rfl fun hwf => ?_
  unfold V_Category_hom
  simp only [SS, Nat.reduceEqDiff, Nat.reduceAdd, iput, puts, cat1]
  refine den_loop (α := Nat × AV) (fun a => [a.2, int a.1]) (fun a H' nx' => a.1 ≤ c.f.length ∧ IsI (selL a.1 fun k => c.F k == x && c.T k == y) H nx a.2 H' nx') (fun a => c.f.length - a.1) (0, .nil) ?_ ?_ ?_
  · simp only [SS, Nat.reduceEqDiff, Nat.reduceAdd, iput, puts]; rfl
  · exact ⟨Nat.zero_le _, Nat.le_refl _, .inl ⟨rfl, rfl, rfl⟩⟩
  · rintro ⟨i, v⟩ H' nx' ⟨hi, hI⟩
    simp only at hi hI
    have hs := selL_succ i fun k => c.F k == x && c.T k == y
    have hl := selL_len i fun k => c.F k == x && c.T k == y
    by_cases hlt : i < c.f.length
    · have hlt2 : i < c.t.length := by omega
      simp only [SS, Nat.reduceEqDiff, Nat.reduceAdd, iput, puts, cat1, cat2, hlt, hlt2, wrap_succ (show i < 9223372036854775807 by omega), not_true_eq_false]
      refine ⟨fun h1 => ⟨fun h2 => ?_, fun h2 => ?_⟩, fun h1 => ?_⟩
      · refine den_appI (m := [(i : Int)]) (H0 := H) (nx0 := nx) hI rfl (by simp) (by simp; omega) fun v2 H2 nx2 hI2 => ?_
        simp only [SS, Nat.reduceEqDiff, Nat.reduceAdd, iput, puts, wrap_succ (show i < 9223372036854775807 by omega)]
        rw [← F_nat] at h1
        rw [← T_nat] at h2
        exact ⟨(i + 1, v2), rfl, ⟨by simp only; omega, by simp only [hs, h1, h2]; simpa using hI2⟩, by simp only; omega⟩
      · rw [← T_nat] at h2
        exact ⟨(i + 1, v), rfl, ⟨by simp only; omega, by simp only [hs, beq_eq_false_iff_ne.2 h2]; simpa using hI⟩, by simp only; omega⟩
      · rw [← F_nat] at h1
        exact ⟨(i + 1, v), rfl, ⟨by simp only; omega, by simp only [hs, beq_eq_false_iff_ne.2 h1]; simpa using hI⟩, by simp only; omega⟩
    · have hi' : i = c.f.length := by omega
      subst hi'
      simp only [SS, Nat.reduceEqDiff, Nat.reduceAdd, iput, puts, hlt, not_false_eq_true]
      exact ⟨v, rfl, H', fun _ _ h => h, hI⟩
theorem hom_fz (h : Has P ν 33 3 V_Category_hom) (c : Cat) (x y : Int) (hc : c.f.length ≤ c.t.length) (hb : c.f.length ≤ 1048576) : Fz (OkM P ν) 33 [.ptr c.cells 0, int x, int y] (islice (homL c x y)) :=
  OkM.fz (fun H nx => hom_ok h c x y H nx hc hb) fun _ _ _ hh => hh.frz _

/-- A pair of a slice of the call's own and a number. -/
def IsP (l : List Int) (k : Int) (H : Hp) (nx : Nat) (r : AV) (H' : Hp) (nx' : Nat) : Prop := ∃ r0, r = .tup [r0, int k] ∧ IsI l H nx r0 H' nx'
theorem IsP.frz {l : List Int} {k : Int} {H : Hp} {nx : Nat} {r : AV} {H' : Hp} {nx' : Nat} (h : IsP l k H nx r H' nx') : frzN H' fuel r = some (.tup [islice l, int k]) := by
  obtain ⟨r0, rfl, h⟩ := h
  have := h.frz 4
  simp [fuel, frzN, this, frzN_int]






end Go.Av

/-
  SectionsOf: the program's and the reference's.
-/
namespace Go.Av
open Classical
set_option linter.unusedSimpArgs false
set_option linter.unusedVariables false
variable {P : Program} {ν : Nat → FuncId}

theorem IsI.some (l : List Int) (H : Hp) (nx : Nat) : ∃ u H' nx', IsI l H nx u H' nx' := by
  by_cases e : l = []
  · exact ⟨.nil, H, nx, Nat.le_refl _, .inl ⟨e, rfl, rfl⟩⟩
  · exact ⟨_, _, nx + 1, Nat.le_succ _, .inr ⟨nx, Nat.le_refl _, Nat.lt_succ_self _, rfl, rfl⟩⟩
theorem IsI.nil (H : Hp) (nx : Nat) : IsI [] H nx .nil H nx := ⟨Nat.le_refl _, .inl ⟨rfl, rfl, rfl⟩⟩






end Go.Av

/-
  The statements' own helpers: sizes, copies, comparisons, marks.
-/
namespace Go.Av
open Classical
set_option linter.unusedSimpArgs false
set_option linter.unusedVariables false
variable {P : Program} {ν : Nat → FuncId}

theorem list_eq_of {l m : List Int} (h1 : l.length = m.length) (h2 : ∀ k, k < l.length → l.getD k 0 = m.getD k 0) : l = m := by
  refine List.ext_getElem h1 fun i a b => ?_
  have := h2 i a
  simpa [List.getD, a, b] using this
theorem lists_eq_of {l m : List (List Int)} (h1 : l.length = m.length) (h2 : ∀ k, k < l.length → l.getD k [] = m.getD k []) : l = m := by
  refine List.ext_getElem h1 fun i a b => ?_
  have := h2 i a
  simpa [List.getD, a, b] using this

def V_laws_eqInt64S : Vc :=
  .op true (.p .len [.t 0]) <|
  .op true (.p .len [.t 1]) <|
  .op true (.p (.bin .neq) [.t 2, .t 3]) <|
  .br 4
   (.ret [(.c (bool false), none)])
   (.loop 0 [.c (int 0)] <|
   .op true (.p .len [.t 0]) <|
   .op true (.p (.bin .lss) [.t 5, .t 6]) <|
   .br 7
    (.op true (.p (.iad 1) [.t 0, .t 5]) <|
    .op true (.p (.ld none) [.t 8]) <|
    .op true (.p (.iad 1) [.t 1, .t 5]) <|
    .op true (.p (.ld none) [.t 10]) <|
    .op true (.p (.bin .neq) [.t 9, .t 11]) <|
    .br 12
     (.ret [(.c (bool false), none)])
     (.op true (.p (.bin .add) [.t 5, .c (int 1)]) <|
     .again 0 [.t 13]))
    (.ret [(.c (bool true), none)]))
theorem eqI_ok (h : Has P ν 7 2 V_laws_eqInt64S) (l m : List Int) (hl : l.length < 9223372036854775807) : Fn P ν 7 [islice l, islice m] (bool (decide (l = m))) := by
  intro H nx
  refine h _ _ _ _ rfl fun hwf => ?_
  unfold V_laws_eqInt64S
  simp only [SS, Nat.reduceEqDiff, Nat.reduceAdd, iput, puts]
  refine ⟨fun h1 => ?_, fun h1 => ?_⟩
  · exact ⟨_, rfl, H, fun _ _ h => h, ret_false (fun e => h1 (by rw [e])), rfl, Nat.le_refl _⟩
  have h1' : l.length = m.length := by omega
  refine den_for l.length (fun i => ∀ k, k < i → l.getD k 0 = m.getD k 0) (fun k hk => by omega) fun i hi hp => ?_
  by_cases hlt : i < l.length
  · have hlt2 : i < m.length := by omega
    simp only [SS, Nat.reduceEqDiff, Nat.reduceAdd, iput, puts, hlt, hlt2, not_true_eq_false, wrap_succ (Nat.lt_trans hlt hl)]
    refine ⟨fun h3 => ?_, fun h3 => up rfl hlt fun k hk => ?_⟩
    · exact ⟨_, rfl, H, fun _ _ h => h, ret_false (fun e => h3 (by rw [e])), rfl, Nat.le_refl _⟩
    · by_cases e : k = i
      · subst e; exact h3
      · exact hp k (by omega)
  · simp only [SS, Nat.reduceEqDiff, Nat.reduceAdd, iput, puts, hlt, not_false_eq_true]
    exact ⟨_, rfl, H, fun _ _ h => h, ret_true (list_eq_of h1' fun k hk => hp k (by omega)), rfl, Nat.le_refl _⟩

def V_laws_eqInt64SS : Vc :=
  .op true (.p .len [.t 0]) <|
  .op true (.p .len [.t 1]) <|
  .op true (.p (.bin .neq) [.t 2, .t 3]) <|
  .br 4
   (.ret [(.c (bool false), none)])
   (.loop 0 [.c (int 0)] <|
   .op true (.p .len [.t 0]) <|
   .op true (.p (.bin .lss) [.t 5, .t 6]) <|
   .br 7
    (.op true (.p (.iad 1) [.t 0, .t 5]) <|
    .op true (.p (.ld none) [.t 8]) <|
    .op true (.p (.iad 1) [.t 1, .t 5]) <|
    .op true (.p (.ld none) [.t 10]) <|
    .op true (.call (.f 7) [.t 9, .t 11]) <|
    .op true (.p .bnot [.t 12]) <|
    .br 13
     (.ret [(.c (bool false), none)])
     (.op true (.p (.bin .add) [.t 5, .c (int 1)]) <|
     .again 0 [.t 14]))
    (.ret [(.c (bool true), none)]))
theorem eqII_ok (he : Has P ν 7 2 V_laws_eqInt64S) (h : Has P ν 20 2 V_laws_eqInt64SS) (l m : List (List Int)) (hl : l.length < 9223372036854775807) (hr : ∀ k, k < l.length → (l.getD k []).length < 9223372036854775807) : Fn P ν 20 [.sl (rows l) l.length, .sl (rows m) m.length] (bool (decide (l = m))) := by
  intro H nx
  refine h _ _ _ _ rfl fun hwf => ?_
  unfold V_laws_eqInt64SS
  simp only [SS, Nat.reduceEqDiff, Nat.reduceAdd, iput, puts]
  refine ⟨fun h1 => ?_, fun h1 => ?_⟩
  · exact ⟨_, rfl, H, fun _ _ h => h, ret_false (fun e => h1 (by rw [e])), rfl, Nat.le_refl _⟩
  have h1' : l.length = m.length := by omega
  refine den_for l.length (fun i => ∀ k, k < i → l.getD k [] = m.getD k []) (fun k hk => by omega) fun i hi hp => ?_
  by_cases hlt : i < l.length
  · have hlt2 : i < m.length := by omega
    simp only [SS, Nat.reduceEqDiff, Nat.reduceAdd, iput, puts, hlt, hlt2, not_true_eq_false]
    refine den_call (fc := (7, [])) rfl (by first | (simp only [SS, Nat.reduceEqDiff, Nat.reduceAdd, iput, puts, FF, frzL_cat]; done) | (simp only [SS, Nat.reduceEqDiff, Nat.reduceAdd, iput, puts, FF, frzL_cat]; rfl)) ((eqI_ok he (l.getD i []) (m.getD i []) (hr i hlt)).fzb) ?_
    simp only [SS, Nat.reduceEqDiff, Nat.reduceAdd, iput, puts, wrap_succ (Nat.lt_trans hlt hl)]
    refine ⟨fun h3 => ?_, fun h3 => up rfl hlt fun k hk => ?_⟩
    · exact ⟨_, rfl, H, fun _ _ h => h, ret_false (fun e => h3 (by rw [e])), rfl, Nat.le_refl _⟩
    · by_cases e : k = i
      · subst e; exact h3
      · exact hp k (by omega)
  · simp only [SS, Nat.reduceEqDiff, Nat.reduceAdd, iput, puts, hlt, not_false_eq_true]
    exact ⟨_, rfl, H, fun _ _ h => h, ret_true (lists_eq_of h1' fun k hk => hp k (by omega)), rfl, Nat.le_refl _⟩

theorem Cat.ext {a b : Cat} (h1 : a.o = b.o) (h2 : a.f = b.f) (h3 : a.t = b.t) (h4 : a.i = b.i) (h5 : a.c = b.c) : a = b := by cases a; cases b; simp_all
/-- All the lists are short, the rows too. -/
structure Small2 (x : Cat) : Prop extends Small x where
  row : ∀ k, k < x.c.length → (x.c.getD k []).length ≤ 1048576

def V_laws_eqCategory : Vc :=
  .op true (.p .box [.t 0]) <|
  .op true (.p .box [.t 1]) <|
  .op true (.p (.fad 0) [.t 2]) <|
  .op true (.p (.ld none) [.t 4]) <|
  .op true (.p (.fad 0) [.t 3]) <|
  .op true (.p (.ld none) [.t 6]) <|
  .op true (.p (.bin .neq) [.t 5, .t 7]) <|
  .br 8
   (.ret [(.c (bool false), none)])
   (.op true (.p (.fad 1) [.t 2]) <|
   .op true (.p (.ld none) [.t 9]) <|
   .op true (.p (.fad 1) [.t 3]) <|
   .op true (.p (.ld none) [.t 11]) <|
   .op true (.call (.f 7) [.t 10, .t 12]) <|
   .op true (.p .bnot [.t 13]) <|
   .br 14
    (.ret [(.c (bool false), none)])
    (.op true (.p (.fad 2) [.t 2]) <|
    .op true (.p (.ld none) [.t 15]) <|
    .op true (.p (.fad 2) [.t 3]) <|
    .op true (.p (.ld none) [.t 17]) <|
    .op true (.call (.f 7) [.t 16, .t 18]) <|
    .op true (.p .bnot [.t 19]) <|
    .br 20
     (.ret [(.c (bool false), none)])
     (.op true (.p (.fad 3) [.t 2]) <|
     .op true (.p (.ld none) [.t 21]) <|
     .op true (.p (.fad 3) [.t 3]) <|
     .op true (.p (.ld none) [.t 23]) <|
     .op true (.call (.f 7) [.t 22, .t 24]) <|
     .op true (.p .bnot [.t 25]) <|
     .br 26
      (.ret [(.c (bool false), none)])
      (.op true (.p (.fad 4) [.t 2]) <|
      .op true (.p (.ld none) [.t 27]) <|
      .op true (.p (.fad 4) [.t 3]) <|
      .op true (.p (.ld none) [.t 29]) <|
      .op true (.call (.f 20) [.t 28, .t 30]) <|
      .op true (.p .bnot [.t 31]) <|
      .br 32
       (.ret [(.c (bool false), none)])
       (.ret [(.c (bool true), none)])))))
theorem eqCat_ok (he : Has P ν 7 2 V_laws_eqInt64S) (he2 : Has P ν 20 2 V_laws_eqInt64SS) (h : Has P ν 8 2 V_laws_eqCategory) (a b : Cat) (s : Small2 a) : Fn P ν 8 [.agg a.cells, .agg b.cells] (bool (decide (a = b))) := by
  intro H nx
  refine h _ _ _ _ rfl fun hwf => ?_
  unfold V_laws_eqCategory
  have s1 := s.f
  have s2 := s.t
  have s3 := s.i
  have s4 := s.c
  simp only [SS, Nat.reduceEqDiff, Nat.reduceAdd, iput, puts, p_boxc, cat0, cat1]
  refine ⟨fun h1 => ?_, fun h1 => ?_⟩
  · exact ⟨_, rfl, H, fun _ _ h => h, ret_false (fun e => h1 (by rw [e])), rfl, Nat.le_refl _⟩
  refine den_call (fc := (7, [])) rfl (by first | (simp only [SS, Nat.reduceEqDiff, Nat.reduceAdd, iput, puts, FF, frzL_cat]; done) | (simp only [SS, Nat.reduceEqDiff, Nat.reduceAdd, iput, puts, FF, frzL_cat]; rfl)) ((eqI_ok he a.f b.f (by omega)).fzb) ?_
  simp only [SS, Nat.reduceEqDiff, Nat.reduceAdd, iput, puts, cat2]
  refine ⟨fun h2 => ?_, fun h2 => ?_⟩
  · exact ⟨_, rfl, H, fun _ _ h => h, ret_false (fun e => h2 (by rw [e])), rfl, Nat.le_refl _⟩
  refine den_call (fc := (7, [])) rfl (by first | (simp only [SS, Nat.reduceEqDiff, Nat.reduceAdd, iput, puts, FF, frzL_cat]; done) | (simp only [SS, Nat.reduceEqDiff, Nat.reduceAdd, iput, puts, FF, frzL_cat]; rfl)) ((eqI_ok he a.t b.t (by omega)).fzb) ?_
  simp only [SS, Nat.reduceEqDiff, Nat.reduceAdd, iput, puts, cat3]
  refine ⟨fun h3 => ?_, fun h3 => ?_⟩
  · exact ⟨_, rfl, H, fun _ _ h => h, ret_false (fun e => h3 (by rw [e])), rfl, Nat.le_refl _⟩
  refine den_call (fc := (7, [])) rfl (by first | (simp only [SS, Nat.reduceEqDiff, Nat.reduceAdd, iput, puts, FF, frzL_cat]; done) | (simp only [SS, Nat.reduceEqDiff, Nat.reduceAdd, iput, puts, FF, frzL_cat]; rfl)) ((eqI_ok he a.i b.i (by omega)).fzb) ?_
  simp only [SS, Nat.reduceEqDiff, Nat.reduceAdd, iput, puts, cat4]
  refine ⟨fun h4 => ?_, fun h4 => ?_⟩
  · exact ⟨_, rfl, H, fun _ _ h => h, ret_false (fun e => h4 (by rw [e])), rfl, Nat.le_refl _⟩
  refine den_call (fc := (20, [])) rfl (by first | (simp only [SS, Nat.reduceEqDiff, Nat.reduceAdd, iput, puts, FF, frzL_cat]; done) | (simp only [SS, Nat.reduceEqDiff, Nat.reduceAdd, iput, puts, FF, frzL_cat]; rfl)) ((eqII_ok he he2 a.c b.c (by omega) (fun k hk => by have := s.row k hk; omega)).fzb) ?_
  simp only [SS, Nat.reduceEqDiff, Nat.reduceAdd, iput, puts]
  refine ⟨fun h5 => ?_, fun h5 => ?_⟩
  · exact ⟨_, rfl, H, fun _ _ h => h, ret_false (fun e => h5 (by rw [e])), rfl, Nat.le_refl _⟩
  · exact ⟨_, rfl, H, fun _ _ h => h, ret_true (Cat.ext h1 h2 h3 h4 h5), rfl, Nat.le_refl _⟩

/-- Sizes. -/
def szS (l : List Int) (left : Int) : Int := if left - l.length < 0 then -1 else left - l.length
def szR : List (List Int) → Int → Int
  | [], left => left
  | r :: rs, left => if szS r left < 0 then -1 else szR rs (szS r left)
def szSS (m : List (List Int)) (left : Int) : Int := if left - m.length < 0 then -1 else szR m (left - m.length)
theorem szS_pos {l : List Int} {left : Int} (h : 0 ≤ szS l left) : (l.length : Int) ≤ left ∧ szS l left ≤ left := by unfold szS at *; split at h <;> split <;> omega

def V_laws_szInt64S : Vc :=
  .op true (.p .len [.t 0]) <|
  .op true (.p (.bin .sub) [.t 1, .t 2]) <|
  .op true (.p (.bin .lss) [.t 3, .c (int 0)]) <|
  .br 4
   (.ret [(.c (int (-1)), none)])
   (.ret [(.t 3, none)])
theorem szI_ok (h : Has P ν 12 2 V_laws_szInt64S) (l : List Int) (left : Int) (h0 : 0 ≤ left) (h1 : left ≤ 1048576) (hl : l.length ≤ 9223372036854775807) : Fn P ν 12 [islice l, int left] (int (szS l left)) := by
  intro H nx
  refine h _ _ _ _ rfl fun hwf => ?_
  unfold V_laws_szInt64S
  simp only [SS, Nat.reduceEqDiff, Nat.reduceAdd, iput, puts, wrap_id (show -9223372036854775808 ≤ left - (l.length : Int) by omega) (show left - (l.length : Int) ≤ 9223372036854775807 by omega)]
  refine ⟨fun h2 => ?_, fun h2 => ?_⟩
  · exact ⟨_, rfl, H, fun _ _ h => h, by unfold szS; rw [if_pos h2]; rfl, rfl, Nat.le_refl _⟩
  · exact ⟨_, rfl, H, fun _ _ h => h, by unfold szS; rw [if_neg h2]; rfl, rfl, Nat.le_refl _⟩

theorem szR_pos : ∀ (m : List (List Int)) (left : Int), 0 ≤ left → 0 ≤ szR m left → ∀ k, k < m.length → ((m.getD k []).length : Int) ≤ left
  | [], _, _, _, k, hk => by simp at hk
  | r :: rs, left, h0, h, k, hk => by
    simp only [szR] at h
    split at h
    · omega
    · rename_i h1
      have h2 := szS_pos (l := r) (left := left) (by omega)
      cases k with
      | zero => simpa using h2.1
      | succ k =>
        have := szR_pos rs (szS r left) (by omega) h k (by simpa using hk)
        simp only [List.getD_cons_succ]
        omega
theorem drop_at {m : List (List Int)} {i : Nat} (h : i < m.length) : m.drop i = m.getD i [] :: m.drop (i + 1) := by
  rw [List.drop_eq_getElem_cons h]; simp [List.getD, h]

def V_laws_szInt64SS : Vc :=
  .op true (.p .len [.t 0]) <|
  .op true (.p (.bin .sub) [.t 1, .t 2]) <|
  .op true (.p (.bin .lss) [.t 3, .c (int 0)]) <|
  .br 4
   (.ret [(.c (int (-1)), none)])
   (.loop 0 [.t 3, .c (int 0)] <|
   .op true (.p .len [.t 0]) <|
   .op true (.p (.bin .lss) [.t 6, .t 7]) <|
   .br 8
    (.op true (.p (.iad 1) [.t 0, .t 6]) <|
    .op true (.p (.ld none) [.t 9]) <|
    .op true (.call (.f 12) [.t 10, .t 5]) <|
    .op true (.p (.bin .lss) [.t 11, .c (int 0)]) <|
    .br 12
     (.ret [(.c (int (-1)), none)])
     (.op true (.p (.bin .add) [.t 6, .c (int 1)]) <|
     .again 0 [.t 11, .t 13]))
    (.ret [(.t 5, none)]))
theorem szII_ok (hz : Has P ν 12 2 V_laws_szInt64S) (h : Has P ν 13 2 V_laws_szInt64SS) (m : List (List Int)) (left : Int) (h0 : 0 ≤ left) (h1 : left ≤ 1048576) (hl : m.length ≤ 9223372036854775807) (hr : ∀ k, k < m.length → (m.getD k []).length ≤ 9223372036854775807) :
    Fn P ν 13 [.sl (rows m) m.length, int left] (int (szSS m left)) := by
  intro H nx
  refine h _ _ _ _ rfl fun hwf => ?_
  unfold V_laws_szInt64SS
  simp only [SS, Nat.reduceEqDiff, Nat.reduceAdd, iput, puts, wrap_id (show -9223372036854775808 ≤ left - (m.length : Int) by omega) (show left - (m.length : Int) ≤ 9223372036854775807 by omega)]
  refine ⟨fun h2 => ?_, fun h2 => ?_⟩
  · exact ⟨_, rfl, H, fun _ _ h => h, by unfold szSS; rw [if_pos h2]; rfl, rfl, Nat.le_refl _⟩
  have e0 : szSS m left = szR m (left - m.length) := by unfold szSS; rw [if_neg h2]
  refine den_loop (α := Nat × Int) (fun a => [int a.2, int a.1]) (fun a H' nx' => a.1 ≤ m.length ∧ 0 ≤ a.2 ∧ a.2 ≤ 1048576 ∧ szSS m left = szR (m.drop a.1) a.2 ∧ H' = H ∧ nx' = nx) (fun a => m.length - a.1) (0, left - m.length) ?_ ?_ ?_
  · simp only [SS, Nat.reduceEqDiff, Nat.reduceAdd, iput, puts]; rfl
  · exact ⟨Nat.zero_le _, by simp only; omega, by simp only; omega, e0, rfl, rfl⟩
  · rintro ⟨i, x⟩ H' nx' ⟨g1, g2, g3, g4, g5, g6⟩
    simp only at g1 g2 g3 g4
    subst g5; subst g6
    by_cases hlt : i < m.length
    · rw [drop_at hlt] at g4
      simp only [szR] at g4
      simp only [SS, Nat.reduceEqDiff, Nat.reduceAdd, iput, puts, hlt, not_true_eq_false]
      refine den_call (fc := (12, [])) rfl (by first | (simp only [SS, Nat.reduceEqDiff, Nat.reduceAdd, iput, puts, FF, frzL_cat]; done) | (simp only [SS, Nat.reduceEqDiff, Nat.reduceAdd, iput, puts, FF, frzL_cat]; rfl)) ((szI_ok hz (m.getD i []) x g2 g3 (hr i hlt)).fzi) ?_
      simp only [SS, Nat.reduceEqDiff, Nat.reduceAdd, iput, puts, wrap_succ (show i < 9223372036854775807 by omega)]
      refine ⟨fun h5 => ?_, fun h5 => ?_⟩
      · exact ⟨_, rfl, H', fun _ _ h => h, by rw [g4, if_pos h5]; rfl, rfl, Nat.le_refl _⟩
      · rw [if_neg h5] at g4
        have := szS_pos (l := m.getD i []) (left := x) (by omega)
        exact ⟨(i + 1, szS (m.getD i []) x), rfl, ⟨by simp only; omega, by simp only; omega, by simp only; omega, g4⟩, by simp only; omega⟩
    · simp only [SS, Nat.reduceEqDiff, Nat.reduceAdd, iput, puts, hlt, not_false_eq_true]
      have : m.drop i = [] := List.drop_eq_nil_of_le (by omega)
      rw [this] at g4
      exact ⟨_, rfl, H', fun _ _ h => h, by rw [g4]; rfl, rfl, Nat.le_refl _⟩


def V_laws_szCategory : Vc :=
  .op true (.p .box [.t 0]) <|
  .op true (.p (.fad 1) [.t 2]) <|
  .op true (.p (.ld none) [.t 3]) <|
  .op true (.call (.f 12) [.t 4, .t 1]) <|
  .op true (.p (.bin .lss) [.t 5, .c (int 0)]) <|
  .br 6
   (.ret [(.c (int (-1)), none)])
   (.op true (.p (.fad 2) [.t 2]) <|
   .op true (.p (.ld none) [.t 7]) <|
   .op true (.call (.f 12) [.t 8, .t 5]) <|
   .op true (.p (.bin .lss) [.t 9, .c (int 0)]) <|
   .br 10
    (.ret [(.c (int (-1)), none)])
    (.op true (.p (.fad 3) [.t 2]) <|
    .op true (.p (.ld none) [.t 11]) <|
    .op true (.call (.f 12) [.t 12, .t 9]) <|
    .op true (.p (.bin .lss) [.t 13, .c (int 0)]) <|
    .br 14
     (.ret [(.c (int (-1)), none)])
     (.op true (.p (.fad 4) [.t 2]) <|
     .op true (.p (.ld none) [.t 15]) <|
     .op true (.call (.f 13) [.t 16, .t 13]) <|
     .op true (.p (.bin .lss) [.t 17, .c (int 0)]) <|
     .br 18
      (.ret [(.c (int (-1)), none)])
      (.ret [(.t 17, none)]))))
theorem szR_le : ∀ (m : List (List Int)) (left : Int), 0 ≤ left → 0 ≤ szR m left → szR m left ≤ left
  | [], _, _, _ => by simp [szR]
  | r :: rs, left, h0, h => by
    simp only [szR] at h ⊢
    split at h
    · omega
    · rename_i h1
      rw [if_neg h1]
      have h2 := szS_pos (l := r) (left := left) (by omega)
      have := szR_le rs (szS r left) (by omega) h
      omega
theorem szSS_pos {m : List (List Int)} {left : Int} (h0 : 0 ≤ left) (h : 0 ≤ szSS m left) : (m.length : Int) ≤ left ∧ szSS m left ≤ left ∧ ∀ k, k < m.length → ((m.getD k []).length : Int) ≤ left := by
  unfold szSS at *
  split at h
  · omega
  · rename_i h1
    rw [if_neg h1]
    have h2 := szR_le m (left - m.length) (by omega) h
    have h3 := szR_pos m (left - m.length) (by omega) h
    exact ⟨by omega, by omega, fun k hk => by have := h3 k hk; omega⟩
end Go.Av

/-
  The statements' own helpers: copies, marks.
-/
namespace Go.Av
open Classical
set_option linter.unusedSimpArgs false
set_option linter.unusedVariables false
variable {P : Program} {ν : Nat → FuncId}

theorem flat1 {α : Type} (n : Nat) (a : α) : (List.replicate n [a]).flatten = List.replicate n a := by
  induction n with
  | zero => rfl
  | succ n ih => simp [List.replicate_succ, ih]
theorem hput_eq (H : Hp) (o : Nat) (c : Option (List AV)) : hput H o c o = c := by simp [hput]
theorem hput_ne (H : Hp) (o k : Nat) (c : Option (List AV)) (h : k ≠ o) : hput H o c k = H k := by simp [hput, h]

section
variable {H : Hp} {o n : Nat} {i : Int}
theorem p_iadm {c : List AV} (h : H o = some c) (hl : c.length = n) : pvf H (.iad 1) [.ms o 0 n 1, int i] = if 0 ≤ i ∧ i < n then some (.mp o i.toNat n) else none := by
  simp [pvf, pIad, h, int, hl]
theorem p_lenm {c : List AV} (h : H o = some c) (hl : c.length = n) : pvf H .len [.ms o 0 n 1] = some (int n) := by
  simp [pvf, pLen, h, int, hl]
theorem p_ldm {c : List AV} {p : Nat} (h : H o = some c) (hl : c.length = n) : pvf H (.ld none) [.mp o p n] = c[p]? := by
  simp [pvf, pLd, h, hl]
end
section
variable {C : Ct} {Φ : AV → Hp → Nat → Prop} {n : Nat} {vars : Nat → AV} {H : Hp} {nx : Nat} {Is : Nat → Inv} {r : Vc}
/-- A store of one cell into an object. -/
theorem den_st1 {x y : Opd} {o p m : Nat} {c : List AV} {u : AV} (hx : ev vars x = .mp o p m) (hy : ev vars y = u) (ho : H o = some c) (hl : c.length = m) (hp : p < m) (h1 : u.one = true) (hk : den C Φ r (n + 1) (put vars n (.v undef)) (hput H o (some (c.set p u))) nx Is) :
    den C Φ (.op true (.st 1 x y) r) n vars H nx Is := by
  refine den_st (h := hput H o (some (c.set p u))) ?_ hk
  have hc : u.cells = [u] := by cases u <;> first | rfl | (simp [AV.one] at h1)
  rw [hx, hy]
  simp only [stTo, ho, hl, hc, List.length_cons, List.length_nil, Nat.zero_add, List.all_cons, List.all_nil, h1, Bool.and_true]
  rw [if_pos ⟨trivial, trivial, hp, trivial⟩, List.set_eq_take_append_cons_drop, if_pos (by omega)]
  simp
end
theorem ints_set (l : List Int) (p : Nat) (x : Int) : (ints l).set p (int x) = ints (l.set p x) := by simp [ints, List.map_set]

def IsMk (l : List Int) (H : Hp) (nx : Nat) (r : AV) (H' : Hp) (nx' : Nat) : Prop := r = .ms nx 0 l.length 1 ∧ H' = hput H nx (some (ints l)) ∧ nx' = nx + 1

theorem fill_succ {l : List Int} {i : Nat} (h : i < l.length) : (l.take i ++ List.replicate (l.length - i) 0).set i (l.getD i 0) = l.take (i + 1) ++ List.replicate (l.length - (i + 1)) 0 := by
  refine List.ext_getElem (by simp; omega) fun k h1 h2 => ?_
  simp only [List.getElem_set, List.getElem_append, List.length_take, List.getElem_take, List.getElem_replicate]
  by_cases e1 : i = k
  · subst e1
    simp [h]
    omega
  · by_cases e2 : k < i
    · rw [if_neg e1, dif_pos (by omega), dif_pos (by omega)]
    · rw [if_neg e1, dif_neg (by omega), dif_neg (by omega)]

def V_laws_toInt64S : Vc :=
  .op true (.p .len [.t 0]) <|
  .op true (.mks [int 0] (.t 1) (.t 1)) <|
  .loop 0 [.c (int 0)] <|
  .op true (.p .len [.t 0]) <|
  .op true (.p (.bin .lss) [.t 3, .t 4]) <|
  .br 5
   (.op true (.p (.iad 1) [.t 0, .t 3]) <|
   .op true (.p (.ld none) [.t 6]) <|
   .op true (.p (.iad 1) [.t 2, .t 3]) <|
   .op true (.st 1 (.t 8) (.t 7)) <|
   .op true (.p (.bin .add) [.t 3, .c (int 1)]) <|
   .again 0 [.t 10])
   (.ret [(.t 2, none)])
theorem toI_ok (h : Has P ν 16 1 V_laws_toInt64S) (l : List Int) (hl : l.length ≤ 1048576) (H : Hp) (nx : Nat) : OkM P ν 16 [islice l] H nx (IsMk l H nx) := by
  refine h _ _ _ _ rfl fun hwf => ?_
  unfold V_laws_toInt64S
  simp only [SS, Nat.reduceEqDiff, Nat.reduceAdd, iput, puts]
  refine den_mks (q := (.ms nx 0 l.length 1, hput H nx (some (ints (l.take 0 ++ List.replicate (l.length - 0) 0))), nx + 1)) ?_ ?_
  · simp only [SS, Nat.reduceEqDiff, Nat.reduceAdd, iput, puts, mkTo, int]
    rw [if_pos (by omega), flat1]
    simp [ints, int]
  refine den_loop (α := Nat) (fun i => [int i]) (fun i H' nx' => i ≤ l.length ∧ H' = hput H nx (some (ints (l.take i ++ List.replicate (l.length - i) 0))) ∧ nx' = nx + 1) (fun i => l.length - i) 0 rfl ⟨Nat.zero_le _, rfl, rfl⟩ ?_
  rintro i H' nx' ⟨hi, e1, e2⟩
  subst e1; subst e2
  by_cases hlt : i < l.length
  · have hll : (ints (l.take i ++ List.replicate (l.length - i) 0)).length = l.length := by simp [ints]; omega
    simp only [SS, Nat.reduceEqDiff, Nat.reduceAdd, iput, puts, hlt, p_iadm (hput_eq H nx _) hll, not_true_eq_false]
    refine den_st1 (o := nx) (p := i) (m := l.length) (u := int (l.getD i 0)) rfl rfl (hput_eq H nx _) hll hlt rfl ?_
    simp only [SS, Nat.reduceEqDiff, Nat.reduceAdd, iput, puts, hput_hput, ints_set, fill_succ hlt, wrap_succ (show i < 9223372036854775807 by omega)]
    exact ⟨i + 1, rfl, ⟨by omega, rfl⟩, by omega⟩
  · simp only [SS, Nat.reduceEqDiff, Nat.reduceAdd, iput, puts, hlt, not_false_eq_true]
    refine ⟨_, rfl, _, fun _ _ h => h, rfl, ?_, rfl⟩
    rw [List.take_of_length_le (by omega), show l.length - i = 0 by omega]
    simp

def outer (m : List (List Int)) (nx i : Nat) : List AV := (List.range m.length).map fun j => if j < i then .ms (nx + 1 + j) 0 (m.getD j []).length 1 else .nil
def rowsH (H : Hp) (nx : Nat) (m : List (List Int)) (i : Nat) : Hp := fun k => if k = nx then some (outer m nx i) else if nx < k ∧ k ≤ nx + i then some (ints (m.getD (k - nx - 1) [])) else H k
theorem outer_len (m : List (List Int)) (nx i : Nat) : (outer m nx i).length = m.length := by simp [outer]
theorem outer_set {m : List (List Int)} {nx i : Nat} (h : i < m.length) : (outer m nx i).set i (.ms (nx + 1 + i) 0 (m.getD i []).length 1) = outer m nx (i + 1) := by
  refine List.ext_getElem (by simp [outer]) fun k h1 h2 => ?_
  simp only [outer, List.getElem_set, List.getElem_map, List.getElem_range]
  by_cases e1 : i = k
  · subst e1; simp
  · rw [if_neg e1]
    by_cases e2 : k < i
    · rw [if_pos e2, if_pos (by omega)]
    · rw [if_neg e2, if_neg (by omega)]
def IsMk2 (m : List (List Int)) (H : Hp) (nx : Nat) (r : AV) (H' : Hp) (nx' : Nat) : Prop := r = .ms nx 0 m.length 1 ∧ H' = rowsH H nx m m.length ∧ nx' = nx + 1 + m.length
theorem IsMk.some (l : List Int) (H : Hp) (nx : Nat) : ∃ u H' nx', IsMk l H nx u H' nx' := ⟨_, _, _, rfl, rfl, rfl⟩

def V_laws_toInt64SS : Vc :=
  .op true (.p .len [.t 0]) <|
  .op true (.mks [.nil] (.t 1) (.t 1)) <|
  .loop 0 [.c (int 0)] <|
  .op true (.p .len [.t 0]) <|
  .op true (.p (.bin .lss) [.t 3, .t 4]) <|
  .br 5
   (.op true (.p (.iad 1) [.t 0, .t 3]) <|
   .op true (.p (.ld none) [.t 6]) <|
   .op true (.callm (.f 16) [.t 7]) <|
   .op true (.p (.iad 1) [.t 2, .t 3]) <|
   .op true (.st 1 (.t 9) (.t 8)) <|
   .op true (.p (.bin .add) [.t 3, .c (int 1)]) <|
   .again 0 [.t 11])
   (.ret [(.t 2, none)])
theorem toII_ok (ht : Has P ν 16 1 V_laws_toInt64S) (h : Has P ν 17 1 V_laws_toInt64SS) (m : List (List Int)) (hl : m.length ≤ 1048576) (hr : ∀ k, k < m.length → (m.getD k []).length ≤ 1048576) (H : Hp) (nx : Nat) : OkM P ν 17 [.sl (rows m) m.length] H nx (IsMk2 m H nx) := by
  refine h _ _ _ _ rfl fun hwf => ?_
  unfold V_laws_toInt64SS
  simp only [SS, Nat.reduceEqDiff, Nat.reduceAdd, iput, puts]
  refine den_mks (q := (.ms nx 0 m.length 1, rowsH H nx m 0, nx + 1)) ?_ ?_
  · simp only [SS, Nat.reduceEqDiff, Nat.reduceAdd, iput, puts, mkTo, int]
    rw [if_pos (by omega), flat1]
    simp only [Option.some.injEq, Prod.mk.injEq, Int.toNat_natCast, and_true, true_and, List.length_cons, List.length_nil]
    funext k
    simp only [hput, rowsH]
    by_cases e : k = nx
    · rw [if_pos e, if_pos e]
      congr 1
      refine List.ext_getElem (by simp [outer]) fun k h1 h2 => ?_
      simp [outer]
    · rw [if_neg e, if_neg e, if_neg (by omega)]
  refine den_loop (α := Nat) (fun i => [int i]) (fun i H' nx' => i ≤ m.length ∧ H' = rowsH H nx m i ∧ nx' = nx + 1 + i) (fun i => m.length - i) 0 rfl ⟨Nat.zero_le _, rfl, rfl⟩ ?_
  rintro i H' nx' ⟨hi, e1, e2⟩
  subst e1; subst e2
  by_cases hlt : i < m.length
  · simp only [SS, Nat.reduceEqDiff, Nat.reduceAdd, iput, puts, hlt, not_true_eq_false]
    refine den_callm (fc := (16, [])) rfl (toI_ok ht (m.getD i []) (hr i hlt) (rowsH H nx m i) (nx + 1 + i)) (IsMk.some _ _ _) fun u H' nx' hu => ?_
    obtain ⟨rfl, rfl, rfl⟩ := hu
    have ho : hput (rowsH H nx m i) (nx + 1 + i) (some (ints (m.getD i []))) nx = some (outer m nx i) := by rw [hput_ne _ _ _ _ (by omega)]; simp [rowsH]
    simp only [SS, Nat.reduceEqDiff, Nat.reduceAdd, iput, puts, p_iadm ho (outer_len m nx i), hlt]
    refine den_st1 (o := nx) (p := i) (m := m.length) (u := .ms (nx + 1 + i) 0 (m.getD i []).length 1) rfl rfl ho (outer_len m nx i) hlt rfl ?_
    simp only [SS, Nat.reduceEqDiff, Nat.reduceAdd, iput, puts, wrap_succ (show i < 9223372036854775807 by omega)]
    refine ⟨i + 1, rfl, ⟨by omega, ?_, by omega⟩, by omega⟩
    rw [outer_set hlt]
    funext k
    simp only [hput, rowsH]
    by_cases e : k = nx
    · rw [if_pos e, if_pos e]
    · rw [if_neg e, if_neg e, if_neg e]
      by_cases e2 : k = nx + 1 + i
      · rw [if_pos e2, if_pos (by omega), show k - nx - 1 = i by omega]
      · rw [if_neg e2]
        by_cases e3 : nx < k ∧ k ≤ nx + i
        · rw [if_pos e3, if_pos (by omega)]
        · rw [if_neg e3, if_neg (by omega)]
  · simp only [SS, Nat.reduceEqDiff, Nat.reduceAdd, iput, puts, hlt, not_false_eq_true]
    have : i = m.length := by omega
    subst this
    exact ⟨_, rfl, _, fun _ _ h => h, rfl, rfl, rfl⟩

/-- A category of the call's own, from object n0 on. -/
def catM (c : Cat) (n0 : Nat) : AV := .agg [int c.o, .ms n0 0 c.f.length 1, .ms (n0 + 1) 0 c.t.length 1, .ms (n0 + 2) 0 c.i.length 1, .ms (n0 + 3) 0 c.c.length 1]
def catH (H : Hp) (n0 : Nat) (c : Cat) : Hp := rowsH (hput (hput (hput H n0 (some (ints c.f))) (n0 + 1) (some (ints c.t))) (n0 + 2) (some (ints c.i))) (n0 + 3) c.c c.c.length
def IsMkC (c : Cat) (H : Hp) (nx : Nat) (r : AV) (H' : Hp) (nx' : Nat) : Prop := ∃ n0, nx ≤ n0 ∧ r = catM c n0 ∧ H' = catH H n0 c ∧ nx' = n0 + 4 + c.c.length
theorem IsMk2.some (m : List (List Int)) (H : Hp) (nx : Nat) : ∃ u H' nx', IsMk2 m H nx u H' nx' := ⟨_, _, _, rfl, rfl, rfl⟩

theorem rowsH_lo (H : Hp) (nx : Nat) (m : List (List Int)) (i k : Nat) (h : k < nx) : rowsH H nx m i k = H k := by
  simp only [rowsH]; rw [if_neg (by omega), if_neg (by omega)]

section
variable {C : Ct} {Φ : AV → Hp → Nat → Prop} {n : Nat} {vars : Nat → AV} {H : Hp} {nx : Nat} {Is : Nat → Inv} {r : Vc}
/-- A store of a struct over the whole of an object. -/
theorem den_stA {x y : Opd} {o m : Nat} {c d : List AV} (hx : ev vars x = .mp o 0 m) (hy : ev vars y = .agg d) (ho : H o = some c) (hl : c.length = m) (hd : d.length = m) (h1 : d.all AV.one = true) (hk : den C Φ r (n + 1) (put vars n (.v undef)) (hput H o (some d)) nx Is) :
    den C Φ (.op true (.st m x y) r) n vars H nx Is := by
  refine den_st (h := hput H o (some d)) ?_ hk
  rw [hx, hy]
  simp only [stTo, ho, AV.cells, hl, hd, h1]
  rw [if_pos ⟨trivial, trivial, by omega, trivial⟩]
  simp [← hl]
end
theorem p_fadm {H : Hp} {o p l k : Nat} {c : List AV} (h : H o = some c) (hl : c.length = l) : pvf H (.fad k) [.mp o p l] = some (.mp o (p + k) l) := by
  simp [pvf, pFad, h, hl]
theorem p_ldsm {H : Hp} {o l : Nat} {c : List AV} (h : H o = some c) (hl : c.length = l) : pvf H (.ld (some l)) [.mp o 0 l] = some (.agg c) := by
  subst hl; simp [pvf, pLd, h]

section
variable {C : Ct} {Φ : AV → Hp → Nat → Prop} {n : Nat} {vars : Nat → AV} {H : Hp} {nx : Nat} {Is : Nat → Inv} {r : Vc}
/-- A field of an object is read. -/
theorem den_fget {k d : Nat} {o m : Nat} {c : List AV} {u : AV} (hd : vars d = .mp o 0 m) (ho : H o = some c) (hl : c.length = m) (hk : c[k]? = some u)
    (hr : den C Φ r (n + 1 + 1) (put (put vars n (.mp o k m)) (n + 1) u) H nx Is) :
    den C Φ (.op true (.p (.fad k) [.t d]) (.op true (.p (.ld none) [.t n]) r)) n vars H nx Is := by
  rw [den_p]
  simp only [if_true, List.map_cons, List.map_nil, ev_t, hd, p_fadm ho hl, Nat.zero_add, denS_some]
  rw [den_p]
  simp only [if_true, List.map_cons, List.map_nil, ev_t, put_eq, p_ldm ho hl, hk, denS_some]
  exact hr
end
theorem hp2 {H : Hp} {o k : Nat} {c : Option (List AV)} {x : List AV} (h : k ≠ o) (hk : H k = some x) : hput H o c k = some x := by rw [hput_ne _ _ _ _ h]; exact hk

def V_laws_toCategory : Vc :=
  .op true (.p .box [.t 0]) <|
  .op true (.new [int 0, .nil, .nil, .nil, .nil]) <|
  .op true (.new [int 0, .nil, .nil, .nil, .nil]) <|
  .op true (.p (.fad 0) [.t 1]) <|
  .op true (.p (.ld none) [.t 4]) <|
  .op true (.p (.fad 0) [.t 3]) <|
  .op true (.st 1 (.t 6) (.t 5)) <|
  .op true (.p (.fad 1) [.t 1]) <|
  .op true (.p (.ld none) [.t 8]) <|
  .op true (.callm (.f 16) [.t 9]) <|
  .op true (.p (.fad 1) [.t 3]) <|
  .op true (.st 1 (.t 11) (.t 10)) <|
  .op true (.p (.fad 2) [.t 1]) <|
  .op true (.p (.ld none) [.t 13]) <|
  .op true (.callm (.f 16) [.t 14]) <|
  .op true (.p (.fad 2) [.t 3]) <|
  .op true (.st 1 (.t 16) (.t 15)) <|
  .op true (.p (.fad 3) [.t 1]) <|
  .op true (.p (.ld none) [.t 18]) <|
  .op true (.callm (.f 16) [.t 19]) <|
  .op true (.p (.fad 3) [.t 3]) <|
  .op true (.st 1 (.t 21) (.t 20)) <|
  .op true (.p (.fad 4) [.t 1]) <|
  .op true (.p (.ld none) [.t 23]) <|
  .op true (.callm (.f 17) [.t 24]) <|
  .op true (.p (.fad 4) [.t 3]) <|
  .op true (.st 1 (.t 26) (.t 25)) <|
  .op true (.p (.ld (some 5)) [.t 3]) <|
  .op true (.st 5 (.t 2) (.t 28)) <|
  .ret [(.t 2, some (some 5))]
end Go.Av

/-
  Marks: what the statements write into memory, and how it is found again.
-/
namespace Go.Av
open Classical
set_option linter.unusedSimpArgs false
set_option linter.unusedVariables false
variable {P : Program} {ν : Nat → FuncId}

def seqI (k : Int) (n : Nat) : List Int := (List.range n).map fun (j : Nat) => k + j
theorem seqI_len (k : Int) (n : Nat) : (seqI k n).length = n := by simp [seqI]
theorem seq_set {l : List Int} {k : Int} {i : Nat} (h : i < l.length) : (seqI k i ++ l.drop i).set i (k + i) = seqI k (i + 1) ++ l.drop (i + 1) := by
  refine List.ext_getElem (by simp [seqI]; omega) fun j h1 h2 => ?_
  simp only [List.getElem_set, List.getElem_append, seqI_len, List.getElem_drop, seqI, List.getElem_map, List.getElem_range, List.length_map, List.length_range]
  by_cases e1 : i = j
  · subst e1; simp
  · by_cases e2 : j < i
    · rw [if_neg e1, dif_pos e2, dif_pos (by omega)]
    · rw [if_neg e1, dif_neg e2, dif_neg (by omega)]; congr 1; omega

/-- A list of integers that lies in an object of its own (or has no memory). -/
def Own1 (l : List Int) (r : AV) (M : Hp) (lo hi : Nat) : Prop := (l = [] ∧ r = .nil) ∨ ∃ o, lo ≤ o ∧ o < hi ∧ r = .ms o 0 l.length 1 ∧ M o = some (ints l)
theorem Own1.frz {l : List Int} {r : AV} {M : Hp} {lo hi : Nat} (h : Own1 l r M lo hi) : frz M fuel r = some (islice l) := by
  rcases h with ⟨rfl, rfl⟩ | ⟨o, _, _, rfl, ho⟩
  · rfl
  · have : ∀ (l : List Int) (k : Nat), (ints l).mapM (Av.frz M k) = some (ints l) := fun l k => frz_stills (by simp [ints, AV.still, int])
    simp only [fuel, Av.frz, ho, ints_length, Nat.zero_add, Nat.mul_one, if_true, this]
    simp [islice]
theorem Own1.frzL {l : List Int} {r : AV} {M : Hp} {lo hi : Nat} (h : Own1 l r M lo hi) (t : List AV) : frzL M (r :: t) = (Av.frzL M t).map (islice l :: ·) := by
  simp only [Av.frzL, List.mapM_cons, h.frz]; cases List.mapM (Av.frz M fuel) t <;> rfl
theorem Own1.mono {l : List Int} {r : AV} {M M' : Hp} {lo hi hi' : Nat} (h : Own1 l r M lo hi) (hh : hi ≤ hi') (hM : ∀ o, lo ≤ o → o < hi → M' o = M o) : Own1 l r M' lo hi' := by
  rcases h with ⟨rfl, rfl⟩ | ⟨o, h1, h2, rfl, ho⟩
  · exact .inl ⟨rfl, rfl⟩
  · exact .inr ⟨o, h1, by omega, rfl, (hM o h1 h2).trans ho⟩

def V_laws_markInt64S : Vc :=
  .loop 0 [.t 1, .c (int 0)] <|
  .op true (.p .len [.t 0]) <|
  .op true (.p (.bin .lss) [.t 3, .t 4]) <|
  .br 5
   (.op true (.p (.iad 1) [.t 0, .t 3]) <|
   .op true (.st 1 (.t 6) (.t 2)) <|
   .op true (.p (.bin .add) [.t 2, .c (int 1)]) <|
   .op true (.p (.bin .add) [.t 3, .c (int 1)]) <|
   .again 0 [.t 8, .t 9])
   (.ret [(.t 2, none)])
theorem markI_ms (h : Has P ν 10 2 V_laws_markInt64S) (l : List Int) (k : Int) (o : Nat) (H : Hp) (nx : Nat) (ho : H o = some (ints l)) (k0 : 0 ≤ k) (kl : k ≤ 2305843009213693952) (hl : l.length ≤ 2305843009213693952) :
    OkM P ν 10 [.ms o 0 l.length 1, int k] H nx (fun r H' nx' => r = int (k + l.length) ∧ H' = hput H o (some (ints (seqI k l.length))) ∧ nx' = nx) := by
  refine h _ _ _ _ rfl fun hwf => ?_
  unfold V_laws_markInt64S
  refine den_loop (α := Nat) (fun i => [int (k + i), int i]) (fun i H' nx' => i ≤ l.length ∧ H' = hput H o (some (ints (seqI k i ++ l.drop i))) ∧ nx' = nx) (fun i => l.length - i) 0 ?_ ?_ ?_
  · simp [ev_t, ev_c, env0_def]
  · refine ⟨Nat.zero_le _, ?_, rfl⟩
    funext t; simp only [hput]; split
    · rename_i e; rw [e, ho]; simp [seqI]
    · rfl
  · rintro i H' nx' ⟨hi, rfl, rfl⟩
    have hll : (ints (seqI k i ++ l.drop i)).length = l.length := by simp [ints, seqI]; omega
    by_cases hlt : i < l.length
    · simp only [SS, Nat.reduceEqDiff, Nat.reduceAdd, iput, puts, hlt, p_lenm (hput_eq H o _) hll, p_iadm (hput_eq H o _) hll, not_true_eq_false]
      refine den_st1 (o := o) (p := i) (m := l.length) (u := int (k + i)) rfl rfl (hput_eq H o _) hll hlt rfl ?_
      simp only [SS, Nat.reduceEqDiff, Nat.reduceAdd, iput, puts, hput_hput, ints_set, seq_set hlt, wrap_succ (show i < 9223372036854775807 by omega), wrap_id (show -9223372036854775808 ≤ k + (i : Int) + 1 by omega) (show k + (i : Int) + 1 ≤ 9223372036854775807 by omega)]
      refine ⟨i + 1, ?_, ⟨by omega, rfl⟩, by omega⟩
      rw [show k + (i : Int) + 1 = k + ((i + 1 : Nat) : Int) by omega]
    · have : i = l.length := by omega
      subst this
      simp only [SS, Nat.reduceEqDiff, Nat.reduceAdd, iput, puts, hlt, p_lenm (hput_eq H o _) hll, not_false_eq_true]
      refine ⟨_, rfl, _, fun _ _ h => h, rfl, ?_, rfl⟩
      rw [List.drop_length, List.append_nil]
theorem markI_nil (h : Has P ν 10 2 V_laws_markInt64S) (k : Int) (H : Hp) (nx : Nat) : OkM P ν 10 [.nil, int k] H nx (fun r H' nx' => r = int k ∧ H' = H ∧ nx' = nx) := by
  refine h _ _ _ _ rfl fun hwf => ?_
  unfold V_laws_markInt64S
  refine den_loop (α := Unit) (fun _ => [int k, int 0]) (fun _ H' nx' => H' = H ∧ nx' = nx) (fun _ => 0) () ?_ ⟨rfl, rfl⟩ ?_
  · simp [ev_t, ev_c, env0_def]
  · rintro _ H' nx' ⟨rfl, rfl⟩
    have : ¬ (0 : Int) < 0 := by omega
    simp only [SS, Nat.reduceEqDiff, Nat.reduceAdd, iput, puts, this, not_false_eq_true]
    exact ⟨_, rfl, _, fun _ _ h => h, rfl, rfl, rfl⟩

def V_laws_heldInt64S : Vc :=
  .loop 0 [.t 1, .c (int 0)] <|
  .op true (.p .len [.t 0]) <|
  .op true (.p (.bin .lss) [.t 3, .t 4]) <|
  .br 5
   (.op true (.p (.iad 1) [.t 0, .t 3]) <|
   .op true (.p (.ld none) [.t 6]) <|
   .op true (.p (.bin .neq) [.t 7, .t 2]) <|
   .br 8
    (.ret [(.c (int (-1)), none)])
    (.op true (.p (.bin .add) [.t 2, .c (int 1)]) <|
    .op true (.p (.bin .add) [.t 3, .c (int 1)]) <|
    .again 0 [.t 9, .t 10]))
   (.ret [(.t 2, none)])
theorem heldI_ok (h : Has P ν 11 2 V_laws_heldInt64S) (k : Int) (n : Nat) (k0 : 0 ≤ k) (kl : k ≤ 2305843009213693952) (hl : n ≤ 2305843009213693952) : Fn P ν 11 [islice (seqI k n), int k] (int (k + n)) := by
  intro H nx
  refine h _ _ _ _ rfl fun hwf => ?_
  unfold V_laws_heldInt64S
  have hl := seqI_len k n
  refine den_loop (α := Nat) (fun i => [int (k + i), int i]) (fun i H' nx' => i ≤ n ∧ H' = H ∧ nx' = nx) (fun i => n - i) 0 ?_ ⟨Nat.zero_le _, rfl, rfl⟩ ?_
  · simp [ev_t, ev_c, env0_def]
  · rintro i H' nx' ⟨hi, rfl, rfl⟩
    by_cases hlt : i < n
    · have hg : (seqI k n).getD i 0 = k + i := by simp [seqI, hlt]
      simp only [SS, Nat.reduceEqDiff, Nat.reduceAdd, iput, puts, hlt, hl, hg, not_true_eq_false, wrap_succ (show i < 9223372036854775807 by omega), wrap_id (show -9223372036854775808 ≤ k + (i : Int) + 1 by omega) (show k + (i : Int) + 1 ≤ 9223372036854775807 by omega)]
      refine ⟨i + 1, ?_, by omega, by omega⟩
      rw [show k + (i : Int) + 1 = k + ((i + 1 : Nat) : Int) by omega]
    · have : i = n := by omega
      subst this
      simp only [SS, Nat.reduceEqDiff, Nat.reduceAdd, iput, puts, hlt, hl, not_false_eq_true]
      exact ⟨_, rfl, _, fun _ _ h => h, rfl, rfl, Nat.le_refl _⟩

def outerC (m : Nat) (id len : Nat → Nat) : List AV := (List.range m).map fun j => .ms (id j) 0 (len j) 1
theorem outerC_get {m : Nat} {id len : Nat → Nat} {j : Nat} (h : j < m) : (outerC m id len)[j]? = some (.ms (id j) 0 (len j) 1) := by simp [outerC, h]

def V_laws_markInt64SS : Vc :=
  .loop 0 [.t 1, .c (int 0)] <|
  .op true (.p .len [.t 0]) <|
  .op true (.p (.bin .lss) [.t 3, .t 4]) <|
  .br 5
   (.op true (.p (.iad 1) [.t 0, .t 3]) <|
   .op true (.p (.ld none) [.t 6]) <|
   .op true (.callm (.f 10) [.t 7, .t 2]) <|
   .op true (.p (.bin .add) [.t 3, .c (int 1)]) <|
   .again 0 [.t 8, .t 9])
   (.ret [(.t 2, none)])

/-- The objects of a category of the call's own. -/
structure CatAt (H : Hp) (n0 : Nat) (x : Cat) : Prop where
  f : H n0 = some (ints x.f)
  t : H (n0 + 1) = some (ints x.t)
  i : H (n0 + 2) = some (ints x.i)
  c : H (n0 + 3) = some (outerC x.c.length (fun j => n0 + 4 + j) (fun j => (x.c.getD j []).length))
  row : ∀ j, j < x.c.length → H (n0 + 4 + j) = some (ints (x.c.getD j []))
theorem outer_full (m : List (List Int)) (nx : Nat) : outer m nx m.length = outerC m.length (fun j => nx + 1 + j) (fun j => (m.getD j []).length) := by
  refine List.ext_getElem (by simp [outer, outerC]) fun j h1 h2 => ?_
  have : j < m.length := by simpa [outer] using h1
  simp [outer, outerC, this]
theorem catH_at (H : Hp) (n0 : Nat) (c : Cat) : CatAt (catH H n0 c) n0 c := by
  refine ⟨?_, ?_, ?_, ?_, fun j hj => ?_⟩
  · simp only [catH, rowsH, hput]; rw [if_neg (by omega), if_neg (by omega), if_neg (by omega), if_neg (by omega), if_pos trivial]
  · simp only [catH, rowsH, hput]; rw [if_neg (by omega), if_neg (by omega), if_neg (by omega), if_pos trivial]
  · simp only [catH, rowsH, hput]; rw [if_neg (by omega), if_neg (by omega), if_pos trivial]
  · simp only [catH, rowsH]; rw [if_pos trivial, outer_full]
  · simp only [catH, rowsH]; rw [if_neg (by omega), if_pos (by omega), show n0 + 4 + j - (n0 + 3) - 1 = j by omega]
theorem mapM_outer {f : AV → Option AV} {x : List (List Int)} {g : Nat → AV} (h : ∀ j, j < x.length → f (g j) = some (islice (x.getD j []))) : ((List.range x.length).map g).mapM f = some (rows x) := by
  have key : ∀ n, n ≤ x.length → ((List.range n).map g).mapM f = some ((List.range n).map fun j => islice (x.getD j [])) := by
    intro n
    induction n with
    | zero => intro _; rfl
    | succ n ih =>
      intro hn
      rw [List.range_succ, List.map_append, List.mapM_append, ih (by omega)]
      simp [h n (by omega)]
  rw [key _ (Nat.le_refl _)]
  congr 1
  refine List.ext_getElem (by simp [rows]) fun j h1 h2 => ?_
  have : j < x.length := by simpa [rows] using h2
  simp [rows, this]
theorem CatAt.frz {H : Hp} {n0 : Nat} {x : Cat} (h : CatAt H n0 x) : frz H fuel (catM x n0) = some (.agg x.cells) := by
  have st : ∀ (l : List Int) (k : Nat), (ints l).mapM (Av.frz H k) = some (ints l) := fun l k => frz_stills (by simp [ints, AV.still, int])
  have hi : ∀ (o : Nat) (l : List Int) (k : Nat), H o = some (ints l) → Av.frz H (k + 1) (.ms o 0 l.length 1) = some (islice l) := fun o l k ho => by
    simp only [Av.frz, ho, ints_length, Nat.zero_add, Nat.mul_one, if_true, st]; simp [islice]
  have hrows : Av.frz H 5 (.ms (n0 + 3) 0 x.c.length 1) = some (.sl (rows x.c) x.c.length) := by
    have hl : (outerC x.c.length (fun j => n0 + 4 + j) (fun j => (x.c.getD j []).length)).length = x.c.length := by simp [outerC]
    simp only [Av.frz, h.c, hl, Nat.zero_add, Nat.mul_one, if_true]
    rw [show outerC x.c.length (fun j => n0 + 4 + j) (fun j => (x.c.getD j []).length) = (List.range x.c.length).map fun j => .ms (n0 + 4 + j) 0 (x.c.getD j []).length 1 from rfl, mapM_outer fun j hj => hi _ _ _ (h.row j hj)]
    simp
  show ([int x.o, .ms n0 0 x.f.length 1, .ms (n0 + 1) 0 x.t.length 1, .ms (n0 + 2) 0 x.i.length 1, .ms (n0 + 3) 0 x.c.length 1].mapM (Av.frz H 5)).map AV.agg = _
  simp only [List.mapM_cons, List.mapM_nil, frz_int, hi _ _ 4 h.f, hi _ _ 4 h.t, hi _ _ 4 h.i, hrows]
  rfl
theorem CatAt.frzN {H : Hp} {n0 : Nat} {x : Cat} (h : CatAt H n0 x) : frzN H fuel (catM x n0) = some (.agg x.cells) := by
  have hi : ∀ (o : Nat) (l : List Int) (k : Nat), H o = some (ints l) → Av.frzN H (k + 1) (.ms o 0 l.length 1) = some (islice l) := fun o l k ho => by
    simp only [Av.frzN, ho, ints_length, Nat.zero_add, Nat.mul_one, if_true, frzN_ints]; simp [islice]
  have hrows : Av.frzN H 5 (.ms (n0 + 3) 0 x.c.length 1) = some (.sl (rows x.c) x.c.length) := by
    have hl : (outerC x.c.length (fun j => n0 + 4 + j) (fun j => (x.c.getD j []).length)).length = x.c.length := by simp [outerC]
    simp only [Av.frzN, h.c, hl, Nat.zero_add, Nat.mul_one, if_true]
    rw [show outerC x.c.length (fun j => n0 + 4 + j) (fun j => (x.c.getD j []).length) = (List.range x.c.length).map fun j => .ms (n0 + 4 + j) 0 (x.c.getD j []).length 1 from rfl, mapM_outer fun j hj => hi _ _ _ (h.row j hj)]
    simp
  show ([int x.o, .ms n0 0 x.f.length 1, .ms (n0 + 1) 0 x.t.length 1, .ms (n0 + 2) 0 x.i.length 1, .ms (n0 + 3) 0 x.c.length 1].mapM (Av.frzN H 5)).map AV.agg = _
  simp only [List.mapM_cons, List.mapM_nil, frzN_int, hi _ _ 4 h.f, hi _ _ 4 h.t, hi _ _ 4 h.i, hrows]
  rfl
theorem CatAt.frzL {H : Hp} {n0 : Nat} {x : Cat} (h : CatAt H n0 x) (t : List AV) : frzL H (catM x n0 :: t) = (Av.frzL H t).map (.agg x.cells :: ·) := by
  simp only [Av.frzL, List.mapM_cons, h.frz]; cases List.mapM (Av.frz H fuel) t <;> rfl
theorem CatAt.mono {H H' : Hp} {n0 : Nat} {x : Cat} (h : CatAt H n0 x) (hh : ∀ o, n0 ≤ o → o < n0 + 4 + x.c.length → H' o = H o) : CatAt H' n0 x :=
  ⟨(hh _ (by omega) (by omega)).trans h.f, (hh _ (by omega) (by omega)).trans h.t, (hh _ (by omega) (by omega)).trans h.i, (hh _ (by omega) (by omega)).trans h.c, fun j hj => (hh _ (by omega) (by omega)).trans (h.row j hj)⟩
theorem IsMkC.some (c : Cat) (H : Hp) (nx : Nat) : ∃ u H' nx', IsMkC c H nx u H' nx' := ⟨_, _, _, nx, Nat.le_refl _, rfl, rfl, rfl⟩

def V_laws_markCategory : Vc :=
  .op true (.boxm (.t 0)) <|
  .op true (.p (.fad 1) [.t 2]) <|
  .op true (.p (.ld none) [.t 3]) <|
  .op true (.callm (.f 10) [.t 4, .t 1]) <|
  .op true (.p (.fad 2) [.t 2]) <|
  .op true (.p (.ld none) [.t 6]) <|
  .op true (.callm (.f 10) [.t 7, .t 5]) <|
  .op true (.p (.fad 3) [.t 2]) <|
  .op true (.p (.ld none) [.t 9]) <|
  .op true (.callm (.f 10) [.t 10, .t 8]) <|
  .op true (.p (.fad 4) [.t 2]) <|
  .op true (.p (.ld none) [.t 12]) <|
  .op true (.callm (.f 21) [.t 13, .t 11]) <|
  .ret [(.t 14, none)]
end Go.Av
