/-
  When a table is a category: the program's test and the reference's.
-/
import Derived.Test.YtbgaobcgpkjjkaaAvA1
namespace Go.Av
open Classical
set_option linter.unusedSimpArgs false
set_option linter.unusedVariables false
variable {P : Program} {ν : Nat → FuncId}

/-- The entry of the table at two arrows is as it must be. -/
def Cell (c : Cat) (a b : Nat) : Prop :=
  if c.t.getD a 0 = c.f.getD b 0 then 0 ≤ c.K a b ∧ c.K a b < c.f.length ∧ c.F (c.K a b) = c.f.getD a 0 ∧ c.T (c.K a b) = c.t.getD b 0 else c.K a b = -1
structure Shape (c : Cat) : Prop where
  o0 : 0 ≤ c.o
  o8 : c.o ≤ 8
  n40 : c.f.length ≤ 40
  tl : c.t.length = c.f.length
  fw : Wn c.f c.o
  tw : Wn c.t c.o
  il : (c.i.length : Int) = c.o
  iw : Wn c.i c.f.length
  cl : c.c.length = c.f.length
  id : ∀ x : Nat, x < c.i.length → c.F (c.i.getD x 0) = x ∧ c.T (c.i.getD x 0) = x
  row : ∀ a : Nat, a < c.f.length → (c.c.getD a []).length = c.f.length ∧ ∀ b : Nat, b < c.f.length → Cell c a b

theorem K_nat (c : Cat) (a b : Nat) : c.K a b = (c.c.getD a []).getD b 0 := rfl
theorem F_nat (c : Cat) (a : Nat) : c.F a = c.f.getD a 0 := rfl
theorem T_nat (c : Cat) (a : Nat) : c.T a = c.t.getD a 0 := rfl

theorem Fn.fz2 {P : Program} {ν : Nat → FuncId} {id : Nat} {args : List AV} {a b : Int} (h : Fn P ν id args (.agg [int a, int b])) : Fz (OkM P ν) id args (.agg [int a, int b]) := h.fz fun _ => rfl

def V_Category_isShape : Vc :=
  .op true (.call (.f 26) [.t 0]) <|
  .op true (.p .nck [.t 0]) <|
  .op true (.p (.fad 0) [.t 2]) <|
  .op true (.p (.ld none) [.t 3]) <|
  .op true (.call (.f 32) [.t 4, .c (int 0), .c (int 8)]) <|
  .op true (.p .bnot [.t 5]) <|
  .br 6
   (.ret [(.c (bool false), none)])
   (.op true (.p (.bin .gtr) [.t 1, .c (int 40)]) <|
   .br 7
    (.ret [(.c (bool false), none)])
    (.op true (.p .nck [.t 0]) <|
    .op true (.p (.fad 2) [.t 8]) <|
    .op true (.p (.ld none) [.t 9]) <|
    .op true (.p .len [.t 10]) <|
    .op true (.p (.bin .neq) [.t 11, .t 1]) <|
    .br 12
     (.ret [(.c (bool false), none)])
     (.op true (.p .nck [.t 0]) <|
     .op true (.p (.fad 1) [.t 13]) <|
     .op true (.p (.ld none) [.t 14]) <|
     .op true (.p .nck [.t 0]) <|
     .op true (.p (.fad 0) [.t 16]) <|
     .op true (.p (.ld none) [.t 17]) <|
     .op true (.call (.f 25) [.t 15, .t 18]) <|
     .op true (.p .bnot [.t 19]) <|
     .br 20
      (.ret [(.c (bool false), none)])
      (.op true (.p .nck [.t 0]) <|
      .op true (.p (.fad 2) [.t 21]) <|
      .op true (.p (.ld none) [.t 22]) <|
      .op true (.p .nck [.t 0]) <|
      .op true (.p (.fad 0) [.t 24]) <|
      .op true (.p (.ld none) [.t 25]) <|
      .op true (.call (.f 25) [.t 23, .t 26]) <|
      .op true (.p .bnot [.t 27]) <|
      .br 28
       (.ret [(.c (bool false), none)])
       (.op true (.p .nck [.t 0]) <|
       .op true (.p (.fad 3) [.t 29]) <|
       .op true (.p (.ld none) [.t 30]) <|
       .op true (.p .len [.t 31]) <|
       .op true (.p .nck [.t 0]) <|
       .op true (.p (.fad 0) [.t 33]) <|
       .op true (.p (.ld none) [.t 34]) <|
       .op true (.p (.bin .neq) [.t 32, .t 35]) <|
       .br 36
        (.ret [(.c (bool false), none)])
        (.op true (.p .nck [.t 0]) <|
        .op true (.p (.fad 3) [.t 37]) <|
        .op true (.p (.ld none) [.t 38]) <|
        .op true (.call (.f 25) [.t 39, .t 1]) <|
        .op true (.p .bnot [.t 40]) <|
        .br 41
         (.ret [(.c (bool false), none)])
         (.op true (.p .nck [.t 0]) <|
         .op true (.p (.fad 4) [.t 42]) <|
         .op true (.p (.ld none) [.t 43]) <|
         .op true (.p .len [.t 44]) <|
         .op true (.p (.bin .neq) [.t 45, .t 1]) <|
         .br 46
          (.ret [(.c (bool false), none)])
          (.op true (.p .nck [.t 0]) <|
          .op true (.p (.fad 3) [.t 47]) <|
          .op true (.p (.ld none) [.t 48]) <|
          .op true (.p .len [.t 49]) <|
          .loop 0 [.c (int 0)] <|
          .op true (.p (.bin .lss) [.t 51, .t 50]) <|
          .br 52
           (.op true (.p (.iad 1) [.t 49, .t 51]) <|
           .op true (.p (.ld none) [.t 53]) <|
           .op true (.call (.f 38) [.t 0, .t 54]) <|
           .op true (.p (.mka [int 0, int 0] [(0, 1), (1, 1)]) [.t 51, .t 51]) <|
           .op true (.p (.eqs true 2) [.t 55, .t 56]) <|
           .br 57
            (.ret [(.c (bool false), none)])
            (.op true (.p (.bin .add) [.t 51, .c (int 1)]) <|
            .again 0 [.t 58]))
           (.op true (.p .nck [.t 0]) <|
           .op true (.p (.fad 4) [.t 53]) <|
           .op true (.p (.ld none) [.t 54]) <|
           .op true (.p .len [.t 55]) <|
           .loop 0 [.c (int 0)] <|
           .op true (.p (.bin .lss) [.t 57, .t 56]) <|
           .br 58
            (.op true (.p (.iad 1) [.t 55, .t 57]) <|
            .op true (.p (.ld none) [.t 59]) <|
            .op true (.p .len [.t 60]) <|
            .op true (.p (.bin .neq) [.t 61, .t 1]) <|
            .br 62
             (.ret [(.c (bool false), none)])
             (.op true (.p .len [.t 60]) <|
             .loop 1 [.c (int 0)] <|
             .op true (.p (.bin .lss) [.t 64, .t 63]) <|
             .br 65
              (.op true (.p (.iad 1) [.t 60, .t 64]) <|
              .op true (.p (.ld none) [.t 66]) <|
              .op true (.p .nck [.t 0]) <|
              .op true (.p (.fad 2) [.t 68]) <|
              .op true (.p (.ld none) [.t 69]) <|
              .op true (.p (.iad 1) [.t 70, .t 57]) <|
              .op true (.p (.ld none) [.t 71]) <|
              .op true (.p .nck [.t 0]) <|
              .op true (.p (.fad 1) [.t 73]) <|
              .op true (.p (.ld none) [.t 74]) <|
              .op true (.p (.iad 1) [.t 75, .t 64]) <|
              .op true (.p (.ld none) [.t 76]) <|
              .op true (.p (.bin .neq) [.t 72, .t 77]) <|
              .br 78
               (.op true (.p (.bin .neq) [.t 67, .c (int (-1))]) <|
               .br 79
                (.ret [(.c (bool false), none)])
                (.op true (.p (.bin .add) [.t 64, .c (int 1)]) <|
                .again 1 [.t 80]))
               (.op true (.p (.bin .sub) [.t 1, .c (int 1)]) <|
               .op true (.call (.f 32) [.t 67, .c (int 0), .t 79]) <|
               .op true (.p .bnot [.t 80]) <|
               .br 81
                (.ret [(.c (bool false), none)])
                (.op true (.call (.f 38) [.t 0, .t 67]) <|
                .op true (.p .nck [.t 0]) <|
                .op true (.p (.fad 1) [.t 83]) <|
                .op true (.p (.ld none) [.t 84]) <|
                .op true (.p (.iad 1) [.t 85, .t 57]) <|
                .op true (.p (.ld none) [.t 86]) <|
                .op true (.p .nck [.t 0]) <|
                .op true (.p (.fad 2) [.t 88]) <|
                .op true (.p (.ld none) [.t 89]) <|
                .op true (.p (.iad 1) [.t 90, .t 64]) <|
                .op true (.p (.ld none) [.t 91]) <|
                .op true (.p (.mka [int 0, int 0] [(0, 1), (1, 1)]) [.t 87, .t 92]) <|
                .op true (.p (.eqs true 2) [.t 82, .t 93]) <|
                .br 94
                 (.ret [(.c (bool false), none)])
                 (.op true (.p (.bin .add) [.t 64, .c (int 1)]) <|
                 .again 1 [.t 95]))))
              (.op true (.p (.bin .add) [.t 57, .c (int 1)]) <|
              .again 0 [.t 66])))
            (.ret [(.c (bool true), none)]))))))))))
set_option maxHeartbeats 1000000 in
theorem isShape_ok (ha : Has P ν 26 1 V_Category_arrows) (hi : Has P ν 32 3 V_inRange) (hw : Has P ν 25 2 V_within) (he : Has P ν 38 2 V_Category_ends) (h : Has P ν 30 1 V_Category_isShape) (c : Cat) (b1 : c.f.length ≤ 1048576) (b2 : c.t.length ≤ 1048576) (b3 : c.i.length ≤ 1048576) (b4 : c.c.length ≤ 1048576) :
    Fn P ν 30 [.ptr c.cells 0] (bool (decide (Shape c))) := by
  intro H nx
  refine h _ _ _ _ rfl fun hwf => ?_
  unfold V_Category_isShape
  refine den_call (fc := (26, [])) rfl (by first | (simp only [SS, Nat.reduceEqDiff, Nat.reduceAdd, iput, puts, FF, frzL_cat]; done) | (simp only [SS, Nat.reduceEqDiff, Nat.reduceAdd, iput, puts, FF, frzL_cat]; rfl)) ((arrows_ok ha c).fzi) ?_
  simp only [SS, Nat.reduceEqDiff, Nat.reduceAdd, iput, puts, cat0]
  refine den_call (fc := (32, [])) rfl (by first | (simp only [SS, Nat.reduceEqDiff, Nat.reduceAdd, iput, puts, FF, frzL_cat]; done) | (simp only [SS, Nat.reduceEqDiff, Nat.reduceAdd, iput, puts, FF, frzL_cat]; rfl)) ((inRange_ok hi c.o 0 8).fzb) ?_
  simp only [SS, Nat.reduceEqDiff, Nat.reduceAdd, iput, puts, cat0, cat1, cat2, cat3, cat4]
  refine ⟨fun h1 => ?_, fun h1 => ⟨fun h2 => ?_, fun h2 => ⟨fun h3 => ?_, fun h3 => ?_⟩⟩⟩
  · exact ⟨_, rfl, H, fun _ _ h => h, ret_false (fun s => h1 ⟨s.o0, s.o8⟩), rfl, Nat.le_refl _⟩
  · exact ⟨_, rfl, H, fun _ _ h => h, ret_false (fun s => by have := s.n40; omega), rfl, Nat.le_refl _⟩
  · exact ⟨_, rfl, H, fun _ _ h => h, ret_false (fun s => by have := s.tl; omega), rfl, Nat.le_refl _⟩
  have h3' : c.t.length = c.f.length := by omega
  have h2' : c.f.length ≤ 40 := by omega
  refine den_call (fc := (25, [])) rfl (by first | (simp only [SS, Nat.reduceEqDiff, Nat.reduceAdd, iput, puts, FF, frzL_cat]; done) | (simp only [SS, Nat.reduceEqDiff, Nat.reduceAdd, iput, puts, FF, frzL_cat]; rfl)) ((within_ok hi hw c.f c.o (by omega) (by omega) (by omega)).fzb) ?_
  simp only [SS, Nat.reduceEqDiff, Nat.reduceAdd, iput, puts, cat0, cat1, cat2, cat3, cat4]
  refine ⟨fun h4 => ?_, fun h4 => ?_⟩
  · exact ⟨_, rfl, H, fun _ _ h => h, ret_false (fun s => h4 s.fw), rfl, Nat.le_refl _⟩
  refine den_call (fc := (25, [])) rfl (by first | (simp only [SS, Nat.reduceEqDiff, Nat.reduceAdd, iput, puts, FF, frzL_cat]; done) | (simp only [SS, Nat.reduceEqDiff, Nat.reduceAdd, iput, puts, FF, frzL_cat]; rfl)) ((within_ok hi hw c.t c.o (by omega) (by omega) (by omega)).fzb) ?_
  simp only [SS, Nat.reduceEqDiff, Nat.reduceAdd, iput, puts, cat0, cat1, cat2, cat3, cat4]
  refine ⟨fun h5 => ?_, fun h5 => ⟨fun h6 => ?_, fun h6 => ?_⟩⟩
  · exact ⟨_, rfl, H, fun _ _ h => h, ret_false (fun s => h5 s.tw), rfl, Nat.le_refl _⟩
  · exact ⟨_, rfl, H, fun _ _ h => h, ret_false (fun s => h6 s.il), rfl, Nat.le_refl _⟩
  refine den_call (fc := (25, [])) rfl (by first | (simp only [SS, Nat.reduceEqDiff, Nat.reduceAdd, iput, puts, FF, frzL_cat]; done) | (simp only [SS, Nat.reduceEqDiff, Nat.reduceAdd, iput, puts, FF, frzL_cat]; rfl)) ((within_ok hi hw c.i c.f.length (by omega) (by omega) (by omega)).fzb) ?_
  simp only [SS, Nat.reduceEqDiff, Nat.reduceAdd, iput, puts, cat0, cat1, cat2, cat3, cat4]
  refine ⟨fun h7 => ?_, fun h7 => ⟨fun h8 => ?_, fun h8 => ?_⟩⟩
  · exact ⟨_, rfl, H, fun _ _ h => h, ret_false (fun s => h7 s.iw), rfl, Nat.le_refl _⟩
  · exact ⟨_, rfl, H, fun _ _ h => h, ret_false (fun s => h8 (by have := s.cl; omega)), rfl, Nat.le_refl _⟩
  have h8' : c.c.length = c.f.length := by omega
  refine den_for c.i.length (fun i => ∀ x : Nat, x < i → c.F (c.i.getD x 0) = x ∧ c.T (c.i.getD x 0) = x) (fun x hx => by omega) fun i hi' hp => ?_
  by_cases hlt : i < c.i.length
  · simp only [SS, Nat.reduceEqDiff, Nat.reduceAdd, iput, puts, hlt, not_true_eq_false]
    obtain ⟨g1, g2⟩ := h7 i hlt
    refine den_call (fc := (38, [])) rfl (by first | (simp only [SS, Nat.reduceEqDiff, Nat.reduceAdd, iput, puts, FF, frzL_cat]; done) | (simp only [SS, Nat.reduceEqDiff, Nat.reduceAdd, iput, puts, FF, frzL_cat]; rfl)) ((ends_ok he c (c.i.getD i 0) g1 g2 (by omega)).fz2) ?_
    simp only [SS, Nat.reduceEqDiff, Nat.reduceAdd, iput, puts, wrap_succ (show i < 9223372036854775807 by omega)]
    refine ⟨fun h9 => ?_, fun h9 => up rfl hlt fun x hx => ?_⟩
    · exact ⟨_, rfl, H, fun _ _ h => h, ret_false (fun s => by have := s.id i hlt; rw [this.1, this.2] at h9; simp at h9), rfl, Nat.le_refl _⟩
    · by_cases e : x = i
      · subst e; simpa using h9
      · exact hp x (by omega)
  simp only [SS, Nat.reduceEqDiff, Nat.reduceAdd, iput, puts, hlt, not_false_eq_true, cat4]
  refine den_for c.c.length (fun a => ∀ k : Nat, k < a → (c.c.getD k []).length = c.f.length ∧ ∀ b : Nat, b < c.f.length → Cell c k b) (fun x hx => by omega) fun a hi'' hq => ?_
  by_cases hlt2 : a < c.c.length
  · simp only [SS, Nat.reduceEqDiff, Nat.reduceAdd, iput, puts, hlt2, not_true_eq_false]
    refine ⟨fun h9 => ?_, fun h9 => ?_⟩
    · exact ⟨_, rfl, H, fun _ _ h => h, ret_false (fun s => h9 (by have := (s.row a (by omega)).1; omega)), rfl, Nat.le_refl _⟩
    have h9' : (c.c.getD a []).length = c.f.length := by omega
    refine den_for c.f.length (fun b => ∀ k : Nat, k < b → Cell c a k) (fun x hx => by omega) fun b hb hr => ?_
    have hlt4 : a < c.t.length := by omega
    have hlt6 : a < c.f.length := by omega
    by_cases hlt3 : b < c.f.length
    · have hlt5 : b < c.t.length := by omega
      simp only [SS, Nat.reduceEqDiff, Nat.reduceAdd, iput, puts, hlt3, hlt4, hlt5, hlt6, h9', cat1, cat2, cat3, cat4, not_true_eq_false, wrap_succ (show b < 9223372036854775807 by omega)]
      refine ⟨fun h10 => ⟨fun h11 => ?_, fun h11 => ?_⟩, fun h10 => ?_⟩
      · exact ⟨_, rfl, H, fun _ _ h => h, ret_false (fun s => by have := (s.row a hlt6).2 b hlt3; rw [Cell, if_neg h10, K_nat] at this; exact h11 this), rfl, Nat.le_refl _⟩
      · refine up rfl hlt3 fun k hk => ?_
        by_cases e : k = b
        · subst e; rw [Cell, if_neg h10, K_nat]; exact h11
        · exact hr k (by omega)
      · refine den_call (fc := (32, [])) rfl (by first | (simp only [SS, Nat.reduceEqDiff, Nat.reduceAdd, iput, puts, FF, frzL_cat]; done) | (simp only [SS, Nat.reduceEqDiff, Nat.reduceAdd, iput, puts, FF, frzL_cat]; rfl)) ((inRange_ok hi ((c.c.getD a []).getD b 0) 0 (IntKind.i64.wrap ((c.f.length : Int) - 1))).fzb) ?_
        simp only [SS, Nat.reduceEqDiff, Nat.reduceAdd, iput, puts, wrap_id (show -9223372036854775808 ≤ (c.f.length : Int) - 1 by omega) (show (c.f.length : Int) - 1 ≤ 9223372036854775807 by omega)]
        have cell : ∀ s : Shape c, 0 ≤ c.K a b ∧ c.K a b < c.f.length ∧ c.F (c.K a b) = c.f.getD a 0 ∧ c.T (c.K a b) = c.t.getD b 0 := fun s => by
          have := (s.row a hlt6).2 b hlt3; rwa [Cell, if_pos h10] at this
        refine ⟨fun h11 => ?_, fun h11 => ?_⟩
        · exact ⟨_, rfl, H, fun _ _ h => h, ret_false (fun s => by have := cell s; rw [K_nat] at this; omega), rfl, Nat.le_refl _⟩
        refine den_call (fc := (38, [])) rfl (by first | (simp only [SS, Nat.reduceEqDiff, Nat.reduceAdd, iput, puts, FF, frzL_cat]; done) | (simp only [SS, Nat.reduceEqDiff, Nat.reduceAdd, iput, puts, FF, frzL_cat]; rfl)) ((ends_ok he c ((c.c.getD a []).getD b 0) (by omega) (by omega) (by omega)).fz2) ?_
        simp only [SS, Nat.reduceEqDiff, Nat.reduceAdd, iput, puts, hlt3, hlt4, hlt5, hlt6, cat1, cat2, cat3, cat4, wrap_succ (show b < 9223372036854775807 by omega)]
        refine ⟨fun h12 => ?_, fun h12 => ?_⟩
        · exact ⟨_, rfl, H, fun _ _ h => h, ret_false (fun s => by have := cell s; rw [K_nat] at this; rw [this.2.2.1, this.2.2.2] at h12; simp at h12), rfl, Nat.le_refl _⟩
        refine up rfl hlt3 fun k hk => ?_
        by_cases e : k = b
        · subst e; rw [Cell, if_pos h10, K_nat]; exact ⟨by omega, by omega, h12.1, h12.2⟩
        · exact hr k (by omega)
    · simp only [SS, Nat.reduceEqDiff, Nat.reduceAdd, iput, puts, hlt3, h9', not_false_eq_true, wrap_succ (show a < 9223372036854775807 by omega)]
      refine up rfl hlt2 fun k hk => ?_
      by_cases e : k = a
      · subst e; exact ⟨h9', fun b hb => hr b (by omega)⟩
      · exact hq k (by omega)
  · simp only [SS, Nat.reduceEqDiff, Nat.reduceAdd, iput, puts, hlt2, not_false_eq_true]
    exact ⟨_, rfl, H, fun _ _ h => h, ret_true (⟨h1.1, h1.2, h2', h3', h4, h5, h6, h7, h8', fun x hx => hp x (by omega), fun k hk => hq k (by omega)⟩), rfl, Nat.le_refl _⟩

def V_spec_IsShape : Vc :=
  .op true (.p .box [.t 0]) <|
  .op true (.p (.fad 1) [.t 1]) <|
  .op true (.p (.ld none) [.t 2]) <|
  .op true (.p .len [.t 3]) <|
  .op true (.p (.fad 0) [.t 1]) <|
  .op true (.p (.ld none) [.t 5]) <|
  .op true (.call (.f 35) [.t 6, .c (int 0), .c (int 8)]) <|
  .op true (.p .bnot [.t 7]) <|
  .br 8
   (.ret [(.c (bool false), none)])
   (.op true (.p (.bin .gtr) [.t 4, .c (int 40)]) <|
   .br 9
    (.ret [(.c (bool false), none)])
    (.op true (.p (.fad 1) [.t 1]) <|
    .op true (.p (.ld none) [.t 10]) <|
    .op true (.p (.fad 0) [.t 1]) <|
    .op true (.p (.ld none) [.t 12]) <|
    .op true (.call (.f 36) [.t 11, .t 4, .t 13]) <|
    .op true (.p .bnot [.t 14]) <|
    .br 15
     (.ret [(.c (bool false), none)])
     (.op true (.p (.fad 2) [.t 1]) <|
     .op true (.p (.ld none) [.t 16]) <|
     .op true (.p (.fad 0) [.t 1]) <|
     .op true (.p (.ld none) [.t 18]) <|
     .op true (.call (.f 36) [.t 17, .t 4, .t 19]) <|
     .op true (.p .bnot [.t 20]) <|
     .br 21
      (.ret [(.c (bool false), none)])
      (.op true (.p (.fad 4) [.t 1]) <|
      .op true (.p (.ld none) [.t 22]) <|
      .op true (.p .len [.t 23]) <|
      .op true (.p (.bin .neq) [.t 24, .t 4]) <|
      .br 25
       (.ret [(.c (bool false), none)])
       (.op true (.p (.fad 3) [.t 1]) <|
       .op true (.p (.ld none) [.t 26]) <|
       .op true (.p .len [.t 27]) <|
       .op true (.p (.fad 0) [.t 1]) <|
       .op true (.p (.ld none) [.t 29]) <|
       .op true (.p (.bin .neq) [.t 28, .t 30]) <|
       .br 31
        (.ret [(.c (bool false), none)])
        (.op true (.p (.fad 3) [.t 1]) <|
        .op true (.p (.ld none) [.t 32]) <|
        .op true (.call (.f 37) [.t 4, .t 33]) <|
        .op true (.p .bnot [.t 34]) <|
        .br 35
         (.ret [(.c (bool false), none)])
         (.loop 0 [.c (int 0)] <|
         .op true (.p (.fad 0) [.t 1]) <|
         .op true (.p (.ld none) [.t 37]) <|
         .op true (.p (.bin .lss) [.t 36, .t 38]) <|
         .br 39
          (.op true (.p (.fad 1) [.t 1]) <|
          .op true (.p (.ld none) [.t 40]) <|
          .op true (.p (.fad 3) [.t 1]) <|
          .op true (.p (.ld none) [.t 42]) <|
          .op true (.p (.iad 1) [.t 43, .t 36]) <|
          .op true (.p (.ld none) [.t 44]) <|
          .op true (.p (.iad 1) [.t 41, .t 45]) <|
          .op true (.p (.ld none) [.t 46]) <|
          .op true (.p (.bin .neq) [.t 47, .t 36]) <|
          .br 48
           (.ret [(.c (bool false), none)])
           (.op true (.p (.fad 2) [.t 1]) <|
           .op true (.p (.ld none) [.t 49]) <|
           .op true (.p (.fad 3) [.t 1]) <|
           .op true (.p (.ld none) [.t 51]) <|
           .op true (.p (.iad 1) [.t 52, .t 36]) <|
           .op true (.p (.ld none) [.t 53]) <|
           .op true (.p (.iad 1) [.t 50, .t 54]) <|
           .op true (.p (.ld none) [.t 55]) <|
           .op true (.p (.bin .neq) [.t 56, .t 36]) <|
           .br 57
            (.ret [(.c (bool false), none)])
            (.op true (.p (.bin .add) [.t 36, .c (int 1)]) <|
            .again 0 [.t 58])))
          (.loop 0 [.c (int 0)] <|
          .op true (.p (.bin .lss) [.t 40, .t 4]) <|
          .br 41
           (.op true (.p (.fad 4) [.t 1]) <|
           .op true (.p (.ld none) [.t 42]) <|
           .op true (.p (.iad 1) [.t 43, .t 40]) <|
           .op true (.p (.ld none) [.t 44]) <|
           .op true (.p .len [.t 45]) <|
           .op true (.p (.bin .neq) [.t 46, .t 4]) <|
           .br 47
            (.ret [(.c (bool false), none)])
            (.loop 1 [.c (int 0)] <|
            .op true (.p (.bin .lss) [.t 48, .t 4]) <|
            .br 49
             (.op true (.p (.fad 4) [.t 1]) <|
             .op true (.p (.ld none) [.t 50]) <|
             .op true (.p (.iad 1) [.t 51, .t 40]) <|
             .op true (.p (.ld none) [.t 52]) <|
             .op true (.p (.iad 1) [.t 53, .t 48]) <|
             .op true (.p (.ld none) [.t 54]) <|
             .op true (.p (.fad 2) [.t 1]) <|
             .op true (.p (.ld none) [.t 56]) <|
             .op true (.p (.iad 1) [.t 57, .t 40]) <|
             .op true (.p (.ld none) [.t 58]) <|
             .op true (.p (.fad 1) [.t 1]) <|
             .op true (.p (.ld none) [.t 60]) <|
             .op true (.p (.iad 1) [.t 61, .t 48]) <|
             .op true (.p (.ld none) [.t 62]) <|
             .op true (.p (.bin .neq) [.t 59, .t 63]) <|
             .br 64
              (.op true (.p (.bin .neq) [.t 55, .c (int (-1))]) <|
              .br 65
               (.ret [(.c (bool false), none)])
               (.op true (.p (.bin .add) [.t 48, .c (int 1)]) <|
               .again 1 [.t 66]))
              (.op true (.p (.bin .lss) [.t 55, .c (int 0)]) <|
              .br 65
               (.ret [(.c (bool false), none)])
               (.op true (.p (.bin .geq) [.t 55, .t 4]) <|
               .br 66
                (.ret [(.c (bool false), none)])
                (.op true (.p (.fad 1) [.t 1]) <|
                .op true (.p (.ld none) [.t 67]) <|
                .op true (.p (.iad 1) [.t 68, .t 55]) <|
                .op true (.p (.ld none) [.t 69]) <|
                .op true (.p (.fad 1) [.t 1]) <|
                .op true (.p (.ld none) [.t 71]) <|
                .op true (.p (.iad 1) [.t 72, .t 40]) <|
                .op true (.p (.ld none) [.t 73]) <|
                .op true (.p (.bin .neq) [.t 70, .t 74]) <|
                .br 75
                 (.ret [(.c (bool false), none)])
                 (.op true (.p (.fad 2) [.t 1]) <|
                 .op true (.p (.ld none) [.t 76]) <|
                 .op true (.p (.iad 1) [.t 77, .t 55]) <|
                 .op true (.p (.ld none) [.t 78]) <|
                 .op true (.p (.fad 2) [.t 1]) <|
                 .op true (.p (.ld none) [.t 80]) <|
                 .op true (.p (.iad 1) [.t 81, .t 48]) <|
                 .op true (.p (.ld none) [.t 82]) <|
                 .op true (.p (.bin .neq) [.t 79, .t 83]) <|
                 .br 84
                  (.ret [(.c (bool false), none)])
                  (.op true (.p (.bin .add) [.t 48, .c (int 1)]) <|
                  .again 1 [.t 85]))))))
             (.op true (.p (.bin .add) [.t 40, .c (int 1)]) <|
             .again 0 [.t 50])))
           (.ret [(.c (bool true), none)])))))))))
set_option maxHeartbeats 1000000 in
theorem sIsShape_ok (hi : Has P ν 35 3 V_spec_l01In) (hm : Has P ν 37 2 V_spec_l01Map) (he : Has P ν 36 3 V_spec_l02Ends) (h : Has P ν 28 1 V_spec_IsShape) (c : Cat) (b1 : c.f.length ≤ 1048576) (b2 : c.t.length ≤ 1048576) (b3 : c.i.length ≤ 1048576) (b4 : c.c.length ≤ 1048576) :
    Fn P ν 28 [.agg c.cells] (bool (decide (Shape c))) := by
  intro H nx
  refine h _ _ _ _ rfl fun hwf => ?_
  unfold V_spec_IsShape
  simp only [SS, Nat.reduceEqDiff, Nat.reduceAdd, iput, puts, p_boxc, cat0, cat1]
  refine den_call (fc := (35, [])) rfl (by first | (simp only [SS, Nat.reduceEqDiff, Nat.reduceAdd, iput, puts, FF, frzL_cat]; done) | (simp only [SS, Nat.reduceEqDiff, Nat.reduceAdd, iput, puts, FF, frzL_cat]; rfl)) ((l01In_ok hi c.o 0 8).fzb) ?_
  simp only [SS, Nat.reduceEqDiff, Nat.reduceAdd, iput, puts, cat0, cat1, cat2, cat3, cat4]
  refine ⟨fun h1 => ?_, fun h1 => ⟨fun h2 => ?_, fun h2 => ?_⟩⟩
  · exact ⟨_, rfl, H, fun _ _ h => h, ret_false (fun s => h1 ⟨s.o0, s.o8⟩), rfl, Nat.le_refl _⟩
  · exact ⟨_, rfl, H, fun _ _ h => h, ret_false (fun s => by have := s.n40; omega), rfl, Nat.le_refl _⟩
  have h2' : c.f.length ≤ 40 := by omega
  refine den_call (fc := (36, [])) rfl (by first | (simp only [SS, Nat.reduceEqDiff, Nat.reduceAdd, iput, puts, FF, frzL_cat]; done) | (simp only [SS, Nat.reduceEqDiff, Nat.reduceAdd, iput, puts, FF, frzL_cat]; rfl)) ((l02Ends_ok hm he c.f c.f.length c.o (by omega)).fzb) ?_
  simp only [SS, Nat.reduceEqDiff, Nat.reduceAdd, iput, puts, cat0, cat1, cat2, cat3, cat4]
  refine ⟨fun h3 => ?_, fun h3 => ?_⟩
  · exact ⟨_, rfl, H, fun _ _ h => h, ret_false (fun s => h3 s.fw), rfl, Nat.le_refl _⟩
  refine den_call (fc := (36, [])) rfl (by first | (simp only [SS, Nat.reduceEqDiff, Nat.reduceAdd, iput, puts, FF, frzL_cat]; done) | (simp only [SS, Nat.reduceEqDiff, Nat.reduceAdd, iput, puts, FF, frzL_cat]; rfl)) ((l02Ends_ok hm he c.t c.f.length c.o (by omega)).fzb) ?_
  simp only [SS, Nat.reduceEqDiff, Nat.reduceAdd, iput, puts, cat0, cat1, cat2, cat3, cat4]
  refine ⟨fun h4 => ?_, fun h4 => ⟨fun h5 => ?_, fun h5 => ⟨fun h6 => ?_, fun h6 => ?_⟩⟩⟩
  · exact ⟨_, rfl, H, fun _ _ h => h, ret_false (fun s => h4 ⟨by have := s.tl; omega, s.tw⟩), rfl, Nat.le_refl _⟩
  · exact ⟨_, rfl, H, fun _ _ h => h, ret_false (fun s => h5 (by have := s.cl; omega)), rfl, Nat.le_refl _⟩
  · exact ⟨_, rfl, H, fun _ _ h => h, ret_false (fun s => h6 s.il), rfl, Nat.le_refl _⟩
  have h4' : c.t.length = c.f.length := by have := h4.1; omega
  have h5' : c.c.length = c.f.length := by omega
  refine den_call (fc := (37, [])) rfl (by first | (simp only [SS, Nat.reduceEqDiff, Nat.reduceAdd, iput, puts, FF, frzL_cat]; done) | (simp only [SS, Nat.reduceEqDiff, Nat.reduceAdd, iput, puts, FF, frzL_cat]; rfl)) ((l01Map_ok hm c.i c.f.length (by omega)).fzb) ?_
  simp only [SS, Nat.reduceEqDiff, Nat.reduceAdd, iput, puts, cat0, cat1, cat2, cat3, cat4]
  refine ⟨fun h7 => ?_, fun h7 => ?_⟩
  · exact ⟨_, rfl, H, fun _ _ h => h, ret_false (fun s => h7 s.iw), rfl, Nat.le_refl _⟩
  refine den_for c.i.length (fun i => ∀ x : Nat, x < i → c.F (c.i.getD x 0) = x ∧ c.T (c.i.getD x 0) = x) (fun x hx => by omega) fun i hi' hp => ?_
  by_cases hlt : i < c.i.length
  · obtain ⟨g1, g2⟩ := h7 i hlt
    have g3 : (c.i.getD i 0).toNat < c.f.length := by omega
    have g4 : (c.i.getD i 0).toNat < c.t.length := by omega
    have g5 : c.i.getD i 0 < (c.t.length : Int) := by omega
    have hlt' : (i : Int) < c.o := by omega
    simp only [SS, Nat.reduceEqDiff, Nat.reduceAdd, iput, puts, cat0, cat1, cat2, cat3, cat4, hlt, hlt', not_true_eq_false, g1, g2, g3, g4, g5, wrap_succ (show i < 9223372036854775807 by omega)]
    refine ⟨fun h9 => ?_, fun h9 => ⟨fun h10 => ?_, fun h10 => up rfl hlt fun x hx => ?_⟩⟩
    · exact ⟨_, rfl, H, fun _ _ h => h, ret_false (fun s => h9 (s.id i hlt).1), rfl, Nat.le_refl _⟩
    · exact ⟨_, rfl, H, fun _ _ h => h, ret_false (fun s => h10 (s.id i hlt).2), rfl, Nat.le_refl _⟩
    · by_cases e : x = i
      · subst e; exact ⟨h9, h10⟩
      · exact hp x (by omega)
  have hlt' : ¬ (i : Int) < c.o := by omega
  simp only [SS, Nat.reduceEqDiff, Nat.reduceAdd, iput, puts, cat0, hlt', not_false_eq_true]
  refine den_for c.f.length (fun a => ∀ k : Nat, k < a → (c.c.getD k []).length = c.f.length ∧ ∀ b : Nat, b < c.f.length → Cell c k b) (fun x hx => by omega) fun a hi'' hq => ?_
  by_cases hlt2 : a < c.f.length
  · have hlt2' : a < c.c.length := by omega
    simp only [SS, Nat.reduceEqDiff, Nat.reduceAdd, iput, puts, hlt2, hlt2', cat4, not_true_eq_false]
    refine ⟨fun h9 => ?_, fun h9 => ?_⟩
    · exact ⟨_, rfl, H, fun _ _ h => h, ret_false (fun s => h9 (by have := (s.row a (by omega)).1; omega)), rfl, Nat.le_refl _⟩
    have h9' : (c.c.getD a []).length = c.f.length := by omega
    refine den_for c.f.length (fun b => ∀ k : Nat, k < b → Cell c a k) (fun x hx => by omega) fun b hb hr => ?_
    have hlt4 : a < c.t.length := by omega
    by_cases hlt3 : b < c.f.length
    · have hlt5 : b < c.t.length := by omega
      simp only [SS, Nat.reduceEqDiff, Nat.reduceAdd, iput, puts, hlt2, hlt2', hlt3, hlt4, hlt5, h9', cat1, cat2, cat3, cat4, not_true_eq_false, wrap_succ (show b < 9223372036854775807 by omega)]
      have cell : ∀ s : Shape c, c.t.getD a 0 = c.f.getD b 0 → 0 ≤ c.K a b ∧ c.K a b < c.f.length ∧ c.F (c.K a b) = c.f.getD a 0 ∧ c.T (c.K a b) = c.t.getD b 0 := fun s h10 => by
        have := (s.row a hlt2).2 b hlt3; rwa [Cell, if_pos h10] at this
      refine ⟨fun h10 => ⟨fun h11 => ?_, fun h11 => ?_⟩, fun h10 => ⟨fun h11 => ?_, fun h11 => ⟨fun h12 => ?_, fun h12 => ?_⟩⟩⟩
      · exact ⟨_, rfl, H, fun _ _ h => h, ret_false (fun s => by have := (s.row a hlt2).2 b hlt3; rw [Cell, if_neg h10, K_nat] at this; exact h11 this), rfl, Nat.le_refl _⟩
      · refine up rfl hlt3 fun k hk => ?_
        by_cases e : k = b
        · subst e; rw [Cell, if_neg h10, K_nat]; exact h11
        · exact hr k (by omega)
      · exact ⟨_, rfl, H, fun _ _ h => h, ret_false (fun s => by have := cell s h10; rw [K_nat] at this; omega), rfl, Nat.le_refl _⟩
      · exact ⟨_, rfl, H, fun _ _ h => h, ret_false (fun s => by have := cell s h10; rw [K_nat] at this; omega), rfl, Nat.le_refl _⟩
      have g1 : 0 ≤ (c.c.getD a []).getD b 0 := by omega
      have g2 : (c.c.getD a []).getD b 0 < (c.f.length : Int) := by omega
      have g3 : ((c.c.getD a []).getD b 0).toNat < c.f.length := by omega
      have g4 : ((c.c.getD a []).getD b 0).toNat < c.t.length := by omega
      have g5 : (c.c.getD a []).getD b 0 < (c.t.length : Int) := by omega
      simp only [SS, Nat.reduceEqDiff, Nat.reduceAdd, iput, puts, g1, g2, g3, g4, g5]
      refine ⟨fun h13 => ?_, fun h13 => ⟨fun h14 => ?_, fun h14 => ?_⟩⟩
      · exact ⟨_, rfl, H, fun _ _ h => h, ret_false (fun s => by have := cell s h10; rw [K_nat] at this; exact h13 this.2.2.1), rfl, Nat.le_refl _⟩
      · exact ⟨_, rfl, H, fun _ _ h => h, ret_false (fun s => by have := cell s h10; rw [K_nat] at this; exact h14 this.2.2.2), rfl, Nat.le_refl _⟩
      refine up rfl hlt3 fun k hk => ?_
      by_cases e : k = b
      · subst e; rw [Cell, if_pos h10, K_nat]; exact ⟨g1, g2, h13, h14⟩
      · exact hr k (by omega)
    · simp only [SS, Nat.reduceEqDiff, Nat.reduceAdd, iput, puts, hlt3, h9', not_false_eq_true, wrap_succ (show a < 9223372036854775807 by omega)]
      refine up rfl hlt2 fun k hk => ?_
      by_cases e : k = a
      · subst e; exact ⟨h9', fun b hb => hr b (by omega)⟩
      · exact hq k (by omega)
  · simp only [SS, Nat.reduceEqDiff, Nat.reduceAdd, iput, puts, hlt2, not_false_eq_true]
    exact ⟨_, rfl, H, fun _ _ h => h, ret_true (⟨h1.1, h1.2, h2', h4', h3, h4.2, h6, h7, h5', fun x hx => hp x (by omega), fun k hk => hq k (by omega)⟩), rfl, Nat.le_refl _⟩
end Go.Av
