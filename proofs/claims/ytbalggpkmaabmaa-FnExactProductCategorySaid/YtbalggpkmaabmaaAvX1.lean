/-
  The product of two categories: the reference's.
-/
import Derived.Test.YtbalggpkmaabmaaAvX0
namespace Go.Av
open Classical
set_option linter.unusedSimpArgs false
set_option linter.unusedVariables false
variable {P : Program} {ν : Nat → FuncId}

def V_spec_l03Two : Vc :=
  .op true (.p .box [.t 0]) <|
  .op true (.p .box [.t 1]) <|
  .op true (.p (.ld (some 5)) [.t 2]) <|
  .op true (.call (.f 22) [.t 4]) <|
  .op true (.p .bnot [.t 5]) <|
  .br 6
   (.ret [(.c (int 1), none)])
   (.op true (.p (.ld (some 5)) [.t 3]) <|
   .op true (.call (.f 22) [.t 7]) <|
   .op true (.p .bnot [.t 8]) <|
   .br 9
    (.ret [(.c (int 1), none)])
    (.ret [(.c (int 0), none)]))
theorem l03Two_fz (K : HSpec P ν) (h : Has P ν 312 2 V_spec_l03Two) (c d : Cat) (b : Small c) (b' : Small d) : Fz (OkM P ν) 312 [.agg c.cells, .agg d.cells] (int (if IsCat c ∧ IsCat d then 0 else 1)) := by
  refine Fn.fzi fun H nx => h _ _ _ _ rfl fun hwf => ?_
  unfold V_spec_l03Two
  repeat (first | simp (disch := (first | rfl | with_reducible assumption | with_reducible solve_by_elim (maxDepth := 8) [Shape.inT, Shape.inI, Shape.inC, Shape.inK, Shape.obF, Shape.obT, Shape.arI, Arr.inF] | omega)) only [S2, Nat.reduceEqDiff, Nat.reduceAdd, iput, puts] | (refine den_call rfl (by first | (simp only [SS, Nat.reduceEqDiff, Nat.reduceAdd, iput, puts, FF, frzL_cat]; done) | (simp only [SS, Nat.reduceEqDiff, Nat.reduceAdd, iput, puts, FF, frzL_cat]; rfl)) (by first | exact (l02Is_ok K c b).fzb | exact (l02Is_ok K d b').fzb) ?_) | (refine den_calli rfl (by first | (simp only [SS, Nat.reduceEqDiff, Nat.reduceAdd, iput, puts, FF, frzL_cat]; done) | (simp only [SS, Nat.reduceEqDiff, Nat.reduceAdd, iput, puts, FF, frzL_cat]; rfl)) (by first | exact (l02Is_ok K c b).fzb | exact (l02Is_ok K d b').fzb) ?_))
  refine ⟨fun h1 => ?_, fun h1 => ?_⟩
  · refine ⟨_, rfl, H, fun _ _ h => h, ?_, rfl, Nat.le_refl _⟩
    rw [if_neg (by simpa using fun e => absurd e h1)]
    rfl
  · repeat (first | simp (disch := (first | rfl | with_reducible assumption | with_reducible solve_by_elim (maxDepth := 8) [Shape.inT, Shape.inI, Shape.inC, Shape.inK, Shape.obF, Shape.obT, Shape.arI, Arr.inF] | omega)) only [S2, Nat.reduceEqDiff, Nat.reduceAdd, iput, puts] | (refine den_call rfl (by first | (simp only [SS, Nat.reduceEqDiff, Nat.reduceAdd, iput, puts, FF, frzL_cat]; done) | (simp only [SS, Nat.reduceEqDiff, Nat.reduceAdd, iput, puts, FF, frzL_cat]; rfl)) (by first | exact (l02Is_ok K d b').fzb) ?_) | (refine den_calli rfl (by first | (simp only [SS, Nat.reduceEqDiff, Nat.reduceAdd, iput, puts, FF, frzL_cat]; done) | (simp only [SS, Nat.reduceEqDiff, Nat.reduceAdd, iput, puts, FF, frzL_cat]; rfl)) (by first | exact (l02Is_ok K d b').fzb) ?_))
    refine ⟨fun h2 => ?_, fun h2 => ?_⟩
    · refine ⟨_, rfl, H, fun _ _ h => h, ?_, rfl, Nat.le_refl _⟩
      rw [if_neg fun e => absurd e.2 h2]
      rfl
    · refine ⟨_, rfl, H, fun _ _ h => h, ?_, rfl, Nat.le_refl _⟩
      rw [if_pos ⟨by simpa using h1, by simpa using h2⟩]
      rfl
def FitX (x : Cat) : Prop := x.o ≤ 8 ∧ x.f.length ≤ 40
noncomputable def madeK (x : Cat) : Cat := if FitX x then x else zeroK
noncomputable def madeC (x : Cat) : Int := if FitX x then 0 else 3
def V_spec_l02Fits : Vc :=
  .op true (.p .box [.t 0]) <|
  .op true (.p (.fad 0) [.t 1]) <|
  .op true (.p (.ld none) [.t 2]) <|
  .op true (.p (.bin .leq) [.t 3, .c (int 8)]) <|
  .br 4
   (.op true (.p (.fad 1) [.t 1]) <|
   .op true (.p (.ld none) [.t 5]) <|
   .op true (.p .len [.t 6]) <|
   .op true (.p (.bin .leq) [.t 7, .c (int 40)]) <|
   .ret [(.t 8, none)])
   (.ret [(.c (bool false), none)])
theorem l02Fits_fz (h : Has P ν 359 1 V_spec_l02Fits) (x : Cat) (hl : x.f.length ≤ 1099511627776) : Fz (OkM P ν) 359 [.agg x.cells] (bool (decide (FitX x))) := by
  refine Fn.fzb fun H nx => h _ _ _ _ rfl fun hwf => ?_
  unfold V_spec_l02Fits
  try simp (disch := (first | rfl | with_reducible assumption | with_reducible solve_by_elim (maxDepth := 8) [Shape.inT, Shape.inI, Shape.inC, Shape.inK, Shape.obF, Shape.obT, Shape.arI, Arr.inF] | omega)) only [S2, Nat.reduceEqDiff, Nat.reduceAdd, iput, puts]
  refine ⟨fun h1 => ?_, fun h1 => ?_⟩
  · try simp (disch := (first | rfl | with_reducible assumption | with_reducible solve_by_elim (maxDepth := 8) [Shape.inT, Shape.inI, Shape.inC, Shape.inK, Shape.obF, Shape.obT, Shape.arI, Arr.inF] | omega)) only [S2, Nat.reduceEqDiff, Nat.reduceAdd, iput, puts]
    refine ⟨_, rfl, H, fun _ _ h => h, ?_, rfl, Nat.le_refl _⟩
    show bool (decide (_ ≤ _)) = _
    congr 1
    exact decide_eq_decide.2 ⟨fun m => ⟨by omega, by omega⟩, fun m => by have := m.2; omega⟩
  · exact ⟨_, rfl, H, fun _ _ h => h, ret_false (fun m => h1 (by have := m.1; omega)), rfl, Nat.le_refl _⟩
def V_spec_l03Made : Vc :=
  .op true (.p .box [.t 0]) <|
  .op true (.new [int 0, .nil, .nil, .nil, .nil]) <|
  .op true (.p (.ld (some 5)) [.t 1]) <|
  .op true (.call (.f 359) [.t 3]) <|
  .op true (.p .bnot [.t 4]) <|
  .br 5
   (.op true (.p (.mka [int 0, .nil, .nil, .nil, .nil] []) []) <|
   .op true (.st 5 (.t 2) (.t 6)) <|
   .ret [(.t 2, some (some 5)), (.c (int 3), none)])
   (.op true (.p (.ld (some 5)) [.t 1]) <|
   .op true (.st 5 (.t 2) (.t 6)) <|
   .ret [(.t 2, some (some 5)), (.c (int 0), none)])
theorem l03Made_fi (hf : Has P ν 359 1 V_spec_l02Fits) (h : Has P ν 313 1 V_spec_l03Made) (x : Cat) (hl : x.f.length ≤ 1099511627776) : Fi (OkM P ν) 313 [.agg x.cells] (.tup [.agg (madeK x).cells, int (madeC x)]) := by
  refine OkM.mono (Φ := fun r H' nx' => r = .tup [.agg (madeK x).cells, int (madeC x)] ∨ (madeK x = zeroK ∧ r = .tup [.agg [int 0, .nil, .nil, .nil, .nil], int (madeC x)])) (h [.agg x.cells] hempty 0 _ rfl fun hwf => ?_) (by
    rintro r H' nx' (rfl | ⟨e, rfl⟩)
    · exact frz_kc _ _
    · rw [e]; exact frz_k0 _)
  unfold V_spec_l03Made
  try simp (disch := (first | rfl | with_reducible assumption | with_reducible solve_by_elim (maxDepth := 8) [Shape.inT, Shape.inI, Shape.inC, Shape.inK, Shape.obF, Shape.obT, Shape.arI, Arr.inF] | omega)) only [S2, Nat.reduceEqDiff, Nat.reduceAdd, iput, puts]
  refine den_newR fun H0 y0 e0 => ?_
  repeat (first | simp (disch := (first | rfl | with_reducible assumption | with_reducible solve_by_elim (maxDepth := 8) [Shape.inT, Shape.inI, Shape.inC, Shape.inK, Shape.obF, Shape.obT, Shape.arI, Arr.inF] | omega)) only [S2, Nat.reduceEqDiff, Nat.reduceAdd, iput, puts] | (refine den_call rfl (by first | (simp only [SS, Nat.reduceEqDiff, Nat.reduceAdd, iput, puts, FF, frzL_cat]; done) | (simp only [SS, Nat.reduceEqDiff, Nat.reduceAdd, iput, puts, FF, frzL_cat]; rfl)) (by first | exact l02Fits_fz hf x hl) ?_) | (refine den_calli rfl (by first | (simp only [SS, Nat.reduceEqDiff, Nat.reduceAdd, iput, puts, FF, frzL_cat]; done) | (simp only [SS, Nat.reduceEqDiff, Nat.reduceAdd, iput, puts, FF, frzL_cat]; rfl)) (by first | exact l02Fits_fz hf x hl) ?_))
  refine ⟨fun h1 => ?_, fun h1 => ?_⟩
  · try simp (disch := (first | rfl | with_reducible assumption | with_reducible solve_by_elim (maxDepth := 8) [Shape.inT, Shape.inI, Shape.inC, Shape.inK, Shape.obF, Shape.obT, Shape.arI, Arr.inF] | omega)) only [S2, Nat.reduceEqDiff, Nat.reduceAdd, iput, puts, mkZ]
    refine den_stR (o := 0) (m := 5) (d := [int 0, .nil, .nil, .nil, .nil]) rfl rfl y0 rfl rfl rfl fun H1 y1 e1 => ?_
    have h1 : ¬ FitX x := by simpa using h1
    refine ⟨.tup [.agg [int 0, .nil, .nil, .nil, .nil], int 3], ?_, H1, fun _ _ h => h, .inr ⟨by rw [madeK, if_neg h1], by rw [madeC, if_neg h1]⟩⟩
    simp only [retOf, rets, SS, Nat.reduceEqDiff, Nat.reduceAdd, iput, puts, pLd, y1]
    rfl
  · have h1 : FitX x := by simpa using h1
    try simp (disch := (first | rfl | with_reducible assumption | with_reducible solve_by_elim (maxDepth := 8) [Shape.inT, Shape.inI, Shape.inC, Shape.inK, Shape.obF, Shape.obT, Shape.arI, Arr.inF] | omega)) only [S2, Nat.reduceEqDiff, Nat.reduceAdd, iput, puts]
    refine den_stR (o := 0) (m := 5) (d := x.cells) rfl rfl y0 rfl rfl rfl fun H1 y1 e1 => ?_
    refine ⟨.tup [.agg x.cells, int 0], ?_, H1, fun _ _ h => h, .inl (by rw [madeK, if_pos h1, madeC, if_pos h1])⟩
    simp only [retOf, rets, SS, Nat.reduceEqDiff, Nat.reduceAdd, iput, puts, pLd, y1]
    rfl
def V_spec_l03Product : Vc :=
  .op true (.p .box [.t 0]) <|
  .op true (.p .box [.t 1]) <|
  .op true (.new [int 0, .nil, .nil, .nil, .nil]) <|
  .op true (.p (.fad 0) [.t 3]) <|
  .op true (.p (.ld none) [.t 5]) <|
  .op true (.p (.fad 1) [.t 3]) <|
  .op true (.p (.ld none) [.t 7]) <|
  .op true (.p .len [.t 8]) <|
  .op true (.p (.fad 0) [.t 2]) <|
  .op true (.p (.ld none) [.t 10]) <|
  .op true (.p (.bin .mul) [.t 11, .t 6]) <|
  .op true (.p (.msl 0 [] []) []) <|
  .op true (.p (.msl 0 [] []) []) <|
  .op true (.p (.msl 0 [] []) []) <|
  .op true (.p (.msl 0 [] []) []) <|
  .op true (.p (.mka [int 0, .nil, .nil, .nil, .nil] [(0, 1), (1, 1), (2, 1), (3, 1), (4, 1)]) [.t 12, .t 13, .t 14, .t 15, .t 16]) <|
  .op true (.new [int 0, .nil, .nil, .nil, .nil]) <|
  .op true (.st 5 (.t 18) (.t 17)) <|
  .loop 0 [.c (int 0)] <|
  .op true (.p (.fad 0) [.t 2]) <|
  .op true (.p (.ld none) [.t 21]) <|
  .op true (.p (.bin .lss) [.t 20, .t 22]) <|
  .br 23
   (.loop 1 [.c (int 0)] <|
   .op true (.p (.bin .lss) [.t 24, .t 6]) <|
   .br 25
    (.op true (.p (.fad 3) [.t 18]) <|
    .op true (.p (.ld none) [.t 26]) <|
    .op true (.p (.fad 3) [.t 2]) <|
    .op true (.p (.ld none) [.t 28]) <|
    .op true (.p (.iad 1) [.t 29, .t 20]) <|
    .op true (.p (.ld none) [.t 30]) <|
    .op true (.p (.bin .mul) [.t 31, .t 9]) <|
    .op true (.p (.fad 3) [.t 3]) <|
    .op true (.p (.ld none) [.t 33]) <|
    .op true (.p (.iad 1) [.t 34, .t 24]) <|
    .op true (.p (.ld none) [.t 35]) <|
    .op true (.p (.bin .add) [.t 32, .t 36]) <|
    .op true (.p (.msl 1 [int 0] [(0, 1)]) [.t 37]) <|
    .op true (.app 1 (.t 27) (.t 38)) <|
    .op true (.p (.fad 3) [.t 18]) <|
    .op true (.st 1 (.t 40) (.t 39)) <|
    .op true (.p (.bin .add) [.t 24, .c (int 1)]) <|
    .again 1 [.t 42])
    (.op true (.p (.bin .add) [.t 20, .c (int 1)]) <|
    .again 0 [.t 26]))
   (.loop 0 [.c (int 0)] <|
   .op true (.p (.fad 1) [.t 2]) <|
   .op true (.p (.ld none) [.t 25]) <|
   .op true (.p .len [.t 26]) <|
   .op true (.p (.bin .lss) [.t 24, .t 27]) <|
   .br 28
    (.loop 1 [.c (int 0)] <|
    .op true (.p (.fad 1) [.t 3]) <|
    .op true (.p (.ld none) [.t 30]) <|
    .op true (.p .len [.t 31]) <|
    .op true (.p (.bin .lss) [.t 29, .t 32]) <|
    .br 33
     (.op true (.p (.fad 1) [.t 18]) <|
     .op true (.p (.ld none) [.t 34]) <|
     .op true (.p (.fad 1) [.t 2]) <|
     .op true (.p (.ld none) [.t 36]) <|
     .op true (.p (.iad 1) [.t 37, .t 24]) <|
     .op true (.p (.ld none) [.t 38]) <|
     .op true (.p (.bin .mul) [.t 39, .t 6]) <|
     .op true (.p (.fad 1) [.t 3]) <|
     .op true (.p (.ld none) [.t 41]) <|
     .op true (.p (.iad 1) [.t 42, .t 29]) <|
     .op true (.p (.ld none) [.t 43]) <|
     .op true (.p (.bin .add) [.t 40, .t 44]) <|
     .op true (.p (.msl 1 [int 0] [(0, 1)]) [.t 45]) <|
     .op true (.app 1 (.t 35) (.t 46)) <|
     .op true (.p (.fad 1) [.t 18]) <|
     .op true (.st 1 (.t 48) (.t 47)) <|
     .op true (.p (.fad 2) [.t 18]) <|
     .op true (.p (.ld none) [.t 50]) <|
     .op true (.p (.fad 2) [.t 2]) <|
     .op true (.p (.ld none) [.t 52]) <|
     .op true (.p (.iad 1) [.t 53, .t 24]) <|
     .op true (.p (.ld none) [.t 54]) <|
     .op true (.p (.bin .mul) [.t 55, .t 6]) <|
     .op true (.p (.fad 2) [.t 3]) <|
     .op true (.p (.ld none) [.t 57]) <|
     .op true (.p (.iad 1) [.t 58, .t 29]) <|
     .op true (.p (.ld none) [.t 59]) <|
     .op true (.p (.bin .add) [.t 56, .t 60]) <|
     .op true (.p (.msl 1 [int 0] [(0, 1)]) [.t 61]) <|
     .op true (.app 1 (.t 51) (.t 62)) <|
     .op true (.p (.fad 2) [.t 18]) <|
     .op true (.st 1 (.t 64) (.t 63)) <|
     .op true (.p (.msl 0 [] []) []) <|
     .loop 2 [.t 66, .c (int 0)] <|
     .op true (.p (.fad 1) [.t 2]) <|
     .op true (.p (.ld none) [.t 69]) <|
     .op true (.p .len [.t 70]) <|
     .op true (.p (.bin .lss) [.t 68, .t 71]) <|
     .br 72
      (.loop 3 [.t 67, .c (int 0)] <|
      .op true (.p (.fad 1) [.t 3]) <|
      .op true (.p (.ld none) [.t 75]) <|
      .op true (.p .len [.t 76]) <|
      .op true (.p (.bin .lss) [.t 74, .t 77]) <|
      .br 78
       (.op true (.p (.fad 4) [.t 2]) <|
       .op true (.p (.ld none) [.t 79]) <|
       .op true (.p (.iad 1) [.t 80, .t 24]) <|
       .op true (.p (.ld none) [.t 81]) <|
       .op true (.p (.iad 1) [.t 82, .t 68]) <|
       .op true (.p (.ld none) [.t 83]) <|
       .op true (.p (.bin .geq) [.t 84, .c (int 0)]) <|
       .br 85
        (.op true (.p (.fad 4) [.t 3]) <|
        .op true (.p (.ld none) [.t 86]) <|
        .op true (.p (.iad 1) [.t 87, .t 29]) <|
        .op true (.p (.ld none) [.t 88]) <|
        .op true (.p (.iad 1) [.t 89, .t 74]) <|
        .op true (.p (.ld none) [.t 90]) <|
        .op true (.p (.bin .geq) [.t 91, .c (int 0)]) <|
        .br 92
         (.op true (.p (.fad 4) [.t 2]) <|
         .op true (.p (.ld none) [.t 93]) <|
         .op true (.p (.iad 1) [.t 94, .t 24]) <|
         .op true (.p (.ld none) [.t 95]) <|
         .op true (.p (.iad 1) [.t 96, .t 68]) <|
         .op true (.p (.ld none) [.t 97]) <|
         .op true (.p (.bin .mul) [.t 98, .t 9]) <|
         .op true (.p (.fad 4) [.t 3]) <|
         .op true (.p (.ld none) [.t 100]) <|
         .op true (.p (.iad 1) [.t 101, .t 29]) <|
         .op true (.p (.ld none) [.t 102]) <|
         .op true (.p (.iad 1) [.t 103, .t 74]) <|
         .op true (.p (.ld none) [.t 104]) <|
         .op true (.p (.bin .add) [.t 99, .t 105]) <|
         .op true (.p (.msl 1 [int 0] [(0, 1)]) [.t 106]) <|
         .op true (.app 1 (.t 73) (.t 107)) <|
         .op true (.p (.bin .add) [.t 74, .c (int 1)]) <|
         .again 3 [.t 108, .t 109])
         (.op true (.p (.msl 1 [int 0] [(0, 1)]) [.c (int (-1))]) <|
         .op true (.app 1 (.t 73) (.t 93)) <|
         .op true (.p (.bin .add) [.t 74, .c (int 1)]) <|
         .again 3 [.t 94, .t 95]))
        (.op true (.p (.msl 1 [int 0] [(0, 1)]) [.c (int (-1))]) <|
        .op true (.app 1 (.t 73) (.t 86)) <|
        .op true (.p (.bin .add) [.t 74, .c (int 1)]) <|
        .again 3 [.t 87, .t 88]))
       (.op true (.p (.bin .add) [.t 68, .c (int 1)]) <|
       .again 2 [.t 73, .t 79]))
      (.op true (.p (.fad 4) [.t 18]) <|
      .op true (.p (.ld none) [.t 73]) <|
      .op true (.mslm 1 1 [.nil] [(0, 1)] [.t 67]) <|
      .op true (.app 1 (.t 74) (.t 75)) <|
      .op true (.p (.fad 4) [.t 18]) <|
      .op true (.st 1 (.t 77) (.t 76)) <|
      .op true (.p (.bin .add) [.t 29, .c (int 1)]) <|
      .again 1 [.t 79]))
     (.op true (.p (.bin .add) [.t 24, .c (int 1)]) <|
     .again 0 [.t 34]))
    (.op true (.p (.ld (some 5)) [.t 18]) <|
    .op true (.st 5 (.t 4) (.t 29)) <|
    .ret [(.t 4, some (some 5))]))
set_option maxHeartbeats 8000000 in
theorem l03Product_fi (h : Has P ν 314 2 V_spec_l03Product) (c d : Cat) (s : Shape c) (t : Shape d) :
    Fi (OkM P ν) 314 [.agg c.cells, .agg d.cells] (.agg (prodK c d).cells) := by
  refine OkM.mono (Φ := fun r H' nx' => ∃ lo hi, OwnK (prodK c d) r H' lo hi) (h [.agg c.cells, .agg d.cells] hempty 0 _ rfl fun hwf => ?_) fun r H' nx' ⟨lo, hi, hO⟩ => hO.frz 3
  unfold V_spec_l03Product
  have n40 := s.n40
  have tl := s.tl
  have il := s.il
  have o8 := s.o8
  have o0 := s.o0
  have n40' := t.n40
  have tl' := t.tl
  have il' := t.il
  have o8' := t.o8
  have o0' := t.o0
  have oo := mul_bd (a := 8) (b := 8) o0 o8 o0' o8'
  have nn : c.f.length * d.f.length ≤ 40 * 40 := Nat.mul_le_mul n40 n40'
  have wO : IntKind.i64.wrap (c.o * d.o) = c.o * d.o := wrap_id (by omega) (by omega)
  try simp (disch := (first | rfl | with_reducible assumption | with_reducible solve_by_elim (maxDepth := 8) [Shape.inT, Shape.inI, Shape.inC, Shape.inK, Shape.obF, Shape.obT, Shape.arI, Arr.inF] | omega)) only [S2, Nat.reduceEqDiff, Nat.reduceAdd, iput, puts]
  refine den_newR fun H0 y0 e0 => ?_
  have mk : ∀ (H : Hp) (k : Int), pvf H (.mka [int 0, .nil, .nil, .nil, .nil] [(0, 1), (1, 1), (2, 1), (3, 1), (4, 1)]) [int k, .nil, .nil, .nil, .nil] = some (.agg [int k, .nil, .nil, .nil, .nil]) := fun _ k => rfl
  try simp (disch := (first | rfl | with_reducible assumption | with_reducible solve_by_elim (maxDepth := 8) [Shape.inT, Shape.inI, Shape.inC, Shape.inK, Shape.obF, Shape.obT, Shape.arI, Arr.inF] | omega)) only [S2, Nat.reduceEqDiff, Nat.reduceAdd, iput, puts, wO, mk]
  refine den_newR fun H3 x3 e3 => ?_
  refine den_stR (o := 0 + 1) (m := 5) (d := [int (c.o * d.o), .nil, .nil, .nil, .nil]) rfl rfl x3 rfl rfl rfl fun H4 x4 e4 => ?_
  have y4 := ((e4 0 (by omega)).trans (e3 0 (by omega))).trans y0
  have out := Out3.start x4 (Nat.le_refl _)
  have out : Out3 1 (c.o * d.o) [] [] [] [] .nil .nil .nil .nil none none none H4 1 2 := out
  try simp (disch := (first | rfl | with_reducible assumption | with_reducible solve_by_elim (maxDepth := 8) [Shape.inT, Shape.inI, Shape.inC, Shape.inK, Shape.obF, Shape.obT, Shape.arI, Arr.inF] | omega)) only [S2, Nat.reduceEqDiff, Nat.reduceAdd, iput, puts]
  -- identities
  refine den_loop (α := Nat × AV × Option Nat) (fun a => [int a.1]) (fun a H' nx' => a.1 ≤ c.i.length ∧ Out3 1 (c.o * d.o) [] [] (gl (a.1 * d.i.length) (pI c d)) [] .nil .nil a.2.1 .nil none none a.2.2 H' 1 nx' ∧ H' 0 = some [int 0, .nil, .nil, .nil, .nil]) (fun a => c.i.length - a.1) (0, .nil, none) rfl ⟨Nat.zero_le _, by simpa [gl] using out, y4⟩ ?_
  rintro ⟨x, ve, s3⟩ H1 n1 ⟨hx, out, y1⟩
  simp only at hx out
  by_cases hlx : (x : Int) < c.o
  · have hlx' : x < c.i.length := by omega
    have ox := s.obI hlx'
    have i1 : In c.i (x : Int) := s.inI ox
    have g1 : gI c.i (x : Int) = c.I x := rfl
    try simp (disch := (first | rfl | with_reducible assumption | with_reducible solve_by_elim (maxDepth := 8) [Shape.inT, Shape.inI, Shape.inC, Shape.inK, Shape.obF, Shape.obT, Shape.arI, Arr.inF] | omega)) only [S2, Nat.reduceEqDiff, Nat.reduceAdd, iput, puts, hlx]
    refine den_loop (α := Nat × AV × Option Nat) (fun b => [int b.1]) (fun b H' nx' => b.1 ≤ d.i.length ∧ Out3 1 (c.o * d.o) [] [] (gl (x * d.i.length + b.1) (pI c d)) [] .nil .nil b.2.1 .nil none none b.2.2 H' 1 nx' ∧ H' 0 = some [int 0, .nil, .nil, .nil, .nil]) (fun b => d.i.length - b.1) (0, ve, s3) rfl ⟨Nat.zero_le _, by simpa using out, y1⟩ ?_
    clear out y1 H1
    rintro ⟨b, ve, s3⟩ H1 n1 ⟨hb, out, y1⟩
    simp only at hb out
    by_cases hlb : (b : Int) < d.o
    · have hlb' : b < d.i.length := by omega
      have ob := t.obI hlb'
      have i2 : In d.i (b : Int) := t.inI ob
      have g2 : gI d.i (b : Int) = d.I b := rfl
      have lt := ixlt hlx' hlb'
      have ii : c.i.length * d.i.length ≤ 8 * 8 := Nat.mul_le_mul (by omega) (by omega)
      have eI : c.I x * d.f.length + d.I b = pI c d (x * d.i.length + b) := by unfold pI; rw [ixd hlb', ixm hlb']
      have r1 := s.arI ox
      have r2 := t.arI ob
      have q1 := mul_bd (a := 40) (b := 40) (y := d.f.length) r1.1 (by have := r1.2; omega) (by omega) (by omega)
      have w1 : IntKind.i64.wrap (c.I x * d.f.length) = c.I x * d.f.length := wrap_id (by omega) (by omega)
      have w3 : IntKind.i64.wrap (c.I x * d.f.length + d.I b) = pI c d (x * d.i.length + b) := by rw [wrap_id (by have := r2.1; omega) (by have := r2.2; omega), eI]
      generalize hN : x * d.i.length + b = N at lt w3 out
      have qh := out.qh
      try simp (disch := (first | rfl | with_reducible assumption | with_reducible solve_by_elim (maxDepth := 8) [Shape.inT, Shape.inI, Shape.inC, Shape.inK, Shape.obF, Shape.obT, Shape.arI, Arr.inF] | omega)) only [S2, Nat.reduceEqDiff, Nat.reduceAdd, iput, puts, hlb, g1, g2, w1, w3, p_fadm (l := 5) out.obj rfl, p_ldm (n := 5) out.obj rfl]
      refine den_out3 (m := [pI c d N]) out (Nat.le_refl _) rfl rfl rfl (by omega) rfl rfl (by simp) (by rw [gl_len]; simp only [List.length_cons, List.length_nil]; omega) fun a6 H6 n6 out6 hn6 keep6 => ?_
      have low6 : ∀ t, t < 1 → H6 t = H1 t := fun t ht => keep6 t (by omega) (by omega) fun ee => by have := out.r3 t ee; omega
      rw [← gl_succ] at out6
      try simp (disch := (first | rfl | with_reducible assumption | with_reducible solve_by_elim (maxDepth := 8) [Shape.inT, Shape.inI, Shape.inC, Shape.inK, Shape.obF, Shape.obT, Shape.arI, Arr.inF] | omega)) only [S2, Nat.reduceEqDiff, Nat.reduceAdd, iput, puts]
      refine ⟨(b + 1, a6, some (s3.getD n1)), rfl, ⟨hlb', ?_, ?_⟩, by simp only; omega⟩
      · simp only
        rw [← Nat.add_assoc, hN]
        exact out6
      · rw [low6 _ (by omega)]; exact y1
    · have hbe : b = d.i.length := by omega
      subst hbe
      rw [ixs] at out
      try simp (disch := (first | rfl | with_reducible assumption | with_reducible solve_by_elim (maxDepth := 8) [Shape.inT, Shape.inI, Shape.inC, Shape.inK, Shape.obF, Shape.obT, Shape.arI, Arr.inF] | omega)) only [S2, Nat.reduceEqDiff, Nat.reduceAdd, iput, puts, hlb]
      exact ⟨(x + 1, ve, s3), rfl, ⟨hlx', out, y1⟩, by simp only; omega⟩
  · have hxe : x = c.i.length := by omega
    subst hxe
    try simp (disch := (first | rfl | with_reducible assumption | with_reducible solve_by_elim (maxDepth := 8) [Shape.inT, Shape.inI, Shape.inC, Shape.inK, Shape.obF, Shape.obT, Shape.arI, Arr.inF] | omega)) only [S2, Nat.reduceEqDiff, Nat.reduceAdd, iput, puts, hlx]
    -- arrows and rows
    refine den_loop (α := Nat × (AV × AV × AV) × (Option Nat × Option Nat)) (fun a => [int a.1]) (fun a H' nx' => a.1 ≤ c.f.length ∧ Out3 1 (c.o * d.o) (gl (a.1 * d.f.length) (pF c d)) (gl (a.1 * d.f.length) (pT c d)) (gl (c.i.length * d.i.length) (pI c d)) ((List.range (a.1 * d.f.length)).map fun k => gl (c.f.length * d.f.length) (pK c d k)) a.2.1.1 a.2.1.2.1 ve a.2.1.2.2 a.2.2.1 a.2.2.2 s3 H' 1 nx' ∧ H' 0 = some [int 0, .nil, .nil, .nil, .nil]) (fun a => c.f.length - a.1) (0, (.nil, .nil, .nil), none, none) rfl ⟨Nat.zero_le _, by simpa [gl] using out, y1⟩ ?_
    clear out y1 H1
    rintro ⟨a, ⟨va, vb, vc⟩, s1, s2⟩ H1 n1 ⟨ha, out, y1⟩
    simp only at ha out
    by_cases hla : a < c.f.length
    · have aa : Arr c (a : Int) := ⟨by omega, by omega⟩
      try simp (disch := (first | rfl | with_reducible assumption | with_reducible solve_by_elim (maxDepth := 8) [Shape.inT, Shape.inI, Shape.inC, Shape.inK, Shape.obF, Shape.obT, Shape.arI, Arr.inF] | omega)) only [S2, Nat.reduceEqDiff, Nat.reduceAdd, iput, puts, hla]
      refine den_loop (α := Nat × (AV × AV × AV) × (Option Nat × Option Nat)) (fun b => [int b.1]) (fun b H' nx' => b.1 ≤ d.f.length ∧ Out3 1 (c.o * d.o) (gl (a * d.f.length + b.1) (pF c d)) (gl (a * d.f.length + b.1) (pT c d)) (gl (c.i.length * d.i.length) (pI c d)) ((List.range (a * d.f.length + b.1)).map fun k => gl (c.f.length * d.f.length) (pK c d k)) b.2.1.1 b.2.1.2.1 ve b.2.1.2.2 b.2.2.1 b.2.2.2 s3 H' 1 nx' ∧ H' 0 = some [int 0, .nil, .nil, .nil, .nil]) (fun b => d.f.length - b.1) (0, (va, vb, vc), s1, s2) rfl ⟨Nat.zero_le _, by simpa using out, y1⟩ ?_
      clear out y1 H1
      rintro ⟨b, ⟨va, vb, vc⟩, s1, s2⟩ H1 n1 ⟨hb, out, y1⟩
      simp only at hb out
      by_cases hlb : b < d.f.length
      · have i1 : In c.f (a : Int) := In.nat hla
        have i2 : In d.f (b : Int) := In.nat hlb
        have i3 : In c.t (a : Int) := In.nat (by omega)
        have i4 : In d.t (b : Int) := In.nat (by omega)
        have g1 : gI c.f (a : Int) = c.F a := rfl
        have g2 : gI d.f (b : Int) = d.F b := rfl
        have g3 : gI c.t (a : Int) = c.T a := rfl
        have g4 : gI d.t (b : Int) = d.T b := rfl
        have lt := ixlt hla hlb
        have eF : c.F a * d.o + d.F b = pF c d (a * d.f.length + b) := by unfold pF; rw [ixd hlb, ixm hlb]
        have eT : c.T a * d.o + d.T b = pT c d (a * d.f.length + b) := by unfold pT; rw [ixd hlb, ixm hlb]
        have ab : Arr d (b : Int) := ⟨by omega, by omega⟩
        have r1 := s.obF aa
        have r2 := t.obF ab
        have r3 := s.obT aa
        have r4 := t.obT ab
        have q1 := mul_bd (a := 8) (b := 8) r1.1 (by have := r1.2; omega) o0' o8'
        have q2 := mul_bd (a := 8) (b := 8) r3.1 (by have := r3.2; omega) o0' o8'
        have w1 : IntKind.i64.wrap (c.F a * d.o) = c.F a * d.o := wrap_id (by omega) (by omega)
        have w2 : IntKind.i64.wrap (c.T a * d.o) = c.T a * d.o := wrap_id (by omega) (by omega)
        have w3 : IntKind.i64.wrap (c.F a * d.o + d.F b) = pF c d (a * d.f.length + b) := by rw [wrap_id (by have := r2.1; omega) (by have := r2.2; omega), eF]
        have w4 : IntKind.i64.wrap (c.T a * d.o + d.T b) = pT c d (a * d.f.length + b) := by rw [wrap_id (by have := r4.1; omega) (by have := r4.2; omega), eT]
        have dN : (a * d.f.length + b) / d.f.length = a := ixd hlb
        have mN : (a * d.f.length + b) % d.f.length = b := ixm hlb
        generalize hN : a * d.f.length + b = N at lt w3 w4 out dN mN
        have qh := out.qh
        try simp (disch := (first | rfl | with_reducible assumption | with_reducible solve_by_elim (maxDepth := 8) [Shape.inT, Shape.inI, Shape.inC, Shape.inK, Shape.obF, Shape.obT, Shape.arI, Arr.inF] | omega)) only [S2, Nat.reduceEqDiff, Nat.reduceAdd, iput, puts, hlb, g1, g2, w1, w3, p_fadm (l := 5) out.obj rfl, p_ldm (n := 5) out.obj rfl]
        refine den_out1 (m := [pF c d N]) out (Nat.le_refl _) rfl rfl rfl (by omega) rfl rfl (by simp) (by rw [gl_len]; simp only [List.length_cons, List.length_nil]; omega) fun a6 H6 n6 out6 hn6 keep6 => ?_
        have low6 : ∀ t, t < 1 → H6 t = H1 t := fun t ht => keep6 t (by omega) (by omega) fun ee => by have := out.r1 t ee; omega
        rw [← gl_succ] at out6
        have y6 := (low6 0 (by omega)).trans y1
        try simp (disch := (first | rfl | with_reducible assumption | with_reducible solve_by_elim (maxDepth := 8) [Shape.inT, Shape.inI, Shape.inC, Shape.inK, Shape.obF, Shape.obT, Shape.arI, Arr.inF] | omega)) only [S2, Nat.reduceEqDiff, Nat.reduceAdd, iput, puts, g3, g4, w2, w4, p_fadm (l := 5) out6.obj rfl, p_ldm (n := 5) out6.obj rfl]
        refine den_out2 (m := [pT c d N]) out6 (Nat.le_refl _) rfl rfl rfl (by omega) rfl rfl (by simp) (by rw [gl_len]; simp only [List.length_cons, List.length_nil]; omega) fun b7 H7 n7 out7 hn7 keep7 => ?_
        have low7 : ∀ t, t < 1 → H7 t = H6 t := fun t ht => keep7 t (by omega) (by omega) fun ee => by have := out6.r2 t ee; omega
        rw [← gl_succ] at out7
        have y7 := (low7 0 (by omega)).trans y6
        try simp (disch := (first | rfl | with_reducible assumption | with_reducible solve_by_elim (maxDepth := 8) [Shape.inT, Shape.inI, Shape.inC, Shape.inK, Shape.obF, Shape.obT, Shape.arI, Arr.inF] | omega)) only [S2, Nat.reduceEqDiff, Nat.reduceAdd, iput, puts]
        refine den_loop (α := Nat × AV) (fun a => [a.2, int a.1]) (fun a H' nx' => a.1 ≤ c.f.length ∧ IsI (gl (a.1 * d.f.length) (pK c d N)) H7 n7 a.2 H' nx') (fun a => c.f.length - a.1) (0, .nil) rfl ⟨Nat.zero_le _, by simpa [gl] using IsI.nil H7 n7⟩ ?_
        rintro ⟨f, v8⟩ H8 n8 ⟨hf, hI⟩
        simp only at hf hI
        by_cases hlf : f < c.f.length
        · have af : Arr c (f : Int) := ⟨by omega, by omega⟩
          try simp (disch := (first | rfl | with_reducible assumption | with_reducible solve_by_elim (maxDepth := 8) [Shape.inT, Shape.inI, Shape.inC, Shape.inK, Shape.obF, Shape.obT, Shape.arI, Arr.inF] | omega)) only [S2, Nat.reduceEqDiff, Nat.reduceAdd, iput, puts, hlf]
          refine den_loop (α := Nat × AV) (fun a => [a.2, int a.1]) (fun a H' nx' => a.1 ≤ d.f.length ∧ IsI (gl (f * d.f.length + a.1) (pK c d N)) H7 n7 a.2 H' nx') (fun a => d.f.length - a.1) (0, v8) rfl ⟨Nat.zero_le _, by simpa using hI⟩ ?_
          clear hI H8
          rintro ⟨g, v8⟩ H8 n8 ⟨hg, hI⟩
          simp only at hg hI
          by_cases hlg : g < d.f.length
          · have ag : Arr d (g : Int) := ⟨by omega, by omega⟩
            have ltg := ixlt hlf hlg
            have ic1 : InR c.c (a : Int) := s.inC aa
            have ic2 : InR d.c (b : Int) := t.inC ab
            have iK := s.inK aa af
            have iK' := t.inK ab ag
            have gK : gI (gR c.c (a : Int)) (f : Int) = c.K a f := rfl
            have gK' : gI (gR d.c (b : Int)) (g : Int) = d.K b g := rfl
            have eK : pK c d N (f * d.f.length + g) = if 0 ≤ c.K a f ∧ 0 ≤ d.K b g then c.K a f * d.f.length + d.K b g else -1 := by unfold pK pC; rw [dN, mN, ixd hlg, ixm hlg]
            have stp : ∀ v9 H9 n9, IsI (gl (f * d.f.length + g) (pK c d N) ++ [pK c d N (f * d.f.length + g)]) H7 n7 v9 H9 n9 → IsI (gl (f * d.f.length + (g + 1)) (pK c d N)) H7 n7 v9 H9 n9 := fun v9 H9 n9 q => by rw [← Nat.add_assoc, gl_succ]; exact q
            try simp (disch := (first | rfl | with_reducible assumption | with_reducible solve_by_elim (maxDepth := 8) [Shape.inT, Shape.inI, Shape.inC, Shape.inK, Shape.obF, Shape.obT, Shape.arI, Arr.inF] | omega)) only [S2, Nat.reduceEqDiff, Nat.reduceAdd, iput, puts, hlg, gK]
            refine ⟨fun k1 => ?_, fun k1 => ?_⟩
            · try simp (disch := (first | rfl | with_reducible assumption | with_reducible solve_by_elim (maxDepth := 8) [Shape.inT, Shape.inI, Shape.inC, Shape.inK, Shape.obF, Shape.obT, Shape.arI, Arr.inF] | omega)) only [S2, Nat.reduceEqDiff, Nat.reduceAdd, iput, puts, gK']
              refine ⟨fun k2 => ?_, fun k2 => ?_⟩
              · rw [if_pos ⟨by omega, by omega⟩] at eK
                have p1 := s.arK aa af ((s.kI aa af).1 (by omega))
                have p2 := t.arK ab ag ((t.kI ab ag).1 (by omega))
                have q3 := mul_bd (a := 40) (b := 40) (y := d.f.length) p1.1 (by have := p1.2; omega) (by omega) (by omega)
                have w5 : IntKind.i64.wrap (c.K a f * d.f.length) = c.K a f * d.f.length := wrap_id (by omega) (by omega)
                have w6 : IntKind.i64.wrap (c.K a f * d.f.length + d.K b g) = pK c d N (f * d.f.length + g) := by rw [wrap_id (by have := p2.1; omega) (by have := p2.2; omega), eK]
                try simp (disch := (first | rfl | with_reducible assumption | with_reducible solve_by_elim (maxDepth := 8) [Shape.inT, Shape.inI, Shape.inC, Shape.inK, Shape.obF, Shape.obT, Shape.arI, Arr.inF] | omega)) only [S2, Nat.reduceEqDiff, Nat.reduceAdd, iput, puts, gK, gK', w5, w6]
                refine den_appI (m := [pK c d N (f * d.f.length + g)]) hI rfl (by simp) (by rw [gl_len]; simp only [List.length_cons, List.length_nil]; omega) fun v9 H9 n9 hI9 => ?_
                try simp (disch := (first | rfl | with_reducible assumption | with_reducible solve_by_elim (maxDepth := 8) [Shape.inT, Shape.inI, Shape.inC, Shape.inK, Shape.obF, Shape.obT, Shape.arI, Arr.inF] | omega)) only [S2, Nat.reduceEqDiff, Nat.reduceAdd, iput, puts]
                exact ⟨(g + 1, v9), rfl, ⟨hlg, stp _ _ _ hI9⟩, by simp only; omega⟩
              · rw [if_neg fun e => k2 (by have := e.2; omega)] at eK
                try simp (disch := (first | rfl | with_reducible assumption | with_reducible solve_by_elim (maxDepth := 8) [Shape.inT, Shape.inI, Shape.inC, Shape.inK, Shape.obF, Shape.obT, Shape.arI, Arr.inF] | omega)) only [S2, Nat.reduceEqDiff, Nat.reduceAdd, iput, puts]
                refine den_appI (m := [-1]) hI rfl (by simp) (by rw [gl_len]; simp only [List.length_cons, List.length_nil]; omega) fun v9 H9 n9 hI9 => ?_
                rw [← eK] at hI9
                try simp (disch := (first | rfl | with_reducible assumption | with_reducible solve_by_elim (maxDepth := 8) [Shape.inT, Shape.inI, Shape.inC, Shape.inK, Shape.obF, Shape.obT, Shape.arI, Arr.inF] | omega)) only [S2, Nat.reduceEqDiff, Nat.reduceAdd, iput, puts]
                exact ⟨(g + 1, v9), rfl, ⟨hlg, stp _ _ _ hI9⟩, by simp only; omega⟩
            · rw [if_neg fun e => k1 (by have := e.1; omega)] at eK
              try simp (disch := (first | rfl | with_reducible assumption | with_reducible solve_by_elim (maxDepth := 8) [Shape.inT, Shape.inI, Shape.inC, Shape.inK, Shape.obF, Shape.obT, Shape.arI, Arr.inF] | omega)) only [S2, Nat.reduceEqDiff, Nat.reduceAdd, iput, puts]
              refine den_appI (m := [-1]) hI rfl (by simp) (by rw [gl_len]; simp only [List.length_cons, List.length_nil]; omega) fun v9 H9 n9 hI9 => ?_
              rw [← eK] at hI9
              try simp (disch := (first | rfl | with_reducible assumption | with_reducible solve_by_elim (maxDepth := 8) [Shape.inT, Shape.inI, Shape.inC, Shape.inK, Shape.obF, Shape.obT, Shape.arI, Arr.inF] | omega)) only [S2, Nat.reduceEqDiff, Nat.reduceAdd, iput, puts]
              exact ⟨(g + 1, v9), rfl, ⟨hlg, stp _ _ _ hI9⟩, by simp only; omega⟩
          · have hge : g = d.f.length := by omega
            subst hge
            rw [ixs] at hI
            try simp (disch := (first | rfl | with_reducible assumption | with_reducible solve_by_elim (maxDepth := 8) [Shape.inT, Shape.inI, Shape.inC, Shape.inK, Shape.obF, Shape.obT, Shape.arI, Arr.inF] | omega)) only [S2, Nat.reduceEqDiff, Nat.reduceAdd, iput, puts, hlg]
            exact ⟨(f + 1, v8), rfl, ⟨hlf, hI⟩, by simp only; omega⟩
        · have hfe : f = c.f.length := by omega
          subst hfe
          have hn8 := hI.1
          have out8 := out7.mono (H' := H8) (Nat.le_refl _) fun t _ h2 => hI.old h2
          have q7 := out7.qh
          have y8 := (hI.old (show 0 < n7 by omega)).trans y7
          have ow : Own1 (gl (c.f.length * d.f.length) (pK c d N)) v8 H8 n7 n8 := by
            obtain ⟨_, ⟨q1, q2, _⟩ | ⟨o, q1, q2, q3, q4⟩⟩ := hI
            · exact .inl ⟨q1, q2⟩
            · exact .inr ⟨o, q1, q2, q3, by rw [q4]; exact hput_eq _ _ _⟩
          try simp (disch := (first | rfl | with_reducible assumption | with_reducible solve_by_elim (maxDepth := 8) [Shape.inT, Shape.inI, Shape.inC, Shape.inK, Shape.obF, Shape.obT, Shape.arI, Arr.inF] | omega)) only [S2, Nat.reduceEqDiff, Nat.reduceAdd, iput, puts, hlf, p_fadm (l := 5) out8.obj rfl, p_ldm (n := 5) out8.obj rfl]
          refine den_outR (l := gl (c.f.length * d.f.length) (pK c d N)) out8 rfl (fun _ => rfl) rfl (by omega) rfl rfl (by rw [List.length_map, List.length_range]; omega) hn8 ow fun e9 H9 n9 out9 hn9 low9 => ?_
          try simp (disch := (first | rfl | with_reducible assumption | with_reducible solve_by_elim (maxDepth := 8) [Shape.inT, Shape.inI, Shape.inC, Shape.inK, Shape.obF, Shape.obT, Shape.arI, Arr.inF] | omega)) only [S2, Nat.reduceEqDiff, Nat.reduceAdd, iput, puts]
          refine ⟨(b + 1, (a6, b7, e9), some (s1.getD n1), some (s2.getD n6)), rfl, ⟨hlb, ?_, ?_⟩, by simp only; omega⟩
          · simp only
            rw [← Nat.add_assoc, hN, List.range_succ, List.map_append]
            exact out9
          · rw [low9 _ (by omega)]; exact y8
      · have hbe : b = d.f.length := by omega
        subst hbe
        rw [ixs] at out
        try simp (disch := (first | rfl | with_reducible assumption | with_reducible solve_by_elim (maxDepth := 8) [Shape.inT, Shape.inI, Shape.inC, Shape.inK, Shape.obF, Shape.obT, Shape.arI, Arr.inF] | omega)) only [S2, Nat.reduceEqDiff, Nat.reduceAdd, iput, puts, hlb]
        exact ⟨(a + 1, (va, vb, vc), s1, s2), rfl, ⟨hla, out, y1⟩, by simp only; omega⟩
    · have hae : a = c.f.length := by omega
      subst hae
      have qh := out.qh
      try simp (disch := (first | rfl | with_reducible assumption | with_reducible solve_by_elim (maxDepth := 8) [Shape.inT, Shape.inI, Shape.inC, Shape.inK, Shape.obF, Shape.obT, Shape.arI, Arr.inF] | omega)) only [S2, Nat.reduceEqDiff, Nat.reduceAdd, iput, puts, hla, p_ldsm (l := 5) out.obj rfl]
      refine den_stR (o := 0) (m := 5) (d := [int (c.o * d.o), va, vb, ve, vc]) rfl rfl y1 rfl rfl out.ones fun H9 y9 e9 => ?_
      have out9 := out.mono (H' := H9) (Nat.le_refl _) fun t h1 _ => e9 t (by omega)
      refine ⟨_, ?_, H9, fun _ _ h => h, 1, n1, out9.own⟩
      simp only [retOf, rets, SS, Nat.reduceEqDiff, Nat.reduceAdd, iput, puts, pLd, y9]
      rfl
end Go.Av
