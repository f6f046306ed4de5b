/-
  TwistedCategory: the program's walk.
-/
import Derived.Test.YtbalggpkmaabmaaAvX5
namespace Go.Av
open Classical
set_option linter.unusedSimpArgs false
set_option linter.unusedVariables false
variable {P : Program} {ν : Nat → FuncId}

def V_TwistedCategory : Vc :=
  .op true (.p .box [.t 0]) <|
  .op true (.new [int 0, .nil, .nil, .nil, .nil]) <|
  .op true (.call (.f 24) [.t 1]) <|
  .op true (.p .bnot [.t 3]) <|
  .br 4
   (.op true (.p (.mka [int 0, .nil, .nil, .nil, .nil] []) []) <|
   .op true (.st 5 (.t 2) (.t 5)) <|
   .ret [(.t 2, some (some 5)), (.c (int 1), none)])
   (.op true (.call (.f 26) [.t 1]) <|
   .op true (.p (.bin .gtr) [.t 5, .c (int 8)]) <|
   .br 6
    (.op true (.p (.mka [int 0, .nil, .nil, .nil, .nil] []) []) <|
    .op true (.st 5 (.t 2) (.t 7)) <|
    .ret [(.t 2, some (some 5)), (.c (int 3), none)])
    (.op true (.mks [int 0] (.t 5) (.t 5)) <|
    .op true (.p (.mka [int 0, .nil, .nil, .nil, .nil] [(0, 1), (3, 1)]) [.t 5, .t 7]) <|
    .op true (.new [int 0, .nil, .nil, .nil, .nil]) <|
    .op true (.st 5 (.t 9) (.t 8)) <|
    .op true (.p (.msl 0 [] []) []) <|
    .op true (.new [.nil]) <|
    .op true (.st 1 (.t 12) (.t 11)) <|
    .loop 0 [.c (int 0)] <|
    .op true (.p (.bin .lss) [.t 14, .t 5]) <|
    .br 15
     (.loop 1 [.c (int 0)] <|
     .op true (.p (.bin .lss) [.t 16, .t 5]) <|
     .br 17
      (.op true (.p (.fad 1) [.t 1]) <|
      .op true (.p (.ld none) [.t 18]) <|
      .op true (.p (.iad 1) [.t 19, .t 16]) <|
      .op true (.p (.ld none) [.t 20]) <|
      .op true (.p (.fad 1) [.t 1]) <|
      .op true (.p (.ld none) [.t 22]) <|
      .op true (.p (.iad 1) [.t 23, .t 14]) <|
      .op true (.p (.ld none) [.t 24]) <|
      .op true (.call (.f 33) [.t 1, .t 21, .t 25]) <|
      .op true (.p .len [.t 26]) <|
      .loop 2 [.c (int 0)] <|
      .op true (.p (.bin .lss) [.t 28, .t 27]) <|
      .br 29
       (.op true (.p (.iad 1) [.t 26, .t 28]) <|
       .op true (.p (.ld none) [.t 30]) <|
       .op true (.p (.fad 2) [.t 1]) <|
       .op true (.p (.ld none) [.t 32]) <|
       .op true (.p (.iad 1) [.t 33, .t 14]) <|
       .op true (.p (.ld none) [.t 34]) <|
       .op true (.p (.fad 2) [.t 1]) <|
       .op true (.p (.ld none) [.t 36]) <|
       .op true (.p (.iad 1) [.t 37, .t 16]) <|
       .op true (.p (.ld none) [.t 38]) <|
       .op true (.call (.f 33) [.t 1, .t 35, .t 39]) <|
       .op true (.p .len [.t 40]) <|
       .loop 3 [.c (int 0)] <|
       .op true (.p (.bin .lss) [.t 42, .t 41]) <|
       .br 43
        (.op true (.p (.iad 1) [.t 40, .t 42]) <|
        .op true (.p (.ld none) [.t 44]) <|
        .op true (.call (.f 34) [.t 1, .t 31, .t 14]) <|
        .op true (.call (.f 34) [.t 1, .t 46, .t 45]) <|
        .op true (.p (.bin .neq) [.t 47, .t 16]) <|
        .br 48
         (.op true (.p (.bin .add) [.t 42, .c (int 1)]) <|
         .again 3 [.t 49])
         (.op true (.p (.bin .eql) [.t 14, .t 16]) <|
         .br 49
          (.op true (.call (.f 352) [.t 1, .t 31]) <|
          .br 50
           (.op true (.call (.f 352) [.t 1, .t 45]) <|
           .br 51
            (.op true (.p (.fad 3) [.t 9]) <|
            .op true (.p (.ld none) [.t 52]) <|
            .op true (.p (.ld none) [.t 12]) <|
            .op true (.p .len [.t 54]) <|
            .op true (.p (.iad 1) [.t 53, .t 14]) <|
            .op true (.st 1 (.t 56) (.t 55)) <|
            .op true (.p (.ld none) [.t 12]) <|
            .op true (.p (.mka [int 0, int 0, int 0, int 0] [(0, 1), (1, 1), (2, 1), (3, 1)]) [.t 14, .t 16, .t 31, .t 45]) <|
            .op true (.p (.msl 1 [int 0, int 0, int 0, int 0] [(0, 4)]) [.t 59]) <|
            .op true (.app 4 (.t 58) (.t 60)) <|
            .op true (.st 1 (.t 12) (.t 61)) <|
            .op true (.p (.fad 1) [.t 9]) <|
            .op true (.p (.ld none) [.t 63]) <|
            .op true (.p (.msl 1 [int 0] [(0, 1)]) [.t 14]) <|
            .op true (.app 1 (.t 64) (.t 65)) <|
            .op true (.p (.fad 1) [.t 9]) <|
            .op true (.st 1 (.t 67) (.t 66)) <|
            .op true (.p (.fad 2) [.t 9]) <|
            .op true (.p (.ld none) [.t 69]) <|
            .op true (.p (.msl 1 [int 0] [(0, 1)]) [.t 16]) <|
            .op true (.app 1 (.t 70) (.t 71)) <|
            .op true (.p (.fad 2) [.t 9]) <|
            .op true (.st 1 (.t 73) (.t 72)) <|
            .op true (.p (.bin .add) [.t 42, .c (int 1)]) <|
            .again 3 [.t 75])
            (.op true (.p (.ld none) [.t 12]) <|
            .op true (.p (.mka [int 0, int 0, int 0, int 0] [(0, 1), (1, 1), (2, 1), (3, 1)]) [.t 14, .t 16, .t 31, .t 45]) <|
            .op true (.p (.msl 1 [int 0, int 0, int 0, int 0] [(0, 4)]) [.t 53]) <|
            .op true (.app 4 (.t 52) (.t 54)) <|
            .op true (.st 1 (.t 12) (.t 55)) <|
            .op true (.p (.fad 1) [.t 9]) <|
            .op true (.p (.ld none) [.t 57]) <|
            .op true (.p (.msl 1 [int 0] [(0, 1)]) [.t 14]) <|
            .op true (.app 1 (.t 58) (.t 59)) <|
            .op true (.p (.fad 1) [.t 9]) <|
            .op true (.st 1 (.t 61) (.t 60)) <|
            .op true (.p (.fad 2) [.t 9]) <|
            .op true (.p (.ld none) [.t 63]) <|
            .op true (.p (.msl 1 [int 0] [(0, 1)]) [.t 16]) <|
            .op true (.app 1 (.t 64) (.t 65)) <|
            .op true (.p (.fad 2) [.t 9]) <|
            .op true (.st 1 (.t 67) (.t 66)) <|
            .op true (.p (.bin .add) [.t 42, .c (int 1)]) <|
            .again 3 [.t 69]))
           (.op true (.p (.ld none) [.t 12]) <|
           .op true (.p (.mka [int 0, int 0, int 0, int 0] [(0, 1), (1, 1), (2, 1), (3, 1)]) [.t 14, .t 16, .t 31, .t 45]) <|
           .op true (.p (.msl 1 [int 0, int 0, int 0, int 0] [(0, 4)]) [.t 52]) <|
           .op true (.app 4 (.t 51) (.t 53)) <|
           .op true (.st 1 (.t 12) (.t 54)) <|
           .op true (.p (.fad 1) [.t 9]) <|
           .op true (.p (.ld none) [.t 56]) <|
           .op true (.p (.msl 1 [int 0] [(0, 1)]) [.t 14]) <|
           .op true (.app 1 (.t 57) (.t 58)) <|
           .op true (.p (.fad 1) [.t 9]) <|
           .op true (.st 1 (.t 60) (.t 59)) <|
           .op true (.p (.fad 2) [.t 9]) <|
           .op true (.p (.ld none) [.t 62]) <|
           .op true (.p (.msl 1 [int 0] [(0, 1)]) [.t 16]) <|
           .op true (.app 1 (.t 63) (.t 64)) <|
           .op true (.p (.fad 2) [.t 9]) <|
           .op true (.st 1 (.t 66) (.t 65)) <|
           .op true (.p (.bin .add) [.t 42, .c (int 1)]) <|
           .again 3 [.t 68]))
          (.op true (.p (.ld none) [.t 12]) <|
          .op true (.p (.mka [int 0, int 0, int 0, int 0] [(0, 1), (1, 1), (2, 1), (3, 1)]) [.t 14, .t 16, .t 31, .t 45]) <|
          .op true (.p (.msl 1 [int 0, int 0, int 0, int 0] [(0, 4)]) [.t 51]) <|
          .op true (.app 4 (.t 50) (.t 52)) <|
          .op true (.st 1 (.t 12) (.t 53)) <|
          .op true (.p (.fad 1) [.t 9]) <|
          .op true (.p (.ld none) [.t 55]) <|
          .op true (.p (.msl 1 [int 0] [(0, 1)]) [.t 14]) <|
          .op true (.app 1 (.t 56) (.t 57)) <|
          .op true (.p (.fad 1) [.t 9]) <|
          .op true (.st 1 (.t 59) (.t 58)) <|
          .op true (.p (.fad 2) [.t 9]) <|
          .op true (.p (.ld none) [.t 61]) <|
          .op true (.p (.msl 1 [int 0] [(0, 1)]) [.t 16]) <|
          .op true (.app 1 (.t 62) (.t 63)) <|
          .op true (.p (.fad 2) [.t 9]) <|
          .op true (.st 1 (.t 65) (.t 64)) <|
          .op true (.p (.bin .add) [.t 42, .c (int 1)]) <|
          .again 3 [.t 67])))
        (.op true (.p (.bin .add) [.t 28, .c (int 1)]) <|
        .again 2 [.t 44]))
       (.op true (.p (.bin .add) [.t 16, .c (int 1)]) <|
       .again 1 [.t 30]))
      (.op true (.p (.bin .add) [.t 14, .c (int 1)]) <|
      .again 0 [.t 18]))
     (.op true (.p (.ld none) [.t 12]) <|
     .op true (.p .len [.t 16]) <|
     .op true (.p (.bin .gtr) [.t 17, .c (int 40)]) <|
     .br 18
      (.op true (.p (.mka [int 0, .nil, .nil, .nil, .nil] []) []) <|
      .op true (.st 5 (.t 2) (.t 19)) <|
      .ret [(.t 2, some (some 5)), (.c (int 3), none)])
      (.op true (.p (.mkf 354) [.t 12, .t 1]) <|
      .op true (.callm (.f 353) [.t 9, .t 19]) <|
      .op true (.p (.ld (some 5)) [.t 9]) <|
      .op true (.st 5 (.t 2) (.t 21)) <|
      .ret [(.t 2, some (some 5)), (.c (int 0), none)]))))
set_option maxHeartbeats 16000000 in
theorem TwistedCategory_ok (K : HCat P ν) (hho : Has P ν 33 3 V_Category_hom) (hid : Has P ν 352 2 V_Category_isIdentity) (hta : Has P ν 353 2 V_Category_table) (hsi : Has P ν 417 2 V_slices_Index_twist_twist) (hix : Has P ν 355 2 V_index_twist) (hq1 : Has P ν 354 4 V_TwistedCategory_1) (h : Has P ν 216 1 V_TwistedCategory) (c : Cat) (bc : Small c) (nx : Nat) :
    OkM P ν 216 [.agg c.cells] hempty nx (IsK (twR c) (twC0 c) nx) := by
  refine h _ _ _ _ rfl fun hwf => ?_
  unfold V_TwistedCategory
  have bad : ∀ (k : Int) (H : Hp) (n1 : Nat), twC0 c = k → k ≠ 0 → nx ≤ n1 → ∃ H', Sub H' H ∧ IsK (twR c) (twC0 c) nx (.tup [.agg [int 0, .nil, .nil, .nil, .nil], int k]) H' n1 := fun k H n1 e hk hn => by
    rw [twR, e, if_neg hk]
    exact (zeroK_own (H := H) (lo := nx) (hi := n1)).back (Nat.le_refl _) hn
  try simp (disch := (first | rfl | with_reducible assumption | with_reducible solve_by_elim (maxDepth := 8) [Shape.inT, Shape.inI, Shape.inC, Shape.inK, Shape.obF, Shape.obT, Shape.arI, Arr.inF] | omega)) only [S2, Nat.reduceEqDiff, Nat.reduceAdd, iput, puts]
  refine den_newG fun H0 y0 e0 => ?_
  repeat (first | simp (disch := (first | rfl | with_reducible assumption | with_reducible solve_by_elim (maxDepth := 8) [Shape.inT, Shape.inI, Shape.inC, Shape.inK, Shape.obF, Shape.obT, Shape.arI, Arr.inF] | omega)) only [S2, Nat.reduceEqDiff, Nat.reduceAdd, iput, puts] | (refine den_call rfl (by first | (simp only [SS, Nat.reduceEqDiff, Nat.reduceAdd, iput, puts, FF, frzL_cat]; done) | (simp only [SS, Nat.reduceEqDiff, Nat.reduceAdd, iput, puts, FF, frzL_cat]; rfl)) (by first | exact (isCategory_ok K c bc).fzb) ?_) | (refine den_calli rfl (by first | (simp only [SS, Nat.reduceEqDiff, Nat.reduceAdd, iput, puts, FF, frzL_cat]; done) | (simp only [SS, Nat.reduceEqDiff, Nat.reduceAdd, iput, puts, FF, frzL_cat]; rfl)) (by first | exact (isCategory_ok K c bc).fzb) ?_))
  refine ⟨fun h1 => ?_, fun h1 => ?_⟩
  · try simp (disch := (first | rfl | with_reducible assumption | with_reducible solve_by_elim (maxDepth := 8) [Shape.inT, Shape.inI, Shape.inC, Shape.inK, Shape.obF, Shape.obT, Shape.arI, Arr.inF] | omega)) only [S2, Nat.reduceEqDiff, Nat.reduceAdd, iput, puts, mkZ]
    refine den_stR (o := nx) (m := 5) (d := [int 0, .nil, .nil, .nil, .nil]) rfl rfl y0 rfl rfl rfl fun H1 y1 e1 => ?_
    obtain ⟨H', q1, q2⟩ := bad 1 H1 (nx + 1) (by unfold twC0; rw [if_neg (by simpa using h1)]) (by decide) (by omega)
    refine ⟨.tup [.agg [int 0, .nil, .nil, .nil, .nil], int 1], ?_, H', q1, q2⟩
    simp only [retOf, rets, SS, Nat.reduceEqDiff, Nat.reduceAdd, iput, puts, pLd, y1]
    rfl
  have hc : IsCat c := by simpa using h1
  have s := hc.1
  have n40 := s.n40
  have tl := s.tl
  repeat (first | simp (disch := (first | rfl | with_reducible assumption | with_reducible solve_by_elim (maxDepth := 8) [Shape.inT, Shape.inI, Shape.inC, Shape.inK, Shape.obF, Shape.obT, Shape.arI, Arr.inF] | omega)) only [S2, Nat.reduceEqDiff, Nat.reduceAdd, iput, puts] | (refine den_call rfl (by first | (simp only [SS, Nat.reduceEqDiff, Nat.reduceAdd, iput, puts, FF, frzL_cat]; done) | (simp only [SS, Nat.reduceEqDiff, Nat.reduceAdd, iput, puts, FF, frzL_cat]; rfl)) (by first | exact (arrows_ok K.arrows c).fzi) ?_) | (refine den_calli rfl (by first | (simp only [SS, Nat.reduceEqDiff, Nat.reduceAdd, iput, puts, FF, frzL_cat]; done) | (simp only [SS, Nat.reduceEqDiff, Nat.reduceAdd, iput, puts, FF, frzL_cat]; rfl)) (by first | exact (arrows_ok K.arrows c).fzi) ?_))
  refine ⟨fun h2 => ?_, fun h2 => ?_⟩
  · try simp (disch := (first | rfl | with_reducible assumption | with_reducible solve_by_elim (maxDepth := 8) [Shape.inT, Shape.inI, Shape.inC, Shape.inK, Shape.obF, Shape.obT, Shape.arI, Arr.inF] | omega)) only [S2, Nat.reduceEqDiff, Nat.reduceAdd, iput, puts, mkZ]
    refine den_stR (o := nx) (m := 5) (d := [int 0, .nil, .nil, .nil, .nil]) rfl rfl y0 rfl rfl rfl fun H1 y1 e1 => ?_
    obtain ⟨H', q1, q2⟩ := bad 3 H1 (nx + 1) (by unfold twC0; rw [if_pos hc, if_neg fun f => by have := f.1; simp only [twX] at this; omega]) (by decide) (by omega)
    refine ⟨.tup [.agg [int 0, .nil, .nil, .nil, .nil], int 3], ?_, H', q1, q2⟩
    simp only [retOf, rets, SS, Nat.reduceEqDiff, Nat.reduceAdd, iput, puts, pLd, y1]
    rfl
  try simp (disch := (first | rfl | with_reducible assumption | with_reducible solve_by_elim (maxDepth := 8) [Shape.inT, Shape.inI, Shape.inC, Shape.inK, Shape.obF, Shape.obT, Shape.arI, Arr.inF] | omega)) only [S2, Nat.reduceEqDiff, Nat.reduceAdd, iput, puts]
  refine den_mksG (m := c.f.length) (z := int 0) rfl rfl (by omega) fun H1 z1 e1 => ?_
  rw [rep_int] at z1
  have mk : ∀ (H : Hp) (w : AV), pvf H (.mka [int 0, .nil, .nil, .nil, .nil] [(0, 1), (3, 1)]) [int (c.f.length : Int), .ms (nx + 1) 0 c.f.length 1] = some (.agg [int (c.f.length : Int), .nil, .nil, .ms (nx + 1) 0 c.f.length 1, .nil]) := fun _ _ => rfl
  have mk := fun H => mk H .nil
  try simp (disch := (first | rfl | with_reducible assumption | with_reducible solve_by_elim (maxDepth := 8) [Shape.inT, Shape.inI, Shape.inC, Shape.inK, Shape.obF, Shape.obT, Shape.arI, Arr.inF] | omega)) only [S2, Nat.reduceEqDiff, Nat.reduceAdd, iput, puts, mk]
  refine den_newG fun H2 x2 e2 => ?_
  refine den_stR (o := nx + 1 + 1) (m := 5) (d := [int (c.f.length : Int), .nil, .nil, .ms (nx + 1) 0 c.f.length 1, .nil]) rfl rfl x2 rfl rfl rfl fun H3 x3 e3 => ?_
  try simp (disch := (first | rfl | with_reducible assumption | with_reducible solve_by_elim (maxDepth := 8) [Shape.inT, Shape.inI, Shape.inC, Shape.inK, Shape.obF, Shape.obT, Shape.arI, Arr.inF] | omega)) only [S2, Nat.reduceEqDiff, Nat.reduceAdd, iput, puts]
  refine den_newG fun H4 p4 e4 => ?_
  refine den_st1G (o := nx + 1 + 1 + 1) (p := 0) (m := 1) (u := .nil) rfl rfl p4 rfl (by omega) rfl fun H5 p5 e5 => ?_
  have S : TwI c nx [] ((.nil, .nil, .nil), none, none, none) H5 (nx + 4) := by
    have k : ∀ t, t ≠ nx + 3 → H5 t = H3 t := fun t ht => (e5 t (by omega)).trans (e4 t (by omega))
    have o1 : H5 (nx + 2) = some [int (c.f.length : Int), .nil, .nil, .ms (nx + 1) 0 (idAll c c.f.length []).length 1, .nil] := by rw [idAll_len]; exact (k _ (by omega)).trans x3
    have o2 : H5 (nx + 1) = some (ints (idAll c c.f.length [])) := ((k _ (by omega)).trans ((e3 _ (by omega)).trans (e2 _ (by omega)))).trans z1
    have o := Out3.start3 (lo := nx + 1) o1 o2 (Nat.le_refl _) (by omega)
    rw [idAll_len] at o
    exact ⟨o.mono (by omega) fun _ _ _ => rfl, ⟨rfl, rfl⟩, p5, ((k _ (by omega)).trans ((e3 _ (by omega)).trans ((e2 _ (by omega)).trans (e1 _ (by omega))))).trans y0, Nat.le_refl _, (fun o h => by cases h), (fun o h => by cases h), (fun o h => by cases h)⟩
  try simp (disch := (first | rfl | with_reducible assumption | with_reducible solve_by_elim (maxDepth := 8) [Shape.inT, Shape.inI, Shape.inC, Shape.inK, Shape.obF, Shape.obT, Shape.arI, Arr.inF] | omega)) only [S2, Nat.reduceEqDiff, Nat.reduceAdd, iput, puts]
  refine den_loop (α := Nat × St6) (fun a => [int a.1]) (fun a H' nx' => a.1 ≤ c.f.length ∧ TwI c nx (t1 c a.1) a.2 H' nx') (fun a => c.f.length - a.1) (0, (.nil, .nil, .nil), none, none, none) rfl ⟨Nat.zero_le _, S⟩ ?_
  clear S p5 e5 p4 e4 H5 H4 x3 e3 H3 x2 e2 H2
  rintro ⟨a, ⟨v, va, vb⟩, sL, s1, s2⟩ H1 n1 ⟨ha, S⟩
  simp only at ha S
  have la := t1_len n40 a
  by_cases hla : a < c.f.length
  · have aa : Arr c (a : Int) := ⟨by omega, by omega⟩
    try simp (disch := (first | rfl | with_reducible assumption | with_reducible solve_by_elim (maxDepth := 8) [Shape.inT, Shape.inI, Shape.inC, Shape.inK, Shape.obF, Shape.obT, Shape.arI, Arr.inF] | omega)) only [S2, Nat.reduceEqDiff, Nat.reduceAdd, iput, puts, hla]
    refine den_loop (α := Nat × St6) (fun b => [int b.1]) (fun b H' nx' => b.1 ≤ c.f.length ∧ TwI c nx (t1 c a ++ t2 c a b.1) b.2 H' nx') (fun b => c.f.length - b.1) (0, (v, va, vb), sL, s1, s2) rfl ⟨Nat.zero_le _, by simpa [t2] using S⟩ ?_
    clear S H1
    rintro ⟨b, ⟨v, va, vb⟩, sL, s1, s2⟩ H1 n1 ⟨hb, S⟩
    simp only at hb S
    have lb := t2_len (f := (a : Int)) n40 b
    by_cases hlb : b < c.f.length
    · have ab : Arr c (b : Int) := ⟨by omega, by omega⟩
      have i1 : In c.f (a : Int) := In.nat hla
      have i2 : In c.f (b : Int) := In.nat hlb
      have i3 : In c.t (a : Int) := In.nat (by omega)
      have i4 : In c.t (b : Int) := In.nat (by omega)
      have g1 : gI c.f (a : Int) = c.F a := rfl
      have g2 : gI c.f (b : Int) = c.F b := rfl
      have g3 : gI c.t (a : Int) = c.T a := rfl
      have g4 : gI c.t (b : Int) = c.T b := rfl
      have ul : (homL c (c.F b) (c.F a)).length ≤ c.f.length := selL_len _ _
      have vl : (homL c (c.T a) (c.T b)).length ≤ c.f.length := selL_len _ _
      repeat (first | simp (disch := (first | rfl | with_reducible assumption | with_reducible solve_by_elim (maxDepth := 8) [Shape.inT, Shape.inI, Shape.inC, Shape.inK, Shape.obF, Shape.obT, Shape.arI, Arr.inF] | omega)) only [S2, Nat.reduceEqDiff, Nat.reduceAdd, iput, puts, hlb, g1, g2] | (refine den_call rfl (by first | (simp only [SS, Nat.reduceEqDiff, Nat.reduceAdd, iput, puts, FF, frzL_cat]; done) | (simp only [SS, Nat.reduceEqDiff, Nat.reduceAdd, iput, puts, FF, frzL_cat]; rfl)) (by first | exact s.homFz hho (c.F b) (c.F a)) ?_) | (refine den_calli rfl (by first | (simp only [SS, Nat.reduceEqDiff, Nat.reduceAdd, iput, puts, FF, frzL_cat]; done) | (simp only [SS, Nat.reduceEqDiff, Nat.reduceAdd, iput, puts, FF, frzL_cat]; rfl)) (by first | exact s.homFz hho (c.F b) (c.F a)) ?_))
      refine den_loop (α := Nat × St6) (fun i => [int i.1]) (fun i H' nx' => i.1 ≤ (homL c (c.F b) (c.F a)).length ∧ TwI c nx (t1 c a ++ t2 c a b ++ t3 c a b ((homL c (c.F b) (c.F a)).take i.1)) i.2 H' nx') (fun i => (homL c (c.F b) (c.F a)).length - i.1) (0, (v, va, vb), sL, s1, s2) rfl ⟨Nat.zero_le _, by simpa [t3] using S⟩ ?_
      clear S H1
      rintro ⟨i, ⟨v, va, vb⟩, sL, s1, s2⟩ H1 n1 ⟨hi, S⟩
      simp only at hi S
      have li := t3_len (f := (a : Int)) (g := (b : Int)) n40 ((homL c (c.F b) (c.F a)).take i)
      have lt := List.length_take (i := i) (l := homL c (c.F b) (c.F a))
      by_cases hli : i < (homL c (c.F b) (c.F a)).length
      · have j1 : In (homL c (c.F b) (c.F a)) (i : Int) := In.nat hli
        obtain ⟨au, fu, tu⟩ := hom_arrI hli
        have tk := take_succ_at hli
        rw [show (homL c (c.F b) (c.F a)).getD i 0 = gI (homL c (c.F b) (c.F a)) i from rfl] at tk
        generalize hu : gI (homL c (c.F b) (c.F a)) (i : Int) = u at au fu tu tk
        have auf : Arr c (c.K u a) := s.arK au aa tu
        repeat (first | simp (disch := (first | rfl | with_reducible assumption | with_reducible solve_by_elim (maxDepth := 8) [Shape.inT, Shape.inI, Shape.inC, Shape.inK, Shape.obF, Shape.obT, Shape.arI, Arr.inF] | omega)) only [S2, Nat.reduceEqDiff, Nat.reduceAdd, iput, puts, hli, hu, g3, g4] | (refine den_call rfl (by first | (simp only [SS, Nat.reduceEqDiff, Nat.reduceAdd, iput, puts, FF, frzL_cat]; done) | (simp only [SS, Nat.reduceEqDiff, Nat.reduceAdd, iput, puts, FF, frzL_cat]; rfl)) (by first | exact s.homFz hho (c.T a) (c.T b)) ?_) | (refine den_calli rfl (by first | (simp only [SS, Nat.reduceEqDiff, Nat.reduceAdd, iput, puts, FF, frzL_cat]; done) | (simp only [SS, Nat.reduceEqDiff, Nat.reduceAdd, iput, puts, FF, frzL_cat]; rfl)) (by first | exact s.homFz hho (c.T a) (c.T b)) ?_))
        refine den_loop (α := Nat × St6) (fun j => [int j.1]) (fun j H' nx' => j.1 ≤ (homL c (c.T a) (c.T b)).length ∧ TwI c nx (t1 c a ++ t2 c a b ++ t3 c a b ((homL c (c.F b) (c.F a)).take i) ++ t4 c a b u ((homL c (c.T a) (c.T b)).take j.1)) j.2 H' nx') (fun j => (homL c (c.T a) (c.T b)).length - j.1) (0, (v, va, vb), sL, s1, s2) rfl ⟨Nat.zero_le _, by simpa [t4] using S⟩ ?_
        clear S H1
        rintro ⟨j, ⟨v, va, vb⟩, sL, s1, s2⟩ H1 n1 ⟨hj, S⟩
        simp only at hj S
        by_cases hlj : j < (homL c (c.T a) (c.T b)).length
        · have j2 : In (homL c (c.T a) (c.T b)) (j : Int) := In.nat hlj
          obtain ⟨av, fv, tv⟩ := hom_arrI hlj
          have tkj := take_succ_at hlj
          rw [show (homL c (c.T a) (c.T b)).getD j 0 = gI (homL c (c.T a) (c.T b)) j from rfl] at tkj
          generalize hw : gI (homL c (c.T a) (c.T b)) (j : Int) = w at av fv tv tkj
          have lj := t4_len (c := c) (f := (a : Int)) (g := (b : Int)) (u := u) ((homL c (c.T a) (c.T b)).take j)
          have ltj := List.length_take (i := j) (l := homL c (c.T a) (c.T b))
          have sn := t4_snoc (c := c) (f := (a : Int)) (g := (b : Int)) (u := u) (vs := (homL c (c.T a) (c.T b)).take j) (v := w)
          rw [← tkj] at sn
          have ll : (t1 c a ++ t2 c a b ++ t3 c a b ((homL c (c.F b) (c.F a)).take i) ++ t4 c a b u ((homL c (c.T a) (c.T b)).take j)).length ≤ 40 * 64000 + 40 * 1600 + 40 * 40 + 40 := by
            simp only [List.length_append]
            omega
          have cut : ∀ x : List Tw, t1 c a ++ t2 c a b ++ t3 c a b ((homL c (c.F b) (c.F a)).take i) ++ (t4 c a b u ((homL c (c.T a) (c.T b)).take j) ++ x) = (t1 c a ++ t2 c a b ++ t3 c a b ((homL c (c.F b) (c.F a)).take i) ++ t4 c a b u ((homL c (c.T a) (c.T b)).take j)) ++ x := fun x => (List.append_assoc _ _ _).symm
          have goal : ∀ st H hi, TwI c nx ((t1 c a ++ t2 c a b ++ t3 c a b ((homL c (c.F b) (c.F a)).take i) ++ t4 c a b u ((homL c (c.T a) (c.T b)).take j)) ++ (if c.K (c.K u a) w = b then [((a : Int), (b : Int), u, w)] else [])) st H hi → TwI c nx (t1 c a ++ t2 c a b ++ t3 c a b ((homL c (c.F b) (c.F a)).take i) ++ t4 c a b u ((homL c (c.T a) (c.T b)).take (j + 1))) st H hi := fun st H hi q => by rw [sn, cut]; exact q
          clear sn cut tkj lj ltj
          generalize t1 c a ++ t2 c a b ++ t3 c a b ((homL c (c.F b) (c.F a)).take i) ++ t4 c a b u ((homL c (c.T a) (c.T b)).take j) = L at S ll goal
          have S : TwS nx c.f.length L (twF L) (twT L) (idAll c c.f.length L) v va vb (.ms (nx + 1) 0 c.f.length 1) sL s1 s2 H1 n1 := S
          repeat (first | simp (disch := (first | rfl | with_reducible assumption | with_reducible solve_by_elim (maxDepth := 8) [Shape.inT, Shape.inI, Shape.inC, Shape.inK, Shape.obF, Shape.obT, Shape.arI, Arr.inF] | omega)) only [S2, Nat.reduceEqDiff, Nat.reduceAdd, iput, puts, hlj, hw] | (refine den_call rfl (by first | (simp only [SS, Nat.reduceEqDiff, Nat.reduceAdd, iput, puts, FF, frzL_cat]; done) | (simp only [SS, Nat.reduceEqDiff, Nat.reduceAdd, iput, puts, FF, frzL_cat]; rfl)) (by first | exact s.fzThen K.thn au aa | exact s.fzThen K.thn auf av) ?_) | (refine den_calli rfl (by first | (simp only [SS, Nat.reduceEqDiff, Nat.reduceAdd, iput, puts, FF, frzL_cat]; done) | (simp only [SS, Nat.reduceEqDiff, Nat.reduceAdd, iput, puts, FF, frzL_cat]; rfl)) (by first | exact s.fzThen K.thn au aa | exact s.fzThen K.thn auf av) ?_))
          refine ⟨fun k1 => ?_, fun k1 => ?_⟩
          · rw [if_neg (by simpa using k1), List.append_nil] at goal
            try simp (disch := (first | rfl | with_reducible assumption | with_reducible solve_by_elim (maxDepth := 8) [Shape.inT, Shape.inI, Shape.inC, Shape.inK, Shape.obF, Shape.obT, Shape.arI, Arr.inF] | omega)) only [S2, Nat.reduceEqDiff, Nat.reduceAdd, iput, puts]
            exact ⟨(j + 1, (v, va, vb), sL, s1, s2), rfl, ⟨hlj, goal _ _ _ S⟩, by simp only; omega⟩
          · have k1 : c.K (c.K u a) w = b := by simpa using k1
            rw [if_pos k1] at goal
            have ids := idAll_snoc c c.f.length L ((a : Int), (b : Int), u, w)
            have hb4 := S.hb
            try simp (disch := (first | rfl | with_reducible assumption | with_reducible solve_by_elim (maxDepth := 8) [Shape.inT, Shape.inI, Shape.inC, Shape.inK, Shape.obF, Shape.obT, Shape.arI, Arr.inF] | omega)) only [S2, Nat.reduceEqDiff, Nat.reduceAdd, iput, puts]
            refine ⟨fun k2 => ?_, fun k2 => ?_⟩
            · have k2 : (a : Int) = b := by first | exact k2 | simpa using k2
              repeat (first | simp (disch := (first | rfl | with_reducible assumption | with_reducible solve_by_elim (maxDepth := 8) [Shape.inT, Shape.inI, Shape.inC, Shape.inK, Shape.obF, Shape.obT, Shape.arI, Arr.inF] | omega)) only [S2, Nat.reduceEqDiff, Nat.reduceAdd, iput, puts] | (refine den_call rfl (by first | (simp only [SS, Nat.reduceEqDiff, Nat.reduceAdd, iput, puts, FF, frzL_cat]; done) | (simp only [SS, Nat.reduceEqDiff, Nat.reduceAdd, iput, puts, FF, frzL_cat]; rfl)) (by first | exact isId_fz hid s au) ?_) | (refine den_calli rfl (by first | (simp only [SS, Nat.reduceEqDiff, Nat.reduceAdd, iput, puts, FF, frzL_cat]; done) | (simp only [SS, Nat.reduceEqDiff, Nat.reduceAdd, iput, puts, FF, frzL_cat]; rfl)) (by first | exact isId_fz hid s au) ?_))
              refine ⟨fun k3 => ?_, fun k3 => ?_⟩
              · have k3 : isU c u := by first | exact k3 | simpa using k3
                repeat (first | simp (disch := (first | rfl | with_reducible assumption | with_reducible solve_by_elim (maxDepth := 8) [Shape.inT, Shape.inI, Shape.inC, Shape.inK, Shape.obF, Shape.obT, Shape.arI, Arr.inF] | omega)) only [S2, Nat.reduceEqDiff, Nat.reduceAdd, iput, puts] | (refine den_call rfl (by first | (simp only [SS, Nat.reduceEqDiff, Nat.reduceAdd, iput, puts, FF, frzL_cat]; done) | (simp only [SS, Nat.reduceEqDiff, Nat.reduceAdd, iput, puts, FF, frzL_cat]; rfl)) (by first | exact isId_fz hid s av) ?_) | (refine den_calli rfl (by first | (simp only [SS, Nat.reduceEqDiff, Nat.reduceAdd, iput, puts, FF, frzL_cat]; done) | (simp only [SS, Nat.reduceEqDiff, Nat.reduceAdd, iput, puts, FF, frzL_cat]; rfl)) (by first | exact isId_fz hid s av) ?_))
                refine ⟨fun k4 => ?_, fun k4 => ?_⟩
                · have k4 : isU c w := by first | exact k4 | simpa using k4
                  rw [if_pos ⟨k2, k3, k4⟩] at ids
                  have fin : ∀ v va vb sL s1 s2 H hi, TwS nx c.f.length (L ++ [((a : Int), (b : Int), u, w)]) (twF L ++ [(a : Int)]) (twT L ++ [(b : Int)]) ((idAll c c.f.length L).set a (L.length : Int)) v va vb (.ms (nx + 1) 0 c.f.length 1) sL s1 s2 H hi → TwI c nx (t1 c a ++ t2 c a b ++ t3 c a b ((homL c (c.F b) (c.F a)).take i) ++ t4 c a b u ((homL c (c.T a) (c.T b)).take (j + 1))) ((v, va, vb), sL, s1, s2) H hi := fun v va vb sL s1 s2 H hi q => goal _ _ _ (by unfold TwI; rw [ids, show twF (L ++ [((a : Int), (b : Int), u, w)]) = twF L ++ [(a : Int)] by simp [twF], show twT (L ++ [((a : Int), (b : Int), u, w)]) = twT L ++ [(b : Int)] by simp [twT]]; exact q)
                  have il := idAll_len c c.f.length L
                  have g3' := S.out.g3.2
                  try simp (disch := (first | rfl | with_reducible assumption | with_reducible solve_by_elim (maxDepth := 8) [Shape.inT, Shape.inI, Shape.inC, Shape.inK, Shape.obF, Shape.obT, Shape.arI, Arr.inF] | omega)) only [S2, Nat.reduceEqDiff, Nat.reduceAdd, iput, puts, p_fadm (l := 5) S.out.obj rfl, p_ldm (n := 5) S.out.obj rfl, p_ldm (n := 1) S.box rfl, S.lst.len, p_iadN g3' il hla]
                  refine den_st1G (o := nx + 1) (p := a) (m := c.f.length) (u := int (L.length : Int)) rfl rfl g3' (by rw [ints_length]; exact il) hla rfl fun H9 z9 e9 => ?_
                  rw [ints_set] at z9
                  have S := S.setI z9 e9
                  try simp (disch := (first | rfl | with_reducible assumption | with_reducible solve_by_elim (maxDepth := 8) [Shape.inT, Shape.inI, Shape.inC, Shape.inK, Shape.obF, Shape.obT, Shape.arI, Arr.inF] | omega)) only [S2, Nat.reduceEqDiff, Nat.reduceAdd, iput, puts, p_ldm (n := 1) S.box rfl, tw_mka, tw_msl]
                  refine den_appT (t := ((a : Int), (b : Int), u, w)) S.lst rfl (by omega) fun v2 H2 nx2 hG e2 hn2 => ?_
                  have b2 : H2 (nx + 3) = some [v] := (e2 _ (by have := S.top.1; omega)).trans S.box
                  refine den_st1G (o := nx + 3) (p := 0) (m := 1) (u := v2) rfl rfl b2 rfl (by omega) hG.one fun H3 b3 e3 => ?_
                  have S := S.app hG e2 hn2 b3 e3
                  try simp (disch := (first | rfl | with_reducible assumption | with_reducible solve_by_elim (maxDepth := 8) [Shape.inT, Shape.inI, Shape.inC, Shape.inK, Shape.obF, Shape.obT, Shape.arI, Arr.inF] | omega)) only [S2, Nat.reduceEqDiff, Nat.reduceAdd, iput, puts, p_fadm (l := 5) S.out.obj rfl, p_ldm (n := 5) S.out.obj rfl]
                  refine den_out1 (m := [(a : Int)]) S.out (Nat.le_refl _) rfl rfl rfl (by omega) rfl rfl (by simp) (by simp only [twF, List.length_cons, List.length_nil, List.length_map]; omega) fun a6 H6 n6 out6 hn6 keep6 => ?_
                  have S := S.out1 out6 hn6 keep6
                  try simp (disch := (first | rfl | with_reducible assumption | with_reducible solve_by_elim (maxDepth := 8) [Shape.inT, Shape.inI, Shape.inC, Shape.inK, Shape.obF, Shape.obT, Shape.arI, Arr.inF] | omega)) only [S2, Nat.reduceEqDiff, Nat.reduceAdd, iput, puts, p_fadm (l := 5) S.out.obj rfl, p_ldm (n := 5) S.out.obj rfl]
                  refine den_out2 (m := [(b : Int)]) S.out (Nat.le_refl _) rfl rfl rfl (by omega) rfl rfl (by simp) (by simp only [twT, List.length_cons, List.length_nil, List.length_map]; omega) fun b7 H7 n7 out7 hn7 keep7 => ?_
                  have S := S.out2 out7 hn7 keep7
                  try simp (disch := (first | rfl | with_reducible assumption | with_reducible solve_by_elim (maxDepth := 8) [Shape.inT, Shape.inI, Shape.inC, Shape.inK, Shape.obF, Shape.obT, Shape.arI, Arr.inF] | omega)) only [S2, Nat.reduceEqDiff, Nat.reduceAdd, iput, puts]
                  exact ⟨(j + 1, (v2, a6, b7), _, _, _), rfl, ⟨hlj, fin _ _ _ _ _ _ _ _ S⟩, by simp only; omega⟩
                · have k4 : ¬ isU c w := by first | exact k4 | simpa using k4
                  rw [if_neg (fun e => k4 e.2.2)] at ids
                  have fin : ∀ v va vb sL s1 s2 H hi, TwS nx c.f.length (L ++ [((a : Int), (b : Int), u, w)]) (twF L ++ [(a : Int)]) (twT L ++ [(b : Int)]) (idAll c c.f.length L) v va vb (.ms (nx + 1) 0 c.f.length 1) sL s1 s2 H hi → TwI c nx (t1 c a ++ t2 c a b ++ t3 c a b ((homL c (c.F b) (c.F a)).take i) ++ t4 c a b u ((homL c (c.T a) (c.T b)).take (j + 1))) ((v, va, vb), sL, s1, s2) H hi := fun v va vb sL s1 s2 H hi q => goal _ _ _ (by unfold TwI; rw [ids, show twF (L ++ [((a : Int), (b : Int), u, w)]) = twF L ++ [(a : Int)] by simp [twF], show twT (L ++ [((a : Int), (b : Int), u, w)]) = twT L ++ [(b : Int)] by simp [twT]]; exact q)
                  try simp (disch := (first | rfl | with_reducible assumption | with_reducible solve_by_elim (maxDepth := 8) [Shape.inT, Shape.inI, Shape.inC, Shape.inK, Shape.obF, Shape.obT, Shape.arI, Arr.inF] | omega)) only [S2, Nat.reduceEqDiff, Nat.reduceAdd, iput, puts, p_ldm (n := 1) S.box rfl, tw_mka, tw_msl]
                  refine den_appT (t := ((a : Int), (b : Int), u, w)) S.lst rfl (by omega) fun v2 H2 nx2 hG e2 hn2 => ?_
                  have b2 : H2 (nx + 3) = some [v] := (e2 _ (by have := S.top.1; omega)).trans S.box
                  refine den_st1G (o := nx + 3) (p := 0) (m := 1) (u := v2) rfl rfl b2 rfl (by omega) hG.one fun H3 b3 e3 => ?_
                  have S := S.app hG e2 hn2 b3 e3
                  try simp (disch := (first | rfl | with_reducible assumption | with_reducible solve_by_elim (maxDepth := 8) [Shape.inT, Shape.inI, Shape.inC, Shape.inK, Shape.obF, Shape.obT, Shape.arI, Arr.inF] | omega)) only [S2, Nat.reduceEqDiff, Nat.reduceAdd, iput, puts, p_fadm (l := 5) S.out.obj rfl, p_ldm (n := 5) S.out.obj rfl]
                  refine den_out1 (m := [(a : Int)]) S.out (Nat.le_refl _) rfl rfl rfl (by omega) rfl rfl (by simp) (by simp only [twF, List.length_cons, List.length_nil, List.length_map]; omega) fun a6 H6 n6 out6 hn6 keep6 => ?_
                  have S := S.out1 out6 hn6 keep6
                  try simp (disch := (first | rfl | with_reducible assumption | with_reducible solve_by_elim (maxDepth := 8) [Shape.inT, Shape.inI, Shape.inC, Shape.inK, Shape.obF, Shape.obT, Shape.arI, Arr.inF] | omega)) only [S2, Nat.reduceEqDiff, Nat.reduceAdd, iput, puts, p_fadm (l := 5) S.out.obj rfl, p_ldm (n := 5) S.out.obj rfl]
                  refine den_out2 (m := [(b : Int)]) S.out (Nat.le_refl _) rfl rfl rfl (by omega) rfl rfl (by simp) (by simp only [twT, List.length_cons, List.length_nil, List.length_map]; omega) fun b7 H7 n7 out7 hn7 keep7 => ?_
                  have S := S.out2 out7 hn7 keep7
                  try simp (disch := (first | rfl | with_reducible assumption | with_reducible solve_by_elim (maxDepth := 8) [Shape.inT, Shape.inI, Shape.inC, Shape.inK, Shape.obF, Shape.obT, Shape.arI, Arr.inF] | omega)) only [S2, Nat.reduceEqDiff, Nat.reduceAdd, iput, puts]
                  exact ⟨(j + 1, (v2, a6, b7), _, _, _), rfl, ⟨hlj, fin _ _ _ _ _ _ _ _ S⟩, by simp only; omega⟩
              · have k3 : ¬ isU c u := by first | exact k3 | simpa using k3
                rw [if_neg (fun e => k3 e.2.1)] at ids
                have fin : ∀ v va vb sL s1 s2 H hi, TwS nx c.f.length (L ++ [((a : Int), (b : Int), u, w)]) (twF L ++ [(a : Int)]) (twT L ++ [(b : Int)]) (idAll c c.f.length L) v va vb (.ms (nx + 1) 0 c.f.length 1) sL s1 s2 H hi → TwI c nx (t1 c a ++ t2 c a b ++ t3 c a b ((homL c (c.F b) (c.F a)).take i) ++ t4 c a b u ((homL c (c.T a) (c.T b)).take (j + 1))) ((v, va, vb), sL, s1, s2) H hi := fun v va vb sL s1 s2 H hi q => goal _ _ _ (by unfold TwI; rw [ids, show twF (L ++ [((a : Int), (b : Int), u, w)]) = twF L ++ [(a : Int)] by simp [twF], show twT (L ++ [((a : Int), (b : Int), u, w)]) = twT L ++ [(b : Int)] by simp [twT]]; exact q)
                try simp (disch := (first | rfl | with_reducible assumption | with_reducible solve_by_elim (maxDepth := 8) [Shape.inT, Shape.inI, Shape.inC, Shape.inK, Shape.obF, Shape.obT, Shape.arI, Arr.inF] | omega)) only [S2, Nat.reduceEqDiff, Nat.reduceAdd, iput, puts, p_ldm (n := 1) S.box rfl, tw_mka, tw_msl]
                refine den_appT (t := ((a : Int), (b : Int), u, w)) S.lst rfl (by omega) fun v2 H2 nx2 hG e2 hn2 => ?_
                have b2 : H2 (nx + 3) = some [v] := (e2 _ (by have := S.top.1; omega)).trans S.box
                refine den_st1G (o := nx + 3) (p := 0) (m := 1) (u := v2) rfl rfl b2 rfl (by omega) hG.one fun H3 b3 e3 => ?_
                have S := S.app hG e2 hn2 b3 e3
                try simp (disch := (first | rfl | with_reducible assumption | with_reducible solve_by_elim (maxDepth := 8) [Shape.inT, Shape.inI, Shape.inC, Shape.inK, Shape.obF, Shape.obT, Shape.arI, Arr.inF] | omega)) only [S2, Nat.reduceEqDiff, Nat.reduceAdd, iput, puts, p_fadm (l := 5) S.out.obj rfl, p_ldm (n := 5) S.out.obj rfl]
                refine den_out1 (m := [(a : Int)]) S.out (Nat.le_refl _) rfl rfl rfl (by omega) rfl rfl (by simp) (by simp only [twF, List.length_cons, List.length_nil, List.length_map]; omega) fun a6 H6 n6 out6 hn6 keep6 => ?_
                have S := S.out1 out6 hn6 keep6
                try simp (disch := (first | rfl | with_reducible assumption | with_reducible solve_by_elim (maxDepth := 8) [Shape.inT, Shape.inI, Shape.inC, Shape.inK, Shape.obF, Shape.obT, Shape.arI, Arr.inF] | omega)) only [S2, Nat.reduceEqDiff, Nat.reduceAdd, iput, puts, p_fadm (l := 5) S.out.obj rfl, p_ldm (n := 5) S.out.obj rfl]
                refine den_out2 (m := [(b : Int)]) S.out (Nat.le_refl _) rfl rfl rfl (by omega) rfl rfl (by simp) (by simp only [twT, List.length_cons, List.length_nil, List.length_map]; omega) fun b7 H7 n7 out7 hn7 keep7 => ?_
                have S := S.out2 out7 hn7 keep7
                try simp (disch := (first | rfl | with_reducible assumption | with_reducible solve_by_elim (maxDepth := 8) [Shape.inT, Shape.inI, Shape.inC, Shape.inK, Shape.obF, Shape.obT, Shape.arI, Arr.inF] | omega)) only [S2, Nat.reduceEqDiff, Nat.reduceAdd, iput, puts]
                exact ⟨(j + 1, (v2, a6, b7), _, _, _), rfl, ⟨hlj, fin _ _ _ _ _ _ _ _ S⟩, by simp only; omega⟩
            · have k2 : ¬ (a : Int) = b := by first | exact k2 | simpa using k2
              rw [if_neg (fun e => k2 e.1)] at ids
              have fin : ∀ v va vb sL s1 s2 H hi, TwS nx c.f.length (L ++ [((a : Int), (b : Int), u, w)]) (twF L ++ [(a : Int)]) (twT L ++ [(b : Int)]) (idAll c c.f.length L) v va vb (.ms (nx + 1) 0 c.f.length 1) sL s1 s2 H hi → TwI c nx (t1 c a ++ t2 c a b ++ t3 c a b ((homL c (c.F b) (c.F a)).take i) ++ t4 c a b u ((homL c (c.T a) (c.T b)).take (j + 1))) ((v, va, vb), sL, s1, s2) H hi := fun v va vb sL s1 s2 H hi q => goal _ _ _ (by unfold TwI; rw [ids, show twF (L ++ [((a : Int), (b : Int), u, w)]) = twF L ++ [(a : Int)] by simp [twF], show twT (L ++ [((a : Int), (b : Int), u, w)]) = twT L ++ [(b : Int)] by simp [twT]]; exact q)
              try simp (disch := (first | rfl | with_reducible assumption | with_reducible solve_by_elim (maxDepth := 8) [Shape.inT, Shape.inI, Shape.inC, Shape.inK, Shape.obF, Shape.obT, Shape.arI, Arr.inF] | omega)) only [S2, Nat.reduceEqDiff, Nat.reduceAdd, iput, puts, p_ldm (n := 1) S.box rfl, tw_mka, tw_msl]
              refine den_appT (t := ((a : Int), (b : Int), u, w)) S.lst rfl (by omega) fun v2 H2 nx2 hG e2 hn2 => ?_
              have b2 : H2 (nx + 3) = some [v] := (e2 _ (by have := S.top.1; omega)).trans S.box
              refine den_st1G (o := nx + 3) (p := 0) (m := 1) (u := v2) rfl rfl b2 rfl (by omega) hG.one fun H3 b3 e3 => ?_
              have S := S.app hG e2 hn2 b3 e3
              try simp (disch := (first | rfl | with_reducible assumption | with_reducible solve_by_elim (maxDepth := 8) [Shape.inT, Shape.inI, Shape.inC, Shape.inK, Shape.obF, Shape.obT, Shape.arI, Arr.inF] | omega)) only [S2, Nat.reduceEqDiff, Nat.reduceAdd, iput, puts, p_fadm (l := 5) S.out.obj rfl, p_ldm (n := 5) S.out.obj rfl]
              refine den_out1 (m := [(a : Int)]) S.out (Nat.le_refl _) rfl rfl rfl (by omega) rfl rfl (by simp) (by simp only [twF, List.length_cons, List.length_nil, List.length_map]; omega) fun a6 H6 n6 out6 hn6 keep6 => ?_
              have S := S.out1 out6 hn6 keep6
              try simp (disch := (first | rfl | with_reducible assumption | with_reducible solve_by_elim (maxDepth := 8) [Shape.inT, Shape.inI, Shape.inC, Shape.inK, Shape.obF, Shape.obT, Shape.arI, Arr.inF] | omega)) only [S2, Nat.reduceEqDiff, Nat.reduceAdd, iput, puts, p_fadm (l := 5) S.out.obj rfl, p_ldm (n := 5) S.out.obj rfl]
              refine den_out2 (m := [(b : Int)]) S.out (Nat.le_refl _) rfl rfl rfl (by omega) rfl rfl (by simp) (by simp only [twT, List.length_cons, List.length_nil, List.length_map]; omega) fun b7 H7 n7 out7 hn7 keep7 => ?_
              have S := S.out2 out7 hn7 keep7
              try simp (disch := (first | rfl | with_reducible assumption | with_reducible solve_by_elim (maxDepth := 8) [Shape.inT, Shape.inI, Shape.inC, Shape.inK, Shape.obF, Shape.obT, Shape.arI, Arr.inF] | omega)) only [S2, Nat.reduceEqDiff, Nat.reduceAdd, iput, puts]
              exact ⟨(j + 1, (v2, a6, b7), _, _, _), rfl, ⟨hlj, fin _ _ _ _ _ _ _ _ S⟩, by simp only; omega⟩
        · have hje : j = (homL c (c.T a) (c.T b)).length := by omega
          subst hje
          rw [List.take_length] at S
          try simp (disch := (first | rfl | with_reducible assumption | with_reducible solve_by_elim (maxDepth := 8) [Shape.inT, Shape.inI, Shape.inC, Shape.inK, Shape.obF, Shape.obT, Shape.arI, Arr.inF] | omega)) only [S2, Nat.reduceEqDiff, Nat.reduceAdd, iput, puts, hlj]
          refine ⟨(i + 1, (v, va, vb), sL, s1, s2), rfl, ⟨hli, ?_⟩, by simp only; omega⟩
          simp only
          rw [tk, t3_snoc, ← List.append_assoc]
          exact S
      · have hie : i = (homL c (c.F b) (c.F a)).length := by omega
        subst hie
        rw [List.take_length] at S
        try simp (disch := (first | rfl | with_reducible assumption | with_reducible solve_by_elim (maxDepth := 8) [Shape.inT, Shape.inI, Shape.inC, Shape.inK, Shape.obF, Shape.obT, Shape.arI, Arr.inF] | omega)) only [S2, Nat.reduceEqDiff, Nat.reduceAdd, iput, puts, hli]
        refine ⟨(b + 1, (v, va, vb), sL, s1, s2), rfl, ⟨hlb, ?_⟩, by simp only; omega⟩
        simp only
        rw [t2_succ, ← List.append_assoc]
        exact S
    · have hbe : b = c.f.length := by omega
      subst hbe
      try simp (disch := (first | rfl | with_reducible assumption | with_reducible solve_by_elim (maxDepth := 8) [Shape.inT, Shape.inI, Shape.inC, Shape.inK, Shape.obF, Shape.obT, Shape.arI, Arr.inF] | omega)) only [S2, Nat.reduceEqDiff, Nat.reduceAdd, iput, puts, hlb]
      refine ⟨(a + 1, (v, va, vb), sL, s1, s2), rfl, ⟨hla, ?_⟩, by simp only; omega⟩
      simp only
      rw [t1_succ]
      exact S
  · have hae : a = c.f.length := by omega
    subst hae
    have S : TwS nx c.f.length (twL c) (twF (twL c)) (twT (twL c)) (idAll c c.f.length (twL c)) v va vb (.ms (nx + 1) 0 c.f.length 1) sL s1 s2 H1 n1 := S
    have hb4 := S.hb
    try simp (disch := (first | rfl | with_reducible assumption | with_reducible solve_by_elim (maxDepth := 8) [Shape.inT, Shape.inI, Shape.inC, Shape.inK, Shape.obF, Shape.obT, Shape.arI, Arr.inF] | omega)) only [S2, Nat.reduceEqDiff, Nat.reduceAdd, iput, puts, hla, p_ldm (n := 1) S.box rfl, S.lst.len]
    refine ⟨fun g1 => ?_, fun g1 => ?_⟩
    · try simp (disch := (first | rfl | with_reducible assumption | with_reducible solve_by_elim (maxDepth := 8) [Shape.inT, Shape.inI, Shape.inC, Shape.inK, Shape.obF, Shape.obT, Shape.arI, Arr.inF] | omega)) only [S2, Nat.reduceEqDiff, Nat.reduceAdd, iput, puts, mkZ]
      refine den_stR (o := nx) (m := 5) (d := [int 0, .nil, .nil, .nil, .nil]) rfl rfl S.res rfl rfl rfl fun H2 y2 e2 => ?_
      obtain ⟨H', q1, q2⟩ := bad 3 H2 n1 (by unfold twC0; rw [if_pos hc, if_neg fun f => by have := f.2; simp only [twX, twF, List.length_map] at this; omega]) (by decide) (by omega)
      refine ⟨.tup [.agg [int 0, .nil, .nil, .nil, .nil], int 3], ?_, H', q1, q2⟩
      simp only [retOf, rets, SS, Nat.reduceEqDiff, Nat.reduceAdd, iput, puts, pLd, y2]
      rfl
    · have l40 : (twL c).length ≤ 40 := by omega
      have fit : FitX (twX c) := ⟨by simp only [twX]; omega, by simp only [twX, twF, List.length_map]; exact l40⟩
      have e00 : twC0 c = 0 := by unfold twC0; rw [if_pos hc, if_pos fit]
      have mf : ∀ H : Hp, pvf H (.mkf 354) [.mp (nx + 3) 0 1, .ptr c.cells 0] = some (.fn 354 [.mp (nx + 3) 0 1, .ptr c.cells 0]) := fun _ => rfl
      have fl : (twF (twL c)).length = (twL c).length := by simp [twF]
      have tl2 : (twT (twL c)).length = (twL c).length := by simp [twT]
      try simp (disch := (first | rfl | with_reducible assumption | with_reducible solve_by_elim (maxDepth := 8) [Shape.inT, Shape.inI, Shape.inC, Shape.inK, Shape.obF, Shape.obT, Shape.arI, Arr.inF] | omega)) only [S2, Nat.reduceEqDiff, Nat.reduceAdd, iput, puts, mf]
      refine den_callm (fc := (353, [])) rfl (table_ok K.arrows hta (twC c (twL c)) c.f.length va vb (.ms (nx + 1) 0 c.f.length 1) (twF (twL c)) (twT (twL c)) (idAll c c.f.length (twL c)) 354 [.mp (nx + 3) 0 1, .ptr c.cells 0] (nx + 2) H1 n1 S.out.obj S.out.qh (S.out.g1.rd fun o ho => (S.out.r1 o ho).2) (S.out.g2.rd fun o ho => (S.out.r2 o ho).2) (S.out.g3.rd fun o ho => (S.out.r3 o ho).2) (by rw [fl, tl2]) (by rw [fl]; omega) fun a b H' ha hb he mid => ⟨[.ptr [.sl (twCells (twL c)) (twL c).length] 0, .ptr c.cells 0], ?_, ?_⟩) (IsTbl.some' S.out.qh) fun u H3 n3 hu => ?_
      · have m3 := (mid.1 (nx + 3) (by omega) (by omega)).trans S.box
        have ls := (S.lst.kept (H' := H') fun o ho => mid.1 o (S.rL o ho).2.1 (by have := (S.rL o ho).1; omega)).frz 4
        simp only [Av.frzL, List.mapM_cons, List.mapM_nil, fuel, Av.frz, m3, ls]
        rfl
      · rw [fl] at ha hb
        exact twist1_fz K.thn hsi hix hq1 c s (twL c) (fun t ht => t1_mem (Nat.le_refl _) ht) (by omega) a b ha hb
      · obtain ⟨rfl, rfl, hT⟩ := hu
        have out3 := S.out.table hT
        have y3 := (hT.low nx (by omega) (by omega)).trans S.res
        try simp (disch := (first | rfl | with_reducible assumption | with_reducible solve_by_elim (maxDepth := 8) [Shape.inT, Shape.inI, Shape.inC, Shape.inK, Shape.obF, Shape.obT, Shape.arI, Arr.inF] | omega)) only [S2, Nat.reduceEqDiff, Nat.reduceAdd, iput, puts, p_ldsm (l := 5) out3.obj rfl]
        refine den_stR (o := nx) (m := 5) (d := [int (c.f.length : Int), va, vb, .ms (nx + 1) 0 c.f.length 1, .ms n1 0 (tbl (twC c (twL c)) (twF (twL c)) (twT (twL c))).length 1]) rfl rfl y3 rfl rfl out3.ones fun H4 y4 e4 => ?_
        have out4 := out3.mono (H' := H4) (Nat.le_refl _) fun t h1 _ => e4 t (by omega)
        obtain ⟨H5, q4, q5⟩ := out4.own.back (w := int 0) (nx := nx) (by omega) (by omega)
        refine ⟨.tup [.agg [int (c.f.length : Int), va, vb, .ms (nx + 1) 0 c.f.length 1, .ms n1 0 (tbl (twC c (twL c)) (twF (twL c)) (twT (twL c))).length 1], int 0], ?_, H5, q4, ?_⟩
        · simp only [retOf, rets, SS, Nat.reduceEqDiff, Nat.reduceAdd, iput, puts, pLd, y4]
          rfl
        · have ex : twX c = ⟨c.f.length, twF (twL c), twT (twL c), idAll c c.f.length (twL c), tbl (twC c (twL c)) (twF (twL c)) (twT (twL c))⟩ := by unfold twX; rw [if_pos l40]
          rw [twR, if_pos e00, e00, ex]
          exact q5
end Go.Av
