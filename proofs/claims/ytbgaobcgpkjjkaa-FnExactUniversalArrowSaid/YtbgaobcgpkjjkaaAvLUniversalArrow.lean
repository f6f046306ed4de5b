/-
  The statement on UniversalArrow.
-/
import Derived.Test.YtbgaobcgpkjjkaaAvD3
namespace Go.Av
open Classical
set_option linter.unusedSimpArgs false
set_option linter.unusedVariables false
variable {P : Program} {ν : Nat → FuncId}

def V_laws_FnExactUniversalArrow : Vc :=
  .op true (.p .box [.t 0]) <|
  .op true (.p (.ld (some 12)) [.t 2]) <|
  .op true (.call (.f 116) [.t 3, .c (int 1048576)]) <|
  .op true (.p (.bin .lss) [.t 4, .c (int 0)]) <|
  .br 5
   (.ret [(.c (bool true), none)])
   (.op true (.p (.ld (some 12)) [.t 2]) <|
   .op true (.call (.f 118) [.t 6]) <|
   .op true (.call (.f 213) [.t 7, .t 1]) <|
   .op true (.p (.ext 0) [.t 8]) <|
   .op true (.p (.ext 1) [.t 8]) <|
   .op true (.p (.ext 2) [.t 8]) <|
   .op true (.p (.ld (some 12)) [.t 2]) <|
   .op true (.call (.f 118) [.t 12]) <|
   .op true (.new [int 0, .nil, .nil, .nil, .nil, int 0, .nil, .nil, .nil, .nil, .nil, .nil]) <|
   .op true (.st 12 (.t 14) (.t 13)) <|
   .op true (.p (.ld (some 12)) [.t 14]) <|
   .op true (.call (.f 214) [.t 16, .t 1]) <|
   .op true (.p (.ext 0) [.t 17]) <|
   .op true (.p (.ext 1) [.t 17]) <|
   .op true (.p (.ext 2) [.t 17]) <|
   .op true (.p (.bin .neq) [.t 18, .t 9]) <|
   .br 21
    (.ret [(.c (bool false), none)])
    (.op true (.p (.bin .neq) [.t 19, .t 10]) <|
    .br 22
     (.ret [(.c (bool false), none)])
     (.op true (.p (.bin .neq) [.t 20, .t 11]) <|
     .br 23
      (.ret [(.c (bool false), none)])
      (.op true (.p (.ld (some 12)) [.t 14]) <|
      .op true (.p (.ld (some 12)) [.t 2]) <|
      .op true (.call (.f 118) [.t 25]) <|
      .op true (.call (.f 120) [.t 24, .t 26]) <|
      .op true (.p .bnot [.t 27]) <|
      .br 28
       (.ret [(.c (bool false), none)])
       (.ret [(.c (bool true), none)])))))
set_option maxHeartbeats 1000000 in
theorem law_UniversalArrow (L : HLaw P ν) (LU : HLawU P ν) (h : Has P ν 89 2 V_laws_FnExactUniversalArrow) (f : Fu) (rd : ReadU f) (y : Int) (hb : SmallU f → ∃ x e k : Int, Fz (OkM P ν) 214 [.agg f.cells, int y] (.tup [int x, int e, int k]) ∧ Fz (OkM P ν) 213 [.agg f.cells, int y] (.tup [int x, int e, int k])) :
    OkM P ν 89 [.agg f.cells, int y] hempty 0 (fun r _ _ => r = bool true) := by
  refine h _ _ _ _ rfl fun hwf => ?_
  unfold V_laws_FnExactUniversalArrow
  repeat (first | simp (disch := (first | rfl | with_reducible assumption | with_reducible solve_by_elim (maxDepth := 8) [Shape.inT, Shape.inI, Shape.inC, Shape.inK, Shape.obF, Shape.obT, Shape.arI, Arr.inF] | omega)) only [S2, Nat.reduceEqDiff, Nat.reduceAdd, iput, puts, SU f] | (refine den_call rfl (by first | (simp only [SS, Nat.reduceEqDiff, Nat.reduceAdd, iput, puts, FF, frzL_cat, frzL_fu]; done) | (simp only [SS, Nat.reduceEqDiff, Nat.reduceAdd, iput, puts, FF, frzL_cat, frzL_fu]; rfl)) (by first | exact szU_fz L LU.sz f rd) ?_))
  refine ⟨fun h1 => ⟨_, rfl, hempty, fun _ _ h => h, rfl⟩, fun h1 => ?_⟩
  have b := szU_small (f := f) (by omega)
  obtain ⟨x, e, k, hi, hs⟩ := hb b
  repeat (first | simp (disch := (first | rfl | with_reducible assumption | with_reducible solve_by_elim (maxDepth := 8) [Shape.inT, Shape.inI, Shape.inC, Shape.inK, Shape.obF, Shape.obT, Shape.arI, Arr.inF] | omega)) only [S2, Nat.reduceEqDiff, Nat.reduceAdd, iput, puts, SU f] | (refine den_call rfl (by first | (simp only [SS, Nat.reduceEqDiff, Nat.reduceAdd, iput, puts, FF, frzL_cat, frzL_fu]; done) | (simp only [SS, Nat.reduceEqDiff, Nat.reduceAdd, iput, puts, FF, frzL_cat, frzL_fu]; rfl)) (by first | exact toU_fz L LU.to f b | exact hs) ?_))
  refine den_newG fun H2 x0 e0 => ?_
  refine den_stG (o := 0) (p := 0) (k := 12) (m := 12) (c' := f.cells) (by rfl) (by rfl) x0 (by rfl) (by rfl) (show 0 + 12 ≤ 12 by omega) (by rfl) (by rfl) fun H3 x2 e2 => ?_
  repeat (first | simp (disch := (first | rfl | with_reducible assumption | with_reducible solve_by_elim (maxDepth := 8) [Shape.inT, Shape.inI, Shape.inC, Shape.inK, Shape.obF, Shape.obT, Shape.arI, Arr.inF] | omega)) only [S2, Nat.reduceEqDiff, Nat.reduceAdd, iput, puts, SU f, p_ldsm (l := 12) x2 rfl, neSelf, p_eqbS] | (refine den_call rfl (by first | (simp only [SS, Nat.reduceEqDiff, Nat.reduceAdd, iput, puts, FF, frzL_cat, frzL_fu]; done) | (simp only [SS, Nat.reduceEqDiff, Nat.reduceAdd, iput, puts, FF, frzL_cat, frzL_fu]; rfl)) (by first | exact toU_fz L LU.to f b | exact hi | exact eqU_same L LU.eq f b) ?_))
  exact ⟨_, rfl, hempty, (fun _ _ h => by cases h), rfl⟩
end Go.Av
