/-
  The statement on IsFull.
-/
import Derived.Test.YtbgaobcgpkjjkaaAvD3
namespace Go.Av
open Classical
set_option linter.unusedSimpArgs false
set_option linter.unusedVariables false
variable {P : Program} {ν : Nat → FuncId}

def V_laws_FnExactIsFull : Vc :=
  .op true (.p .box [.t 0]) <|
  .op true (.p (.ld (some 12)) [.t 1]) <|
  .op true (.call (.f 116) [.t 2, .c (int 1048576)]) <|
  .op true (.p (.bin .lss) [.t 3, .c (int 0)]) <|
  .br 4
   (.ret [(.c (bool true), none)])
   (.op true (.p (.ld (some 12)) [.t 1]) <|
   .op true (.call (.f 118) [.t 5]) <|
   .op true (.call (.f 196) [.t 6]) <|
   .op true (.p (.ext 0) [.t 7]) <|
   .op true (.p (.ext 1) [.t 7]) <|
   .op true (.p (.ld (some 12)) [.t 1]) <|
   .op true (.call (.f 118) [.t 10]) <|
   .op true (.new [int 0, .nil, .nil, .nil, .nil, int 0, .nil, .nil, .nil, .nil, .nil, .nil]) <|
   .op true (.st 12 (.t 12) (.t 11)) <|
   .op true (.p (.ld (some 12)) [.t 12]) <|
   .op true (.call (.f 197) [.t 14]) <|
   .op true (.p (.ext 0) [.t 15]) <|
   .op true (.p (.ext 1) [.t 15]) <|
   .op true (.p (.eqb true) [.t 16, .t 8]) <|
   .br 18
    (.ret [(.c (bool false), none)])
    (.op true (.p (.bin .neq) [.t 17, .t 9]) <|
    .br 19
     (.ret [(.c (bool false), none)])
     (.op true (.p (.ld (some 12)) [.t 12]) <|
     .op true (.p (.ld (some 12)) [.t 1]) <|
     .op true (.call (.f 118) [.t 21]) <|
     .op true (.call (.f 120) [.t 20, .t 22]) <|
     .op true (.p .bnot [.t 23]) <|
     .br 24
      (.ret [(.c (bool false), none)])
      (.ret [(.c (bool true), none)]))))
set_option maxHeartbeats 1000000 in
theorem law_IsFull (L : HLaw P ν) (LU : HLawU P ν) (h : Has P ν 81 1 V_laws_FnExactIsFull) (f : Fu) (rd : ReadU f)  (hb : SmallU f → ∃ (a : Bool) (k : Int), Fz (OkM P ν) 197 [.agg f.cells] (.tup [bool a, int k]) ∧ Fz (OkM P ν) 196 [.agg f.cells] (.tup [bool a, int k])) :
    OkM P ν 81 [.agg f.cells] hempty 0 (fun r _ _ => r = bool true) := by
  refine h _ _ _ _ rfl fun hwf => ?_
  unfold V_laws_FnExactIsFull
  repeat (first | simp (disch := (first | rfl | with_reducible assumption | with_reducible solve_by_elim (maxDepth := 8) [Shape.inT, Shape.inI, Shape.inC, Shape.inK, Shape.obF, Shape.obT, Shape.arI, Arr.inF] | omega)) only [S2, Nat.reduceEqDiff, Nat.reduceAdd, iput, puts, SU f] | (refine den_call rfl (by first | (simp only [SS, Nat.reduceEqDiff, Nat.reduceAdd, iput, puts, FF, frzL_cat, frzL_fu]; done) | (simp only [SS, Nat.reduceEqDiff, Nat.reduceAdd, iput, puts, FF, frzL_cat, frzL_fu]; rfl)) (by first | exact szU_fz L LU.sz f rd) ?_))
  refine ⟨fun h1 => ⟨_, rfl, hempty, fun _ _ h => h, rfl⟩, fun h1 => ?_⟩
  have b := szU_small (f := f) (by omega)
  obtain ⟨a, k, hi, hs⟩ := hb b
  repeat (first | simp (disch := (first | rfl | with_reducible assumption | with_reducible solve_by_elim (maxDepth := 8) [Shape.inT, Shape.inI, Shape.inC, Shape.inK, Shape.obF, Shape.obT, Shape.arI, Arr.inF] | omega)) only [S2, Nat.reduceEqDiff, Nat.reduceAdd, iput, puts, SU f] | (refine den_call rfl (by first | (simp only [SS, Nat.reduceEqDiff, Nat.reduceAdd, iput, puts, FF, frzL_cat, frzL_fu]; done) | (simp only [SS, Nat.reduceEqDiff, Nat.reduceAdd, iput, puts, FF, frzL_cat, frzL_fu]; rfl)) (by first | exact toU_fz L LU.to f b | exact hs) ?_))
  refine den_newG fun H2 x0 e0 => ?_
  refine den_stG (o := 0) (p := 0) (k := 12) (m := 12) (c' := f.cells) (by rfl) (by rfl) x0 (by rfl) (by rfl) (show 0 + 12 ≤ 12 by omega) (by rfl) (by rfl) fun H3 x2 e2 => ?_
  repeat (first | simp (disch := (first | rfl | with_reducible assumption | with_reducible solve_by_elim (maxDepth := 8) [Shape.inT, Shape.inI, Shape.inC, Shape.inK, Shape.obF, Shape.obT, Shape.arI, Arr.inF] | omega)) only [S2, Nat.reduceEqDiff, Nat.reduceAdd, iput, puts, SU f, p_ldsm (l := 12) x2 rfl, neSelf, p_eqbS] | (refine den_call rfl (by first | (simp only [SS, Nat.reduceEqDiff, Nat.reduceAdd, iput, puts, FF, frzL_cat, frzL_fu]; done) | (simp only [SS, Nat.reduceEqDiff, Nat.reduceAdd, iput, puts, FF, frzL_cat, frzL_fu]; rfl)) (by first | exact toU_fz L LU.to f b | exact hi | exact eqU_same L LU.eq f b) ?_))
  exact ⟨_, rfl, hempty, (fun _ _ h => by cases h), rfl⟩
end Go.Av
