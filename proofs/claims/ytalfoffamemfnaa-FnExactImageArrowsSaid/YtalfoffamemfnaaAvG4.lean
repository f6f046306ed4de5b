/-
  The arrows that a functor's images generate: both sides.
-/
import Derived.Test.YtalfoffamemfnaaAvG3
import Derived.Test.YtalfoffamemfnaaAvD4
namespace Go.Av
open Classical
set_option linter.unusedSimpArgs false
set_option linter.unusedVariables false
variable {P : Program} {ν : Nat → FuncId}

def V_ImageArrows : Vc :=
  .op true (.p .box [.t 0]) <|
  .op true (.call (.f 257) [.t 1]) <|
  .op true (.p .bnot [.t 2]) <|
  .br 3
   (.ret [(.c (.nil), none), (.c (int 1), none)])
   (.op true (.p (.fad 5) [.t 1]) <|
   .op true (.p (.fad 11) [.t 1]) <|
   .op true (.p (.ld none) [.t 5]) <|
   .op true (.callm (.f 277) [.t 4, .t 6]) <|
   .ret [(.t 7, none), (.c (int 0), none)])
def V_spec_ImageArrows : Vc :=
  .op true (.p .box [.t 0]) <|
  .op true (.p (.ld (some 12)) [.t 1]) <|
  .op true (.call (.f 256) [.t 2]) <|
  .op true (.p .bnot [.t 3]) <|
  .br 4
   (.ret [(.c (.nil), none), (.c (int 1), none)])
   (.op true (.p (.fad 5) [.t 1]) <|
   .op true (.p (.ld (some 5)) [.t 5]) <|
   .op true (.p (.fad 11) [.t 1]) <|
   .op true (.p (.ld none) [.t 7]) <|
   .op true (.call (.f 247) [.t 6, .t 8]) <|
   .ret [(.t 9, none), (.c (int 0), none)])
set_option maxHeartbeats 1000000 in
theorem ImageArrows_both (K : HFun P ν) (hm : Has P ν 390 1 V_marked) (hq : Has P ν 389 3 V_Category_generated_1) (hg : Has P ν 277 2 V_Category_generated) (h : Has P ν 223 1 V_ImageArrows) (KS : HSpecU P ν) (hc : Has P ν 247 2 V_spec_l02Close) (hs : Has P ν 222 1 V_spec_ImageArrows) (f : Fu) (b : SmallU f) :
    BothL P ν 223 222 [.agg f.cells] := by
  by_cases u : IsFu f
  · have s := u.t.1
    have n40 := s.n40
    have gl : (genL f.t f.ar).length ≤ f.t.f.length := selL_len _ _
    refine ⟨genL f.t f.ar, 0, by omega, fun nx => h _ _ _ _ rfl fun hwf => ?_, hs _ _ _ _ rfl fun hwf => ?_⟩
    · unfold V_ImageArrows
      repeat (first | simp (disch := (first | rfl | with_reducible assumption | with_reducible solve_by_elim (maxDepth := 8) [Shape.inT, Shape.inI, Shape.inC, Shape.inK, Shape.obF, Shape.obT, Shape.arI, Arr.inF] | omega)) only [S2, Nat.reduceEqDiff, Nat.reduceAdd, iput, puts, SU f, u] | (refine den_call rfl (by first | (simp only [SS, Nat.reduceEqDiff, Nat.reduceAdd, iput, puts, FF, frzL_cat]; done) | (simp only [SS, Nat.reduceEqDiff, Nat.reduceAdd, iput, puts, FF, frzL_cat]; rfl)) (by first | exact isFunctor_fz K f b) ?_) | (refine den_calli rfl (by first | (simp only [SS, Nat.reduceEqDiff, Nat.reduceAdd, iput, puts, FF, frzL_cat]; done) | (simp only [SS, Nat.reduceEqDiff, Nat.reduceAdd, iput, puts, FF, frzL_cat]; rfl)) (by first | exact isFunctor_fz K f b) ?_))
      refine den_callm (fc := (277, [])) rfl (OkM.win (n := 5) (generated_ok K.arrows K.thn hm hq hg f.t s f.ar b.ar u.m.aw _ _)) (IsI.some _ _ _) fun u H' nx' hu => ?_
      exact ⟨_, rfl, H', fun _ _ h => h, u, rfl, hu⟩
    · unfold V_spec_ImageArrows
      have e := l02Close_fz (P := P) (ν := ν) hc f.t s f.ar b.ar u.m.aw
      repeat (first | simp (disch := (first | rfl | with_reducible assumption | with_reducible solve_by_elim (maxDepth := 8) [Shape.inT, Shape.inI, Shape.inC, Shape.inK, Shape.obF, Shape.obT, Shape.arI, Arr.inF] | omega)) only [S2, Nat.reduceEqDiff, Nat.reduceAdd, iput, puts, SU f, u] | (refine den_call rfl (by first | (simp only [SS, Nat.reduceEqDiff, Nat.reduceAdd, iput, puts, FF, frzL_cat]; done) | (simp only [SS, Nat.reduceEqDiff, Nat.reduceAdd, iput, puts, FF, frzL_cat]; rfl)) (by first | exact l06Is_fz KS f b | exact e) ?_) | (refine den_calli rfl (by first | (simp only [SS, Nat.reduceEqDiff, Nat.reduceAdd, iput, puts, FF, frzL_cat]; done) | (simp only [SS, Nat.reduceEqDiff, Nat.reduceAdd, iput, puts, FF, frzL_cat]; rfl)) (by first | exact l06Is_fz KS f b | exact e) ?_))
      exact ⟨_, rfl, hempty, fun _ _ h => h, rfl⟩
  · refine ⟨[], 1, by simp, fun nx => h _ _ _ _ rfl fun hwf => ?_, hs _ _ _ _ rfl fun hwf => ?_⟩
    · unfold V_ImageArrows
      repeat (first | simp (disch := (first | rfl | with_reducible assumption | with_reducible solve_by_elim (maxDepth := 8) [Shape.inT, Shape.inI, Shape.inC, Shape.inK, Shape.obF, Shape.obT, Shape.arI, Arr.inF] | omega)) only [S2, Nat.reduceEqDiff, Nat.reduceAdd, iput, puts, SU f, u] | (refine den_call rfl (by first | (simp only [SS, Nat.reduceEqDiff, Nat.reduceAdd, iput, puts, FF, frzL_cat]; done) | (simp only [SS, Nat.reduceEqDiff, Nat.reduceAdd, iput, puts, FF, frzL_cat]; rfl)) (by first | exact isFunctor_fz K f b) ?_) | (refine den_calli rfl (by first | (simp only [SS, Nat.reduceEqDiff, Nat.reduceAdd, iput, puts, FF, frzL_cat]; done) | (simp only [SS, Nat.reduceEqDiff, Nat.reduceAdd, iput, puts, FF, frzL_cat]; rfl)) (by first | exact isFunctor_fz K f b) ?_))
      exact ⟨_, rfl, hempty, fun _ _ h => h, .nil, rfl, IsI.nil _ _⟩
    · unfold V_spec_ImageArrows
      repeat (first | simp (disch := (first | rfl | with_reducible assumption | with_reducible solve_by_elim (maxDepth := 8) [Shape.inT, Shape.inI, Shape.inC, Shape.inK, Shape.obF, Shape.obT, Shape.arI, Arr.inF] | omega)) only [S2, Nat.reduceEqDiff, Nat.reduceAdd, iput, puts, SU f, u] | (refine den_call rfl (by first | (simp only [SS, Nat.reduceEqDiff, Nat.reduceAdd, iput, puts, FF, frzL_cat]; done) | (simp only [SS, Nat.reduceEqDiff, Nat.reduceAdd, iput, puts, FF, frzL_cat]; rfl)) (by first | exact l06Is_fz KS f b) ?_) | (refine den_calli rfl (by first | (simp only [SS, Nat.reduceEqDiff, Nat.reduceAdd, iput, puts, FF, frzL_cat]; done) | (simp only [SS, Nat.reduceEqDiff, Nat.reduceAdd, iput, puts, FF, frzL_cat]; rfl)) (by first | exact l06Is_fz KS f b) ?_))
      exact ⟨_, rfl, hempty, fun _ _ h => h, rfl⟩
end Go.Av
