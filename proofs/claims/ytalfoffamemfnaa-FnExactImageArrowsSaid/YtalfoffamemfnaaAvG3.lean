/-
  The arrows that some arrows generate: both sides.
-/
import Derived.Test.YtalfoffamemfnaaAvG2
import Derived.Test.YtalfoffamemfnaaAvR2
import Derived.Test.YtalfoffamemfnaaAvB10
namespace Go.Av
open Classical
set_option linter.unusedSimpArgs false
set_option linter.unusedVariables false
variable {P : Program} {ν : Nat → FuncId}

noncomputable def genL (c : Cat) (as : List Int) : List Int := selL c.f.length fun f => decide (Cl c as f)
theorem l02Close_fz (h : Has P ν 247 2 V_spec_l02Close) (c : Cat) (s : Shape c) (as : List Int) (hl : as.length ≤ 1048576) (hw : Wn as c.f.length) : Fz (OkM P ν) 247 [.agg c.cells, islice as] (islice (genL c as)) :=
  OkM.fz (fun H nx => l02Close_ok h c s as hl hw H nx) fun _ _ _ hh => hh.frz _

def V_GeneratedArrows : Vc :=
  .op true (.p .box [.t 0]) <|
  .op true (.call (.f 18) [.t 2, .t 1]) <|
  .op true (.p (.bin .neq) [.t 3, .c (int 0)]) <|
  .br 4
   (.ret [(.c (.nil), none), (.t 3, none)])
   (.op true (.callm (.f 277) [.t 2, .t 1]) <|
   .ret [(.t 5, none), (.c (int 0), none)])
def V_spec_GeneratedArrows : Vc :=
  .op true (.p .box [.t 0]) <|
  .op true (.p (.ld (some 5)) [.t 2]) <|
  .op true (.call (.f 245) [.t 3, .t 1]) <|
  .op true (.p (.bin .neq) [.t 4, .c (int 0)]) <|
  .br 5
   (.ret [(.c (.nil), none), (.t 4, none)])
   (.op true (.p (.ld (some 5)) [.t 2]) <|
   .op true (.call (.f 247) [.t 6, .t 1]) <|
   .ret [(.t 7, none), (.c (int 0), none)])
set_option maxHeartbeats 1000000 in
theorem GeneratedArrows_both (K : HCat P ν) (hac : Has P ν 18 2 V_arrowCode) (hth : Has P ν 34 3 V_Category_then) (hm : Has P ν 390 1 V_marked) (hq : Has P ν 389 3 V_Category_generated_1) (hg : Has P ν 277 2 V_Category_generated) (h : Has P ν 139 2 V_GeneratedArrows) (KS : HSpec P ν) (ha : Has P ν 245 2 V_spec_l02Arrows) (hc : Has P ν 247 2 V_spec_l02Close) (hs : Has P ν 138 2 V_spec_GeneratedArrows) (c : Cat) (b : Small c) (as : List Int) (hl : as.length ≤ 1048576) :
    BothL P ν 139 138 [.agg c.cells, islice as] := by
  have cO := arrowCode_fz (P := P) (ν := ν) K hac c b as hl Iff.rfl
  have cS := l02Arrows_fz (P := P) (ν := ν) KS ha c b as hl Iff.rfl
  by_cases h0 : code (IsCat c) (Wn as c.f.length) = 0
  · obtain ⟨k, hw⟩ := code_zero.1 h0
    have s := k.1
    have n40 := s.n40
    have gl : (genL c as).length ≤ c.f.length := selL_len _ _
    rw [h0] at cO cS
    refine ⟨genL c as, 0, by omega, fun nx => h _ _ _ _ rfl fun hwf => ?_, hs _ _ _ _ rfl fun hwf => ?_⟩
    · unfold V_GeneratedArrows
      repeat (first | simp (disch := (first | rfl | with_reducible assumption | with_reducible solve_by_elim (maxDepth := 8) [Shape.inT, Shape.inI, Shape.inC, Shape.inK, Shape.obF, Shape.obT, Shape.arI, Arr.inF] | omega)) only [S2, Nat.reduceEqDiff, Nat.reduceAdd, iput, puts] | (refine den_call rfl (by first | (simp only [SS, Nat.reduceEqDiff, Nat.reduceAdd, iput, puts, FF, frzL_cat]; done) | (simp only [SS, Nat.reduceEqDiff, Nat.reduceAdd, iput, puts, FF, frzL_cat]; rfl)) (by first | exact cO) ?_) | (refine den_calli rfl (by first | (simp only [SS, Nat.reduceEqDiff, Nat.reduceAdd, iput, puts, FF, frzL_cat]; done) | (simp only [SS, Nat.reduceEqDiff, Nat.reduceAdd, iput, puts, FF, frzL_cat]; rfl)) (by first | exact cO) ?_))
      refine den_callm (fc := (277, [])) rfl (generated_ok K.arrows hth hm hq hg c s as hl hw _ _) (IsI.some _ _ _) fun u H' nx' hu => ?_
      exact ⟨_, rfl, H', fun _ _ h => h, u, rfl, hu⟩
    · unfold V_spec_GeneratedArrows
      have e := l02Close_fz (P := P) (ν := ν) hc c s as hl hw
      repeat (first | simp (disch := (first | rfl | with_reducible assumption | with_reducible solve_by_elim (maxDepth := 8) [Shape.inT, Shape.inI, Shape.inC, Shape.inK, Shape.obF, Shape.obT, Shape.arI, Arr.inF] | omega)) only [S2, Nat.reduceEqDiff, Nat.reduceAdd, iput, puts] | (refine den_call rfl (by first | (simp only [SS, Nat.reduceEqDiff, Nat.reduceAdd, iput, puts, FF, frzL_cat]; done) | (simp only [SS, Nat.reduceEqDiff, Nat.reduceAdd, iput, puts, FF, frzL_cat]; rfl)) (by first | exact cS | exact e) ?_) | (refine den_calli rfl (by first | (simp only [SS, Nat.reduceEqDiff, Nat.reduceAdd, iput, puts, FF, frzL_cat]; done) | (simp only [SS, Nat.reduceEqDiff, Nat.reduceAdd, iput, puts, FF, frzL_cat]; rfl)) (by first | exact cS | exact e) ?_))
      exact ⟨_, rfl, hempty, fun _ _ h => h, rfl⟩
  · refine ⟨[], code (IsCat c) (Wn as c.f.length), by simp, fun nx => h _ _ _ _ rfl fun hwf => ?_, hs _ _ _ _ rfl fun hwf => ?_⟩
    · unfold V_GeneratedArrows
      repeat (first | simp (disch := (first | rfl | with_reducible assumption | with_reducible solve_by_elim (maxDepth := 8) [Shape.inT, Shape.inI, Shape.inC, Shape.inK, Shape.obF, Shape.obT, Shape.arI, Arr.inF] | omega)) only [S2, Nat.reduceEqDiff, Nat.reduceAdd, iput, puts, h0] | (refine den_call rfl (by first | (simp only [SS, Nat.reduceEqDiff, Nat.reduceAdd, iput, puts, FF, frzL_cat]; done) | (simp only [SS, Nat.reduceEqDiff, Nat.reduceAdd, iput, puts, FF, frzL_cat]; rfl)) (by first | exact cO) ?_) | (refine den_calli rfl (by first | (simp only [SS, Nat.reduceEqDiff, Nat.reduceAdd, iput, puts, FF, frzL_cat]; done) | (simp only [SS, Nat.reduceEqDiff, Nat.reduceAdd, iput, puts, FF, frzL_cat]; rfl)) (by first | exact cO) ?_))
      exact ⟨_, rfl, hempty, fun _ _ h => h, .nil, rfl, IsI.nil _ _⟩
    · unfold V_spec_GeneratedArrows
      repeat (first | simp (disch := (first | rfl | with_reducible assumption | with_reducible solve_by_elim (maxDepth := 8) [Shape.inT, Shape.inI, Shape.inC, Shape.inK, Shape.obF, Shape.obT, Shape.arI, Arr.inF] | omega)) only [S2, Nat.reduceEqDiff, Nat.reduceAdd, iput, puts, h0] | (refine den_call rfl (by first | (simp only [SS, Nat.reduceEqDiff, Nat.reduceAdd, iput, puts, FF, frzL_cat]; done) | (simp only [SS, Nat.reduceEqDiff, Nat.reduceAdd, iput, puts, FF, frzL_cat]; rfl)) (by first | exact cS) ?_) | (refine den_calli rfl (by first | (simp only [SS, Nat.reduceEqDiff, Nat.reduceAdd, iput, puts, FF, frzL_cat]; done) | (simp only [SS, Nat.reduceEqDiff, Nat.reduceAdd, iput, puts, FF, frzL_cat]; rfl)) (by first | exact cS) ?_))
      exact ⟨_, rfl, hempty, fun _ _ h => h, rfl⟩
end Go.Av
