/-
  The statement on IsCone.
-/
import Derived.Test.YtbgaobcgpkjjkaaAvE1
namespace Go.Av
open Classical
set_option linter.unusedSimpArgs false
set_option linter.unusedVariables false
variable {P : Program} {ν : Nat → FuncId}

def V_laws_FnExactIsCone : Vc :=
  .op true (.p .box [.t 0]) <|
  .op true (.p .box [.t 1]) <|
  .op true (.p (.ld (some 12)) [.t 2]) <|
  .op true (.call (.f 116) [.t 4, .c (int 1048576)]) <|
  .op true (.p (.bin .lss) [.t 5, .c (int 0)]) <|
  .br 6
   (.ret [(.c (bool true), none)])
   (.op true (.p (.ld (some 2)) [.t 3]) <|
   .op true (.call (.f 181) [.t 7, .t 5]) <|
   .op true (.p (.bin .lss) [.t 8, .c (int 0)]) <|
   .br 9
    (.ret [(.c (bool true), none)])
    (.op true (.p (.ld (some 12)) [.t 2]) <|
    .op true (.call (.f 118) [.t 10]) <|
    .op true (.p (.ld (some 2)) [.t 3]) <|
    .op true (.call (.f 183) [.t 12]) <|
    .op true (.call (.f 182) [.t 11, .t 13]) <|
    .op true (.p (.ext 0) [.t 14]) <|
    .op true (.p (.ext 1) [.t 14]) <|
    .op true (.p (.ld (some 12)) [.t 2]) <|
    .op true (.call (.f 118) [.t 17]) <|
    .op true (.new [int 0, .nil, .nil, .nil, .nil, int 0, .nil, .nil, .nil, .nil, .nil, .nil]) <|
    .op true (.st 12 (.t 19) (.t 18)) <|
    .op true (.p (.ld (some 2)) [.t 3]) <|
    .op true (.call (.f 183) [.t 21]) <|
    .op true (.new [int 0, .nil]) <|
    .op true (.st 2 (.t 23) (.t 22)) <|
    .op true (.p (.ld (some 12)) [.t 19]) <|
    .op true (.p (.ld (some 2)) [.t 23]) <|
    .op true (.call (.f 184) [.t 25, .t 26]) <|
    .op true (.p (.ext 0) [.t 27]) <|
    .op true (.p (.ext 1) [.t 27]) <|
    .op true (.p (.eqb true) [.t 28, .t 15]) <|
    .br 30
     (.ret [(.c (bool false), none)])
     (.op true (.p (.bin .neq) [.t 29, .t 16]) <|
     .br 31
      (.ret [(.c (bool false), none)])
      (.op true (.p (.ld (some 12)) [.t 19]) <|
      .op true (.p (.ld (some 12)) [.t 2]) <|
      .op true (.call (.f 118) [.t 33]) <|
      .op true (.call (.f 120) [.t 32, .t 34]) <|
      .op true (.p .bnot [.t 35]) <|
      .br 36
       (.ret [(.c (bool false), none)])
       (.op true (.p (.ld (some 2)) [.t 23]) <|
       .op true (.p (.ld (some 2)) [.t 3]) <|
       .op true (.call (.f 183) [.t 38]) <|
       .op true (.call (.f 185) [.t 37, .t 39]) <|
       .op true (.p .bnot [.t 40]) <|
       .br 41
        (.ret [(.c (bool false), none)])
        (.ret [(.c (bool true), none)]))))))
set_option maxHeartbeats 1000000 in
theorem law_IsCone (L : HLaw P ν) (LU : HLawU P ν) (LC : HLawCo P ν) (h : Has P ν 75 2 V_laws_FnExactIsCone) (f : Fu) (rd : ReadU f) (p : Co) (rp : p.l.length ≤ 9223372036854775807) (hb : SmallU f → p.l.length ≤ 1048576 → ∃ (a : Bool) (k : Int), Fz (OkM P ν) 184 [.agg f.cells, .agg p.cells] (.tup [bool a, int k]) ∧ Fz (OkM P ν) 182 [.agg f.cells, .agg p.cells] (.tup [bool a, int k])) :
    OkM P ν 75 [.agg f.cells, .agg p.cells] hempty 0 (fun r _ _ => r = bool true) := by
  refine h _ _ _ _ rfl fun hwf => ?_
  unfold V_laws_FnExactIsCone
  repeat (first | simp (disch := (first | rfl | with_reducible assumption | with_reducible solve_by_elim (maxDepth := 8) [Shape.inT, Shape.inI, Shape.inC, Shape.inK, Shape.obF, Shape.obT, Shape.arI, Arr.inF] | omega)) only [S2, Nat.reduceEqDiff, Nat.reduceAdd, iput, puts, SU f, SCo p] | (refine den_call rfl (by first | (simp only [SS, Nat.reduceEqDiff, Nat.reduceAdd, iput, puts, FF, frzL_cat, frzL_fu, frzL_co]; done) | (simp only [SS, Nat.reduceEqDiff, Nat.reduceAdd, iput, puts, FF, frzL_cat, frzL_fu, frzL_co]; rfl)) (by first | exact szU_fz L LU.sz f rd) ?_))
  refine ⟨fun h1 => ⟨_, rfl, hempty, fun _ _ h => h, rfl⟩, fun h1 => ?_⟩
  have b := szU_small (f := f) (by omega)
  have lu := szU_le f (by omega)
  repeat (first | simp (disch := (first | rfl | with_reducible assumption | with_reducible solve_by_elim (maxDepth := 8) [Shape.inT, Shape.inI, Shape.inC, Shape.inK, Shape.obF, Shape.obT, Shape.arI, Arr.inF] | omega)) only [S2, Nat.reduceEqDiff, Nat.reduceAdd, iput, puts, SU f, SCo p] | (refine den_call rfl (by first | (simp only [SS, Nat.reduceEqDiff, Nat.reduceAdd, iput, puts, FF, frzL_cat, frzL_fu, frzL_co]; done) | (simp only [SS, Nat.reduceEqDiff, Nat.reduceAdd, iput, puts, FF, frzL_cat, frzL_fu, frzL_co]; rfl)) (by first | exact szCo_fz L LC.sz p (szU f 1048576) (by omega) lu rp) ?_))
  refine ⟨fun h2 => ⟨_, rfl, hempty, fun _ _ h => h, rfl⟩, fun h2 => ?_⟩
  have bp : p.l.length ≤ 1048576 := by
    have := szS_pos (l := p.l) (left := szU f 1048576) (by omega)
    omega
  obtain ⟨a, k, hi, hs⟩ := hb b bp
  repeat (first | simp (disch := (first | rfl | with_reducible assumption | with_reducible solve_by_elim (maxDepth := 8) [Shape.inT, Shape.inI, Shape.inC, Shape.inK, Shape.obF, Shape.obT, Shape.arI, Arr.inF] | omega)) only [S2, Nat.reduceEqDiff, Nat.reduceAdd, iput, puts, SU f, SCo p] | (refine den_call rfl (by first | (simp only [SS, Nat.reduceEqDiff, Nat.reduceAdd, iput, puts, FF, frzL_cat, frzL_fu, frzL_co]; done) | (simp only [SS, Nat.reduceEqDiff, Nat.reduceAdd, iput, puts, FF, frzL_cat, frzL_fu, frzL_co]; rfl)) (by first | exact toU_fz L LU.to f b | exact toCo_fz L LC.to p bp | exact hs) ?_))
  refine den_newG fun H2 x0 e0 => ?_
  refine den_stG (o := 0) (p := 0) (k := 12) (m := 12) (c' := f.cells) (by rfl) (by rfl) x0 (by rfl) (by rfl) (show 0 + 12 ≤ 12 by omega) (by rfl) (by rfl) fun H3 x2 e2 => ?_
  repeat (first | simp (disch := (first | rfl | with_reducible assumption | with_reducible solve_by_elim (maxDepth := 8) [Shape.inT, Shape.inI, Shape.inC, Shape.inK, Shape.obF, Shape.obT, Shape.arI, Arr.inF] | omega)) only [S2, Nat.reduceEqDiff, Nat.reduceAdd, iput, puts, SU f, SCo p] | (refine den_call rfl (by first | (simp only [SS, Nat.reduceEqDiff, Nat.reduceAdd, iput, puts, FF, frzL_cat, frzL_fu, frzL_co]; done) | (simp only [SS, Nat.reduceEqDiff, Nat.reduceAdd, iput, puts, FF, frzL_cat, frzL_fu, frzL_co]; rfl)) (by first | exact toCo_fz L LC.to p bp) ?_))
  refine den_newG fun H4 x4 e4 => ?_
  refine den_stG (o := 1) (p := 0) (k := 2) (m := 2) (c' := p.cells) (by rfl) (by rfl) x4 (by rfl) (by rfl) (show 0 + 2 ≤ 2 by omega) (by rfl) (by rfl) fun H5 x5 e5 => ?_
  have x2 : H5 0 = some f.cells := by rw [e5 _ (by omega), e4 _ (by omega)]; exact x2
  repeat (first | simp (disch := (first | rfl | with_reducible assumption | with_reducible solve_by_elim (maxDepth := 8) [Shape.inT, Shape.inI, Shape.inC, Shape.inK, Shape.obF, Shape.obT, Shape.arI, Arr.inF] | omega)) only [S2, Nat.reduceEqDiff, Nat.reduceAdd, iput, puts, SU f, SCo p, p_ldsm (l := 12) x2 rfl, p_ldsm (l := 2) x5 rfl, neSelf, p_eqbS] | (refine den_call rfl (by first | (simp only [SS, Nat.reduceEqDiff, Nat.reduceAdd, iput, puts, FF, frzL_cat, frzL_fu, frzL_co]; done) | (simp only [SS, Nat.reduceEqDiff, Nat.reduceAdd, iput, puts, FF, frzL_cat, frzL_fu, frzL_co]; rfl)) (by first | exact toU_fz L LU.to f b | exact hi | exact eqU_same L LU.eq f b | exact toCo_fz L LC.to p bp | exact eqCo_same L LC.eq p bp) ?_))
  exact ⟨_, rfl, hempty, (fun _ _ h => by cases h), rfl⟩
end Go.Av
