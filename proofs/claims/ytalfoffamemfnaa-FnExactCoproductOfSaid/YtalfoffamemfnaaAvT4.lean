/-
  Coproducts: both sides.
-/
import Derived.Test.YtalfoffamemfnaaAvT3
namespace Go.Av
open Classical
set_option linter.unusedSimpArgs false
set_option linter.unusedVariables false
variable {P : Program} {ν : Nat → FuncId}

def V_CoproductOf : Vc :=
  .op true (.p .box [.t 0]) <|
  .op true (.p (.msl 2 [int 0, int 0] [(0, 1), (1, 1)]) [.t 1, .t 2]) <|
  .op true (.call (.f 306) [.t 3, .t 4]) <|
  .op true (.p (.bin .neq) [.t 5, .c (int 0)]) <|
  .br 6
   (.ret [(.c (int 0), none), (.c (int 0), none), (.c (int 0), none), (.t 5, none)])
   (.op true (.call (.f 252) [.t 3]) <|
   .op true (.new [int 0, .nil, .nil, .nil, .nil]) <|
   .op true (.st 5 (.t 8) (.t 7)) <|
   .op true (.callz (.f 307) [.t 8, .t 1, .t 2]) <|
   .op true (.call (.f 308) [.t 10]) <|
   .op true (.p (.ext 0) [.t 11]) <|
   .op true (.p (.ext 1) [.t 11]) <|
   .op true (.p (.ext 2) [.t 11]) <|
   .op true (.p (.ext 3) [.t 11]) <|
   .ret [(.t 12, none), (.t 13, none), (.t 14, none), (.t 15, none)])
def V_spec_CoproductOf : Vc :=
  .op true (.p .box [.t 0]) <|
  .op true (.p (.ld (some 5)) [.t 3]) <|
  .op true (.p (.msl 2 [int 0, int 0] [(0, 1), (1, 1)]) [.t 1, .t 2]) <|
  .op true (.call (.f 303) [.t 4, .t 5]) <|
  .op true (.p (.bin .neq) [.t 6, .c (int 0)]) <|
  .br 7
   (.ret [(.c (int 0), none), (.c (int 0), none), (.c (int 0), none), (.t 6, none)])
   (.op true (.p (.ld (some 5)) [.t 3]) <|
   .op true (.call (.f 251) [.t 8]) <|
   .op true (.call (.f 305) [.t 9, .t 1, .t 2]) <|
   .op true (.call (.f 304) [.t 10]) <|
   .op true (.p (.ext 0) [.t 11]) <|
   .op true (.p (.ext 1) [.t 11]) <|
   .op true (.p (.ext 2) [.t 11]) <|
   .op true (.p (.ext 3) [.t 11]) <|
   .ret [(.t 12, none), (.t 13, none), (.t 14, none), (.t 15, none)])
set_option maxHeartbeats 1000000 in
theorem CoproductOf_z (K : HCat P ν) (S : HSpan P ν) (O : HOpp P ν) (hp : Has P ν 307 3 V_Category_products) (hp1 : Has P ν 401 2 V_Category_products_1) (ho : Has P ν 306 2 V_objectCode) (h : Has P ν 191 3 V_CoproductOf) (KS : HSpec P ν) (F : HFirst P ν) (hq : Has P ν 400 5 V_spec_l13Squares) (hd : Has P ν 305 3 V_spec_l13Product) (ht : Has P ν 304 1 V_spec_l13Triple) (h2 : Has P ν 303 2 V_spec_l02Objects) (how : Has P ν 259 1 V_spec_l01Own) (hop : Has P ν 251 1 V_spec_l03Op) (hs : Has P ν 190 3 V_spec_CoproductOf) (c : Cat) (b : Small c) (x y : Int) :
    BothZ P ν 191 190 [.agg c.cells, int x, int y] (.tup (ints (limL (code (IsCat c) (Ob c x ∧ Ob c y)) (spP (opC c) x y).firstO))) := by
  have cO := objectCode_fz K ho c b [x, y] (by simp) (Wn2o c x y)
  have cS := l02Objects_fz KS h2 c b [x, y] (by simp) (Wn2o c x y)
  by_cases h0 : code (IsCat c) (Ob c x ∧ Ob c y) = 0
  · obtain ⟨hc, hx, hy⟩ := code_zero.1 h0
    have s := hc.1
    have k := hc.opA
    have ok := spP_ok hp1 (opC c) k x y
    have hP := l13Product_fi F hq hd (opC c) k x y
    have e : firstL (opC c) (spP (opC c) x y).sq = tripL (spP (opC c) x y).firstO := Sp.first_sq ok
    rw [e] at hP
    have tr := S.trip (spP (opC c) x y) ok
    have tS := l13Triple_fz ht (spP (opC c) x y).firstO
    rw [h0] at cO cS ⊢
    refine ⟨OkM.fzt fun H nx => h _ _ _ _ rfl fun hwf => ?_, OkM.fzt fun H nx => hs _ _ _ _ rfl fun hwf => ?_⟩
    · unfold V_CoproductOf
      rw [limL_ok]
      repeat (first | simp (disch := (first | rfl | with_reducible assumption | with_reducible solve_by_elim (maxDepth := 8) [Shape.inT, Shape.inI, Shape.inC, Shape.inK, Shape.obF, Shape.obT, Shape.arI, Arr.inF] | omega)) only [S2, Nat.reduceEqDiff, Nat.reduceAdd, iput, puts, p_msl2] | (refine den_call rfl (by first | (simp only [SS, Nat.reduceEqDiff, Nat.reduceAdd, iput, puts, FF, frzL_cat]; done) | (simp only [SS, Nat.reduceEqDiff, Nat.reduceAdd, iput, puts, FF, frzL_cat]; rfl)) (by first | exact cO | exact opposite_fi O c s) ?_) | (refine den_calli rfl (by first | (simp only [SS, Nat.reduceEqDiff, Nat.reduceAdd, iput, puts, FF, frzL_cat]; done) | (simp only [SS, Nat.reduceEqDiff, Nat.reduceAdd, iput, puts, FF, frzL_cat]; rfl)) (by first | exact cO | exact opposite_fi O c s) ?_))
      refine den_newG fun H1 z1 e1 => ?_
      refine den_stG (o := nx) (p := 0) (k := 5) (m := 5) (c' := (opC c).cells) (by rfl) (by rfl) z1 (by rfl) (by rfl) (show 0 + 5 ≤ 5 by omega) (by rfl) (by rfl) fun H2 z2 e2 => ?_
      refine den_callz (fc := (307, [])) (ys := [.ptr (opC c).cells 0, int x, int y]) rfl (by simp only [SS, Nat.reduceEqDiff, Nat.reduceAdd, iput, puts, FF, frzL_cat]; exact frzL_mp5 z2) (products_fi hp (opC c) x y) ?_
      rcases hO : (spP (opC c) x y).firstO with _ | ⟨z, p, q⟩
      · rw [hO] at tr
        repeat (first | simp (disch := (first | rfl | with_reducible assumption | with_reducible solve_by_elim (maxDepth := 8) [Shape.inT, Shape.inI, Shape.inC, Shape.inK, Shape.obF, Shape.obT, Shape.arI, Arr.inF] | omega)) only [S2, Nat.reduceEqDiff, Nat.reduceAdd, iput, puts, trip_none] | (refine den_call rfl (by first | (simp only [SS, Nat.reduceEqDiff, Nat.reduceAdd, iput, puts, FF, frzL_cat]; done) | (simp only [SS, Nat.reduceEqDiff, Nat.reduceAdd, iput, puts, FF, frzL_cat]; rfl)) (by first | exact tr) ?_) | (refine den_calli rfl (by first | (simp only [SS, Nat.reduceEqDiff, Nat.reduceAdd, iput, puts, FF, frzL_cat]; done) | (simp only [SS, Nat.reduceEqDiff, Nat.reduceAdd, iput, puts, FF, frzL_cat]; rfl)) (by first | exact tr) ?_))
        exact ⟨_, rfl, hempty, fun _ _ h => h, rfl⟩
      · rw [hO] at tr
        repeat (first | simp (disch := (first | rfl | with_reducible assumption | with_reducible solve_by_elim (maxDepth := 8) [Shape.inT, Shape.inI, Shape.inC, Shape.inK, Shape.obF, Shape.obT, Shape.arI, Arr.inF] | omega)) only [S2, Nat.reduceEqDiff, Nat.reduceAdd, iput, puts, trip_some] | (refine den_call rfl (by first | (simp only [SS, Nat.reduceEqDiff, Nat.reduceAdd, iput, puts, FF, frzL_cat]; done) | (simp only [SS, Nat.reduceEqDiff, Nat.reduceAdd, iput, puts, FF, frzL_cat]; rfl)) (by first | exact tr) ?_) | (refine den_calli rfl (by first | (simp only [SS, Nat.reduceEqDiff, Nat.reduceAdd, iput, puts, FF, frzL_cat]; done) | (simp only [SS, Nat.reduceEqDiff, Nat.reduceAdd, iput, puts, FF, frzL_cat]; rfl)) (by first | exact tr) ?_))
        exact ⟨_, rfl, hempty, fun _ _ h => h, rfl⟩
    · unfold V_spec_CoproductOf
      rw [limL_ok]
      rcases hO : (spP (opC c) x y).firstO with _ | ⟨z, p, q⟩
      · rw [hO] at tS hP
        repeat (first | simp (disch := (first | rfl | with_reducible assumption | with_reducible solve_by_elim (maxDepth := 8) [Shape.inT, Shape.inI, Shape.inC, Shape.inK, Shape.obF, Shape.obT, Shape.arI, Arr.inF] | omega)) only [S2, Nat.reduceEqDiff, Nat.reduceAdd, iput, puts, p_msl2, trip_none] | (refine den_call rfl (by first | (simp only [SS, Nat.reduceEqDiff, Nat.reduceAdd, iput, puts, FF, frzL_cat]; done) | (simp only [SS, Nat.reduceEqDiff, Nat.reduceAdd, iput, puts, FF, frzL_cat]; rfl)) (by first | exact cS | exact l03Op_fi how hop c s | exact hP | exact tS) ?_) | (refine den_calli rfl (by first | (simp only [SS, Nat.reduceEqDiff, Nat.reduceAdd, iput, puts, FF, frzL_cat]; done) | (simp only [SS, Nat.reduceEqDiff, Nat.reduceAdd, iput, puts, FF, frzL_cat]; rfl)) (by first | exact cS | exact l03Op_fi how hop c s | exact hP | exact tS) ?_))
        exact ⟨_, rfl, H, fun _ _ h => h, rfl⟩
      · rw [hO] at tS hP
        repeat (first | simp (disch := (first | rfl | with_reducible assumption | with_reducible solve_by_elim (maxDepth := 8) [Shape.inT, Shape.inI, Shape.inC, Shape.inK, Shape.obF, Shape.obT, Shape.arI, Arr.inF] | omega)) only [S2, Nat.reduceEqDiff, Nat.reduceAdd, iput, puts, p_msl2, trip_some] | (refine den_call rfl (by first | (simp only [SS, Nat.reduceEqDiff, Nat.reduceAdd, iput, puts, FF, frzL_cat]; done) | (simp only [SS, Nat.reduceEqDiff, Nat.reduceAdd, iput, puts, FF, frzL_cat]; rfl)) (by first | exact cS | exact l03Op_fi how hop c s | exact hP | exact tS) ?_) | (refine den_calli rfl (by first | (simp only [SS, Nat.reduceEqDiff, Nat.reduceAdd, iput, puts, FF, frzL_cat]; done) | (simp only [SS, Nat.reduceEqDiff, Nat.reduceAdd, iput, puts, FF, frzL_cat]; rfl)) (by first | exact cS | exact l03Op_fi how hop c s | exact hP | exact tS) ?_))
        exact ⟨_, rfl, H, fun _ _ h => h, rfl⟩
  · refine ⟨OkM.fzt fun H nx => h _ _ _ _ rfl fun hwf => ?_, OkM.fzt fun H nx => hs _ _ _ _ rfl fun hwf => ?_⟩
    · unfold V_CoproductOf
      rw [limL_bad h0]
      repeat (first | simp (disch := (first | rfl | with_reducible assumption | with_reducible solve_by_elim (maxDepth := 8) [Shape.inT, Shape.inI, Shape.inC, Shape.inK, Shape.obF, Shape.obT, Shape.arI, Arr.inF] | omega)) only [S2, Nat.reduceEqDiff, Nat.reduceAdd, iput, puts, p_msl2, h0] | (refine den_call rfl (by first | (simp only [SS, Nat.reduceEqDiff, Nat.reduceAdd, iput, puts, FF, frzL_cat]; done) | (simp only [SS, Nat.reduceEqDiff, Nat.reduceAdd, iput, puts, FF, frzL_cat]; rfl)) (by first | exact cO) ?_) | (refine den_calli rfl (by first | (simp only [SS, Nat.reduceEqDiff, Nat.reduceAdd, iput, puts, FF, frzL_cat]; done) | (simp only [SS, Nat.reduceEqDiff, Nat.reduceAdd, iput, puts, FF, frzL_cat]; rfl)) (by first | exact cO) ?_))
      exact ⟨_, rfl, H, fun _ _ h => h, rfl⟩
    · unfold V_spec_CoproductOf
      rw [limL_bad h0]
      repeat (first | simp (disch := (first | rfl | with_reducible assumption | with_reducible solve_by_elim (maxDepth := 8) [Shape.inT, Shape.inI, Shape.inC, Shape.inK, Shape.obF, Shape.obT, Shape.arI, Arr.inF] | omega)) only [S2, Nat.reduceEqDiff, Nat.reduceAdd, iput, puts, p_msl2, h0] | (refine den_call rfl (by first | (simp only [SS, Nat.reduceEqDiff, Nat.reduceAdd, iput, puts, FF, frzL_cat]; done) | (simp only [SS, Nat.reduceEqDiff, Nat.reduceAdd, iput, puts, FF, frzL_cat]; rfl)) (by first | exact cS) ?_) | (refine den_calli rfl (by first | (simp only [SS, Nat.reduceEqDiff, Nat.reduceAdd, iput, puts, FF, frzL_cat]; done) | (simp only [SS, Nat.reduceEqDiff, Nat.reduceAdd, iput, puts, FF, frzL_cat]; rfl)) (by first | exact cS) ?_))
      exact ⟨_, rfl, H, fun _ _ h => h, rfl⟩
theorem CoproductOf_both (K : HCat P ν) (S : HSpan P ν) (O : HOpp P ν) (hp : Has P ν 307 3 V_Category_products) (hp1 : Has P ν 401 2 V_Category_products_1) (ho : Has P ν 306 2 V_objectCode) (h : Has P ν 191 3 V_CoproductOf) (KS : HSpec P ν) (F : HFirst P ν) (hq : Has P ν 400 5 V_spec_l13Squares) (hd : Has P ν 305 3 V_spec_l13Product) (ht : Has P ν 304 1 V_spec_l13Triple) (h2 : Has P ν 303 2 V_spec_l02Objects) (how : Has P ν 259 1 V_spec_l01Own) (hop : Has P ν 251 1 V_spec_l03Op) (hs : Has P ν 190 3 V_spec_CoproductOf) (c : Cat) (b : Small c) (x y : Int) :
    ∃ u v w k : Int, BothZ P ν 191 190 [.agg c.cells, int x, int y] (.tup [int u, int v, int w, int k]) :=
  four (CoproductOf_z K S O hp hp1 ho h KS F hq hd ht h2 how hop hs c b x y)
end Go.Av
