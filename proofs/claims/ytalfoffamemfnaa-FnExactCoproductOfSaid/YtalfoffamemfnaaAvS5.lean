/-
  Products, equalizers, pullbacks, pairs of arrows: both sides.
-/
import Derived.Test.YtalfoffamemfnaaAvS4
namespace Go.Av
open Classical
set_option linter.unusedSimpArgs false
set_option linter.unusedVariables false
variable {P : Program} {ν : Nat → FuncId}

/-- A triple, or none. -/
noncomputable def limL (k : Int) (o : Option (Int × Int × Int)) : List Int := if k = 0 then (match o with | some x => [x.1, x.2.1, x.2.2, 0] | none => [0, 0, 0, 4]) else [0, 0, 0, k]
theorem limL_ok {o : Option (Int × Int × Int)} : AV.tup (ints (limL 0 o)) = tripAV o := by
  unfold limL; rw [if_pos rfl]; cases o <;> rfl
theorem limL_bad {k : Int} {o : Option (Int × Int × Int)} (h : k ≠ 0) : AV.tup (ints (limL k o)) = .tup [int 0, int 0, int 0, int k] := by
  unfold limL; rw [if_neg h]; rfl
theorem limL_four (k : Int) (o : Option (Int × Int × Int)) : ∃ x y z w : Int, AV.tup (ints (limL k o)) = .tup [int x, int y, int z, int w] := by
  unfold limL
  split
  · cases o <;> exact ⟨_, _, _, _, rfl⟩
  · exact ⟨_, _, _, _, rfl⟩
theorem trip_none : tripAV none = .tup [int 0, int 0, int 0, int 4] := rfl
theorem trip_some {z p q : Int} : tripAV (some (z, p, q)) = .tup [int z, int p, int q, int 0] := rfl
theorem pair_none : pairAV none = .tup [int 0, int 0, int 4] := rfl
theorem pair_some {z p q : Int} : pairAV (some (z, p, q)) = .tup [int z, int p, int 0] := rfl
theorem IsCat.ca {c : Cat} (k : IsCat c) : CatA c := k.A

def V_ProductOf : Vc :=
  .op true (.p .box [.t 0]) <|
  .op true (.p (.msl 2 [int 0, int 0] [(0, 1), (1, 1)]) [.t 1, .t 2]) <|
  .op true (.call (.f 306) [.t 3, .t 4]) <|
  .op true (.p (.bin .neq) [.t 5, .c (int 0)]) <|
  .br 6
   (.ret [(.c (int 0), none), (.c (int 0), none), (.c (int 0), none), (.t 5, none)])
   (.op true (.call (.f 307) [.t 3, .t 1, .t 2]) <|
   .op true (.call (.f 308) [.t 7]) <|
   .op true (.p (.ext 0) [.t 8]) <|
   .op true (.p (.ext 1) [.t 8]) <|
   .op true (.p (.ext 2) [.t 8]) <|
   .op true (.p (.ext 3) [.t 8]) <|
   .ret [(.t 9, none), (.t 10, none), (.t 11, none), (.t 12, none)])
def V_spec_ProductOf : Vc :=
  .op true (.p .box [.t 0]) <|
  .op true (.p (.ld (some 5)) [.t 3]) <|
  .op true (.p (.msl 2 [int 0, int 0] [(0, 1), (1, 1)]) [.t 1, .t 2]) <|
  .op true (.call (.f 303) [.t 4, .t 5]) <|
  .op true (.p (.bin .neq) [.t 6, .c (int 0)]) <|
  .br 7
   (.ret [(.c (int 0), none), (.c (int 0), none), (.c (int 0), none), (.t 6, none)])
   (.op true (.p (.ld (some 5)) [.t 3]) <|
   .op true (.call (.f 305) [.t 8, .t 1, .t 2]) <|
   .op true (.call (.f 304) [.t 9]) <|
   .op true (.p (.ext 0) [.t 10]) <|
   .op true (.p (.ext 1) [.t 10]) <|
   .op true (.p (.ext 2) [.t 10]) <|
   .op true (.p (.ext 3) [.t 10]) <|
   .ret [(.t 11, none), (.t 12, none), (.t 13, none), (.t 14, none)])
set_option maxHeartbeats 1000000 in
theorem ProductOf_z (K : HCat P ν) (S : HSpan P ν) (hp : Has P ν 307 3 V_Category_products) (hp1 : Has P ν 401 2 V_Category_products_1) (ho : Has P ν 306 2 V_objectCode) (h : Has P ν 164 3 V_ProductOf) (KS : HSpec P ν) (F : HFirst P ν) (hq : Has P ν 400 5 V_spec_l13Squares) (hd : Has P ν 305 3 V_spec_l13Product) (ht : Has P ν 304 1 V_spec_l13Triple) (h2 : Has P ν 303 2 V_spec_l02Objects) (hs : Has P ν 163 3 V_spec_ProductOf) (c : Cat) (b : Small c) (x y : Int) :
    BothZ P ν 164 163 [.agg c.cells, int x, int y] (.tup (ints (limL (code (IsCat c) (Ob c x ∧ Ob c y)) (spP c x y).firstO))) := by
  have cO := objectCode_fz K ho c b [x, y] (by simp) (Wn2o c x y)
  have cS := l02Objects_fz KS h2 c b [x, y] (by simp) (Wn2o c x y)
  by_cases h0 : code (IsCat c) (Ob c x ∧ Ob c y) = 0
  · obtain ⟨hc, hx, hy⟩ := code_zero.1 h0
    have k := hc.ca
    have ok := spP_ok hp1 c k x y
    have hP := l13Product_fi F hq hd c k x y
    have e : firstL c (spP c x y).sq = tripL (spP c x y).firstO := Sp.first_sq ok
    rw [e] at hP
    have tr := S.trip (spP c x y) ok
    have tS := l13Triple_fz ht (spP c x y).firstO
    rw [h0] at cO cS ⊢
    refine ⟨OkM.fzt fun H nx => h _ _ _ _ rfl fun hwf => ?_, OkM.fzt fun H nx => hs _ _ _ _ rfl fun hwf => ?_⟩
    · unfold V_ProductOf
      rw [limL_ok]
      rcases hO : (spP c x y).firstO with _ | ⟨z, p, q⟩
      · rw [hO] at tr
        repeat (first | simp (disch := (first | rfl | with_reducible assumption | with_reducible solve_by_elim (maxDepth := 8) [Shape.inT, Shape.inI, Shape.inC, Shape.inK, Shape.obF, Shape.obT, Shape.arI, Arr.inF] | omega)) only [S2, Nat.reduceEqDiff, Nat.reduceAdd, iput, puts, p_msl2, trip_none] | (refine den_call rfl (by first | (simp only [SS, Nat.reduceEqDiff, Nat.reduceAdd, iput, puts, FF, frzL_cat]; done) | (simp only [SS, Nat.reduceEqDiff, Nat.reduceAdd, iput, puts, FF, frzL_cat]; rfl)) (by first | exact cO | exact products_fi hp c x y | exact tr) ?_) | (refine den_calli rfl (by first | (simp only [SS, Nat.reduceEqDiff, Nat.reduceAdd, iput, puts, FF, frzL_cat]; done) | (simp only [SS, Nat.reduceEqDiff, Nat.reduceAdd, iput, puts, FF, frzL_cat]; rfl)) (by first | exact cO | exact products_fi hp c x y | exact tr) ?_))
        exact ⟨_, rfl, H, fun _ _ h => h, rfl⟩
      · rw [hO] at tr
        repeat (first | simp (disch := (first | rfl | with_reducible assumption | with_reducible solve_by_elim (maxDepth := 8) [Shape.inT, Shape.inI, Shape.inC, Shape.inK, Shape.obF, Shape.obT, Shape.arI, Arr.inF] | omega)) only [S2, Nat.reduceEqDiff, Nat.reduceAdd, iput, puts, p_msl2, trip_some] | (refine den_call rfl (by first | (simp only [SS, Nat.reduceEqDiff, Nat.reduceAdd, iput, puts, FF, frzL_cat]; done) | (simp only [SS, Nat.reduceEqDiff, Nat.reduceAdd, iput, puts, FF, frzL_cat]; rfl)) (by first | exact cO | exact products_fi hp c x y | exact tr) ?_) | (refine den_calli rfl (by first | (simp only [SS, Nat.reduceEqDiff, Nat.reduceAdd, iput, puts, FF, frzL_cat]; done) | (simp only [SS, Nat.reduceEqDiff, Nat.reduceAdd, iput, puts, FF, frzL_cat]; rfl)) (by first | exact cO | exact products_fi hp c x y | exact tr) ?_))
        exact ⟨_, rfl, H, fun _ _ h => h, rfl⟩
    · unfold V_spec_ProductOf
      rw [limL_ok]
      rcases hO : (spP c x y).firstO with _ | ⟨z, p, q⟩
      · rw [hO] at tS hP
        repeat (first | simp (disch := (first | rfl | with_reducible assumption | with_reducible solve_by_elim (maxDepth := 8) [Shape.inT, Shape.inI, Shape.inC, Shape.inK, Shape.obF, Shape.obT, Shape.arI, Arr.inF] | omega)) only [S2, Nat.reduceEqDiff, Nat.reduceAdd, iput, puts, p_msl2, trip_none] | (refine den_call rfl (by first | (simp only [SS, Nat.reduceEqDiff, Nat.reduceAdd, iput, puts, FF, frzL_cat]; done) | (simp only [SS, Nat.reduceEqDiff, Nat.reduceAdd, iput, puts, FF, frzL_cat]; rfl)) (by first | exact cS | exact hP | exact tS) ?_) | (refine den_calli rfl (by first | (simp only [SS, Nat.reduceEqDiff, Nat.reduceAdd, iput, puts, FF, frzL_cat]; done) | (simp only [SS, Nat.reduceEqDiff, Nat.reduceAdd, iput, puts, FF, frzL_cat]; rfl)) (by first | exact cS | exact hP | exact tS) ?_))
        exact ⟨_, rfl, H, fun _ _ h => h, rfl⟩
      · rw [hO] at tS hP
        repeat (first | simp (disch := (first | rfl | with_reducible assumption | with_reducible solve_by_elim (maxDepth := 8) [Shape.inT, Shape.inI, Shape.inC, Shape.inK, Shape.obF, Shape.obT, Shape.arI, Arr.inF] | omega)) only [S2, Nat.reduceEqDiff, Nat.reduceAdd, iput, puts, p_msl2, trip_some] | (refine den_call rfl (by first | (simp only [SS, Nat.reduceEqDiff, Nat.reduceAdd, iput, puts, FF, frzL_cat]; done) | (simp only [SS, Nat.reduceEqDiff, Nat.reduceAdd, iput, puts, FF, frzL_cat]; rfl)) (by first | exact cS | exact hP | exact tS) ?_) | (refine den_calli rfl (by first | (simp only [SS, Nat.reduceEqDiff, Nat.reduceAdd, iput, puts, FF, frzL_cat]; done) | (simp only [SS, Nat.reduceEqDiff, Nat.reduceAdd, iput, puts, FF, frzL_cat]; rfl)) (by first | exact cS | exact hP | exact tS) ?_))
        exact ⟨_, rfl, H, fun _ _ h => h, rfl⟩
  · refine ⟨OkM.fzt fun H nx => h _ _ _ _ rfl fun hwf => ?_, OkM.fzt fun H nx => hs _ _ _ _ rfl fun hwf => ?_⟩
    · unfold V_ProductOf
      rw [limL_bad h0]
      repeat (first | simp (disch := (first | rfl | with_reducible assumption | with_reducible solve_by_elim (maxDepth := 8) [Shape.inT, Shape.inI, Shape.inC, Shape.inK, Shape.obF, Shape.obT, Shape.arI, Arr.inF] | omega)) only [S2, Nat.reduceEqDiff, Nat.reduceAdd, iput, puts, p_msl2, h0] | (refine den_call rfl (by first | (simp only [SS, Nat.reduceEqDiff, Nat.reduceAdd, iput, puts, FF, frzL_cat]; done) | (simp only [SS, Nat.reduceEqDiff, Nat.reduceAdd, iput, puts, FF, frzL_cat]; rfl)) (by first | exact cO) ?_) | (refine den_calli rfl (by first | (simp only [SS, Nat.reduceEqDiff, Nat.reduceAdd, iput, puts, FF, frzL_cat]; done) | (simp only [SS, Nat.reduceEqDiff, Nat.reduceAdd, iput, puts, FF, frzL_cat]; rfl)) (by first | exact cO) ?_))
      exact ⟨_, rfl, H, fun _ _ h => h, rfl⟩
    · unfold V_spec_ProductOf
      rw [limL_bad h0]
      repeat (first | simp (disch := (first | rfl | with_reducible assumption | with_reducible solve_by_elim (maxDepth := 8) [Shape.inT, Shape.inI, Shape.inC, Shape.inK, Shape.obF, Shape.obT, Shape.arI, Arr.inF] | omega)) only [S2, Nat.reduceEqDiff, Nat.reduceAdd, iput, puts, p_msl2, h0] | (refine den_call rfl (by first | (simp only [SS, Nat.reduceEqDiff, Nat.reduceAdd, iput, puts, FF, frzL_cat]; done) | (simp only [SS, Nat.reduceEqDiff, Nat.reduceAdd, iput, puts, FF, frzL_cat]; rfl)) (by first | exact cS) ?_) | (refine den_calli rfl (by first | (simp only [SS, Nat.reduceEqDiff, Nat.reduceAdd, iput, puts, FF, frzL_cat]; done) | (simp only [SS, Nat.reduceEqDiff, Nat.reduceAdd, iput, puts, FF, frzL_cat]; rfl)) (by first | exact cS) ?_))
      exact ⟨_, rfl, H, fun _ _ h => h, rfl⟩
theorem four {i j : Nat} {ys : List AV} {k : Int} {o : Option (Int × Int × Int)} (h : BothZ P ν i j ys (.tup (ints (limL k o)))) : ∃ x y z w : Int, BothZ P ν i j ys (.tup [int x, int y, int z, int w]) := by
  obtain ⟨x, y, z, w, e⟩ := limL_four k o
  exact ⟨x, y, z, w, e ▸ h⟩
theorem ProductOf_both (K : HCat P ν) (S : HSpan P ν) (hp : Has P ν 307 3 V_Category_products) (hp1 : Has P ν 401 2 V_Category_products_1) (ho : Has P ν 306 2 V_objectCode) (h : Has P ν 164 3 V_ProductOf) (KS : HSpec P ν) (F : HFirst P ν) (hq : Has P ν 400 5 V_spec_l13Squares) (hd : Has P ν 305 3 V_spec_l13Product) (ht : Has P ν 304 1 V_spec_l13Triple) (h2 : Has P ν 303 2 V_spec_l02Objects) (hs : Has P ν 163 3 V_spec_ProductOf) (c : Cat) (b : Small c) (x y : Int) :
    ∃ u v w k : Int, BothZ P ν 164 163 [.agg c.cells, int x, int y] (.tup [int u, int v, int w, int k]) :=
  four (ProductOf_z K S hp hp1 ho h KS F hq hd ht h2 hs c b x y)

theorem lcode_ok {c : Cat} {f g : Int} {s t : Bool} (h : IsCat c ∧ Arr c f ∧ Arr c g) (h1 : s = true → c.F f = c.F g) (h2 : t = true → c.T f = c.T g) : lcode c f g s t = 0 := by
  unfold lcode
  rw [if_pos h, if_neg]
  rintro (⟨a, e⟩ | ⟨a, e⟩)
  · exact e (h1 a)
  · exact e (h2 a)
theorem lcode_five {c : Cat} {f g : Int} {s t : Bool} (h : IsCat c ∧ Arr c f ∧ Arr c g) (h1 : (s = true ∧ c.F f ≠ c.F g) ∨ (t = true ∧ c.T f ≠ c.T g)) : lcode c f g s t = 5 := by
  unfold lcode
  rw [if_pos h, if_pos h1]
theorem lcode_bad {c : Cat} {f g : Int} {s t : Bool} (h : ¬ code (IsCat c) (Arr c f ∧ Arr c g) = 0) : lcode c f g s t = code (IsCat c) (Arr c f ∧ Arr c g) := by
  unfold lcode
  rw [if_neg fun h1 => h (code_zero.2 h1)]

def V_PullbackArrows : Vc :=
  .op true (.p .box [.t 0]) <|
  .op true (.p (.msl 2 [int 0, int 0] [(0, 1), (1, 1)]) [.t 1, .t 2]) <|
  .op true (.call (.f 18) [.t 3, .t 4]) <|
  .op true (.p (.bin .neq) [.t 5, .c (int 0)]) <|
  .br 6
   (.ret [(.c (int 0), none), (.c (int 0), none), (.c (int 0), none), (.t 5, none)])
   (.op true (.p (.fad 2) [.t 3]) <|
   .op true (.p (.ld none) [.t 7]) <|
   .op true (.p (.iad 1) [.t 8, .t 1]) <|
   .op true (.p (.ld none) [.t 9]) <|
   .op true (.p (.fad 2) [.t 3]) <|
   .op true (.p (.ld none) [.t 11]) <|
   .op true (.p (.iad 1) [.t 12, .t 2]) <|
   .op true (.p (.ld none) [.t 13]) <|
   .op true (.p (.bin .neq) [.t 10, .t 14]) <|
   .br 15
    (.ret [(.c (int 0), none), (.c (int 0), none), (.c (int 0), none), (.c (int 5), none)])
    (.op true (.call (.f 324) [.t 3, .t 1, .t 2]) <|
    .op true (.call (.f 308) [.t 16]) <|
    .op true (.p (.ext 0) [.t 17]) <|
    .op true (.p (.ext 1) [.t 17]) <|
    .op true (.p (.ext 2) [.t 17]) <|
    .op true (.p (.ext 3) [.t 17]) <|
    .ret [(.t 18, none), (.t 19, none), (.t 20, none), (.t 21, none)]))
def V_spec_PullbackArrows : Vc :=
  .op true (.p .box [.t 0]) <|
  .op true (.p (.ld (some 5)) [.t 3]) <|
  .op true (.call (.f 317) [.t 4, .t 1, .t 2, .c (bool false), .c (bool true)]) <|
  .op true (.p (.bin .neq) [.t 5, .c (int 0)]) <|
  .br 6
   (.ret [(.c (int 0), none), (.c (int 0), none), (.c (int 0), none), (.t 5, none)])
   (.op true (.p (.ld (some 5)) [.t 3]) <|
   .op true (.call (.f 323) [.t 7, .t 1, .t 2]) <|
   .op true (.call (.f 304) [.t 8]) <|
   .op true (.p (.ext 0) [.t 9]) <|
   .op true (.p (.ext 1) [.t 9]) <|
   .op true (.p (.ext 2) [.t 9]) <|
   .op true (.p (.ext 3) [.t 9]) <|
   .ret [(.t 10, none), (.t 11, none), (.t 12, none), (.t 13, none)])
set_option maxHeartbeats 1000000 in
theorem PullbackArrows_z (K : HCat P ν) (A : HArr P ν) (S : HSpan P ν) (hp : Has P ν 324 3 V_Category_pullbacks) (hp1 : Has P ν 406 5 V_Category_pullbacks_1) (h : Has P ν 174 3 V_PullbackArrows) (KS : HSpec P ν) (F : HFirst P ν) (ha : Has P ν 245 2 V_spec_l02Arrows) (hl : Has P ν 317 5 V_spec_l13Code) (hq : Has P ν 400 5 V_spec_l13Squares) (hd : Has P ν 323 3 V_spec_l13Pullback) (ht : Has P ν 304 1 V_spec_l13Triple) (hs : Has P ν 173 3 V_spec_PullbackArrows) (c : Cat) (b : Small c) (f g : Int) :
    BothZ P ν 174 173 [.agg c.cells, int f, int g] (.tup (ints (limL (lcode c f g false true) (spB c f g).firstO))) := by
  have cO := arrowCode_fz K A.code c b [f, g] (by simp) (Wn2 c f g)
  have cS := l13Code_fz KS ha hl c b f g false true
  by_cases h0 : code (IsCat c) (Arr c f ∧ Arr c g) = 0
  · have h1 := code_zero.1 h0
    have hc := h1.1
    have hf := h1.2.1
    have hg := h1.2.2
    have s := hc.1
    have k := hc.ca
    have fT := s.inT hf
    have gT := s.inT hg
    rw [h0] at cO
    by_cases e : c.T f = c.T g
    · have l0 : lcode c f g false true = 0 := lcode_ok h1 (fun h => by cases h) fun _ => e
      have ok := spB_ok S.thn hp1 c k f g hf hg
      have hP := l13Pullback_fi F hq hd c k f g hf hg
      have e2 : firstL c (spB c f g).sq = tripL (spB c f g).firstO := Sp.first_sq ok
      rw [e2] at hP
      have tr := S.trip (spB c f g) ok
      have tS := l13Triple_fz ht (spB c f g).firstO
      rw [l0] at cS ⊢
      refine ⟨OkM.fzt fun H nx => h _ _ _ _ rfl fun hwf => ?_, OkM.fzt fun H nx => hs _ _ _ _ rfl fun hwf => ?_⟩
      · unfold V_PullbackArrows
        rw [limL_ok]
        rcases hO : (spB c f g).firstO with _ | ⟨z, p, q⟩
        · rw [hO] at tr
          repeat (first | simp (disch := (first | rfl | with_reducible assumption | with_reducible solve_by_elim (maxDepth := 8) [Shape.inT, Shape.inI, Shape.inC, Shape.inK, Shape.obF, Shape.obT, Shape.arI, Arr.inF] | omega)) only [S2, Nat.reduceEqDiff, Nat.reduceAdd, iput, puts, p_msl2, trip_none, e] | (refine den_call rfl (by first | (simp only [SS, Nat.reduceEqDiff, Nat.reduceAdd, iput, puts, FF, frzL_cat]; done) | (simp only [SS, Nat.reduceEqDiff, Nat.reduceAdd, iput, puts, FF, frzL_cat]; rfl)) (by first | exact cO | exact pullbacks_fi hp c f g hf hg | exact tr) ?_) | (refine den_calli rfl (by first | (simp only [SS, Nat.reduceEqDiff, Nat.reduceAdd, iput, puts, FF, frzL_cat]; done) | (simp only [SS, Nat.reduceEqDiff, Nat.reduceAdd, iput, puts, FF, frzL_cat]; rfl)) (by first | exact cO | exact pullbacks_fi hp c f g hf hg | exact tr) ?_))
          exact ⟨_, rfl, H, fun _ _ h => h, rfl⟩
        · rw [hO] at tr
          repeat (first | simp (disch := (first | rfl | with_reducible assumption | with_reducible solve_by_elim (maxDepth := 8) [Shape.inT, Shape.inI, Shape.inC, Shape.inK, Shape.obF, Shape.obT, Shape.arI, Arr.inF] | omega)) only [S2, Nat.reduceEqDiff, Nat.reduceAdd, iput, puts, p_msl2, trip_some, e] | (refine den_call rfl (by first | (simp only [SS, Nat.reduceEqDiff, Nat.reduceAdd, iput, puts, FF, frzL_cat]; done) | (simp only [SS, Nat.reduceEqDiff, Nat.reduceAdd, iput, puts, FF, frzL_cat]; rfl)) (by first | exact cO | exact pullbacks_fi hp c f g hf hg | exact tr) ?_) | (refine den_calli rfl (by first | (simp only [SS, Nat.reduceEqDiff, Nat.reduceAdd, iput, puts, FF, frzL_cat]; done) | (simp only [SS, Nat.reduceEqDiff, Nat.reduceAdd, iput, puts, FF, frzL_cat]; rfl)) (by first | exact cO | exact pullbacks_fi hp c f g hf hg | exact tr) ?_))
          exact ⟨_, rfl, H, fun _ _ h => h, rfl⟩
      · unfold V_spec_PullbackArrows
        rw [limL_ok]
        rcases hO : (spB c f g).firstO with _ | ⟨z, p, q⟩
        · rw [hO] at tS hP
          repeat (first | simp (disch := (first | rfl | with_reducible assumption | with_reducible solve_by_elim (maxDepth := 8) [Shape.inT, Shape.inI, Shape.inC, Shape.inK, Shape.obF, Shape.obT, Shape.arI, Arr.inF] | omega)) only [S2, Nat.reduceEqDiff, Nat.reduceAdd, iput, puts, trip_none] | (refine den_call rfl (by first | (simp only [SS, Nat.reduceEqDiff, Nat.reduceAdd, iput, puts, FF, frzL_cat]; done) | (simp only [SS, Nat.reduceEqDiff, Nat.reduceAdd, iput, puts, FF, frzL_cat]; rfl)) (by first | exact cS | exact hP | exact tS) ?_) | (refine den_calli rfl (by first | (simp only [SS, Nat.reduceEqDiff, Nat.reduceAdd, iput, puts, FF, frzL_cat]; done) | (simp only [SS, Nat.reduceEqDiff, Nat.reduceAdd, iput, puts, FF, frzL_cat]; rfl)) (by first | exact cS | exact hP | exact tS) ?_))
          exact ⟨_, rfl, H, fun _ _ h => h, rfl⟩
        · rw [hO] at tS hP
          repeat (first | simp (disch := (first | rfl | with_reducible assumption | with_reducible solve_by_elim (maxDepth := 8) [Shape.inT, Shape.inI, Shape.inC, Shape.inK, Shape.obF, Shape.obT, Shape.arI, Arr.inF] | omega)) only [S2, Nat.reduceEqDiff, Nat.reduceAdd, iput, puts, trip_some] | (refine den_call rfl (by first | (simp only [SS, Nat.reduceEqDiff, Nat.reduceAdd, iput, puts, FF, frzL_cat]; done) | (simp only [SS, Nat.reduceEqDiff, Nat.reduceAdd, iput, puts, FF, frzL_cat]; rfl)) (by first | exact cS | exact hP | exact tS) ?_) | (refine den_calli rfl (by first | (simp only [SS, Nat.reduceEqDiff, Nat.reduceAdd, iput, puts, FF, frzL_cat]; done) | (simp only [SS, Nat.reduceEqDiff, Nat.reduceAdd, iput, puts, FF, frzL_cat]; rfl)) (by first | exact cS | exact hP | exact tS) ?_))
          exact ⟨_, rfl, H, fun _ _ h => h, rfl⟩
    · have l5 : lcode c f g false true = 5 := lcode_five h1 (.inr ⟨rfl, e⟩)
      rw [l5] at cS ⊢
      refine ⟨OkM.fzt fun H nx => h _ _ _ _ rfl fun hwf => ?_, OkM.fzt fun H nx => hs _ _ _ _ rfl fun hwf => ?_⟩
      · unfold V_PullbackArrows
        rw [limL_bad (by decide)]
        repeat (first | simp (disch := (first | rfl | with_reducible assumption | with_reducible solve_by_elim (maxDepth := 8) [Shape.inT, Shape.inI, Shape.inC, Shape.inK, Shape.obF, Shape.obT, Shape.arI, Arr.inF] | omega)) only [S2, Nat.reduceEqDiff, Nat.reduceAdd, iput, puts, p_msl2, e] | (refine den_call rfl (by first | (simp only [SS, Nat.reduceEqDiff, Nat.reduceAdd, iput, puts, FF, frzL_cat]; done) | (simp only [SS, Nat.reduceEqDiff, Nat.reduceAdd, iput, puts, FF, frzL_cat]; rfl)) (by first | exact cO) ?_) | (refine den_calli rfl (by first | (simp only [SS, Nat.reduceEqDiff, Nat.reduceAdd, iput, puts, FF, frzL_cat]; done) | (simp only [SS, Nat.reduceEqDiff, Nat.reduceAdd, iput, puts, FF, frzL_cat]; rfl)) (by first | exact cO) ?_))
        exact ⟨_, rfl, H, fun _ _ h => h, rfl⟩
      · unfold V_spec_PullbackArrows
        rw [limL_bad (by decide)]
        have n5 : ¬ (5 : Int) = 0 := by decide
        repeat (first | simp (disch := (first | rfl | with_reducible assumption | with_reducible solve_by_elim (maxDepth := 8) [Shape.inT, Shape.inI, Shape.inC, Shape.inK, Shape.obF, Shape.obT, Shape.arI, Arr.inF] | omega)) only [S2, Nat.reduceEqDiff, Nat.reduceAdd, iput, puts, n5] | (refine den_call rfl (by first | (simp only [SS, Nat.reduceEqDiff, Nat.reduceAdd, iput, puts, FF, frzL_cat]; done) | (simp only [SS, Nat.reduceEqDiff, Nat.reduceAdd, iput, puts, FF, frzL_cat]; rfl)) (by first | exact cS) ?_) | (refine den_calli rfl (by first | (simp only [SS, Nat.reduceEqDiff, Nat.reduceAdd, iput, puts, FF, frzL_cat]; done) | (simp only [SS, Nat.reduceEqDiff, Nat.reduceAdd, iput, puts, FF, frzL_cat]; rfl)) (by first | exact cS) ?_))
        exact ⟨_, rfl, H, fun _ _ h => h, rfl⟩
  · have lb : lcode c f g false true = code (IsCat c) (Arr c f ∧ Arr c g) := lcode_bad h0
    rw [lb] at cS ⊢
    refine ⟨OkM.fzt fun H nx => h _ _ _ _ rfl fun hwf => ?_, OkM.fzt fun H nx => hs _ _ _ _ rfl fun hwf => ?_⟩
    · unfold V_PullbackArrows
      rw [limL_bad h0]
      repeat (first | simp (disch := (first | rfl | with_reducible assumption | with_reducible solve_by_elim (maxDepth := 8) [Shape.inT, Shape.inI, Shape.inC, Shape.inK, Shape.obF, Shape.obT, Shape.arI, Arr.inF] | omega)) only [S2, Nat.reduceEqDiff, Nat.reduceAdd, iput, puts, p_msl2, h0] | (refine den_call rfl (by first | (simp only [SS, Nat.reduceEqDiff, Nat.reduceAdd, iput, puts, FF, frzL_cat]; done) | (simp only [SS, Nat.reduceEqDiff, Nat.reduceAdd, iput, puts, FF, frzL_cat]; rfl)) (by first | exact cO) ?_) | (refine den_calli rfl (by first | (simp only [SS, Nat.reduceEqDiff, Nat.reduceAdd, iput, puts, FF, frzL_cat]; done) | (simp only [SS, Nat.reduceEqDiff, Nat.reduceAdd, iput, puts, FF, frzL_cat]; rfl)) (by first | exact cO) ?_))
      exact ⟨_, rfl, H, fun _ _ h => h, rfl⟩
    · unfold V_spec_PullbackArrows
      rw [limL_bad h0]
      repeat (first | simp (disch := (first | rfl | with_reducible assumption | with_reducible solve_by_elim (maxDepth := 8) [Shape.inT, Shape.inI, Shape.inC, Shape.inK, Shape.obF, Shape.obT, Shape.arI, Arr.inF] | omega)) only [S2, Nat.reduceEqDiff, Nat.reduceAdd, iput, puts, h0] | (refine den_call rfl (by first | (simp only [SS, Nat.reduceEqDiff, Nat.reduceAdd, iput, puts, FF, frzL_cat]; done) | (simp only [SS, Nat.reduceEqDiff, Nat.reduceAdd, iput, puts, FF, frzL_cat]; rfl)) (by first | exact cS) ?_) | (refine den_calli rfl (by first | (simp only [SS, Nat.reduceEqDiff, Nat.reduceAdd, iput, puts, FF, frzL_cat]; done) | (simp only [SS, Nat.reduceEqDiff, Nat.reduceAdd, iput, puts, FF, frzL_cat]; rfl)) (by first | exact cS) ?_))
      exact ⟨_, rfl, H, fun _ _ h => h, rfl⟩
theorem PullbackArrows_both (K : HCat P ν) (A : HArr P ν) (S : HSpan P ν) (hp : Has P ν 324 3 V_Category_pullbacks) (hp1 : Has P ν 406 5 V_Category_pullbacks_1) (h : Has P ν 174 3 V_PullbackArrows) (KS : HSpec P ν) (F : HFirst P ν) (ha : Has P ν 245 2 V_spec_l02Arrows) (hl : Has P ν 317 5 V_spec_l13Code) (hq : Has P ν 400 5 V_spec_l13Squares) (hd : Has P ν 323 3 V_spec_l13Pullback) (ht : Has P ν 304 1 V_spec_l13Triple) (hs : Has P ν 173 3 V_spec_PullbackArrows) (c : Cat) (b : Small c) (f g : Int) :
    ∃ u v w k : Int, BothZ P ν 174 173 [.agg c.cells, int f, int g] (.tup [int u, int v, int w, int k]) :=
  four (PullbackArrows_z K A S hp hp1 h KS F ha hl hq hd ht hs c b f g)

def V_KernelPair : Vc :=
  .op true (.p .box [.t 0]) <|
  .op true (.p (.ld (some 5)) [.t 2]) <|
  .op true (.call (.f 174) [.t 3, .t 1, .t 1]) <|
  .op true (.p (.ext 0) [.t 4]) <|
  .op true (.p (.ext 1) [.t 4]) <|
  .op true (.p (.ext 2) [.t 4]) <|
  .op true (.p (.ext 3) [.t 4]) <|
  .ret [(.t 5, none), (.t 6, none), (.t 7, none), (.t 8, none)]
def V_spec_KernelPair : Vc :=
  .op true (.p .box [.t 0]) <|
  .op true (.p (.ld (some 5)) [.t 2]) <|
  .op true (.call (.f 173) [.t 3, .t 1, .t 1]) <|
  .op true (.p (.ext 0) [.t 4]) <|
  .op true (.p (.ext 1) [.t 4]) <|
  .op true (.p (.ext 2) [.t 4]) <|
  .op true (.p (.ext 3) [.t 4]) <|
  .ret [(.t 5, none), (.t 6, none), (.t 7, none), (.t 8, none)]
theorem KernelPair_both (K : HCat P ν) (A : HArr P ν) (S : HSpan P ν) (hp : Has P ν 324 3 V_Category_pullbacks) (hp1 : Has P ν 406 5 V_Category_pullbacks_1) (h : Has P ν 174 3 V_PullbackArrows) (KS : HSpec P ν) (F : HFirst P ν) (ha : Has P ν 245 2 V_spec_l02Arrows) (hl : Has P ν 317 5 V_spec_l13Code) (hq : Has P ν 400 5 V_spec_l13Squares) (hd : Has P ν 323 3 V_spec_l13Pullback) (ht : Has P ν 304 1 V_spec_l13Triple) (hs : Has P ν 173 3 V_spec_PullbackArrows) (hk : Has P ν 176 2 V_KernelPair) (hks : Has P ν 175 2 V_spec_KernelPair) (c : Cat) (b : Small c) (f : Int) :
    ∃ u v w k : Int, BothZ P ν 176 175 [.agg c.cells, int f] (.tup [int u, int v, int w, int k]) := by
  obtain ⟨u, v, w, k, h1, h2⟩ := PullbackArrows_both K A S hp hp1 h KS F ha hl hq hd ht hs c b f f
  refine ⟨u, v, w, k, OkM.fzt (l := [u, v, w, k]) fun H nx => hk _ _ _ _ rfl fun hwf => ?_, OkM.fzt (l := [u, v, w, k]) fun H nx => hks _ _ _ _ rfl fun hwf => ?_⟩
  · unfold V_KernelPair
    repeat (first | simp (disch := (first | rfl | with_reducible assumption | with_reducible solve_by_elim (maxDepth := 8) [Shape.inT, Shape.inI, Shape.inC, Shape.inK, Shape.obF, Shape.obT, Shape.arI, Arr.inF] | omega)) only [S2, Nat.reduceEqDiff, Nat.reduceAdd, iput, puts] | (refine den_call rfl (by first | (simp only [SS, Nat.reduceEqDiff, Nat.reduceAdd, iput, puts, FF, frzL_cat]; done) | (simp only [SS, Nat.reduceEqDiff, Nat.reduceAdd, iput, puts, FF, frzL_cat]; rfl)) (by first | exact h1) ?_) | (refine den_calli rfl (by first | (simp only [SS, Nat.reduceEqDiff, Nat.reduceAdd, iput, puts, FF, frzL_cat]; done) | (simp only [SS, Nat.reduceEqDiff, Nat.reduceAdd, iput, puts, FF, frzL_cat]; rfl)) (by first | exact h1) ?_))
    exact ⟨_, rfl, H, fun _ _ h => h, rfl⟩
  · unfold V_spec_KernelPair
    repeat (first | simp (disch := (first | rfl | with_reducible assumption | with_reducible solve_by_elim (maxDepth := 8) [Shape.inT, Shape.inI, Shape.inC, Shape.inK, Shape.obF, Shape.obT, Shape.arI, Arr.inF] | omega)) only [S2, Nat.reduceEqDiff, Nat.reduceAdd, iput, puts] | (refine den_call rfl (by first | (simp only [SS, Nat.reduceEqDiff, Nat.reduceAdd, iput, puts, FF, frzL_cat]; done) | (simp only [SS, Nat.reduceEqDiff, Nat.reduceAdd, iput, puts, FF, frzL_cat]; rfl)) (by first | exact h2) ?_) | (refine den_calli rfl (by first | (simp only [SS, Nat.reduceEqDiff, Nat.reduceAdd, iput, puts, FF, frzL_cat]; done) | (simp only [SS, Nat.reduceEqDiff, Nat.reduceAdd, iput, puts, FF, frzL_cat]; rfl)) (by first | exact h2) ?_))
    exact ⟨_, rfl, H, fun _ _ h => h, rfl⟩

noncomputable def eqL (k : Int) (o : Option (Int × Int × Int)) : List Int := if k = 0 then (match o with | some x => [x.1, x.2.1, 0] | none => [0, 0, 4]) else [0, 0, k]
theorem eqL_ok {o : Option (Int × Int × Int)} : AV.tup (ints (eqL 0 o)) = pairAV o := by
  unfold eqL; rw [if_pos rfl]; cases o <;> rfl
theorem eqL_bad {k : Int} {o : Option (Int × Int × Int)} (h : k ≠ 0) : AV.tup (ints (eqL k o)) = .tup [int 0, int 0, int k] := by
  unfold eqL; rw [if_neg h]; rfl
theorem eqL_three (k : Int) (o : Option (Int × Int × Int)) : ∃ x y z : Int, AV.tup (ints (eqL k o)) = .tup [int x, int y, int z] := by
  unfold eqL
  split
  · cases o <;> exact ⟨_, _, _, rfl⟩
  · exact ⟨_, _, _, rfl⟩
def V_EqualizerArrow : Vc :=
  .op true (.p .box [.t 0]) <|
  .op true (.p (.msl 2 [int 0, int 0] [(0, 1), (1, 1)]) [.t 1, .t 2]) <|
  .op true (.call (.f 18) [.t 3, .t 4]) <|
  .op true (.p (.bin .neq) [.t 5, .c (int 0)]) <|
  .br 6
   (.ret [(.c (int 0), none), (.c (int 0), none), (.t 5, none)])
   (.op true (.call (.f 38) [.t 3, .t 1]) <|
   .op true (.call (.f 38) [.t 3, .t 2]) <|
   .op true (.p (.eqs true 2) [.t 7, .t 8]) <|
   .br 9
    (.ret [(.c (int 0), none), (.c (int 0), none), (.c (int 5), none)])
    (.op true (.call (.f 321) [.t 3, .t 1, .t 2]) <|
    .op true (.call (.f 308) [.t 10]) <|
    .op true (.p (.ext 0) [.t 11]) <|
    .op true (.p (.ext 1) [.t 11]) <|
    .op true (.p (.ext 2) [.t 11]) <|
    .op true (.p (.ext 3) [.t 11]) <|
    .ret [(.t 12, none), (.t 13, none), (.t 15, none)]))
def V_spec_EqualizerArrow : Vc :=
  .op true (.p .box [.t 0]) <|
  .op true (.p (.ld (some 5)) [.t 3]) <|
  .op true (.call (.f 317) [.t 4, .t 1, .t 2, .c (bool true), .c (bool true)]) <|
  .op true (.p (.bin .neq) [.t 5, .c (int 0)]) <|
  .br 6
   (.ret [(.c (int 0), none), (.c (int 0), none), (.t 5, none)])
   (.op true (.p (.ld (some 5)) [.t 3]) <|
   .op true (.p (.ld (some 5)) [.t 3]) <|
   .op true (.call (.f 320) [.t 8, .t 1, .t 2]) <|
   .op true (.call (.f 319) [.t 7, .t 9]) <|
   .op true (.call (.f 318) [.t 10]) <|
   .op true (.p (.ext 0) [.t 11]) <|
   .op true (.p (.ext 1) [.t 11]) <|
   .op true (.p (.ext 2) [.t 11]) <|
   .ret [(.t 12, none), (.t 13, none), (.t 14, none)])
set_option maxHeartbeats 1000000 in
theorem EqualizerArrow_z (K : HCat P ν) (A : HArr P ν) (S : HSpan P ν) (hp : Has P ν 321 3 V_Category_equalizers) (hp1 : Has P ν 405 5 V_Category_equalizers_1) (h : Has P ν 170 3 V_EqualizerArrow) (KS : HSpec P ν) (F : HFirst P ν) (ha : Has P ν 245 2 V_spec_l02Arrows) (hl : Has P ν 317 5 V_spec_l13Code) (hq : Has P ν 320 3 V_spec_l13Forks) (ht : Has P ν 318 1 V_spec_l13Pair) (hs : Has P ν 169 3 V_spec_EqualizerArrow) (c : Cat) (b : Small c) (f g : Int) :
    BothZ P ν 170 169 [.agg c.cells, int f, int g] (.tup (ints (eqL (lcode c f g true true) (spE c f g).firstO))) := by
  have cO := arrowCode_fz K A.code c b [f, g] (by simp) (Wn2 c f g)
  have cS := l13Code_fz KS ha hl c b f g true true
  by_cases h0 : code (IsCat c) (Arr c f ∧ Arr c g) = 0
  · have h1 := code_zero.1 h0
    have hc := h1.1
    have hf := h1.2.1
    have hg := h1.2.2
    have s := hc.1
    have k := hc.ca
    rw [h0] at cO
    by_cases e : c.F f = c.F g ∧ c.T f = c.T g
    · obtain ⟨eF, eT⟩ := e
      have l0 : lcode c f g true true = 0 := lcode_ok h1 (fun _ => eF) fun _ => eT
      have ok := spE_ok S.thn hp1 c k f g hf hg eF
      have hal : (spE c f g).alone = true → (spE c f g).x = (spE c f g).y := fun h => rfl
      have hP := l13Forks_fi F.hom F.thn hq (spE c f g) k f g rfl (fun a b => rfl) rfl hf hg
      have hN := l13First_fi F.hom F.thn F.maps F.first c k.s (spE c f g).fk 2 (Sp.fk_ok k hal) (by omega) (by omega) (Sp.fk_len k.s)
      have e2 : firstL c (spE c f g).fk = pairL (spE c f g).firstO := Sp.first_fk ok rfl
      rw [e2] at hN
      have tr := S.trip (spE c f g) ok
      have tS := l13Pair_fz ht (spE c f g).firstO
      rw [l0] at cS ⊢
      have ee : (!(c.F f == c.F g && c.T f == c.T g)) = false := by rw [eF, eT]; simp
      refine ⟨OkM.fzt fun H nx => h _ _ _ _ rfl fun hwf => ?_, OkM.fzt fun H nx => hs _ _ _ _ rfl fun hwf => ?_⟩
      · unfold V_EqualizerArrow
        rw [eqL_ok]
        rcases hO : (spE c f g).firstO with _ | ⟨z, p, q⟩
        · rw [hO] at tr
          repeat (first | simp (disch := (first | rfl | with_reducible assumption | with_reducible solve_by_elim (maxDepth := 8) [Shape.inT, Shape.inI, Shape.inC, Shape.inK, Shape.obF, Shape.obT, Shape.arI, Arr.inF] | omega)) only [S2, Nat.reduceEqDiff, Nat.reduceAdd, iput, puts, p_msl2, trip_none, pair_none, ee] | (refine den_call rfl (by first | (simp only [SS, Nat.reduceEqDiff, Nat.reduceAdd, iput, puts, FF, frzL_cat]; done) | (simp only [SS, Nat.reduceEqDiff, Nat.reduceAdd, iput, puts, FF, frzL_cat]; rfl)) (by first | exact cO | exact s.fzEnds K.ends hf | exact s.fzEnds K.ends hg | exact equalizers_fi hp c f g hf | exact tr) ?_) | (refine den_calli rfl (by first | (simp only [SS, Nat.reduceEqDiff, Nat.reduceAdd, iput, puts, FF, frzL_cat]; done) | (simp only [SS, Nat.reduceEqDiff, Nat.reduceAdd, iput, puts, FF, frzL_cat]; rfl)) (by first | exact cO | exact s.fzEnds K.ends hf | exact s.fzEnds K.ends hg | exact equalizers_fi hp c f g hf | exact tr) ?_))
          exact ⟨_, rfl, H, fun _ _ h => h, rfl⟩
        · rw [hO] at tr
          repeat (first | simp (disch := (first | rfl | with_reducible assumption | with_reducible solve_by_elim (maxDepth := 8) [Shape.inT, Shape.inI, Shape.inC, Shape.inK, Shape.obF, Shape.obT, Shape.arI, Arr.inF] | omega)) only [S2, Nat.reduceEqDiff, Nat.reduceAdd, iput, puts, p_msl2, trip_some, pair_some, ee] | (refine den_call rfl (by first | (simp only [SS, Nat.reduceEqDiff, Nat.reduceAdd, iput, puts, FF, frzL_cat]; done) | (simp only [SS, Nat.reduceEqDiff, Nat.reduceAdd, iput, puts, FF, frzL_cat]; rfl)) (by first | exact cO | exact s.fzEnds K.ends hf | exact s.fzEnds K.ends hg | exact equalizers_fi hp c f g hf | exact tr) ?_) | (refine den_calli rfl (by first | (simp only [SS, Nat.reduceEqDiff, Nat.reduceAdd, iput, puts, FF, frzL_cat]; done) | (simp only [SS, Nat.reduceEqDiff, Nat.reduceAdd, iput, puts, FF, frzL_cat]; rfl)) (by first | exact cO | exact s.fzEnds K.ends hf | exact s.fzEnds K.ends hg | exact equalizers_fi hp c f g hf | exact tr) ?_))
          exact ⟨_, rfl, H, fun _ _ h => h, rfl⟩
      · unfold V_spec_EqualizerArrow
        rw [eqL_ok]
        rcases hO : (spE c f g).firstO with _ | ⟨z, p, q⟩
        · rw [hO] at tS hN
          repeat (first | simp (disch := (first | rfl | with_reducible assumption | with_reducible solve_by_elim (maxDepth := 8) [Shape.inT, Shape.inI, Shape.inC, Shape.inK, Shape.obF, Shape.obT, Shape.arI, Arr.inF] | omega)) only [S2, Nat.reduceEqDiff, Nat.reduceAdd, iput, puts, pair_none] | (refine den_call rfl (by first | (simp only [SS, Nat.reduceEqDiff, Nat.reduceAdd, iput, puts, FF, frzL_cat]; done) | (simp only [SS, Nat.reduceEqDiff, Nat.reduceAdd, iput, puts, FF, frzL_cat]; rfl)) (by first | exact cS | exact hP | exact hN | exact tS) ?_) | (refine den_calli rfl (by first | (simp only [SS, Nat.reduceEqDiff, Nat.reduceAdd, iput, puts, FF, frzL_cat]; done) | (simp only [SS, Nat.reduceEqDiff, Nat.reduceAdd, iput, puts, FF, frzL_cat]; rfl)) (by first | exact cS | exact hP | exact hN | exact tS) ?_))
          exact ⟨_, rfl, H, fun _ _ h => h, rfl⟩
        · rw [hO] at tS hN
          repeat (first | simp (disch := (first | rfl | with_reducible assumption | with_reducible solve_by_elim (maxDepth := 8) [Shape.inT, Shape.inI, Shape.inC, Shape.inK, Shape.obF, Shape.obT, Shape.arI, Arr.inF] | omega)) only [S2, Nat.reduceEqDiff, Nat.reduceAdd, iput, puts, pair_some] | (refine den_call rfl (by first | (simp only [SS, Nat.reduceEqDiff, Nat.reduceAdd, iput, puts, FF, frzL_cat]; done) | (simp only [SS, Nat.reduceEqDiff, Nat.reduceAdd, iput, puts, FF, frzL_cat]; rfl)) (by first | exact cS | exact hP | exact hN | exact tS) ?_) | (refine den_calli rfl (by first | (simp only [SS, Nat.reduceEqDiff, Nat.reduceAdd, iput, puts, FF, frzL_cat]; done) | (simp only [SS, Nat.reduceEqDiff, Nat.reduceAdd, iput, puts, FF, frzL_cat]; rfl)) (by first | exact cS | exact hP | exact hN | exact tS) ?_))
          exact ⟨_, rfl, H, fun _ _ h => h, rfl⟩
    · have e' : c.F f ≠ c.F g ∨ c.T f ≠ c.T g := by
        by_cases eF : c.F f = c.F g
        · exact .inr fun eT => e ⟨eF, eT⟩
        · exact .inl eF
      have l5 : lcode c f g true true = 5 := lcode_five h1 (e'.imp (fun h => ⟨rfl, h⟩) fun h => ⟨rfl, h⟩)
      have ee : (!(c.F f == c.F g && c.T f == c.T g)) = true := by
        rcases e' with e' | e' <;> simp [e']
      rw [l5] at cS ⊢
      refine ⟨OkM.fzt fun H nx => h _ _ _ _ rfl fun hwf => ?_, OkM.fzt fun H nx => hs _ _ _ _ rfl fun hwf => ?_⟩
      · unfold V_EqualizerArrow
        rw [eqL_bad (by decide)]
        repeat (first | simp (disch := (first | rfl | with_reducible assumption | with_reducible solve_by_elim (maxDepth := 8) [Shape.inT, Shape.inI, Shape.inC, Shape.inK, Shape.obF, Shape.obT, Shape.arI, Arr.inF] | omega)) only [S2, Nat.reduceEqDiff, Nat.reduceAdd, iput, puts, p_msl2, ee] | (refine den_call rfl (by first | (simp only [SS, Nat.reduceEqDiff, Nat.reduceAdd, iput, puts, FF, frzL_cat]; done) | (simp only [SS, Nat.reduceEqDiff, Nat.reduceAdd, iput, puts, FF, frzL_cat]; rfl)) (by first | exact cO | exact s.fzEnds K.ends hf | exact s.fzEnds K.ends hg) ?_) | (refine den_calli rfl (by first | (simp only [SS, Nat.reduceEqDiff, Nat.reduceAdd, iput, puts, FF, frzL_cat]; done) | (simp only [SS, Nat.reduceEqDiff, Nat.reduceAdd, iput, puts, FF, frzL_cat]; rfl)) (by first | exact cO | exact s.fzEnds K.ends hf | exact s.fzEnds K.ends hg) ?_))
        exact ⟨_, rfl, H, fun _ _ h => h, rfl⟩
      · unfold V_spec_EqualizerArrow
        rw [eqL_bad (by decide)]
        have n5 : ¬ (5 : Int) = 0 := by decide
        repeat (first | simp (disch := (first | rfl | with_reducible assumption | with_reducible solve_by_elim (maxDepth := 8) [Shape.inT, Shape.inI, Shape.inC, Shape.inK, Shape.obF, Shape.obT, Shape.arI, Arr.inF] | omega)) only [S2, Nat.reduceEqDiff, Nat.reduceAdd, iput, puts, n5] | (refine den_call rfl (by first | (simp only [SS, Nat.reduceEqDiff, Nat.reduceAdd, iput, puts, FF, frzL_cat]; done) | (simp only [SS, Nat.reduceEqDiff, Nat.reduceAdd, iput, puts, FF, frzL_cat]; rfl)) (by first | exact cS) ?_) | (refine den_calli rfl (by first | (simp only [SS, Nat.reduceEqDiff, Nat.reduceAdd, iput, puts, FF, frzL_cat]; done) | (simp only [SS, Nat.reduceEqDiff, Nat.reduceAdd, iput, puts, FF, frzL_cat]; rfl)) (by first | exact cS) ?_))
        exact ⟨_, rfl, H, fun _ _ h => h, rfl⟩
  · have lb : lcode c f g true true = code (IsCat c) (Arr c f ∧ Arr c g) := lcode_bad h0
    rw [lb] at cS ⊢
    refine ⟨OkM.fzt fun H nx => h _ _ _ _ rfl fun hwf => ?_, OkM.fzt fun H nx => hs _ _ _ _ rfl fun hwf => ?_⟩
    · unfold V_EqualizerArrow
      rw [eqL_bad h0]
      repeat (first | simp (disch := (first | rfl | with_reducible assumption | with_reducible solve_by_elim (maxDepth := 8) [Shape.inT, Shape.inI, Shape.inC, Shape.inK, Shape.obF, Shape.obT, Shape.arI, Arr.inF] | omega)) only [S2, Nat.reduceEqDiff, Nat.reduceAdd, iput, puts, p_msl2, h0] | (refine den_call rfl (by first | (simp only [SS, Nat.reduceEqDiff, Nat.reduceAdd, iput, puts, FF, frzL_cat]; done) | (simp only [SS, Nat.reduceEqDiff, Nat.reduceAdd, iput, puts, FF, frzL_cat]; rfl)) (by first | exact cO) ?_) | (refine den_calli rfl (by first | (simp only [SS, Nat.reduceEqDiff, Nat.reduceAdd, iput, puts, FF, frzL_cat]; done) | (simp only [SS, Nat.reduceEqDiff, Nat.reduceAdd, iput, puts, FF, frzL_cat]; rfl)) (by first | exact cO) ?_))
      exact ⟨_, rfl, H, fun _ _ h => h, rfl⟩
    · unfold V_spec_EqualizerArrow
      rw [eqL_bad h0]
      repeat (first | simp (disch := (first | rfl | with_reducible assumption | with_reducible solve_by_elim (maxDepth := 8) [Shape.inT, Shape.inI, Shape.inC, Shape.inK, Shape.obF, Shape.obT, Shape.arI, Arr.inF] | omega)) only [S2, Nat.reduceEqDiff, Nat.reduceAdd, iput, puts, h0] | (refine den_call rfl (by first | (simp only [SS, Nat.reduceEqDiff, Nat.reduceAdd, iput, puts, FF, frzL_cat]; done) | (simp only [SS, Nat.reduceEqDiff, Nat.reduceAdd, iput, puts, FF, frzL_cat]; rfl)) (by first | exact cS) ?_) | (refine den_calli rfl (by first | (simp only [SS, Nat.reduceEqDiff, Nat.reduceAdd, iput, puts, FF, frzL_cat]; done) | (simp only [SS, Nat.reduceEqDiff, Nat.reduceAdd, iput, puts, FF, frzL_cat]; rfl)) (by first | exact cS) ?_))
      exact ⟨_, rfl, H, fun _ _ h => h, rfl⟩
theorem EqualizerArrow_both (K : HCat P ν) (A : HArr P ν) (S : HSpan P ν) (hp : Has P ν 321 3 V_Category_equalizers) (hp1 : Has P ν 405 5 V_Category_equalizers_1) (h : Has P ν 170 3 V_EqualizerArrow) (KS : HSpec P ν) (F : HFirst P ν) (ha : Has P ν 245 2 V_spec_l02Arrows) (hl : Has P ν 317 5 V_spec_l13Code) (hq : Has P ν 320 3 V_spec_l13Forks) (ht : Has P ν 318 1 V_spec_l13Pair) (hs : Has P ν 169 3 V_spec_EqualizerArrow) (c : Cat) (b : Small c) (f g : Int) :
    ∃ u v k : Int, BothZ P ν 170 169 [.agg c.cells, int f, int g] (.tup [int u, int v, int k]) := by
  have h := EqualizerArrow_z K A S hp hp1 h KS F ha hl hq ht hs c b f g
  obtain ⟨x, y, z, e⟩ := eqL_three (lcode c f g true true) (spE c f g).firstO
  exact ⟨x, y, z, e ▸ h⟩

theorem Sp.firstO_some {s : Sp} {z p q : Int} (h : s.firstO = some (z, p, q)) : Ob s.c z ∧ (p, q) ∈ s.fr z ∧ s.Uni z p q := by
  unfold Sp.firstO at h
  obtain ⟨n, hn, h2⟩ := List.exists_of_findSome?_eq_some h
  obtain ⟨x, hx, h3⟩ := Option.map_eq_some_iff.1 h2
  obtain ⟨a, b⟩ := x
  simp only [Prod.mk.injEq] at h3
  obtain ⟨rfl, rfl, rfl⟩ := h3
  have m := List.mem_of_find?_eq_some hx
  have u := List.find?_some hx
  have hn := List.mem_range.1 hn
  exact ⟨⟨by omega, by omega⟩, m, of_decide_eq_true u⟩
noncomputable def prL (c : Cat) (a b : Int) : List Int :=
  if code (IsCat c) (Arr c a ∧ Arr c b) = 0 then
    if c.F a = c.F b then
      match (spP c (c.T a) (c.T b)).firstO with
      | none => [0, 4]
      | some x => [((homL c (c.F a) x.1).filter fun u => c.K u x.2.1 == a && c.K u x.2.2 == b).getD 0 0, 0]
    else [0, 5]
  else [0, code (IsCat c) (Arr c a ∧ Arr c b)]
theorem prL_two (c : Cat) (a b : Int) : ∃ x k : Int, AV.tup (ints (prL c a b)) = .tup [int x, int k] := by
  unfold prL
  split
  · split
    · split <;> exact ⟨_, _, rfl⟩
    · exact ⟨_, _, rfl⟩
  · exact ⟨_, _, rfl⟩
def V_PairArrows : Vc :=
  .op true (.p .box [.t 0]) <|
  .op true (.p (.msl 2 [int 0, int 0] [(0, 1), (1, 1)]) [.t 1, .t 2]) <|
  .op true (.call (.f 18) [.t 3, .t 4]) <|
  .op true (.p (.bin .neq) [.t 5, .c (int 0)]) <|
  .br 6
   (.ret [(.c (int 0), none), (.t 5, none)])
   (.op true (.p (.fad 1) [.t 3]) <|
   .op true (.p (.ld none) [.t 7]) <|
   .op true (.p (.iad 1) [.t 8, .t 1]) <|
   .op true (.p (.ld none) [.t 9]) <|
   .op true (.p (.fad 1) [.t 3]) <|
   .op true (.p (.ld none) [.t 11]) <|
   .op true (.p (.iad 1) [.t 12, .t 2]) <|
   .op true (.p (.ld none) [.t 13]) <|
   .op true (.p (.bin .neq) [.t 10, .t 14]) <|
   .br 15
    (.ret [(.c (int 0), none), (.c (int 5), none)])
    (.op true (.p (.fad 2) [.t 3]) <|
    .op true (.p (.ld none) [.t 16]) <|
    .op true (.p (.iad 1) [.t 17, .t 1]) <|
    .op true (.p (.ld none) [.t 18]) <|
    .op true (.p (.fad 2) [.t 3]) <|
    .op true (.p (.ld none) [.t 20]) <|
    .op true (.p (.iad 1) [.t 21, .t 2]) <|
    .op true (.p (.ld none) [.t 22]) <|
    .op true (.call (.f 307) [.t 3, .t 19, .t 23]) <|
    .op true (.call (.f 308) [.t 24]) <|
    .op true (.p (.ext 0) [.t 25]) <|
    .op true (.p (.ext 1) [.t 25]) <|
    .op true (.p (.ext 2) [.t 25]) <|
    .op true (.p (.ext 3) [.t 25]) <|
    .op true (.p (.bin .neq) [.t 29, .c (int 0)]) <|
    .br 30
     (.ret [(.c (int 0), none), (.t 29, none)])
     (.op true (.p (.fad 1) [.t 3]) <|
     .op true (.p (.ld none) [.t 31]) <|
     .op true (.p (.iad 1) [.t 32, .t 1]) <|
     .op true (.p (.ld none) [.t 33]) <|
     .op true (.call (.f 33) [.t 3, .t 34, .t 26]) <|
     .op true (.p .len [.t 35]) <|
     .loop 0 [.c (int 0)] <|
     .op true (.p (.bin .lss) [.t 37, .t 36]) <|
     .br 38
      (.op true (.p (.iad 1) [.t 35, .t 37]) <|
      .op true (.p (.ld none) [.t 39]) <|
      .op true (.call (.f 34) [.t 3, .t 40, .t 27]) <|
      .op true (.p (.bin .eql) [.t 41, .t 1]) <|
      .br 42
       (.op true (.call (.f 34) [.t 3, .t 40, .t 28]) <|
       .op true (.p (.bin .eql) [.t 43, .t 2]) <|
       .br 44
        (.ret [(.t 40, none), (.c (int 0), none)])
        (.op true (.p (.bin .add) [.t 37, .c (int 1)]) <|
        .again 0 [.t 45]))
       (.op true (.p (.bin .add) [.t 37, .c (int 1)]) <|
       .again 0 [.t 43]))
      (.ret [(.c (int 0), none), (.c (int 4), none)]))))
def V_spec_PairArrows : Vc :=
  .op true (.p .box [.t 0]) <|
  .op true (.p (.ld (some 5)) [.t 3]) <|
  .op true (.p (.msl 2 [int 0, int 0] [(0, 1), (1, 1)]) [.t 1, .t 2]) <|
  .op true (.call (.f 245) [.t 4, .t 5]) <|
  .op true (.p (.bin .neq) [.t 6, .c (int 0)]) <|
  .br 7
   (.ret [(.c (int 0), none), (.t 6, none)])
   (.op true (.p (.fad 1) [.t 3]) <|
   .op true (.p (.ld none) [.t 8]) <|
   .op true (.p (.iad 1) [.t 9, .t 1]) <|
   .op true (.p (.ld none) [.t 10]) <|
   .op true (.p (.fad 1) [.t 3]) <|
   .op true (.p (.ld none) [.t 12]) <|
   .op true (.p (.iad 1) [.t 13, .t 2]) <|
   .op true (.p (.ld none) [.t 14]) <|
   .op true (.p (.bin .neq) [.t 11, .t 15]) <|
   .br 16
    (.ret [(.c (int 0), none), (.c (int 5), none)])
    (.op true (.p (.ld (some 5)) [.t 3]) <|
    .op true (.p (.fad 2) [.t 3]) <|
    .op true (.p (.ld none) [.t 18]) <|
    .op true (.p (.iad 1) [.t 19, .t 1]) <|
    .op true (.p (.ld none) [.t 20]) <|
    .op true (.p (.fad 2) [.t 3]) <|
    .op true (.p (.ld none) [.t 22]) <|
    .op true (.p (.iad 1) [.t 23, .t 2]) <|
    .op true (.p (.ld none) [.t 24]) <|
    .op true (.call (.f 305) [.t 17, .t 21, .t 25]) <|
    .op true (.p .len [.t 26]) <|
    .op true (.p (.bin .eql) [.t 27, .c (int 0)]) <|
    .br 28
     (.ret [(.c (int 0), none), (.c (int 4), none)])
     (.op true (.p (.ld (some 5)) [.t 3]) <|
     .op true (.p (.fad 1) [.t 3]) <|
     .op true (.p (.ld none) [.t 30]) <|
     .op true (.p (.iad 1) [.t 31, .t 1]) <|
     .op true (.p (.ld none) [.t 32]) <|
     .op true (.p (.msl 3 [int 0, int 0, int 0] [(0, 1), (1, 1), (2, 1)]) [.t 33, .t 1, .t 2]) <|
     .op true (.call (.f 322) [.t 29, .t 34, .t 26]) <|
     .op true (.p (.iad 1) [.t 35, .c (int 0)]) <|
     .op true (.p (.ld none) [.t 36]) <|
     .ret [(.t 37, none), (.c (int 0), none)])))
set_option maxHeartbeats 2000000 in
theorem PairArrows_z (K : HCat P ν) (A : HArr P ν) (S : HSpan P ν) (hp : Has P ν 307 3 V_Category_products) (hp1 : Has P ν 401 2 V_Category_products_1) (h : Has P ν 172 3 V_PairArrows) (KS : HSpec P ν) (F : HFirst P ν) (ha : Has P ν 245 2 V_spec_l02Arrows) (hq : Has P ν 400 5 V_spec_l13Squares) (hd : Has P ν 305 3 V_spec_l13Product) (hs : Has P ν 171 3 V_spec_PairArrows) (c : Cat) (b : Small c) (f g : Int) :
    BothZ P ν 172 171 [.agg c.cells, int f, int g] (.tup (ints (prL c f g))) := by
  have cO := arrowCode_fz K A.code c b [f, g] (by simp) (Wn2 c f g)
  have cS := l02Arrows_fz KS ha c b [f, g] (by simp) (Wn2 c f g)
  by_cases h0 : code (IsCat c) (Arr c f ∧ Arr c g) = 0
  · have h1 := code_zero.1 h0
    have hc := h1.1
    have hf := h1.2.1
    have hg := h1.2.2
    have s := hc.1
    have k := hc.ca
    have fF := hf.inF
    have gF := hg.inF
    have fT := s.inT hf
    have gT := s.inT hg
    rw [h0] at cO cS
    by_cases e : c.F f = c.F g
    · have ok := spP_ok hp1 c k (c.T f) (c.T g)
      have hP := l13Product_fi F hq hd c k (c.T f) (c.T g)
      have e2 : firstL c (spP c (c.T f) (c.T g)).sq = tripL (spP c (c.T f) (c.T g)).firstO := Sp.first_sq ok
      rw [e2] at hP
      have tr := S.trip (spP c (c.T f) (c.T g)) ok
      rcases hO : (spP c (c.T f) (c.T g)).firstO with _ | ⟨z, p, q⟩
      · have eV : prL c f g = [0, 4] := by unfold prL; rw [if_pos h0, if_pos e, hO]
        rw [hO] at tr hP
        have e3 : tripL none = [] := rfl
        rw [e3] at hP
        rw [eV]
        refine ⟨OkM.fzt fun H nx => h _ _ _ _ rfl fun hwf => ?_, OkM.fzt fun H nx => hs _ _ _ _ rfl fun hwf => ?_⟩
        · unfold V_PairArrows
          have n4 : ¬ (4 : Int) = 0 := by decide
          repeat (first | simp (disch := (first | rfl | with_reducible assumption | with_reducible solve_by_elim (maxDepth := 8) [Shape.inT, Shape.inI, Shape.inC, Shape.inK, Shape.obF, Shape.obT, Shape.arI, Arr.inF] | omega)) only [S2, Nat.reduceEqDiff, Nat.reduceAdd, iput, puts, p_msl2, trip_none, e, n4] | (refine den_call rfl (by first | (simp only [SS, Nat.reduceEqDiff, Nat.reduceAdd, iput, puts, FF, frzL_cat]; done) | (simp only [SS, Nat.reduceEqDiff, Nat.reduceAdd, iput, puts, FF, frzL_cat]; rfl)) (by first | exact cO | exact products_fi hp c (c.T f) (c.T g) | exact tr) ?_) | (refine den_calli rfl (by first | (simp only [SS, Nat.reduceEqDiff, Nat.reduceAdd, iput, puts, FF, frzL_cat]; done) | (simp only [SS, Nat.reduceEqDiff, Nat.reduceAdd, iput, puts, FF, frzL_cat]; rfl)) (by first | exact cO | exact products_fi hp c (c.T f) (c.T g) | exact tr) ?_))
          exact ⟨_, rfl, H, fun _ _ h => h, rfl⟩
        · unfold V_spec_PairArrows
          have n0 : ((0 : Nat) : Int) = 0 := rfl
          repeat (first | simp (disch := (first | rfl | with_reducible assumption | with_reducible solve_by_elim (maxDepth := 8) [Shape.inT, Shape.inI, Shape.inC, Shape.inK, Shape.obF, Shape.obT, Shape.arI, Arr.inF] | omega)) only [S2, Nat.reduceEqDiff, Nat.reduceAdd, iput, puts, p_msl2, e, List.length_nil, n0] | (refine den_call rfl (by first | (simp only [SS, Nat.reduceEqDiff, Nat.reduceAdd, iput, puts, FF, frzL_cat]; done) | (simp only [SS, Nat.reduceEqDiff, Nat.reduceAdd, iput, puts, FF, frzL_cat]; rfl)) (by first | exact cS | exact hP) ?_) | (refine den_calli rfl (by first | (simp only [SS, Nat.reduceEqDiff, Nat.reduceAdd, iput, puts, FF, frzL_cat]; done) | (simp only [SS, Nat.reduceEqDiff, Nat.reduceAdd, iput, puts, FF, frzL_cat]; rfl)) (by first | exact cS | exact hP) ?_))
          exact ⟨_, rfl, H, fun _ _ h => h, rfl⟩
      · obtain ⟨zo, hm, hU⟩ := Sp.firstO_some hO
        obtain ⟨⟨pA, pF, pT⟩, qA, qF, qT⟩ := Sp.fr_arr (s := spP c (c.T f) (c.T g)) k (fun h => by cases h) hm
        have pA : Arr c p := pA
        have qA : Arr c q := qA
        have one : ((homL c (c.F f) z).filter fun u => c.K u p == f && c.K u q == g).length = 1 := by
          have fo : Ob c (c.F f) := s.obF hf
          have := (Sp.uni_iff ok hm).1 (hU (c.F f) fo) (f, g) (Sp.fr_mem.2 ⟨mem_hom.2 ⟨hf, rfl, rfl⟩, rfl, (fun h => by cases h), fun _ => mem_hom.2 ⟨hg, e.symm, rfl⟩⟩)
          exact this
        have eV : prL c f g = [((homL c (c.F f) z).filter fun u => c.K u p == f && c.K u q == g).getD 0 0, 0] := by unfold prL; rw [if_pos h0, if_pos e, hO]
        rw [hO] at tr hP
        have e3 : tripL (some (z, p, q)) = [z, p, q] := rfl
        rw [e3] at hP
        rw [eV]
        refine ⟨OkM.fzt fun H nx => h _ _ _ _ rfl fun hwf => ?_, OkM.fzt fun H nx => hs _ _ _ _ rfl fun hwf => ?_⟩
        · unfold V_PairArrows
          have l1 := homL_len s (c.F f) z
          have hH := s.homFz S.hom (c.F f) z
          repeat (first | simp (disch := (first | rfl | with_reducible assumption | with_reducible solve_by_elim (maxDepth := 8) [Shape.inT, Shape.inI, Shape.inC, Shape.inK, Shape.obF, Shape.obT, Shape.arI, Arr.inF] | omega)) only [S2, Nat.reduceEqDiff, Nat.reduceAdd, iput, puts, p_msl2, trip_some, e] | (refine den_call rfl (by first | (simp only [SS, Nat.reduceEqDiff, Nat.reduceAdd, iput, puts, FF, frzL_cat]; done) | (simp only [SS, Nat.reduceEqDiff, Nat.reduceAdd, iput, puts, FF, frzL_cat]; rfl)) (by first | exact cO | exact products_fi hp c (c.T f) (c.T g) | exact tr) ?_) | (refine den_calli rfl (by first | (simp only [SS, Nat.reduceEqDiff, Nat.reduceAdd, iput, puts, FF, frzL_cat]; done) | (simp only [SS, Nat.reduceEqDiff, Nat.reduceAdd, iput, puts, FF, frzL_cat]; rfl)) (by first | exact cO | exact products_fi hp c (c.T f) (c.T g) | exact tr) ?_))
          rw [← e]
          repeat (first | simp (disch := (first | rfl | with_reducible assumption | with_reducible solve_by_elim (maxDepth := 8) [Shape.inT, Shape.inI, Shape.inC, Shape.inK, Shape.obF, Shape.obT, Shape.arI, Arr.inF] | omega)) only [S2, Nat.reduceEqDiff, Nat.reduceAdd, iput, puts] | (refine den_call rfl (by first | (simp only [SS, Nat.reduceEqDiff, Nat.reduceAdd, iput, puts, FF, frzL_cat]; done) | (simp only [SS, Nat.reduceEqDiff, Nat.reduceAdd, iput, puts, FF, frzL_cat]; rfl)) (by first | exact hH) ?_) | (refine den_calli rfl (by first | (simp only [SS, Nat.reduceEqDiff, Nat.reduceAdd, iput, puts, FF, frzL_cat]; done) | (simp only [SS, Nat.reduceEqDiff, Nat.reduceAdd, iput, puts, FF, frzL_cat]; rfl)) (by first | exact hH) ?_))
          refine den_for (homL c (c.F f) z).length (fun i => ∀ j, j < i → (fun u => c.K u p == f && c.K u q == g) ((homL c (c.F f) z).getD j 0) = false) (fun j hj => by omega) fun i hi hpi => ?_
          by_cases hlt : i < (homL c (c.F f) z).length
          · have i1 : In (homL c (c.F f) z) (i : Int) := In.nat hlt
            have a := hom_arr hlt
            have next : ((fun u => c.K u p == f && c.K u q == g) ((homL c (c.F f) z).getD i 0) = false) → ∀ j, j < i + 1 → (fun u => c.K u p == f && c.K u q == g) ((homL c (c.F f) z).getD j 0) = false := fun h j hj => by
              by_cases ej : j = i
              · rw [ej]; exact h
              · exact hpi j (by omega)
            repeat (first | simp (disch := (first | rfl | with_reducible assumption | with_reducible solve_by_elim (maxDepth := 8) [Shape.inT, Shape.inI, Shape.inC, Shape.inK, Shape.obF, Shape.obT, Shape.arI, Arr.inF] | omega)) only [S2, Nat.reduceEqDiff, Nat.reduceAdd, iput, puts, hlt, gI_nat] | (refine den_call rfl (by first | (simp only [SS, Nat.reduceEqDiff, Nat.reduceAdd, iput, puts, FF, frzL_cat]; done) | (simp only [SS, Nat.reduceEqDiff, Nat.reduceAdd, iput, puts, FF, frzL_cat]; rfl)) (by first | exact s.fzThen S.thn a pA | exact s.fzThen S.thn a qA) ?_) | (refine den_calli rfl (by first | (simp only [SS, Nat.reduceEqDiff, Nat.reduceAdd, iput, puts, FF, frzL_cat]; done) | (simp only [SS, Nat.reduceEqDiff, Nat.reduceAdd, iput, puts, FF, frzL_cat]; rfl)) (by first | exact s.fzThen S.thn a pA | exact s.fzThen S.thn a qA) ?_))
            refine ⟨fun h3 => ?_, fun h3 => ?_⟩
            · repeat (first | simp (disch := (first | rfl | with_reducible assumption | with_reducible solve_by_elim (maxDepth := 8) [Shape.inT, Shape.inI, Shape.inC, Shape.inK, Shape.obF, Shape.obT, Shape.arI, Arr.inF] | omega)) only [S2, Nat.reduceEqDiff, Nat.reduceAdd, iput, puts, gI_nat] | (refine den_call rfl (by first | (simp only [SS, Nat.reduceEqDiff, Nat.reduceAdd, iput, puts, FF, frzL_cat]; done) | (simp only [SS, Nat.reduceEqDiff, Nat.reduceAdd, iput, puts, FF, frzL_cat]; rfl)) (by first | exact s.fzThen S.thn a pA | exact s.fzThen S.thn a qA) ?_) | (refine den_calli rfl (by first | (simp only [SS, Nat.reduceEqDiff, Nat.reduceAdd, iput, puts, FF, frzL_cat]; done) | (simp only [SS, Nat.reduceEqDiff, Nat.reduceAdd, iput, puts, FF, frzL_cat]; rfl)) (by first | exact s.fzThen S.thn a pA | exact s.fzThen S.thn a qA) ?_))
              refine ⟨fun h4 => ?_, fun h4 => ?_⟩
              · refine ⟨_, rfl, H, fun _ _ h => h, ?_⟩
                rw [filter_first hlt (by simp only [h3, h4, beq_self_eq_true, Bool.and_self]) hpi]
                rfl
              · try simp (disch := (first | rfl | with_reducible assumption | with_reducible solve_by_elim (maxDepth := 8) [Shape.inT, Shape.inI, Shape.inC, Shape.inK, Shape.obF, Shape.obT, Shape.arI, Arr.inF] | omega)) only [S2, Nat.reduceEqDiff, Nat.reduceAdd, iput, puts]
                exact up rfl hlt (next (by simp only [beq_eq_false_iff_ne.2 h4, Bool.and_false]))
            · try simp (disch := (first | rfl | with_reducible assumption | with_reducible solve_by_elim (maxDepth := 8) [Shape.inT, Shape.inI, Shape.inC, Shape.inK, Shape.obF, Shape.obT, Shape.arI, Arr.inF] | omega)) only [S2, Nat.reduceEqDiff, Nat.reduceAdd, iput, puts]
              exact up rfl hlt (next (by simp only [beq_eq_false_iff_ne.2 h3, Bool.false_and]))
          · exfalso
            have : ((homL c (c.F f) z).filter fun u => c.K u p == f && c.K u q == g) = [] := by
              rw [List.filter_eq_nil_iff]
              intro u hu
              obtain ⟨j, hj, rfl⟩ := List.getElem_of_mem hu
              have e9 : (homL c (c.F f) z).getD j 0 = (homL c (c.F f) z)[j] := by simp [List.getD, hj]
              have e8 : (c.K ((homL c (c.F f) z).getD j 0) p == f && c.K ((homL c (c.F f) z).getD j 0) q == g) = false := hpi j (by omega)
              rw [e9] at e8
              rw [e8]; decide
            rw [this] at one
            cases one
        · unfold V_spec_PairArrows
          have hM := l13Maps_fz F.hom F.thn F.maps c s [c.F f, f, g] [z, p, q] (by simp) (by simp) (by simp) (fun i hi => by
            match i, hi with
            | 0, _ => exact pA
            | 1, _ => exact qA)
          rw [mapsL3] at hM
          have i0 : In ((homL c (c.F f) z).filter fun u => c.K u p == f && c.K u q == g) 0 := ⟨by omega, by rw [one]; decide⟩
          have g0 : gI ((homL c (c.F f) z).filter fun u => c.K u p == f && c.K u q == g) 0 = ((homL c (c.F f) z).filter fun u => c.K u p == f && c.K u q == g).getD 0 0 := rfl
          have l3 : [z, p, q].length = 3 := rfl
          have n3 : ¬ ((3 : Nat) : Int) = 0 := by decide
          have p3 : ∀ (H : Hp) (x y z : Int), pvf H (.msl 3 [int 0, int 0, int 0] [(0, 1), (1, 1), (2, 1)]) [int x, int y, int z] = some (islice [x, y, z]) := fun _ _ _ _ => rfl
          rw [e] at hM i0 g0 ⊢
          repeat (first | simp (disch := (first | rfl | with_reducible assumption | with_reducible solve_by_elim (maxDepth := 8) [Shape.inT, Shape.inI, Shape.inC, Shape.inK, Shape.obF, Shape.obT, Shape.arI, Arr.inF] | omega)) only [S2, Nat.reduceEqDiff, Nat.reduceAdd, iput, puts, p_msl2, p3, e, l3, n3, g0] | (refine den_call rfl (by first | (simp only [SS, Nat.reduceEqDiff, Nat.reduceAdd, iput, puts, FF, frzL_cat]; done) | (simp only [SS, Nat.reduceEqDiff, Nat.reduceAdd, iput, puts, FF, frzL_cat]; rfl)) (by first | exact cS | exact hP | exact hM) ?_) | (refine den_calli rfl (by first | (simp only [SS, Nat.reduceEqDiff, Nat.reduceAdd, iput, puts, FF, frzL_cat]; done) | (simp only [SS, Nat.reduceEqDiff, Nat.reduceAdd, iput, puts, FF, frzL_cat]; rfl)) (by first | exact cS | exact hP | exact hM) ?_))
          exact ⟨_, rfl, H, fun _ _ h => h, rfl⟩
    · have eV : prL c f g = [0, 5] := by unfold prL; rw [if_pos h0, if_neg e]
      rw [eV]
      refine ⟨OkM.fzt fun H nx => h _ _ _ _ rfl fun hwf => ?_, OkM.fzt fun H nx => hs _ _ _ _ rfl fun hwf => ?_⟩
      · unfold V_PairArrows
        repeat (first | simp (disch := (first | rfl | with_reducible assumption | with_reducible solve_by_elim (maxDepth := 8) [Shape.inT, Shape.inI, Shape.inC, Shape.inK, Shape.obF, Shape.obT, Shape.arI, Arr.inF] | omega)) only [S2, Nat.reduceEqDiff, Nat.reduceAdd, iput, puts, p_msl2, e] | (refine den_call rfl (by first | (simp only [SS, Nat.reduceEqDiff, Nat.reduceAdd, iput, puts, FF, frzL_cat]; done) | (simp only [SS, Nat.reduceEqDiff, Nat.reduceAdd, iput, puts, FF, frzL_cat]; rfl)) (by first | exact cO) ?_) | (refine den_calli rfl (by first | (simp only [SS, Nat.reduceEqDiff, Nat.reduceAdd, iput, puts, FF, frzL_cat]; done) | (simp only [SS, Nat.reduceEqDiff, Nat.reduceAdd, iput, puts, FF, frzL_cat]; rfl)) (by first | exact cO) ?_))
        exact ⟨_, rfl, H, fun _ _ h => h, rfl⟩
      · unfold V_spec_PairArrows
        repeat (first | simp (disch := (first | rfl | with_reducible assumption | with_reducible solve_by_elim (maxDepth := 8) [Shape.inT, Shape.inI, Shape.inC, Shape.inK, Shape.obF, Shape.obT, Shape.arI, Arr.inF] | omega)) only [S2, Nat.reduceEqDiff, Nat.reduceAdd, iput, puts, p_msl2, e] | (refine den_call rfl (by first | (simp only [SS, Nat.reduceEqDiff, Nat.reduceAdd, iput, puts, FF, frzL_cat]; done) | (simp only [SS, Nat.reduceEqDiff, Nat.reduceAdd, iput, puts, FF, frzL_cat]; rfl)) (by first | exact cS) ?_) | (refine den_calli rfl (by first | (simp only [SS, Nat.reduceEqDiff, Nat.reduceAdd, iput, puts, FF, frzL_cat]; done) | (simp only [SS, Nat.reduceEqDiff, Nat.reduceAdd, iput, puts, FF, frzL_cat]; rfl)) (by first | exact cS) ?_))
        exact ⟨_, rfl, H, fun _ _ h => h, rfl⟩
  · have eV : prL c f g = [0, code (IsCat c) (Arr c f ∧ Arr c g)] := by unfold prL; rw [if_neg h0]
    rw [eV]
    refine ⟨OkM.fzt fun H nx => h _ _ _ _ rfl fun hwf => ?_, OkM.fzt fun H nx => hs _ _ _ _ rfl fun hwf => ?_⟩
    · unfold V_PairArrows
      repeat (first | simp (disch := (first | rfl | with_reducible assumption | with_reducible solve_by_elim (maxDepth := 8) [Shape.inT, Shape.inI, Shape.inC, Shape.inK, Shape.obF, Shape.obT, Shape.arI, Arr.inF] | omega)) only [S2, Nat.reduceEqDiff, Nat.reduceAdd, iput, puts, p_msl2, h0] | (refine den_call rfl (by first | (simp only [SS, Nat.reduceEqDiff, Nat.reduceAdd, iput, puts, FF, frzL_cat]; done) | (simp only [SS, Nat.reduceEqDiff, Nat.reduceAdd, iput, puts, FF, frzL_cat]; rfl)) (by first | exact cO) ?_) | (refine den_calli rfl (by first | (simp only [SS, Nat.reduceEqDiff, Nat.reduceAdd, iput, puts, FF, frzL_cat]; done) | (simp only [SS, Nat.reduceEqDiff, Nat.reduceAdd, iput, puts, FF, frzL_cat]; rfl)) (by first | exact cO) ?_))
      exact ⟨_, rfl, H, fun _ _ h => h, rfl⟩
    · unfold V_spec_PairArrows
      repeat (first | simp (disch := (first | rfl | with_reducible assumption | with_reducible solve_by_elim (maxDepth := 8) [Shape.inT, Shape.inI, Shape.inC, Shape.inK, Shape.obF, Shape.obT, Shape.arI, Arr.inF] | omega)) only [S2, Nat.reduceEqDiff, Nat.reduceAdd, iput, puts, p_msl2, h0] | (refine den_call rfl (by first | (simp only [SS, Nat.reduceEqDiff, Nat.reduceAdd, iput, puts, FF, frzL_cat]; done) | (simp only [SS, Nat.reduceEqDiff, Nat.reduceAdd, iput, puts, FF, frzL_cat]; rfl)) (by first | exact cS) ?_) | (refine den_calli rfl (by first | (simp only [SS, Nat.reduceEqDiff, Nat.reduceAdd, iput, puts, FF, frzL_cat]; done) | (simp only [SS, Nat.reduceEqDiff, Nat.reduceAdd, iput, puts, FF, frzL_cat]; rfl)) (by first | exact cS) ?_))
      exact ⟨_, rfl, H, fun _ _ h => h, rfl⟩
theorem PairArrows_both (K : HCat P ν) (A : HArr P ν) (S : HSpan P ν) (hp : Has P ν 307 3 V_Category_products) (hp1 : Has P ν 401 2 V_Category_products_1) (h : Has P ν 172 3 V_PairArrows) (KS : HSpec P ν) (F : HFirst P ν) (ha : Has P ν 245 2 V_spec_l02Arrows) (hq : Has P ν 400 5 V_spec_l13Squares) (hd : Has P ν 305 3 V_spec_l13Product) (hs : Has P ν 171 3 V_spec_PairArrows) (c : Cat) (b : Small c) (f g : Int) :
    ∃ u k : Int, BothZ P ν 172 171 [.agg c.cells, int f, int g] (.tup [int u, int k]) := by
  have h := PairArrows_z K A S hp hp1 h KS F ha hq hd hs c b f g
  obtain ⟨x, y, e⟩ := prL_two c f g
  exact ⟨x, y, e ▸ h⟩
end Go.Av
