/-
  Objects among the arguments.
-/
import Derived.Test.YtalfoffamemfnaaAvD0
import Derived.Test.YtalfoffamemfnaaAvB4
namespace Go.Av
open Classical
set_option linter.unusedSimpArgs false
set_option linter.unusedVariables false
variable {P : Program} {ν : Nat → FuncId}

theorem Wn2o (c : Cat) (x y : Int) : Wn [x, y] c.o ↔ Ob c x ∧ Ob c y := by rw [Wn_cons, Wn_one]; exact Iff.rfl
def V_objectCode : Vc :=
  .op true (.call (.f 24) [.t 0]) <|
  .op true (.p .bnot [.t 2]) <|
  .br 3
   (.ret [(.c (int 1), none)])
   (.op true (.p .nck [.t 0]) <|
   .op true (.p (.fad 0) [.t 4]) <|
   .op true (.p (.ld none) [.t 5]) <|
   .op true (.call (.f 25) [.t 1, .t 6]) <|
   .op true (.p .bnot [.t 7]) <|
   .br 8
    (.ret [(.c (int 2), none)])
    (.ret [(.c (int 0), none)]))
theorem objectCode_fz (K : HCat P ν) (h : Has P ν 306 2 V_objectCode) (c : Cat) (b : Small c) (l : List Int) (hl : l.length ≤ 1048576) {R : Prop} [Decidable R] (hR : Wn l c.o ↔ R) : Fz (OkM P ν) 306 [.ptr c.cells 0, islice l] (int (code (IsCat c) R)) := by
  rw [← code_congr (a := IsCat c) hR]
  refine Fn.fzi fun H nx => h _ _ _ _ rfl fun hwf => ?_
  unfold V_objectCode
  repeat (first | simp (disch := (first | rfl | with_reducible assumption | with_reducible solve_by_elim (maxDepth := 8) [Shape.inT, Shape.inI, Shape.inC, Shape.inK, Shape.obF, Shape.obT, Shape.arI, Arr.inF] | omega)) only [S2, Nat.reduceEqDiff, Nat.reduceAdd, iput, puts] | (refine den_call rfl (by first | (simp only [SS, Nat.reduceEqDiff, Nat.reduceAdd, iput, puts, FF, frzL_cat]; done) | (simp only [SS, Nat.reduceEqDiff, Nat.reduceAdd, iput, puts, FF, frzL_cat]; rfl)) (by first | exact (isCategory_ok K c b).fzb) ?_) | (refine den_calli rfl (by first | (simp only [SS, Nat.reduceEqDiff, Nat.reduceAdd, iput, puts, FF, frzL_cat]; done) | (simp only [SS, Nat.reduceEqDiff, Nat.reduceAdd, iput, puts, FF, frzL_cat]; rfl)) (by first | exact (isCategory_ok K c b).fzb) ?_))
  refine ⟨fun h1 => ?_, fun h1 => ?_⟩
  · exact ⟨_, rfl, H, fun _ _ h => h, by rw [code, if_neg h1]; rfl, rfl, Nat.le_refl _⟩
  have o0 := h1.1.o0
  have o8 := h1.1.o8
  repeat (first | simp (disch := (first | rfl | with_reducible assumption | with_reducible solve_by_elim (maxDepth := 8) [Shape.inT, Shape.inI, Shape.inC, Shape.inK, Shape.obF, Shape.obT, Shape.arI, Arr.inF] | omega)) only [S2, Nat.reduceEqDiff, Nat.reduceAdd, iput, puts] | (refine den_call rfl (by first | (simp only [SS, Nat.reduceEqDiff, Nat.reduceAdd, iput, puts, FF, frzL_cat]; done) | (simp only [SS, Nat.reduceEqDiff, Nat.reduceAdd, iput, puts, FF, frzL_cat]; rfl)) (by first | exact (within_ok K.inRange K.within l c.o (by omega) (by omega) (by omega)).fzb) ?_) | (refine den_calli rfl (by first | (simp only [SS, Nat.reduceEqDiff, Nat.reduceAdd, iput, puts, FF, frzL_cat]; done) | (simp only [SS, Nat.reduceEqDiff, Nat.reduceAdd, iput, puts, FF, frzL_cat]; rfl)) (by first | exact (within_ok K.inRange K.within l c.o (by omega) (by omega) (by omega)).fzb) ?_))
  refine ⟨fun h2 => ?_, fun h2 => ?_⟩
  · exact ⟨_, rfl, H, fun _ _ h => h, by rw [code, if_pos h1, if_neg h2]; rfl, rfl, Nat.le_refl _⟩
  · exact ⟨_, rfl, H, fun _ _ h => h, by rw [code, if_pos h1, if_pos h2]; rfl, rfl, Nat.le_refl _⟩
def V_spec_l02Objects : Vc :=
  .op true (.p .box [.t 0]) <|
  .op true (.p (.ld (some 5)) [.t 2]) <|
  .op true (.call (.f 22) [.t 3]) <|
  .op true (.p .bnot [.t 4]) <|
  .br 5
   (.ret [(.c (int 1), none)])
   (.op true (.p (.fad 0) [.t 2]) <|
   .op true (.p (.ld none) [.t 6]) <|
   .op true (.call (.f 37) [.t 7, .t 1]) <|
   .op true (.p .bnot [.t 8]) <|
   .br 9
    (.ret [(.c (int 2), none)])
    (.ret [(.c (int 0), none)]))
theorem l02Objects_fz (K : HSpec P ν) (h : Has P ν 303 2 V_spec_l02Objects) (c : Cat) (b : Small c) (l : List Int) (hl : l.length ≤ 1048576) {R : Prop} [Decidable R] (hR : Wn l c.o ↔ R) : Fz (OkM P ν) 303 [.agg c.cells, islice l] (int (code (IsCat c) R)) := by
  rw [← code_congr (a := IsCat c) hR]
  refine Fn.fzi fun H nx => h _ _ _ _ rfl fun hwf => ?_
  unfold V_spec_l02Objects
  repeat (first | simp (disch := (first | rfl | with_reducible assumption | with_reducible solve_by_elim (maxDepth := 8) [Shape.inT, Shape.inI, Shape.inC, Shape.inK, Shape.obF, Shape.obT, Shape.arI, Arr.inF] | omega)) only [S2, Nat.reduceEqDiff, Nat.reduceAdd, iput, puts] | (refine den_call rfl (by first | (simp only [SS, Nat.reduceEqDiff, Nat.reduceAdd, iput, puts, FF, frzL_cat]; done) | (simp only [SS, Nat.reduceEqDiff, Nat.reduceAdd, iput, puts, FF, frzL_cat]; rfl)) (by first | exact (l02Is_ok K c b).fzb) ?_) | (refine den_calli rfl (by first | (simp only [SS, Nat.reduceEqDiff, Nat.reduceAdd, iput, puts, FF, frzL_cat]; done) | (simp only [SS, Nat.reduceEqDiff, Nat.reduceAdd, iput, puts, FF, frzL_cat]; rfl)) (by first | exact (l02Is_ok K c b).fzb) ?_))
  refine ⟨fun h1 => ?_, fun h1 => ?_⟩
  · exact ⟨_, rfl, H, fun _ _ h => h, by rw [code, if_neg h1]; rfl, rfl, Nat.le_refl _⟩
  repeat (first | simp (disch := (first | rfl | with_reducible assumption | with_reducible solve_by_elim (maxDepth := 8) [Shape.inT, Shape.inI, Shape.inC, Shape.inK, Shape.obF, Shape.obT, Shape.arI, Arr.inF] | omega)) only [S2, Nat.reduceEqDiff, Nat.reduceAdd, iput, puts] | (refine den_call rfl (by first | (simp only [SS, Nat.reduceEqDiff, Nat.reduceAdd, iput, puts, FF, frzL_cat]; done) | (simp only [SS, Nat.reduceEqDiff, Nat.reduceAdd, iput, puts, FF, frzL_cat]; rfl)) (by first | exact (l01Map_ok K.l01Map l c.o (by omega)).fzb) ?_) | (refine den_calli rfl (by first | (simp only [SS, Nat.reduceEqDiff, Nat.reduceAdd, iput, puts, FF, frzL_cat]; done) | (simp only [SS, Nat.reduceEqDiff, Nat.reduceAdd, iput, puts, FF, frzL_cat]; rfl)) (by first | exact (l01Map_ok K.l01Map l c.o (by omega)).fzb) ?_))
  refine ⟨fun h2 => ?_, fun h2 => ?_⟩
  · exact ⟨_, rfl, H, fun _ _ h => h, by rw [code, if_pos h1, if_neg h2]; rfl, rfl, Nat.le_refl _⟩
  · exact ⟨_, rfl, H, fun _ _ h => h, by rw [code, if_pos h1, if_pos h2]; rfl, rfl, Nat.le_refl _⟩
def V_spec_l02Object : Vc :=
  .op true (.p .box [.t 0]) <|
  .op true (.p (.bin .geq) [.t 1, .c (int 0)]) <|
  .br 3
   (.op true (.p (.fad 0) [.t 2]) <|
   .op true (.p (.ld none) [.t 4]) <|
   .op true (.p (.bin .lss) [.t 1, .t 5]) <|
   .ret [(.t 6, none)])
   (.ret [(.c (bool false), none)])
theorem l02Object_fz (h : Has P ν 284 2 V_spec_l02Object) (c : Cat) (x : Int) : Fz (OkM P ν) 284 [.agg c.cells, int x] (bool (decide (0 ≤ x ∧ x < c.o))) := by
  refine Fn.fzb fun H nx => h _ _ _ _ rfl fun hwf => ?_
  unfold V_spec_l02Object
  simp only [SS, Nat.reduceEqDiff, Nat.reduceAdd, iput, puts, p_boxc, cat0]
  refine ⟨fun h1 => ?_, fun h1 => ?_⟩
  · refine ⟨_, rfl, H, fun _ _ h => h, ?_, rfl, Nat.le_refl _⟩
    simp only [SS, Nat.reduceEqDiff, Nat.reduceAdd, iput, puts, show (0 ≤ x) from h1]
  · exact ⟨_, rfl, H, fun _ _ h => h, ret_false (fun s => h1 s.1), rfl, Nat.le_refl _⟩
def V_spec_l03Parallel : Vc :=
  .op true (.p .box [.t 0]) <|
  .op true (.p (.fad 1) [.t 3]) <|
  .op true (.p (.ld none) [.t 4]) <|
  .op true (.p (.iad 1) [.t 5, .t 1]) <|
  .op true (.p (.ld none) [.t 6]) <|
  .op true (.p (.fad 1) [.t 3]) <|
  .op true (.p (.ld none) [.t 8]) <|
  .op true (.p (.iad 1) [.t 9, .t 2]) <|
  .op true (.p (.ld none) [.t 10]) <|
  .op true (.p (.bin .eql) [.t 7, .t 11]) <|
  .br 12
   (.op true (.p (.fad 2) [.t 3]) <|
   .op true (.p (.ld none) [.t 13]) <|
   .op true (.p (.iad 1) [.t 14, .t 1]) <|
   .op true (.p (.ld none) [.t 15]) <|
   .op true (.p (.fad 2) [.t 3]) <|
   .op true (.p (.ld none) [.t 17]) <|
   .op true (.p (.iad 1) [.t 18, .t 2]) <|
   .op true (.p (.ld none) [.t 19]) <|
   .op true (.p (.bin .eql) [.t 16, .t 20]) <|
   .ret [(.t 21, none)])
   (.ret [(.c (bool false), none)])
theorem Shape.fzParallel (h : Has P ν 340 3 V_spec_l03Parallel) {c : Cat} (s : Shape c) {f g : Int} (hf : Arr c f) (hg : Arr c g) : Fz (OkM P ν) 340 [.agg c.cells, int f, int g] (bool (decide (c.F f = c.F g ∧ c.T f = c.T g))) := by
  refine Fn.fzb fun H nx => h _ _ _ _ rfl fun hwf => ?_
  unfold V_spec_l03Parallel
  try simp (disch := (first | rfl | with_reducible assumption | with_reducible solve_by_elim (maxDepth := 8) [Shape.inT, Shape.inI, Shape.inC, Shape.inK, Shape.obF, Shape.obT, Shape.arI, Arr.inF] | omega)) only [S2, Nat.reduceEqDiff, Nat.reduceAdd, iput, puts]
  refine ⟨fun h1 => ?_, fun h1 => ?_⟩
  · try simp (disch := (first | rfl | with_reducible assumption | with_reducible solve_by_elim (maxDepth := 8) [Shape.inT, Shape.inI, Shape.inC, Shape.inK, Shape.obF, Shape.obT, Shape.arI, Arr.inF] | omega)) only [S2, Nat.reduceEqDiff, Nat.reduceAdd, iput, puts]
    refine ⟨_, rfl, H, fun _ _ h => h, ?_, rfl, Nat.le_refl _⟩
    show bool (c.T f == c.T g) = _
    by_cases e : c.T f = c.T g
    · rw [beq_iff_eq.2 e, decide_eq_true ⟨h1, e⟩]
    · rw [beq_eq_false_iff_ne.2 e, decide_eq_false fun hh => e hh.2]
  · exact ⟨_, rfl, H, fun _ _ h => h, ret_false (fun hh => h1 hh.1), rfl, Nat.le_refl _⟩
end Go.Av
