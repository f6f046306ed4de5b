/-
  What several references share: made categories.
-/
import Derived.Test.YtbalggpkmaabmaaAvZ0
namespace Go.Av
open Classical
set_option linter.unusedSimpArgs false
set_option linter.unusedVariables false
variable {P : Program} {ν : Nat → FuncId}

theorem p_ld0 {a : AV} : ([a] : List AV)[0]? = some a := rfl
def V_spec_l03Two : Vc :=
  .op true (.p .box [.t 0]) <|
  .op true (.p .box [.t 1]) <|
  .op true (.p (.ld (some 5)) [.t 2]) <|
  .op true (.call (.f 22) [.t 4]) <|
  .op true (.p .bnot [.t 5]) <|
  .br 6
   (.ret [(.c (int 1), none)])
   (.op true (.p (.ld (some 5)) [.t 3]) <|
   .op true (.call (.f 22) [.t 7]) <|
   .op true (.p .bnot [.t 8]) <|
   .br 9
    (.ret [(.c (int 1), none)])
    (.ret [(.c (int 0), none)]))
theorem l03Two_fz (K : HSpec P ν) (h : Has P ν 312 2 V_spec_l03Two) (c d : Cat) (b : Small c) (b' : Small d) : Fz (OkM P ν) 312 [.agg c.cells, .agg d.cells] (int (if IsCat c ∧ IsCat d then 0 else 1)) := by
  refine Fn.fzi fun H nx => h _ _ _ _ rfl fun hwf => ?_
  unfold V_spec_l03Two
  repeat (first | simp (disch := (first | rfl | with_reducible assumption | with_reducible solve_by_elim (maxDepth := 8) [Shape.inT, Shape.inI, Shape.inC, Shape.inK, Shape.obF, Shape.obT, Shape.arI, Arr.inF] | omega)) only [S2, Nat.reduceEqDiff, Nat.reduceAdd, iput, puts] | (refine den_call rfl (by first | (simp only [SS, Nat.reduceEqDiff, Nat.reduceAdd, iput, puts, FF, frzL_cat]; done) | (simp only [SS, Nat.reduceEqDiff, Nat.reduceAdd, iput, puts, FF, frzL_cat]; rfl)) (by first | exact (l02Is_ok K c b).fzb | exact (l02Is_ok K d b').fzb) ?_) | (refine den_calli rfl (by first | (simp only [SS, Nat.reduceEqDiff, Nat.reduceAdd, iput, puts, FF, frzL_cat]; done) | (simp only [SS, Nat.reduceEqDiff, Nat.reduceAdd, iput, puts, FF, frzL_cat]; rfl)) (by first | exact (l02Is_ok K c b).fzb | exact (l02Is_ok K d b').fzb) ?_))
  refine ⟨fun h1 => ?_, fun h1 => ?_⟩
  · refine ⟨_, rfl, H, fun _ _ h => h, ?_, rfl, Nat.le_refl _⟩
    rw [if_neg (by simpa using fun e => absurd e h1)]
    rfl
  · repeat (first | simp (disch := (first | rfl | with_reducible assumption | with_reducible solve_by_elim (maxDepth := 8) [Shape.inT, Shape.inI, Shape.inC, Shape.inK, Shape.obF, Shape.obT, Shape.arI, Arr.inF] | omega)) only [S2, Nat.reduceEqDiff, Nat.reduceAdd, iput, puts] | (refine den_call rfl (by first | (simp only [SS, Nat.reduceEqDiff, Nat.reduceAdd, iput, puts, FF, frzL_cat]; done) | (simp only [SS, Nat.reduceEqDiff, Nat.reduceAdd, iput, puts, FF, frzL_cat]; rfl)) (by first | exact (l02Is_ok K d b').fzb) ?_) | (refine den_calli rfl (by first | (simp only [SS, Nat.reduceEqDiff, Nat.reduceAdd, iput, puts, FF, frzL_cat]; done) | (simp only [SS, Nat.reduceEqDiff, Nat.reduceAdd, iput, puts, FF, frzL_cat]; rfl)) (by first | exact (l02Is_ok K d b').fzb) ?_))
    refine ⟨fun h2 => ?_, fun h2 => ?_⟩
    · refine ⟨_, rfl, H, fun _ _ h => h, ?_, rfl, Nat.le_refl _⟩
      rw [if_neg fun e => absurd e.2 h2]
      rfl
    · refine ⟨_, rfl, H, fun _ _ h => h, ?_, rfl, Nat.le_refl _⟩
      rw [if_pos ⟨by simpa using h1, by simpa using h2⟩]
      rfl
def FitX (x : Cat) : Prop := x.o ≤ 8 ∧ x.f.length ≤ 40
noncomputable def madeK (x : Cat) : Cat := if FitX x then x else zeroK
noncomputable def madeC (x : Cat) : Int := if FitX x then 0 else 3
def V_spec_l02Fits : Vc :=
  .op true (.p .box [.t 0]) <|
  .op true (.p (.fad 0) [.t 1]) <|
  .op true (.p (.ld none) [.t 2]) <|
  .op true (.p (.bin .leq) [.t 3, .c (int 8)]) <|
  .br 4
   (.op true (.p (.fad 1) [.t 1]) <|
   .op true (.p (.ld none) [.t 5]) <|
   .op true (.p .len [.t 6]) <|
   .op true (.p (.bin .leq) [.t 7, .c (int 40)]) <|
   .ret [(.t 8, none)])
   (.ret [(.c (bool false), none)])
theorem l02Fits_fz (h : Has P ν 359 1 V_spec_l02Fits) (x : Cat) (hl : x.f.length ≤ 1099511627776) : Fz (OkM P ν) 359 [.agg x.cells] (bool (decide (FitX x))) := by
  refine Fn.fzb fun H nx => h _ _ _ _ rfl fun hwf => ?_
  unfold V_spec_l02Fits
  try simp (disch := (first | rfl | with_reducible assumption | with_reducible solve_by_elim (maxDepth := 8) [Shape.inT, Shape.inI, Shape.inC, Shape.inK, Shape.obF, Shape.obT, Shape.arI, Arr.inF] | omega)) only [S2, Nat.reduceEqDiff, Nat.reduceAdd, iput, puts]
  refine ⟨fun h1 => ?_, fun h1 => ?_⟩
  · try simp (disch := (first | rfl | with_reducible assumption | with_reducible solve_by_elim (maxDepth := 8) [Shape.inT, Shape.inI, Shape.inC, Shape.inK, Shape.obF, Shape.obT, Shape.arI, Arr.inF] | omega)) only [S2, Nat.reduceEqDiff, Nat.reduceAdd, iput, puts]
    refine ⟨_, rfl, H, fun _ _ h => h, ?_, rfl, Nat.le_refl _⟩
    show bool (decide (_ ≤ _)) = _
    congr 1
    exact decide_eq_decide.2 ⟨fun m => ⟨by omega, by omega⟩, fun m => by have := m.2; omega⟩
  · exact ⟨_, rfl, H, fun _ _ h => h, ret_false (fun m => h1 (by have := m.1; omega)), rfl, Nat.le_refl _⟩
def V_spec_l03Made : Vc :=
  .op true (.p .box [.t 0]) <|
  .op true (.new [int 0, .nil, .nil, .nil, .nil]) <|
  .op true (.p (.ld (some 5)) [.t 1]) <|
  .op true (.call (.f 359) [.t 3]) <|
  .op true (.p .bnot [.t 4]) <|
  .br 5
   (.op true (.p (.mka [int 0, .nil, .nil, .nil, .nil] []) []) <|
   .op true (.st 5 (.t 2) (.t 6)) <|
   .ret [(.t 2, some (some 5)), (.c (int 3), none)])
   (.op true (.p (.ld (some 5)) [.t 1]) <|
   .op true (.st 5 (.t 2) (.t 6)) <|
   .ret [(.t 2, some (some 5)), (.c (int 0), none)])
theorem l03Made_fi (hf : Has P ν 359 1 V_spec_l02Fits) (h : Has P ν 313 1 V_spec_l03Made) (x : Cat) (hl : x.f.length ≤ 1099511627776) : Fi (OkM P ν) 313 [.agg x.cells] (.tup [.agg (madeK x).cells, int (madeC x)]) := by
  refine OkM.mono (Φ := fun r H' nx' => r = .tup [.agg (madeK x).cells, int (madeC x)] ∨ (madeK x = zeroK ∧ r = .tup [.agg [int 0, .nil, .nil, .nil, .nil], int (madeC x)])) (h [.agg x.cells] hempty 0 _ rfl fun hwf => ?_) (by
    rintro r H' nx' (rfl | ⟨e, rfl⟩)
    · exact frz_kc _ _
    · rw [e]; exact frz_k0 _)
  unfold V_spec_l03Made
  try simp (disch := (first | rfl | with_reducible assumption | with_reducible solve_by_elim (maxDepth := 8) [Shape.inT, Shape.inI, Shape.inC, Shape.inK, Shape.obF, Shape.obT, Shape.arI, Arr.inF] | omega)) only [S2, Nat.reduceEqDiff, Nat.reduceAdd, iput, puts]
  refine den_newR fun H0 y0 e0 => ?_
  repeat (first | simp (disch := (first | rfl | with_reducible assumption | with_reducible solve_by_elim (maxDepth := 8) [Shape.inT, Shape.inI, Shape.inC, Shape.inK, Shape.obF, Shape.obT, Shape.arI, Arr.inF] | omega)) only [S2, Nat.reduceEqDiff, Nat.reduceAdd, iput, puts] | (refine den_call rfl (by first | (simp only [SS, Nat.reduceEqDiff, Nat.reduceAdd, iput, puts, FF, frzL_cat]; done) | (simp only [SS, Nat.reduceEqDiff, Nat.reduceAdd, iput, puts, FF, frzL_cat]; rfl)) (by first | exact l02Fits_fz hf x hl) ?_) | (refine den_calli rfl (by first | (simp only [SS, Nat.reduceEqDiff, Nat.reduceAdd, iput, puts, FF, frzL_cat]; done) | (simp only [SS, Nat.reduceEqDiff, Nat.reduceAdd, iput, puts, FF, frzL_cat]; rfl)) (by first | exact l02Fits_fz hf x hl) ?_))
  refine ⟨fun h1 => ?_, fun h1 => ?_⟩
  · try simp (disch := (first | rfl | with_reducible assumption | with_reducible solve_by_elim (maxDepth := 8) [Shape.inT, Shape.inI, Shape.inC, Shape.inK, Shape.obF, Shape.obT, Shape.arI, Arr.inF] | omega)) only [S2, Nat.reduceEqDiff, Nat.reduceAdd, iput, puts, mkZ]
    refine den_stR (o := 0) (m := 5) (d := [int 0, .nil, .nil, .nil, .nil]) rfl rfl y0 rfl rfl rfl fun H1 y1 e1 => ?_
    have h1 : ¬ FitX x := by simpa using h1
    refine ⟨.tup [.agg [int 0, .nil, .nil, .nil, .nil], int 3], ?_, H1, fun _ _ h => h, .inr ⟨by rw [madeK, if_neg h1], by rw [madeC, if_neg h1]⟩⟩
    simp only [retOf, rets, SS, Nat.reduceEqDiff, Nat.reduceAdd, iput, puts, pLd, y1]
    rfl
  · have h1 : FitX x := by simpa using h1
    try simp (disch := (first | rfl | with_reducible assumption | with_reducible solve_by_elim (maxDepth := 8) [Shape.inT, Shape.inI, Shape.inC, Shape.inK, Shape.obF, Shape.obT, Shape.arI, Arr.inF] | omega)) only [S2, Nat.reduceEqDiff, Nat.reduceAdd, iput, puts]
    refine den_stR (o := 0) (m := 5) (d := x.cells) rfl rfl y0 rfl rfl rfl fun H1 y1 e1 => ?_
    refine ⟨.tup [.agg x.cells, int 0], ?_, H1, fun _ _ h => h, .inl (by rw [madeK, if_pos h1, madeC, if_pos h1])⟩
    simp only [retOf, rets, SS, Nat.reduceEqDiff, Nat.reduceAdd, iput, puts, pLd, y1]
    rfl
end Go.Av
