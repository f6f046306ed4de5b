/-
  TwistedCategory: both sides.
-/
import Derived.Test.YtbalggpkmaabmaaAvX6
import Derived.Test.YtbalggpkmaabmaaAvX7
namespace Go.Av
open Classical
set_option linter.unusedSimpArgs false
set_option linter.unusedVariables false
variable {P : Program} {ν : Nat → FuncId}

theorem twR_small (c : Cat) : Small2 (twR c) := by
  unfold twR
  split
  · rename_i e
    have f : FitX (twX c) := by
      unfold twC0 at e
      by_cases h : IsCat c
      · rw [if_pos h] at e
        by_cases f : FitX (twX c)
        · exact f
        · rw [if_neg f] at e; omega
      · rw [if_neg h] at e; omega
    have f1 : (c.f.length : Int) ≤ 8 := f.1
    have f2 : (twL c).length ≤ 40 := by have := f.2; simp only [twX, twF, List.length_map] at this; exact this
    refine ⟨⟨?_, ?_, ?_, ?_⟩, fun k hk => ?_⟩
    · simp only [twX, twF, List.length_map]; omega
    · simp only [twX, twT, List.length_map]; omega
    · simp only [twX, idAll_len]; omega
    · simp only [twX, if_pos f2, tbl_len, twF, List.length_map]; omega
    · simp only [twX, if_pos f2, tbl_len] at hk ⊢
      rw [tbl_row hk, tblRow_len]
      simp only [twF, List.length_map]; omega
  · exact zeroK_small
def V_spec_TwistedCategory : Vc :=
  .op true (.p .box [.t 0]) <|
  .op true (.new [int 0, .nil, .nil, .nil, .nil]) <|
  .op true (.p (.ld (some 5)) [.t 1]) <|
  .op true (.call (.f 22) [.t 3]) <|
  .op true (.p .bnot [.t 4]) <|
  .br 5
   (.op true (.p (.mka [int 0, .nil, .nil, .nil, .nil] []) []) <|
   .op true (.st 5 (.t 2) (.t 6)) <|
   .ret [(.t 2, some (some 5)), (.c (int 1), none)])
   (.op true (.p (.ld (some 5)) [.t 1]) <|
   .op true (.call (.f 351) [.t 6]) <|
   .op true (.p (.ext 0) [.t 7]) <|
   .op true (.p (.ext 1) [.t 7]) <|
   .op true (.new [int 0, .nil, .nil, .nil, .nil]) <|
   .op true (.st 5 (.t 10) (.t 8)) <|
   .op true (.p (.ld (some 5)) [.t 10]) <|
   .op true (.call (.f 313) [.t 12]) <|
   .op true (.p (.ext 0) [.t 13]) <|
   .op true (.p (.ext 1) [.t 13]) <|
   .op true (.st 5 (.t 2) (.t 14)) <|
   .ret [(.t 2, some (some 5)), (.t 15, none)])
set_option maxHeartbeats 2000000 in
theorem sTwistedCategory_fi (K : HSpec P ν) (hho : Has P ν 309 3 V_spec_l02Hom) (hth : Has P ν 253 3 V_spec_l02Then) (hun : Has P ν 380 2 V_spec_l02Unit) (hsa : Has P ν 246 2 V_spec_l01Same) (htw : Has P ν 351 1 V_spec_l03Twisted) (hf : Has P ν 359 1 V_spec_l02Fits) (hm : Has P ν 313 1 V_spec_l03Made) (h : Has P ν 215 1 V_spec_TwistedCategory) (c : Cat) (b : Small c) :
    Fi (OkM P ν) 215 [.agg c.cells] (.tup [.agg (twR c).cells, int (twC0 c)]) := by
  refine OkM.mono (Φ := fun r H' nx' => r = .tup [.agg (twR c).cells, int (twC0 c)] ∨ (twR c = zeroK ∧ r = .tup [.agg [int 0, .nil, .nil, .nil, .nil], int (twC0 c)])) (h [.agg c.cells] hempty 0 _ rfl fun hwf => ?_) (by
    rintro r H' nx' (rfl | ⟨e, rfl⟩)
    · exact frz_kc _ _
    · rw [e]; exact frz_k0 _)
  unfold V_spec_TwistedCategory
  try simp (disch := (first | rfl | with_reducible assumption | with_reducible solve_by_elim (maxDepth := 8) [Shape.inT, Shape.inI, Shape.inC, Shape.inK, Shape.obF, Shape.obT, Shape.arI, Arr.inF] | omega)) only [S2, Nat.reduceEqDiff, Nat.reduceAdd, iput, puts]
  refine den_newR fun H0 y0 e0 => ?_
  repeat (first | simp (disch := (first | rfl | with_reducible assumption | with_reducible solve_by_elim (maxDepth := 8) [Shape.inT, Shape.inI, Shape.inC, Shape.inK, Shape.obF, Shape.obT, Shape.arI, Arr.inF] | omega)) only [S2, Nat.reduceEqDiff, Nat.reduceAdd, iput, puts] | (refine den_call rfl (by first | (simp only [SS, Nat.reduceEqDiff, Nat.reduceAdd, iput, puts, FF, frzL_cat]; done) | (simp only [SS, Nat.reduceEqDiff, Nat.reduceAdd, iput, puts, FF, frzL_cat]; rfl)) (by first | exact (l02Is_ok K c b).fzb) ?_) | (refine den_calli rfl (by first | (simp only [SS, Nat.reduceEqDiff, Nat.reduceAdd, iput, puts, FF, frzL_cat]; done) | (simp only [SS, Nat.reduceEqDiff, Nat.reduceAdd, iput, puts, FF, frzL_cat]; rfl)) (by first | exact (l02Is_ok K c b).fzb) ?_))
  refine ⟨fun h1 => ?_, fun h1 => ?_⟩
  · have h1 : ¬ IsCat c := by simpa using h1
    have e : twC0 c = 1 := by unfold twC0; rw [if_neg h1]
    try simp (disch := (first | rfl | with_reducible assumption | with_reducible solve_by_elim (maxDepth := 8) [Shape.inT, Shape.inI, Shape.inC, Shape.inK, Shape.obF, Shape.obT, Shape.arI, Arr.inF] | omega)) only [S2, Nat.reduceEqDiff, Nat.reduceAdd, iput, puts, mkZ]
    refine den_stR (o := 0) (m := 5) (d := [int 0, .nil, .nil, .nil, .nil]) rfl rfl y0 rfl rfl rfl fun H1 y1 e1 => ?_
    refine ⟨.tup [.agg [int 0, .nil, .nil, .nil, .nil], int 1], ?_, H1, fun _ _ h => h, .inr ⟨by rw [twR, if_neg (by rw [e]; decide)], by rw [e]⟩⟩
    simp only [retOf, rets, SS, Nat.reduceEqDiff, Nat.reduceAdd, iput, puts, pLd, y1]
    rfl
  · have h1 : IsCat c := by simpa using h1
    have mk : madeK (twX c) = twR c ∧ madeC (twX c) = twC0 c := by
      unfold madeK madeC twR twC0
      rw [if_pos h1]
      by_cases f : FitX (twX c)
      · rw [if_pos f, if_pos f]; simp
      · rw [if_neg f, if_neg f]; simp
    have mi := l03Made_fi (P := P) (ν := ν) hf hm (twX c) (by have := twL_len h1.1.n40; simp only [twX, twF, List.length_map]; omega)
    rw [mk.1, mk.2] at mi
    have tw := l03Twisted_fi (P := P) (ν := ν) hho hth hun hsa htw c h1.1
    repeat (first | simp (disch := (first | rfl | with_reducible assumption | with_reducible solve_by_elim (maxDepth := 8) [Shape.inT, Shape.inI, Shape.inC, Shape.inK, Shape.obF, Shape.obT, Shape.arI, Arr.inF] | omega)) only [S2, Nat.reduceEqDiff, Nat.reduceAdd, iput, puts] | (refine den_call rfl (by first | (simp only [SS, Nat.reduceEqDiff, Nat.reduceAdd, iput, puts, FF, frzL_cat]; done) | (simp only [SS, Nat.reduceEqDiff, Nat.reduceAdd, iput, puts, FF, frzL_cat]; rfl)) (by first | exact tw) ?_) | (refine den_calli rfl (by first | (simp only [SS, Nat.reduceEqDiff, Nat.reduceAdd, iput, puts, FF, frzL_cat]; done) | (simp only [SS, Nat.reduceEqDiff, Nat.reduceAdd, iput, puts, FF, frzL_cat]; rfl)) (by first | exact tw) ?_))
    refine den_newR fun H2 x2 e2 => ?_
    have y2 := (e2 0 (by omega)).trans y0
    refine den_stR (o := 0 + 1) (m := 5) (d := (twX c).cells) rfl rfl x2 rfl rfl rfl fun H3 x3 e3 => ?_
    have y3 := (e3 0 (by omega)).trans y2
    try simp (disch := (first | rfl | with_reducible assumption | with_reducible solve_by_elim (maxDepth := 8) [Shape.inT, Shape.inI, Shape.inC, Shape.inK, Shape.obF, Shape.obT, Shape.arI, Arr.inF] | omega)) only [S2, Nat.reduceEqDiff, Nat.reduceAdd, iput, puts, p_ldsm (l := 5) x3 rfl]
    refine den_calli (fc := (313, [])) (ys := [.agg (twX c).cells]) rfl (by first | (simp only [SS, Nat.reduceEqDiff, Nat.reduceAdd, iput, puts, FF, frzL_cat]; done) | (simp only [SS, Nat.reduceEqDiff, Nat.reduceAdd, iput, puts, FF, frzL_cat]; rfl)) mi ?_
    try simp (disch := (first | rfl | with_reducible assumption | with_reducible solve_by_elim (maxDepth := 8) [Shape.inT, Shape.inI, Shape.inC, Shape.inK, Shape.obF, Shape.obT, Shape.arI, Arr.inF] | omega)) only [S2, Nat.reduceEqDiff, Nat.reduceAdd, iput, puts]
    refine den_stR (o := 0) (m := 5) (d := (twR c).cells) rfl rfl y3 rfl rfl rfl fun H4 y4 e4 => ?_
    refine ⟨.tup [.agg (twR c).cells, int (twC0 c)], ?_, H4, fun _ _ h => h, .inl rfl⟩
    simp only [retOf, rets, SS, Nat.reduceEqDiff, Nat.reduceAdd, iput, puts, pLd, y4]
    rfl
theorem TwistedCategory_both (K : HCat P ν) (hho : Has P ν 33 3 V_Category_hom) (hid : Has P ν 352 2 V_Category_isIdentity) (hta : Has P ν 353 2 V_Category_table) (hsi : Has P ν 417 2 V_slices_Index_twist_twist) (hix : Has P ν 355 2 V_index_twist) (hq1 : Has P ν 354 4 V_TwistedCategory_1) (h : Has P ν 216 1 V_TwistedCategory) (KS : HSpec P ν) (sho : Has P ν 309 3 V_spec_l02Hom) (hth : Has P ν 253 3 V_spec_l02Then) (hun : Has P ν 380 2 V_spec_l02Unit) (hsa : Has P ν 246 2 V_spec_l01Same) (htw : Has P ν 351 1 V_spec_l03Twisted) (hf : Has P ν 359 1 V_spec_l02Fits) (hm : Has P ν 313 1 V_spec_l03Made) (h' : Has P ν 215 1 V_spec_TwistedCategory) (c : Cat) (b : Small c) :
    BothK P ν 216 215 [.agg c.cells] :=
  ⟨twR c, twC0 c, twR_small c, fun nx => TwistedCategory_ok K hho hid hta hsi hix hq1 h c b nx, sTwistedCategory_fi KS sho hth hun hsa htw hf hm h' c b⟩
end Go.Av
