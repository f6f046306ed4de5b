/-
  JoinCategory: both sides.
-/
import Derived.Test.YtbalggpkmaabmaaAvY4
import Derived.Test.YtbalggpkmaabmaaAvY6
namespace Go.Av
open Classical
set_option linter.unusedSimpArgs false
set_option linter.unusedVariables false
variable {P : Program} {ν : Nat → FuncId}

def V_JoinCategory : Vc :=
  .op true (.p .box [.t 0]) <|
  .op true (.p .box [.t 1]) <|
  .op true (.new [int 0, .nil, .nil, .nil, .nil]) <|
  .op true (.callo (.f 337) [.t 2, .t 3, .c (bool true)]) <|
  .op true (.p (.ext 0) [.t 5]) <|
  .op true (.p (.ext 1) [.t 5]) <|
  .op true (.st 5 (.t 4) (.t 6)) <|
  .ret [(.t 4, some (some 5)), (.t 7, none)]
set_option maxHeartbeats 2000000 in
theorem JoinCategory_ok (K : HCat P ν) (hac : Has P ν 315 1 V_areCategories) (hcl : Has P ν 261 1 V_clone) (hta : Has P ν 353 2 V_Category_table) (hq1 : Has P ν 428 8 V_added_1) (hp : Has P ν 410 3 V_added) (had : Has P ν 337 3 V_addedCode) (h : Has P ν 229 2 V_JoinCategory) (c d : Cat) (b : Small c) (b' : Small d) (nx : Nat) :
    OkM P ν 229 [.agg c.cells, .agg d.cells] hempty nx (IsK (adR c d true) (adC c d true) nx) := by
  refine h _ _ _ _ rfl fun hwf => ?_
  unfold V_JoinCategory
  try simp (disch := (first | rfl | with_reducible assumption | with_reducible solve_by_elim (maxDepth := 8) [Shape.inT, Shape.inI, Shape.inC, Shape.inK, Shape.obF, Shape.obT, Shape.arI, Arr.inF] | omega)) only [S2, Nat.reduceEqDiff, Nat.reduceAdd, iput, puts]
  refine den_newR fun H0 y0 e0 => ?_
  refine den_callo (fc := (337, [])) (ys := [.ptr c.cells 0, .ptr d.cells 0, bool true]) rfl (by simp only [SS, Nat.reduceEqDiff, Nat.reduceAdd, iput, puts, FF, frzL_cat]) (addedCode_ok K hac hcl hta hq1 hp had c d b b' true (nx + 1)) (IsK.some _ _ _) fun u H' nx' hu => ?_
  obtain ⟨q1, q2, q3, r0, rfl, own⟩ := hu.own H0
  refine ⟨q1, q2, ?_⟩
  have y1 : hmerge (nx + 1) H0 H' nx = some [int 0, .nil, .nil, .nil, .nil] := (hmerge_lo (by omega)).trans y0
  generalize hmerge (nx + 1) H0 H' = H1 at own y1
  obtain ⟨ga, gb, gd, ge, rfl, ownC⟩ := own
  have own : OwnK (adR c d true) (.agg [int (adR c d true).o, ga, gb, gd, ge]) _ _ _ := ⟨ga, gb, gd, ge, rfl, ownC⟩
  clear ownC
  try simp (disch := (first | rfl | with_reducible assumption | with_reducible solve_by_elim (maxDepth := 8) [Shape.inT, Shape.inI, Shape.inC, Shape.inK, Shape.obF, Shape.obT, Shape.arI, Arr.inF] | omega)) only [S2, Nat.reduceEqDiff, Nat.reduceAdd, iput, puts]
  refine den_stR (o := nx) (m := 5) (d := [int (adR c d true).o, ga, gb, gd, ge]) rfl rfl y1 rfl rfl own.one5 fun H4 y4 e4 => ?_
  have own := own.mono (Nat.le_refl _) fun o h1 h2 => e4 o (by omega)
  obtain ⟨H5, q4, q5⟩ := own.back (w := int (adC c d true)) (nx := nx) (by omega) (by omega)
  refine ⟨.tup [.agg [int (adR c d true).o, ga, gb, gd, ge], int (adC c d true)], ?_, H5, q4, q5⟩
  simp only [retOf, rets, SS, Nat.reduceEqDiff, Nat.reduceAdd, iput, puts, pLd, y4]
  rfl
def V_spec_JoinCategory : Vc :=
  .op true (.p .box [.t 0]) <|
  .op true (.p .box [.t 1]) <|
  .op true (.new [int 0, .nil, .nil, .nil, .nil]) <|
  .op true (.p (.ld (some 5)) [.t 2]) <|
  .op true (.p (.ld (some 5)) [.t 3]) <|
  .op true (.call (.f 312) [.t 5, .t 6]) <|
  .op true (.p (.bin .neq) [.t 7, .c (int 0)]) <|
  .br 8
   (.op true (.p (.mka [int 0, .nil, .nil, .nil, .nil] []) []) <|
   .op true (.st 5 (.t 4) (.t 9)) <|
   .ret [(.t 4, some (some 5)), (.t 7, none)])
   (.op true (.p (.ld (some 5)) [.t 2]) <|
   .op true (.p (.ld (some 5)) [.t 3]) <|
   .op true (.call (.f 370) [.t 9, .t 10]) <|
   .op true (.call (.f 313) [.t 11]) <|
   .op true (.p (.ext 0) [.t 12]) <|
   .op true (.p (.ext 1) [.t 12]) <|
   .op true (.st 5 (.t 4) (.t 13)) <|
   .ret [(.t 4, some (some 5)), (.t 14, none)])
set_option maxHeartbeats 2000000 in
theorem sJoinCategory_fi (K : HSpec P ν) (h2 : Has P ν 312 2 V_spec_l03Two) (hf : Has P ν 359 1 V_spec_l02Fits) (hm : Has P ν 313 1 V_spec_l03Made) (how : Has P ν 259 1 V_spec_l01Own) (how2 : Has P ν 360 1 V_spec_l01Own2_o) (ho : Has P ν 409 1 V_spec_l02Own) (hsu : Has P ν 336 2 V_spec_l03Sum) (hp : Has P ν 370 2 V_spec_l03Join) (h : Has P ν 228 2 V_spec_JoinCategory) (c d : Cat) (b : Small c) (b' : Small d) :
    Fi (OkM P ν) 228 [.agg c.cells, .agg d.cells] (.tup [.agg (adR c d true).cells, int (adC c d true)]) := by
  refine OkM.mono (Φ := fun r H' nx' => r = .tup [.agg (adR c d true).cells, int (adC c d true)] ∨ (adR c d true = zeroK ∧ r = .tup [.agg [int 0, .nil, .nil, .nil, .nil], int (adC c d true)])) (h [.agg c.cells, .agg d.cells] hempty 0 _ rfl fun hwf => ?_) (by
    rintro r H' nx' (rfl | ⟨e, rfl⟩)
    · exact frz_kc _ _
    · rw [e]; exact frz_k0 _)
  unfold V_spec_JoinCategory
  try simp (disch := (first | rfl | with_reducible assumption | with_reducible solve_by_elim (maxDepth := 8) [Shape.inT, Shape.inI, Shape.inC, Shape.inK, Shape.obF, Shape.obT, Shape.arI, Arr.inF] | omega)) only [S2, Nat.reduceEqDiff, Nat.reduceAdd, iput, puts]
  refine den_newR fun H0 y0 e0 => ?_
  by_cases hc : IsCat c ∧ IsCat d
  · have t2 := l03Two_fz (P := P) (ν := ν) K h2 c d b b'
    rw [if_pos hc] at t2
    obtain ⟨m1, m2, m3⟩ := add_made true hc
    have n1 := hc.1.1.n40
    have n2 := hc.2.1.n40
    have fl : (fB c d true).length = rS c d + nJ c d := fJ_len (c := c) (d := d)
    have hr : rS c d = c.f.length + d.f.length := rfl
    have n64 := nJ_le hc.1.1 hc.2.1
    have sf : Fi (OkM P ν) 370 [.agg c.cells, .agg d.cells] (.agg (mkAdd c d true).cells) := l03Join_fi how how2 ho hsu hp c d hc.1.1 hc.2.1
    have mi := l03Made_fi (P := P) (ν := ν) hf hm (mkAdd c d true) (by show (fB c d true).length ≤ _; omega)
    rw [m1, m2] at mi
    repeat (first | simp (disch := (first | rfl | with_reducible assumption | with_reducible solve_by_elim (maxDepth := 8) [Shape.inT, Shape.inI, Shape.inC, Shape.inK, Shape.obF, Shape.obT, Shape.arI, Arr.inF] | omega)) only [S2, Nat.reduceEqDiff, Nat.reduceAdd, iput, puts] | (refine den_call rfl (by first | (simp only [SS, Nat.reduceEqDiff, Nat.reduceAdd, iput, puts, FF, frzL_cat]; done) | (simp only [SS, Nat.reduceEqDiff, Nat.reduceAdd, iput, puts, FF, frzL_cat]; rfl)) (by first | exact t2 | exact sf | exact mi) ?_) | (refine den_calli rfl (by first | (simp only [SS, Nat.reduceEqDiff, Nat.reduceAdd, iput, puts, FF, frzL_cat]; done) | (simp only [SS, Nat.reduceEqDiff, Nat.reduceAdd, iput, puts, FF, frzL_cat]; rfl)) (by first | exact t2 | exact sf | exact mi) ?_))
    refine den_stR (o := 0) (m := 5) (d := (adR c d true).cells) rfl rfl y0 rfl rfl rfl fun H1 y1 e1 => ?_
    refine ⟨.tup [.agg (adR c d true).cells, int (adC c d true)], ?_, H1, fun _ _ h => h, .inl rfl⟩
    simp only [retOf, rets, SS, Nat.reduceEqDiff, Nat.reduceAdd, iput, puts, pLd, y1]
    rfl
  · have t2 := l03Two_fz (P := P) (ν := ν) K h2 c d b b'
    rw [if_neg hc] at t2
    have e : adC c d true = 1 := by unfold adC; rw [if_neg hc]
    repeat (first | simp (disch := (first | rfl | with_reducible assumption | with_reducible solve_by_elim (maxDepth := 8) [Shape.inT, Shape.inI, Shape.inC, Shape.inK, Shape.obF, Shape.obT, Shape.arI, Arr.inF] | omega)) only [S2, Nat.reduceEqDiff, Nat.reduceAdd, iput, puts, mkZ] | (refine den_call rfl (by first | (simp only [SS, Nat.reduceEqDiff, Nat.reduceAdd, iput, puts, FF, frzL_cat]; done) | (simp only [SS, Nat.reduceEqDiff, Nat.reduceAdd, iput, puts, FF, frzL_cat]; rfl)) (by first | exact t2) ?_) | (refine den_calli rfl (by first | (simp only [SS, Nat.reduceEqDiff, Nat.reduceAdd, iput, puts, FF, frzL_cat]; done) | (simp only [SS, Nat.reduceEqDiff, Nat.reduceAdd, iput, puts, FF, frzL_cat]; rfl)) (by first | exact t2) ?_))
    refine ⟨fun _ => ?_, fun hh => absurd hh (by decide)⟩
    refine den_stR (o := 0) (m := 5) (d := [int 0, .nil, .nil, .nil, .nil]) rfl rfl y0 rfl rfl rfl fun H1 y1 e1 => ?_
    refine ⟨.tup [.agg [int 0, .nil, .nil, .nil, .nil], int 1], ?_, H1, fun _ _ h => h, .inr ⟨by rw [adR, if_neg (by rw [e]; decide)], by rw [e]⟩⟩
    simp only [retOf, rets, SS, Nat.reduceEqDiff, Nat.reduceAdd, iput, puts, pLd, y1]
    rfl
theorem JoinCategory_both (K : HCat P ν) (hac : Has P ν 315 1 V_areCategories) (hcl : Has P ν 261 1 V_clone) (hta : Has P ν 353 2 V_Category_table) (hq1 : Has P ν 428 8 V_added_1) (hp : Has P ν 410 3 V_added) (had : Has P ν 337 3 V_addedCode) (h : Has P ν 229 2 V_JoinCategory) (KS : HSpec P ν) (h2 : Has P ν 312 2 V_spec_l03Two) (hf : Has P ν 359 1 V_spec_l02Fits) (hm : Has P ν 313 1 V_spec_l03Made) (how : Has P ν 259 1 V_spec_l01Own) (how2 : Has P ν 360 1 V_spec_l01Own2_o) (ho : Has P ν 409 1 V_spec_l02Own) (hsu : Has P ν 336 2 V_spec_l03Sum) (hsp : Has P ν 370 2 V_spec_l03Join) (h' : Has P ν 228 2 V_spec_JoinCategory) (c : Cat) (b : Small c) (d : Cat) (b' : Small d) :
    BothK P ν 229 228 [.agg c.cells, .agg d.cells] :=
  ⟨adR c d true, adC c d true, adR_small c d true, fun nx => JoinCategory_ok K hac hcl hta hq1 hp had h c d b b' nx, sJoinCategory_fi KS h2 hf hm how how2 ho hsu hsp h' c d b b'⟩
end Go.Av
