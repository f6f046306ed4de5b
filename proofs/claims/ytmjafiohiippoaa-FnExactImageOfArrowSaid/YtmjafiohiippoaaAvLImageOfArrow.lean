/-
  The statement on ImageOfArrow.
-/
import Derived.Test.YtmjafiohiippoaaAvL0
namespace Go.Av
open Classical
set_option linter.unusedSimpArgs false
set_option linter.unusedVariables false
variable {P : Program} {ν : Nat → FuncId}

def V_laws_FnExactImageOfArrow : Vc :=
  .op true (.p .box [.t 0]) <|
  .op true (.p (.ld (some 5)) [.t 2]) <|
  .op true (.call (.f 3) [.t 3, .c (int 1048576)]) <|
  .op true (.p (.bin .lss) [.t 4, .c (int 0)]) <|
  .br 5
   (.ret [(.c (bool true), none)])
   (.op true (.p (.ld (some 5)) [.t 2]) <|
   .op true (.call (.f 5) [.t 6]) <|
   .op true (.call (.f 165) [.t 7, .t 1]) <|
   .op true (.p (.ext 0) [.t 8]) <|
   .op true (.p (.ext 1) [.t 8]) <|
   .op true (.p (.ext 2) [.t 8]) <|
   .op true (.p (.ld (some 5)) [.t 2]) <|
   .op true (.call (.f 5) [.t 12]) <|
   .op true (.new [int 0, .nil, .nil, .nil, .nil]) <|
   .op true (.st 5 (.t 14) (.t 13)) <|
   .op true (.p (.ld (some 5)) [.t 14]) <|
   .op true (.call (.f 166) [.t 16, .t 1]) <|
   .op true (.p (.ext 0) [.t 17]) <|
   .op true (.p (.ext 1) [.t 17]) <|
   .op true (.p (.ext 2) [.t 17]) <|
   .op true (.p (.bin .neq) [.t 18, .t 9]) <|
   .br 21
    (.ret [(.c (bool false), none)])
    (.op true (.p (.bin .neq) [.t 19, .t 10]) <|
    .br 22
     (.ret [(.c (bool false), none)])
     (.op true (.p (.bin .neq) [.t 20, .t 11]) <|
     .br 23
      (.ret [(.c (bool false), none)])
      (.op true (.p (.ld (some 5)) [.t 14]) <|
      .op true (.p (.ld (some 5)) [.t 2]) <|
      .op true (.call (.f 5) [.t 25]) <|
      .op true (.call (.f 8) [.t 24, .t 26]) <|
      .op true (.p .bnot [.t 27]) <|
      .br 28
       (.ret [(.c (bool false), none)])
       (.ret [(.c (bool true), none)])))))
set_option maxHeartbeats 1000000 in
theorem law_ImageOfArrow (L : HLaw P ν) (h : Has P ν 67 2 V_laws_FnExactImageOfArrow) (c : Cat) (rd : Read c) (f : Int) (hb : Small2 c → ∃ r0 r1 r2 : Int, Fz (OkM P ν) 166 [.agg c.cells, int f] (.tup [int r0, int r1, int r2]) ∧ Fz (OkM P ν) 165 [.agg c.cells, int f] (.tup [int r0, int r1, int r2])) :
    OkM P ν 67 [.agg c.cells, int f] hempty 0 (fun r _ _ => r = bool true) := by
  refine h _ _ _ _ rfl fun hwf => ?_
  unfold V_laws_FnExactImageOfArrow
  simp only [SS, Nat.reduceEqDiff, Nat.reduceAdd, iput, puts, p_boxc, p_ldc]
  refine den_call (fc := (3, [])) rfl (by first | (simp only [SS, Nat.reduceEqDiff, Nat.reduceAdd, iput, puts, FF, frzL_cat]; done) | (simp only [SS, Nat.reduceEqDiff, Nat.reduceAdd, iput, puts, FF, frzL_cat]; rfl)) ((szCat_ok L.szI L.szII L.szC c rd 1048576 (by omega) (by omega)).fzi) ?_
  simp only [SS, Nat.reduceEqDiff, Nat.reduceAdd, iput, puts, p_ldc]
  refine ⟨fun h1 => ⟨_, rfl, hempty, fun _ _ h => h, rfl⟩, fun h1 => ?_⟩
  have b := szCat_small (c := c) (left := 1048576) (by omega) (by omega) (by omega)
  obtain ⟨r0, r1, r2, hi, hs⟩ := hb b
  refine den_call (fc := (5, [])) rfl (by first | (simp only [SS, Nat.reduceEqDiff, Nat.reduceAdd, iput, puts, FF, frzL_cat]; done) | (simp only [SS, Nat.reduceEqDiff, Nat.reduceAdd, iput, puts, FF, frzL_cat]; rfl)) (toCat_fz L.toI L.toII L.toC c b) ?_
  refine den_call (fc := (165, [])) rfl (by first | (simp only [SS, Nat.reduceEqDiff, Nat.reduceAdd, iput, puts, FF, frzL_cat]; done) | (simp only [SS, Nat.reduceEqDiff, Nat.reduceAdd, iput, puts, FF, frzL_cat]; rfl)) (hs) ?_
  simp only [SS, Nat.reduceEqDiff, Nat.reduceAdd, iput, puts, p_ldc]
  refine den_call (fc := (5, [])) rfl (by first | (simp only [SS, Nat.reduceEqDiff, Nat.reduceAdd, iput, puts, FF, frzL_cat]; done) | (simp only [SS, Nat.reduceEqDiff, Nat.reduceAdd, iput, puts, FF, frzL_cat]; rfl)) (toCat_fz L.toI L.toII L.toC c b) ?_
  refine den_new ?_
  refine den_stA (o := 0) (m := 5) rfl rfl (hput_eq _ _ _) rfl rfl rfl ?_
  rw [hput_hput]
  have x2 : hput hempty 0 (some c.cells) 0 = some c.cells := hput_eq _ _ _
  show den _ _ _ _ _ (hput hempty 0 (some c.cells)) _ _
  generalize hput hempty 0 (some c.cells) = H2 at x2
  refine den_lda (o := 0) (m := 5) rfl x2 rfl ?_
  refine den_call (fc := (166, [])) rfl (by first | (simp only [SS, Nat.reduceEqDiff, Nat.reduceAdd, iput, puts, FF, frzL_cat]; done) | (simp only [SS, Nat.reduceEqDiff, Nat.reduceAdd, iput, puts, FF, frzL_cat]; rfl)) (hi) ?_
  simp only [SS, Nat.reduceEqDiff, Nat.reduceAdd, iput, puts, neSelf, p_eqbS, p_ldsm (l := 5) x2 rfl, p_ldc]
  refine den_call (fc := (5, [])) rfl (by first | (simp only [SS, Nat.reduceEqDiff, Nat.reduceAdd, iput, puts, FF, frzL_cat]; done) | (simp only [SS, Nat.reduceEqDiff, Nat.reduceAdd, iput, puts, FF, frzL_cat]; rfl)) (toCat_fz L.toI L.toII L.toC c b) ?_
  refine den_call (fc := (8, [])) rfl (by first | (simp only [SS, Nat.reduceEqDiff, Nat.reduceAdd, iput, puts, FF, frzL_cat]; done) | (simp only [SS, Nat.reduceEqDiff, Nat.reduceAdd, iput, puts, FF, frzL_cat]; rfl)) (eqCat_same L c b) ?_
  simp only [SS, Nat.reduceEqDiff, Nat.reduceAdd, iput, puts]
  exact ⟨_, rfl, hempty, (fun _ _ h => by cases h), rfl⟩
end Go.Av
