/-
  The statement on CoequalizerArrow.
-/
import Derived.Test.YtmjafiohiippoaaAvL0
namespace Go.Av
open Classical
set_option linter.unusedSimpArgs false
set_option linter.unusedVariables false
variable {P : Program} {ν : Nat → FuncId}

def V_laws_FnExactCoequalizerArrow : Vc :=
  .op true (.p .box [.t 0]) <|
  .op true (.p (.ld (some 5)) [.t 3]) <|
  .op true (.call (.f 3) [.t 4, .c (int 1048576)]) <|
  .op true (.p (.bin .lss) [.t 5, .c (int 0)]) <|
  .br 6
   (.ret [(.c (bool true), none)])
   (.op true (.p (.ld (some 5)) [.t 3]) <|
   .op true (.call (.f 5) [.t 7]) <|
   .op true (.call (.f 202) [.t 8, .t 1, .t 2]) <|
   .op true (.p (.ext 0) [.t 9]) <|
   .op true (.p (.ext 1) [.t 9]) <|
   .op true (.p (.ext 2) [.t 9]) <|
   .op true (.p (.ld (some 5)) [.t 3]) <|
   .op true (.call (.f 5) [.t 13]) <|
   .op true (.new [int 0, .nil, .nil, .nil, .nil]) <|
   .op true (.st 5 (.t 15) (.t 14)) <|
   .op true (.p (.ld (some 5)) [.t 15]) <|
   .op true (.call (.f 203) [.t 17, .t 1, .t 2]) <|
   .op true (.p (.ext 0) [.t 18]) <|
   .op true (.p (.ext 1) [.t 18]) <|
   .op true (.p (.ext 2) [.t 18]) <|
   .op true (.p (.bin .neq) [.t 19, .t 10]) <|
   .br 22
    (.ret [(.c (bool false), none)])
    (.op true (.p (.bin .neq) [.t 20, .t 11]) <|
    .br 23
     (.ret [(.c (bool false), none)])
     (.op true (.p (.bin .neq) [.t 21, .t 12]) <|
     .br 24
      (.ret [(.c (bool false), none)])
      (.op true (.p (.ld (some 5)) [.t 15]) <|
      .op true (.p (.ld (some 5)) [.t 3]) <|
      .op true (.call (.f 5) [.t 26]) <|
      .op true (.call (.f 8) [.t 25, .t 27]) <|
      .op true (.p .bnot [.t 28]) <|
      .br 29
       (.ret [(.c (bool false), none)])
       (.ret [(.c (bool true), none)])))))
set_option maxHeartbeats 1000000 in
theorem law_CoequalizerArrow (L : HLaw P ν) (h : Has P ν 84 3 V_laws_FnExactCoequalizerArrow) (c : Cat) (rd : Read c) (f : Int) (g : Int) (hb : Small2 c → ∃ r0 r1 r2 : Int, Fz (OkM P ν) 203 [.agg c.cells, int f, int g] (.tup [int r0, int r1, int r2]) ∧ Fz (OkM P ν) 202 [.agg c.cells, int f, int g] (.tup [int r0, int r1, int r2])) :
    OkM P ν 84 [.agg c.cells, int f, int g] hempty 0 (fun r _ _ => r = bool true) := by
  refine h _ _ _ _ rfl fun hwf => ?_
  unfold V_laws_FnExactCoequalizerArrow
  simp only [SS, Nat.reduceEqDiff, Nat.reduceAdd, iput, puts, p_boxc, p_ldc]
  refine den_call (fc := (3, [])) rfl (by first | (simp only [SS, Nat.reduceEqDiff, Nat.reduceAdd, iput, puts, FF, frzL_cat]; done) | (simp only [SS, Nat.reduceEqDiff, Nat.reduceAdd, iput, puts, FF, frzL_cat]; rfl)) ((szCat_ok L.szI L.szII L.szC c rd 1048576 (by omega) (by omega)).fzi) ?_
  simp only [SS, Nat.reduceEqDiff, Nat.reduceAdd, iput, puts, p_ldc]
  refine ⟨fun h1 => ⟨_, rfl, hempty, fun _ _ h => h, rfl⟩, fun h1 => ?_⟩
  have b := szCat_small (c := c) (left := 1048576) (by omega) (by omega) (by omega)
  obtain ⟨r0, r1, r2, hi, hs⟩ := hb b
  refine den_call (fc := (5, [])) rfl (by first | (simp only [SS, Nat.reduceEqDiff, Nat.reduceAdd, iput, puts, FF, frzL_cat]; done) | (simp only [SS, Nat.reduceEqDiff, Nat.reduceAdd, iput, puts, FF, frzL_cat]; rfl)) (toCat_fz L.toI L.toII L.toC c b) ?_
  refine den_call (fc := (202, [])) rfl (by first | (simp only [SS, Nat.reduceEqDiff, Nat.reduceAdd, iput, puts, FF, frzL_cat]; done) | (simp only [SS, Nat.reduceEqDiff, Nat.reduceAdd, iput, puts, FF, frzL_cat]; rfl)) (hs) ?_
  simp only [SS, Nat.reduceEqDiff, Nat.reduceAdd, iput, puts, p_ldc]
  refine den_call (fc := (5, [])) rfl (by first | (simp only [SS, Nat.reduceEqDiff, Nat.reduceAdd, iput, puts, FF, frzL_cat]; done) | (simp only [SS, Nat.reduceEqDiff, Nat.reduceAdd, iput, puts, FF, frzL_cat]; rfl)) (toCat_fz L.toI L.toII L.toC c b) ?_
  refine den_new ?_
  refine den_stA (o := 0) (m := 5) rfl rfl (hput_eq _ _ _) rfl rfl rfl ?_
  rw [hput_hput]
  have x2 : hput hempty 0 (some c.cells) 0 = some c.cells := hput_eq _ _ _
  show den _ _ _ _ _ (hput hempty 0 (some c.cells)) _ _
  generalize hput hempty 0 (some c.cells) = H2 at x2
  refine den_lda (o := 0) (m := 5) rfl x2 rfl ?_
  refine den_call (fc := (203, [])) rfl (by first | (simp only [SS, Nat.reduceEqDiff, Nat.reduceAdd, iput, puts, FF, frzL_cat]; done) | (simp only [SS, Nat.reduceEqDiff, Nat.reduceAdd, iput, puts, FF, frzL_cat]; rfl)) (hi) ?_
  simp only [SS, Nat.reduceEqDiff, Nat.reduceAdd, iput, puts, neSelf, p_eqbS, p_ldsm (l := 5) x2 rfl, p_ldc]
  refine den_call (fc := (5, [])) rfl (by first | (simp only [SS, Nat.reduceEqDiff, Nat.reduceAdd, iput, puts, FF, frzL_cat]; done) | (simp only [SS, Nat.reduceEqDiff, Nat.reduceAdd, iput, puts, FF, frzL_cat]; rfl)) (toCat_fz L.toI L.toII L.toC c b) ?_
  refine den_call (fc := (8, [])) rfl (by first | (simp only [SS, Nat.reduceEqDiff, Nat.reduceAdd, iput, puts, FF, frzL_cat]; done) | (simp only [SS, Nat.reduceEqDiff, Nat.reduceAdd, iput, puts, FF, frzL_cat]; rfl)) (eqCat_same L c b) ?_
  simp only [SS, Nat.reduceEqDiff, Nat.reduceAdd, iput, puts]
  exact ⟨_, rfl, hempty, (fun _ _ h => by cases h), rfl⟩
end Go.Av
