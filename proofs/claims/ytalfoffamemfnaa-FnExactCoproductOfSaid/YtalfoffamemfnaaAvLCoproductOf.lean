/-
  The statement on CoproductOf.
-/
import Derived.Test.YtalfoffamemfnaaAvL0
namespace Go.Av
open Classical
set_option linter.unusedSimpArgs false
set_option linter.unusedVariables false
variable {P : Program} {ν : Nat → FuncId}

def V_laws_FnExactCoproductOf : Vc :=
  .op true (.p .box [.t 0]) <|
  .op true (.p (.ld (some 5)) [.t 3]) <|
  .op true (.call (.f 3) [.t 4, .c (int 1048576)]) <|
  .op true (.p (.bin .lss) [.t 5, .c (int 0)]) <|
  .br 6
   (.ret [(.c (bool true), none)])
   (.op true (.p (.ld (some 5)) [.t 3]) <|
   .op true (.call (.f 5) [.t 7]) <|
   .op true (.call (.f 190) [.t 8, .t 1, .t 2]) <|
   .op true (.p (.ext 0) [.t 9]) <|
   .op true (.p (.ext 1) [.t 9]) <|
   .op true (.p (.ext 2) [.t 9]) <|
   .op true (.p (.ext 3) [.t 9]) <|
   .op true (.p (.ld (some 5)) [.t 3]) <|
   .op true (.call (.f 5) [.t 14]) <|
   .op true (.new [int 0, .nil, .nil, .nil, .nil]) <|
   .op true (.st 5 (.t 16) (.t 15)) <|
   .op true (.p (.ld (some 5)) [.t 16]) <|
   .op true (.call (.f 191) [.t 18, .t 1, .t 2]) <|
   .op true (.p (.ext 0) [.t 19]) <|
   .op true (.p (.ext 1) [.t 19]) <|
   .op true (.p (.ext 2) [.t 19]) <|
   .op true (.p (.ext 3) [.t 19]) <|
   .op true (.p (.bin .neq) [.t 20, .t 10]) <|
   .br 24
    (.ret [(.c (bool false), none)])
    (.op true (.p (.bin .neq) [.t 21, .t 11]) <|
    .br 25
     (.ret [(.c (bool false), none)])
     (.op true (.p (.bin .neq) [.t 22, .t 12]) <|
     .br 26
      (.ret [(.c (bool false), none)])
      (.op true (.p (.bin .neq) [.t 23, .t 13]) <|
      .br 27
       (.ret [(.c (bool false), none)])
       (.op true (.p (.ld (some 5)) [.t 16]) <|
       .op true (.p (.ld (some 5)) [.t 3]) <|
       .op true (.call (.f 5) [.t 29]) <|
       .op true (.call (.f 8) [.t 28, .t 30]) <|
       .op true (.p .bnot [.t 31]) <|
       .br 32
        (.ret [(.c (bool false), none)])
        (.ret [(.c (bool true), none)]))))))
set_option maxHeartbeats 1000000 in
theorem law_CoproductOf (L : HLaw P ν) (h : Has P ν 78 3 V_laws_FnExactCoproductOf) (c : Cat) (rd : Read c) (x : Int) (y : Int) (hb : Small2 c → ∃ r0 r1 r2 r3 : Int, Fz (OkM P ν) 191 [.agg c.cells, int x, int y] (.tup [int r0, int r1, int r2, int r3]) ∧ Fz (OkM P ν) 190 [.agg c.cells, int x, int y] (.tup [int r0, int r1, int r2, int r3])) :
    OkM P ν 78 [.agg c.cells, int x, int y] hempty 0 (fun r _ _ => r = bool true) := by
  refine h _ _ _ _ rfl fun hwf => ?_
  unfold V_laws_FnExactCoproductOf
  simp only [SS, Nat.reduceEqDiff, Nat.reduceAdd, iput, puts, p_boxc, p_ldc]
  refine den_call (fc := (3, [])) rfl (by first | (simp only [SS, Nat.reduceEqDiff, Nat.reduceAdd, iput, puts, FF, frzL_cat]; done) | (simp only [SS, Nat.reduceEqDiff, Nat.reduceAdd, iput, puts, FF, frzL_cat]; rfl)) ((szCat_ok L.szI L.szII L.szC c rd 1048576 (by omega) (by omega)).fzi) ?_
  simp only [SS, Nat.reduceEqDiff, Nat.reduceAdd, iput, puts, p_ldc]
  refine ⟨fun h1 => ⟨_, rfl, hempty, fun _ _ h => h, rfl⟩, fun h1 => ?_⟩
  have b := szCat_small (c := c) (left := 1048576) (by omega) (by omega) (by omega)
  obtain ⟨r0, r1, r2, r3, hi, hs⟩ := hb b
  refine den_call (fc := (5, [])) rfl (by first | (simp only [SS, Nat.reduceEqDiff, Nat.reduceAdd, iput, puts, FF, frzL_cat]; done) | (simp only [SS, Nat.reduceEqDiff, Nat.reduceAdd, iput, puts, FF, frzL_cat]; rfl)) (toCat_fz L.toI L.toII L.toC c b) ?_
  refine den_call (fc := (190, [])) rfl (by first | (simp only [SS, Nat.reduceEqDiff, Nat.reduceAdd, iput, puts, FF, frzL_cat]; done) | (simp only [SS, Nat.reduceEqDiff, Nat.reduceAdd, iput, puts, FF, frzL_cat]; rfl)) (hs) ?_
  simp only [SS, Nat.reduceEqDiff, Nat.reduceAdd, iput, puts, p_ldc]
  refine den_call (fc := (5, [])) rfl (by first | (simp only [SS, Nat.reduceEqDiff, Nat.reduceAdd, iput, puts, FF, frzL_cat]; done) | (simp only [SS, Nat.reduceEqDiff, Nat.reduceAdd, iput, puts, FF, frzL_cat]; rfl)) (toCat_fz L.toI L.toII L.toC c b) ?_
  refine den_new ?_
  refine den_stA (o := 0) (m := 5) rfl rfl (hput_eq _ _ _) rfl rfl rfl ?_
  rw [hput_hput]
  have x2 : hput hempty 0 (some c.cells) 0 = some c.cells := hput_eq _ _ _
  show den _ _ _ _ _ (hput hempty 0 (some c.cells)) _ _
  generalize hput hempty 0 (some c.cells) = H2 at x2
  refine den_lda (o := 0) (m := 5) rfl x2 rfl ?_
  refine den_call (fc := (191, [])) rfl (by first | (simp only [SS, Nat.reduceEqDiff, Nat.reduceAdd, iput, puts, FF, frzL_cat]; done) | (simp only [SS, Nat.reduceEqDiff, Nat.reduceAdd, iput, puts, FF, frzL_cat]; rfl)) (hi) ?_
  simp only [SS, Nat.reduceEqDiff, Nat.reduceAdd, iput, puts, neSelf, p_eqbS, p_ldsm (l := 5) x2 rfl, p_ldc]
  refine den_call (fc := (5, [])) rfl (by first | (simp only [SS, Nat.reduceEqDiff, Nat.reduceAdd, iput, puts, FF, frzL_cat]; done) | (simp only [SS, Nat.reduceEqDiff, Nat.reduceAdd, iput, puts, FF, frzL_cat]; rfl)) (toCat_fz L.toI L.toII L.toC c b) ?_
  refine den_call (fc := (8, [])) rfl (by first | (simp only [SS, Nat.reduceEqDiff, Nat.reduceAdd, iput, puts, FF, frzL_cat]; done) | (simp only [SS, Nat.reduceEqDiff, Nat.reduceAdd, iput, puts, FF, frzL_cat]; rfl)) (eqCat_same L c b) ?_
  simp only [SS, Nat.reduceEqDiff, Nat.reduceAdd, iput, puts]
  exact ⟨_, rfl, hempty, (fun _ _ h => by cases h), rfl⟩
end Go.Av
