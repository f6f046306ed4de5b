/-
  The statement on IsCongruence.
-/
import Derived.Test.YtbikcomiocdkpaaAvL0
namespace Go.Av
open Classical
set_option linter.unusedSimpArgs false
set_option linter.unusedVariables false
variable {P : Program} {ν : Nat → FuncId}

def V_laws_FnExactIsCongruence : Vc :=
  .op true (.p .box [.t 0]) <|
  .op true (.p .len [.t 1]) <|
  .op true (.p (.bin .gtr) [.t 3, .c (int 1048576)]) <|
  .br 4
   (.ret [(.c (bool true), none)])
   (.op true (.p (.ld (some 5)) [.t 2]) <|
   .op true (.call (.f 3) [.t 5, .c (int 1048576)]) <|
   .op true (.p (.bin .lss) [.t 6, .c (int 0)]) <|
   .br 7
    (.ret [(.c (bool true), none)])
    (.op true (.p (.ld (some 5)) [.t 2]) <|
    .op true (.call (.f 5) [.t 8]) <|
    .op true (.call (.f 16) [.t 1]) <|
    .op true (.call (.f 159) [.t 9, .t 10]) <|
    .op true (.p (.ext 0) [.t 11]) <|
    .op true (.p (.ext 1) [.t 11]) <|
    .op true (.p (.ld (some 5)) [.t 2]) <|
    .op true (.call (.f 5) [.t 14]) <|
    .op true (.new [int 0, .nil, .nil, .nil, .nil]) <|
    .op true (.st 5 (.t 16) (.t 15)) <|
    .op true (.call (.f 16) [.t 1]) <|
    .op true (.p (.ld (some 5)) [.t 16]) <|
    .op true (.call (.f 160) [.t 19, .t 18]) <|
    .op true (.p (.ext 0) [.t 20]) <|
    .op true (.p (.ext 1) [.t 20]) <|
    .op true (.p (.eqb true) [.t 21, .t 12]) <|
    .br 23
     (.ret [(.c (bool false), none)])
     (.op true (.p (.bin .neq) [.t 22, .t 13]) <|
     .br 24
      (.ret [(.c (bool false), none)])
      (.op true (.p (.ld (some 5)) [.t 16]) <|
      .op true (.p (.ld (some 5)) [.t 2]) <|
      .op true (.call (.f 5) [.t 26]) <|
      .op true (.call (.f 8) [.t 25, .t 27]) <|
      .op true (.p .bnot [.t 28]) <|
      .br 29
       (.ret [(.c (bool false), none)])
       (.op true (.call (.f 16) [.t 1]) <|
       .op true (.call (.f 7) [.t 18, .t 30]) <|
       .op true (.p .bnot [.t 31]) <|
       .br 32
        (.ret [(.c (bool false), none)])
        (.ret [(.c (bool true), none)]))))))
set_option maxHeartbeats 1000000 in
theorem law_IsCongruence (L : HLaw P ν) (h : Has P ν 64 2 V_laws_FnExactIsCongruence) (c : Cat) (rd : Read c) (p : List Int) (rd_p : p.length ≤ 9223372036854775807) (hb : Small2 c → p.length ≤ 1048576 → ∃ (a : Bool) (k : Int), BothS P ν 160 159 [.agg c.cells, islice p] (.tup [bool a, int k])) :
    OkM P ν 64 [.agg c.cells, islice p] hempty 0 (fun r _ _ => r = bool true) := by
  refine h _ _ _ _ rfl fun hwf => ?_
  unfold V_laws_FnExactIsCongruence
  simp only [SS, Nat.reduceEqDiff, Nat.reduceAdd, iput, puts, p_boxc, p_ldc]
  refine ⟨fun h1 => ⟨_, rfl, hempty, fun _ _ h => h, rfl⟩, fun hl_p => ?_⟩
  have b_p : p.length ≤ 1048576 := by omega
  refine den_call (fc := (3, [])) rfl (by first | (simp only [SS, Nat.reduceEqDiff, Nat.reduceAdd, iput, puts, FF, frzL_cat]; done) | (simp only [SS, Nat.reduceEqDiff, Nat.reduceAdd, iput, puts, FF, frzL_cat]; rfl)) ((szCat_ok L.szI L.szII L.szC c rd 1048576 (by omega) (by omega)).fzi) ?_
  simp only [SS, Nat.reduceEqDiff, Nat.reduceAdd, iput, puts, p_ldc]
  refine ⟨fun h1 => ⟨_, rfl, hempty, fun _ _ h => h, rfl⟩, fun h1 => ?_⟩
  have b := szCat_small (c := c) (left := 1048576) (by omega) (by omega) (by omega)
  obtain ⟨a, k, hi, hs⟩ := hb b b_p
  refine den_call (fc := (5, [])) rfl (by first | (simp only [SS, Nat.reduceEqDiff, Nat.reduceAdd, iput, puts, FF, frzL_cat]; done) | (simp only [SS, Nat.reduceEqDiff, Nat.reduceAdd, iput, puts, FF, frzL_cat]; rfl)) (toCat_fz L.toI L.toII L.toC c b) ?_
  refine den_call (fc := (16, [])) rfl (by first | (simp only [SS, Nat.reduceEqDiff, Nat.reduceAdd, iput, puts, FF, frzL_cat]; done) | (simp only [SS, Nat.reduceEqDiff, Nat.reduceAdd, iput, puts, FF, frzL_cat]; rfl)) (toI_fz L.toI p b_p) ?_
  refine den_call (fc := (159, [])) rfl (by first | (simp only [SS, Nat.reduceEqDiff, Nat.reduceAdd, iput, puts, FF, frzL_cat]; done) | (simp only [SS, Nat.reduceEqDiff, Nat.reduceAdd, iput, puts, FF, frzL_cat]; rfl)) (hs.fz fun _ => rfl) ?_
  simp only [SS, Nat.reduceEqDiff, Nat.reduceAdd, iput, puts, p_ldc]
  refine den_call (fc := (5, [])) rfl (by first | (simp only [SS, Nat.reduceEqDiff, Nat.reduceAdd, iput, puts, FF, frzL_cat]; done) | (simp only [SS, Nat.reduceEqDiff, Nat.reduceAdd, iput, puts, FF, frzL_cat]; rfl)) (toCat_fz L.toI L.toII L.toC c b) ?_
  refine den_new ?_
  refine den_stA (o := 0) (m := 5) rfl rfl (hput_eq _ _ _) rfl rfl rfl ?_
  rw [hput_hput]
  have x2 : hput hempty 0 (some c.cells) 0 = some c.cells := hput_eq _ _ _
  show den _ _ _ _ _ (hput hempty 0 (some c.cells)) _ _
  generalize hput hempty 0 (some c.cells) = H2 at x2
  refine den_call (fc := (16, [])) rfl (by first | (simp only [SS, Nat.reduceEqDiff, Nat.reduceAdd, iput, puts, FF, frzL_cat]; done) | (simp only [SS, Nat.reduceEqDiff, Nat.reduceAdd, iput, puts, FF, frzL_cat]; rfl)) (toI_fz L.toI p b_p) ?_
  refine den_lda (o := 0) (m := 5) rfl x2 rfl ?_
  refine den_call (fc := (160, [])) rfl (by first | (simp only [SS, Nat.reduceEqDiff, Nat.reduceAdd, iput, puts, FF, frzL_cat]; done) | (simp only [SS, Nat.reduceEqDiff, Nat.reduceAdd, iput, puts, FF, frzL_cat]; rfl)) (hi.fz fun _ => rfl) ?_
  simp only [SS, Nat.reduceEqDiff, Nat.reduceAdd, iput, puts, neSelf, p_eqbS, p_ldsm (l := 5) x2 rfl, p_ldc]
  refine den_call (fc := (5, [])) rfl (by first | (simp only [SS, Nat.reduceEqDiff, Nat.reduceAdd, iput, puts, FF, frzL_cat]; done) | (simp only [SS, Nat.reduceEqDiff, Nat.reduceAdd, iput, puts, FF, frzL_cat]; rfl)) (toCat_fz L.toI L.toII L.toC c b) ?_
  refine den_call (fc := (8, [])) rfl (by first | (simp only [SS, Nat.reduceEqDiff, Nat.reduceAdd, iput, puts, FF, frzL_cat]; done) | (simp only [SS, Nat.reduceEqDiff, Nat.reduceAdd, iput, puts, FF, frzL_cat]; rfl)) (eqCat_same L c b) ?_
  simp only [SS, Nat.reduceEqDiff, Nat.reduceAdd, iput, puts]
  refine den_call (fc := (16, [])) rfl (by first | (simp only [SS, Nat.reduceEqDiff, Nat.reduceAdd, iput, puts, FF, frzL_cat]; done) | (simp only [SS, Nat.reduceEqDiff, Nat.reduceAdd, iput, puts, FF, frzL_cat]; rfl)) (toI_fz L.toI p b_p) ?_
  refine den_call (fc := (7, [])) rfl (by first | (simp only [SS, Nat.reduceEqDiff, Nat.reduceAdd, iput, puts, FF, frzL_cat]; done) | (simp only [SS, Nat.reduceEqDiff, Nat.reduceAdd, iput, puts, FF, frzL_cat]; rfl)) (eqI_same L.eqI p (by omega)) ?_
  simp only [SS, Nat.reduceEqDiff, Nat.reduceAdd, iput, puts]
  exact ⟨_, rfl, hempty, (fun _ _ h => by cases h), rfl⟩
end Go.Av
