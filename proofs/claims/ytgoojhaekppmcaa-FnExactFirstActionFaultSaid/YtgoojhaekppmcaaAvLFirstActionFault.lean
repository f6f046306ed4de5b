/-
  The statement on FirstActionFault.
-/
import Derived.Test.YtgoojhaekppmcaaAvC5
namespace Go.Av
open Classical
set_option linter.unusedSimpArgs false
set_option linter.unusedVariables false
variable {P : Program} {ν : Nat → FuncId}

def V_laws_FnExactFirstActionFault : Vc :=
  .op true (.p .box [.t 0]) <|
  .op true (.p (.ld (some 7)) [.t 1]) <|
  .op true (.call (.f 140) [.t 2, .c (int 1048576)]) <|
  .op true (.p (.bin .lss) [.t 3, .c (int 0)]) <|
  .br 4
   (.ret [(.c (bool true), none)])
   (.op true (.p (.ld (some 7)) [.t 1]) <|
   .op true (.call (.f 142) [.t 5]) <|
   .op true (.call (.f 141) [.t 6]) <|
   .op true (.p (.ext 0) [.t 7]) <|
   .op true (.p (.ext 1) [.t 7]) <|
   .op true (.p (.ext 2) [.t 7]) <|
   .op true (.p (.ext 3) [.t 7]) <|
   .op true (.p (.ext 4) [.t 7]) <|
   .op true (.p (.ld (some 7)) [.t 1]) <|
   .op true (.call (.f 142) [.t 13]) <|
   .op true (.new [int 0, .nil, .nil, .nil, .nil, .nil, .nil]) <|
   .op true (.st 7 (.t 15) (.t 14)) <|
   .op true (.p (.ld (some 7)) [.t 15]) <|
   .op true (.call (.f 143) [.t 17]) <|
   .op true (.p (.ext 0) [.t 18]) <|
   .op true (.p (.ext 1) [.t 18]) <|
   .op true (.p (.ext 2) [.t 18]) <|
   .op true (.p (.ext 3) [.t 18]) <|
   .op true (.p (.ext 4) [.t 18]) <|
   .op true (.p (.bin .neq) [.t 19, .t 8]) <|
   .br 24
    (.ret [(.c (bool false), none)])
    (.op true (.p (.bin .neq) [.t 20, .t 9]) <|
    .br 25
     (.ret [(.c (bool false), none)])
     (.op true (.p (.bin .neq) [.t 21, .t 10]) <|
     .br 26
      (.ret [(.c (bool false), none)])
      (.op true (.p (.bin .neq) [.t 22, .t 11]) <|
      .br 27
       (.ret [(.c (bool false), none)])
       (.op true (.p (.bin .neq) [.t 23, .t 12]) <|
       .br 28
        (.ret [(.c (bool false), none)])
        (.op true (.p (.ld (some 7)) [.t 15]) <|
        .op true (.p (.ld (some 7)) [.t 1]) <|
        .op true (.call (.f 142) [.t 30]) <|
        .op true (.call (.f 144) [.t 29, .t 31]) <|
        .op true (.p .bnot [.t 32]) <|
        .br 33
         (.ret [(.c (bool false), none)])
         (.ret [(.c (bool true), none)])))))))
set_option maxHeartbeats 1000000 in
theorem law_FirstActionFault (L : HLaw P ν) (LF : HLawF P ν) (h : Has P ν 57 1 V_laws_FnExactFirstActionFault) (f : SF) (rd : ReadF f)  (hb : SmallF f → ∃ x y z w k : Int, BothS P ν 143 141 [.agg f.cells] (.tup [int x, int y, int z, int w, int k])) :
    OkM P ν 57 [.agg f.cells] hempty 0 (fun r _ _ => r = bool true) := by
  refine h _ _ _ _ rfl fun hwf => ?_
  unfold V_laws_FnExactFirstActionFault
  simp only [SS, Nat.reduceEqDiff, Nat.reduceAdd, iput, puts, p_boxs, p_lds7]
  refine den_call (fc := (140, [])) (ys := [.agg f.cells, int 1048576]) rfl (by simp only [SS, Nat.reduceEqDiff, Nat.reduceAdd, iput, puts, FF, frzL_cat, frzL_sf]) (szF_fz L LF.sz f rd) ?_
  simp only [SS, Nat.reduceEqDiff, Nat.reduceAdd, iput, puts, p_lds7]
  refine ⟨fun h1 => ⟨_, rfl, hempty, fun _ _ h => h, rfl⟩, fun h1 => ?_⟩
  have b := szF_small (f := f) (by omega)
  obtain ⟨x, y, z, w, k, hi, hs⟩ := hb b
  refine den_call (fc := (142, [])) (ys := [.agg f.cells]) rfl (by simp only [SS, Nat.reduceEqDiff, Nat.reduceAdd, iput, puts, FF, frzL_cat, frzL_sf]) (toF_fz L LF.to f b) ?_
  refine den_call (fc := (141, [])) (ys := [.agg f.cells]) rfl (by simp only [SS, Nat.reduceEqDiff, Nat.reduceAdd, iput, puts, FF, frzL_cat, frzL_sf]) (hs.fz fun _ => rfl) ?_
  simp only [SS, Nat.reduceEqDiff, Nat.reduceAdd, iput, puts, p_lds7]
  refine den_call (fc := (142, [])) (ys := [.agg f.cells]) rfl (by simp only [SS, Nat.reduceEqDiff, Nat.reduceAdd, iput, puts, FF, frzL_cat, frzL_sf]) (toF_fz L LF.to f b) ?_
  refine den_new ?_
  refine den_stA (o := 0) (m := 7) rfl rfl (hput_eq _ _ _) rfl rfl rfl ?_
  rw [hput_hput]
  have x2 : hput hempty 0 (some f.cells) 0 = some f.cells := hput_eq _ _ _
  show den _ _ _ _ _ (hput hempty 0 (some f.cells)) _ _
  generalize hput hempty 0 (some f.cells) = H2 at x2
  refine den_lda (o := 0) (m := 7) rfl x2 rfl ?_
  refine den_call (fc := (143, [])) (ys := [.agg f.cells]) rfl (by simp only [SS, Nat.reduceEqDiff, Nat.reduceAdd, iput, puts, FF, frzL_cat, frzL_sf]) (hi.fz fun _ => rfl) ?_
  simp only [SS, Nat.reduceEqDiff, Nat.reduceAdd, iput, puts, neSelf, p_eqbS, p_ldsm (l := 7) x2 rfl, p_lds7]
  refine den_call (fc := (142, [])) (ys := [.agg f.cells]) rfl (by simp only [SS, Nat.reduceEqDiff, Nat.reduceAdd, iput, puts, FF, frzL_cat, frzL_sf]) (toF_fz L LF.to f b) ?_
  refine den_call (fc := (144, [])) (ys := [.agg f.cells, .agg f.cells]) rfl (by simp only [SS, Nat.reduceEqDiff, Nat.reduceAdd, iput, puts, FF, frzL_cat, frzL_sf]) (eqF_same L LF.eq f b) ?_
  simp only [SS, Nat.reduceEqDiff, Nat.reduceAdd, iput, puts]
  exact ⟨_, rfl, hempty, (fun _ _ h => by cases h), rfl⟩
end Go.Av
