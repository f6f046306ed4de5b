/-
  The statement on IsSetFunctor.
-/
import Derived.Test.YtgoojhaekppmcaaAvC5
namespace Go.Av
open Classical
set_option linter.unusedSimpArgs false
set_option linter.unusedVariables false
variable {P : Program} {ν : Nat → FuncId}

def V_laws_FnExactIsSetFunctor : Vc :=
  .op true (.p .box [.t 0]) <|
  .op true (.p (.ld (some 7)) [.t 1]) <|
  .op true (.call (.f 140) [.t 2, .c (int 1048576)]) <|
  .op true (.p (.bin .lss) [.t 3, .c (int 0)]) <|
  .br 4
   (.ret [(.c (bool true), none)])
   (.op true (.p (.ld (some 7)) [.t 1]) <|
   .op true (.call (.f 142) [.t 5]) <|
   .op true (.call (.f 145) [.t 6]) <|
   .op true (.p (.ld (some 7)) [.t 1]) <|
   .op true (.call (.f 142) [.t 8]) <|
   .op true (.new [int 0, .nil, .nil, .nil, .nil, .nil, .nil]) <|
   .op true (.st 7 (.t 10) (.t 9)) <|
   .op true (.p (.ld (some 7)) [.t 10]) <|
   .op true (.call (.f 146) [.t 12]) <|
   .op true (.p (.eqb true) [.t 13, .t 7]) <|
   .br 14
    (.ret [(.c (bool false), none)])
    (.op true (.p (.ld (some 7)) [.t 10]) <|
    .op true (.p (.ld (some 7)) [.t 1]) <|
    .op true (.call (.f 142) [.t 16]) <|
    .op true (.call (.f 144) [.t 15, .t 17]) <|
    .op true (.p .bnot [.t 18]) <|
    .br 19
     (.ret [(.c (bool false), none)])
     (.ret [(.c (bool true), none)])))
set_option maxHeartbeats 1000000 in
theorem law_IsSetFunctor (L : HLaw P ν) (LF : HLawF P ν) (h : Has P ν 58 1 V_laws_FnExactIsSetFunctor) (f : SF) (rd : ReadF f)  (hb : SmallF f → ∃ a : Bool, BothS P ν 146 145 [.agg f.cells] (bool a)) :
    OkM P ν 58 [.agg f.cells] hempty 0 (fun r _ _ => r = bool true) := by
  refine h _ _ _ _ rfl fun hwf => ?_
  unfold V_laws_FnExactIsSetFunctor
  simp only [SS, Nat.reduceEqDiff, Nat.reduceAdd, iput, puts, p_boxs, p_lds7]
  refine den_call (fc := (140, [])) (ys := [.agg f.cells, int 1048576]) rfl (by simp only [SS, Nat.reduceEqDiff, Nat.reduceAdd, iput, puts, FF, frzL_cat, frzL_sf]) (szF_fz L LF.sz f rd) ?_
  simp only [SS, Nat.reduceEqDiff, Nat.reduceAdd, iput, puts, p_lds7]
  refine ⟨fun h1 => ⟨_, rfl, hempty, fun _ _ h => h, rfl⟩, fun h1 => ?_⟩
  have b := szF_small (f := f) (by omega)
  obtain ⟨a, hi, hs⟩ := hb b
  refine den_call (fc := (142, [])) (ys := [.agg f.cells]) rfl (by simp only [SS, Nat.reduceEqDiff, Nat.reduceAdd, iput, puts, FF, frzL_cat, frzL_sf]) (toF_fz L LF.to f b) ?_
  refine den_call (fc := (145, [])) (ys := [.agg f.cells]) rfl (by simp only [SS, Nat.reduceEqDiff, Nat.reduceAdd, iput, puts, FF, frzL_cat, frzL_sf]) (hs.fz fun _ => rfl) ?_
  simp only [SS, Nat.reduceEqDiff, Nat.reduceAdd, iput, puts, p_lds7]
  refine den_call (fc := (142, [])) (ys := [.agg f.cells]) rfl (by simp only [SS, Nat.reduceEqDiff, Nat.reduceAdd, iput, puts, FF, frzL_cat, frzL_sf]) (toF_fz L LF.to f b) ?_
  refine den_new ?_
  refine den_stA (o := 0) (m := 7) rfl rfl (hput_eq _ _ _) rfl rfl rfl ?_
  rw [hput_hput]
  have x2 : hput hempty 0 (some f.cells) 0 = some f.cells := hput_eq _ _ _
  show den _ _ _ _ _ (hput hempty 0 (some f.cells)) _ _
  generalize hput hempty 0 (some f.cells) = H2 at x2
  refine den_lda (o := 0) (m := 7) rfl x2 rfl ?_
  refine den_call (fc := (146, [])) (ys := [.agg f.cells]) rfl (by simp only [SS, Nat.reduceEqDiff, Nat.reduceAdd, iput, puts, FF, frzL_cat, frzL_sf]) (hi.fz fun _ => rfl) ?_
  simp only [SS, Nat.reduceEqDiff, Nat.reduceAdd, iput, puts, neSelf, p_eqbS, p_ldsm (l := 7) x2 rfl, p_lds7]
  refine den_call (fc := (142, [])) (ys := [.agg f.cells]) rfl (by simp only [SS, Nat.reduceEqDiff, Nat.reduceAdd, iput, puts, FF, frzL_cat, frzL_sf]) (toF_fz L LF.to f b) ?_
  refine den_call (fc := (144, [])) (ys := [.agg f.cells, .agg f.cells]) rfl (by simp only [SS, Nat.reduceEqDiff, Nat.reduceAdd, iput, puts, FF, frzL_cat, frzL_sf]) (eqF_same L LF.eq f b) ?_
  simp only [SS, Nat.reduceEqDiff, Nat.reduceAdd, iput, puts]
  exact ⟨_, rfl, hempty, (fun _ _ h => by cases h), rfl⟩
end Go.Av
