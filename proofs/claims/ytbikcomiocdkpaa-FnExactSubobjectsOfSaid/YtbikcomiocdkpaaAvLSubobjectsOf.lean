/-
  The statement on SubobjectsOf.
-/
import Derived.Test.YtbikcomiocdkpaaAvR2
namespace Go.Av
open Classical
set_option linter.unusedSimpArgs false
set_option linter.unusedVariables false
variable {P : Program} {ν : Nat → FuncId}

def V_laws_FnExactSubobjectsOf : Vc :=
  .op true (.p .box [.t 0]) <|
  .op true (.p (.ld (some 5)) [.t 2]) <|
  .op true (.call (.f 3) [.t 3, .c (int 1048576)]) <|
  .op true (.p (.bin .lss) [.t 4, .c (int 0)]) <|
  .br 5
   (.ret [(.c (bool true), none)])
   (.op true (.p (.ld (some 5)) [.t 2]) <|
   .op true (.call (.f 5) [.t 6]) <|
   .op true (.call (.f 186) [.t 7, .t 1]) <|
   .op true (.p (.ext 0) [.t 8]) <|
   .op true (.p (.ext 1) [.t 8]) <|
   .op true (.p (.ld (some 5)) [.t 2]) <|
   .op true (.callm (.f 5) [.t 11]) <|
   .op true (.new [int 0, .nil, .nil, .nil, .nil]) <|
   .op true (.st 5 (.t 13) (.t 12)) <|
   .op true (.p (.ld (some 5)) [.t 13]) <|
   .op true (.callo (.f 187) [.t 15, .t 1]) <|
   .op true (.p (.ext 0) [.t 16]) <|
   .op true (.p (.ext 1) [.t 16]) <|
   .op true (.call (.f 20) [.t 17, .t 9]) <|
   .op true (.p .bnot [.t 19]) <|
   .br 20
    (.ret [(.c (bool false), none)])
    (.op true (.p (.bin .neq) [.t 18, .t 10]) <|
    .br 21
     (.ret [(.c (bool false), none)])
     (.op true (.p (.ld (some 5)) [.t 13]) <|
     .op true (.p (.ld (some 5)) [.t 2]) <|
     .op true (.call (.f 5) [.t 23]) <|
     .op true (.call (.f 8) [.t 22, .t 24]) <|
     .op true (.p .bnot [.t 25]) <|
     .br 26
      (.ret [(.c (bool false), none)])
      (.op true (.p (.ld (some 5)) [.t 13]) <|
      .op true (.callm (.f 9) [.t 27, .c (int 1)]) <|
      .op true (.p (.bin .lss) [.t 28, .c (int 0)]) <|
      .br 29
       (.ret [(.c (bool false), none)])
       (.op true (.call (.f 20) [.t 17, .t 9]) <|
       .op true (.p .bnot [.t 30]) <|
       .br 31
        (.ret [(.c (bool false), none)])
        (.op true (.p (.bin .neq) [.t 18, .t 10]) <|
        .br 32
         (.ret [(.c (bool false), none)])
         (.op true (.callm (.f 21) [.t 17, .c (int 1)]) <|
         .op true (.call (.f 150) [.t 17, .c (int 1)]) <|
         .op true (.p (.bin .lss) [.t 34, .c (int 0)]) <|
         .br 35
          (.ret [(.c (bool false), none)])
          (.op true (.p (.bin .neq) [.t 34, .t 33]) <|
          .br 36
           (.ret [(.c (bool false), none)])
           (.op true (.p (.ld (some 5)) [.t 2]) <|
           .op true (.call (.f 5) [.t 37]) <|
           .op true (.callo (.f 187) [.t 38, .t 1]) <|
           .op true (.p (.ext 0) [.t 39]) <|
           .op true (.p (.ext 1) [.t 39]) <|
           .op true (.call (.f 20) [.t 40, .t 9]) <|
           .op true (.p .bnot [.t 42]) <|
           .br 43
            (.ret [(.c (bool false), none)])
            (.op true (.p (.bin .neq) [.t 41, .t 10]) <|
            .br 44
             (.ret [(.c (bool false), none)])
             (.op true (.call (.f 150) [.t 17, .c (int 1)]) <|
             .op true (.p (.bin .lss) [.t 45, .c (int 0)]) <|
             .br 46
              (.ret [(.c (bool false), none)])
              (.op true (.p (.bin .neq) [.t 45, .t 33]) <|
              .br 47
               (.ret [(.c (bool false), none)])
               (.ret [(.c (bool true), none)])))))))))))))
set_option maxHeartbeats 2000000 in
theorem law_SubobjectsOf (L : HLaw P ν) (M : HMark P ν) (hII : Has P ν 150 2 V_laws_heldInt64SS) (h : Has P ν 76 2 V_laws_FnExactSubobjectsOf) (c : Cat) (rd_c : Read c) (x : Int) (hb : Small2 c → BothQ P ν 187 186 [.agg c.cells, int x]) :
    OkM P ν 76 [.agg c.cells, int x] hempty 0 (fun r _ _ => r = bool true) := by
  refine h _ _ _ _ rfl fun hwf => ?_
  unfold V_laws_FnExactSubobjectsOf
  simp only [SS, Nat.reduceEqDiff, Nat.reduceAdd, iput, puts, p_boxc, p_ldc]
  refine den_call (fc := (3, [])) (ys := [.agg c.cells, int 1048576]) rfl (by simp only [SS, Nat.reduceEqDiff, Nat.reduceAdd, iput, puts, FF, frzL_cat]) (szCat_ok L.szI L.szII L.szC c rd_c 1048576 (by omega) (by omega)).fzi ?_
  simp only [SS, Nat.reduceEqDiff, Nat.reduceAdd, iput, puts, p_boxc, p_ldc]
  refine ⟨fun h1 => ⟨_, rfl, hempty, fun _ _ h => h, rfl⟩, fun s_c => ?_⟩
  have b_c := szCat_small (c := c) (left := 1048576) (by omega) (by omega) (by omega)
  have c_c := szCat_le (c := c) (left := 1048576) (by omega) (by omega)
  obtain ⟨l, k, hl, hl2, himp, hs⟩ := hb b_c
  have ht : tot l ≤ 1099511627776 := by have := tot_le hl2; have : l.length * 1048576 ≤ 1048576 * 1048576 := Nat.mul_le_mul_right _ hl; omega
  have e_c := toCat_fz L.toI L.toII L.toC c b_c
  refine den_call (fc := (5, [])) (ys := [.agg c.cells]) rfl (by simp only [SS, Nat.reduceEqDiff, Nat.reduceAdd, iput, puts, FF, frzL_cat]) e_c ?_
  simp only [SS, Nat.reduceEqDiff, Nat.reduceAdd, iput, puts, p_boxc, p_ldc]
  refine den_calli (fc := (186, [])) (ys := [.agg c.cells, int x]) rfl (by simp only [SS, Nat.reduceEqDiff, Nat.reduceAdd, iput, puts, FF, frzL_cat]) hs ?_
  simp only [SS, Nat.reduceEqDiff, Nat.reduceAdd, iput, puts, p_boxc, p_ldc]
  refine den_callm (fc := (5, [])) rfl (toCat_R L c b_c _ _) (toCat_Rs _ _ _) fun u H1 x1 hu => ?_
  obtain ⟨n_c, rfl, l_c, rfl, at_c, e⟩ := hu
  refine den_newR fun H2 bx_c e => ?_
  have at_c := at_c.mono (fun o h1 h2 => e o (by omega))
  refine den_stR (o := (n_c + 4 + c.c.length)) (m := 5) (d := (catM c n_c).cells) rfl rfl bx_c rfl rfl rfl fun H3 bx_c e => ?_
  have at_c := at_c.mono (fun o h1 h2 => e o (by omega))
  simp only [SS, Nat.reduceEqDiff, Nat.reduceAdd, iput, puts, p_boxc, p_ldc]
  simp only [SS, Nat.reduceEqDiff, Nat.reduceAdd, iput, puts, p_boxc, p_ldc, p_ldsm (l := 5) bx_c rfl, catM_agg]
  refine den_callo (fc := (187, [])) (ys := [.agg c.cells, int x]) rfl (by simp only [SS, Nat.reduceEqDiff, Nat.reduceAdd, iput, puts, FF, frzL_cat, at_c.frzL]) (himp _) (IsQ.some _ _ _) fun u H' nx' hu => ?_
  obtain ⟨q1, q2, q3, r0, rfl, own⟩ := hu.own H3
  refine ⟨q1, q2, ?_⟩
  have e : ∀ o, o < ((n_c + 4 + c.c.length) + 1) → hmerge ((n_c + 4 + c.c.length) + 1) H3 H' o = H3 o := fun o ho => hmerge_lo ho
  have at_c := at_c.mono (fun o h1 h2 => e o (by omega))
  have bx_c := (e _ (by omega)).trans bx_c
  generalize hmerge ((n_c + 4 + c.c.length) + 1) H3 H' = H4 at at_c bx_c own
  clear hu q1 q2 e
  simp only [SS, Nat.reduceEqDiff, Nat.reduceAdd, iput, puts]
  refine den_call (fc := (20, [])) (ys := [.sl (rows l) l.length, .sl (rows l) l.length]) rfl (by simp only [SS, Nat.reduceEqDiff, Nat.reduceAdd, iput, puts, FF, frzL_cat, own.frzL]) (eqII_same L.eqI L.eqII l hl hl2) ?_
  simp only [SS, Nat.reduceEqDiff, Nat.reduceAdd, iput, puts, neSelf, p_boxc, p_ldc, p_ldsm (l := 5) bx_c rfl, catM_agg]
  refine den_call (fc := (5, [])) (ys := [.agg c.cells]) rfl (by simp only [SS, Nat.reduceEqDiff, Nat.reduceAdd, iput, puts, FF, frzL_cat]) e_c ?_
  simp only [SS, Nat.reduceEqDiff, Nat.reduceAdd, iput, puts, p_boxc, p_ldc]
  refine den_call (fc := (8, [])) (ys := [.agg c.cells, .agg c.cells]) rfl (by simp only [SS, Nat.reduceEqDiff, Nat.reduceAdd, iput, puts, FF, frzL_cat, at_c.frzL]) (eqCat_same L c b_c) ?_
  simp only [SS, Nat.reduceEqDiff, Nat.reduceAdd, iput, puts, neSelf, p_boxc, p_ldc, p_ldsm (l := 5) bx_c rfl, catM_agg]
  refine den_callm (fc := (9, [])) rfl (markCat_ok M.mI M.mII M.mC c b_c n_c _ _ _ at_c (by omega) (by omega) (by omega)) ⟨int 0, _, _, 0, rfl, by omega, by omega, Nat.le_refl _, fun _ _ _ => rfl⟩ fun u H5 x5 hu => ?_
  obtain ⟨k0, rfl, k0a, k0b, ne_c, e0⟩ := hu
  have bx_c := (e0 _ (by omega) (by omega)).trans bx_c
  have own := own.mono ne_c (fun o h1 h2 => e0 o (by omega) (by omega))
  simp only [SS, Nat.reduceEqDiff, Nat.reduceAdd, iput, puts, p_ldsm (l := 5) bx_c rfl, catM_agg]
  have k9 : ¬ k0 < 0 := by omega
  simp only [SS, Nat.reduceEqDiff, Nat.reduceAdd, iput, puts, k9]
  refine den_call (fc := (20, [])) (ys := [.sl (rows l) l.length, .sl (rows l) l.length]) rfl (by simp only [SS, Nat.reduceEqDiff, Nat.reduceAdd, iput, puts, FF, frzL_cat, own.frzL]) (eqII_same L.eqI L.eqII l hl hl2) ?_
  simp only [SS, Nat.reduceEqDiff, Nat.reduceAdd, iput, puts, neSelf]
  refine den_callm (fc := (21, [])) rfl (markII_own M.mI M.mII l 1 r0 _ _ _ _ own (by omega) (by omega) hl hl2 (by omega)) (own.marked 1 _) fun u H6 x6 hu => ?_
  obtain ⟨rfl, rfl, own5, q6⟩ := hu
  have hh := (heldII_ok M.hI hII l 1 (by omega) (by omega) hl hl2 (by omega)).fzi
  refine den_call (fc := (150, [])) (ys := [.sl (rows (seqR 1 l)) l.length, int 1]) rfl (by simp only [SS, Nat.reduceEqDiff, Nat.reduceAdd, iput, puts, FF, frzL_cat, own5.frzL, seqR_len]) hh ?_
  have k7 : ¬ (1 + (tot l : Int)) < 0 := by omega
  simp only [SS, Nat.reduceEqDiff, Nat.reduceAdd, iput, puts, k7, neSelf, p_boxc, p_ldc]
  refine den_call (fc := (5, [])) (ys := [.agg c.cells]) rfl (by simp only [SS, Nat.reduceEqDiff, Nat.reduceAdd, iput, puts, FF, frzL_cat]) e_c ?_
  simp only [SS, Nat.reduceEqDiff, Nat.reduceAdd, iput, puts, p_boxc, p_ldc]
  refine den_callo (fc := (187, [])) (ys := [.agg c.cells, int x]) rfl (by simp only [SS, Nat.reduceEqDiff, Nat.reduceAdd, iput, puts, FF, frzL_cat]) (himp _) (IsQ.some _ _ _) fun u H' nx' hu => ?_
  obtain ⟨q1, q2, q3, r1, rfl, own6⟩ := hu.own H6
  refine ⟨q1, q2, ?_⟩
  have own7 := own5.mono (Nat.le_refl _) (fun o _ h3 => hmerge_lo (H := H6) (H' := H') (nx := x6) h3)
  simp only [SS, Nat.reduceEqDiff, Nat.reduceAdd, iput, puts]
  refine den_call (fc := (20, [])) (ys := [.sl (rows l) l.length, .sl (rows l) l.length]) rfl (by simp only [SS, Nat.reduceEqDiff, Nat.reduceAdd, iput, puts, FF, frzL_cat, own6.frzL]) (eqII_same L.eqI L.eqII l hl hl2) ?_
  simp only [SS, Nat.reduceEqDiff, Nat.reduceAdd, iput, puts, neSelf]
  refine den_call (fc := (150, [])) (ys := [.sl (rows (seqR 1 l)) l.length, int 1]) rfl (by simp only [SS, Nat.reduceEqDiff, Nat.reduceAdd, iput, puts, FF, frzL_cat, own7.frzL, seqR_len]) hh ?_
  simp only [SS, Nat.reduceEqDiff, Nat.reduceAdd, iput, puts, k7, neSelf]
  exact ⟨_, rfl, hempty, (fun _ _ h => by cases h), rfl⟩
end Go.Av
