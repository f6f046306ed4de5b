/-
  The statement on OppositeCategory.
-/
import Derived.Test.YtalfoffamemfnaaAvR3
namespace Go.Av
open Classical
set_option linter.unusedSimpArgs false
set_option linter.unusedVariables false
variable {P : Program} {ν : Nat → FuncId}

def V_laws_FnExactOppositeCategory : Vc :=
  .op true (.p .box [.t 0]) <|
  .op true (.p (.ld (some 5)) [.t 1]) <|
  .op true (.call (.f 3) [.t 2, .c (int 1048576)]) <|
  .op true (.p (.bin .lss) [.t 3, .c (int 0)]) <|
  .br 4
   (.ret [(.c (bool true), none)])
   (.op true (.p (.ld (some 5)) [.t 1]) <|
   .op true (.call (.f 5) [.t 5]) <|
   .op true (.call (.f 112) [.t 6]) <|
   .op true (.p (.ext 0) [.t 7]) <|
   .op true (.p (.ext 1) [.t 7]) <|
   .op true (.new [int 0, .nil, .nil, .nil, .nil]) <|
   .op true (.st 5 (.t 10) (.t 8)) <|
   .op true (.p (.ld (some 5)) [.t 1]) <|
   .op true (.callm (.f 5) [.t 12]) <|
   .op true (.new [int 0, .nil, .nil, .nil, .nil]) <|
   .op true (.st 5 (.t 14) (.t 13)) <|
   .op true (.p (.ld (some 5)) [.t 14]) <|
   .op true (.callo (.f 113) [.t 16]) <|
   .op true (.p (.ext 0) [.t 17]) <|
   .op true (.p (.ext 1) [.t 17]) <|
   .op true (.new [int 0, .nil, .nil, .nil, .nil]) <|
   .op true (.st 5 (.t 20) (.t 18)) <|
   .op true (.p (.ld (some 5)) [.t 20]) <|
   .op true (.p (.ld (some 5)) [.t 10]) <|
   .op true (.call (.f 8) [.t 22, .t 23]) <|
   .op true (.p .bnot [.t 24]) <|
   .br 25
    (.ret [(.c (bool false), none)])
    (.op true (.p (.bin .neq) [.t 19, .t 9]) <|
    .br 26
     (.ret [(.c (bool false), none)])
     (.op true (.p (.ld (some 5)) [.t 14]) <|
     .op true (.p (.ld (some 5)) [.t 1]) <|
     .op true (.call (.f 5) [.t 28]) <|
     .op true (.call (.f 8) [.t 27, .t 29]) <|
     .op true (.p .bnot [.t 30]) <|
     .br 31
      (.ret [(.c (bool false), none)])
      (.op true (.p (.ld (some 5)) [.t 14]) <|
      .op true (.callm (.f 9) [.t 32, .c (int 1)]) <|
      .op true (.p (.bin .lss) [.t 33, .c (int 0)]) <|
      .br 34
       (.ret [(.c (bool false), none)])
       (.op true (.p (.ld (some 5)) [.t 20]) <|
       .op true (.p (.ld (some 5)) [.t 10]) <|
       .op true (.call (.f 8) [.t 35, .t 36]) <|
       .op true (.p .bnot [.t 37]) <|
       .br 38
        (.ret [(.c (bool false), none)])
        (.op true (.p (.bin .neq) [.t 19, .t 9]) <|
        .br 39
         (.ret [(.c (bool false), none)])
         (.op true (.p (.ld (some 5)) [.t 20]) <|
         .op true (.callm (.f 9) [.t 40, .c (int 1)]) <|
         .op true (.p (.ld (some 5)) [.t 20]) <|
         .op true (.call (.f 111) [.t 42, .c (int 1)]) <|
         .op true (.p (.bin .lss) [.t 43, .c (int 0)]) <|
         .br 44
          (.ret [(.c (bool false), none)])
          (.op true (.p (.bin .neq) [.t 43, .t 41]) <|
          .br 45
           (.ret [(.c (bool false), none)])
           (.op true (.p (.ld (some 5)) [.t 1]) <|
           .op true (.call (.f 5) [.t 46]) <|
           .op true (.callo (.f 113) [.t 47]) <|
           .op true (.p (.ext 0) [.t 48]) <|
           .op true (.p (.ext 1) [.t 48]) <|
           .op true (.new [int 0, .nil, .nil, .nil, .nil]) <|
           .op true (.st 5 (.t 51) (.t 49)) <|
           .op true (.p (.ld (some 5)) [.t 51]) <|
           .op true (.p (.ld (some 5)) [.t 10]) <|
           .op true (.call (.f 8) [.t 53, .t 54]) <|
           .op true (.p .bnot [.t 55]) <|
           .br 56
            (.ret [(.c (bool false), none)])
            (.op true (.p (.bin .neq) [.t 50, .t 9]) <|
            .br 57
             (.ret [(.c (bool false), none)])
             (.op true (.p (.ld (some 5)) [.t 20]) <|
             .op true (.call (.f 111) [.t 58, .c (int 1)]) <|
             .op true (.p (.bin .lss) [.t 59, .c (int 0)]) <|
             .br 60
              (.ret [(.c (bool false), none)])
              (.op true (.p (.bin .neq) [.t 59, .t 41]) <|
              .br 61
               (.ret [(.c (bool false), none)])
               (.ret [(.c (bool true), none)])))))))))))))
set_option maxHeartbeats 2000000 in
theorem law_OppositeCategory (L : HLaw P ν) (M : HMark P ν) (hII : Has P ν 150 2 V_laws_heldInt64SS) (hK : Has P ν 111 2 V_laws_heldCategory) (h : Has P ν 46 1 V_laws_FnExactOppositeCategory) (c : Cat) (rd_c : Read c) (hb : Small2 c → BothK P ν 113 112 [.agg c.cells]) :
    OkM P ν 46 [.agg c.cells] hempty 0 (fun r _ _ => r = bool true) := by
  refine h _ _ _ _ rfl fun hwf => ?_
  unfold V_laws_FnExactOppositeCategory
  simp only [SS, Nat.reduceEqDiff, Nat.reduceAdd, iput, puts, p_boxc, p_ldc]
  refine den_call (fc := (3, [])) (ys := [.agg c.cells, int 1048576]) rfl (by simp only [SS, Nat.reduceEqDiff, Nat.reduceAdd, iput, puts, FF, frzL_cat]) (szCat_ok L.szI L.szII L.szC c rd_c 1048576 (by omega) (by omega)).fzi ?_
  simp only [SS, Nat.reduceEqDiff, Nat.reduceAdd, iput, puts, p_boxc, p_ldc]
  refine ⟨fun h1 => ⟨_, rfl, hempty, fun _ _ h => h, rfl⟩, fun s_c => ?_⟩
  have b_c := szCat_small (c := c) (left := 1048576) (by omega) (by omega) (by omega)
  have c_c := szCat_le (c := c) (left := 1048576) (by omega) (by omega)
  obtain ⟨l, k, hl, himp, hs⟩ := hb b_c
  have ht := totC_le hl
  have e_c := toCat_fz L.toI L.toII L.toC c b_c
  refine den_call (fc := (5, [])) (ys := [.agg c.cells]) rfl (by simp only [SS, Nat.reduceEqDiff, Nat.reduceAdd, iput, puts, FF, frzL_cat]) e_c ?_
  simp only [SS, Nat.reduceEqDiff, Nat.reduceAdd, iput, puts, p_boxc, p_ldc]
  refine den_calli (fc := (112, [])) (ys := [.agg c.cells]) rfl (by simp only [SS, Nat.reduceEqDiff, Nat.reduceAdd, iput, puts, FF, frzL_cat]) hs ?_
  simp only [SS, Nat.reduceEqDiff, Nat.reduceAdd, iput, puts, p_boxc, p_ldc]
  refine den_newR fun H1 bw e => ?_
  refine den_stR (o := 0) (m := 5) (d := l.cells) rfl rfl bw rfl rfl rfl fun H2 bw e => ?_
  simp only [SS, Nat.reduceEqDiff, Nat.reduceAdd, iput, puts, p_boxc, p_ldc]
  refine den_callm (fc := (5, [])) rfl (toCat_R L c b_c _ _) (toCat_Rs _ _ _) fun u H3 x3 hu => ?_
  obtain ⟨n_c, rfl, l_c, rfl, at_c, e⟩ := hu
  have bw := (e _ (by omega)).trans bw
  refine den_newR fun H4 bx_c e => ?_
  have bw := (e _ (by omega)).trans bw
  have at_c := at_c.mono (fun o h1 h2 => e o (by omega))
  refine den_stR (o := (n_c + 4 + c.c.length)) (m := 5) (d := (catM c n_c).cells) rfl rfl bx_c rfl rfl rfl fun H5 bx_c e => ?_
  have bw := (e _ (by omega)).trans bw
  have at_c := at_c.mono (fun o h1 h2 => e o (by omega))
  simp only [SS, Nat.reduceEqDiff, Nat.reduceAdd, iput, puts, p_boxc, p_ldc]
  simp only [SS, Nat.reduceEqDiff, Nat.reduceAdd, iput, puts, p_boxc, p_ldc, p_ldsm (l := 5) bx_c rfl, catM_agg]
  refine den_callo (fc := (113, [])) (ys := [.agg c.cells]) rfl (by simp only [SS, Nat.reduceEqDiff, Nat.reduceAdd, iput, puts, FF, frzL_cat, at_c.frzL]) (himp _) (IsK.some _ _ _) fun u H' nx' hu => ?_
  obtain ⟨q1, q2, q3, r0, rfl, own⟩ := hu.own H5
  refine ⟨q1, q2, ?_⟩
  have e : ∀ o, o < ((n_c + 4 + c.c.length) + 1) → hmerge ((n_c + 4 + c.c.length) + 1) H5 H' o = H5 o := fun o ho => hmerge_lo ho
  have bw := (e _ (by omega)).trans bw
  have at_c := at_c.mono (fun o h1 h2 => e o (by omega))
  have bx_c := (e _ (by omega)).trans bx_c
  generalize hmerge ((n_c + 4 + c.c.length) + 1) H5 H' = H6 at bw at_c bx_c own
  clear hu q1 q2 e
  simp only [SS, Nat.reduceEqDiff, Nat.reduceAdd, iput, puts]
  obtain ⟨ga, gb, gd, ge, rfl, ownC⟩ := own
  have own : OwnK l (.agg [int l.o, ga, gb, gd, ge]) _ _ _ := ⟨ga, gb, gd, ge, rfl, ownC⟩
  clear ownC
  refine den_newR fun H7 bg e => ?_
  have bw := (e _ (by omega)).trans bw
  have at_c := at_c.mono (fun o h1 h2 => e o (by omega))
  have bx_c := (e _ (by omega)).trans bx_c
  have own := own.mono (Nat.le_refl _) (fun o h1 h2 => e o (by omega))
  refine den_stR (m := 5) (d := [int l.o, ga, gb, gd, ge]) rfl rfl bg rfl rfl own.one5 fun H8 bg e => ?_
  have bw := (e _ (by omega)).trans bw
  have at_c := at_c.mono (fun o h1 h2 => e o (by omega))
  have bx_c := (e _ (by omega)).trans bx_c
  have own := own.mono (Nat.le_refl _) (fun o h1 h2 => e o (by omega))
  simp only [SS, Nat.reduceEqDiff, Nat.reduceAdd, iput, puts, p_boxc, p_ldc, p_ldsm (l := 5) bw rfl, p_ldsm (l := 5) bg rfl, p_ldsm (l := 5) bx_c rfl, catM_agg]
  refine den_call (fc := (8, [])) (ys := [.agg l.cells, .agg l.cells]) rfl (by simp only [SS, Nat.reduceEqDiff, Nat.reduceAdd, iput, puts, FF, frzL_cat, own.frzL]) (eqCat_same L l hl) ?_
  simp only [SS, Nat.reduceEqDiff, Nat.reduceAdd, iput, puts, neSelf, p_boxc, p_ldc, p_ldsm (l := 5) bw rfl, p_ldsm (l := 5) bg rfl, p_ldsm (l := 5) bx_c rfl, catM_agg]
  refine den_call (fc := (5, [])) (ys := [.agg c.cells]) rfl (by simp only [SS, Nat.reduceEqDiff, Nat.reduceAdd, iput, puts, FF, frzL_cat]) e_c ?_
  simp only [SS, Nat.reduceEqDiff, Nat.reduceAdd, iput, puts, p_boxc, p_ldc]
  refine den_call (fc := (8, [])) (ys := [.agg c.cells, .agg c.cells]) rfl (by simp only [SS, Nat.reduceEqDiff, Nat.reduceAdd, iput, puts, FF, frzL_cat, at_c.frzL]) (eqCat_same L c b_c) ?_
  simp only [SS, Nat.reduceEqDiff, Nat.reduceAdd, iput, puts, neSelf, p_boxc, p_ldc, p_ldsm (l := 5) bw rfl, p_ldsm (l := 5) bg rfl, p_ldsm (l := 5) bx_c rfl, catM_agg]
  refine den_callm (fc := (9, [])) rfl (markCat_ok M.mI M.mII M.mC c b_c n_c _ _ _ at_c (by omega) (by omega) (by omega)) ⟨int 0, _, _, 0, rfl, by omega, by omega, Nat.le_refl _, fun _ _ _ => rfl⟩ fun u H9 x9 hu => ?_
  obtain ⟨k0, rfl, k0a, k0b, ne_c, e0⟩ := hu
  have bw := (e0 _ (by omega) (by omega)).trans bw
  have bx_c := (e0 _ (by omega) (by omega)).trans bx_c
  have bg := (e0 _ (by omega) (by omega)).trans bg
  have own := own.mono (Nat.le_refl _) (fun o h1 h2 => e0 o (by omega) (by omega))
  simp only [SS, Nat.reduceEqDiff, Nat.reduceAdd, iput, puts, p_ldsm (l := 5) bw rfl, p_ldsm (l := 5) bg rfl, p_ldsm (l := 5) bx_c rfl, catM_agg]
  have k9 : ¬ k0 < 0 := by omega
  simp only [SS, Nat.reduceEqDiff, Nat.reduceAdd, iput, puts, k9, p_ldsm (l := 5) bw rfl, p_ldsm (l := 5) bg rfl, p_ldsm (l := 5) bx_c rfl, catM_agg]
  refine den_call (fc := (8, [])) (ys := [.agg l.cells, .agg l.cells]) rfl (by simp only [SS, Nat.reduceEqDiff, Nat.reduceAdd, iput, puts, FF, frzL_cat, own.frzL]) (eqCat_same L l hl) ?_
  simp only [SS, Nat.reduceEqDiff, Nat.reduceAdd, iput, puts, neSelf, p_ldsm (l := 5) bw rfl, p_ldsm (l := 5) bg rfl, p_ldsm (l := 5) bx_c rfl, catM_agg]
  refine den_callm (fc := (9, [])) rfl (markK_own M l hl 1 (.agg [int l.o, ga, gb, gd, ge]) _ _ _ _ own (by omega) (by omega) (by omega) (by omega)) (own.marked 1 _) fun u H10 x10 hu => ?_
  obtain ⟨rfl, le5, own5, q6⟩ := hu
  have hh := (heldK_ok M.hI hII hK l hl 1 (by omega) (by omega)).fzi
  have bw := (q6 _ (by omega) (by omega)).trans bw
  have bg := (q6 _ (by omega) (by omega)).trans bg
  simp only [SS, Nat.reduceEqDiff, Nat.reduceAdd, iput, puts, p_ldsm (l := 5) bw rfl, p_ldsm (l := 5) bg rfl, p_ldsm (l := 5) bx_c rfl, catM_agg]
  refine den_call (fc := (111, [])) (ys := [.agg (seqC 1 l).cells, int 1]) rfl (by simp only [SS, Nat.reduceEqDiff, Nat.reduceAdd, iput, puts, FF, frzL_cat, own5.frzL]) hh ?_
  have k7 : ¬ (1 + (totC l : Int)) < 0 := by omega
  simp only [SS, Nat.reduceEqDiff, Nat.reduceAdd, iput, puts, k7, neSelf, p_boxc, p_ldc]
  refine den_call (fc := (5, [])) (ys := [.agg c.cells]) rfl (by simp only [SS, Nat.reduceEqDiff, Nat.reduceAdd, iput, puts, FF, frzL_cat]) e_c ?_
  simp only [SS, Nat.reduceEqDiff, Nat.reduceAdd, iput, puts, p_boxc, p_ldc]
  refine den_callo (fc := (113, [])) (ys := [.agg c.cells]) rfl (by simp only [SS, Nat.reduceEqDiff, Nat.reduceAdd, iput, puts, FF, frzL_cat]) (himp _) (IsK.some _ _ _) fun u H' nx' hu => ?_
  obtain ⟨q1, q2, q3, r1, rfl, own6⟩ := hu.own H10
  refine ⟨q1, q2, ?_⟩
  have e : ∀ o, o < x10 → hmerge x10 H10 H' o = H10 o := fun o ho => hmerge_lo ho
  have own7 := own5.mono (Nat.le_refl _) (fun o _ h3 => e o (by omega))
  simp only [SS, Nat.reduceEqDiff, Nat.reduceAdd, iput, puts]
  have bw := (e _ (by omega)).trans bw
  have bg := (e _ (by omega)).trans bg
  generalize hmerge x10 H10 H' = H11 at own6 own7 bw bg
  clear e hu q1 q2
  obtain ⟨ha, hb2, hd, he, rfl, ownC⟩ := own6
  have own6 : OwnK l (.agg [int l.o, ha, hb2, hd, he]) _ _ _ := ⟨ha, hb2, hd, he, rfl, ownC⟩
  clear ownC
  refine den_newR fun H12 bh e => ?_
  have bw := (e _ (by omega)).trans bw
  have bg := (e _ (by omega)).trans bg
  have own6 := own6.mono (Nat.le_refl _) (fun o h1 h2 => e o (by omega))
  have own7 := own7.mono (Nat.le_refl _) (fun o h1 h2 => e o (by omega))
  refine den_stR (m := 5) (d := [int l.o, ha, hb2, hd, he]) rfl rfl bh rfl rfl own6.one5 fun H13 bh e => ?_
  have bw := (e _ (by omega)).trans bw
  have bg := (e _ (by omega)).trans bg
  have own6 := own6.mono (Nat.le_refl _) (fun o h1 h2 => e o (by omega))
  have own7 := own7.mono (Nat.le_refl _) (fun o h1 h2 => e o (by omega))
  simp only [SS, Nat.reduceEqDiff, Nat.reduceAdd, iput, puts, p_boxc, p_ldc, p_ldsm (l := 5) bw rfl, p_ldsm (l := 5) bg rfl, p_ldsm (l := 5) bh rfl, p_ldsm (l := 5) bx_c rfl, catM_agg]
  refine den_call (fc := (8, [])) (ys := [.agg l.cells, .agg l.cells]) rfl (by simp only [SS, Nat.reduceEqDiff, Nat.reduceAdd, iput, puts, FF, frzL_cat, own6.frzL]) (eqCat_same L l hl) ?_
  simp only [SS, Nat.reduceEqDiff, Nat.reduceAdd, iput, puts, neSelf, p_ldsm (l := 5) bw rfl, p_ldsm (l := 5) bg rfl, p_ldsm (l := 5) bh rfl, p_ldsm (l := 5) bx_c rfl, catM_agg]
  refine den_call (fc := (111, [])) (ys := [.agg (seqC 1 l).cells, int 1]) rfl (by simp only [SS, Nat.reduceEqDiff, Nat.reduceAdd, iput, puts, FF, frzL_cat, own7.frzL]) hh ?_
  simp only [SS, Nat.reduceEqDiff, Nat.reduceAdd, iput, puts, k7, neSelf]
  exact ⟨_, rfl, hempty, (fun _ _ h => by cases h), rfl⟩
end Go.Av
