/-
  The statement on JoinCategory.
-/
import Derived.Test.YtbalggpkmaabmaaAvR3S
namespace Go.Av
open Classical
set_option linter.unusedSimpArgs false
set_option linter.unusedVariables false
variable {P : Program} {ν : Nat → FuncId}

def V_laws_FnExactJoinCategory : Vc :=
  .op true (.p .box [.t 0]) <|
  .op true (.p .box [.t 1]) <|
  .op true (.p (.ld (some 5)) [.t 2]) <|
  .op true (.call (.f 3) [.t 4, .c (int 1048576)]) <|
  .op true (.p (.bin .lss) [.t 5, .c (int 0)]) <|
  .br 6
   (.ret [(.c (bool true), none)])
   (.op true (.p (.ld (some 5)) [.t 3]) <|
   .op true (.call (.f 3) [.t 7, .t 5]) <|
   .op true (.p (.bin .lss) [.t 8, .c (int 0)]) <|
   .br 9
    (.ret [(.c (bool true), none)])
    (.op true (.p (.ld (some 5)) [.t 2]) <|
    .op true (.call (.f 5) [.t 10]) <|
    .op true (.p (.ld (some 5)) [.t 3]) <|
    .op true (.call (.f 5) [.t 12]) <|
    .op true (.call (.f 228) [.t 11, .t 13]) <|
    .op true (.p (.ext 0) [.t 14]) <|
    .op false (.p (.ext 1) [.t 14]) <|
    .op true (.new [int 0, .nil, .nil, .nil, .nil]) <|
    .op true (.st 5 (.t 17) (.t 15)) <|
    .op true (.p (.ld (some 5)) [.t 2]) <|
    .op true (.callm (.f 5) [.t 19]) <|
    .op true (.new [int 0, .nil, .nil, .nil, .nil]) <|
    .op true (.st 5 (.t 21) (.t 20)) <|
    .op true (.p (.ld (some 5)) [.t 3]) <|
    .op true (.callm (.f 5) [.t 23]) <|
    .op true (.new [int 0, .nil, .nil, .nil, .nil]) <|
    .op true (.st 5 (.t 25) (.t 24)) <|
    .op true (.p (.ld (some 5)) [.t 21]) <|
    .op true (.p (.ld (some 5)) [.t 25]) <|
    .op true (.callo (.f 229) [.t 27, .t 28]) <|
    .op true (.p (.ext 0) [.t 29]) <|
    .op true (.p (.ext 1) [.t 29]) <|
    .op true (.new [int 0, .nil, .nil, .nil, .nil]) <|
    .op true (.st 5 (.t 32) (.t 30)) <|
    .op true (.p (.ld (some 5)) [.t 32]) <|
    .op true (.p (.ld (some 5)) [.t 17]) <|
    .op true (.call (.f 8) [.t 34, .t 35]) <|
    .op true (.p .bnot [.t 36]) <|
    .br 37
     (.ret [(.c (bool false), none)])
     (.op true (.p (.bin .neq) [.t 31, .t 16]) <|
     .br 38
      (.ret [(.c (bool false), none)])
      (.op true (.p (.ld (some 5)) [.t 21]) <|
      .op true (.p (.ld (some 5)) [.t 2]) <|
      .op true (.call (.f 5) [.t 40]) <|
      .op true (.call (.f 8) [.t 39, .t 41]) <|
      .op true (.p .bnot [.t 42]) <|
      .br 43
       (.ret [(.c (bool false), none)])
       (.op true (.p (.ld (some 5)) [.t 25]) <|
       .op true (.p (.ld (some 5)) [.t 3]) <|
       .op true (.call (.f 5) [.t 45]) <|
       .op true (.call (.f 8) [.t 44, .t 46]) <|
       .op true (.p .bnot [.t 47]) <|
       .br 48
        (.ret [(.c (bool false), none)])
        (.op true (.p (.ld (some 5)) [.t 21]) <|
        .op true (.callm (.f 9) [.t 49, .c (int 1)]) <|
        .op true (.p (.ld (some 5)) [.t 25]) <|
        .op true (.callm (.f 9) [.t 51, .t 50]) <|
        .op true (.p (.bin .lss) [.t 52, .c (int 0)]) <|
        .br 53
         (.ret [(.c (bool false), none)])
         (.op true (.p (.ld (some 5)) [.t 32]) <|
         .op true (.p (.ld (some 5)) [.t 17]) <|
         .op true (.call (.f 8) [.t 54, .t 55]) <|
         .op true (.p .bnot [.t 56]) <|
         .br 57
          (.ret [(.c (bool false), none)])
          (.op true (.p (.bin .neq) [.t 31, .t 16]) <|
          .br 58
           (.ret [(.c (bool false), none)])
           (.op true (.p (.ld (some 5)) [.t 32]) <|
           .op true (.callm (.f 9) [.t 59, .c (int 1)]) <|
           .op true (.p (.ld (some 5)) [.t 32]) <|
           .op true (.call (.f 111) [.t 61, .c (int 1)]) <|
           .op true (.p (.bin .lss) [.t 62, .c (int 0)]) <|
           .br 63
            (.ret [(.c (bool false), none)])
            (.op true (.p (.bin .neq) [.t 62, .t 60]) <|
            .br 64
             (.ret [(.c (bool false), none)])
             (.op true (.p (.ld (some 5)) [.t 2]) <|
             .op true (.call (.f 5) [.t 65]) <|
             .op true (.p (.ld (some 5)) [.t 3]) <|
             .op true (.call (.f 5) [.t 67]) <|
             .op true (.call (.f 229) [.t 66, .t 68]) <|
             .op true (.p (.ext 0) [.t 69]) <|
             .op false (.p (.ext 1) [.t 69]) <|
             .op true (.new [int 0, .nil, .nil, .nil, .nil]) <|
             .op true (.st 5 (.t 72) (.t 70)) <|
             .op true (.p (.ld (some 5)) [.t 72]) <|
             .op true (.p (.ld (some 5)) [.t 17]) <|
             .op true (.call (.f 8) [.t 74, .t 75]) <|
             .op true (.p .bnot [.t 76]) <|
             .br 77
              (.ret [(.c (bool false), none)])
              (.op true (.p (.bin .neq) [.t 71, .t 16]) <|
              .br 78
               (.ret [(.c (bool false), none)])
               (.op true (.p (.ld (some 5)) [.t 32]) <|
               .op true (.call (.f 111) [.t 79, .c (int 1)]) <|
               .op true (.p (.bin .lss) [.t 80, .c (int 0)]) <|
               .br 81
                (.ret [(.c (bool false), none)])
                (.op true (.p (.bin .neq) [.t 80, .t 60]) <|
                .br 82
                 (.ret [(.c (bool false), none)])
                 (.ret [(.c (bool true), none)])))))))))))))))
set_option maxHeartbeats 2000000 in
theorem law_JoinCategory (L : HLaw P ν) (M : HMark P ν) (hII : Has P ν 150 2 V_laws_heldInt64SS) (hK : Has P ν 111 2 V_laws_heldCategory) (h : Has P ν 95 2 V_laws_FnExactJoinCategory) (c : Cat) (rd_c : Read c) (d : Cat) (rd_d : Read d) (hb : Small2 c → Small2 d → BothK P ν 229 228 [.agg c.cells, .agg d.cells]) :
    OkM P ν 95 [.agg c.cells, .agg d.cells] hempty 0 (fun r _ _ => r = bool true) := by
  refine h _ _ _ _ rfl fun hwf => ?_
  unfold V_laws_FnExactJoinCategory
  simp only [SS, Nat.reduceEqDiff, Nat.reduceAdd, iput, puts, p_boxc, p_ldc]
  refine den_call (fc := (3, [])) (ys := [.agg c.cells, int 1048576]) rfl (by simp only [SS, Nat.reduceEqDiff, Nat.reduceAdd, iput, puts, FF, frzL_cat]) (szCat_ok L.szI L.szII L.szC c rd_c 1048576 (by omega) (by omega)).fzi ?_
  simp only [SS, Nat.reduceEqDiff, Nat.reduceAdd, iput, puts, p_boxc, p_ldc]
  refine ⟨fun h1 => ⟨_, rfl, hempty, fun _ _ h => h, rfl⟩, fun s_c => ?_⟩
  have b_c := szCat_small (c := c) (left := 1048576) (by omega) (by omega) (by omega)
  have c_c := szCat_le (c := c) (left := 1048576) (by omega) (by omega)
  refine den_call (fc := (3, [])) (ys := [.agg d.cells, int (szCat c 1048576)]) rfl (by simp only [SS, Nat.reduceEqDiff, Nat.reduceAdd, iput, puts, FF, frzL_cat]) (szCat_ok L.szI L.szII L.szC d rd_d (szCat c 1048576) (by omega) (by omega)).fzi ?_
  simp only [SS, Nat.reduceEqDiff, Nat.reduceAdd, iput, puts, p_boxc, p_ldc]
  refine ⟨fun h1 => ⟨_, rfl, hempty, fun _ _ h => h, rfl⟩, fun s_d => ?_⟩
  have b_d := szCat_small (c := d) (left := (szCat c 1048576)) (by omega) (by omega) (by omega)
  have c_d := szCat_le (c := d) (left := (szCat c 1048576)) (by omega) (by omega)
  obtain ⟨l, k, hl, himp, hs⟩ := hb b_c b_d
  have ht := totC_le hl
  have e_c := toCat_fz L.toI L.toII L.toC c b_c
  have e_d := toCat_fz L.toI L.toII L.toC d b_d
  refine den_call (fc := (5, [])) (ys := [.agg c.cells]) rfl (by simp only [SS, Nat.reduceEqDiff, Nat.reduceAdd, iput, puts, FF, frzL_cat]) e_c ?_
  simp only [SS, Nat.reduceEqDiff, Nat.reduceAdd, iput, puts, p_boxc, p_ldc]
  refine den_call (fc := (5, [])) (ys := [.agg d.cells]) rfl (by simp only [SS, Nat.reduceEqDiff, Nat.reduceAdd, iput, puts, FF, frzL_cat]) e_d ?_
  simp only [SS, Nat.reduceEqDiff, Nat.reduceAdd, iput, puts, p_boxc, p_ldc]
  refine den_calli (fc := (228, [])) (ys := [.agg c.cells, .agg d.cells]) rfl (by simp only [SS, Nat.reduceEqDiff, Nat.reduceAdd, iput, puts, FF, frzL_cat]) hs ?_
  simp only [SS, Nat.reduceEqDiff, Nat.reduceAdd, iput, puts, p_boxc, p_ldc]
  refine den_newR fun H1 bw e => ?_
  refine den_stR (o := 0) (m := 5) (d := l.cells) rfl rfl bw rfl rfl rfl fun H2 bw e => ?_
  simp only [SS, Nat.reduceEqDiff, Nat.reduceAdd, iput, puts, p_boxc, p_ldc]
  refine den_callm (fc := (5, [])) rfl (toCat_R L c b_c _ _) (toCat_Rs _ _ _) fun u H3 x3 hu => ?_
  obtain ⟨n_c, rfl, l_c, rfl, at_c, e⟩ := hu
  have bw := (e _ (by omega)).trans bw
  refine den_newR fun H4 bx_c e => ?_
  have bw := (e _ (by omega)).trans bw
  have at_c := at_c.mono (fun o h1 h2 => e o (by omega))
  refine den_stR (o := (n_c + 4 + c.c.length)) (m := 5) (d := (catM c n_c).cells) rfl rfl bx_c rfl rfl rfl fun H5 bx_c e => ?_
  have bw := (e _ (by omega)).trans bw
  have at_c := at_c.mono (fun o h1 h2 => e o (by omega))
  simp only [SS, Nat.reduceEqDiff, Nat.reduceAdd, iput, puts, p_boxc, p_ldc]
  refine den_callm (fc := (5, [])) rfl (toCat_R L d b_d _ _) (toCat_Rs _ _ _) fun u H6 x6 hu => ?_
  obtain ⟨n_d, rfl, l_d, rfl, at_d, e⟩ := hu
  have bw := (e _ (by omega)).trans bw
  have at_c := at_c.mono (fun o h1 h2 => e o (by omega))
  have bx_c := (e _ (by omega)).trans bx_c
  refine den_newR fun H7 bx_d e => ?_
  have bw := (e _ (by omega)).trans bw
  have at_c := at_c.mono (fun o h1 h2 => e o (by omega))
  have bx_c := (e _ (by omega)).trans bx_c
  have at_d := at_d.mono (fun o h1 h2 => e o (by omega))
  refine den_stR (o := (n_d + 4 + d.c.length)) (m := 5) (d := (catM d n_d).cells) rfl rfl bx_d rfl rfl rfl fun H8 bx_d e => ?_
  have bw := (e _ (by omega)).trans bw
  have at_c := at_c.mono (fun o h1 h2 => e o (by omega))
  have bx_c := (e _ (by omega)).trans bx_c
  have at_d := at_d.mono (fun o h1 h2 => e o (by omega))
  simp only [SS, Nat.reduceEqDiff, Nat.reduceAdd, iput, puts, p_boxc, p_ldc]
  simp only [SS, Nat.reduceEqDiff, Nat.reduceAdd, iput, puts, p_boxc, p_ldc, p_ldsm (l := 5) bx_c rfl, p_ldsm (l := 5) bx_d rfl, catM_agg, catM_agg]
  refine den_callo (fc := (229, [])) (ys := [.agg c.cells, .agg d.cells]) rfl (by simp only [SS, Nat.reduceEqDiff, Nat.reduceAdd, iput, puts, FF, frzL_cat, at_c.frzL, at_d.frzL]) (himp _) (IsK.some _ _ _) fun u H' nx' hu => ?_
  obtain ⟨q1, q2, q3, r0, rfl, own⟩ := hu.own H8
  refine ⟨q1, q2, ?_⟩
  have e : ∀ o, o < ((n_d + 4 + d.c.length) + 1) → hmerge ((n_d + 4 + d.c.length) + 1) H8 H' o = H8 o := fun o ho => hmerge_lo ho
  have bw := (e _ (by omega)).trans bw
  have at_c := at_c.mono (fun o h1 h2 => e o (by omega))
  have bx_c := (e _ (by omega)).trans bx_c
  have at_d := at_d.mono (fun o h1 h2 => e o (by omega))
  have bx_d := (e _ (by omega)).trans bx_d
  generalize hmerge ((n_d + 4 + d.c.length) + 1) H8 H' = H9 at bw at_c bx_c at_d bx_d own
  clear hu q1 q2 e
  simp only [SS, Nat.reduceEqDiff, Nat.reduceAdd, iput, puts]
  obtain ⟨ga, gb, gd, ge, rfl, ownC⟩ := own
  have own : OwnK l (.agg [int l.o, ga, gb, gd, ge]) _ _ _ := ⟨ga, gb, gd, ge, rfl, ownC⟩
  clear ownC
  refine den_newR fun H10 bg e => ?_
  have bw := (e _ (by omega)).trans bw
  have at_c := at_c.mono (fun o h1 h2 => e o (by omega))
  have bx_c := (e _ (by omega)).trans bx_c
  have at_d := at_d.mono (fun o h1 h2 => e o (by omega))
  have bx_d := (e _ (by omega)).trans bx_d
  have own := own.mono (Nat.le_refl _) (fun o h1 h2 => e o (by omega))
  refine den_stR (m := 5) (d := [int l.o, ga, gb, gd, ge]) rfl rfl bg rfl rfl own.one5 fun H11 bg e => ?_
  have bw := (e _ (by omega)).trans bw
  have at_c := at_c.mono (fun o h1 h2 => e o (by omega))
  have bx_c := (e _ (by omega)).trans bx_c
  have at_d := at_d.mono (fun o h1 h2 => e o (by omega))
  have bx_d := (e _ (by omega)).trans bx_d
  have own := own.mono (Nat.le_refl _) (fun o h1 h2 => e o (by omega))
  simp only [SS, Nat.reduceEqDiff, Nat.reduceAdd, iput, puts, p_boxc, p_ldc, p_ldsm (l := 5) bw rfl, p_ldsm (l := 5) bg rfl, p_ldsm (l := 5) bx_c rfl, p_ldsm (l := 5) bx_d rfl, catM_agg, catM_agg]
  refine den_call (fc := (8, [])) (ys := [.agg l.cells, .agg l.cells]) rfl (by simp only [SS, Nat.reduceEqDiff, Nat.reduceAdd, iput, puts, FF, frzL_cat, own.frzL]) (eqCat_same L l hl) ?_
  simp only [SS, Nat.reduceEqDiff, Nat.reduceAdd, iput, puts, neSelf, p_boxc, p_ldc, p_ldsm (l := 5) bw rfl, p_ldsm (l := 5) bg rfl, p_ldsm (l := 5) bx_c rfl, p_ldsm (l := 5) bx_d rfl, catM_agg, catM_agg]
  refine den_call (fc := (5, [])) (ys := [.agg c.cells]) rfl (by simp only [SS, Nat.reduceEqDiff, Nat.reduceAdd, iput, puts, FF, frzL_cat]) e_c ?_
  simp only [SS, Nat.reduceEqDiff, Nat.reduceAdd, iput, puts, p_boxc, p_ldc]
  refine den_call (fc := (8, [])) (ys := [.agg c.cells, .agg c.cells]) rfl (by simp only [SS, Nat.reduceEqDiff, Nat.reduceAdd, iput, puts, FF, frzL_cat, at_c.frzL]) (eqCat_same L c b_c) ?_
  simp only [SS, Nat.reduceEqDiff, Nat.reduceAdd, iput, puts, neSelf, p_boxc, p_ldc, p_ldsm (l := 5) bw rfl, p_ldsm (l := 5) bg rfl, p_ldsm (l := 5) bx_c rfl, p_ldsm (l := 5) bx_d rfl, catM_agg, catM_agg]
  refine den_call (fc := (5, [])) (ys := [.agg d.cells]) rfl (by simp only [SS, Nat.reduceEqDiff, Nat.reduceAdd, iput, puts, FF, frzL_cat]) e_d ?_
  simp only [SS, Nat.reduceEqDiff, Nat.reduceAdd, iput, puts, p_boxc, p_ldc]
  refine den_call (fc := (8, [])) (ys := [.agg d.cells, .agg d.cells]) rfl (by simp only [SS, Nat.reduceEqDiff, Nat.reduceAdd, iput, puts, FF, frzL_cat, at_d.frzL]) (eqCat_same L d b_d) ?_
  simp only [SS, Nat.reduceEqDiff, Nat.reduceAdd, iput, puts, neSelf, p_boxc, p_ldc, p_ldsm (l := 5) bw rfl, p_ldsm (l := 5) bg rfl, p_ldsm (l := 5) bx_c rfl, p_ldsm (l := 5) bx_d rfl, catM_agg, catM_agg]
  refine den_callm (fc := (9, [])) rfl (markCat_ok M.mI M.mII M.mC c b_c n_c _ _ _ at_c (by omega) (by omega) (by omega)) ⟨int 0, _, _, 0, rfl, by omega, by omega, Nat.le_refl _, fun _ _ _ => rfl⟩ fun u H12 x12 hu => ?_
  obtain ⟨k0, rfl, k0a, k0b, ne_c, e0⟩ := hu
  have bw := (e0 _ (by omega) (by omega)).trans bw
  have bx_c := (e0 _ (by omega) (by omega)).trans bx_c
  have at_d := at_d.mono (fun o h1 h2 => e0 o (by omega) (by omega))
  have bx_d := (e0 _ (by omega) (by omega)).trans bx_d
  have bg := (e0 _ (by omega) (by omega)).trans bg
  have own := own.mono (Nat.le_refl _) (fun o h1 h2 => e0 o (by omega) (by omega))
  simp only [SS, Nat.reduceEqDiff, Nat.reduceAdd, iput, puts, p_ldsm (l := 5) bw rfl, p_ldsm (l := 5) bg rfl, p_ldsm (l := 5) bx_c rfl, p_ldsm (l := 5) bx_d rfl, catM_agg, catM_agg]
  refine den_callm (fc := (9, [])) rfl (markCat_ok M.mI M.mII M.mC d b_d n_d _ _ _ at_d (by omega) (by omega) (by omega)) ⟨int 0, _, _, 0, rfl, by omega, by omega, Nat.le_refl _, fun _ _ _ => rfl⟩ fun u H13 x13 hu => ?_
  obtain ⟨k1, rfl, k1a, k1b, ne_d, e0⟩ := hu
  have bw := (e0 _ (by omega) (by omega)).trans bw
  have bx_c := (e0 _ (by omega) (by omega)).trans bx_c
  have bx_d := (e0 _ (by omega) (by omega)).trans bx_d
  have bg := (e0 _ (by omega) (by omega)).trans bg
  have own := own.mono (Nat.le_refl _) (fun o h1 h2 => e0 o (by omega) (by omega))
  simp only [SS, Nat.reduceEqDiff, Nat.reduceAdd, iput, puts, p_ldsm (l := 5) bw rfl, p_ldsm (l := 5) bg rfl, p_ldsm (l := 5) bx_c rfl, p_ldsm (l := 5) bx_d rfl, catM_agg, catM_agg]
  have k9 : ¬ k1 < 0 := by omega
  simp only [SS, Nat.reduceEqDiff, Nat.reduceAdd, iput, puts, k9, p_ldsm (l := 5) bw rfl, p_ldsm (l := 5) bg rfl, p_ldsm (l := 5) bx_c rfl, p_ldsm (l := 5) bx_d rfl, catM_agg, catM_agg]
  refine den_call (fc := (8, [])) (ys := [.agg l.cells, .agg l.cells]) rfl (by simp only [SS, Nat.reduceEqDiff, Nat.reduceAdd, iput, puts, FF, frzL_cat, own.frzL]) (eqCat_same L l hl) ?_
  simp only [SS, Nat.reduceEqDiff, Nat.reduceAdd, iput, puts, neSelf, p_ldsm (l := 5) bw rfl, p_ldsm (l := 5) bg rfl, p_ldsm (l := 5) bx_c rfl, p_ldsm (l := 5) bx_d rfl, catM_agg, catM_agg]
  refine den_callm (fc := (9, [])) rfl (markK_own M l hl 1 (.agg [int l.o, ga, gb, gd, ge]) _ _ _ _ own (by omega) (by omega) (by omega) (by omega)) (own.marked 1 _) fun u H14 x14 hu => ?_
  obtain ⟨rfl, le5, own5, q6⟩ := hu
  have hh := (heldK_ok M.hI hII hK l hl 1 (by omega) (by omega)).fzi
  have bw := (q6 _ (by omega) (by omega)).trans bw
  have bg := (q6 _ (by omega) (by omega)).trans bg
  simp only [SS, Nat.reduceEqDiff, Nat.reduceAdd, iput, puts, p_ldsm (l := 5) bw rfl, p_ldsm (l := 5) bg rfl, p_ldsm (l := 5) bx_c rfl, p_ldsm (l := 5) bx_d rfl, catM_agg, catM_agg]
  refine den_call (fc := (111, [])) (ys := [.agg (seqC 1 l).cells, int 1]) rfl (by simp only [SS, Nat.reduceEqDiff, Nat.reduceAdd, iput, puts, FF, frzL_cat, own5.frzL]) hh ?_
  have k7 : ¬ (1 + (totC l : Int)) < 0 := by omega
  simp only [SS, Nat.reduceEqDiff, Nat.reduceAdd, iput, puts, k7, neSelf, p_boxc, p_ldc]
  refine den_call (fc := (5, [])) (ys := [.agg c.cells]) rfl (by simp only [SS, Nat.reduceEqDiff, Nat.reduceAdd, iput, puts, FF, frzL_cat]) e_c ?_
  simp only [SS, Nat.reduceEqDiff, Nat.reduceAdd, iput, puts, p_boxc, p_ldc]
  refine den_call (fc := (5, [])) (ys := [.agg d.cells]) rfl (by simp only [SS, Nat.reduceEqDiff, Nat.reduceAdd, iput, puts, FF, frzL_cat]) e_d ?_
  simp only [SS, Nat.reduceEqDiff, Nat.reduceAdd, iput, puts, p_boxc, p_ldc]
  refine den_calli (fc := (229, [])) (ys := [.agg c.cells, .agg d.cells]) rfl (by simp only [SS, Nat.reduceEqDiff, Nat.reduceAdd, iput, puts, FF, frzL_cat]) (IsK.toFi (himp 0)) ?_
  simp only [SS, Nat.reduceEqDiff, Nat.reduceAdd, iput, puts, p_boxc, p_ldc]
  refine den_newR fun H15 bh e => ?_
  have bw := (e _ (by omega)).trans bw
  have bg := (e _ (by omega)).trans bg
  have own5 := own5.mono (Nat.le_refl _) (fun o h1 h2 => e o (by omega))
  refine den_stR (m := 5) (d := l.cells) rfl rfl bh rfl rfl rfl fun H16 bh e => ?_
  have bw := (e _ (by omega)).trans bw
  have bg := (e _ (by omega)).trans bg
  have own5 := own5.mono (Nat.le_refl _) (fun o h1 h2 => e o (by omega))
  simp only [SS, Nat.reduceEqDiff, Nat.reduceAdd, iput, puts, p_boxc, p_ldc, p_ldsm (l := 5) bw rfl, p_ldsm (l := 5) bg rfl, p_ldsm (l := 5) bh rfl, p_ldsm (l := 5) bx_c rfl, p_ldsm (l := 5) bx_d rfl, catM_agg, catM_agg]
  refine den_call (fc := (8, [])) (ys := [.agg l.cells, .agg l.cells]) rfl (by simp only [SS, Nat.reduceEqDiff, Nat.reduceAdd, iput, puts, FF, frzL_cat]) (eqCat_same L l hl) ?_
  simp only [SS, Nat.reduceEqDiff, Nat.reduceAdd, iput, puts, neSelf, p_ldsm (l := 5) bw rfl, p_ldsm (l := 5) bg rfl, p_ldsm (l := 5) bh rfl, p_ldsm (l := 5) bx_c rfl, p_ldsm (l := 5) bx_d rfl, catM_agg, catM_agg]
  refine den_call (fc := (111, [])) (ys := [.agg (seqC 1 l).cells, int 1]) rfl (by simp only [SS, Nat.reduceEqDiff, Nat.reduceAdd, iput, puts, FF, frzL_cat, own5.frzL]) hh ?_
  simp only [SS, Nat.reduceEqDiff, Nat.reduceAdd, iput, puts, k7, neSelf]
  exact ⟨_, rfl, hempty, (fun _ _ h => by cases h), rfl⟩
end Go.Av
