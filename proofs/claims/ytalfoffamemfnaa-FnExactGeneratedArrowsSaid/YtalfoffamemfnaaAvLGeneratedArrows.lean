/-
  The statement on GeneratedArrows.
-/
import Derived.Test.YtalfoffamemfnaaAvR2
namespace Go.Av
open Classical
set_option linter.unusedSimpArgs false
set_option linter.unusedVariables false
variable {P : Program} {ν : Nat → FuncId}

def V_laws_FnExactGeneratedArrows : Vc :=
  .op true (.p .box [.t 0]) <|
  .op true (.p .len [.t 1]) <|
  .op true (.p (.bin .gtr) [.t 3, .c (int 1048576)]) <|
  .br 4
   (.ret [(.c (bool true), none)])
   (.op true (.p (.ld (some 5)) [.t 2]) <|
   .op true (.call (.f 3) [.t 5, .c (int 1048576)]) <|
   .op true (.p (.bin .lss) [.t 6, .c (int 0)]) <|
   .br 7
    (.ret [(.c (bool true), none)])
    (.op true (.p (.ld (some 5)) [.t 2]) <|
    .op true (.call (.f 5) [.t 8]) <|
    .op true (.call (.f 16) [.t 1]) <|
    .op true (.call (.f 138) [.t 9, .t 10]) <|
    .op true (.p (.ext 0) [.t 11]) <|
    .op true (.p (.ext 1) [.t 11]) <|
    .op true (.p (.ld (some 5)) [.t 2]) <|
    .op true (.callm (.f 5) [.t 14]) <|
    .op true (.new [int 0, .nil, .nil, .nil, .nil]) <|
    .op true (.st 5 (.t 16) (.t 15)) <|
    .op true (.callm (.f 16) [.t 1]) <|
    .op true (.p (.ld (some 5)) [.t 16]) <|
    .op true (.callo (.f 139) [.t 19, .t 18]) <|
    .op true (.p (.ext 0) [.t 20]) <|
    .op true (.p (.ext 1) [.t 20]) <|
    .op true (.call (.f 7) [.t 21, .t 12]) <|
    .op true (.p .bnot [.t 23]) <|
    .br 24
     (.ret [(.c (bool false), none)])
     (.op true (.p (.bin .neq) [.t 22, .t 13]) <|
     .br 25
      (.ret [(.c (bool false), none)])
      (.op true (.p (.ld (some 5)) [.t 16]) <|
      .op true (.p (.ld (some 5)) [.t 2]) <|
      .op true (.call (.f 5) [.t 27]) <|
      .op true (.call (.f 8) [.t 26, .t 28]) <|
      .op true (.p .bnot [.t 29]) <|
      .br 30
       (.ret [(.c (bool false), none)])
       (.op true (.call (.f 16) [.t 1]) <|
       .op true (.call (.f 7) [.t 18, .t 31]) <|
       .op true (.p .bnot [.t 32]) <|
       .br 33
        (.ret [(.c (bool false), none)])
        (.op true (.p (.ld (some 5)) [.t 16]) <|
        .op true (.callm (.f 9) [.t 34, .c (int 1)]) <|
        .op true (.callm (.f 10) [.t 18, .t 35]) <|
        .op true (.p (.bin .lss) [.t 36, .c (int 0)]) <|
        .br 37
         (.ret [(.c (bool false), none)])
         (.op true (.call (.f 7) [.t 21, .t 12]) <|
         .op true (.p .bnot [.t 38]) <|
         .br 39
          (.ret [(.c (bool false), none)])
          (.op true (.p (.bin .neq) [.t 22, .t 13]) <|
          .br 40
           (.ret [(.c (bool false), none)])
           (.op true (.callm (.f 10) [.t 21, .c (int 1)]) <|
           .op true (.call (.f 11) [.t 21, .c (int 1)]) <|
           .op true (.p (.bin .lss) [.t 42, .c (int 0)]) <|
           .br 43
            (.ret [(.c (bool false), none)])
            (.op true (.p (.bin .neq) [.t 42, .t 41]) <|
            .br 44
             (.ret [(.c (bool false), none)])
             (.op true (.p (.ld (some 5)) [.t 2]) <|
             .op true (.call (.f 5) [.t 45]) <|
             .op true (.call (.f 16) [.t 1]) <|
             .op true (.callo (.f 139) [.t 46, .t 47]) <|
             .op true (.p (.ext 0) [.t 48]) <|
             .op true (.p (.ext 1) [.t 48]) <|
             .op true (.call (.f 7) [.t 49, .t 12]) <|
             .op true (.p .bnot [.t 51]) <|
             .br 52
              (.ret [(.c (bool false), none)])
              (.op true (.p (.bin .neq) [.t 50, .t 13]) <|
              .br 53
               (.ret [(.c (bool false), none)])
               (.op true (.call (.f 11) [.t 21, .c (int 1)]) <|
               .op true (.p (.bin .lss) [.t 54, .c (int 0)]) <|
               .br 55
                (.ret [(.c (bool false), none)])
                (.op true (.p (.bin .neq) [.t 54, .t 41]) <|
                .br 56
                 (.ret [(.c (bool false), none)])
                 (.ret [(.c (bool true), none)])))))))))))))))
set_option maxHeartbeats 2000000 in
theorem law_GeneratedArrows (L : HLaw P ν) (M : HMark P ν) (h : Has P ν 56 2 V_laws_FnExactGeneratedArrows) (c : Cat) (rd_c : Read c) (arrows : List Int) (rd_arrows : arrows.length ≤ 9223372036854775807) (hb : Small2 c → arrows.length ≤ 1048576 → BothL P ν 139 138 [.agg c.cells, islice arrows]) :
    OkM P ν 56 [.agg c.cells, islice arrows] hempty 0 (fun r _ _ => r = bool true) := by
  refine h _ _ _ _ rfl fun hwf => ?_
  unfold V_laws_FnExactGeneratedArrows
  simp only [SS, Nat.reduceEqDiff, Nat.reduceAdd, iput, puts, p_boxc, p_ldc]
  refine ⟨fun h1 => ⟨_, rfl, hempty, fun _ _ h => h, rfl⟩, fun hl_arrows => ?_⟩
  have b_arrows : arrows.length ≤ 1048576 := by omega
  refine den_call (fc := (3, [])) (ys := [.agg c.cells, int 1048576]) rfl (by simp only [SS, Nat.reduceEqDiff, Nat.reduceAdd, iput, puts, FF, frzL_cat]) (szCat_ok L.szI L.szII L.szC c rd_c 1048576 (by omega) (by omega)).fzi ?_
  simp only [SS, Nat.reduceEqDiff, Nat.reduceAdd, iput, puts, p_boxc, p_ldc]
  refine ⟨fun h1 => ⟨_, rfl, hempty, fun _ _ h => h, rfl⟩, fun s_c => ?_⟩
  have b_c := szCat_small (c := c) (left := 1048576) (by omega) (by omega) (by omega)
  have c_c := szCat_le (c := c) (left := 1048576) (by omega) (by omega)
  obtain ⟨l, k, hl, himp, hs⟩ := hb b_c b_arrows
  have e_c := toCat_fz L.toI L.toII L.toC c b_c
  have e_arrows := toI_fz L.toI arrows b_arrows
  refine den_call (fc := (5, [])) (ys := [.agg c.cells]) rfl (by simp only [SS, Nat.reduceEqDiff, Nat.reduceAdd, iput, puts, FF, frzL_cat]) e_c ?_
  simp only [SS, Nat.reduceEqDiff, Nat.reduceAdd, iput, puts, p_boxc, p_ldc]
  refine den_call (fc := (16, [])) (ys := [islice arrows]) rfl (by simp only [SS, Nat.reduceEqDiff, Nat.reduceAdd, iput, puts, FF, frzL_cat]) e_arrows ?_
  simp only [SS, Nat.reduceEqDiff, Nat.reduceAdd, iput, puts, p_boxc, p_ldc]
  refine den_calli (fc := (138, [])) (ys := [.agg c.cells, islice arrows]) rfl (by simp only [SS, Nat.reduceEqDiff, Nat.reduceAdd, iput, puts, FF, frzL_cat]) hs ?_
  simp only [SS, Nat.reduceEqDiff, Nat.reduceAdd, iput, puts, p_boxc, p_ldc]
  refine den_callm (fc := (5, [])) rfl (toCat_R L c b_c _ _) (toCat_Rs _ _ _) fun u H1 x1 hu => ?_
  obtain ⟨n_c, rfl, l_c, rfl, at_c, e⟩ := hu
  refine den_newR fun H2 bx_c e => ?_
  have at_c := at_c.mono (fun o h1 h2 => e o (by omega))
  refine den_stR (o := (n_c + 4 + c.c.length)) (m := 5) (d := (catM c n_c).cells) rfl rfl bx_c rfl rfl rfl fun H3 bx_c e => ?_
  have at_c := at_c.mono (fun o h1 h2 => e o (by omega))
  simp only [SS, Nat.reduceEqDiff, Nat.reduceAdd, iput, puts, p_boxc, p_ldc]
  refine den_callm (fc := (16, [])) rfl (toI_R L arrows b_arrows _ _) (toI_Rs _ _ _) fun u H4 x4 hu => ?_
  obtain ⟨rfl, rfl, bx_arrows, e⟩ := hu
  have at_c := at_c.mono (fun o h1 h2 => e o (by omega))
  have bx_c := (e _ (by omega)).trans bx_c
  simp only [SS, Nat.reduceEqDiff, Nat.reduceAdd, iput, puts, p_boxc, p_ldc]
  simp only [SS, Nat.reduceEqDiff, Nat.reduceAdd, iput, puts, p_boxc, p_ldc, p_ldsm (l := 5) bx_c rfl, catM_agg]
  refine den_callo (fc := (139, [])) (ys := [.agg c.cells, islice arrows]) rfl (by simp only [SS, Nat.reduceEqDiff, Nat.reduceAdd, iput, puts, FF, frzL_cat, at_c.frzL, frzL_ms bx_arrows]) (himp _) (IsP.some _ _ _ _) fun u H' nx' hu => ?_
  obtain ⟨q1, q2, q3, r0, rfl, own⟩ := hu.own H4
  refine ⟨q1, q2, ?_⟩
  have e : ∀ o, o < (((n_c + 4 + c.c.length) + 1) + 1) → hmerge (((n_c + 4 + c.c.length) + 1) + 1) H4 H' o = H4 o := fun o ho => hmerge_lo ho
  have at_c := at_c.mono (fun o h1 h2 => e o (by omega))
  have bx_c := (e _ (by omega)).trans bx_c
  have bx_arrows := (e _ (by omega)).trans bx_arrows
  generalize hmerge (((n_c + 4 + c.c.length) + 1) + 1) H4 H' = H5 at at_c bx_c bx_arrows own
  clear hu q1 q2 e
  simp only [SS, Nat.reduceEqDiff, Nat.reduceAdd, iput, puts]
  refine den_call (fc := (7, [])) (ys := [islice l, islice l]) rfl (by simp only [SS, Nat.reduceEqDiff, Nat.reduceAdd, iput, puts, FF, frzL_cat, own.frzL]) (eqI_same L.eqI l (by omega)) ?_
  simp only [SS, Nat.reduceEqDiff, Nat.reduceAdd, iput, puts, neSelf, p_boxc, p_ldc, p_ldsm (l := 5) bx_c rfl, catM_agg]
  refine den_call (fc := (5, [])) (ys := [.agg c.cells]) rfl (by simp only [SS, Nat.reduceEqDiff, Nat.reduceAdd, iput, puts, FF, frzL_cat]) e_c ?_
  simp only [SS, Nat.reduceEqDiff, Nat.reduceAdd, iput, puts, p_boxc, p_ldc]
  refine den_call (fc := (8, [])) (ys := [.agg c.cells, .agg c.cells]) rfl (by simp only [SS, Nat.reduceEqDiff, Nat.reduceAdd, iput, puts, FF, frzL_cat, at_c.frzL]) (eqCat_same L c b_c) ?_
  simp only [SS, Nat.reduceEqDiff, Nat.reduceAdd, iput, puts, neSelf, p_boxc, p_ldc, p_ldsm (l := 5) bx_c rfl, catM_agg]
  refine den_call (fc := (16, [])) (ys := [islice arrows]) rfl (by simp only [SS, Nat.reduceEqDiff, Nat.reduceAdd, iput, puts, FF, frzL_cat]) e_arrows ?_
  simp only [SS, Nat.reduceEqDiff, Nat.reduceAdd, iput, puts, p_boxc, p_ldc]
  refine den_call (fc := (7, [])) (ys := [islice arrows, islice arrows]) rfl (by simp only [SS, Nat.reduceEqDiff, Nat.reduceAdd, iput, puts, FF, frzL_cat, frzL_ms bx_arrows]) (eqI_same L.eqI arrows (by omega)) ?_
  simp only [SS, Nat.reduceEqDiff, Nat.reduceAdd, iput, puts, neSelf, p_boxc, p_ldc, p_ldsm (l := 5) bx_c rfl, catM_agg]
  refine den_callm (fc := (9, [])) rfl (markCat_ok M.mI M.mII M.mC c b_c n_c _ _ _ at_c (by omega) (by omega) (by omega)) ⟨int 0, _, _, 0, rfl, by omega, by omega, Nat.le_refl _, fun _ _ _ => rfl⟩ fun u H6 x6 hu => ?_
  obtain ⟨k0, rfl, k0a, k0b, ne_c, e0⟩ := hu
  have bx_c := (e0 _ (by omega) (by omega)).trans bx_c
  have bx_arrows := (e0 _ (by omega) (by omega)).trans bx_arrows
  have own := own.mono (Nat.le_refl _) (fun o h1 h2 => e0 o (by omega) (by omega))
  simp only [SS, Nat.reduceEqDiff, Nat.reduceAdd, iput, puts, p_ldsm (l := 5) bx_c rfl, catM_agg]
  refine den_callm (fc := (10, [])) rfl (markI_R M.mI arrows _ _ _ _ bx_arrows (by omega) (by omega) (by omega)) ⟨_, _, _, rfl, rfl, fun _ _ => rfl⟩ fun u H7 x7 hu => ?_
  obtain ⟨rfl, rfl, e0⟩ := hu
  have bx_c := (e0 _ (by omega)).trans bx_c
  have own := own.mono (Nat.le_refl _) (fun o h1 h2 => e0 o (by omega))
  simp only [SS, Nat.reduceEqDiff, Nat.reduceAdd, iput, puts, p_ldsm (l := 5) bx_c rfl, catM_agg]
  have k9 : ¬ k0 + (arrows.length : Int) < 0 := by omega
  simp only [SS, Nat.reduceEqDiff, Nat.reduceAdd, iput, puts, k9, p_ldsm (l := 5) bx_c rfl, catM_agg]
  refine den_call (fc := (7, [])) (ys := [islice l, islice l]) rfl (by simp only [SS, Nat.reduceEqDiff, Nat.reduceAdd, iput, puts, FF, frzL_cat, own.frzL]) (eqI_same L.eqI l (by omega)) ?_
  simp only [SS, Nat.reduceEqDiff, Nat.reduceAdd, iput, puts, neSelf, p_ldsm (l := 5) bx_c rfl, catM_agg]
  refine den_callm (fc := (10, [])) rfl (markI_own M.mI l 1 r0 _ _ _ _ own (by omega) (by omega) (by omega)) (own.marked 1 _) fun u H8 x8 hu => ?_
  obtain ⟨rfl, rfl, own5, q6⟩ := hu
  have hh := (heldI_ok M.hI 1 l.length (by omega) (by omega) (by omega)).fzi
  refine den_call (fc := (11, [])) (ys := [islice (seqI 1 l.length), int 1]) rfl (by simp only [SS, Nat.reduceEqDiff, Nat.reduceAdd, iput, puts, FF, frzL_cat, own5.frzL]) hh ?_
  have k7 : ¬ (1 + (l.length : Int)) < 0 := by omega
  simp only [SS, Nat.reduceEqDiff, Nat.reduceAdd, iput, puts, k7, neSelf, p_boxc, p_ldc]
  refine den_call (fc := (5, [])) (ys := [.agg c.cells]) rfl (by simp only [SS, Nat.reduceEqDiff, Nat.reduceAdd, iput, puts, FF, frzL_cat]) e_c ?_
  simp only [SS, Nat.reduceEqDiff, Nat.reduceAdd, iput, puts, p_boxc, p_ldc]
  refine den_call (fc := (16, [])) (ys := [islice arrows]) rfl (by simp only [SS, Nat.reduceEqDiff, Nat.reduceAdd, iput, puts, FF, frzL_cat]) e_arrows ?_
  simp only [SS, Nat.reduceEqDiff, Nat.reduceAdd, iput, puts, p_boxc, p_ldc]
  refine den_callo (fc := (139, [])) (ys := [.agg c.cells, islice arrows]) rfl (by simp only [SS, Nat.reduceEqDiff, Nat.reduceAdd, iput, puts, FF, frzL_cat]) (himp _) (IsP.some _ _ _ _) fun u H' nx' hu => ?_
  obtain ⟨q1, q2, q3, r1, rfl, own6⟩ := hu.own H8
  refine ⟨q1, q2, ?_⟩
  have e : ∀ o, o < x8 → hmerge x8 H8 H' o = H8 o := fun o ho => hmerge_lo ho
  have own7 := own5.mono (Nat.le_refl _) (fun o _ h3 => e o (by omega))
  simp only [SS, Nat.reduceEqDiff, Nat.reduceAdd, iput, puts]
  refine den_call (fc := (7, [])) (ys := [islice l, islice l]) rfl (by simp only [SS, Nat.reduceEqDiff, Nat.reduceAdd, iput, puts, FF, frzL_cat, own6.frzL]) (eqI_same L.eqI l (by omega)) ?_
  simp only [SS, Nat.reduceEqDiff, Nat.reduceAdd, iput, puts, neSelf, p_ldsm (l := 5) bx_c rfl, catM_agg]
  refine den_call (fc := (11, [])) (ys := [islice (seqI 1 l.length), int 1]) rfl (by simp only [SS, Nat.reduceEqDiff, Nat.reduceAdd, iput, puts, FF, frzL_cat, own7.frzL]) hh ?_
  simp only [SS, Nat.reduceEqDiff, Nat.reduceAdd, iput, puts, k7, neSelf]
  exact ⟨_, rfl, hempty, (fun _ _ h => by cases h), rfl⟩
end Go.Av
