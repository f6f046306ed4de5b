/-
  The statement on ImageArrows.
-/
import Derived.Test.YtalfoffamemfnaaAvR2U
namespace Go.Av
open Classical
set_option linter.unusedSimpArgs false
set_option linter.unusedVariables false
variable {P : Program} {ν : Nat → FuncId}

def V_laws_FnExactImageArrows : Vc :=
  .op true (.p .box [.t 0]) <|
  .op true (.p (.ld (some 12)) [.t 1]) <|
  .op true (.call (.f 116) [.t 2, .c (int 1048576)]) <|
  .op true (.p (.bin .lss) [.t 3, .c (int 0)]) <|
  .br 4
   (.ret [(.c (bool true), none)])
   (.op true (.p (.ld (some 12)) [.t 1]) <|
   .op true (.call (.f 118) [.t 5]) <|
   .op true (.call (.f 222) [.t 6]) <|
   .op true (.p (.ext 0) [.t 7]) <|
   .op true (.p (.ext 1) [.t 7]) <|
   .op true (.p (.ld (some 12)) [.t 1]) <|
   .op true (.callm (.f 118) [.t 10]) <|
   .op true (.new [int 0, .nil, .nil, .nil, .nil, int 0, .nil, .nil, .nil, .nil, .nil, .nil]) <|
   .op true (.st 12 (.t 12) (.t 11)) <|
   .op true (.p (.ld (some 12)) [.t 12]) <|
   .op true (.callo (.f 223) [.t 14]) <|
   .op true (.p (.ext 0) [.t 15]) <|
   .op true (.p (.ext 1) [.t 15]) <|
   .op true (.call (.f 7) [.t 16, .t 8]) <|
   .op true (.p .bnot [.t 18]) <|
   .br 19
    (.ret [(.c (bool false), none)])
    (.op true (.p (.bin .neq) [.t 17, .t 9]) <|
    .br 20
     (.ret [(.c (bool false), none)])
     (.op true (.p (.ld (some 12)) [.t 12]) <|
     .op true (.p (.ld (some 12)) [.t 1]) <|
     .op true (.call (.f 118) [.t 22]) <|
     .op true (.call (.f 120) [.t 21, .t 23]) <|
     .op true (.p .bnot [.t 24]) <|
     .br 25
      (.ret [(.c (bool false), none)])
      (.op true (.p (.ld (some 12)) [.t 12]) <|
      .op true (.callm (.f 212) [.t 26, .c (int 1)]) <|
      .op true (.p (.bin .lss) [.t 27, .c (int 0)]) <|
      .br 28
       (.ret [(.c (bool false), none)])
       (.op true (.call (.f 7) [.t 16, .t 8]) <|
       .op true (.p .bnot [.t 29]) <|
       .br 30
        (.ret [(.c (bool false), none)])
        (.op true (.p (.bin .neq) [.t 17, .t 9]) <|
        .br 31
         (.ret [(.c (bool false), none)])
         (.op true (.callm (.f 10) [.t 16, .c (int 1)]) <|
         .op true (.call (.f 11) [.t 16, .c (int 1)]) <|
         .op true (.p (.bin .lss) [.t 33, .c (int 0)]) <|
         .br 34
          (.ret [(.c (bool false), none)])
          (.op true (.p (.bin .neq) [.t 33, .t 32]) <|
          .br 35
           (.ret [(.c (bool false), none)])
           (.op true (.p (.ld (some 12)) [.t 1]) <|
           .op true (.call (.f 118) [.t 36]) <|
           .op true (.callo (.f 223) [.t 37]) <|
           .op true (.p (.ext 0) [.t 38]) <|
           .op true (.p (.ext 1) [.t 38]) <|
           .op true (.call (.f 7) [.t 39, .t 8]) <|
           .op true (.p .bnot [.t 41]) <|
           .br 42
            (.ret [(.c (bool false), none)])
            (.op true (.p (.bin .neq) [.t 40, .t 9]) <|
            .br 43
             (.ret [(.c (bool false), none)])
             (.op true (.call (.f 11) [.t 16, .c (int 1)]) <|
             .op true (.p (.bin .lss) [.t 44, .c (int 0)]) <|
             .br 45
              (.ret [(.c (bool false), none)])
              (.op true (.p (.bin .neq) [.t 44, .t 32]) <|
              .br 46
               (.ret [(.c (bool false), none)])
               (.ret [(.c (bool true), none)])))))))))))))
set_option maxHeartbeats 2000000 in
theorem law_ImageArrows (L : HLaw P ν) (LU : HLawU P ν) (M : HMark P ν) (hmu : Has P ν 212 2 V_laws_markFunctor) (h : Has P ν 92 1 V_laws_FnExactImageArrows) (f : Fu) (rd_f : ReadU f) (hb : SmallU f → BothL P ν 223 222 [.agg f.cells]) :
    OkM P ν 92 [.agg f.cells] hempty 0 (fun r _ _ => r = bool true) := by
  refine h _ _ _ _ rfl fun hwf => ?_
  unfold V_laws_FnExactImageArrows
  simp only [SS, Nat.reduceEqDiff, Nat.reduceAdd, iput, puts, p_boxc, p_ldc, SU f]
  refine den_call (fc := (116, [])) (ys := [.agg f.cells, int 1048576]) rfl (by simp only [SS, Nat.reduceEqDiff, Nat.reduceAdd, iput, puts, FF, frzL_cat, frzL_fu]) (szU_fz L LU.sz f rd_f) ?_
  simp only [SS, Nat.reduceEqDiff, Nat.reduceAdd, iput, puts, p_boxc, p_ldc, SU f]
  refine ⟨fun h1 => ⟨_, rfl, hempty, fun _ _ h => h, rfl⟩, fun s_f => ?_⟩
  have b_f := szU_small (f := f) (by omega)
  obtain ⟨l, k, hl, himp, hs⟩ := hb b_f
  have e_f := toU_fz L LU.to f b_f
  refine den_call (fc := (118, [])) (ys := [.agg f.cells]) rfl (by simp only [SS, Nat.reduceEqDiff, Nat.reduceAdd, iput, puts, FF, frzL_cat, frzL_fu]) e_f ?_
  simp only [SS, Nat.reduceEqDiff, Nat.reduceAdd, iput, puts, p_boxc, p_ldc, SU f]
  refine den_calli (fc := (222, [])) (ys := [.agg f.cells]) rfl (by simp only [SS, Nat.reduceEqDiff, Nat.reduceAdd, iput, puts, FF, frzL_cat, frzL_fu]) hs ?_
  simp only [SS, Nat.reduceEqDiff, Nat.reduceAdd, iput, puts, p_boxc, p_ldc, SU f]
  refine den_callm (fc := (118, [])) rfl (toU_ok L LU.to f b_f _ _) (IsMkU.some _ _ _) fun u H1 x1 hu => ?_
  obtain ⟨fa, fb, fp, fq, rfl, inn, at_f, e⟩ := hu
  have ja := inn.ia
  have jb := inn.ib
  have jp := inn.ip
  have jq := inn.iq
  have jh := inn.ih
  refine den_newR fun H2 bx_f e => ?_
  have at_f := at_f.mono inn (fun o h1 h2 => e o (by omega))
  refine den_stR (o := x1) (m := 12) (d := (fuM f fa fb fp fq)) rfl rfl bx_f rfl rfl rfl fun H3 bx_f e => ?_
  have at_f := at_f.mono inn (fun o h1 h2 => e o (by omega))
  simp only [SS, Nat.reduceEqDiff, Nat.reduceAdd, iput, puts, p_boxc, p_ldc, SU f]
  simp only [SS, Nat.reduceEqDiff, Nat.reduceAdd, iput, puts, p_boxc, p_ldc, SU f, p_ldsm (l := 12) bx_f rfl]
  refine den_callo (fc := (223, [])) (ys := [.agg f.cells]) rfl (by simp only [SS, Nat.reduceEqDiff, Nat.reduceAdd, iput, puts, FF, frzL_cat, frzL_fu, frzL_of at_f.frzN]) (himp _) (IsP.some _ _ _ _) fun u H' nx' hu => ?_
  obtain ⟨q1, q2, q3, r0, rfl, own⟩ := hu.own H3
  refine ⟨q1, q2, ?_⟩
  have e : ∀ o, o < (x1 + 1) → hmerge (x1 + 1) H3 H' o = H3 o := fun o ho => hmerge_lo ho
  have at_f := at_f.mono inn (fun o h1 h2 => e o (by omega))
  have bx_f := (e _ (by omega)).trans bx_f
  generalize hmerge (x1 + 1) H3 H' = H4 at at_f bx_f own
  clear hu q1 q2 e
  simp only [SS, Nat.reduceEqDiff, Nat.reduceAdd, iput, puts]
  refine den_call (fc := (7, [])) (ys := [islice l, islice l]) rfl (by simp only [SS, Nat.reduceEqDiff, Nat.reduceAdd, iput, puts, FF, frzL_cat, frzL_fu, own.frzL]) (eqI_same L.eqI l (by omega)) ?_
  simp only [SS, Nat.reduceEqDiff, Nat.reduceAdd, iput, puts, neSelf, p_boxc, p_ldc, SU f, p_ldsm (l := 12) bx_f rfl]
  refine den_call (fc := (118, [])) (ys := [.agg f.cells]) rfl (by simp only [SS, Nat.reduceEqDiff, Nat.reduceAdd, iput, puts, FF, frzL_cat, frzL_fu]) e_f ?_
  simp only [SS, Nat.reduceEqDiff, Nat.reduceAdd, iput, puts, p_boxc, p_ldc, SU f]
  refine den_call (fc := (120, [])) (ys := [.agg f.cells, .agg f.cells]) rfl (by simp only [SS, Nat.reduceEqDiff, Nat.reduceAdd, iput, puts, FF, frzL_cat, frzL_fu, frzL_of at_f.frzN]) (eqU_same L LU.eq f b_f) ?_
  simp only [SS, Nat.reduceEqDiff, Nat.reduceAdd, iput, puts, neSelf, p_boxc, p_ldc, SU f, p_ldsm (l := 12) bx_f rfl]
  refine den_callm (fc := (212, [])) rfl (markU_ok M.mI M.mII M.mC hmu f b_f fa fb fp fq _ _ _ _ _ at_f inn (by omega) (by omega) (by omega)) ⟨int 0, _, _, 0, rfl, by omega, by omega, Nat.le_refl _, fun _ _ _ => rfl⟩ fun u H5 x5 hu => ?_
  obtain ⟨k0, rfl, k0a, k0b, ne_f, e0⟩ := hu
  have bx_f := (e0 _ (by omega) (by omega)).trans bx_f
  have own := own.mono (Nat.le_refl _) (fun o h1 h2 => e0 o (by omega) (by omega))
  simp only [SS, Nat.reduceEqDiff, Nat.reduceAdd, iput, puts, p_ldsm (l := 12) bx_f rfl]
  have k9 : ¬ k0 < 0 := by omega
  simp only [SS, Nat.reduceEqDiff, Nat.reduceAdd, iput, puts, k9, p_ldsm (l := 12) bx_f rfl]
  refine den_call (fc := (7, [])) (ys := [islice l, islice l]) rfl (by simp only [SS, Nat.reduceEqDiff, Nat.reduceAdd, iput, puts, FF, frzL_cat, frzL_fu, own.frzL]) (eqI_same L.eqI l (by omega)) ?_
  simp only [SS, Nat.reduceEqDiff, Nat.reduceAdd, iput, puts, neSelf, p_ldsm (l := 12) bx_f rfl]
  refine den_callm (fc := (10, [])) rfl (markI_own M.mI l 1 r0 _ _ _ _ own (by omega) (by omega) (by omega)) (own.marked 1 _) fun u H6 x6 hu => ?_
  obtain ⟨rfl, rfl, own5, q6⟩ := hu
  have hh := (heldI_ok M.hI 1 l.length (by omega) (by omega) (by omega)).fzi
  refine den_call (fc := (11, [])) (ys := [islice (seqI 1 l.length), int 1]) rfl (by simp only [SS, Nat.reduceEqDiff, Nat.reduceAdd, iput, puts, FF, frzL_cat, frzL_fu, own5.frzL]) hh ?_
  have k7 : ¬ (1 + (l.length : Int)) < 0 := by omega
  simp only [SS, Nat.reduceEqDiff, Nat.reduceAdd, iput, puts, k7, neSelf, p_boxc, p_ldc, SU f]
  refine den_call (fc := (118, [])) (ys := [.agg f.cells]) rfl (by simp only [SS, Nat.reduceEqDiff, Nat.reduceAdd, iput, puts, FF, frzL_cat, frzL_fu]) e_f ?_
  simp only [SS, Nat.reduceEqDiff, Nat.reduceAdd, iput, puts, p_boxc, p_ldc, SU f]
  refine den_callo (fc := (223, [])) (ys := [.agg f.cells]) rfl (by simp only [SS, Nat.reduceEqDiff, Nat.reduceAdd, iput, puts, FF, frzL_cat, frzL_fu]) (himp _) (IsP.some _ _ _ _) fun u H' nx' hu => ?_
  obtain ⟨q1, q2, q3, r1, rfl, own6⟩ := hu.own H6
  refine ⟨q1, q2, ?_⟩
  have e : ∀ o, o < x6 → hmerge x6 H6 H' o = H6 o := fun o ho => hmerge_lo ho
  have own7 := own5.mono (Nat.le_refl _) (fun o _ h3 => e o (by omega))
  simp only [SS, Nat.reduceEqDiff, Nat.reduceAdd, iput, puts]
  refine den_call (fc := (7, [])) (ys := [islice l, islice l]) rfl (by simp only [SS, Nat.reduceEqDiff, Nat.reduceAdd, iput, puts, FF, frzL_cat, frzL_fu, own6.frzL]) (eqI_same L.eqI l (by omega)) ?_
  simp only [SS, Nat.reduceEqDiff, Nat.reduceAdd, iput, puts, neSelf, p_ldsm (l := 12) bx_f rfl]
  refine den_call (fc := (11, [])) (ys := [islice (seqI 1 l.length), int 1]) rfl (by simp only [SS, Nat.reduceEqDiff, Nat.reduceAdd, iput, puts, FF, frzL_cat, frzL_fu, own7.frzL]) hh ?_
  simp only [SS, Nat.reduceEqDiff, Nat.reduceAdd, iput, puts, k7, neSelf]
  exact ⟨_, rfl, hempty, (fun _ _ h => by cases h), rfl⟩
end Go.Av
