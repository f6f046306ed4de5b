/-
  The statement on ArrowKinds.
-/
import Derived.Test.YtmjafiohiippoaaAvL0
namespace Go.Av
open Classical
set_option linter.unusedSimpArgs false
set_option linter.unusedVariables false
variable {P : Program} {ν : Nat → FuncId}

def V_laws_FnExactArrowKinds : Vc :=
  .op true (.p .box [.t 0]) <|
  .op true (.p (.ld (some 5)) [.t 1]) <|
  .op true (.call (.f 3) [.t 2, .c (int 1048576)]) <|
  .op true (.p (.bin .lss) [.t 3, .c (int 0)]) <|
  .br 4
   (.ret [(.c (bool true), none)])
   (.op true (.p (.ld (some 5)) [.t 1]) <|
   .op true (.call (.f 5) [.t 5]) <|
   .op true (.call (.f 204) [.t 6]) <|
   .op true (.p (.ext 0) [.t 7]) <|
   .op true (.p (.ext 1) [.t 7]) <|
   .op true (.p (.ld (some 5)) [.t 1]) <|
   .op true (.callm (.f 5) [.t 10]) <|
   .op true (.new [int 0, .nil, .nil, .nil, .nil]) <|
   .op true (.st 5 (.t 12) (.t 11)) <|
   .op true (.p (.ld (some 5)) [.t 12]) <|
   .op true (.callo (.f 205) [.t 14]) <|
   .op true (.p (.ext 0) [.t 15]) <|
   .op true (.p (.ext 1) [.t 15]) <|
   .op true (.call (.f 7) [.t 16, .t 8]) <|
   .op true (.p .bnot [.t 18]) <|
   .br 19
    (.ret [(.c (bool false), none)])
    (.op true (.p (.bin .neq) [.t 17, .t 9]) <|
    .br 20
     (.ret [(.c (bool false), none)])
     (.op true (.p (.ld (some 5)) [.t 12]) <|
     .op true (.p (.ld (some 5)) [.t 1]) <|
     .op true (.call (.f 5) [.t 22]) <|
     .op true (.call (.f 8) [.t 21, .t 23]) <|
     .op true (.p .bnot [.t 24]) <|
     .br 25
      (.ret [(.c (bool false), none)])
      (.op true (.p (.ld (some 5)) [.t 12]) <|
      .op true (.callm (.f 9) [.t 26, .c (int 1)]) <|
      .op true (.p (.bin .lss) [.t 27, .c (int 0)]) <|
      .br 28
       (.ret [(.c (bool false), none)])
       (.op true (.call (.f 7) [.t 16, .t 8]) <|
       .op true (.p .bnot [.t 29]) <|
       .br 30
        (.ret [(.c (bool false), none)])
        (.op true (.p (.bin .neq) [.t 17, .t 9]) <|
        .br 31
         (.ret [(.c (bool false), none)])
         (.op true (.callm (.f 10) [.t 16, .c (int 1)]) <|
         .op true (.call (.f 11) [.t 16, .c (int 1)]) <|
         .op true (.p (.bin .lss) [.t 33, .c (int 0)]) <|
         .br 34
          (.ret [(.c (bool false), none)])
          (.op true (.p (.bin .neq) [.t 33, .t 32]) <|
          .br 35
           (.ret [(.c (bool false), none)])
           (.op true (.p (.ld (some 5)) [.t 1]) <|
           .op true (.call (.f 5) [.t 36]) <|
           .op true (.callo (.f 205) [.t 37]) <|
           .op true (.p (.ext 0) [.t 38]) <|
           .op true (.p (.ext 1) [.t 38]) <|
           .op true (.call (.f 7) [.t 39, .t 8]) <|
           .op true (.p .bnot [.t 41]) <|
           .br 42
            (.ret [(.c (bool false), none)])
            (.op true (.p (.bin .neq) [.t 40, .t 9]) <|
            .br 43
             (.ret [(.c (bool false), none)])
             (.op true (.call (.f 11) [.t 16, .c (int 1)]) <|
             .op true (.p (.bin .lss) [.t 44, .c (int 0)]) <|
             .br 45
              (.ret [(.c (bool false), none)])
              (.op true (.p (.bin .neq) [.t 44, .t 32]) <|
              .br 46
               (.ret [(.c (bool false), none)])
               (.ret [(.c (bool true), none)])))))))))))))
set_option maxHeartbeats 1000000 in
theorem law_ArrowKinds (L : HLaw P ν) (M : HMark P ν) (h : Has P ν 85 1 V_laws_FnExactArrowKinds) (c : Cat) (rd : Read c)  (hb : Small2 c → BothP P ν 205 204 [.agg c.cells]) :
    OkM P ν 85 [.agg c.cells] hempty 0 (fun r _ _ => r = bool true) := by
  refine h _ _ _ _ rfl fun hwf => ?_
  unfold V_laws_FnExactArrowKinds
  simp only [SS, Nat.reduceEqDiff, Nat.reduceAdd, iput, puts, p_boxc, p_ldc]
  refine den_call (fc := (3, [])) rfl (by first | (simp only [SS, Nat.reduceEqDiff, Nat.reduceAdd, iput, puts, FF, frzL_cat]; done) | (simp only [SS, Nat.reduceEqDiff, Nat.reduceAdd, iput, puts, FF, frzL_cat]; rfl)) ((szCat_ok L.szI L.szII L.szC c rd 1048576 (by omega) (by omega)).fzi) ?_
  simp only [SS, Nat.reduceEqDiff, Nat.reduceAdd, iput, puts, p_ldc]
  refine ⟨fun h1 => ⟨_, rfl, hempty, fun _ _ h => h, rfl⟩, fun h1 => ?_⟩
  have b := szCat_small (c := c) (left := 1048576) (by omega) (by omega) (by omega)
  obtain ⟨l, k, hl, himp, hspec⟩ := hb b
  refine den_call (fc := (5, [])) rfl (by first | (simp only [SS, Nat.reduceEqDiff, Nat.reduceAdd, iput, puts, FF, frzL_cat]; done) | (simp only [SS, Nat.reduceEqDiff, Nat.reduceAdd, iput, puts, FF, frzL_cat]; rfl)) (toCat_fz L.toI L.toII L.toC c b) ?_
  have hs : Fz (OkM P ν) 204 [.agg c.cells] (.tup [islice l, int k]) := OkM.fz hspec fun _ _ _ hh => hh.frz
  refine den_call (fc := (204, [])) rfl (by first | (simp only [SS, Nat.reduceEqDiff, Nat.reduceAdd, iput, puts, FF, frzL_cat]; done) | (simp only [SS, Nat.reduceEqDiff, Nat.reduceAdd, iput, puts, FF, frzL_cat]; rfl)) (hs) ?_
  simp only [SS, Nat.reduceEqDiff, Nat.reduceAdd, iput, puts, p_ldc]
  refine den_callm (fc := (5, [])) rfl (toCat_ok L.toI L.toII L.toC c b _ _) (IsMkC.some _ _ _) fun u H1 n1 hu => ?_
  obtain ⟨n0, e0, rfl, rfl, rfl⟩ := hu
  have c1 := catH_at hempty n0 c
  generalize catH hempty n0 c = H1 at c1
  refine den_new ?_
  refine den_stA (o := n0 + 4 + c.c.length) (m := 5) rfl rfl (hput_eq _ _ _) rfl rfl rfl ?_
  rw [hput_hput]
  have c2 : CatAt (hput H1 (n0 + 4 + c.c.length) (some (catM c n0).cells)) n0 c := c1.mono fun o _ ho => hput_ne _ _ _ _ (by omega)
  have x2 : hput H1 (n0 + 4 + c.c.length) (some (catM c n0).cells) (n0 + 4 + c.c.length) = some (catM c n0).cells := hput_eq _ _ _
  show den _ _ _ _ _ (hput H1 (n0 + 4 + c.c.length) (some (catM c n0).cells)) _ _
  generalize hput H1 (n0 + 4 + c.c.length) (some (catM c n0).cells) = H2 at c2 x2
  refine den_lda (o := n0 + 4 + c.c.length) (m := 5) rfl x2 rfl ?_
  refine den_callo (fc := (205, [])) (ys := [.agg c.cells]) rfl (by simp only [SS, Nat.reduceEqDiff, Nat.reduceAdd, iput, puts, FF, frzL_cat, catM_agg, c2.frzL]) (himp hempty (n0 + 4 + c.c.length + 1)) (IsP.some _ _ _ _) fun u H' nx' hu => ?_
  obtain ⟨q1, q2, q3, r0, rfl, own⟩ := hu.own H2
  refine ⟨q1, q2, ?_⟩
  have c3 : CatAt (hmerge (n0 + 4 + c.c.length + 1) H2 H') n0 c := c2.mono fun o _ ho => hmerge_lo (by omega)
  have x3 : hmerge (n0 + 4 + c.c.length + 1) H2 H' (n0 + 4 + c.c.length) = some (catM c n0).cells := (hmerge_lo (by omega)).trans x2
  generalize hmerge (n0 + 4 + c.c.length + 1) H2 H' = H3 at c3 x3 own
  clear hu q1 q2
  simp only [SS, Nat.reduceEqDiff, Nat.reduceAdd, iput, puts]
  refine den_call (fc := (7, [])) (ys := [islice l, islice l]) rfl (by simp only [SS, Nat.reduceEqDiff, Nat.reduceAdd, iput, puts, FF, frzL_cat, own.frzL]) (eqI_same L.eqI l (by omega)) ?_
  simp only [SS, Nat.reduceEqDiff, Nat.reduceAdd, iput, puts, neSelf, p_ldsm (l := 5) x3 rfl, catM_agg, p_ldc]
  refine den_call (fc := (5, [])) rfl (by first | (simp only [SS, Nat.reduceEqDiff, Nat.reduceAdd, iput, puts, FF, frzL_cat]; done) | (simp only [SS, Nat.reduceEqDiff, Nat.reduceAdd, iput, puts, FF, frzL_cat]; rfl)) (toCat_fz L.toI L.toII L.toC c b) ?_
  refine den_call (fc := (8, [])) (ys := [.agg c.cells, .agg c.cells]) rfl (by simp only [SS, Nat.reduceEqDiff, Nat.reduceAdd, iput, puts, FF, frzL_cat, c3.frzL]) (eqCat_same L c b) ?_
  simp only [SS, Nat.reduceEqDiff, Nat.reduceAdd, iput, puts, p_ldsm (l := 5) x3 rfl, catM_agg]
  refine den_callm (fc := (9, [])) rfl (markCat_ok M.mI M.mII M.mC c b n0 1 H3 nx' c3 (by omega) (by omega) (by omega)) ⟨int 0, _, _, 0, rfl, by omega, by omega, Nat.le_refl _, fun _ _ _ => rfl⟩ fun u H4 n4 hu => ?_
  obtain ⟨k4, rfl, k5, _, q4, q5⟩ := hu
  have own4 : Own1 l r0 H4 (n0 + 4 + c.c.length + 1) n4 := own.mono q4 fun o h2 h3 => q5 o (by omega) h3
  have k6 : ¬ k4 < 0 := by omega
  simp only [SS, Nat.reduceEqDiff, Nat.reduceAdd, iput, puts, k6]
  refine den_call (fc := (7, [])) (ys := [islice l, islice l]) rfl (by simp only [SS, Nat.reduceEqDiff, Nat.reduceAdd, iput, puts, FF, frzL_cat, own4.frzL]) (eqI_same L.eqI l (by omega)) ?_
  simp only [SS, Nat.reduceEqDiff, Nat.reduceAdd, iput, puts, neSelf]
  refine den_callm (fc := (10, [])) rfl (markI_own M.mI l 1 r0 H4 _ _ n4 own4 (by omega) (by omega) (by omega)) (own4.marked 1 n4) fun u H5 n5 hu => ?_
  obtain ⟨rfl, rfl, own5, q6⟩ := hu
  have hh := (heldI_ok M.hI 1 l.length (by omega) (by omega) (by omega)).fzi
  refine den_call (fc := (11, [])) (ys := [islice (seqI 1 l.length), int 1]) rfl (by simp only [SS, Nat.reduceEqDiff, Nat.reduceAdd, iput, puts, FF, frzL_cat, own5.frzL]) hh ?_
  have k7 : ¬ (1 + (l.length : Int)) < 0 := by omega
  simp only [SS, Nat.reduceEqDiff, Nat.reduceAdd, iput, puts, k7, neSelf, p_ldc]
  refine den_call (fc := (5, [])) rfl (by first | (simp only [SS, Nat.reduceEqDiff, Nat.reduceAdd, iput, puts, FF, frzL_cat]; done) | (simp only [SS, Nat.reduceEqDiff, Nat.reduceAdd, iput, puts, FF, frzL_cat]; rfl)) (toCat_fz L.toI L.toII L.toC c b) ?_
  refine den_callo (fc := (205, [])) (ys := [.agg c.cells]) rfl (by simp only [SS, Nat.reduceEqDiff, Nat.reduceAdd, iput, puts, FF, frzL_cat]) (himp hempty n5) (IsP.some _ _ _ _) fun u H' nx' hu => ?_
  obtain ⟨q1, q2, q3', r1, rfl, own6⟩ := hu.own H5
  refine ⟨q1, q2, ?_⟩
  have own7 : Own1 (seqI 1 l.length) r0 (hmerge n5 H5 H') (n0 + 4 + c.c.length + 1) nx' := own5.mono q3' fun o _ h3 => hmerge_lo h3
  simp only [SS, Nat.reduceEqDiff, Nat.reduceAdd, iput, puts]
  refine den_call (fc := (7, [])) (ys := [islice l, islice l]) rfl (by simp only [SS, Nat.reduceEqDiff, Nat.reduceAdd, iput, puts, FF, frzL_cat, own6.frzL]) (eqI_same L.eqI l (by omega)) ?_
  simp only [SS, Nat.reduceEqDiff, Nat.reduceAdd, iput, puts, neSelf]
  refine den_call (fc := (11, [])) (ys := [islice (seqI 1 l.length), int 1]) rfl (by simp only [SS, Nat.reduceEqDiff, Nat.reduceAdd, iput, puts, FF, frzL_cat, own7.frzL]) hh ?_
  simp only [SS, Nat.reduceEqDiff, Nat.reduceAdd, iput, puts, k7, neSelf]
  exact ⟨_, rfl, hempty, (fun _ _ h => by cases h), rfl⟩
end Go.Av
