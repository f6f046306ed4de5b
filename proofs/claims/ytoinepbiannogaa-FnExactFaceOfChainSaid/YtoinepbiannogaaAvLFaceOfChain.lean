/-
  The statement on FaceOfChain.
-/
import Derived.Test.YtoinepbiannogaaAvL0
namespace Go.Av
open Classical
set_option linter.unusedSimpArgs false
set_option linter.unusedVariables false
variable {P : Program} {ν : Nat → FuncId}

def V_laws_FnExactFaceOfChain : Vc :=
  .op true (.p .box [.t 0]) <|
  .op true (.p .len [.t 1]) <|
  .op true (.p (.bin .gtr) [.t 4, .c (int 1048576)]) <|
  .br 5
   (.ret [(.c (bool true), none)])
   (.op true (.p (.ld (some 5)) [.t 3]) <|
   .op true (.call (.f 3) [.t 6, .c (int 1048576)]) <|
   .op true (.p (.bin .lss) [.t 7, .c (int 0)]) <|
   .br 8
    (.ret [(.c (bool true), none)])
    (.op true (.p (.ld (some 5)) [.t 3]) <|
    .op true (.call (.f 5) [.t 9]) <|
    .op true (.call (.f 16) [.t 1]) <|
    .op true (.call (.f 129) [.t 10, .t 11, .t 2]) <|
    .op true (.p (.ext 0) [.t 12]) <|
    .op true (.p (.ext 1) [.t 12]) <|
    .op true (.p (.ld (some 5)) [.t 3]) <|
    .op true (.callm (.f 5) [.t 15]) <|
    .op true (.new [int 0, .nil, .nil, .nil, .nil]) <|
    .op true (.st 5 (.t 17) (.t 16)) <|
    .op true (.callm (.f 16) [.t 1]) <|
    .op true (.p (.ld (some 5)) [.t 17]) <|
    .op true (.callo (.f 130) [.t 20, .t 19, .t 2]) <|
    .op true (.p (.ext 0) [.t 21]) <|
    .op true (.p (.ext 1) [.t 21]) <|
    .op true (.call (.f 7) [.t 22, .t 13]) <|
    .op true (.p .bnot [.t 24]) <|
    .br 25
     (.ret [(.c (bool false), none)])
     (.op true (.p (.bin .neq) [.t 23, .t 14]) <|
     .br 26
      (.ret [(.c (bool false), none)])
      (.op true (.p (.ld (some 5)) [.t 17]) <|
      .op true (.p (.ld (some 5)) [.t 3]) <|
      .op true (.call (.f 5) [.t 28]) <|
      .op true (.call (.f 8) [.t 27, .t 29]) <|
      .op true (.p .bnot [.t 30]) <|
      .br 31
       (.ret [(.c (bool false), none)])
       (.op true (.call (.f 16) [.t 1]) <|
       .op true (.call (.f 7) [.t 19, .t 32]) <|
       .op true (.p .bnot [.t 33]) <|
       .br 34
        (.ret [(.c (bool false), none)])
        (.op true (.p (.ld (some 5)) [.t 17]) <|
        .op true (.callm (.f 9) [.t 35, .c (int 1)]) <|
        .op true (.callm (.f 10) [.t 19, .t 36]) <|
        .op true (.p (.bin .lss) [.t 37, .c (int 0)]) <|
        .br 38
         (.ret [(.c (bool false), none)])
         (.op true (.call (.f 7) [.t 22, .t 13]) <|
         .op true (.p .bnot [.t 39]) <|
         .br 40
          (.ret [(.c (bool false), none)])
          (.op true (.p (.bin .neq) [.t 23, .t 14]) <|
          .br 41
           (.ret [(.c (bool false), none)])
           (.op true (.callm (.f 10) [.t 22, .c (int 1)]) <|
           .op true (.call (.f 11) [.t 22, .c (int 1)]) <|
           .op true (.p (.bin .lss) [.t 43, .c (int 0)]) <|
           .br 44
            (.ret [(.c (bool false), none)])
            (.op true (.p (.bin .neq) [.t 43, .t 42]) <|
            .br 45
             (.ret [(.c (bool false), none)])
             (.op true (.p (.ld (some 5)) [.t 3]) <|
             .op true (.call (.f 5) [.t 46]) <|
             .op true (.call (.f 16) [.t 1]) <|
             .op true (.callo (.f 130) [.t 47, .t 48, .t 2]) <|
             .op true (.p (.ext 0) [.t 49]) <|
             .op true (.p (.ext 1) [.t 49]) <|
             .op true (.call (.f 7) [.t 50, .t 13]) <|
             .op true (.p .bnot [.t 52]) <|
             .br 53
              (.ret [(.c (bool false), none)])
              (.op true (.p (.bin .neq) [.t 51, .t 14]) <|
              .br 54
               (.ret [(.c (bool false), none)])
               (.op true (.call (.f 11) [.t 22, .c (int 1)]) <|
               .op true (.p (.bin .lss) [.t 55, .c (int 0)]) <|
               .br 56
                (.ret [(.c (bool false), none)])
                (.op true (.p (.bin .neq) [.t 55, .t 42]) <|
                .br 57
                 (.ret [(.c (bool false), none)])
                 (.ret [(.c (bool true), none)])))))))))))))))
set_option maxHeartbeats 1000000 in
theorem law_FaceOfChain (L : HLaw P ν) (M : HMark P ν) (h : Has P ν 53 3 V_laws_FnExactFaceOfChain) (c : Cat) (rd : Read c) (chain : List Int) (i : Int) (rd_chain : chain.length ≤ 9223372036854775807) (hb : Small2 c → chain.length ≤ 1048576 → BothP P ν 130 129 [.agg c.cells, islice chain, int i]) :
    OkM P ν 53 [.agg c.cells, islice chain, int i] hempty 0 (fun r _ _ => r = bool true) := by
  refine h _ _ _ _ rfl fun hwf => ?_
  unfold V_laws_FnExactFaceOfChain
  simp only [SS, Nat.reduceEqDiff, Nat.reduceAdd, iput, puts, p_boxc, p_ldc]
  refine ⟨fun h1 => ⟨_, rfl, hempty, fun _ _ h => h, rfl⟩, fun hl_chain => ?_⟩
  have b_chain : chain.length ≤ 1048576 := by omega
  refine den_call (fc := (3, [])) rfl (by first | (simp only [SS, Nat.reduceEqDiff, Nat.reduceAdd, iput, puts, FF, frzL_cat]; done) | (simp only [SS, Nat.reduceEqDiff, Nat.reduceAdd, iput, puts, FF, frzL_cat]; rfl)) ((szCat_ok L.szI L.szII L.szC c rd 1048576 (by omega) (by omega)).fzi) ?_
  simp only [SS, Nat.reduceEqDiff, Nat.reduceAdd, iput, puts, p_ldc]
  refine ⟨fun h1 => ⟨_, rfl, hempty, fun _ _ h => h, rfl⟩, fun h1 => ?_⟩
  have b := szCat_small (c := c) (left := 1048576) (by omega) (by omega) (by omega)
  obtain ⟨l, k, hl, himp, hspec⟩ := hb b b_chain
  refine den_call (fc := (5, [])) rfl (by first | (simp only [SS, Nat.reduceEqDiff, Nat.reduceAdd, iput, puts, FF, frzL_cat]; done) | (simp only [SS, Nat.reduceEqDiff, Nat.reduceAdd, iput, puts, FF, frzL_cat]; rfl)) (toCat_fz L.toI L.toII L.toC c b) ?_
  refine den_call (fc := (16, [])) rfl (by first | (simp only [SS, Nat.reduceEqDiff, Nat.reduceAdd, iput, puts, FF, frzL_cat]; done) | (simp only [SS, Nat.reduceEqDiff, Nat.reduceAdd, iput, puts, FF, frzL_cat]; rfl)) (toI_fz L.toI chain b_chain) ?_
  have hs : Fz (OkM P ν) 129 [.agg c.cells, islice chain, int i] (.tup [islice l, int k]) := OkM.fz hspec fun _ _ _ hh => hh.frz
  refine den_call (fc := (129, [])) rfl (by first | (simp only [SS, Nat.reduceEqDiff, Nat.reduceAdd, iput, puts, FF, frzL_cat]; done) | (simp only [SS, Nat.reduceEqDiff, Nat.reduceAdd, iput, puts, FF, frzL_cat]; rfl)) (hs) ?_
  simp only [SS, Nat.reduceEqDiff, Nat.reduceAdd, iput, puts, p_ldc]
  refine den_callm (fc := (5, [])) rfl (toCat_ok L.toI L.toII L.toC c b _ _) (IsMkC.some _ _ _) fun u H1 n1 hu => ?_
  obtain ⟨n0, e0, rfl, rfl, rfl⟩ := hu
  have c1 := catH_at hempty n0 c
  generalize catH hempty n0 c = H1 at c1
  refine den_new ?_
  refine den_stA (o := n0 + 4 + c.c.length) (m := 5) rfl rfl (hput_eq _ _ _) rfl rfl rfl ?_
  rw [hput_hput]
  have c2 : CatAt (hput H1 (n0 + 4 + c.c.length) (some (catM c n0).cells)) n0 c := c1.mono fun o _ ho => hput_ne _ _ _ _ (by omega)
  have x2 : hput H1 (n0 + 4 + c.c.length) (some (catM c n0).cells) (n0 + 4 + c.c.length) = some (catM c n0).cells := hput_eq _ _ _
  show den _ _ _ _ _ (hput H1 (n0 + 4 + c.c.length) (some (catM c n0).cells)) _ _
  generalize hput H1 (n0 + 4 + c.c.length) (some (catM c n0).cells) = H2 at c2 x2
  refine den_callm (fc := (16, [])) rfl (toI_ok L.toI chain b_chain H2 (n0 + 4 + c.c.length + 1)) ⟨_, _, _, rfl, rfl, rfl⟩ fun u H2' n2' hu => ?_
  obtain ⟨rfl, rfl, rfl⟩ := hu
  have c2' : CatAt (hput H2 (n0 + 4 + c.c.length + 1) (some (ints chain))) n0 c := c2.mono fun o _ ho => hput_ne _ _ _ _ (by omega)
  have x2' : hput H2 (n0 + 4 + c.c.length + 1) (some (ints chain)) (n0 + 4 + c.c.length) = some (catM c n0).cells := (hput_ne _ _ _ _ (by omega)).trans x2
  have l2 : Own1 chain (.ms (n0 + 4 + c.c.length + 1) 0 chain.length 1) (hput H2 (n0 + 4 + c.c.length + 1) (some (ints chain))) (n0 + 4 + c.c.length + 1) (n0 + 4 + c.c.length + 1 + 1) := .inr ⟨_, Nat.le_refl _, Nat.lt_succ_self _, rfl, hput_eq _ _ _⟩
  generalize hput H2 (n0 + 4 + c.c.length + 1) (some (ints chain)) = H2 at c2' x2' l2
  refine den_lda (o := n0 + 4 + c.c.length) (m := 5) rfl x2' rfl ?_
  refine den_callo (fc := (130, [])) (ys := [.agg c.cells, islice chain, int i]) rfl (by simp only [SS, Nat.reduceEqDiff, Nat.reduceAdd, iput, puts, FF, frzL_cat, catM_agg, c2'.frzL, l2.frzL]) (himp hempty (n0 + 4 + c.c.length + 1 + 1)) (IsP.some _ _ _ _) fun u H' nx' hu => ?_
  obtain ⟨q1, q2, q3, r0, rfl, own⟩ := hu.own H2
  refine ⟨q1, q2, ?_⟩
  have c3 : CatAt (hmerge (n0 + 4 + c.c.length + 1 + 1) H2 H') n0 c := c2'.mono fun o _ ho => hmerge_lo (by omega)
  have x3 : hmerge (n0 + 4 + c.c.length + 1 + 1) H2 H' (n0 + 4 + c.c.length) = some (catM c n0).cells := (hmerge_lo (by omega)).trans x2'
  have l3 : Own1 chain (.ms (n0 + 4 + c.c.length + 1) 0 chain.length 1) (hmerge (n0 + 4 + c.c.length + 1 + 1) H2 H') (n0 + 4 + c.c.length + 1) (n0 + 4 + c.c.length + 1 + 1) := l2.mono (Nat.le_refl _) fun o _ ho => hmerge_lo ho
  generalize hmerge (n0 + 4 + c.c.length + 1 + 1) H2 H' = H3 at c3 x3 l3 own
  clear hu q1 q2
  simp only [SS, Nat.reduceEqDiff, Nat.reduceAdd, iput, puts]
  refine den_call (fc := (7, [])) (ys := [islice l, islice l]) rfl (by simp only [SS, Nat.reduceEqDiff, Nat.reduceAdd, iput, puts, FF, frzL_cat, own.frzL]) (eqI_same L.eqI l (by omega)) ?_
  simp only [SS, Nat.reduceEqDiff, Nat.reduceAdd, iput, puts, neSelf, p_ldsm (l := 5) x3 rfl, catM_agg, p_ldc]
  refine den_call (fc := (5, [])) rfl (by first | (simp only [SS, Nat.reduceEqDiff, Nat.reduceAdd, iput, puts, FF, frzL_cat]; done) | (simp only [SS, Nat.reduceEqDiff, Nat.reduceAdd, iput, puts, FF, frzL_cat]; rfl)) (toCat_fz L.toI L.toII L.toC c b) ?_
  refine den_call (fc := (8, [])) (ys := [.agg c.cells, .agg c.cells]) rfl (by simp only [SS, Nat.reduceEqDiff, Nat.reduceAdd, iput, puts, FF, frzL_cat, c3.frzL]) (eqCat_same L c b) ?_
  simp only [SS, Nat.reduceEqDiff, Nat.reduceAdd, iput, puts]
  refine den_call (fc := (16, [])) rfl (by first | (simp only [SS, Nat.reduceEqDiff, Nat.reduceAdd, iput, puts, FF, frzL_cat]; done) | (simp only [SS, Nat.reduceEqDiff, Nat.reduceAdd, iput, puts, FF, frzL_cat]; rfl)) (toI_fz L.toI chain b_chain) ?_
  refine den_call (fc := (7, [])) (ys := [islice chain, islice chain]) rfl (by simp only [SS, Nat.reduceEqDiff, Nat.reduceAdd, iput, puts, FF, frzL_cat, l3.frzL]) (eqI_same L.eqI chain (by omega)) ?_
  simp only [SS, Nat.reduceEqDiff, Nat.reduceAdd, iput, puts, p_ldsm (l := 5) x3 rfl, catM_agg]
  refine den_callm (fc := (9, [])) rfl (markCat_ok M.mI M.mII M.mC c b n0 1 H3 nx' c3 (by omega) (by omega) (by omega)) ⟨int 0, _, _, 0, rfl, by omega, by omega, Nat.le_refl _, fun _ _ _ => rfl⟩ fun u H4 n4 hu => ?_
  obtain ⟨k4, rfl, k5, k6, q4, q5⟩ := hu
  have own4 : Own1 l r0 H4 (n0 + 4 + c.c.length + 1 + 1) n4 := own.mono q4 fun o h2 h3 => q5 o (by omega) h3
  have l4 : H4 (n0 + 4 + c.c.length + 1) = some (ints chain) := by
    rw [q5 _ (by omega) (by omega)]
    obtain ⟨rfl, e⟩ | ⟨o, _, _, e1, e2⟩ := l3
    · cases e
    · cases e1; exact e2
  refine den_callm (fc := (10, [])) rfl (markI_ms M.mI chain k4 (n0 + 4 + c.c.length + 1) H4 n4 l4 (by omega) (by omega) (by omega)) ⟨_, _, _, rfl, rfl, rfl⟩ fun u H4' n4' hu => ?_
  obtain ⟨rfl, rfl, rfl⟩ := hu
  have own4 : Own1 l r0 (hput H4 (n0 + 4 + c.c.length + 1) (some (ints (seqI k4 chain.length)))) (n0 + 4 + c.c.length + 1 + 1) n4' := own4.mono (Nat.le_refl _) fun o h2 h3 => hput_ne _ _ _ _ (by omega)
  generalize hput H4 (n0 + 4 + c.c.length + 1) (some (ints (seqI k4 chain.length))) = H4 at own4
  have k6 : ¬ k4 + (chain.length : Int) < 0 := by omega
  simp only [SS, Nat.reduceEqDiff, Nat.reduceAdd, iput, puts, k6]
  refine den_call (fc := (7, [])) (ys := [islice l, islice l]) rfl (by simp only [SS, Nat.reduceEqDiff, Nat.reduceAdd, iput, puts, FF, frzL_cat, own4.frzL]) (eqI_same L.eqI l (by omega)) ?_
  simp only [SS, Nat.reduceEqDiff, Nat.reduceAdd, iput, puts, neSelf]
  refine den_callm (fc := (10, [])) rfl (markI_own M.mI l 1 r0 H4 _ _ n4' own4 (by omega) (by omega) (by omega)) (own4.marked 1 n4') fun u H5 n5 hu => ?_
  obtain ⟨rfl, rfl, own5, q6⟩ := hu
  have hh := (heldI_ok M.hI 1 l.length (by omega) (by omega) (by omega)).fzi
  refine den_call (fc := (11, [])) (ys := [islice (seqI 1 l.length), int 1]) rfl (by simp only [SS, Nat.reduceEqDiff, Nat.reduceAdd, iput, puts, FF, frzL_cat, own5.frzL]) hh ?_
  have k7 : ¬ (1 + (l.length : Int)) < 0 := by omega
  simp only [SS, Nat.reduceEqDiff, Nat.reduceAdd, iput, puts, k7, neSelf, p_ldc]
  refine den_call (fc := (5, [])) rfl (by first | (simp only [SS, Nat.reduceEqDiff, Nat.reduceAdd, iput, puts, FF, frzL_cat]; done) | (simp only [SS, Nat.reduceEqDiff, Nat.reduceAdd, iput, puts, FF, frzL_cat]; rfl)) (toCat_fz L.toI L.toII L.toC c b) ?_
  refine den_call (fc := (16, [])) rfl (by first | (simp only [SS, Nat.reduceEqDiff, Nat.reduceAdd, iput, puts, FF, frzL_cat]; done) | (simp only [SS, Nat.reduceEqDiff, Nat.reduceAdd, iput, puts, FF, frzL_cat]; rfl)) (toI_fz L.toI chain b_chain) ?_
  refine den_callo (fc := (130, [])) (ys := [.agg c.cells, islice chain, int i]) rfl (by simp only [SS, Nat.reduceEqDiff, Nat.reduceAdd, iput, puts, FF, frzL_cat]) (himp hempty n5) (IsP.some _ _ _ _) fun u H' nx' hu => ?_
  obtain ⟨q1, q2, q3', r1, rfl, own6⟩ := hu.own H5
  refine ⟨q1, q2, ?_⟩
  have own7 : Own1 (seqI 1 l.length) r0 (hmerge n5 H5 H') (n0 + 4 + c.c.length + 1 + 1) nx' := own5.mono q3' fun o _ h3 => hmerge_lo h3
  simp only [SS, Nat.reduceEqDiff, Nat.reduceAdd, iput, puts]
  refine den_call (fc := (7, [])) (ys := [islice l, islice l]) rfl (by simp only [SS, Nat.reduceEqDiff, Nat.reduceAdd, iput, puts, FF, frzL_cat, own6.frzL]) (eqI_same L.eqI l (by omega)) ?_
  simp only [SS, Nat.reduceEqDiff, Nat.reduceAdd, iput, puts, neSelf]
  refine den_call (fc := (11, [])) (ys := [islice (seqI 1 l.length), int 1]) rfl (by simp only [SS, Nat.reduceEqDiff, Nat.reduceAdd, iput, puts, FF, frzL_cat, own7.frzL]) hh ?_
  simp only [SS, Nat.reduceEqDiff, Nat.reduceAdd, iput, puts, k7, neSelf]
  exact ⟨_, rfl, hempty, (fun _ _ h => by cases h), rfl⟩
end Go.Av
