/-
  The statement on KernelCongruence.
-/
import Derived.Test.YtbgaobcgpkjjkaaAvU0
namespace Go.Av
open Classical
set_option linter.unusedSimpArgs false
set_option linter.unusedVariables false
variable {P : Program} {ν : Nat → FuncId}

def V_laws_FnExactKernelCongruence : Vc :=
  .op true (.p .box [.t 0]) <|
  .op true (.p (.ld (some 12)) [.t 1]) <|
  .op true (.call (.f 116) [.t 2, .c (int 1048576)]) <|
  .op true (.p (.bin .lss) [.t 3, .c (int 0)]) <|
  .br 4
   (.ret [(.c (bool true), none)])
   (.op true (.p (.ld (some 12)) [.t 1]) <|
   .op true (.call (.f 118) [.t 5]) <|
   .op true (.call (.f 224) [.t 6]) <|
   .op true (.p (.ext 0) [.t 7]) <|
   .op true (.p (.ext 1) [.t 7]) <|
   .op true (.p (.ld (some 12)) [.t 1]) <|
   .op true (.callm (.f 118) [.t 10]) <|
   .op true (.new [int 0, .nil, .nil, .nil, .nil, int 0, .nil, .nil, .nil, .nil, .nil, .nil]) <|
   .op true (.st 12 (.t 12) (.t 11)) <|
   .op true (.p (.ld (some 12)) [.t 12]) <|
   .op true (.callo (.f 225) [.t 14]) <|
   .op true (.p (.ext 0) [.t 15]) <|
   .op true (.p (.ext 1) [.t 15]) <|
   .op true (.call (.f 7) [.t 16, .t 8]) <|
   .op true (.p .bnot [.t 18]) <|
   .br 19
    (.ret [(.c (bool false), none)])
    (.op true (.p (.bin .neq) [.t 17, .t 9]) <|
    .br 20
     (.ret [(.c (bool false), none)])
     (.op true (.p (.ld (some 12)) [.t 12]) <|
     .op true (.p (.ld (some 12)) [.t 1]) <|
     .op true (.call (.f 118) [.t 22]) <|
     .op true (.call (.f 120) [.t 21, .t 23]) <|
     .op true (.p .bnot [.t 24]) <|
     .br 25
      (.ret [(.c (bool false), none)])
      (.op true (.p (.ld (some 12)) [.t 12]) <|
      .op true (.callm (.f 212) [.t 26, .c (int 1)]) <|
      .op true (.p (.bin .lss) [.t 27, .c (int 0)]) <|
      .br 28
       (.ret [(.c (bool false), none)])
       (.op true (.call (.f 7) [.t 16, .t 8]) <|
       .op true (.p .bnot [.t 29]) <|
       .br 30
        (.ret [(.c (bool false), none)])
        (.op true (.p (.bin .neq) [.t 17, .t 9]) <|
        .br 31
         (.ret [(.c (bool false), none)])
         (.op true (.callm (.f 10) [.t 16, .c (int 1)]) <|
         .op true (.call (.f 11) [.t 16, .c (int 1)]) <|
         .op true (.p (.bin .lss) [.t 33, .c (int 0)]) <|
         .br 34
          (.ret [(.c (bool false), none)])
          (.op true (.p (.bin .neq) [.t 33, .t 32]) <|
          .br 35
           (.ret [(.c (bool false), none)])
           (.op true (.p (.ld (some 12)) [.t 1]) <|
           .op true (.call (.f 118) [.t 36]) <|
           .op true (.callo (.f 225) [.t 37]) <|
           .op true (.p (.ext 0) [.t 38]) <|
           .op true (.p (.ext 1) [.t 38]) <|
           .op true (.call (.f 7) [.t 39, .t 8]) <|
           .op true (.p .bnot [.t 41]) <|
           .br 42
            (.ret [(.c (bool false), none)])
            (.op true (.p (.bin .neq) [.t 40, .t 9]) <|
            .br 43
             (.ret [(.c (bool false), none)])
             (.op true (.call (.f 11) [.t 16, .c (int 1)]) <|
             .op true (.p (.bin .lss) [.t 44, .c (int 0)]) <|
             .br 45
              (.ret [(.c (bool false), none)])
              (.op true (.p (.bin .neq) [.t 44, .t 32]) <|
              .br 46
               (.ret [(.c (bool false), none)])
               (.ret [(.c (bool true), none)])))))))))))))
set_option maxHeartbeats 1000000 in
theorem law_KernelCongruence (L : HLaw P ν) (LU : HLawU P ν) (M : HMark P ν) (hmu : Has P ν 212 2 V_laws_markFunctor) (h : Has P ν 93 1 V_laws_FnExactKernelCongruence) (f : Fu) (rd : ReadU f) (hb : SmallU f → BothP P ν 225 224 [.agg f.cells]) :
    OkM P ν 93 [.agg f.cells] hempty 0 (fun r _ _ => r = bool true) := by
  refine h _ _ _ _ rfl fun hwf => ?_
  unfold V_laws_FnExactKernelCongruence
  repeat (first | simp (disch := (first | rfl | with_reducible assumption | with_reducible solve_by_elim (maxDepth := 8) [Shape.inT, Shape.inI, Shape.inC, Shape.inK, Shape.obF, Shape.obT, Shape.arI, Arr.inF] | omega)) only [S2, Nat.reduceEqDiff, Nat.reduceAdd, iput, puts, SU f] | (refine den_call rfl (by first | (simp only [SS, Nat.reduceEqDiff, Nat.reduceAdd, iput, puts, FF, frzL_cat, frzL_fu]; done) | (simp only [SS, Nat.reduceEqDiff, Nat.reduceAdd, iput, puts, FF, frzL_cat, frzL_fu]; rfl)) (by first | exact szU_fz L LU.sz f rd) ?_) | (refine den_calli rfl (by first | (simp only [SS, Nat.reduceEqDiff, Nat.reduceAdd, iput, puts, FF, frzL_cat, frzL_fu]; done) | (simp only [SS, Nat.reduceEqDiff, Nat.reduceAdd, iput, puts, FF, frzL_cat, frzL_fu]; rfl)) (by first | exact szU_fz L LU.sz f rd) ?_))
  refine ⟨fun h1 => ⟨_, rfl, hempty, fun _ _ h => h, rfl⟩, fun h1 => ?_⟩
  have b := szU_small (f := f) (by omega)
  obtain ⟨l, k, hl, himp, hspec⟩ := hb b
  have hs : Fz (OkM P ν) 224 [.agg f.cells] (.tup [islice l, int k]) := OkM.fz hspec fun _ _ _ hh => hh.frz
  have toF := toU_fz L LU.to f b
  repeat (first | simp (disch := (first | rfl | with_reducible assumption | with_reducible solve_by_elim (maxDepth := 8) [Shape.inT, Shape.inI, Shape.inC, Shape.inK, Shape.obF, Shape.obT, Shape.arI, Arr.inF] | omega)) only [S2, Nat.reduceEqDiff, Nat.reduceAdd, iput, puts, SU f] | (refine den_call rfl (by first | (simp only [SS, Nat.reduceEqDiff, Nat.reduceAdd, iput, puts, FF, frzL_cat, frzL_fu]; done) | (simp only [SS, Nat.reduceEqDiff, Nat.reduceAdd, iput, puts, FF, frzL_cat, frzL_fu]; rfl)) (by first | exact toF | exact hs) ?_) | (refine den_calli rfl (by first | (simp only [SS, Nat.reduceEqDiff, Nat.reduceAdd, iput, puts, FF, frzL_cat, frzL_fu]; done) | (simp only [SS, Nat.reduceEqDiff, Nat.reduceAdd, iput, puts, FF, frzL_cat, frzL_fu]; rfl)) (by first | exact toF | exact hs) ?_))
  refine den_callm (fc := (118, [])) rfl (toU_ok L LU.to f b _ _) (IsMkU.some _ _ _) fun u H1 n1 hu => ?_
  obtain ⟨a, b2, p, q, rfl, inn, at1, low1⟩ := hu
  have j1 := inn.ia
  have j2 := inn.ib
  have j3 := inn.ip
  have j4 := inn.iq
  have j5 := inn.ih
  refine den_newG fun H2 x0 e0 => ?_
  refine den_stG (o := n1) (p := 0) (k := 12) (m := 12) (c' := fuM f a b2 p q) (by rfl) (by rfl) x0 (by rfl) (by rfl) (show 0 + 12 ≤ 12 by omega) (by rfl) (by rfl) fun H3 x3 e3 => ?_
  have at3 : FuAt H3 a b2 p q f := at1.mono inn fun o h1 h2 => by rw [e3 o (by omega), e0 o (by omega)]
  try simp (disch := (first | rfl | with_reducible assumption | with_reducible solve_by_elim (maxDepth := 8) [Shape.inT, Shape.inI, Shape.inC, Shape.inK, Shape.obF, Shape.obT, Shape.arI, Arr.inF] | omega)) only [S2, Nat.reduceEqDiff, Nat.reduceAdd, iput, puts, p_ldsm (l := 12) x3 rfl]
  refine den_callo (fc := (225, [])) (ys := [.agg f.cells]) rfl (by simp only [SS, Nat.reduceEqDiff, Nat.reduceAdd, iput, puts, FF, frzL_cat, frzL_fu]; exact frzL_of at3.frzN) (himp hempty (n1 + 1)) (IsP.some _ _ _ _) fun u H' nx' hu => ?_
  obtain ⟨q1, q2, q3, r0, rfl, own⟩ := hu.own H3
  refine ⟨q1, q2, ?_⟩
  have at4 : FuAt (hmerge (n1 + 1) H3 H') a b2 p q f := at3.mono inn fun o h1 h2 => hmerge_lo (by omega)
  have x4 : hmerge (n1 + 1) H3 H' n1 = some (fuM f a b2 p q) := (hmerge_lo (by omega)).trans x3
  generalize hmerge (n1 + 1) H3 H' = H4 at at4 x4 own
  clear hu q1 q2
  simp only [SS, Nat.reduceEqDiff, Nat.reduceAdd, iput, puts]
  refine den_call (fc := (7, [])) (ys := [islice l, islice l]) rfl (by simp only [SS, Nat.reduceEqDiff, Nat.reduceAdd, iput, puts, FF, frzL_cat, frzL_fu, own.frzL]) (eqI_same L.eqI l (by omega)) ?_
  repeat (first | simp (disch := (first | rfl | with_reducible assumption | with_reducible solve_by_elim (maxDepth := 8) [Shape.inT, Shape.inI, Shape.inC, Shape.inK, Shape.obF, Shape.obT, Shape.arI, Arr.inF] | omega)) only [S2, Nat.reduceEqDiff, Nat.reduceAdd, iput, puts, neSelf, SU f, p_ldsm (l := 12) x4 rfl] | (refine den_call rfl (by first | (simp only [SS, Nat.reduceEqDiff, Nat.reduceAdd, iput, puts, FF, frzL_cat, frzL_fu]; done) | (simp only [SS, Nat.reduceEqDiff, Nat.reduceAdd, iput, puts, FF, frzL_cat, frzL_fu]; rfl)) (by first | exact toF) ?_) | (refine den_calli rfl (by first | (simp only [SS, Nat.reduceEqDiff, Nat.reduceAdd, iput, puts, FF, frzL_cat, frzL_fu]; done) | (simp only [SS, Nat.reduceEqDiff, Nat.reduceAdd, iput, puts, FF, frzL_cat, frzL_fu]; rfl)) (by first | exact toF) ?_))
  refine den_call (fc := (120, [])) (ys := [.agg f.cells, .agg f.cells]) rfl (by simp only [SS, Nat.reduceEqDiff, Nat.reduceAdd, iput, puts, FF, frzL_cat, frzL_fu, frzL_of at4.frzN]) (eqU_same L LU.eq f b) ?_
  try simp (disch := (first | rfl | with_reducible assumption | with_reducible solve_by_elim (maxDepth := 8) [Shape.inT, Shape.inI, Shape.inC, Shape.inK, Shape.obF, Shape.obT, Shape.arI, Arr.inF] | omega)) only [S2, Nat.reduceEqDiff, Nat.reduceAdd, iput, puts, p_ldsm (l := 12) x4 rfl]
  refine den_callm (fc := (212, [])) rfl (markU_ok M.mI M.mII M.mC hmu f b a b2 p q 0 n1 1 H4 nx' at4 inn (by omega) (by omega) (by omega)) ⟨int 0, _, _, 0, rfl, by omega, by omega, Nat.le_refl _, fun _ _ _ => rfl⟩ fun u H5 n5 hu => ?_
  obtain ⟨k4, rfl, k5, _, q4, q5⟩ := hu
  have own4 : Own1 l r0 H5 (n1 + 1) n5 := own.mono q4 fun o h2 h3 => q5 o (by omega) h3
  have k6 : ¬ k4 < 0 := by omega
  simp only [SS, Nat.reduceEqDiff, Nat.reduceAdd, iput, puts, k6]
  refine den_call (fc := (7, [])) (ys := [islice l, islice l]) rfl (by simp only [SS, Nat.reduceEqDiff, Nat.reduceAdd, iput, puts, FF, frzL_cat, frzL_fu, own4.frzL]) (eqI_same L.eqI l (by omega)) ?_
  simp only [SS, Nat.reduceEqDiff, Nat.reduceAdd, iput, puts, neSelf]
  refine den_callm (fc := (10, [])) rfl (markI_own M.mI l 1 r0 H5 _ _ n5 own4 (by omega) (by omega) (by omega)) (own4.marked 1 n5) fun u H6 n6 hu => ?_
  obtain ⟨rfl, rfl, own5, q6⟩ := hu
  have hh := (heldI_ok M.hI 1 l.length (by omega) (by omega) (by omega)).fzi
  refine den_call (fc := (11, [])) (ys := [islice (seqI 1 l.length), int 1]) rfl (by simp only [SS, Nat.reduceEqDiff, Nat.reduceAdd, iput, puts, FF, frzL_cat, frzL_fu, own5.frzL]) hh ?_
  have k7 : ¬ (1 + (l.length : Int)) < 0 := by omega
  repeat (first | simp (disch := (first | rfl | with_reducible assumption | with_reducible solve_by_elim (maxDepth := 8) [Shape.inT, Shape.inI, Shape.inC, Shape.inK, Shape.obF, Shape.obT, Shape.arI, Arr.inF] | omega)) only [S2, Nat.reduceEqDiff, Nat.reduceAdd, iput, puts, k7, neSelf, SU f] | (refine den_call rfl (by first | (simp only [SS, Nat.reduceEqDiff, Nat.reduceAdd, iput, puts, FF, frzL_cat, frzL_fu]; done) | (simp only [SS, Nat.reduceEqDiff, Nat.reduceAdd, iput, puts, FF, frzL_cat, frzL_fu]; rfl)) (by first | exact toF) ?_) | (refine den_calli rfl (by first | (simp only [SS, Nat.reduceEqDiff, Nat.reduceAdd, iput, puts, FF, frzL_cat, frzL_fu]; done) | (simp only [SS, Nat.reduceEqDiff, Nat.reduceAdd, iput, puts, FF, frzL_cat, frzL_fu]; rfl)) (by first | exact toF) ?_))
  refine den_callo (fc := (225, [])) (ys := [.agg f.cells]) rfl (by simp only [SS, Nat.reduceEqDiff, Nat.reduceAdd, iput, puts, FF, frzL_cat, frzL_fu, frzL_fu]) (himp hempty n6) (IsP.some _ _ _ _) fun u H' nx' hu => ?_
  obtain ⟨q1, q2, q3', r1, rfl, own6⟩ := hu.own H6
  refine ⟨q1, q2, ?_⟩
  have own7 : Own1 (seqI 1 l.length) r0 (hmerge n6 H6 H') (n1 + 1) nx' := own5.mono q3' fun o _ h3 => hmerge_lo h3
  simp only [SS, Nat.reduceEqDiff, Nat.reduceAdd, iput, puts]
  refine den_call (fc := (7, [])) (ys := [islice l, islice l]) rfl (by simp only [SS, Nat.reduceEqDiff, Nat.reduceAdd, iput, puts, FF, frzL_cat, frzL_fu, own6.frzL]) (eqI_same L.eqI l (by omega)) ?_
  simp only [SS, Nat.reduceEqDiff, Nat.reduceAdd, iput, puts, neSelf]
  refine den_call (fc := (11, [])) (ys := [islice (seqI 1 l.length), int 1]) rfl (by simp only [SS, Nat.reduceEqDiff, Nat.reduceAdd, iput, puts, FF, frzL_cat, frzL_fu, own7.frzL]) hh ?_
  simp only [SS, Nat.reduceEqDiff, Nat.reduceAdd, iput, puts, k7, neSelf]
  exact ⟨_, rfl, hempty, (fun _ _ h => by cases h), rfl⟩
end Go.Av
