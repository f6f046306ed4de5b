/-
  The statement on PowerSlots.
-/
import Derived.Test.YtomlmcfcjlfhjaaBvC6
namespace Go.Av
set_option linter.unusedSectionVars false
set_option linter.unusedSimpArgs false
set_option linter.unusedVariables false
variable [md : Md]
open Classical
set_option linter.unusedSimpArgs false
set_option linter.unusedVariables false
variable {P : Program} {ν : Nat → FuncId}

def V_laws_FnExactPowerSlots : Vc :=
  .op true (.p .box [.t 0]) <|
  .op true (.p (.ld (some 7)) [.t 2]) <|
  .op true (.call (.f 140) [.t 3, .c (int 1048576)]) <|
  .op true (.p (.bin .lss) [.t 4, .c (int 0)]) <|
  .br 5
   (.ret [(.c (bool true), none)])
   (.op true (.p (.ld (some 7)) [.t 2]) <|
   .op true (.call (.f 142) [.t 6]) <|
   .op true (.call (.f 147) [.t 7, .t 1]) <|
   .op true (.p (.ext 0) [.t 8]) <|
   .op true (.p (.ext 1) [.t 8]) <|
   .op true (.p (.ld (some 7)) [.t 2]) <|
   .op true (.callm (.f 142) [.t 11]) <|
   .op true (.new [int 0, .nil, .nil, .nil, .nil, .nil, .nil]) <|
   .op true (.st 7 (.t 13) (.t 12)) <|
   .op true (.p (.ld (some 7)) [.t 13]) <|
   .op true (.callo (.f 148) [.t 15, .t 1]) <|
   .op true (.p (.ext 0) [.t 16]) <|
   .op true (.p (.ext 1) [.t 16]) <|
   .op true (.call (.f 20) [.t 17, .t 9]) <|
   .op true (.p .bnot [.t 19]) <|
   .br 20
    (.ret [(.c (bool false), none)])
    (.op true (.p (.bin .neq) [.t 18, .t 10]) <|
    .br 21
     (.ret [(.c (bool false), none)])
     (.op true (.p (.ld (some 7)) [.t 13]) <|
     .op true (.p (.ld (some 7)) [.t 2]) <|
     .op true (.call (.f 142) [.t 23]) <|
     .op true (.call (.f 144) [.t 22, .t 24]) <|
     .op true (.p .bnot [.t 25]) <|
     .br 26
      (.ret [(.c (bool false), none)])
      (.op true (.p (.ld (some 7)) [.t 13]) <|
      .op true (.callm (.f 149) [.t 27, .c (int 1)]) <|
      .op true (.p (.bin .lss) [.t 28, .c (int 0)]) <|
      .br 29
       (.ret [(.c (bool false), none)])
       (.op true (.call (.f 20) [.t 17, .t 9]) <|
       .op true (.p .bnot [.t 30]) <|
       .br 31
        (.ret [(.c (bool false), none)])
        (.op true (.p (.bin .neq) [.t 18, .t 10]) <|
        .br 32
         (.ret [(.c (bool false), none)])
         (.op true (.callm (.f 21) [.t 17, .c (int 1)]) <|
         .op true (.call (.f 150) [.t 17, .c (int 1)]) <|
         .op true (.p (.bin .lss) [.t 34, .c (int 0)]) <|
         .br 35
          (.ret [(.c (bool false), none)])
          (.op true (.p (.bin .neq) [.t 34, .t 33]) <|
          .br 36
           (.ret [(.c (bool false), none)])
           (.op true (.p (.ld (some 7)) [.t 2]) <|
           .op true (.call (.f 142) [.t 37]) <|
           .op true (.callo (.f 148) [.t 38, .t 1]) <|
           .op true (.p (.ext 0) [.t 39]) <|
           .op true (.p (.ext 1) [.t 39]) <|
           .op true (.call (.f 20) [.t 40, .t 9]) <|
           .op true (.p .bnot [.t 42]) <|
           .br 43
            (.ret [(.c (bool false), none)])
            (.op true (.p (.bin .neq) [.t 41, .t 10]) <|
            .br 44
             (.ret [(.c (bool false), none)])
             (.op true (.call (.f 150) [.t 17, .c (int 1)]) <|
             .op true (.p (.bin .lss) [.t 45, .c (int 0)]) <|
             .br 46
              (.ret [(.c (bool false), none)])
              (.op true (.p (.bin .neq) [.t 45, .t 33]) <|
              .br 47
               (.ret [(.c (bool false), none)])
               (.ret [(.c (bool true), none)])))))))))))))
set_option maxHeartbeats 2000000 in
theorem law_PowerSlots (L : HLaw P ν) (LF : HLawF P ν) (M : HMark P ν) (hmf : Has P ν 149 2 V_laws_markSetFunctor) (hII : Has P ν 150 2 V_laws_heldInt64SS) (h : Has P ν 59 2 V_laws_FnExactPowerSlots) (f : SF) (rd_f : ReadF f) (x : Int) (hb : SmallF f → BothQ P ν 148 147 [.agg f.cells, int x]) :
    OkM P ν 59 [.agg f.cells, int x] hempty 0 (fun r _ _ => r = bool true) := by
  refine h _ _ _ _ rfl fun hwf => ?_
  unfold V_laws_FnExactPowerSlots
  simp only [SS, Nat.reduceEqDiff, Nat.reduceAdd, iput, puts, p_boxs, p_lds7]
  refine den_call (fc := (140, [])) (ys := [.agg f.cells, int 1048576]) rfl (by simp only [SS, Nat.reduceEqDiff, Nat.reduceAdd, iput, puts, FF, frzL_cat, frzL_sf]) (szF_fz L LF.sz f rd_f) ?_
  simp only [SS, Nat.reduceEqDiff, Nat.reduceAdd, iput, puts, p_boxs, p_lds7]
  refine ⟨fun h1 => ⟨_, rfl, hempty, fun _ _ h => h, rfl⟩, fun s_f => ?_⟩
  have b_f := szF_small (f := f) (by omega)
  obtain ⟨l, k, hl, hl2, himp, hs⟩ := hb b_f
  have ht : tot l ≤ 1099511627776 := by have := tot_le hl2; have : l.length * 1048576 ≤ 1048576 * 1048576 := Nat.mul_le_mul_right _ hl; omega
  have e_f := toF_fz L LF.to f b_f
  refine den_call (fc := (142, [])) (ys := [.agg f.cells]) rfl (by simp only [SS, Nat.reduceEqDiff, Nat.reduceAdd, iput, puts, FF, frzL_cat, frzL_sf]) e_f ?_
  simp only [SS, Nat.reduceEqDiff, Nat.reduceAdd, iput, puts, p_boxs, p_lds7]
  refine den_calli (fc := (147, [])) (ys := [.agg f.cells, int x]) rfl (by simp only [SS, Nat.reduceEqDiff, Nat.reduceAdd, iput, puts, FF, frzL_cat, frzL_sf]) hs ?_
  simp only [SS, Nat.reduceEqDiff, Nat.reduceAdd, iput, puts, p_boxs, p_lds7]
  refine den_callm (fc := (142, [])) rfl (toF_ok L LF.to f b_f _ _) (IsMkF.some L _ _ _) fun u H1 x1 hu => ?_
  obtain ⟨n0, n0a, rfl, at_f, n0b, e⟩ := hu
  refine den_newR fun H2 bx_f e => ?_
  have at_f := at_f.mono (fun o h1 h2 => e o (by omega))
  refine den_stR (o := x1) (m := 7) (d := sfM f n0) rfl rfl bx_f rfl rfl rfl fun H3 bx_f e => ?_
  have at_f := at_f.mono (fun o h1 h2 => e o (by omega))
  simp only [SS, Nat.reduceEqDiff, Nat.reduceAdd, iput, puts, p_boxs, p_lds7]
  simp only [SS, Nat.reduceEqDiff, Nat.reduceAdd, iput, puts, p_boxs, p_lds7, p_ldsm (l := 7) bx_f rfl]
  refine den_callo (fc := (148, [])) (ys := [.agg f.cells, int x]) rfl (by simp only [SS, Nat.reduceEqDiff, Nat.reduceAdd, iput, puts, FF, frzL_cat, frzL_sf, frzL_of at_f.frzN]) (himp _) (IsQ.some _ _ _) fun u H' nx' hu => ?_
  obtain ⟨q1, q2, q3, r0, rfl, own⟩ := hu.own H3
  refine ⟨q1, q2, ?_⟩
  have e : ∀ o, o < (x1 + 1) → hmerge (x1 + 1) H3 H' o = H3 o := fun o ho => hmerge_lo ho
  have at_f := at_f.mono (fun o h1 h2 => e o (by omega))
  have bx_f := (e _ (by omega)).trans bx_f
  generalize hmerge (x1 + 1) H3 H' = H4 at at_f bx_f own
  clear hu q1 q2 e
  simp only [SS, Nat.reduceEqDiff, Nat.reduceAdd, iput, puts]
  refine den_call (fc := (20, [])) (ys := [.sl (rows l) l.length, .sl (rows l) l.length]) rfl (by simp only [SS, Nat.reduceEqDiff, Nat.reduceAdd, iput, puts, FF, frzL_cat, frzL_sf, own.frzL]) (eqII_same L.eqI L.eqII l hl hl2) ?_
  simp only [SS, Nat.reduceEqDiff, Nat.reduceAdd, iput, puts, neSelf, p_boxs, p_lds7, p_ldsm (l := 7) bx_f rfl]
  refine den_call (fc := (142, [])) (ys := [.agg f.cells]) rfl (by simp only [SS, Nat.reduceEqDiff, Nat.reduceAdd, iput, puts, FF, frzL_cat, frzL_sf]) e_f ?_
  simp only [SS, Nat.reduceEqDiff, Nat.reduceAdd, iput, puts, p_boxs, p_lds7]
  refine den_call (fc := (144, [])) (ys := [.agg f.cells, .agg f.cells]) rfl (by simp only [SS, Nat.reduceEqDiff, Nat.reduceAdd, iput, puts, FF, frzL_cat, frzL_sf, frzL_of at_f.frzN]) (eqF_same L LF.eq f b_f) ?_
  simp only [SS, Nat.reduceEqDiff, Nat.reduceAdd, iput, puts, neSelf, p_boxs, p_lds7, p_ldsm (l := 7) bx_f rfl]
  refine den_callm (fc := (149, [])) rfl (markF_ok M.mI M.mII M.mC hmf f b_f n0 _ _ _ at_f (by omega) (by omega) (by omega)) ⟨int 0, _, _, 0, rfl, by omega, by omega, Nat.le_refl _, fun _ _ _ => rfl⟩ fun u H5 x5 hu => ?_
  obtain ⟨k0, rfl, k0a, k0b, ne_f, e0⟩ := hu
  have bx_f := (e0 _ (by omega) (by omega)).trans bx_f
  have own := own.mono (Nat.le_refl _) (fun o h1 h2 => e0 o (by omega) (by omega))
  simp only [SS, Nat.reduceEqDiff, Nat.reduceAdd, iput, puts, p_ldsm (l := 7) bx_f rfl]
  have k9 : ¬ k0 < 0 := by omega
  simp only [SS, Nat.reduceEqDiff, Nat.reduceAdd, iput, puts, k9, p_ldsm (l := 7) bx_f rfl]
  refine den_call (fc := (20, [])) (ys := [.sl (rows l) l.length, .sl (rows l) l.length]) rfl (by simp only [SS, Nat.reduceEqDiff, Nat.reduceAdd, iput, puts, FF, frzL_cat, frzL_sf, own.frzL]) (eqII_same L.eqI L.eqII l hl hl2) ?_
  simp only [SS, Nat.reduceEqDiff, Nat.reduceAdd, iput, puts, neSelf, p_ldsm (l := 7) bx_f rfl]
  refine den_callm (fc := (21, [])) rfl (markII_own M.mI M.mII l 1 r0 _ _ _ _ own (by omega) (by omega) hl hl2 (by omega)) (own.marked 1 _) fun u H6 x6 hu => ?_
  obtain ⟨rfl, rfl, own5, q6⟩ := hu
  have hh := (heldII_ok M.hI hII l 1 (by omega) (by omega) hl hl2 (by omega)).fzi
  refine den_call (fc := (150, [])) (ys := [.sl (rows (seqR 1 l)) l.length, int 1]) rfl (by simp only [SS, Nat.reduceEqDiff, Nat.reduceAdd, iput, puts, FF, frzL_cat, frzL_sf, own5.frzL, seqR_len]) hh ?_
  have k7 : ¬ (1 + (tot l : Int)) < 0 := by omega
  simp only [SS, Nat.reduceEqDiff, Nat.reduceAdd, iput, puts, k7, neSelf, p_boxs, p_lds7]
  refine den_call (fc := (142, [])) (ys := [.agg f.cells]) rfl (by simp only [SS, Nat.reduceEqDiff, Nat.reduceAdd, iput, puts, FF, frzL_cat, frzL_sf]) e_f ?_
  simp only [SS, Nat.reduceEqDiff, Nat.reduceAdd, iput, puts, p_boxs, p_lds7]
  refine den_callo (fc := (148, [])) (ys := [.agg f.cells, int x]) rfl (by simp only [SS, Nat.reduceEqDiff, Nat.reduceAdd, iput, puts, FF, frzL_cat, frzL_sf]) (himp _) (IsQ.some _ _ _) fun u H' nx' hu => ?_
  obtain ⟨q1, q2, q3, r1, rfl, own6⟩ := hu.own H6
  refine ⟨q1, q2, ?_⟩
  have e : ∀ o, o < x6 → hmerge x6 H6 H' o = H6 o := fun o ho => hmerge_lo ho
  have own7 := own5.mono (Nat.le_refl _) (fun o _ h3 => e o (by omega))
  simp only [SS, Nat.reduceEqDiff, Nat.reduceAdd, iput, puts]
  refine den_call (fc := (20, [])) (ys := [.sl (rows l) l.length, .sl (rows l) l.length]) rfl (by simp only [SS, Nat.reduceEqDiff, Nat.reduceAdd, iput, puts, FF, frzL_cat, frzL_sf, own6.frzL]) (eqII_same L.eqI L.eqII l hl hl2) ?_
  simp only [SS, Nat.reduceEqDiff, Nat.reduceAdd, iput, puts, neSelf, p_ldsm (l := 7) bx_f rfl]
  refine den_call (fc := (150, [])) (ys := [.sl (rows (seqR 1 l)) l.length, int 1]) rfl (by simp only [SS, Nat.reduceEqDiff, Nat.reduceAdd, iput, puts, FF, frzL_cat, frzL_sf, own7.frzL, seqR_len]) hh ?_
  simp only [SS, Nat.reduceEqDiff, Nat.reduceAdd, iput, puts, k7, neSelf]
  exact ⟨_, rfl, hempty, (fun _ _ h => by cases h), rfl⟩
end Go.Av
