/-
  The statement on OrderMonoidal.
-/
import Derived.Test.YtbalggpkmaabmaaAvW0
namespace Go.Av
open Classical
set_option linter.unusedSimpArgs false
set_option linter.unusedVariables false
variable {P : Program} {ν : Nat → FuncId}

def V_laws_FnExactOrderMonoidal : Vc :=
  .op true (.call (.f 13) [.t 0, .c (int 1048576)]) <|
  .op true (.p (.bin .lss) [.t 2, .c (int 0)]) <|
  .br 3
   (.ret [(.c (bool true), none)])
   (.op true (.call (.f 13) [.t 1, .t 2]) <|
   .op true (.p (.bin .lss) [.t 4, .c (int 0)]) <|
   .br 5
    (.ret [(.c (bool true), none)])
    (.op true (.call (.f 17) [.t 0]) <|
    .op true (.call (.f 17) [.t 1]) <|
    .op true (.call (.f 217) [.t 6, .t 7]) <|
    .op true (.p (.ext 0) [.t 8]) <|
    .op true (.p (.ext 1) [.t 8]) <|
    .op true (.new [int 0, .nil, .nil, .nil, .nil, int 0, .nil, .nil]) <|
    .op true (.st 8 (.t 11) (.t 9)) <|
    .op true (.callm (.f 17) [.t 0]) <|
    .op true (.callm (.f 17) [.t 1]) <|
    .op true (.callo (.f 218) [.t 13, .t 14]) <|
    .op true (.p (.ext 0) [.t 15]) <|
    .op true (.p (.ext 1) [.t 15]) <|
    .op true (.new [int 0, .nil, .nil, .nil, .nil, int 0, .nil, .nil]) <|
    .op true (.st 8 (.t 18) (.t 16)) <|
    .op true (.p (.ld (some 8)) [.t 18]) <|
    .op true (.p (.ld (some 8)) [.t 11]) <|
    .op true (.call (.f 219) [.t 20, .t 21]) <|
    .op true (.p .bnot [.t 22]) <|
    .br 23
     (.ret [(.c (bool false), none)])
     (.op true (.p (.bin .neq) [.t 17, .t 10]) <|
     .br 24
      (.ret [(.c (bool false), none)])
      (.op true (.call (.f 17) [.t 0]) <|
      .op true (.call (.f 20) [.t 13, .t 25]) <|
      .op true (.p .bnot [.t 26]) <|
      .br 27
       (.ret [(.c (bool false), none)])
       (.op true (.call (.f 17) [.t 1]) <|
       .op true (.call (.f 20) [.t 14, .t 28]) <|
       .op true (.p .bnot [.t 29]) <|
       .br 30
        (.ret [(.c (bool false), none)])
        (.op true (.callm (.f 21) [.t 13, .c (int 1)]) <|
        .op true (.callm (.f 21) [.t 14, .t 31]) <|
        .op true (.p (.bin .lss) [.t 32, .c (int 0)]) <|
        .br 33
         (.ret [(.c (bool false), none)])
         (.op true (.p (.ld (some 8)) [.t 18]) <|
         .op true (.p (.ld (some 8)) [.t 11]) <|
         .op true (.call (.f 219) [.t 34, .t 35]) <|
         .op true (.p .bnot [.t 36]) <|
         .br 37
          (.ret [(.c (bool false), none)])
          (.op true (.p (.bin .neq) [.t 17, .t 10]) <|
          .br 38
           (.ret [(.c (bool false), none)])
           (.op true (.p (.ld (some 8)) [.t 18]) <|
           .op true (.callm (.f 220) [.t 39, .c (int 1)]) <|
           .op true (.p (.ld (some 8)) [.t 18]) <|
           .op true (.call (.f 221) [.t 41, .c (int 1)]) <|
           .op true (.p (.bin .lss) [.t 42, .c (int 0)]) <|
           .br 43
            (.ret [(.c (bool false), none)])
            (.op true (.p (.bin .neq) [.t 42, .t 40]) <|
            .br 44
             (.ret [(.c (bool false), none)])
             (.op true (.call (.f 17) [.t 0]) <|
             .op true (.call (.f 17) [.t 1]) <|
             .op true (.callo (.f 218) [.t 45, .t 46]) <|
             .op true (.p (.ext 0) [.t 47]) <|
             .op true (.p (.ext 1) [.t 47]) <|
             .op true (.new [int 0, .nil, .nil, .nil, .nil, int 0, .nil, .nil]) <|
             .op true (.st 8 (.t 50) (.t 48)) <|
             .op true (.p (.ld (some 8)) [.t 50]) <|
             .op true (.p (.ld (some 8)) [.t 11]) <|
             .op true (.call (.f 219) [.t 52, .t 53]) <|
             .op true (.p .bnot [.t 54]) <|
             .br 55
              (.ret [(.c (bool false), none)])
              (.op true (.p (.bin .neq) [.t 49, .t 10]) <|
              .br 56
               (.ret [(.c (bool false), none)])
               (.op true (.p (.ld (some 8)) [.t 18]) <|
               .op true (.call (.f 221) [.t 57, .c (int 1)]) <|
               .op true (.p (.bin .lss) [.t 58, .c (int 0)]) <|
               .br 59
                (.ret [(.c (bool false), none)])
                (.op true (.p (.bin .neq) [.t 58, .t 40]) <|
                .br 60
                 (.ret [(.c (bool false), none)])
                 (.ret [(.c (bool true), none)])))))))))))))))
set_option maxHeartbeats 2000000 in
theorem law_OrderMonoidal (L : HLaw P ν) (M : HMark P ν) (hII : Has P ν 150 2 V_laws_heldInt64SS) (hK : Has P ν 111 2 V_laws_heldCategory) (hqm : Has P ν 219 2 V_laws_eqMonoidal) (hmm : Has P ν 220 2 V_laws_markMonoidal) (hM : Has P ν 221 2 V_laws_heldMonoidal) (h : Has P ν 91 2 V_laws_FnExactOrderMonoidal) (r : List (List Int)) (rd_r : ReadII r) (t : List (List Int)) (rd_t : ReadII t) (hb : SmallII r → tot r ≤ 1048576 → SmallII t → tot t ≤ 1048576 → BothM P ν 218 217 [.sl (rows r) r.length, .sl (rows t) t.length]) :
    OkM P ν 91 [.sl (rows r) r.length, .sl (rows t) t.length] hempty 0 (fun r _ _ => r = bool true) := by
  refine h _ _ _ _ rfl fun hwf => ?_
  unfold V_laws_FnExactOrderMonoidal
  try simp only [SS, Nat.reduceEqDiff, Nat.reduceAdd, iput, puts, p_boxc, p_ldc]
  refine den_call (fc := (13, [])) (ys := [.sl (rows r) r.length, int 1048576]) rfl (by simp only [SS, Nat.reduceEqDiff, Nat.reduceAdd, iput, puts, FF, frzL_cat, frzL_mon]) (szII_ok L.szI L.szII r 1048576 (by omega) (by omega) rd_r.len rd_r.row).fzi ?_
  try simp only [SS, Nat.reduceEqDiff, Nat.reduceAdd, iput, puts, p_boxc, p_ldc]
  refine ⟨fun h1 => ⟨_, rfl, hempty, fun _ _ h => h, rfl⟩, fun s_r => ?_⟩
  have q_r := szSS_pos (m := r) (left := 1048576) (by omega) (by omega)
  have c_r := q_r.2.1
  have b_r : SmallII r := ⟨by have := q_r.1; omega, fun k hk => by have := q_r.2.2 k hk; omega⟩
  have z_r : tot r ≤ 1048576 := by have := szSS_tot (m := r) (left := 1048576) (by omega) (by omega); omega
  refine den_call (fc := (13, [])) (ys := [.sl (rows t) t.length, int (szSS r 1048576)]) rfl (by simp only [SS, Nat.reduceEqDiff, Nat.reduceAdd, iput, puts, FF, frzL_cat, frzL_mon]) (szII_ok L.szI L.szII t (szSS r 1048576) (by omega) (by omega) rd_t.len rd_t.row).fzi ?_
  try simp only [SS, Nat.reduceEqDiff, Nat.reduceAdd, iput, puts, p_boxc, p_ldc]
  refine ⟨fun h1 => ⟨_, rfl, hempty, fun _ _ h => h, rfl⟩, fun s_t => ?_⟩
  have q_t := szSS_pos (m := t) (left := (szSS r 1048576)) (by omega) (by omega)
  have c_t := q_t.2.1
  have b_t : SmallII t := ⟨by have := q_t.1; omega, fun k hk => by have := q_t.2.2 k hk; omega⟩
  have z_t : tot t ≤ 1048576 := by have := szSS_tot (m := t) (left := (szSS r 1048576)) (by omega) (by omega); omega
  obtain ⟨l, k, hl, himp, hs⟩ := hb b_r z_r b_t z_t
  have ht := totM_le hl
  have e_r := toII_fz L r b_r.len b_r.row
  have e_t := toII_fz L t b_t.len b_t.row
  refine den_call (fc := (17, [])) (ys := [.sl (rows r) r.length]) rfl (by simp only [SS, Nat.reduceEqDiff, Nat.reduceAdd, iput, puts, FF, frzL_cat, frzL_mon]) e_r ?_
  try simp only [SS, Nat.reduceEqDiff, Nat.reduceAdd, iput, puts, p_boxc, p_ldc]
  refine den_call (fc := (17, [])) (ys := [.sl (rows t) t.length]) rfl (by simp only [SS, Nat.reduceEqDiff, Nat.reduceAdd, iput, puts, FF, frzL_cat, frzL_mon]) e_t ?_
  try simp only [SS, Nat.reduceEqDiff, Nat.reduceAdd, iput, puts, p_boxc, p_ldc]
  refine den_calli (fc := (217, [])) (ys := [.sl (rows r) r.length, .sl (rows t) t.length]) rfl (by simp only [SS, Nat.reduceEqDiff, Nat.reduceAdd, iput, puts, FF, frzL_cat, frzL_mon]) hs ?_
  try simp only [SS, Nat.reduceEqDiff, Nat.reduceAdd, iput, puts, p_boxc, p_ldc]
  refine den_newR fun H1 bw e => ?_
  refine den_stR (o := 0) (m := 8) (d := l.cells) rfl rfl bw rfl rfl rfl fun H2 bw e => ?_
  try simp only [SS, Nat.reduceEqDiff, Nat.reduceAdd, iput, puts, p_boxc, p_ldc]
  refine den_callm (fc := (17, [])) rfl (toII_R L r b_r.len b_r.row _ _) (toII_Rs _ _ _) fun u H3 x3 hu => ?_
  obtain ⟨rfl, ow_r, e⟩ := hu
  have bw := (e _ (by omega)).trans bw
  try simp only [SS, Nat.reduceEqDiff, Nat.reduceAdd, iput, puts, p_boxc, p_ldc]
  refine den_callm (fc := (17, [])) rfl (toII_R L t b_t.len b_t.row _ _) (toII_Rs _ _ _) fun u H4 x4 hu => ?_
  obtain ⟨rfl, ow_t, e⟩ := hu
  have bw := (e _ (by omega)).trans bw
  have ow_r := ow_r.mono (Nat.le_refl _) (fun o h1 h2 => e o (by omega))
  try simp only [SS, Nat.reduceEqDiff, Nat.reduceAdd, iput, puts, p_boxc, p_ldc]
  try simp only [SS, Nat.reduceEqDiff, Nat.reduceAdd, iput, puts, p_boxc, p_ldc]
  refine den_callo (fc := (218, [])) (ys := [.sl (rows r) r.length, .sl (rows t) t.length]) rfl (by simp only [SS, Nat.reduceEqDiff, Nat.reduceAdd, iput, puts, FF, frzL_cat, frzL_mon, ow_r.frzL, ow_t.frzL]) (himp _) (IsM.some _ _ _) fun u H' nx' hu => ?_
  obtain ⟨q1, q2, q3, r0, rfl, own⟩ := hu.own H4
  refine ⟨q1, q2, ?_⟩
  have e : ∀ o, o < (((0 + 1) + 1 + r.length) + 1 + t.length) → hmerge (((0 + 1) + 1 + r.length) + 1 + t.length) H4 H' o = H4 o := fun o ho => hmerge_lo ho
  have bw := (e _ (by omega)).trans bw
  have ow_r := ow_r.mono (Nat.le_refl _) (fun o h1 h2 => e o (by omega))
  have ow_t := ow_t.mono (Nat.le_refl _) (fun o h1 h2 => e o (by omega))
  generalize hmerge (((0 + 1) + 1 + r.length) + 1 + t.length) H4 H' = H5 at bw ow_r ow_t own
  clear hu q1 q2 e
  try simp only [SS, Nat.reduceEqDiff, Nat.reduceAdd, iput, puts]
  obtain ⟨ga, gb, gd, ge, gg, gh, rfl, ownC⟩ := own
  have own : OwnM l (.agg [int l.on.o, ga, gb, gd, ge, int l.u, gg, gh]) _ _ _ := ⟨ga, gb, gd, ge, gg, gh, rfl, ownC⟩
  clear ownC
  refine den_newR fun H6 bg e => ?_
  have bw := (e _ (by omega)).trans bw
  have ow_r := ow_r.mono (Nat.le_refl _) (fun o h1 h2 => e o (by omega))
  have ow_t := ow_t.mono (Nat.le_refl _) (fun o h1 h2 => e o (by omega))
  have own := own.mono (Nat.le_refl _) (fun o h1 h2 => e o (by omega))
  refine den_stR (m := 8) (d := [int l.on.o, ga, gb, gd, ge, int l.u, gg, gh]) rfl rfl bg rfl rfl own.one8 fun H7 bg e => ?_
  have bw := (e _ (by omega)).trans bw
  have ow_r := ow_r.mono (Nat.le_refl _) (fun o h1 h2 => e o (by omega))
  have ow_t := ow_t.mono (Nat.le_refl _) (fun o h1 h2 => e o (by omega))
  have own := own.mono (Nat.le_refl _) (fun o h1 h2 => e o (by omega))
  try simp only [SS, Nat.reduceEqDiff, Nat.reduceAdd, iput, puts, p_boxc, p_ldc, p_ldsm (l := 8) bw rfl, p_ldsm (l := 8) bg rfl]
  refine den_call (fc := (219, [])) (ys := [.agg l.cells, .agg l.cells]) rfl (by simp only [SS, Nat.reduceEqDiff, Nat.reduceAdd, iput, puts, FF, frzL_cat, frzL_mon, own.frzL]) (eqMon_same L hqm l hl) ?_
  try simp only [SS, Nat.reduceEqDiff, Nat.reduceAdd, iput, puts, neSelf, p_boxc, p_ldc, p_ldsm (l := 8) bw rfl, p_ldsm (l := 8) bg rfl]
  refine den_call (fc := (17, [])) (ys := [.sl (rows r) r.length]) rfl (by simp only [SS, Nat.reduceEqDiff, Nat.reduceAdd, iput, puts, FF, frzL_cat, frzL_mon]) e_r ?_
  try simp only [SS, Nat.reduceEqDiff, Nat.reduceAdd, iput, puts, p_boxc, p_ldc]
  refine den_call (fc := (20, [])) (ys := [.sl (rows r) r.length, .sl (rows r) r.length]) rfl (by simp only [SS, Nat.reduceEqDiff, Nat.reduceAdd, iput, puts, FF, frzL_cat, frzL_mon, ow_r.frzL]) (eqII_same L.eqI L.eqII r b_r.len b_r.row) ?_
  try simp only [SS, Nat.reduceEqDiff, Nat.reduceAdd, iput, puts, neSelf, p_boxc, p_ldc, p_ldsm (l := 8) bw rfl, p_ldsm (l := 8) bg rfl]
  refine den_call (fc := (17, [])) (ys := [.sl (rows t) t.length]) rfl (by simp only [SS, Nat.reduceEqDiff, Nat.reduceAdd, iput, puts, FF, frzL_cat, frzL_mon]) e_t ?_
  try simp only [SS, Nat.reduceEqDiff, Nat.reduceAdd, iput, puts, p_boxc, p_ldc]
  refine den_call (fc := (20, [])) (ys := [.sl (rows t) t.length, .sl (rows t) t.length]) rfl (by simp only [SS, Nat.reduceEqDiff, Nat.reduceAdd, iput, puts, FF, frzL_cat, frzL_mon, ow_t.frzL]) (eqII_same L.eqI L.eqII t b_t.len b_t.row) ?_
  try simp only [SS, Nat.reduceEqDiff, Nat.reduceAdd, iput, puts, neSelf, p_boxc, p_ldc, p_ldsm (l := 8) bw rfl, p_ldsm (l := 8) bg rfl]
  have tt_r : tot r ≤ 1099511627776 := by have := tot_le b_r.row; have : r.length * 1048576 ≤ 1048576 * 1048576 := Nat.mul_le_mul_right _ b_r.len; omega
  refine den_callm (fc := (21, [])) rfl (markII_own M.mI M.mII r _ _ _ _ _ _ ow_r (by omega) (by omega) b_r.len b_r.row tt_r) (ow_r.marked _ _) fun u H8 x8 hu => ?_
  obtain ⟨rfl, rfl, _, e0⟩ := hu
  have bw := (e0 _ (by omega)).trans bw
  have ow_t := ow_t.mono (Nat.le_refl _) (fun o h1 h2 => e0 o (by omega))
  have bg := (e0 _ (by omega)).trans bg
  have own := own.mono (Nat.le_refl _) (fun o h1 h2 => e0 o (by omega))
  try simp only [SS, Nat.reduceEqDiff, Nat.reduceAdd, iput, puts, p_ldsm (l := 8) bw rfl, p_ldsm (l := 8) bg rfl]
  have tt_t : tot t ≤ 1099511627776 := by have := tot_le b_t.row; have : t.length * 1048576 ≤ 1048576 * 1048576 := Nat.mul_le_mul_right _ b_t.len; omega
  refine den_callm (fc := (21, [])) rfl (markII_own M.mI M.mII t _ _ _ _ _ _ ow_t (by omega) (by omega) b_t.len b_t.row tt_t) (ow_t.marked _ _) fun u H9 x9 hu => ?_
  obtain ⟨rfl, rfl, _, e0⟩ := hu
  have bw := (e0 _ (by omega)).trans bw
  have bg := (e0 _ (by omega)).trans bg
  have own := own.mono (Nat.le_refl _) (fun o h1 h2 => e0 o (by omega))
  try simp only [SS, Nat.reduceEqDiff, Nat.reduceAdd, iput, puts, p_ldsm (l := 8) bw rfl, p_ldsm (l := 8) bg rfl]
  have k9 : ¬ 1 + (tot r : Int) + (tot t : Int) < 0 := by omega
  try simp only [SS, Nat.reduceEqDiff, Nat.reduceAdd, iput, puts, k9, p_ldsm (l := 8) bw rfl, p_ldsm (l := 8) bg rfl]
  refine den_call (fc := (219, [])) (ys := [.agg l.cells, .agg l.cells]) rfl (by simp only [SS, Nat.reduceEqDiff, Nat.reduceAdd, iput, puts, FF, frzL_cat, frzL_mon, own.frzL]) (eqMon_same L hqm l hl) ?_
  try simp only [SS, Nat.reduceEqDiff, Nat.reduceAdd, iput, puts, neSelf, p_ldsm (l := 8) bw rfl, p_ldsm (l := 8) bg rfl]
  refine den_callm (fc := (220, [])) rfl (markM_own M hmm l hl 1 (.agg [int l.on.o, ga, gb, gd, ge, int l.u, gg, gh]) _ _ _ _ own (by omega) (by omega) (by omega) (by omega)) (own.marked 1 _) fun u H10 x10 hu => ?_
  obtain ⟨rfl, le5, own5, q6⟩ := hu
  have hh := (heldM_ok M.hI hII hK hM l hl 1 (by omega) (by omega)).fzi
  have bw := (q6 _ (by omega) (by omega)).trans bw
  have bg := (q6 _ (by omega) (by omega)).trans bg
  try simp only [SS, Nat.reduceEqDiff, Nat.reduceAdd, iput, puts, p_ldsm (l := 8) bw rfl, p_ldsm (l := 8) bg rfl]
  refine den_call (fc := (221, [])) (ys := [.agg (seqM 1 l).cells, int 1]) rfl (by simp only [SS, Nat.reduceEqDiff, Nat.reduceAdd, iput, puts, FF, frzL_cat, frzL_mon, own5.frzL]) hh ?_
  have k7 : ¬ (1 + (totM l : Int)) < 0 := by omega
  try simp only [SS, Nat.reduceEqDiff, Nat.reduceAdd, iput, puts, k7, neSelf, p_boxc, p_ldc]
  refine den_call (fc := (17, [])) (ys := [.sl (rows r) r.length]) rfl (by simp only [SS, Nat.reduceEqDiff, Nat.reduceAdd, iput, puts, FF, frzL_cat, frzL_mon]) e_r ?_
  try simp only [SS, Nat.reduceEqDiff, Nat.reduceAdd, iput, puts, p_boxc, p_ldc]
  refine den_call (fc := (17, [])) (ys := [.sl (rows t) t.length]) rfl (by simp only [SS, Nat.reduceEqDiff, Nat.reduceAdd, iput, puts, FF, frzL_cat, frzL_mon]) e_t ?_
  try simp only [SS, Nat.reduceEqDiff, Nat.reduceAdd, iput, puts, p_boxc, p_ldc]
  refine den_callo (fc := (218, [])) (ys := [.sl (rows r) r.length, .sl (rows t) t.length]) rfl (by simp only [SS, Nat.reduceEqDiff, Nat.reduceAdd, iput, puts, FF, frzL_cat, frzL_mon]) (himp _) (IsM.some _ _ _) fun u H' nx' hu => ?_
  obtain ⟨q1, q2, q3, r1, rfl, own6⟩ := hu.own H10
  refine ⟨q1, q2, ?_⟩
  have e : ∀ o, o < x10 → hmerge x10 H10 H' o = H10 o := fun o ho => hmerge_lo ho
  have own7 := own5.mono (Nat.le_refl _) (fun o _ h3 => e o (by omega))
  try simp only [SS, Nat.reduceEqDiff, Nat.reduceAdd, iput, puts]
  have bw := (e _ (by omega)).trans bw
  have bg := (e _ (by omega)).trans bg
  generalize hmerge x10 H10 H' = H11 at own6 own7 bw bg
  clear e hu q1 q2
  obtain ⟨ha, hb2, hd, he, hg, hh2, rfl, ownC⟩ := own6
  have own6 : OwnM l (.agg [int l.on.o, ha, hb2, hd, he, int l.u, hg, hh2]) _ _ _ := ⟨ha, hb2, hd, he, hg, hh2, rfl, ownC⟩
  clear ownC
  refine den_newR fun H12 bh e => ?_
  have bw := (e _ (by omega)).trans bw
  have bg := (e _ (by omega)).trans bg
  have own6 := own6.mono (Nat.le_refl _) (fun o h1 h2 => e o (by omega))
  have own7 := own7.mono (Nat.le_refl _) (fun o h1 h2 => e o (by omega))
  refine den_stR (m := 8) (d := [int l.on.o, ha, hb2, hd, he, int l.u, hg, hh2]) rfl rfl bh rfl rfl own6.one8 fun H13 bh e => ?_
  have bw := (e _ (by omega)).trans bw
  have bg := (e _ (by omega)).trans bg
  have own6 := own6.mono (Nat.le_refl _) (fun o h1 h2 => e o (by omega))
  have own7 := own7.mono (Nat.le_refl _) (fun o h1 h2 => e o (by omega))
  try simp only [SS, Nat.reduceEqDiff, Nat.reduceAdd, iput, puts, p_boxc, p_ldc, p_ldsm (l := 8) bw rfl, p_ldsm (l := 8) bg rfl, p_ldsm (l := 8) bh rfl]
  refine den_call (fc := (219, [])) (ys := [.agg l.cells, .agg l.cells]) rfl (by simp only [SS, Nat.reduceEqDiff, Nat.reduceAdd, iput, puts, FF, frzL_cat, frzL_mon, own6.frzL]) (eqMon_same L hqm l hl) ?_
  try simp only [SS, Nat.reduceEqDiff, Nat.reduceAdd, iput, puts, neSelf, p_ldsm (l := 8) bw rfl, p_ldsm (l := 8) bg rfl, p_ldsm (l := 8) bh rfl]
  refine den_call (fc := (221, [])) (ys := [.agg (seqM 1 l).cells, int 1]) rfl (by simp only [SS, Nat.reduceEqDiff, Nat.reduceAdd, iput, puts, FF, frzL_cat, frzL_mon, own7.frzL]) hh ?_
  try simp only [SS, Nat.reduceEqDiff, Nat.reduceAdd, iput, puts, k7, neSelf]
  exact ⟨_, rfl, hempty, (fun _ _ h => by cases h), rfl⟩
end Go.Av
