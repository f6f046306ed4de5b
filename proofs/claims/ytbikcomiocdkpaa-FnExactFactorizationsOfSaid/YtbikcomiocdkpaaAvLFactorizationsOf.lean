/-
  The statement on FactorizationsOf.
-/
import Derived.Test.YtbikcomiocdkpaaAvR2
namespace Go.Av
open Classical
set_option linter.unusedSimpArgs false
set_option linter.unusedVariables false
variable {P : Program} {ν : Nat → FuncId}

def V_laws_FnExactFactorizationsOf : Vc :=
  .op true (.p .box [.t 0]) <|
  .op true (.p .len [.t 1]) <|
  .op true (.p (.bin .gtr) [.t 5, .c (int 1048576)]) <|
  .br 6
   (.ret [(.c (bool true), none)])
   (.op true (.p .len [.t 2]) <|
   .op true (.p (.bin .gtr) [.t 7, .c (int 1048576)]) <|
   .br 8
    (.ret [(.c (bool true), none)])
    (.op true (.p (.ld (some 5)) [.t 4]) <|
    .op true (.call (.f 3) [.t 9, .c (int 1048576)]) <|
    .op true (.p (.bin .lss) [.t 10, .c (int 0)]) <|
    .br 11
     (.ret [(.c (bool true), none)])
     (.op true (.p (.ld (some 5)) [.t 4]) <|
     .op true (.call (.f 5) [.t 12]) <|
     .op true (.call (.f 16) [.t 1]) <|
     .op true (.call (.f 16) [.t 2]) <|
     .op true (.call (.f 155) [.t 13, .t 14, .t 15, .t 3]) <|
     .op true (.p (.ext 0) [.t 16]) <|
     .op true (.p (.ext 1) [.t 16]) <|
     .op true (.p (.ld (some 5)) [.t 4]) <|
     .op true (.callm (.f 5) [.t 19]) <|
     .op true (.new [int 0, .nil, .nil, .nil, .nil]) <|
     .op true (.st 5 (.t 21) (.t 20)) <|
     .op true (.callm (.f 16) [.t 1]) <|
     .op true (.callm (.f 16) [.t 2]) <|
     .op true (.p (.ld (some 5)) [.t 21]) <|
     .op true (.callo (.f 156) [.t 25, .t 23, .t 24, .t 3]) <|
     .op true (.p (.ext 0) [.t 26]) <|
     .op true (.p (.ext 1) [.t 26]) <|
     .op true (.call (.f 20) [.t 27, .t 17]) <|
     .op true (.p .bnot [.t 29]) <|
     .br 30
      (.ret [(.c (bool false), none)])
      (.op true (.p (.bin .neq) [.t 28, .t 18]) <|
      .br 31
       (.ret [(.c (bool false), none)])
       (.op true (.p (.ld (some 5)) [.t 21]) <|
       .op true (.p (.ld (some 5)) [.t 4]) <|
       .op true (.call (.f 5) [.t 33]) <|
       .op true (.call (.f 8) [.t 32, .t 34]) <|
       .op true (.p .bnot [.t 35]) <|
       .br 36
        (.ret [(.c (bool false), none)])
        (.op true (.call (.f 16) [.t 1]) <|
        .op true (.call (.f 7) [.t 23, .t 37]) <|
        .op true (.p .bnot [.t 38]) <|
        .br 39
         (.ret [(.c (bool false), none)])
         (.op true (.call (.f 16) [.t 2]) <|
         .op true (.call (.f 7) [.t 24, .t 40]) <|
         .op true (.p .bnot [.t 41]) <|
         .br 42
          (.ret [(.c (bool false), none)])
          (.op true (.p (.ld (some 5)) [.t 21]) <|
          .op true (.callm (.f 9) [.t 43, .c (int 1)]) <|
          .op true (.callm (.f 10) [.t 23, .t 44]) <|
          .op true (.callm (.f 10) [.t 24, .t 45]) <|
          .op true (.p (.bin .lss) [.t 46, .c (int 0)]) <|
          .br 47
           (.ret [(.c (bool false), none)])
           (.op true (.call (.f 20) [.t 27, .t 17]) <|
           .op true (.p .bnot [.t 48]) <|
           .br 49
            (.ret [(.c (bool false), none)])
            (.op true (.p (.bin .neq) [.t 28, .t 18]) <|
            .br 50
             (.ret [(.c (bool false), none)])
             (.op true (.callm (.f 21) [.t 27, .c (int 1)]) <|
             .op true (.call (.f 150) [.t 27, .c (int 1)]) <|
             .op true (.p (.bin .lss) [.t 52, .c (int 0)]) <|
             .br 53
              (.ret [(.c (bool false), none)])
              (.op true (.p (.bin .neq) [.t 52, .t 51]) <|
              .br 54
               (.ret [(.c (bool false), none)])
               (.op true (.p (.ld (some 5)) [.t 4]) <|
               .op true (.call (.f 5) [.t 55]) <|
               .op true (.call (.f 16) [.t 1]) <|
               .op true (.call (.f 16) [.t 2]) <|
               .op true (.callo (.f 156) [.t 56, .t 57, .t 58, .t 3]) <|
               .op true (.p (.ext 0) [.t 59]) <|
               .op true (.p (.ext 1) [.t 59]) <|
               .op true (.call (.f 20) [.t 60, .t 17]) <|
               .op true (.p .bnot [.t 62]) <|
               .br 63
                (.ret [(.c (bool false), none)])
                (.op true (.p (.bin .neq) [.t 61, .t 18]) <|
                .br 64
                 (.ret [(.c (bool false), none)])
                 (.op true (.call (.f 150) [.t 27, .c (int 1)]) <|
                 .op true (.p (.bin .lss) [.t 65, .c (int 0)]) <|
                 .br 66
                  (.ret [(.c (bool false), none)])
                  (.op true (.p (.bin .neq) [.t 65, .t 51]) <|
                  .br 67
                   (.ret [(.c (bool false), none)])
                   (.ret [(.c (bool true), none)])))))))))))))))))
set_option maxHeartbeats 2000000 in
theorem law_FactorizationsOf (L : HLaw P ν) (M : HMark P ν) (hII : Has P ν 150 2 V_laws_heldInt64SS) (h : Has P ν 62 4 V_laws_FnExactFactorizationsOf) (c : Cat) (rd_c : Read c) (es : List Int) (rd_es : es.length ≤ 9223372036854775807) (ms : List Int) (rd_ms : ms.length ≤ 9223372036854775807) (f : Int) (hb : Small2 c → es.length ≤ 1048576 → ms.length ≤ 1048576 → BothQ P ν 156 155 [.agg c.cells, islice es, islice ms, int f]) :
    OkM P ν 62 [.agg c.cells, islice es, islice ms, int f] hempty 0 (fun r _ _ => r = bool true) := by
  refine h _ _ _ _ rfl fun hwf => ?_
  unfold V_laws_FnExactFactorizationsOf
  simp only [SS, Nat.reduceEqDiff, Nat.reduceAdd, iput, puts, p_boxc, p_ldc]
  refine ⟨fun h1 => ⟨_, rfl, hempty, fun _ _ h => h, rfl⟩, fun hl_es => ?_⟩
  have b_es : es.length ≤ 1048576 := by omega
  refine ⟨fun h1 => ⟨_, rfl, hempty, fun _ _ h => h, rfl⟩, fun hl_ms => ?_⟩
  have b_ms : ms.length ≤ 1048576 := by omega
  refine den_call (fc := (3, [])) (ys := [.agg c.cells, int 1048576]) rfl (by simp only [SS, Nat.reduceEqDiff, Nat.reduceAdd, iput, puts, FF, frzL_cat]) (szCat_ok L.szI L.szII L.szC c rd_c 1048576 (by omega) (by omega)).fzi ?_
  simp only [SS, Nat.reduceEqDiff, Nat.reduceAdd, iput, puts, p_boxc, p_ldc]
  refine ⟨fun h1 => ⟨_, rfl, hempty, fun _ _ h => h, rfl⟩, fun s_c => ?_⟩
  have b_c := szCat_small (c := c) (left := 1048576) (by omega) (by omega) (by omega)
  have c_c := szCat_le (c := c) (left := 1048576) (by omega) (by omega)
  obtain ⟨l, k, hl, hl2, himp, hs⟩ := hb b_c b_es b_ms
  have ht : tot l ≤ 1099511627776 := by have := tot_le hl2; have : l.length * 1048576 ≤ 1048576 * 1048576 := Nat.mul_le_mul_right _ hl; omega
  have e_c := toCat_fz L.toI L.toII L.toC c b_c
  have e_es := toI_fz L.toI es b_es
  have e_ms := toI_fz L.toI ms b_ms
  refine den_call (fc := (5, [])) (ys := [.agg c.cells]) rfl (by simp only [SS, Nat.reduceEqDiff, Nat.reduceAdd, iput, puts, FF, frzL_cat]) e_c ?_
  simp only [SS, Nat.reduceEqDiff, Nat.reduceAdd, iput, puts, p_boxc, p_ldc]
  refine den_call (fc := (16, [])) (ys := [islice es]) rfl (by simp only [SS, Nat.reduceEqDiff, Nat.reduceAdd, iput, puts, FF, frzL_cat]) e_es ?_
  simp only [SS, Nat.reduceEqDiff, Nat.reduceAdd, iput, puts, p_boxc, p_ldc]
  refine den_call (fc := (16, [])) (ys := [islice ms]) rfl (by simp only [SS, Nat.reduceEqDiff, Nat.reduceAdd, iput, puts, FF, frzL_cat]) e_ms ?_
  simp only [SS, Nat.reduceEqDiff, Nat.reduceAdd, iput, puts, p_boxc, p_ldc]
  refine den_calli (fc := (155, [])) (ys := [.agg c.cells, islice es, islice ms, int f]) rfl (by simp only [SS, Nat.reduceEqDiff, Nat.reduceAdd, iput, puts, FF, frzL_cat]) hs ?_
  simp only [SS, Nat.reduceEqDiff, Nat.reduceAdd, iput, puts, p_boxc, p_ldc]
  refine den_callm (fc := (5, [])) rfl (toCat_R L c b_c _ _) (toCat_Rs _ _ _) fun u H1 x1 hu => ?_
  obtain ⟨n_c, rfl, l_c, rfl, at_c, e⟩ := hu
  refine den_newR fun H2 bx_c e => ?_
  have at_c := at_c.mono (fun o h1 h2 => e o (by omega))
  refine den_stR (o := (n_c + 4 + c.c.length)) (m := 5) (d := (catM c n_c).cells) rfl rfl bx_c rfl rfl rfl fun H3 bx_c e => ?_
  have at_c := at_c.mono (fun o h1 h2 => e o (by omega))
  simp only [SS, Nat.reduceEqDiff, Nat.reduceAdd, iput, puts, p_boxc, p_ldc]
  refine den_callm (fc := (16, [])) rfl (toI_R L es b_es _ _) (toI_Rs _ _ _) fun u H4 x4 hu => ?_
  obtain ⟨rfl, rfl, bx_es, e⟩ := hu
  have at_c := at_c.mono (fun o h1 h2 => e o (by omega))
  have bx_c := (e _ (by omega)).trans bx_c
  simp only [SS, Nat.reduceEqDiff, Nat.reduceAdd, iput, puts, p_boxc, p_ldc]
  refine den_callm (fc := (16, [])) rfl (toI_R L ms b_ms _ _) (toI_Rs _ _ _) fun u H5 x5 hu => ?_
  obtain ⟨rfl, rfl, bx_ms, e⟩ := hu
  have at_c := at_c.mono (fun o h1 h2 => e o (by omega))
  have bx_c := (e _ (by omega)).trans bx_c
  have bx_es := (e _ (by omega)).trans bx_es
  simp only [SS, Nat.reduceEqDiff, Nat.reduceAdd, iput, puts, p_boxc, p_ldc]
  simp only [SS, Nat.reduceEqDiff, Nat.reduceAdd, iput, puts, p_boxc, p_ldc, p_ldsm (l := 5) bx_c rfl, catM_agg]
  refine den_callo (fc := (156, [])) (ys := [.agg c.cells, islice es, islice ms, int f]) rfl (by simp only [SS, Nat.reduceEqDiff, Nat.reduceAdd, iput, puts, FF, frzL_cat, at_c.frzL, frzL_ms bx_es, frzL_ms bx_ms]) (himp _) (IsQ.some _ _ _) fun u H' nx' hu => ?_
  obtain ⟨q1, q2, q3, r0, rfl, own⟩ := hu.own H5
  refine ⟨q1, q2, ?_⟩
  have e : ∀ o, o < ((((n_c + 4 + c.c.length) + 1) + 1) + 1) → hmerge ((((n_c + 4 + c.c.length) + 1) + 1) + 1) H5 H' o = H5 o := fun o ho => hmerge_lo ho
  have at_c := at_c.mono (fun o h1 h2 => e o (by omega))
  have bx_c := (e _ (by omega)).trans bx_c
  have bx_es := (e _ (by omega)).trans bx_es
  have bx_ms := (e _ (by omega)).trans bx_ms
  generalize hmerge ((((n_c + 4 + c.c.length) + 1) + 1) + 1) H5 H' = H6 at at_c bx_c bx_es bx_ms own
  clear hu q1 q2 e
  simp only [SS, Nat.reduceEqDiff, Nat.reduceAdd, iput, puts]
  refine den_call (fc := (20, [])) (ys := [.sl (rows l) l.length, .sl (rows l) l.length]) rfl (by simp only [SS, Nat.reduceEqDiff, Nat.reduceAdd, iput, puts, FF, frzL_cat, own.frzL]) (eqII_same L.eqI L.eqII l hl hl2) ?_
  simp only [SS, Nat.reduceEqDiff, Nat.reduceAdd, iput, puts, neSelf, p_boxc, p_ldc, p_ldsm (l := 5) bx_c rfl, catM_agg]
  refine den_call (fc := (5, [])) (ys := [.agg c.cells]) rfl (by simp only [SS, Nat.reduceEqDiff, Nat.reduceAdd, iput, puts, FF, frzL_cat]) e_c ?_
  simp only [SS, Nat.reduceEqDiff, Nat.reduceAdd, iput, puts, p_boxc, p_ldc]
  refine den_call (fc := (8, [])) (ys := [.agg c.cells, .agg c.cells]) rfl (by simp only [SS, Nat.reduceEqDiff, Nat.reduceAdd, iput, puts, FF, frzL_cat, at_c.frzL]) (eqCat_same L c b_c) ?_
  simp only [SS, Nat.reduceEqDiff, Nat.reduceAdd, iput, puts, neSelf, p_boxc, p_ldc, p_ldsm (l := 5) bx_c rfl, catM_agg]
  refine den_call (fc := (16, [])) (ys := [islice es]) rfl (by simp only [SS, Nat.reduceEqDiff, Nat.reduceAdd, iput, puts, FF, frzL_cat]) e_es ?_
  simp only [SS, Nat.reduceEqDiff, Nat.reduceAdd, iput, puts, p_boxc, p_ldc]
  refine den_call (fc := (7, [])) (ys := [islice es, islice es]) rfl (by simp only [SS, Nat.reduceEqDiff, Nat.reduceAdd, iput, puts, FF, frzL_cat, frzL_ms bx_es]) (eqI_same L.eqI es (by omega)) ?_
  simp only [SS, Nat.reduceEqDiff, Nat.reduceAdd, iput, puts, neSelf, p_boxc, p_ldc, p_ldsm (l := 5) bx_c rfl, catM_agg]
  refine den_call (fc := (16, [])) (ys := [islice ms]) rfl (by simp only [SS, Nat.reduceEqDiff, Nat.reduceAdd, iput, puts, FF, frzL_cat]) e_ms ?_
  simp only [SS, Nat.reduceEqDiff, Nat.reduceAdd, iput, puts, p_boxc, p_ldc]
  refine den_call (fc := (7, [])) (ys := [islice ms, islice ms]) rfl (by simp only [SS, Nat.reduceEqDiff, Nat.reduceAdd, iput, puts, FF, frzL_cat, frzL_ms bx_ms]) (eqI_same L.eqI ms (by omega)) ?_
  simp only [SS, Nat.reduceEqDiff, Nat.reduceAdd, iput, puts, neSelf, p_boxc, p_ldc, p_ldsm (l := 5) bx_c rfl, catM_agg]
  refine den_callm (fc := (9, [])) rfl (markCat_ok M.mI M.mII M.mC c b_c n_c _ _ _ at_c (by omega) (by omega) (by omega)) ⟨int 0, _, _, 0, rfl, by omega, by omega, Nat.le_refl _, fun _ _ _ => rfl⟩ fun u H7 x7 hu => ?_
  obtain ⟨k0, rfl, k0a, k0b, ne_c, e0⟩ := hu
  have bx_c := (e0 _ (by omega) (by omega)).trans bx_c
  have bx_es := (e0 _ (by omega) (by omega)).trans bx_es
  have bx_ms := (e0 _ (by omega) (by omega)).trans bx_ms
  have own := own.mono ne_c (fun o h1 h2 => e0 o (by omega) (by omega))
  simp only [SS, Nat.reduceEqDiff, Nat.reduceAdd, iput, puts, p_ldsm (l := 5) bx_c rfl, catM_agg]
  refine den_callm (fc := (10, [])) rfl (markI_R M.mI es _ _ _ _ bx_es (by omega) (by omega) (by omega)) ⟨_, _, _, rfl, rfl, fun _ _ => rfl⟩ fun u H8 x8 hu => ?_
  obtain ⟨rfl, rfl, e0⟩ := hu
  have bx_c := (e0 _ (by omega)).trans bx_c
  have bx_ms := (e0 _ (by omega)).trans bx_ms
  have own := own.mono (Nat.le_refl _) (fun o h1 h2 => e0 o (by omega))
  simp only [SS, Nat.reduceEqDiff, Nat.reduceAdd, iput, puts, p_ldsm (l := 5) bx_c rfl, catM_agg]
  refine den_callm (fc := (10, [])) rfl (markI_R M.mI ms _ _ _ _ bx_ms (by omega) (by omega) (by omega)) ⟨_, _, _, rfl, rfl, fun _ _ => rfl⟩ fun u H9 x9 hu => ?_
  obtain ⟨rfl, rfl, e0⟩ := hu
  have bx_c := (e0 _ (by omega)).trans bx_c
  have own := own.mono (Nat.le_refl _) (fun o h1 h2 => e0 o (by omega))
  simp only [SS, Nat.reduceEqDiff, Nat.reduceAdd, iput, puts, p_ldsm (l := 5) bx_c rfl, catM_agg]
  have k9 : ¬ k0 + (es.length : Int) + (ms.length : Int) < 0 := by omega
  simp only [SS, Nat.reduceEqDiff, Nat.reduceAdd, iput, puts, k9]
  refine den_call (fc := (20, [])) (ys := [.sl (rows l) l.length, .sl (rows l) l.length]) rfl (by simp only [SS, Nat.reduceEqDiff, Nat.reduceAdd, iput, puts, FF, frzL_cat, own.frzL]) (eqII_same L.eqI L.eqII l hl hl2) ?_
  simp only [SS, Nat.reduceEqDiff, Nat.reduceAdd, iput, puts, neSelf]
  refine den_callm (fc := (21, [])) rfl (markII_own M.mI M.mII l 1 r0 _ _ _ _ own (by omega) (by omega) hl hl2 (by omega)) (own.marked 1 _) fun u H10 x10 hu => ?_
  obtain ⟨rfl, rfl, own5, q6⟩ := hu
  have hh := (heldII_ok M.hI hII l 1 (by omega) (by omega) hl hl2 (by omega)).fzi
  refine den_call (fc := (150, [])) (ys := [.sl (rows (seqR 1 l)) l.length, int 1]) rfl (by simp only [SS, Nat.reduceEqDiff, Nat.reduceAdd, iput, puts, FF, frzL_cat, own5.frzL, seqR_len]) hh ?_
  have k7 : ¬ (1 + (tot l : Int)) < 0 := by omega
  simp only [SS, Nat.reduceEqDiff, Nat.reduceAdd, iput, puts, k7, neSelf, p_boxc, p_ldc]
  refine den_call (fc := (5, [])) (ys := [.agg c.cells]) rfl (by simp only [SS, Nat.reduceEqDiff, Nat.reduceAdd, iput, puts, FF, frzL_cat]) e_c ?_
  simp only [SS, Nat.reduceEqDiff, Nat.reduceAdd, iput, puts, p_boxc, p_ldc]
  refine den_call (fc := (16, [])) (ys := [islice es]) rfl (by simp only [SS, Nat.reduceEqDiff, Nat.reduceAdd, iput, puts, FF, frzL_cat]) e_es ?_
  simp only [SS, Nat.reduceEqDiff, Nat.reduceAdd, iput, puts, p_boxc, p_ldc]
  refine den_call (fc := (16, [])) (ys := [islice ms]) rfl (by simp only [SS, Nat.reduceEqDiff, Nat.reduceAdd, iput, puts, FF, frzL_cat]) e_ms ?_
  simp only [SS, Nat.reduceEqDiff, Nat.reduceAdd, iput, puts, p_boxc, p_ldc]
  refine den_callo (fc := (156, [])) (ys := [.agg c.cells, islice es, islice ms, int f]) rfl (by simp only [SS, Nat.reduceEqDiff, Nat.reduceAdd, iput, puts, FF, frzL_cat]) (himp _) (IsQ.some _ _ _) fun u H' nx' hu => ?_
  obtain ⟨q1, q2, q3, r1, rfl, own6⟩ := hu.own H10
  refine ⟨q1, q2, ?_⟩
  have own7 := own5.mono (Nat.le_refl _) (fun o _ h3 => hmerge_lo (H := H10) (H' := H') (nx := x10) h3)
  simp only [SS, Nat.reduceEqDiff, Nat.reduceAdd, iput, puts]
  refine den_call (fc := (20, [])) (ys := [.sl (rows l) l.length, .sl (rows l) l.length]) rfl (by simp only [SS, Nat.reduceEqDiff, Nat.reduceAdd, iput, puts, FF, frzL_cat, own6.frzL]) (eqII_same L.eqI L.eqII l hl hl2) ?_
  simp only [SS, Nat.reduceEqDiff, Nat.reduceAdd, iput, puts, neSelf]
  refine den_call (fc := (150, [])) (ys := [.sl (rows (seqR 1 l)) l.length, int 1]) rfl (by simp only [SS, Nat.reduceEqDiff, Nat.reduceAdd, iput, puts, FF, frzL_cat, own7.frzL, seqR_len]) hh ?_
  simp only [SS, Nat.reduceEqDiff, Nat.reduceAdd, iput, puts, k7, neSelf]
  exact ⟨_, rfl, hempty, (fun _ _ h => by cases h), rfl⟩
end Go.Av
