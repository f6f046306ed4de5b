/-
  The statement on IsPart.
-/
import Derived.Test.YtbikcomiocdkpaaAvC5
import Derived.Test.YtbikcomiocdkpaaAvP2
namespace Go.Av
open Classical
set_option linter.unusedSimpArgs false
set_option linter.unusedVariables false
variable {P : Program} {ν : Nat → FuncId}

def ptTy : Ty := .pair (.sl (.sl .int)) .unit
structure ReadP (M : List (List Int)) : Prop where
  len : M.length ≤ 9223372036854775807
  row : ∀ k, k < M.length → (M.getD k []).length ≤ 9223372036854775807
/-- The two forms in which a struct of one field may come. -/
def PtV (M : List (List Int)) (a : AV) : Prop := a = .agg [.sl (rows M) M.length] ∨ a = .sl (rows M) M.length
theorem ShpV.pt {a : AV} (h : ShpV ptTy a) : ∃ M : List (List Int), PtV M a ∧ ReadP M := by
  cases h with
  | agg h =>
    cases h with | pair h1 h2 =>
    cases h2
    obtain ⟨M, rfl, m1, m2⟩ := h1.intRows
    exact ⟨M, .inl rfl, m1, m2⟩
  | one h =>
    have key : ∀ x : List AV, Shp ptTy x → ∃ M : List (List Int), x = [.sl (rows M) M.length] ∧ ReadP M := by
      intro x h
      cases h with | pair h1 h2 =>
      cases h2
      obtain ⟨M, rfl, m1, m2⟩ := h1.intRows
      exact ⟨M, rfl, m1, m2⟩
    obtain ⟨M, e, r⟩ := key _ h
    cases e
    exact ⟨M, .inr rfl, r⟩
theorem PtV.box {M : List (List Int)} {a : AV} (h : PtV M a) (H : Hp) : pvf H .box [a] = some (.ptr [.sl (rows M) M.length] 0) := by
  rcases h with rfl | rfl
  · rfl
  · rfl
theorem frzL_pt {H : Hp} {l : List AV} (M : List (List Int)) : frzL H (.agg [.sl (rows M) M.length] :: l) = (frzL H l).map (.agg [.sl (rows M) M.length] :: ·) := frzL_agg (by rfl)
theorem p_fad0 {H : Hp} {c : List AV} {o : Nat} : pvf H (.fad 0) [.ptr c o] = some (.ptr c o) := rfl

def V_laws_szPart : Vc :=
  .op true (.p .box [.t 0]) <|
  .op true (.p (.fad 0) [.t 2]) <|
  .op true (.p (.ld none) [.t 3]) <|
  .op true (.call (.f 13) [.t 4, .t 1]) <|
  .op true (.p (.bin .lss) [.t 5, .c (int 0)]) <|
  .br 6
   (.ret [(.c (int (-1)), none)])
   (.ret [(.t 5, none)])
def V_laws_toPart : Vc :=
  .op true (.p .box [.t 0]) <|
  .op true (.new [.nil]) <|
  .op true (.new [.nil]) <|
  .op true (.p (.fad 0) [.t 1]) <|
  .op true (.p (.ld none) [.t 4]) <|
  .op true (.callm (.f 17) [.t 5]) <|
  .op true (.p (.fad 0) [.t 3]) <|
  .op true (.st 1 (.t 7) (.t 6)) <|
  .op true (.p (.ld (some 1)) [.t 3]) <|
  .op true (.st 1 (.t 2) (.t 9)) <|
  .ret [(.t 2, some (some 1))]
def V_laws_eqPart : Vc :=
  .op true (.p .box [.t 0]) <|
  .op true (.p .box [.t 1]) <|
  .op true (.p (.fad 0) [.t 2]) <|
  .op true (.p (.ld none) [.t 4]) <|
  .op true (.p (.fad 0) [.t 3]) <|
  .op true (.p (.ld none) [.t 6]) <|
  .op true (.call (.f 20) [.t 5, .t 7]) <|
  .op true (.p .bnot [.t 8]) <|
  .br 9
   (.ret [(.c (bool false), none)])
   (.ret [(.c (bool true), none)])
structure HLawP (P : Program) (ν : Nat → FuncId) : Prop where
  sz : Has P ν 230 2 V_laws_szPart
  to : Has P ν 232 1 V_laws_toPart
  eq : Has P ν 234 2 V_laws_eqPart
def szP (M : List (List Int)) (left : Int) : Int := if szSS M left < 0 then -1 else szSS M left
theorem szP_small {M : List (List Int)} {left : Int} (h0 : 0 ≤ left) (h1 : left ≤ 1048576) (h : 0 ≤ szP M left) : SmallP M := by
  unfold szP at h
  split at h
  · omega
  have := szSS_pos (m := M) (left := left) h0 (by omega)
  exact ⟨by omega, fun k hk => by have := this.2.2 k hk; show (M.getD k []).length ≤ _; omega⟩
theorem szP_fz (L : HLaw P ν) (h : Has P ν 230 2 V_laws_szPart) (M : List (List Int)) (rd : ReadP M) (left : Int) (h0 : 0 ≤ left) (h1 : left ≤ 1048576) : Fz (OkM P ν) 230 [.agg [.sl (rows M) M.length], int left] (int (szP M left)) := by
  refine Fn.fzi fun H nx => h _ _ _ _ rfl fun hwf => ?_
  unfold V_laws_szPart
  repeat (first | simp (disch := (first | rfl | with_reducible assumption | with_reducible solve_by_elim (maxDepth := 8) [Shape.inT, Shape.inI, Shape.inC, Shape.inK, Shape.obF, Shape.obT, Shape.arI, Arr.inF] | omega)) only [S2, Nat.reduceEqDiff, Nat.reduceAdd, iput, puts, p_boxPt, p_ldPt] | (refine den_call rfl (by first | (simp only [SS, Nat.reduceEqDiff, Nat.reduceAdd, iput, puts, FF, frzL_cat]; done) | (simp only [SS, Nat.reduceEqDiff, Nat.reduceAdd, iput, puts, FF, frzL_cat]; rfl)) (by first | exact (szII_ok L.szI L.szII M left h0 h1 rd.len rd.row).fzi) ?_) | (refine den_calli rfl (by first | (simp only [SS, Nat.reduceEqDiff, Nat.reduceAdd, iput, puts, FF, frzL_cat]; done) | (simp only [SS, Nat.reduceEqDiff, Nat.reduceAdd, iput, puts, FF, frzL_cat]; rfl)) (by first | exact (szII_ok L.szI L.szII M left h0 h1 rd.len rd.row).fzi) ?_))
  refine ⟨fun h3 => ?_, fun h3 => ?_⟩
  · exact ⟨_, rfl, H, fun _ _ h => h, by unfold szP; rw [if_pos h3]; rfl, rfl, Nat.le_refl _⟩
  · exact ⟨_, rfl, H, fun _ _ h => h, by unfold szP; rw [if_neg h3]; rfl, rfl, Nat.le_refl _⟩
theorem eqP_same (L : HLaw P ν) (h : Has P ν 234 2 V_laws_eqPart) (M : List (List Int)) (b : SmallP M) : Fz (OkM P ν) 234 [.agg [.sl (rows M) M.length], .agg [.sl (rows M) M.length]] (bool true) := by
  refine Fn.fzb fun H nx => h _ _ _ _ rfl fun hwf => ?_
  unfold V_laws_eqPart
  have bl := b.len
  have := (eqII_ok L.eqI L.eqII M M (by omega) (fun k hk => by have := b.row k hk; have : (M.getD k []).length ≤ 1048576 := this; omega)).fzb
  rw [decide_eq_true rfl] at this
  repeat (first | simp (disch := (first | rfl | with_reducible assumption | with_reducible solve_by_elim (maxDepth := 8) [Shape.inT, Shape.inI, Shape.inC, Shape.inK, Shape.obF, Shape.obT, Shape.arI, Arr.inF] | omega)) only [S2, Nat.reduceEqDiff, Nat.reduceAdd, iput, puts, p_boxPt, p_ldPt] | (refine den_call rfl (by first | (simp only [SS, Nat.reduceEqDiff, Nat.reduceAdd, iput, puts, FF, frzL_cat]; done) | (simp only [SS, Nat.reduceEqDiff, Nat.reduceAdd, iput, puts, FF, frzL_cat]; rfl)) (by first | exact this) ?_) | (refine den_calli rfl (by first | (simp only [SS, Nat.reduceEqDiff, Nat.reduceAdd, iput, puts, FF, frzL_cat]; done) | (simp only [SS, Nat.reduceEqDiff, Nat.reduceAdd, iput, puts, FF, frzL_cat]; rfl)) (by first | exact this) ?_))
  exact ⟨_, rfl, H, fun _ _ h => h, rfl, rfl, Nat.le_refl _⟩
theorem toP_fz (L : HLaw P ν) (h : Has P ν 232 1 V_laws_toPart) (M : List (List Int)) (b : SmallP M) : Fz (OkM P ν) 232 [.agg [.sl (rows M) M.length]] (.agg [.sl (rows M) M.length]) := by
  refine OkM.fz (Ψ := fun H nx r H' nx' => frzN H' fuel r = some (.agg [.sl (rows M) M.length])) (fun H nx => h _ _ _ _ rfl fun hwf => ?_) fun _ _ _ hh => hh
  unfold V_laws_toPart
  simp only [SS, Nat.reduceEqDiff, Nat.reduceAdd, iput, puts, p_boxPt]
  refine den_newG fun H1 y1 e1 => ?_
  refine den_newG fun H2 y2 e2 => ?_
  simp only [SS, Nat.reduceEqDiff, Nat.reduceAdd, iput, puts, p_ldPt]
  refine den_callm (fc := (17, [])) rfl (toII_ok L.toI L.toII M b.len b.row _ _) (IsMk2.some _ _ _) fun u H3 n3 hu => ?_
  obtain ⟨rfl, rfl, rfl⟩ := hu
  have aA := rowsH_at H2 (nx + 1 + 1) M
  have y2' := (rowsH_lo H2 (nx + 1 + 1) M M.length (nx + 1) (by omega)).trans y2
  have y1' := ((rowsH_lo H2 (nx + 1 + 1) M M.length nx (by omega)).trans (e2 nx (by omega))).trans y1
  generalize rowsH H2 (nx + 1 + 1) M M.length = H3 at aA y1' y2'
  simp only [SS, Nat.reduceEqDiff, Nat.reduceAdd, iput, puts, p_fadm (l := 1) y2' rfl]
  refine den_st1 (o := nx + 1) (p := 0) (m := 1) (u := .ms (nx + 1 + 1) 0 M.length 1) rfl rfl y2' rfl (by omega) rfl ?_
  refine den_lda (o := nx + 1) (m := 1) rfl (hput_eq _ _ _) rfl ?_
  refine den_stA (o := nx) (m := 1) (c := [.nil]) rfl rfl ((hput_ne _ _ _ _ (by omega)).trans y1') rfl rfl rfl ?_
  refine ⟨.agg [.ms (nx + 1 + 1) 0 M.length 1], ?_, _, fun _ _ h => h, ?_⟩
  · simp only [retOf, rets, SS, Nat.reduceEqDiff, Nat.reduceAdd, iput, puts, pLd, hput_eq]
    rfl
  · have keep : ∀ o, nx + 1 + 1 ≤ o → hput (hput H3 (nx + 1) (some [AV.ms (nx + 1 + 1) 0 M.length 1])) nx (some [AV.ms (nx + 1 + 1) 0 M.length 1]) o = H3 o := fun o ho => by rw [hput_ne _ _ _ _ (by omega), hput_ne _ _ _ _ (by omega)]
    have r1 := frzN_rows ((keep _ (by omega)).trans aA.1) (fun j hj => (keep _ (by omega)).trans (aA.2 j hj)) 3
    show ([AV.ms (nx + 1 + 1) 0 M.length 1].mapM (frzN (hput (hput H3 (nx + 1) (some [AV.ms (nx + 1 + 1) 0 M.length 1])) nx (some [AV.ms (nx + 1 + 1) 0 M.length 1])) 5)).map AV.agg = _
    simp only [List.mapM_cons, List.mapM_nil, r1]
    rfl

def V_laws_FnExactIsPart : Vc :=
  .op true (.p .box [.t 0]) <|
  .op true (.p .box [.t 1]) <|
  .op true (.p (.ld (some 7)) [.t 2]) <|
  .op true (.call (.f 140) [.t 4, .c (int 1048576)]) <|
  .op true (.p (.bin .lss) [.t 5, .c (int 0)]) <|
  .br 6
   (.ret [(.c (bool true), none)])
   (.op true (.p (.ld (some 1)) [.t 3]) <|
   .op true (.call (.f 230) [.t 7, .t 5]) <|
   .op true (.p (.bin .lss) [.t 8, .c (int 0)]) <|
   .br 9
    (.ret [(.c (bool true), none)])
    (.op true (.p (.ld (some 7)) [.t 2]) <|
    .op true (.call (.f 142) [.t 10]) <|
    .op true (.p (.ld (some 1)) [.t 3]) <|
    .op true (.call (.f 232) [.t 12]) <|
    .op true (.call (.f 231) [.t 11, .t 13]) <|
    .op true (.p (.ld (some 7)) [.t 2]) <|
    .op true (.call (.f 142) [.t 15]) <|
    .op true (.new [int 0, .nil, .nil, .nil, .nil, .nil, .nil]) <|
    .op true (.st 7 (.t 17) (.t 16)) <|
    .op true (.p (.ld (some 1)) [.t 3]) <|
    .op true (.call (.f 232) [.t 19]) <|
    .op true (.new [.nil]) <|
    .op true (.st 1 (.t 21) (.t 20)) <|
    .op true (.p (.ld (some 7)) [.t 17]) <|
    .op true (.p (.ld (some 1)) [.t 21]) <|
    .op true (.call (.f 233) [.t 23, .t 24]) <|
    .op true (.p (.eqb true) [.t 25, .t 14]) <|
    .br 26
     (.ret [(.c (bool false), none)])
     (.op true (.p (.ld (some 7)) [.t 17]) <|
     .op true (.p (.ld (some 7)) [.t 2]) <|
     .op true (.call (.f 142) [.t 28]) <|
     .op true (.call (.f 144) [.t 27, .t 29]) <|
     .op true (.p .bnot [.t 30]) <|
     .br 31
      (.ret [(.c (bool false), none)])
      (.op true (.p (.ld (some 1)) [.t 21]) <|
      .op true (.p (.ld (some 1)) [.t 3]) <|
      .op true (.call (.f 232) [.t 33]) <|
      .op true (.call (.f 234) [.t 32, .t 34]) <|
      .op true (.p .bnot [.t 35]) <|
      .br 36
       (.ret [(.c (bool false), none)])
       (.ret [(.c (bool true), none)])))))
set_option maxHeartbeats 1000000 in
theorem law_IsPart (L : HLaw P ν) (LF : HLawF P ν) (LP : HLawP P ν) (h : Has P ν 96 2 V_laws_FnExactIsPart) (f : SF) (rd : ReadF f) (M : List (List Int)) (rm : ReadP M) (a : AV) (ha : PtV M a) (hb : SmallF f → SmallP M → ∃ x : Bool, BothZ P ν 233 231 [.agg f.cells, .agg [.sl (rows M) M.length]] (bool x)) :
    OkM P ν 96 [.agg f.cells, a] hempty 0 (fun r _ _ => r = bool true) := by
  refine h _ _ _ _ rfl fun hwf => ?_
  unfold V_laws_FnExactIsPart
  simp only [SS, Nat.reduceEqDiff, Nat.reduceAdd, iput, puts, p_boxs, p_lds7, ha.box]
  refine den_call (fc := (140, [])) (ys := [.agg f.cells, int 1048576]) rfl (by simp only [SS, Nat.reduceEqDiff, Nat.reduceAdd, iput, puts, FF, frzL_cat, frzL_sf]) (szF_fz L LF.sz f rd) ?_
  simp only [SS, Nat.reduceEqDiff, Nat.reduceAdd, iput, puts, p_ldPt1]
  refine ⟨fun h1 => ⟨_, rfl, hempty, fun _ _ h => h, rfl⟩, fun h1 => ?_⟩
  have b := szF_small (f := f) (by omega)
  have l1 : szF f 1048576 ≤ 1048576 := by
    have h1' : ¬ szF f 1048576 < 0 := h1
    unfold szF at h1' ⊢
    split
    · omega
    split
    · omega
    split
    · omega
    rename_i a1 a2 a3
    have l1 := szCat_le (c := f.c) (left := 1048576) (by omega) (by omega)
    have b1 := szS_pos (l := f.z) (left := szCat f.c 1048576) (by omega)
    have b2 := szSS_pos (m := f.a) (left := szS f.z (szCat f.c 1048576)) (by omega) (by omega)
    omega
  refine den_call (fc := (230, [])) (ys := [.agg [.sl (rows M) M.length], int (szF f 1048576)]) rfl (by simp only [SS, Nat.reduceEqDiff, Nat.reduceAdd, iput, puts, FF, frzL_cat, frzL_pt]) (szP_fz L LP.sz M rm _ (by omega) l1) ?_
  simp only [SS, Nat.reduceEqDiff, Nat.reduceAdd, iput, puts, p_lds7, p_ldPt1]
  refine ⟨fun h2 => ⟨_, rfl, hempty, fun _ _ h => h, rfl⟩, fun h2 => ?_⟩
  have bp := szP_small (M := M) (by omega) l1 (by omega)
  obtain ⟨x, hi, hs⟩ := hb b bp
  refine den_call (fc := (142, [])) (ys := [.agg f.cells]) rfl (by simp only [SS, Nat.reduceEqDiff, Nat.reduceAdd, iput, puts, FF, frzL_cat, frzL_sf]) (toF_fz L LF.to f b) ?_
  simp only [SS, Nat.reduceEqDiff, Nat.reduceAdd, iput, puts, p_lds7, p_ldPt1]
  refine den_call (fc := (232, [])) (ys := [.agg [.sl (rows M) M.length]]) rfl (by simp only [SS, Nat.reduceEqDiff, Nat.reduceAdd, iput, puts, FF, frzL_cat, frzL_pt]) (toP_fz L LP.to M bp) ?_
  refine den_call (fc := (231, [])) (ys := [.agg f.cells, .agg [.sl (rows M) M.length]]) rfl (by simp only [SS, Nat.reduceEqDiff, Nat.reduceAdd, iput, puts, FF, frzL_cat, frzL_sf, frzL_pt]) hs ?_
  simp only [SS, Nat.reduceEqDiff, Nat.reduceAdd, iput, puts, p_lds7]
  refine den_call (fc := (142, [])) (ys := [.agg f.cells]) rfl (by simp only [SS, Nat.reduceEqDiff, Nat.reduceAdd, iput, puts, FF, frzL_cat, frzL_sf]) (toF_fz L LF.to f b) ?_
  refine den_newG fun H1 x0 e0 => ?_
  refine den_stG (o := 0) (p := 0) (k := 7) (m := 7) (c' := f.cells) (by rfl) (by rfl) x0 (by rfl) (by rfl) (show 0 + 7 ≤ 7 by omega) (by rfl) (by rfl) fun H2 x2 e2 => ?_
  simp only [SS, Nat.reduceEqDiff, Nat.reduceAdd, iput, puts, p_ldPt1]
  refine den_call (fc := (232, [])) (ys := [.agg [.sl (rows M) M.length]]) rfl (by simp only [SS, Nat.reduceEqDiff, Nat.reduceAdd, iput, puts, FF, frzL_cat, frzL_pt]) (toP_fz L LP.to M bp) ?_
  refine den_newG fun H3 x3 e3 => ?_
  refine den_stG (o := 0 + 1) (p := 0) (k := 1) (m := 1) (c' := [.sl (rows M) M.length]) (by rfl) (by rfl) x3 (by rfl) (by rfl) (show 0 + 1 ≤ 1 by omega) (by rfl) (by rfl) fun H4 x4 e4 => ?_
  have x5 : H4 0 = some f.cells := by rw [e4 _ (by omega), e3 _ (by omega)]; exact x2
  simp only [SS, Nat.reduceEqDiff, Nat.reduceAdd, iput, puts, p_ldsm (l := 7) x5 rfl, p_ldsm (l := 1) x4 rfl]
  refine den_call (fc := (233, [])) (ys := [.agg f.cells, .agg [.sl (rows M) M.length]]) rfl (by simp only [SS, Nat.reduceEqDiff, Nat.reduceAdd, iput, puts, FF, frzL_cat, frzL_sf, frzL_pt]) hi ?_
  simp only [SS, Nat.reduceEqDiff, Nat.reduceAdd, iput, puts, neSelf, p_eqbS, p_ldsm (l := 7) x5 rfl, p_ldsm (l := 1) x4 rfl, p_lds7, p_ldPt1]
  refine den_call (fc := (142, [])) (ys := [.agg f.cells]) rfl (by simp only [SS, Nat.reduceEqDiff, Nat.reduceAdd, iput, puts, FF, frzL_cat, frzL_sf]) (toF_fz L LF.to f b) ?_
  refine den_call (fc := (144, [])) (ys := [.agg f.cells, .agg f.cells]) rfl (by simp only [SS, Nat.reduceEqDiff, Nat.reduceAdd, iput, puts, FF, frzL_cat, frzL_sf]) (eqF_same L LF.eq f b) ?_
  simp only [SS, Nat.reduceEqDiff, Nat.reduceAdd, iput, puts, p_ldsm (l := 1) x4 rfl, p_ldPt1]
  refine den_call (fc := (232, [])) (ys := [.agg [.sl (rows M) M.length]]) rfl (by simp only [SS, Nat.reduceEqDiff, Nat.reduceAdd, iput, puts, FF, frzL_cat, frzL_pt]) (toP_fz L LP.to M bp) ?_
  refine den_call (fc := (234, [])) (ys := [.agg [.sl (rows M) M.length], .agg [.sl (rows M) M.length]]) rfl (by simp only [SS, Nat.reduceEqDiff, Nat.reduceAdd, iput, puts, FF, frzL_cat, frzL_pt]) (eqP_same L LP.eq M bp) ?_
  simp only [SS, Nat.reduceEqDiff, Nat.reduceAdd, iput, puts]
  exact ⟨_, rfl, hempty, (fun _ _ h => by cases h), rfl⟩
end Go.Av
