/-
  ProductCategory: both sides.
-/
import Derived.Test.YtbalggpkmaabmaaAvX1
namespace Go.Av
open Classical
set_option linter.unusedSimpArgs false
set_option linter.unusedVariables false
variable {P : Program} {ν : Nat → FuncId}

def V_areCategories : Vc :=
  .op true (.p .len [.t 0]) <|
  .loop 0 [.c (int 0)] <|
  .op true (.p (.bin .lss) [.t 2, .t 1]) <|
  .br 3
   (.op true (.p (.iad 1) [.t 0, .t 2]) <|
   .op true (.p (.ld none) [.t 4]) <|
   .op true (.call (.f 24) [.t 5]) <|
   .op true (.p .bnot [.t 6]) <|
   .br 7
    (.ret [(.c (bool false), none)])
    (.op true (.p (.bin .add) [.t 2, .c (int 1)]) <|
    .again 0 [.t 8]))
   (.ret [(.c (bool true), none)])
theorem areCats_fz (h : Has P ν 315 1 V_areCategories) (L : List (AV × Bool)) (hl : L.length ≤ 1048576) (hL : ∀ p ∈ L, Fz (OkM P ν) 24 [p.1] (bool p.2)) (hst : ∀ p ∈ L, p.1.still = true) : Fz (OkM P ν) 315 [.sl (L.map (·.1)) L.length] (bool (L.all (·.2))) := by
  refine Fn.fzb fun H nx => h _ _ _ _ rfl fun hwf => ?_
  unfold V_areCategories
  simp only [SS, Nat.reduceEqDiff, Nat.reduceAdd, iput, puts]
  refine den_for L.length (fun i => ∀ k (hk : k < L.length), k < i → L[k].2 = true) (fun k hk hi => by omega) fun i hi hp => ?_
  by_cases hlt : i < L.length
  · have hm := List.getElem_mem hlt
    have hg : (L.map (·.1))[i]? = some L[i].1 := by simp [hlt]
    simp only [SS, Nat.reduceEqDiff, Nat.reduceAdd, iput, puts, hlt, not_true_eq_false, hg]
    refine den_call (fc := (24, [])) (ys := [L[i].1]) rfl (by simp only [SS, Nat.reduceEqDiff, Nat.reduceAdd, iput, puts, FF, frzL_cat, frzL, List.mapM_cons, List.mapM_nil, frz_still (hst _ hm)]; rfl) (hL _ hm) ?_
    simp only [SS, Nat.reduceEqDiff, Nat.reduceAdd, iput, puts, wrap_succ (show i < 9223372036854775807 by omega)]
    refine ⟨fun h1 => ?_, fun h1 => up rfl hlt fun k hk hk2 => ?_⟩
    · refine ⟨_, rfl, H, fun _ _ h => h, ?_, rfl, Nat.le_refl _⟩
      have : L.all (·.2) = false := by
        rw [Bool.eq_false_iff]; intro ha
        have := List.all_eq_true.1 ha _ hm
        rw [h1] at this; cases this
      rw [this]; rfl
    · by_cases e : k = i
      · subst e; exact h1
      · exact hp k hk (by omega)
  · simp only [SS, Nat.reduceEqDiff, Nat.reduceAdd, iput, puts, hlt, not_false_eq_true]
    refine ⟨_, rfl, H, fun _ _ h => h, ?_, rfl, Nat.le_refl _⟩
    have : L.all (·.2) = true := List.all_eq_true.2 fun p hp' => by
      obtain ⟨k, hk, rfl⟩ := List.getElem_of_mem hp'
      exact hp k hk (by omega)
    rw [this]; rfl
theorem p_mslP2 {H : Hp} {a b : List AV} {i j : Nat} : pvf H (.msl 2 [.v (.pointer none), .v (.pointer none)] [(0, 1), (1, 1)]) [.ptr a i, .ptr b j] = some (.sl [.ptr a i, .ptr b j] 2) := rfl
noncomputable def prC (c d : Cat) : Int := if IsCat c ∧ IsCat d then if FitK c d then 0 else 3 else 1
noncomputable def prR (c d : Cat) : Cat := if prC c d = 0 then prodK c d else zeroK
theorem prod_made {c d : Cat} (h : IsCat c ∧ IsCat d) : madeK (prodK c d) = prR c d ∧ madeC (prodK c d) = prC c d ∧ prK c d = prR c d := by
  have e : FitX (prodK c d) ↔ FitK c d := by unfold FitX FitK prodK; simp only [gl_len]
  unfold madeK madeC prR prC prK
  rw [if_pos h]
  by_cases f : FitK c d
  · rw [if_pos (e.2 f), if_pos (e.2 f), if_pos f, if_pos f]; simp
  · rw [if_neg (mt e.1 f), if_neg (mt e.1 f), if_neg f, if_neg f]; simp
theorem prR_small (c d : Cat) : Small2 (prR c d) := by
  unfold prR
  split
  · rename_i e
    have hc : IsCat c ∧ IsCat d := by
      unfold prC at e
      by_cases h : IsCat c ∧ IsCat d
      · exact h
      · rw [if_neg h] at e; omega
    have f : FitK c d := by
      unfold prC at e
      rw [if_pos hc] at e
      by_cases f : FitK c d
      · exact f
      · rw [if_neg f] at e; omega
    have f2 := f.2
    have i1 := hc.1.1.il
    have i2 := hc.2.1.il
    have o1 := hc.1.1.o8
    have o2 := hc.2.1.o8
    have ii : c.i.length * d.i.length ≤ 8 * 8 := Nat.mul_le_mul (by omega) (by omega)
    refine ⟨⟨?_, ?_, ?_, ?_⟩, fun k hk => ?_⟩
    · show (gl _ _).length ≤ _; rw [gl_len]; omega
    · show (gl _ _).length ≤ _; rw [gl_len]; omega
    · show (gl _ _).length ≤ _; rw [gl_len]; omega
    · show (List.map _ (List.range _)).length ≤ _; rw [List.length_map, List.length_range]; omega
    · have hk' : k < c.f.length * d.f.length := by
        have : (prodK c d).c.length = c.f.length * d.f.length := by show (List.map _ (List.range _)).length = _; rw [List.length_map, List.length_range]
        omega
      have : (prodK c d).c.getD k [] = gl (c.f.length * d.f.length) (pK c d k) := by simp [prodK, List.getD, hk']
      rw [this, gl_len]
      omega
  · exact zeroK_small
def V_ProductCategory : Vc :=
  .op true (.p .box [.t 0]) <|
  .op true (.p .box [.t 1]) <|
  .op true (.new [int 0, .nil, .nil, .nil, .nil]) <|
  .op true (.p (.msl 2 [.v (.pointer none), .v (.pointer none)] [(0, 1), (1, 1)]) [.t 2, .t 3]) <|
  .op true (.call (.f 315) [.t 5]) <|
  .op true (.p .bnot [.t 6]) <|
  .br 7
   (.op true (.p (.mka [int 0, .nil, .nil, .nil, .nil] []) []) <|
   .op true (.st 5 (.t 4) (.t 8)) <|
   .ret [(.t 4, some (some 5)), (.c (int 1), none)])
   (.op true (.callo (.f 316) [.t 2, .t 3]) <|
   .op true (.p (.ext 0) [.t 8]) <|
   .op true (.p (.ext 1) [.t 8]) <|
   .op true (.new [int 0, .nil, .nil, .nil, .nil]) <|
   .op true (.st 5 (.t 11) (.t 9)) <|
   .op true (.p .bnot [.t 10]) <|
   .br 13
    (.op true (.p (.mka [int 0, .nil, .nil, .nil, .nil] []) []) <|
    .op true (.st 5 (.t 4) (.t 14)) <|
    .ret [(.t 4, some (some 5)), (.c (int 3), none)])
    (.op true (.p (.ld (some 5)) [.t 11]) <|
    .op true (.st 5 (.t 4) (.t 14)) <|
    .ret [(.t 4, some (some 5)), (.c (int 0), none)]))
def V_spec_ProductCategory : Vc :=
  .op true (.p .box [.t 0]) <|
  .op true (.p .box [.t 1]) <|
  .op true (.new [int 0, .nil, .nil, .nil, .nil]) <|
  .op true (.p (.ld (some 5)) [.t 2]) <|
  .op true (.p (.ld (some 5)) [.t 3]) <|
  .op true (.call (.f 312) [.t 5, .t 6]) <|
  .op true (.p (.bin .neq) [.t 7, .c (int 0)]) <|
  .br 8
   (.op true (.p (.mka [int 0, .nil, .nil, .nil, .nil] []) []) <|
   .op true (.st 5 (.t 4) (.t 9)) <|
   .ret [(.t 4, some (some 5)), (.t 7, none)])
   (.op true (.p (.ld (some 5)) [.t 2]) <|
   .op true (.p (.ld (some 5)) [.t 3]) <|
   .op true (.call (.f 314) [.t 9, .t 10]) <|
   .op true (.call (.f 313) [.t 11]) <|
   .op true (.p (.ext 0) [.t 12]) <|
   .op true (.p (.ext 1) [.t 12]) <|
   .op true (.st 5 (.t 4) (.t 13)) <|
   .ret [(.t 4, some (some 5)), (.t 14, none)])
set_option maxHeartbeats 4000000 in
theorem ProductCategory_ok (K : HCat P ν) (hac : Has P ν 315 1 V_areCategories) (hta : Has P ν 353 2 V_Category_table) (hq1 : Has P ν 404 5 V_product_1) (hp : Has P ν 316 2 V_product) (h : Has P ν 168 2 V_ProductCategory) (c d : Cat) (b : Small c) (b' : Small d) (nx : Nat) :
    OkM P ν 168 [.agg c.cells, .agg d.cells] hempty nx (IsK (prR c d) (prC c d) nx) := by
  refine h _ _ _ _ rfl fun hwf => ?_
  unfold V_ProductCategory
  have hc := areCats_fz hac [(.ptr c.cells 0, decide (IsCat c)), (.ptr d.cells 0, decide (IsCat d))] (by simp) (by
    intro p hp
    simp only [List.mem_cons, List.not_mem_nil, or_false] at hp
    rcases hp with rfl | rfl
    · exact (isCategory_ok K c b).fzb
    · exact (isCategory_ok K d b').fzb) (by
    intro p hp
    simp only [List.mem_cons, List.not_mem_nil, or_false] at hp
    rcases hp with rfl | rfl <;> rfl)
  simp only [List.map_cons, List.map_nil, List.length_cons, List.length_nil, Nat.reduceAdd, List.all_cons, List.all_nil, Bool.and_true] at hc
  have bad : ∀ (k : Int) (H : Hp) (n1 : Nat), prC c d = k → k ≠ 0 → nx ≤ n1 → ∃ H', Sub H' H ∧ IsK (prR c d) (prC c d) nx (.tup [.agg [int 0, .nil, .nil, .nil, .nil], int k]) H' n1 := fun k H n1 e hk hn => by
    rw [prR, e, if_neg hk]
    exact (zeroK_own (H := H) (lo := nx) (hi := n1)).back (Nat.le_refl _) hn
  try simp (disch := (first | rfl | with_reducible assumption | with_reducible solve_by_elim (maxDepth := 8) [Shape.inT, Shape.inI, Shape.inC, Shape.inK, Shape.obF, Shape.obT, Shape.arI, Arr.inF] | omega)) only [S2, Nat.reduceEqDiff, Nat.reduceAdd, iput, puts]
  refine den_newR fun H0 y0 e0 => ?_
  repeat (first | simp (disch := (first | rfl | with_reducible assumption | with_reducible solve_by_elim (maxDepth := 8) [Shape.inT, Shape.inI, Shape.inC, Shape.inK, Shape.obF, Shape.obT, Shape.arI, Arr.inF] | omega)) only [S2, Nat.reduceEqDiff, Nat.reduceAdd, iput, puts, p_mslP2] | (refine den_call rfl (by first | (simp only [SS, Nat.reduceEqDiff, Nat.reduceAdd, iput, puts, FF, frzL_cat]; done) | (simp only [SS, Nat.reduceEqDiff, Nat.reduceAdd, iput, puts, FF, frzL_cat]; rfl)) (by first | exact hc) ?_) | (refine den_calli rfl (by first | (simp only [SS, Nat.reduceEqDiff, Nat.reduceAdd, iput, puts, FF, frzL_cat]; done) | (simp only [SS, Nat.reduceEqDiff, Nat.reduceAdd, iput, puts, FF, frzL_cat]; rfl)) (by first | exact hc) ?_))
  refine ⟨fun h1 => ?_, fun h1 => ?_⟩
  · try simp (disch := (first | rfl | with_reducible assumption | with_reducible solve_by_elim (maxDepth := 8) [Shape.inT, Shape.inI, Shape.inC, Shape.inK, Shape.obF, Shape.obT, Shape.arI, Arr.inF] | omega)) only [S2, Nat.reduceEqDiff, Nat.reduceAdd, iput, puts, mkZ]
    refine den_stR (o := nx) (m := 5) (d := [int 0, .nil, .nil, .nil, .nil]) rfl rfl y0 rfl rfl rfl fun H1 y1 e1 => ?_
    obtain ⟨H', q1, q2⟩ := bad 1 H1 (nx + 1) (by unfold prC; rw [if_neg fun e => by simp [e.1, e.2] at h1]) (by decide) (by omega)
    refine ⟨.tup [.agg [int 0, .nil, .nil, .nil, .nil], int 1], ?_, H', q1, q2⟩
    simp only [retOf, rets, SS, Nat.reduceEqDiff, Nat.reduceAdd, iput, puts, pLd, y1]
    rfl
  have hc2 : IsCat c ∧ IsCat d := by simpa using h1
  obtain ⟨m1, m2, m3⟩ := prod_made hc2
  refine den_callo (fc := (316, [])) (ys := [.ptr c.cells 0, .ptr d.cells 0]) rfl (by simp only [SS, Nat.reduceEqDiff, Nat.reduceAdd, iput, puts, FF, frzL_cat]) (product_ok K.arrows K.thn hta hq1 hp c d hc2.1.1 hc2.2.1 (nx + 1)) (IsKV.some _ _ _) fun u H' nx' hu => ?_
  obtain ⟨q1, q2, q3, r0, rfl, own⟩ := hu.own (fun k => cln_bool _ _ _) H0
  refine ⟨q1, q2, ?_⟩
  have y1 : hmerge (nx + 1) H0 H' nx = some [int 0, .nil, .nil, .nil, .nil] := (hmerge_lo (by omega)).trans y0
  generalize hmerge (nx + 1) H0 H' = H1 at own y1
  rw [m3] at own
  obtain ⟨ga, gb, gd, ge, rfl, ownC⟩ := own
  have own : OwnK (prR c d) (.agg [int (prR c d).o, ga, gb, gd, ge]) _ _ _ := ⟨ga, gb, gd, ge, rfl, ownC⟩
  clear ownC
  try simp (disch := (first | rfl | with_reducible assumption | with_reducible solve_by_elim (maxDepth := 8) [Shape.inT, Shape.inI, Shape.inC, Shape.inK, Shape.obF, Shape.obT, Shape.arI, Arr.inF] | omega)) only [S2, Nat.reduceEqDiff, Nat.reduceAdd, iput, puts]
  refine den_newR fun H2 x2 e2 => ?_
  have own := own.mono (Nat.le_refl _) fun o h1 h2 => e2 o (by omega)
  have y2 := (e2 nx (by omega)).trans y1
  refine den_stR (m := 5) (d := [int (prR c d).o, ga, gb, gd, ge]) rfl rfl x2 rfl rfl own.one5 fun H3 x3 e3 => ?_
  have own := own.mono (Nat.le_refl _) fun o h1 h2 => e3 o (by omega)
  have y3 := (e3 nx (by omega)).trans y2
  try simp (disch := (first | rfl | with_reducible assumption | with_reducible solve_by_elim (maxDepth := 8) [Shape.inT, Shape.inI, Shape.inC, Shape.inK, Shape.obF, Shape.obT, Shape.arI, Arr.inF] | omega)) only [S2, Nat.reduceEqDiff, Nat.reduceAdd, iput, puts]
  refine ⟨fun g1 => ?_, fun g1 => ?_⟩
  · have nf : ¬ FitK c d := by simpa using g1
    try simp (disch := (first | rfl | with_reducible assumption | with_reducible solve_by_elim (maxDepth := 8) [Shape.inT, Shape.inI, Shape.inC, Shape.inK, Shape.obF, Shape.obT, Shape.arI, Arr.inF] | omega)) only [S2, Nat.reduceEqDiff, Nat.reduceAdd, iput, puts, mkZ]
    refine den_stR (o := nx) (m := 5) (d := [int 0, .nil, .nil, .nil, .nil]) rfl rfl y3 rfl rfl rfl fun H4 y4 e4 => ?_
    obtain ⟨H', q1, q2⟩ := bad 3 H4 (nx' + 1) (by unfold prC; rw [if_pos hc2, if_neg nf]) (by decide) (by omega)
    refine ⟨.tup [.agg [int 0, .nil, .nil, .nil, .nil], int 3], ?_, H', q1, q2⟩
    simp only [retOf, rets, SS, Nat.reduceEqDiff, Nat.reduceAdd, iput, puts, pLd, y4]
    rfl
  · have f : FitK c d := by simpa using g1
    have e0 : prC c d = 0 := by unfold prC; rw [if_pos hc2, if_pos f]
    try simp (disch := (first | rfl | with_reducible assumption | with_reducible solve_by_elim (maxDepth := 8) [Shape.inT, Shape.inI, Shape.inC, Shape.inK, Shape.obF, Shape.obT, Shape.arI, Arr.inF] | omega)) only [S2, Nat.reduceEqDiff, Nat.reduceAdd, iput, puts, p_ldsm (l := 5) x3 rfl]
    refine den_stR (o := nx) (m := 5) (d := [int (prR c d).o, ga, gb, gd, ge]) rfl rfl y3 rfl rfl own.one5 fun H4 y4 e4 => ?_
    have own := own.mono (show nx' ≤ nx' + 1 by omega) fun o h1 h2 => e4 o (by omega)
    obtain ⟨H5, q4, q5⟩ := own.back (w := int 0) (nx := nx) (by omega) (by omega)
    refine ⟨.tup [.agg [int (prR c d).o, ga, gb, gd, ge], int 0], ?_, H5, q4, ?_⟩
    · simp only [retOf, rets, SS, Nat.reduceEqDiff, Nat.reduceAdd, iput, puts, pLd, y4]
      rfl
    · rw [e0]; exact q5
set_option maxHeartbeats 2000000 in
theorem sProductCategory_fi (K : HSpec P ν) (h2 : Has P ν 312 2 V_spec_l03Two) (hf : Has P ν 359 1 V_spec_l02Fits) (hm : Has P ν 313 1 V_spec_l03Made) (hp : Has P ν 314 2 V_spec_l03Product) (h : Has P ν 167 2 V_spec_ProductCategory) (c d : Cat) (b : Small c) (b' : Small d) :
    Fi (OkM P ν) 167 [.agg c.cells, .agg d.cells] (.tup [.agg (prR c d).cells, int (prC c d)]) := by
  refine OkM.mono (Φ := fun r H' nx' => r = .tup [.agg (prR c d).cells, int (prC c d)] ∨ (prR c d = zeroK ∧ r = .tup [.agg [int 0, .nil, .nil, .nil, .nil], int (prC c d)])) (h [.agg c.cells, .agg d.cells] hempty 0 _ rfl fun hwf => ?_) (by
    rintro r H' nx' (rfl | ⟨e, rfl⟩)
    · exact frz_kc _ _
    · rw [e]; exact frz_k0 _)
  unfold V_spec_ProductCategory
  try simp (disch := (first | rfl | with_reducible assumption | with_reducible solve_by_elim (maxDepth := 8) [Shape.inT, Shape.inI, Shape.inC, Shape.inK, Shape.obF, Shape.obT, Shape.arI, Arr.inF] | omega)) only [S2, Nat.reduceEqDiff, Nat.reduceAdd, iput, puts]
  refine den_newR fun H0 y0 e0 => ?_
  by_cases hc : IsCat c ∧ IsCat d
  · have t2 := l03Two_fz (P := P) (ν := ν) K h2 c d b b'
    rw [if_pos hc] at t2
    obtain ⟨m1, m2, m3⟩ := prod_made hc
    have nn : c.f.length * d.f.length ≤ 40 * 40 := Nat.mul_le_mul hc.1.1.n40 hc.2.1.n40
    have mi := l03Made_fi (P := P) (ν := ν) hf hm (prodK c d) (by show (gl _ _).length ≤ _; rw [gl_len]; omega)
    rw [m1, m2] at mi
    repeat (first | simp (disch := (first | rfl | with_reducible assumption | with_reducible solve_by_elim (maxDepth := 8) [Shape.inT, Shape.inI, Shape.inC, Shape.inK, Shape.obF, Shape.obT, Shape.arI, Arr.inF] | omega)) only [S2, Nat.reduceEqDiff, Nat.reduceAdd, iput, puts] | (refine den_call rfl (by first | (simp only [SS, Nat.reduceEqDiff, Nat.reduceAdd, iput, puts, FF, frzL_cat]; done) | (simp only [SS, Nat.reduceEqDiff, Nat.reduceAdd, iput, puts, FF, frzL_cat]; rfl)) (by first | exact t2 | exact l03Product_fi hp c d hc.1.1 hc.2.1 | exact mi) ?_) | (refine den_calli rfl (by first | (simp only [SS, Nat.reduceEqDiff, Nat.reduceAdd, iput, puts, FF, frzL_cat]; done) | (simp only [SS, Nat.reduceEqDiff, Nat.reduceAdd, iput, puts, FF, frzL_cat]; rfl)) (by first | exact t2 | exact l03Product_fi hp c d hc.1.1 hc.2.1 | exact mi) ?_))
    refine den_stR (o := 0) (m := 5) (d := (prR c d).cells) rfl rfl y0 rfl rfl rfl fun H1 y1 e1 => ?_
    refine ⟨.tup [.agg (prR c d).cells, int (prC c d)], ?_, H1, fun _ _ h => h, .inl rfl⟩
    simp only [retOf, rets, SS, Nat.reduceEqDiff, Nat.reduceAdd, iput, puts, pLd, y1]
    rfl
  · have t2 := l03Two_fz (P := P) (ν := ν) K h2 c d b b'
    rw [if_neg hc] at t2
    have e : prC c d = 1 := by unfold prC; rw [if_neg hc]
    repeat (first | simp (disch := (first | rfl | with_reducible assumption | with_reducible solve_by_elim (maxDepth := 8) [Shape.inT, Shape.inI, Shape.inC, Shape.inK, Shape.obF, Shape.obT, Shape.arI, Arr.inF] | omega)) only [S2, Nat.reduceEqDiff, Nat.reduceAdd, iput, puts, mkZ] | (refine den_call rfl (by first | (simp only [SS, Nat.reduceEqDiff, Nat.reduceAdd, iput, puts, FF, frzL_cat]; done) | (simp only [SS, Nat.reduceEqDiff, Nat.reduceAdd, iput, puts, FF, frzL_cat]; rfl)) (by first | exact t2) ?_) | (refine den_calli rfl (by first | (simp only [SS, Nat.reduceEqDiff, Nat.reduceAdd, iput, puts, FF, frzL_cat]; done) | (simp only [SS, Nat.reduceEqDiff, Nat.reduceAdd, iput, puts, FF, frzL_cat]; rfl)) (by first | exact t2) ?_))
    refine ⟨fun _ => ?_, fun hh => absurd hh (by decide)⟩
    refine den_stR (o := 0) (m := 5) (d := [int 0, .nil, .nil, .nil, .nil]) rfl rfl y0 rfl rfl rfl fun H1 y1 e1 => ?_
    refine ⟨.tup [.agg [int 0, .nil, .nil, .nil, .nil], int 1], ?_, H1, fun _ _ h => h, .inr ⟨by rw [prR, if_neg (by rw [e]; decide)], by rw [e]⟩⟩
    simp only [retOf, rets, SS, Nat.reduceEqDiff, Nat.reduceAdd, iput, puts, pLd, y1]
    rfl
theorem ProductCategory_both (K : HCat P ν) (hac : Has P ν 315 1 V_areCategories) (hta : Has P ν 353 2 V_Category_table) (hq1 : Has P ν 404 5 V_product_1) (hp : Has P ν 316 2 V_product) (h : Has P ν 168 2 V_ProductCategory) (KS : HSpec P ν) (h2 : Has P ν 312 2 V_spec_l03Two) (hf : Has P ν 359 1 V_spec_l02Fits) (hm : Has P ν 313 1 V_spec_l03Made) (hsp : Has P ν 314 2 V_spec_l03Product) (h' : Has P ν 167 2 V_spec_ProductCategory) (c : Cat) (b : Small c) (d : Cat) (b' : Small d) :
    BothK P ν 168 167 [.agg c.cells, .agg d.cells] :=
  ⟨prR c d, prC c d, prR_small c d, fun nx => ProductCategory_ok K hac hta hq1 hp h c d b b' nx, sProductCategory_fi KS h2 hf hm hsp h' c d b b'⟩
end Go.Av
