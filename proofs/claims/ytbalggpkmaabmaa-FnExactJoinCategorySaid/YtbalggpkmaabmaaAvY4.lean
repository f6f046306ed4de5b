/-
  Sums and joins: the program's answer with its code.
-/
import Derived.Test.YtbalggpkmaabmaaAvY1
namespace Go.Av
open Classical
set_option linter.unusedSimpArgs false
set_option linter.unusedVariables false
variable {P : Program} {ν : Nat → FuncId}

def V_areCategories : Vc :=
  .op true (.p .len [.t 0]) <|
  .loop 0 [.c (int 0)] <|
  .op true (.p (.bin .lss) [.t 2, .t 1]) <|
  .br 3
   (.op true (.p (.iad 1) [.t 0, .t 2]) <|
   .op true (.p (.ld none) [.t 4]) <|
   .op true (.call (.f 24) [.t 5]) <|
   .op true (.p .bnot [.t 6]) <|
   .br 7
    (.ret [(.c (bool false), none)])
    (.op true (.p (.bin .add) [.t 2, .c (int 1)]) <|
    .again 0 [.t 8]))
   (.ret [(.c (bool true), none)])
theorem areCatsY_fz (h : Has P ν 315 1 V_areCategories) (L : List (AV × Bool)) (hl : L.length ≤ 1048576) (hL : ∀ p ∈ L, Fz (OkM P ν) 24 [p.1] (bool p.2)) (hst : ∀ p ∈ L, p.1.still = true) : Fz (OkM P ν) 315 [.sl (L.map (·.1)) L.length] (bool (L.all (·.2))) := by
  refine Fn.fzb fun H nx => h _ _ _ _ rfl fun hwf => ?_
  unfold V_areCategories
  simp only [SS, Nat.reduceEqDiff, Nat.reduceAdd, iput, puts]
  refine den_for L.length (fun i => ∀ k (hk : k < L.length), k < i → L[k].2 = true) (fun k hk hi => by omega) fun i hi hp => ?_
  by_cases hlt : i < L.length
  · have hm := List.getElem_mem hlt
    have hg : (L.map (·.1))[i]? = some L[i].1 := by simp [hlt]
    simp only [SS, Nat.reduceEqDiff, Nat.reduceAdd, iput, puts, hlt, not_true_eq_false, hg]
    refine den_call (fc := (24, [])) (ys := [L[i].1]) rfl (by simp only [SS, Nat.reduceEqDiff, Nat.reduceAdd, iput, puts, FF, frzL_cat, frzL, List.mapM_cons, List.mapM_nil, frz_still (hst _ hm)]; rfl) (hL _ hm) ?_
    simp only [SS, Nat.reduceEqDiff, Nat.reduceAdd, iput, puts, wrap_succ (show i < 9223372036854775807 by omega)]
    refine ⟨fun h1 => ?_, fun h1 => up rfl hlt fun k hk hk2 => ?_⟩
    · refine ⟨_, rfl, H, fun _ _ h => h, ?_, rfl, Nat.le_refl _⟩
      have : L.all (·.2) = false := by
        rw [Bool.eq_false_iff]; intro ha
        have := List.all_eq_true.1 ha _ hm
        rw [h1] at this; cases this
      rw [this]; rfl
    · by_cases e : k = i
      · subst e; exact h1
      · exact hp k hk (by omega)
  · simp only [SS, Nat.reduceEqDiff, Nat.reduceAdd, iput, puts, hlt, not_false_eq_true]
    refine ⟨_, rfl, H, fun _ _ h => h, ?_, rfl, Nat.le_refl _⟩
    have : L.all (·.2) = true := List.all_eq_true.2 fun p hp' => by
      obtain ⟨k, hk, rfl⟩ := List.getElem_of_mem hp'
      exact hp k hk (by omega)
    rw [this]; rfl
theorem p_mslQ2 {H : Hp} {a b : List AV} {i j : Nat} : pvf H (.msl 2 [.v (.pointer none), .v (.pointer none)] [(0, 1), (1, 1)]) [.ptr a i, .ptr b j] = some (.sl [.ptr a i, .ptr b j] 2) := rfl
def mkAdd (c d : Cat) (b : Bool) : Cat := ⟨c.o + d.o, fB c d b, tB c d b, iS c d, tbl (kA c d (fB c d b) (tB c d b)) (fB c d b) (tB c d b)⟩
noncomputable def adC (c d : Cat) (b : Bool) : Int := if IsCat c ∧ IsCat d then if FitB c d b then 0 else 3 else 1
noncomputable def adR (c d : Cat) (b : Bool) : Cat := if adC c d b = 0 then mkAdd c d b else zeroK
theorem add_made {c d : Cat} (b : Bool) (h : IsCat c ∧ IsCat d) : madeK (mkAdd c d b) = adR c d b ∧ madeC (mkAdd c d b) = adC c d b ∧ addK c d b = adR c d b := by
  have e : FitX (mkAdd c d b) ↔ FitB c d b := Iff.rfl
  have e2 : addK c d b = if FitB c d b then mkAdd c d b else zeroK := rfl
  rw [e2]
  unfold madeK madeC adR adC
  rw [if_pos h]
  by_cases f : FitB c d b
  · rw [if_pos (e.2 f), if_pos (e.2 f), if_pos f, if_pos f]; simp
  · rw [if_neg (mt e.1 f), if_neg (mt e.1 f), if_neg f, if_neg f]; simp
theorem adR_small (c d : Cat) (b : Bool) : Small2 (adR c d b) := by
  unfold adR
  split
  · rename_i e
    have hc : IsCat c ∧ IsCat d := by
      unfold adC at e
      by_cases h : IsCat c ∧ IsCat d
      · exact h
      · rw [if_neg h] at e; omega
    have f : FitB c d b := by
      unfold adC at e
      rw [if_pos hc] at e
      by_cases f : FitB c d b
      · exact f
      · rw [if_neg f] at e; omega
    have f2 : (fB c d b).length ≤ 40 := f.2
    have t2 : (tB c d b).length = (fB c d b).length := by
      unfold tB fB
      split
      · rw [tJ_len hc.1.1 hc.2.1, fJ_len]
      · rw [tS_len hc.1.1 hc.2.1, fS_len]
    have i1 := hc.1.1.il
    have i2 := hc.2.1.il
    have o1 := hc.1.1.o8
    have o2 := hc.2.1.o8
    have ii := iS_len hc.1.1 hc.2.1
    refine ⟨⟨?_, ?_, ?_, ?_⟩, fun k hk => ?_⟩
    · show (fB c d b).length ≤ _; omega
    · show (tB c d b).length ≤ _; omega
    · show (iS c d).length ≤ _; omega
    · show (tbl _ _ _).length ≤ _; rw [tbl_len]; omega
    · have hk' : k < (fB c d b).length := by
        have : (mkAdd c d b).c.length = (fB c d b).length := tbl_len
        omega
      have : (mkAdd c d b).c.getD k [] = tblRow (kA c d (fB c d b) (tB c d b)) (fB c d b) (tB c d b) k := tbl_row hk'
      rw [this, tblRow_len]
      omega
  · exact zeroK_small
def V_addedCode : Vc :=
  .op true (.new [int 0, .nil, .nil, .nil, .nil]) <|
  .op true (.p (.msl 2 [.v (.pointer none), .v (.pointer none)] [(0, 1), (1, 1)]) [.t 0, .t 1]) <|
  .op true (.call (.f 315) [.t 4]) <|
  .op true (.p .bnot [.t 5]) <|
  .br 6
   (.op true (.p (.mka [int 0, .nil, .nil, .nil, .nil] []) []) <|
   .op true (.st 5 (.t 3) (.t 7)) <|
   .ret [(.t 3, some (some 5)), (.c (int 1), none)])
   (.op true (.callo (.f 410) [.t 0, .t 1, .t 2]) <|
   .op true (.p (.ext 0) [.t 7]) <|
   .op true (.p (.ext 1) [.t 7]) <|
   .op true (.new [int 0, .nil, .nil, .nil, .nil]) <|
   .op true (.st 5 (.t 10) (.t 8)) <|
   .op true (.p .bnot [.t 9]) <|
   .br 12
    (.op true (.p (.mka [int 0, .nil, .nil, .nil, .nil] []) []) <|
    .op true (.st 5 (.t 3) (.t 13)) <|
    .ret [(.t 3, some (some 5)), (.c (int 3), none)])
    (.op true (.p (.ld (some 5)) [.t 10]) <|
    .op true (.st 5 (.t 3) (.t 13)) <|
    .ret [(.t 3, some (some 5)), (.c (int 0), none)]))
set_option maxHeartbeats 4000000 in
theorem addedCode_ok (K : HCat P ν) (hac : Has P ν 315 1 V_areCategories) (hcl : Has P ν 261 1 V_clone) (hta : Has P ν 353 2 V_Category_table) (hq1 : Has P ν 428 8 V_added_1) (hp : Has P ν 410 3 V_added) (h : Has P ν 337 3 V_addedCode) (c d : Cat) (b : Small c) (b' : Small d) (j : Bool) (nx : Nat) :
    OkM P ν 337 [.ptr c.cells 0, .ptr d.cells 0, bool j] hempty nx (IsK (adR c d j) (adC c d j) nx) := by
  refine h _ _ _ _ rfl fun hwf => ?_
  unfold V_addedCode
  have hc := areCatsY_fz hac [(.ptr c.cells 0, decide (IsCat c)), (.ptr d.cells 0, decide (IsCat d))] (by simp) (by
    intro p hp
    simp only [List.mem_cons, List.not_mem_nil, or_false] at hp
    rcases hp with rfl | rfl
    · exact (isCategory_ok K c b).fzb
    · exact (isCategory_ok K d b').fzb) (by
    intro p hp
    simp only [List.mem_cons, List.not_mem_nil, or_false] at hp
    rcases hp with rfl | rfl <;> rfl)
  simp only [List.map_cons, List.map_nil, List.length_cons, List.length_nil, Nat.reduceAdd, List.all_cons, List.all_nil, Bool.and_true] at hc
  have bad : ∀ (k : Int) (H : Hp) (n1 : Nat), adC c d j = k → k ≠ 0 → nx ≤ n1 → ∃ H', Sub H' H ∧ IsK (adR c d j) (adC c d j) nx (.tup [.agg [int 0, .nil, .nil, .nil, .nil], int k]) H' n1 := fun k H n1 e hk hn => by
    rw [adR, e, if_neg hk]
    exact (zeroK_own (H := H) (lo := nx) (hi := n1)).back (Nat.le_refl _) hn
  refine den_newR fun H0 y0 e0 => ?_
  repeat (first | simp (disch := (first | rfl | with_reducible assumption | with_reducible solve_by_elim (maxDepth := 8) [Shape.inT, Shape.inI, Shape.inC, Shape.inK, Shape.obF, Shape.obT, Shape.arI, Arr.inF] | omega)) only [S2, Nat.reduceEqDiff, Nat.reduceAdd, iput, puts, p_mslQ2] | (refine den_call rfl (by first | (simp only [SS, Nat.reduceEqDiff, Nat.reduceAdd, iput, puts, FF, frzL_cat]; done) | (simp only [SS, Nat.reduceEqDiff, Nat.reduceAdd, iput, puts, FF, frzL_cat]; rfl)) (by first | exact hc) ?_) | (refine den_calli rfl (by first | (simp only [SS, Nat.reduceEqDiff, Nat.reduceAdd, iput, puts, FF, frzL_cat]; done) | (simp only [SS, Nat.reduceEqDiff, Nat.reduceAdd, iput, puts, FF, frzL_cat]; rfl)) (by first | exact hc) ?_))
  refine ⟨fun h1 => ?_, fun h1 => ?_⟩
  · try simp (disch := (first | rfl | with_reducible assumption | with_reducible solve_by_elim (maxDepth := 8) [Shape.inT, Shape.inI, Shape.inC, Shape.inK, Shape.obF, Shape.obT, Shape.arI, Arr.inF] | omega)) only [S2, Nat.reduceEqDiff, Nat.reduceAdd, iput, puts, mkZ]
    refine den_stR (o := nx) (m := 5) (d := [int 0, .nil, .nil, .nil, .nil]) rfl rfl y0 rfl rfl rfl fun H1 y1 e1 => ?_
    obtain ⟨H', q1, q2⟩ := bad 1 H1 (nx + 1) (by unfold adC; rw [if_neg fun e => by simp [e.1, e.2] at h1]) (by decide) (by omega)
    refine ⟨.tup [.agg [int 0, .nil, .nil, .nil, .nil], int 1], ?_, H', q1, q2⟩
    simp only [retOf, rets, SS, Nat.reduceEqDiff, Nat.reduceAdd, iput, puts, pLd, y1]
    rfl
  have hc2 : IsCat c ∧ IsCat d := by simpa using h1
  obtain ⟨m1, m2, m3⟩ := add_made j hc2
  refine den_callo (fc := (410, [])) (ys := [.ptr c.cells 0, .ptr d.cells 0, bool j]) rfl (by simp only [SS, Nat.reduceEqDiff, Nat.reduceAdd, iput, puts, FF, frzL_cat]) (added_ok K.arrows K.thn K.inRange hcl hta hq1 hp c d hc2.1.1 hc2.2.1 j (nx + 1)) (IsKV.some _ _ _) fun u H' nx' hu => ?_
  obtain ⟨q1, q2, q3, r0, rfl, own⟩ := hu.own (fun k => cln_bool _ _ _) H0
  refine ⟨q1, q2, ?_⟩
  have y1 : hmerge (nx + 1) H0 H' nx = some [int 0, .nil, .nil, .nil, .nil] := (hmerge_lo (by omega)).trans y0
  generalize hmerge (nx + 1) H0 H' = H1 at own y1
  rw [m3] at own
  obtain ⟨ga, gb, gd, ge, rfl, ownC⟩ := own
  have own : OwnK (adR c d j) (.agg [int (adR c d j).o, ga, gb, gd, ge]) _ _ _ := ⟨ga, gb, gd, ge, rfl, ownC⟩
  clear ownC
  try simp (disch := (first | rfl | with_reducible assumption | with_reducible solve_by_elim (maxDepth := 8) [Shape.inT, Shape.inI, Shape.inC, Shape.inK, Shape.obF, Shape.obT, Shape.arI, Arr.inF] | omega)) only [S2, Nat.reduceEqDiff, Nat.reduceAdd, iput, puts]
  refine den_newR fun H2 x2 e2 => ?_
  have own := own.mono (Nat.le_refl _) fun o h1 h2 => e2 o (by omega)
  have y2 := (e2 nx (by omega)).trans y1
  refine den_stR (m := 5) (d := [int (adR c d j).o, ga, gb, gd, ge]) rfl rfl x2 rfl rfl own.one5 fun H3 x3 e3 => ?_
  have own := own.mono (Nat.le_refl _) fun o h1 h2 => e3 o (by omega)
  have y3 := (e3 nx (by omega)).trans y2
  try simp (disch := (first | rfl | with_reducible assumption | with_reducible solve_by_elim (maxDepth := 8) [Shape.inT, Shape.inI, Shape.inC, Shape.inK, Shape.obF, Shape.obT, Shape.arI, Arr.inF] | omega)) only [S2, Nat.reduceEqDiff, Nat.reduceAdd, iput, puts]
  refine ⟨fun g1 => ?_, fun g1 => ?_⟩
  · have nf : ¬ FitB c d j := by simpa using g1
    try simp (disch := (first | rfl | with_reducible assumption | with_reducible solve_by_elim (maxDepth := 8) [Shape.inT, Shape.inI, Shape.inC, Shape.inK, Shape.obF, Shape.obT, Shape.arI, Arr.inF] | omega)) only [S2, Nat.reduceEqDiff, Nat.reduceAdd, iput, puts, mkZ]
    refine den_stR (o := nx) (m := 5) (d := [int 0, .nil, .nil, .nil, .nil]) rfl rfl y3 rfl rfl rfl fun H4 y4 e4 => ?_
    obtain ⟨H', q1, q2⟩ := bad 3 H4 (nx' + 1) (by unfold adC; rw [if_pos hc2, if_neg nf]) (by decide) (by omega)
    refine ⟨.tup [.agg [int 0, .nil, .nil, .nil, .nil], int 3], ?_, H', q1, q2⟩
    simp only [retOf, rets, SS, Nat.reduceEqDiff, Nat.reduceAdd, iput, puts, pLd, y4]
    rfl
  · have f : FitB c d j := by simpa using g1
    have e0 : adC c d j = 0 := by unfold adC; rw [if_pos hc2, if_pos f]
    try simp (disch := (first | rfl | with_reducible assumption | with_reducible solve_by_elim (maxDepth := 8) [Shape.inT, Shape.inI, Shape.inC, Shape.inK, Shape.obF, Shape.obT, Shape.arI, Arr.inF] | omega)) only [S2, Nat.reduceEqDiff, Nat.reduceAdd, iput, puts, p_ldsm (l := 5) x3 rfl]
    refine den_stR (o := nx) (m := 5) (d := [int (adR c d j).o, ga, gb, gd, ge]) rfl rfl y3 rfl rfl own.one5 fun H4 y4 e4 => ?_
    have own := own.mono (show nx' ≤ nx' + 1 by omega) fun o h1 h2 => e4 o (by omega)
    obtain ⟨H5, q4, q5⟩ := own.back (w := int 0) (nx := nx) (by omega) (by omega)
    refine ⟨.tup [.agg [int (adR c d j).o, ga, gb, gd, ge], int 0], ?_, H5, q4, ?_⟩
    · simp only [retOf, rets, SS, Nat.reduceEqDiff, Nat.reduceAdd, iput, puts, pLd, y4]
      rfl
    · rw [e0]; exact q5
end Go.Av
