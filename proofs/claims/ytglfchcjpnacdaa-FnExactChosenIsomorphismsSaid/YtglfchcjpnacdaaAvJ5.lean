/-
  Chosen isomorphisms: both sides.
-/
import Derived.Test.YtglfchcjpnacdaaAvJ4
namespace Go.Av
open Classical
set_option linter.unusedSimpArgs false
set_option linter.unusedVariables false
variable {P : Program} {ν : Nat → FuncId}

/-- The chosen isomorphism of an object to the first of its class. -/
noncomputable def choF (c : Cat) (x : Nat) : Int := if x = lead (cl c) x then c.I x else isoF c x (lead (cl c) x)
noncomputable def choL (c : Cat) (n : Nat) : List Int := (List.range n).map (choF c)
theorem choL_len {c : Cat} {n : Nat} : (choL c n).length = n := by simp [choL]
theorem choL_succ {c : Cat} {n : Nat} : choL c (n + 1) = choL c n ++ [choF c n] := by unfold choL; rw [List.range_succ, List.map_append]; rfl
def V_spec_l11Least : Vc :=
  .op true (.p .box [.t 0]) <|
  .op true (.p (.ld (some 5)) [.t 3]) <|
  .op true (.call (.f 309) [.t 4, .t 1, .t 2]) <|
  .loop 0 [.c (int 0)] <|
  .op true (.p .len [.t 5]) <|
  .op true (.p (.bin .lss) [.t 6, .t 7]) <|
  .br 8
   (.op true (.p (.ld (some 5)) [.t 3]) <|
   .op true (.p (.iad 1) [.t 5, .t 6]) <|
   .op true (.p (.ld none) [.t 10]) <|
   .op true (.call (.f 423) [.t 9, .t 11]) <|
   .op true (.p (.bin .geq) [.t 12, .c (int 0)]) <|
   .br 13
    (.op true (.p (.iad 1) [.t 5, .t 6]) <|
    .op true (.p (.ld none) [.t 14]) <|
    .ret [(.t 15, none)])
    (.op true (.p (.bin .add) [.t 6, .c (int 1)]) <|
    .again 0 [.t 14]))
   (.ret [(.c (int (-1)), none)])
theorem l11Least_fz (A : HAlike P ν) (h : Has P ν 382 3 V_spec_l11Least) {c : Cat} (s : Shape c) (x y : Int) : Fz (OkM P ν) 382 [.agg c.cells, int x, int y] (int (isoF c x y)) := by
  refine Fn.fzi fun H nx => h _ _ _ _ rfl fun hwf => ?_
  unfold V_spec_l11Least
  have l1 := homL_len s x y
  repeat (first | simp (disch := (first | rfl | with_reducible assumption | with_reducible solve_by_elim (maxDepth := 8) [Shape.inT, Shape.inI, Shape.inC, Shape.inK, Shape.obF, Shape.obT, Shape.arI, Arr.inF] | omega)) only [S2, Nat.reduceEqDiff, Nat.reduceAdd, iput, puts] | (refine den_call rfl (by first | (simp only [SS, Nat.reduceEqDiff, Nat.reduceAdd, iput, puts, FF, frzL_cat]; done) | (simp only [SS, Nat.reduceEqDiff, Nat.reduceAdd, iput, puts, FF, frzL_cat]; rfl)) (by first | exact s.sHomFz A.hom x y) ?_) | (refine den_calli rfl (by first | (simp only [SS, Nat.reduceEqDiff, Nat.reduceAdd, iput, puts, FF, frzL_cat]; done) | (simp only [SS, Nat.reduceEqDiff, Nat.reduceAdd, iput, puts, FF, frzL_cat]; rfl)) (by first | exact s.sHomFz A.hom x y) ?_))
  refine den_for (homL c x y).length (fun i => ∀ k, k < i → decide (0 ≤ inv c ((homL c x y).getD k 0)) = false) (fun k hk => by omega) fun i hi hp => ?_
  by_cases hlt : i < (homL c x y).length
  · have i1 : In (homL c x y) (i : Int) := In.nat hlt
    have a := hom_arr hlt
    repeat (first | simp (disch := (first | rfl | with_reducible assumption | with_reducible solve_by_elim (maxDepth := 8) [Shape.inT, Shape.inI, Shape.inC, Shape.inK, Shape.obF, Shape.obT, Shape.arI, Arr.inF] | omega)) only [S2, Nat.reduceEqDiff, Nat.reduceAdd, iput, puts, hlt, gI_nat] | (refine den_call rfl (by first | (simp only [SS, Nat.reduceEqDiff, Nat.reduceAdd, iput, puts, FF, frzL_cat]; done) | (simp only [SS, Nat.reduceEqDiff, Nat.reduceAdd, iput, puts, FF, frzL_cat]; rfl)) (by first | exact s.sInvFz A.hom A.thn A.unit A.inv a) ?_) | (refine den_calli rfl (by first | (simp only [SS, Nat.reduceEqDiff, Nat.reduceAdd, iput, puts, FF, frzL_cat]; done) | (simp only [SS, Nat.reduceEqDiff, Nat.reduceAdd, iput, puts, FF, frzL_cat]; rfl)) (by first | exact s.sInvFz A.hom A.thn A.unit A.inv a) ?_))
    refine ⟨fun h1 => ?_, fun h1 => ?_⟩
    · try simp (disch := (first | rfl | with_reducible assumption | with_reducible solve_by_elim (maxDepth := 8) [Shape.inT, Shape.inI, Shape.inC, Shape.inK, Shape.obF, Shape.obT, Shape.arI, Arr.inF] | omega)) only [S2, Nat.reduceEqDiff, Nat.reduceAdd, iput, puts, gI_nat]
      exact ⟨_, rfl, H, fun _ _ h => h, by rw [isoF, findI_at hlt (by simpa using h1) hp]; rfl, rfl, Nat.le_refl _⟩
    · try simp (disch := (first | rfl | with_reducible assumption | with_reducible solve_by_elim (maxDepth := 8) [Shape.inT, Shape.inI, Shape.inC, Shape.inK, Shape.obF, Shape.obT, Shape.arI, Arr.inF] | omega)) only [S2, Nat.reduceEqDiff, Nat.reduceAdd, iput, puts]
      refine up rfl hlt fun k hk => ?_
      by_cases e : k = i
      · subst e; first | exact decide_eq_false (by omega) | omega
      · first | exact hp k (by omega) | exact of_decide_eq_false (hp k (by omega))
  · try simp (disch := (first | rfl | with_reducible assumption | with_reducible solve_by_elim (maxDepth := 8) [Shape.inT, Shape.inI, Shape.inC, Shape.inK, Shape.obF, Shape.obT, Shape.arI, Arr.inF] | omega)) only [S2, Nat.reduceEqDiff, Nat.reduceAdd, iput, puts, hlt]
    exact ⟨_, rfl, H, fun _ _ h => h, by rw [isoF, findI_none fun k hk => hp k (by omega)]; rfl, rfl, Nat.le_refl _⟩
def V_Category_chosen : Vc :=
  .op true (.call (.f 335) [.t 0]) <|
  .op true (.call (.f 346) [.t 1]) <|
  .op true (.p (.msl 0 [] []) []) <|
  .op true (.p .len [.t 1]) <|
  .loop 0 [.t 3, .c (int 0)] <|
  .op true (.p (.bin .lss) [.t 6, .t 4]) <|
  .br 7
   (.op true (.p (.iad 1) [.t 1, .t 6]) <|
   .op true (.p (.ld none) [.t 8]) <|
   .op true (.p (.iad 1) [.t 2, .t 9]) <|
   .op true (.p (.ld none) [.t 10]) <|
   .op true (.p (.bin .eql) [.t 6, .t 11]) <|
   .br 12
    (.op true (.p .nck [.t 0]) <|
    .op true (.p (.fad 3) [.t 13]) <|
    .op true (.p (.ld none) [.t 14]) <|
    .op true (.p (.iad 1) [.t 15, .t 6]) <|
    .op true (.p (.ld none) [.t 16]) <|
    .op true (.p (.msl 1 [int 0] [(0, 1)]) [.t 17]) <|
    .op true (.app 1 (.t 5) (.t 18)) <|
    .op true (.p (.bin .add) [.t 6, .c (int 1)]) <|
    .again 0 [.t 19, .t 20])
    (.op true (.call (.f 383) [.t 0, .t 6, .t 11]) <|
    .op true (.p (.msl 1 [int 0] [(0, 1)]) [.t 13]) <|
    .op true (.app 1 (.t 5) (.t 14)) <|
    .op true (.p (.bin .add) [.t 6, .c (int 1)]) <|
    .again 0 [.t 15, .t 16]))
   (.ret [(.t 5, none)])
set_option maxHeartbeats 1000000 in
theorem chosen_ok (J : HJoin P ν) (I : HIso P ν) (hle : Has P ν 346 1 V_partition_leaders) (hio : Has P ν 383 3 V_Category_isomorphic) (h : Has P ν 268 1 V_Category_chosen) (c : Cat) (s : Shape c) (H : Hp) (nx : Nat) : OkM P ν 268 [.ptr c.cells 0] H nx (IsI (choL c c.o.toNat) H nx) := by
  refine h _ _ _ _ rfl fun hwf => ?_
  unfold V_Category_chosen
  have o0 := s.o0
  have o8 := s.o8
  have il := s.il
  have ln := nrm_len (f := cl c) (n := c.o.toNat)
  have iF : Fz (OkM P ν) 335 [.ptr c.cells 0] (islice (nrm (cl c) c.o.toNat)) := OkM.fz (fun H nx => isoClasses_ok J I.hom I.thn I.inv I.iso c s H nx) fun _ _ _ hh => hh.frz _
  have lF : Fz (OkM P ν) 346 [islice (nrm (cl c) c.o.toNat)] (islice (fstL (cl c) c.o.toNat)) := OkM.fz (fun H nx => leaders_ok hle (cl c) c.o.toNat (by omega) H nx) fun _ _ _ hh => hh.frz _
  repeat (first | simp (disch := (first | rfl | with_reducible assumption | with_reducible solve_by_elim (maxDepth := 8) [Shape.inT, Shape.inI, Shape.inC, Shape.inK, Shape.obF, Shape.obT, Shape.arI, Arr.inF] | omega)) only [S2, Nat.reduceEqDiff, Nat.reduceAdd, iput, puts] | (refine den_call rfl (by first | (simp only [SS, Nat.reduceEqDiff, Nat.reduceAdd, iput, puts, FF, frzL_cat]; done) | (simp only [SS, Nat.reduceEqDiff, Nat.reduceAdd, iput, puts, FF, frzL_cat]; rfl)) (by first | exact iF | exact lF) ?_) | (refine den_calli rfl (by first | (simp only [SS, Nat.reduceEqDiff, Nat.reduceAdd, iput, puts, FF, frzL_cat]; done) | (simp only [SS, Nat.reduceEqDiff, Nat.reduceAdd, iput, puts, FF, frzL_cat]; rfl)) (by first | exact iF | exact lF) ?_))
  refine den_loop (α := Nat × AV) (fun a => [a.2, int a.1]) (fun a H' nx' => a.1 ≤ c.o.toNat ∧ IsI (choL c a.1) H nx a.2 H' nx') (fun a => c.o.toNat - a.1) (0, .nil) rfl ⟨Nat.zero_le _, Nat.le_refl _, .inl ⟨rfl, rfl, rfl⟩⟩ ?_
  rintro ⟨i, v⟩ H1 n1 ⟨hi, hI⟩
  simp only at hi hI
  have cll := choL_len (c := c) (n := i)
  by_cases hlt : i < c.o.toNat
  · have hlt' : (i : Int) < ((nrm (cl c) c.o.toNat).length : Int) := by rw [ln]; omega
    have i1 : In (nrm (cl c) c.o.toNat) (i : Int) := In.nat (by rw [ln]; omega)
    have g1 : gI (nrm (cl c) c.o.toNat) (i : Int) = (numOf (cl c) i : Int) := by rw [gI_nat]; exact nrm_at (by omega)
    obtain ⟨f1, f2⟩ := fstL_at (f := cl c) (n := c.o.toNat) (x := i) (by omega)
    have i2 : In (fstL (cl c) c.o.toNat) (numOf (cl c) i : Int) := In.nat f1
    have g2 : gI (fstL (cl c) c.o.toNat) (numOf (cl c) i : Int) = (lead (cl c) i : Int) := by rw [gI_nat]; exact f2
    have i3 : In c.i (i : Int) := In.nat (by omega)
    have hlt2 : i < (nrm (cl c) c.o.toNat).length := by rw [ln]; exact hlt
    try simp (disch := (first | rfl | with_reducible assumption | with_reducible solve_by_elim (maxDepth := 8) [Shape.inT, Shape.inI, Shape.inC, Shape.inK, Shape.obF, Shape.obT, Shape.arI, Arr.inF] | omega)) only [S2, Nat.reduceEqDiff, Nat.reduceAdd, iput, puts, hlt2, hlt', g1, g2]
    refine ⟨fun e => ?_, fun e => ?_⟩
    · try simp (disch := (first | rfl | with_reducible assumption | with_reducible solve_by_elim (maxDepth := 8) [Shape.inT, Shape.inI, Shape.inC, Shape.inK, Shape.obF, Shape.obT, Shape.arI, Arr.inF] | omega)) only [S2, Nat.reduceEqDiff, Nat.reduceAdd, iput, puts]
      refine den_appI (m := [c.I i]) (H0 := H) (nx0 := nx) hI rfl (by simp) (by simp only [List.length_cons, List.length_nil]; omega) fun v2 H3 n3 hI2 => ?_
      try simp (disch := (first | rfl | with_reducible assumption | with_reducible solve_by_elim (maxDepth := 8) [Shape.inT, Shape.inI, Shape.inC, Shape.inK, Shape.obF, Shape.obT, Shape.arI, Arr.inF] | omega)) only [S2, Nat.reduceEqDiff, Nat.reduceAdd, iput, puts]
      refine ⟨(i + 1, v2), rfl, ⟨by simp only; omega, ?_⟩, by simp only; omega⟩
      simp only
      rw [choL_succ, choF, if_pos (by omega)]
      exact hI2
    · repeat (first | simp (disch := (first | rfl | with_reducible assumption | with_reducible solve_by_elim (maxDepth := 8) [Shape.inT, Shape.inI, Shape.inC, Shape.inK, Shape.obF, Shape.obT, Shape.arI, Arr.inF] | omega)) only [S2, Nat.reduceEqDiff, Nat.reduceAdd, iput, puts] | (refine den_call rfl (by first | (simp only [SS, Nat.reduceEqDiff, Nat.reduceAdd, iput, puts, FF, frzL_cat]; done) | (simp only [SS, Nat.reduceEqDiff, Nat.reduceAdd, iput, puts, FF, frzL_cat]; rfl)) (by first | exact s.isoFz I.hom I.thn I.inv hio i (lead (cl c) i : Int)) ?_) | (refine den_calli rfl (by first | (simp only [SS, Nat.reduceEqDiff, Nat.reduceAdd, iput, puts, FF, frzL_cat]; done) | (simp only [SS, Nat.reduceEqDiff, Nat.reduceAdd, iput, puts, FF, frzL_cat]; rfl)) (by first | exact s.isoFz I.hom I.thn I.inv hio i (lead (cl c) i : Int)) ?_))
      refine den_appI (m := [isoF c i (lead (cl c) i)]) (H0 := H) (nx0 := nx) hI rfl (by simp) (by simp only [List.length_cons, List.length_nil]; omega) fun v2 H3 n3 hI2 => ?_
      try simp (disch := (first | rfl | with_reducible assumption | with_reducible solve_by_elim (maxDepth := 8) [Shape.inT, Shape.inI, Shape.inC, Shape.inK, Shape.obF, Shape.obT, Shape.arI, Arr.inF] | omega)) only [S2, Nat.reduceEqDiff, Nat.reduceAdd, iput, puts]
      refine ⟨(i + 1, v2), rfl, ⟨by simp only; omega, ?_⟩, by simp only; omega⟩
      simp only
      rw [choL_succ, choF, if_neg (by omega)]
      exact hI2
  · have hlt2 : ¬ i < (nrm (cl c) c.o.toNat).length := by rw [ln]; exact hlt
    try simp (disch := (first | rfl | with_reducible assumption | with_reducible solve_by_elim (maxDepth := 8) [Shape.inT, Shape.inI, Shape.inC, Shape.inK, Shape.obF, Shape.obT, Shape.arI, Arr.inF] | omega)) only [S2, Nat.reduceEqDiff, Nat.reduceAdd, iput, puts, hlt2]
    have : i = c.o.toNat := by omega
    subst this
    exact ⟨_, rfl, _, fun _ _ h => h, hI⟩
def V_spec_l11Chosen : Vc :=
  .op true (.p .box [.t 0]) <|
  .op true (.p (.ld (some 5)) [.t 1]) <|
  .op true (.call (.f 334) [.t 2]) <|
  .op true (.p (.msl 0 [] []) []) <|
  .loop 0 [.t 4, .c (int 0)] <|
  .op true (.p (.fad 0) [.t 1]) <|
  .op true (.p (.ld none) [.t 7]) <|
  .op true (.p (.bin .lss) [.t 6, .t 8]) <|
  .br 9
   (.op true (.p (.iad 1) [.t 3, .t 6]) <|
   .op true (.p (.ld none) [.t 10]) <|
   .op true (.call (.f 376) [.t 3, .t 11]) <|
   .op true (.p (.bin .eql) [.t 6, .t 12]) <|
   .br 13
    (.op true (.p (.fad 3) [.t 1]) <|
    .op true (.p (.ld none) [.t 14]) <|
    .op true (.p (.iad 1) [.t 15, .t 6]) <|
    .op true (.p (.ld none) [.t 16]) <|
    .op true (.p (.msl 1 [int 0] [(0, 1)]) [.t 17]) <|
    .op true (.app 1 (.t 5) (.t 18)) <|
    .op true (.p (.bin .add) [.t 6, .c (int 1)]) <|
    .again 0 [.t 19, .t 20])
    (.op true (.p (.ld (some 5)) [.t 1]) <|
    .op true (.call (.f 382) [.t 14, .t 6, .t 12]) <|
    .op true (.p (.msl 1 [int 0] [(0, 1)]) [.t 15]) <|
    .op true (.app 1 (.t 5) (.t 16)) <|
    .op true (.p (.bin .add) [.t 6, .c (int 1)]) <|
    .again 0 [.t 17, .t 18]))
   (.ret [(.t 5, none)])
set_option maxHeartbeats 1000000 in
theorem l11Chosen_ok (A : HAlike P ν) (L : HLab P ν) (hcl : Has P ν 334 1 V_spec_l11Classes) (hls : Has P ν 382 3 V_spec_l11Least) (h : Has P ν 267 1 V_spec_l11Chosen) (c : Cat) (s : Shape c) (H : Hp) (nx : Nat) : OkM P ν 267 [.agg c.cells] H nx (IsI (choL c c.o.toNat) H nx) := by
  refine h _ _ _ _ rfl fun hwf => ?_
  unfold V_spec_l11Chosen
  have o0 := s.o0
  have o8 := s.o8
  have il := s.il
  have ln := nrm_len (f := cl c) (n := c.o.toNat)
  have clF : Fz (OkM P ν) 334 [.agg c.cells] (islice (nrm (cl c) c.o.toNat)) := OkM.fz (fun H nx => l11Classes_ok A L hcl c s H nx) fun _ _ _ hh => hh.frz _
  repeat (first | simp (disch := (first | rfl | with_reducible assumption | with_reducible solve_by_elim (maxDepth := 8) [Shape.inT, Shape.inI, Shape.inC, Shape.inK, Shape.obF, Shape.obT, Shape.arI, Arr.inF] | omega)) only [S2, Nat.reduceEqDiff, Nat.reduceAdd, iput, puts] | (refine den_call rfl (by first | (simp only [SS, Nat.reduceEqDiff, Nat.reduceAdd, iput, puts, FF, frzL_cat]; done) | (simp only [SS, Nat.reduceEqDiff, Nat.reduceAdd, iput, puts, FF, frzL_cat]; rfl)) (by first | exact clF) ?_) | (refine den_calli rfl (by first | (simp only [SS, Nat.reduceEqDiff, Nat.reduceAdd, iput, puts, FF, frzL_cat]; done) | (simp only [SS, Nat.reduceEqDiff, Nat.reduceAdd, iput, puts, FF, frzL_cat]; rfl)) (by first | exact clF) ?_))
  refine den_loop (α := Nat × AV) (fun a => [a.2, int a.1]) (fun a H' nx' => a.1 ≤ c.o.toNat ∧ IsI (choL c a.1) H nx a.2 H' nx') (fun a => c.o.toNat - a.1) (0, .nil) rfl ⟨Nat.zero_le _, Nat.le_refl _, .inl ⟨rfl, rfl, rfl⟩⟩ ?_
  rintro ⟨i, v⟩ H1 n1 ⟨hi, hI⟩
  simp only at hi hI
  have cll := choL_len (c := c) (n := i)
  by_cases hlt : (i : Int) < c.o
  · have i1 : In (nrm (cl c) c.o.toNat) (i : Int) := In.nat (by rw [ln]; omega)
    have g1 : gI (nrm (cl c) c.o.toNat) (i : Int) = (numOf (cl c) i : Int) := by rw [gI_nat]; exact nrm_at (by omega)
    have ix := idx_nrm (f := cl c) (n := c.o.toNat) (x := i) (by omega)
    have i3 : In c.i (i : Int) := In.nat (by omega)
    repeat (first | simp (disch := (first | rfl | with_reducible assumption | with_reducible solve_by_elim (maxDepth := 8) [Shape.inT, Shape.inI, Shape.inC, Shape.inK, Shape.obF, Shape.obT, Shape.arI, Arr.inF] | omega)) only [S2, Nat.reduceEqDiff, Nat.reduceAdd, iput, puts, hlt, g1, ix] | (refine den_call rfl (by first | (simp only [SS, Nat.reduceEqDiff, Nat.reduceAdd, iput, puts, FF, frzL_cat]; done) | (simp only [SS, Nat.reduceEqDiff, Nat.reduceAdd, iput, puts, FF, frzL_cat]; rfl)) (by first | exact l01Index_fz L.index (nrm (cl c) c.o.toNat) (numOf (cl c) i) (by omega)) ?_) | (refine den_calli rfl (by first | (simp only [SS, Nat.reduceEqDiff, Nat.reduceAdd, iput, puts, FF, frzL_cat]; done) | (simp only [SS, Nat.reduceEqDiff, Nat.reduceAdd, iput, puts, FF, frzL_cat]; rfl)) (by first | exact l01Index_fz L.index (nrm (cl c) c.o.toNat) (numOf (cl c) i) (by omega)) ?_))
    refine ⟨fun e => ?_, fun e => ?_⟩
    · try simp (disch := (first | rfl | with_reducible assumption | with_reducible solve_by_elim (maxDepth := 8) [Shape.inT, Shape.inI, Shape.inC, Shape.inK, Shape.obF, Shape.obT, Shape.arI, Arr.inF] | omega)) only [S2, Nat.reduceEqDiff, Nat.reduceAdd, iput, puts]
      refine den_appI (m := [c.I i]) (H0 := H) (nx0 := nx) hI rfl (by simp) (by simp only [List.length_cons, List.length_nil]; omega) fun v2 H3 n3 hI2 => ?_
      try simp (disch := (first | rfl | with_reducible assumption | with_reducible solve_by_elim (maxDepth := 8) [Shape.inT, Shape.inI, Shape.inC, Shape.inK, Shape.obF, Shape.obT, Shape.arI, Arr.inF] | omega)) only [S2, Nat.reduceEqDiff, Nat.reduceAdd, iput, puts]
      refine ⟨(i + 1, v2), rfl, ⟨by simp only; omega, ?_⟩, by simp only; omega⟩
      simp only
      rw [choL_succ, choF, if_pos (by omega)]
      exact hI2
    · repeat (first | simp (disch := (first | rfl | with_reducible assumption | with_reducible solve_by_elim (maxDepth := 8) [Shape.inT, Shape.inI, Shape.inC, Shape.inK, Shape.obF, Shape.obT, Shape.arI, Arr.inF] | omega)) only [S2, Nat.reduceEqDiff, Nat.reduceAdd, iput, puts] | (refine den_call rfl (by first | (simp only [SS, Nat.reduceEqDiff, Nat.reduceAdd, iput, puts, FF, frzL_cat]; done) | (simp only [SS, Nat.reduceEqDiff, Nat.reduceAdd, iput, puts, FF, frzL_cat]; rfl)) (by first | exact l11Least_fz A hls s i (lead (cl c) i : Int)) ?_) | (refine den_calli rfl (by first | (simp only [SS, Nat.reduceEqDiff, Nat.reduceAdd, iput, puts, FF, frzL_cat]; done) | (simp only [SS, Nat.reduceEqDiff, Nat.reduceAdd, iput, puts, FF, frzL_cat]; rfl)) (by first | exact l11Least_fz A hls s i (lead (cl c) i : Int)) ?_))
      refine den_appI (m := [isoF c i (lead (cl c) i)]) (H0 := H) (nx0 := nx) hI rfl (by simp) (by simp only [List.length_cons, List.length_nil]; omega) fun v2 H3 n3 hI2 => ?_
      try simp (disch := (first | rfl | with_reducible assumption | with_reducible solve_by_elim (maxDepth := 8) [Shape.inT, Shape.inI, Shape.inC, Shape.inK, Shape.obF, Shape.obT, Shape.arI, Arr.inF] | omega)) only [S2, Nat.reduceEqDiff, Nat.reduceAdd, iput, puts]
      refine ⟨(i + 1, v2), rfl, ⟨by simp only; omega, ?_⟩, by simp only; omega⟩
      simp only
      rw [choL_succ, choF, if_neg (by omega)]
      exact hI2
  · try simp (disch := (first | rfl | with_reducible assumption | with_reducible solve_by_elim (maxDepth := 8) [Shape.inT, Shape.inI, Shape.inC, Shape.inK, Shape.obF, Shape.obT, Shape.arI, Arr.inF] | omega)) only [S2, Nat.reduceEqDiff, Nat.reduceAdd, iput, puts, hlt]
    have : i = c.o.toNat := by omega
    subst this
    exact ⟨_, rfl, _, fun _ _ h => h, hI⟩
def V_ChosenIsomorphisms : Vc :=
  .op true (.p .box [.t 0]) <|
  .op true (.call (.f 24) [.t 1]) <|
  .op true (.p .bnot [.t 2]) <|
  .br 3
   (.ret [(.c (.nil), none), (.c (int 1), none)])
   (.op true (.callm (.f 268) [.t 1]) <|
   .ret [(.t 4, none), (.c (int 0), none)])
def V_spec_ChosenIsomorphisms : Vc :=
  .op true (.p .box [.t 0]) <|
  .op true (.p (.ld (some 5)) [.t 1]) <|
  .op true (.call (.f 22) [.t 2]) <|
  .op true (.p .bnot [.t 3]) <|
  .br 4
   (.ret [(.c (.nil), none), (.c (int 1), none)])
   (.op true (.p (.ld (some 5)) [.t 1]) <|
   .op true (.callm (.f 267) [.t 5]) <|
   .ret [(.t 6, none), (.c (int 0), none)])
theorem ChosenIsomorphisms_both (K : HCat P ν) (J : HJoin P ν) (I : HIso P ν) (hle : Has P ν 346 1 V_partition_leaders) (hio : Has P ν 383 3 V_Category_isomorphic) (hch : Has P ν 268 1 V_Category_chosen) (h : Has P ν 128 1 V_ChosenIsomorphisms) (KS : HSpec P ν) (A : HAlike P ν) (L : HLab P ν) (hcl : Has P ν 334 1 V_spec_l11Classes) (hls : Has P ν 382 3 V_spec_l11Least) (hsc : Has P ν 267 1 V_spec_l11Chosen) (hs : Has P ν 127 1 V_spec_ChosenIsomorphisms) (c : Cat) (b : Small c) :
    BothP P ν 128 127 [.agg c.cells] := by
  by_cases hc : IsCat c
  · have s := hc.1
    have o8 := s.o8
    refine ⟨choL c c.o.toNat, 0, by rw [choL_len]; omega, fun H nx => h _ _ _ _ rfl fun hwf => ?_, fun H nx => hs _ _ _ _ rfl fun hwf => ?_⟩
    · unfold V_ChosenIsomorphisms
      repeat (first | simp (disch := (first | rfl | with_reducible assumption | with_reducible solve_by_elim (maxDepth := 8) [Shape.inT, Shape.inI, Shape.inC, Shape.inK, Shape.obF, Shape.obT, Shape.arI, Arr.inF] | omega)) only [S2, Nat.reduceEqDiff, Nat.reduceAdd, iput, puts, hc] | (refine den_call rfl (by first | (simp only [SS, Nat.reduceEqDiff, Nat.reduceAdd, iput, puts, FF, frzL_cat]; done) | (simp only [SS, Nat.reduceEqDiff, Nat.reduceAdd, iput, puts, FF, frzL_cat]; rfl)) (by first | exact (isCategory_ok K c b).fzb) ?_) | (refine den_calli rfl (by first | (simp only [SS, Nat.reduceEqDiff, Nat.reduceAdd, iput, puts, FF, frzL_cat]; done) | (simp only [SS, Nat.reduceEqDiff, Nat.reduceAdd, iput, puts, FF, frzL_cat]; rfl)) (by first | exact (isCategory_ok K c b).fzb) ?_))
      refine den_callm (fc := (268, [])) rfl (chosen_ok J I hle hio hch c s H nx) (IsI.some _ _ _) fun u H' nx' hu => ?_
      exact ⟨_, rfl, H', fun _ _ h => h, u, rfl, hu⟩
    · unfold V_spec_ChosenIsomorphisms
      repeat (first | simp (disch := (first | rfl | with_reducible assumption | with_reducible solve_by_elim (maxDepth := 8) [Shape.inT, Shape.inI, Shape.inC, Shape.inK, Shape.obF, Shape.obT, Shape.arI, Arr.inF] | omega)) only [S2, Nat.reduceEqDiff, Nat.reduceAdd, iput, puts, hc] | (refine den_call rfl (by first | (simp only [SS, Nat.reduceEqDiff, Nat.reduceAdd, iput, puts, FF, frzL_cat]; done) | (simp only [SS, Nat.reduceEqDiff, Nat.reduceAdd, iput, puts, FF, frzL_cat]; rfl)) (by first | exact (l02Is_ok KS c b).fzb) ?_) | (refine den_calli rfl (by first | (simp only [SS, Nat.reduceEqDiff, Nat.reduceAdd, iput, puts, FF, frzL_cat]; done) | (simp only [SS, Nat.reduceEqDiff, Nat.reduceAdd, iput, puts, FF, frzL_cat]; rfl)) (by first | exact (l02Is_ok KS c b).fzb) ?_))
      refine den_callm (fc := (267, [])) rfl (l11Chosen_ok A L hcl hls hsc c s H nx) (IsI.some _ _ _) fun u H' nx' hu => ?_
      exact ⟨_, rfl, H', fun _ _ h => h, u, rfl, hu⟩
  · refine ⟨[], 1, by simp, fun H nx => h _ _ _ _ rfl fun hwf => ?_, fun H nx => hs _ _ _ _ rfl fun hwf => ?_⟩
    · unfold V_ChosenIsomorphisms
      repeat (first | simp (disch := (first | rfl | with_reducible assumption | with_reducible solve_by_elim (maxDepth := 8) [Shape.inT, Shape.inI, Shape.inC, Shape.inK, Shape.obF, Shape.obT, Shape.arI, Arr.inF] | omega)) only [S2, Nat.reduceEqDiff, Nat.reduceAdd, iput, puts, hc] | (refine den_call rfl (by first | (simp only [SS, Nat.reduceEqDiff, Nat.reduceAdd, iput, puts, FF, frzL_cat]; done) | (simp only [SS, Nat.reduceEqDiff, Nat.reduceAdd, iput, puts, FF, frzL_cat]; rfl)) (by first | exact (isCategory_ok K c b).fzb) ?_) | (refine den_calli rfl (by first | (simp only [SS, Nat.reduceEqDiff, Nat.reduceAdd, iput, puts, FF, frzL_cat]; done) | (simp only [SS, Nat.reduceEqDiff, Nat.reduceAdd, iput, puts, FF, frzL_cat]; rfl)) (by first | exact (isCategory_ok K c b).fzb) ?_))
      exact ⟨_, rfl, H, fun _ _ h => h, .nil, rfl, IsI.nil _ _⟩
    · unfold V_spec_ChosenIsomorphisms
      repeat (first | simp (disch := (first | rfl | with_reducible assumption | with_reducible solve_by_elim (maxDepth := 8) [Shape.inT, Shape.inI, Shape.inC, Shape.inK, Shape.obF, Shape.obT, Shape.arI, Arr.inF] | omega)) only [S2, Nat.reduceEqDiff, Nat.reduceAdd, iput, puts, hc] | (refine den_call rfl (by first | (simp only [SS, Nat.reduceEqDiff, Nat.reduceAdd, iput, puts, FF, frzL_cat]; done) | (simp only [SS, Nat.reduceEqDiff, Nat.reduceAdd, iput, puts, FF, frzL_cat]; rfl)) (by first | exact (l02Is_ok KS c b).fzb) ?_) | (refine den_calli rfl (by first | (simp only [SS, Nat.reduceEqDiff, Nat.reduceAdd, iput, puts, FF, frzL_cat]; done) | (simp only [SS, Nat.reduceEqDiff, Nat.reduceAdd, iput, puts, FF, frzL_cat]; rfl)) (by first | exact (l02Is_ok KS c b).fzb) ?_))
      exact ⟨_, rfl, H, fun _ _ h => h, .nil, rfl, IsI.nil _ _⟩
end Go.Av
