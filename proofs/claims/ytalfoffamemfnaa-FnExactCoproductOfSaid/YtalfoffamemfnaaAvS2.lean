/-
  The first universal span: the program's.
-/
import Derived.Test.YtalfoffamemfnaaAvS1
import Derived.Test.YtalfoffamemfnaaAvD4
namespace Go.Av
open Classical
set_option linter.unusedSimpArgs false
set_option linter.unusedVariables false
variable {P : Program} {ν : Nat → FuncId}

theorem p_boxA {H : Hp} {a b : Int} : pvf H .box [.agg [int a, int b]] = some (.ptr [int a, int b] 0) := rfl
theorem p_ptr0 {a b : Int} : ([int a, int b] : List AV)[0]? = some (int a) := rfl
theorem p_ptr1 {a b : Int} : ([int a, int b] : List AV)[1]? = some (int b) := rfl

def V_spans_isUniversal : Vc :=
  .op true (.p .box [.t 2]) <|
  .loop 0 [.c (int 0)] <|
  .op true (.p .nck [.t 0]) <|
  .op true (.p (.fad 0) [.t 5]) <|
  .op true (.p (.ld none) [.t 6]) <|
  .op true (.p .nck [.t 7]) <|
  .op true (.p (.fad 0) [.t 8]) <|
  .op true (.p (.ld none) [.t 9]) <|
  .op true (.p (.bin .lss) [.t 4, .t 10]) <|
  .br 11
   (.op true (.p .nck [.t 0]) <|
   .op true (.p (.fad 0) [.t 12]) <|
   .op true (.p (.ld none) [.t 13]) <|
   .op true (.call (.f 33) [.t 14, .t 4, .t 1]) <|
   .op true (.p .len [.t 15]) <|
   .op true (.call (.f 426) [.t 0, .t 4]) <|
   .op true (.p .len [.t 17]) <|
   .op true (.p (.bin .neq) [.t 16, .t 18]) <|
   .br 19
    (.ret [(.c (bool false), none)])
    (.op true .mkm <|
    .op true (.p .len [.t 15]) <|
    .loop 1 [.c (int 0)] <|
    .op true (.p (.bin .lss) [.t 22, .t 21]) <|
    .br 23
     (.op true (.p (.iad 1) [.t 15, .t 22]) <|
     .op true (.p (.ld none) [.t 24]) <|
     .op true (.p .nck [.t 0]) <|
     .op true (.p (.fad 0) [.t 26]) <|
     .op true (.p (.ld none) [.t 27]) <|
     .op true (.p (.fad 0) [.t 3]) <|
     .op true (.p (.ld none) [.t 29]) <|
     .op true (.call (.f 34) [.t 28, .t 25, .t 30]) <|
     .op true (.p .nck [.t 0]) <|
     .op true (.p (.fad 0) [.t 32]) <|
     .op true (.p (.ld none) [.t 33]) <|
     .op true (.p (.fad 1) [.t 3]) <|
     .op true (.p (.ld none) [.t 35]) <|
     .op true (.call (.f 34) [.t 34, .t 25, .t 36]) <|
     .op true (.p (.mka [int 0, int 0] [(0, 1), (1, 1)]) [.t 31, .t 37]) <|
     .op true (.mset (some 2) (.t 20) (.t 38) (.c (bool true))) <|
     .op true (.p (.bin .add) [.t 22, .c (int 1)]) <|
     .again 1 [.t 40])
     (.op true (.p .mlen [.t 20]) <|
     .op true (.p .len [.t 15]) <|
     .op true (.p (.bin .neq) [.t 24, .t 25]) <|
     .br 26
      (.ret [(.c (bool false), none)])
      (.op true (.p (.bin .add) [.t 4, .c (int 1)]) <|
      .again 0 [.t 27]))))
   (.ret [(.c (bool true), none)])
set_option maxHeartbeats 1000000 in
theorem isUniS_fz (hh : Has P ν 33 3 V_Category_hom) (ht : Has P ν 34 3 V_Category_then) (hf : Has P ν 426 2 V_spans_from) (h : Has P ν 427 3 V_spans_isUniversal) (s : Sp) (k : SpOk P ν s) (z p q : Int) (hp : (p, q) ∈ s.fr z) : Fz (OkM P ν) 427 [.ptr s.cells 0, int z, .agg [int p, int q]] (bool (decide (s.Uni z p q))) := by
  refine Fn.fzb fun H nx => h _ _ _ _ rfl fun hwf => ?_
  unfold V_spans_isUniversal
  have sh := k.a.s
  have o0 := sh.o0
  have o8 := sh.o8
  obtain ⟨⟨p1, p2, p3⟩, q1, q2, q3⟩ := Sp.fr_arr k.a k.al hp
  simp only at p1 p2 p3 q1 q2 q3
  try simp (disch := (first | rfl | with_reducible assumption | with_reducible solve_by_elim (maxDepth := 8) [Shape.inT, Shape.inI, Shape.inC, Shape.inK, Shape.obF, Shape.obT, Shape.arI, Arr.inF] | omega)) only [S2, Nat.reduceEqDiff, Nat.reduceAdd, iput, puts, p_boxA]
  refine den_forG s.c.o.toNat (fun i => ∀ w : Int, Ob s.c w → w < i → s.UniAt z p q w) H nx (Low.refl _ _) (fun w hw hw2 => by have := hw.1; omega) fun i H1 n1 hi hpp lo => ?_
  by_cases hlt : (i : Int) < s.c.o
  · have io : Ob s.c i := ⟨by omega, hlt⟩
    have l1 := homL_len sh i z
    repeat (first | simp (disch := (first | rfl | with_reducible assumption | with_reducible solve_by_elim (maxDepth := 8) [Shape.inT, Shape.inI, Shape.inC, Shape.inK, Shape.obF, Shape.obT, Shape.arI, Arr.inF] | omega)) only [S2, Nat.reduceEqDiff, Nat.reduceAdd, iput, puts, SSp s, hlt] | (refine den_call rfl (by first | (simp only [SS, Nat.reduceEqDiff, Nat.reduceAdd, iput, puts, FF, frzL_cat, frzL_agg2, frzL_prs]; done) | (simp only [SS, Nat.reduceEqDiff, Nat.reduceAdd, iput, puts, FF, frzL_cat, frzL_agg2, frzL_prs]; rfl)) (by first | exact sh.homFz hh i z | exact from_fz hh hf s k i) ?_) | (refine den_calli rfl (by first | (simp only [SS, Nat.reduceEqDiff, Nat.reduceAdd, iput, puts, FF, frzL_cat, frzL_agg2, frzL_prs]; done) | (simp only [SS, Nat.reduceEqDiff, Nat.reduceAdd, iput, puts, FF, frzL_cat, frzL_agg2, frzL_prs]; rfl)) (by first | exact sh.homFz hh i z | exact from_fz hh hf s k i) ?_))
    have sub := lo.sub hwf
    have le3 := lo.le
    try simp (disch := (first | rfl | with_reducible assumption | with_reducible solve_by_elim (maxDepth := 8) [Shape.inT, Shape.inI, Shape.inC, Shape.inK, Shape.obF, Shape.obT, Shape.arI, Arr.inF] | omega)) only [S2, Nat.reduceEqDiff, Nat.reduceAdd, iput, puts, SSp s, p_lenP]
    refine ⟨fun h1 => ?_, fun h1 => ?_⟩
    · exact ⟨_, rfl, H, sub, ret_false (fun hu => h1 (by rw [(hu i io).1])), rfl, by omega⟩
    try simp (disch := (first | rfl | with_reducible assumption | with_reducible solve_by_elim (maxDepth := 8) [Shape.inT, Shape.inI, Shape.inC, Shape.inK, Shape.obF, Shape.obT, Shape.arI, Arr.inF] | omega)) only [S2, Nat.reduceEqDiff, Nat.reduceAdd, iput, puts, SSp s]
    refine den_mkm (kd := some 2) fun H2 hm hk => ?_
    try simp (disch := (first | rfl | with_reducible assumption | with_reducible solve_by_elim (maxDepth := 8) [Shape.inT, Shape.inI, Shape.inC, Shape.inK, Shape.obF, Shape.obT, Shape.arI, Arr.inF] | omega)) only [S2, Nat.reduceEqDiff, Nat.reduceAdd, iput, puts, SSp s]
    refine den_setL (homL s.c i z) (fun u => [s.c.K u p, s.c.K u q]) (some 2) n1 hm fun j H3 hj hs3 hk3 => ?_
    by_cases hlj : j < (homL s.c i z).length
    · have i1 : In (homL s.c i z) (j : Int) := In.nat hlj
      have a := hom_arr hlj
      repeat (first | simp (disch := (first | rfl | with_reducible assumption | with_reducible solve_by_elim (maxDepth := 8) [Shape.inT, Shape.inI, Shape.inC, Shape.inK, Shape.obF, Shape.obT, Shape.arI, Arr.inF] | omega)) only [S2, Nat.reduceEqDiff, Nat.reduceAdd, iput, puts, SSp s, hlj, gI_nat, p_ptr0, p_ptr1] | (refine den_call rfl (by first | (simp only [SS, Nat.reduceEqDiff, Nat.reduceAdd, iput, puts, FF, frzL_cat, frzL_agg2, frzL_prs]; done) | (simp only [SS, Nat.reduceEqDiff, Nat.reduceAdd, iput, puts, FF, frzL_cat, frzL_agg2, frzL_prs]; rfl)) (by first | exact sh.fzThen ht a p1 | exact sh.fzThen ht a q1) ?_) | (refine den_calli rfl (by first | (simp only [SS, Nat.reduceEqDiff, Nat.reduceAdd, iput, puts, FF, frzL_cat, frzL_agg2, frzL_prs]; done) | (simp only [SS, Nat.reduceEqDiff, Nat.reduceAdd, iput, puts, FF, frzL_cat, frzL_agg2, frzL_prs]; rfl)) (by first | exact sh.fzThen ht a p1 | exact sh.fzThen ht a q1) ?_))
      refine den_mset (o := n1) (l := (keysOf (((homL s.c i z).take j).map fun u => [s.c.K u p, s.c.K u q])).map fun k => (k, bool true)) (kl := [s.c.K ((homL s.c i z).getD j 0) p, s.c.K ((homL s.c i z).getD j 0) q]) rfl hs3 rfl rfl rfl fun H4 hm4 hk4 => ?_
      try simp (disch := (first | rfl | with_reducible assumption | with_reducible solve_by_elim (maxDepth := 8) [Shape.inT, Shape.inI, Shape.inC, Shape.inK, Shape.obF, Shape.obT, Shape.arI, Arr.inF] | omega)) only [S2, Nat.reduceEqDiff, Nat.reduceAdd, iput, puts]
      exact setL_put (key := fun u => [s.c.K u p, s.c.K u q]) rfl hlj hm4 hk4 hk3
    · have hke : (homL s.c i z).take j = homL s.c i z := List.take_of_length_le (by omega)
      rw [hke] at hs3
      have lo3 : Low H nx H3 (n1 + 1) := lo.new (fun o ho => (hk3 o ho).trans (hk o ho)) (by omega)
      have hlen := hs3.len
      have kl := keysOf_len ((homL s.c i z).map fun u => [s.c.K u p, s.c.K u q])
      rw [List.length_map] at kl
      try simp (disch := (first | rfl | with_reducible assumption | with_reducible solve_by_elim (maxDepth := 8) [Shape.inT, Shape.inI, Shape.inC, Shape.inK, Shape.obF, Shape.obT, Shape.arI, Arr.inF] | omega)) only [S2, Nat.reduceEqDiff, Nat.reduceAdd, iput, puts, SSp s, hlj, hlen]
      refine ⟨fun h2 => ?_, fun h2 => ?_⟩
      · have sub := lo3.sub hwf
        have le3 := lo3.le
        exact ⟨_, rfl, H, sub, ret_false (fun hu => h2 (by rw [kl.2 (hu i io).2])), rfl, by omega⟩
      · try simp (disch := (first | rfl | with_reducible assumption | with_reducible solve_by_elim (maxDepth := 8) [Shape.inT, Shape.inI, Shape.inC, Shape.inK, Shape.obF, Shape.obT, Shape.arI, Arr.inF] | omega)) only [S2, Nat.reduceEqDiff, Nat.reduceAdd, iput, puts]
        refine upG rfl (by omega) (fun w hw hw2 => ?_) lo3
        by_cases e1 : w = i
        · subst e1
          exact ⟨by omega, kl.1 (by omega)⟩
        · exact hpp w hw (by omega)
  · have sub := lo.sub hwf
    have le3 := lo.le
    try simp (disch := (first | rfl | with_reducible assumption | with_reducible solve_by_elim (maxDepth := 8) [Shape.inT, Shape.inI, Shape.inC, Shape.inK, Shape.obF, Shape.obT, Shape.arI, Arr.inF] | omega)) only [S2, Nat.reduceEqDiff, Nat.reduceAdd, iput, puts, SSp s, hlt]
    exact ⟨_, rfl, H, sub, ret_true (fun w hw => hpp w hw (by have := hw.2; omega)), rfl, by omega⟩

theorem getD_fr {L : List (Int × Int)} {k : Nat} (h : k < L.length) : L.getD k (0, 0) ∈ L := by simp [List.getD, h]
theorem firstAV_frz {o : Option (Int × Int × Int)} (H : Hp) : frzN H fuel (firstAV o) = some (firstAV o) := by cases o <;> rfl
def V_spans_first : Vc :=
  .op true (.new [int 0, int 0]) <|
  .loop 0 [.c (int 0)] <|
  .op true (.p .nck [.t 0]) <|
  .op true (.p (.fad 0) [.t 3]) <|
  .op true (.p (.ld none) [.t 4]) <|
  .op true (.p .nck [.t 5]) <|
  .op true (.p (.fad 0) [.t 6]) <|
  .op true (.p (.ld none) [.t 7]) <|
  .op true (.p (.bin .lss) [.t 2, .t 8]) <|
  .br 9
   (.op true (.call (.f 426) [.t 0, .t 2]) <|
   .op true (.p .len [.t 10]) <|
   .loop 1 [.c (int 0)] <|
   .op true (.p (.bin .lss) [.t 12, .t 11]) <|
   .br 13
    (.op true (.p (.iad 2) [.t 10, .t 12]) <|
    .op true (.p (.ld (some 2)) [.t 14]) <|
    .op true (.new [int 0, int 0]) <|
    .op true (.st 2 (.t 16) (.t 15)) <|
    .op true (.p (.ld (some 2)) [.t 16]) <|
    .op true (.call (.f 427) [.t 0, .t 2, .t 18]) <|
    .br 19
     (.op true (.p (.ld (some 2)) [.t 16]) <|
     .op true (.st 2 (.t 1) (.t 20)) <|
     .ret [(.t 2, none), (.t 1, some (some 2)), (.c (bool true), none)])
     (.op true (.p (.bin .add) [.t 12, .c (int 1)]) <|
     .again 1 [.t 20]))
    (.op true (.p (.bin .add) [.t 2, .c (int 1)]) <|
    .again 0 [.t 14]))
   (.op true (.p (.mka [int 0, int 0] []) []) <|
   .op true (.st 2 (.t 1) (.t 10)) <|
   .ret [(.c (int 0), none), (.t 1, some (some 2)), (.c (bool false), none)])
set_option maxHeartbeats 1000000 in
theorem first_fz (hh : Has P ν 33 3 V_Category_hom) (ht : Has P ν 34 3 V_Category_then) (hf : Has P ν 426 2 V_spans_from) (hu : Has P ν 427 3 V_spans_isUniversal) (h : Has P ν 402 1 V_spans_first) (s : Sp) (k : SpOk P ν s) : Fz (OkM P ν) 402 [.ptr s.cells 0] (firstAV s.firstO) := by
  refine OkM.fz (Ψ := fun H nx r H' nx' => r = firstAV s.firstO) (fun H nx => h _ _ _ _ rfl fun hwf => ?_) fun r H' nx' hh => by subst hh; exact firstAV_frz _
  unfold V_spans_first
  have sh := k.a.s
  have o0 := sh.o0
  have o8 := sh.o8
  refine den_newG fun H0 z0 e0 => ?_
  try simp (disch := (first | rfl | with_reducible assumption | with_reducible solve_by_elim (maxDepth := 8) [Shape.inT, Shape.inI, Shape.inC, Shape.inK, Shape.obF, Shape.obT, Shape.arI, Arr.inF] | omega)) only [S2, Nat.reduceEqDiff, Nat.reduceAdd, iput, puts]
  refine den_forG s.c.o.toNat (fun z => ∀ z' : Nat, z' < z → ((s.fr z').find? fun p => decide (s.Uni z' p.1 p.2)) = none) H0 (nx + 1) (Low.refl _ _) (fun z' hz' => by omega) fun z H1 n1 hz hpz lo => ?_
  by_cases hlt : (z : Int) < s.c.o
  · have zo : Ob s.c z := ⟨by omega, hlt⟩
    have fl := Sp.fr_len' sh z (s := s)
    repeat (first | simp (disch := (first | rfl | with_reducible assumption | with_reducible solve_by_elim (maxDepth := 8) [Shape.inT, Shape.inI, Shape.inC, Shape.inK, Shape.obF, Shape.obT, Shape.arI, Arr.inF] | omega)) only [S2, Nat.reduceEqDiff, Nat.reduceAdd, iput, puts, SSp s, hlt] | (refine den_call rfl (by first | (simp only [SS, Nat.reduceEqDiff, Nat.reduceAdd, iput, puts, FF, frzL_cat, frzL_agg2, frzL_prs]; done) | (simp only [SS, Nat.reduceEqDiff, Nat.reduceAdd, iput, puts, FF, frzL_cat, frzL_agg2, frzL_prs]; rfl)) (by first | exact from_fz hh hf s k z) ?_) | (refine den_calli rfl (by first | (simp only [SS, Nat.reduceEqDiff, Nat.reduceAdd, iput, puts, FF, frzL_cat, frzL_agg2, frzL_prs]; done) | (simp only [SS, Nat.reduceEqDiff, Nat.reduceAdd, iput, puts, FF, frzL_cat, frzL_agg2, frzL_prs]; rfl)) (by first | exact from_fz hh hf s k z) ?_))
    try simp (disch := (first | rfl | with_reducible assumption | with_reducible solve_by_elim (maxDepth := 8) [Shape.inT, Shape.inI, Shape.inC, Shape.inK, Shape.obF, Shape.obT, Shape.arI, Arr.inF] | omega)) only [S2, Nat.reduceEqDiff, Nat.reduceAdd, iput, puts, p_lenP]
    refine den_forG (s.fr z).length (fun i => ∀ i' : Nat, i' < i → decide (s.Uni z ((s.fr z).getD i' (0, 0)).1 ((s.fr z).getD i' (0, 0)).2) = false) H0 (nx + 1) lo (fun i' hi' => by omega) fun i H2 n2 hi hpi lo2 => ?_
    by_cases hli : i < (s.fr z).length
    · have hm := getD_fr hli
      generalize hpq : (s.fr z).getD i (0, 0) = pq at hm
      obtain ⟨p, q⟩ := pq
      try simp (disch := (first | rfl | with_reducible assumption | with_reducible solve_by_elim (maxDepth := 8) [Shape.inT, Shape.inI, Shape.inC, Shape.inK, Shape.obF, Shape.obT, Shape.arI, Arr.inF] | omega)) only [S2, Nat.reduceEqDiff, Nat.reduceAdd, iput, puts, hli, p_iadP hli, p_ldP hli, hpq]
      refine den_newG fun H3 z3 e3 => ?_
      try simp (disch := (first | rfl | with_reducible assumption | with_reducible solve_by_elim (maxDepth := 8) [Shape.inT, Shape.inI, Shape.inC, Shape.inK, Shape.obF, Shape.obT, Shape.arI, Arr.inF] | omega)) only [S2, Nat.reduceEqDiff, Nat.reduceAdd, iput, puts]
      refine den_stG (o := n2) (p := 0) (k := 2) (m := 2) (c' := [int p, int q]) (by rfl) (by rfl) z3 (by rfl) (by rfl) (show 0 + 2 ≤ 2 by omega) (by rfl) (by rfl) fun H4 z4 e4 => ?_
      have lo4 : Low H0 (nx + 1) H4 (n2 + 1) := lo2.new (fun o ho => (e4 o ho).trans (e3 o ho)) (by omega)
      repeat (first | simp (disch := (first | rfl | with_reducible assumption | with_reducible solve_by_elim (maxDepth := 8) [Shape.inT, Shape.inI, Shape.inC, Shape.inK, Shape.obF, Shape.obT, Shape.arI, Arr.inF] | omega)) only [S2, Nat.reduceEqDiff, Nat.reduceAdd, iput, puts, p_ldsm (l := 2) z4 rfl] | (refine den_call rfl (by first | (simp only [SS, Nat.reduceEqDiff, Nat.reduceAdd, iput, puts, FF, frzL_cat, frzL_agg2, frzL_prs]; done) | (simp only [SS, Nat.reduceEqDiff, Nat.reduceAdd, iput, puts, FF, frzL_cat, frzL_agg2, frzL_prs]; rfl)) (by first | exact isUniS_fz hh ht hf hu s k z p q hm) ?_) | (refine den_calli rfl (by first | (simp only [SS, Nat.reduceEqDiff, Nat.reduceAdd, iput, puts, FF, frzL_cat, frzL_agg2, frzL_prs]; done) | (simp only [SS, Nat.reduceEqDiff, Nat.reduceAdd, iput, puts, FF, frzL_cat, frzL_agg2, frzL_prs]; rfl)) (by first | exact isUniS_fz hh ht hf hu s k z p q hm) ?_))
      refine ⟨fun h1 => ?_, fun h1 => ?_⟩
      · have z5 := (lo4.eq nx (by omega)).trans z0
        try simp (disch := (first | rfl | with_reducible assumption | with_reducible solve_by_elim (maxDepth := 8) [Shape.inT, Shape.inI, Shape.inC, Shape.inK, Shape.obF, Shape.obT, Shape.arI, Arr.inF] | omega)) only [S2, Nat.reduceEqDiff, Nat.reduceAdd, iput, puts, p_ldsm (l := 2) z4 rfl]
        refine den_stG (o := nx) (p := 0) (k := 2) (m := 2) (c' := [int p, int q]) (by rfl) (by rfl) z5 (by rfl) (by rfl) (show 0 + 2 ≤ 2 by omega) (by rfl) (by rfl) fun H5 z6 e6 => ?_
        refine ⟨_, by simp only [retOf, rets, SS, Nat.reduceEqDiff, Nat.reduceAdd, iput, puts, pLd, z6]; rfl, H5, fun _ _ h => h, ?_⟩
        have e1 : ((s.fr z).find? fun p => decide (s.Uni z p.1 p.2)) = some (p, q) := by
          have := find_at (d := ((0 : Int), (0 : Int))) (q := fun p => decide (s.Uni z p.1 p.2)) hli (by rw [hpq]; simpa using h1) hpi
          rw [hpq] at this
          exact this
        rw [Sp.firstO, findSome_at (r := ((z : Int), p, q)) (i := z) (by omega) (by rw [e1]; rfl) fun j hj => by rw [hpz j hj]; rfl]
        rfl
      · try simp (disch := (first | rfl | with_reducible assumption | with_reducible solve_by_elim (maxDepth := 8) [Shape.inT, Shape.inI, Shape.inC, Shape.inK, Shape.obF, Shape.obT, Shape.arI, Arr.inF] | omega)) only [S2, Nat.reduceEqDiff, Nat.reduceAdd, iput, puts]
        refine upG rfl hli (fun i' hi' => ?_) lo4
        by_cases e : i' = i
        · subst e; rw [hpq]; simpa using h1
        · first | exact hpi i' (by omega) | exact of_decide_eq_false (hpi i' (by omega))
    · try simp (disch := (first | rfl | with_reducible assumption | with_reducible solve_by_elim (maxDepth := 8) [Shape.inT, Shape.inI, Shape.inC, Shape.inK, Shape.obF, Shape.obT, Shape.arI, Arr.inF] | omega)) only [S2, Nat.reduceEqDiff, Nat.reduceAdd, iput, puts, hli]
      refine upG rfl (by omega) (fun z' hz' => ?_) lo2
      by_cases e : z' = z
      · subst e; exact find_none (d := ((0 : Int), (0 : Int))) fun j hj => hpi j (by omega)
      · exact hpz z' (by omega)
  · have z5 := (lo.eq nx (by omega)).trans z0
    have pm : ∀ H : Hp, pvf H (.mka [int 0, int 0] []) [] = some (.agg [int 0, int 0]) := fun _ => rfl
    try simp (disch := (first | rfl | with_reducible assumption | with_reducible solve_by_elim (maxDepth := 8) [Shape.inT, Shape.inI, Shape.inC, Shape.inK, Shape.obF, Shape.obT, Shape.arI, Arr.inF] | omega)) only [S2, Nat.reduceEqDiff, Nat.reduceAdd, iput, puts, SSp s, hlt, pm]
    refine den_stG (o := nx) (p := 0) (k := 2) (m := 2) (c' := [int 0, int 0]) (by rfl) (by rfl) z5 (by rfl) (by rfl) (show 0 + 2 ≤ 2 by omega) (by rfl) (by rfl) fun H5 z6 e6 => ?_
    refine ⟨_, by simp only [retOf, rets, SS, Nat.reduceEqDiff, Nat.reduceAdd, iput, puts, pLd, z6]; rfl, H5, fun _ _ h => h, ?_⟩
    rw [Sp.firstO, findSome_none fun j hj => by rw [hpz j (by omega)]; rfl]
    rfl

theorem tripAV_frz {o : Option (Int × Int × Int)} (H : Hp) : frzN H fuel (tripAV o) = some (tripAV o) := by cases o <;> rfl
def V_spans_triple : Vc :=
  .op true (.call (.f 402) [.t 0]) <|
  .op true (.p (.ext 0) [.t 1]) <|
  .op true (.p (.ext 1) [.t 1]) <|
  .op true (.p (.ext 2) [.t 1]) <|
  .op true (.new [int 0, int 0]) <|
  .op true (.st 2 (.t 5) (.t 3)) <|
  .op true (.p .bnot [.t 4]) <|
  .br 7
   (.ret [(.c (int 0), none), (.c (int 0), none), (.c (int 0), none), (.c (int 4), none)])
   (.op true (.p (.fad 0) [.t 5]) <|
   .op true (.p (.ld none) [.t 8]) <|
   .op true (.p (.fad 1) [.t 5]) <|
   .op true (.p (.ld none) [.t 10]) <|
   .ret [(.t 2, none), (.t 9, none), (.t 11, none), (.c (int 0), none)])
theorem triple_fz (hh : Has P ν 33 3 V_Category_hom) (ht : Has P ν 34 3 V_Category_then) (hf : Has P ν 426 2 V_spans_from) (hu : Has P ν 427 3 V_spans_isUniversal) (hfi : Has P ν 402 1 V_spans_first) (h : Has P ν 308 1 V_spans_triple) (s : Sp) (k : SpOk P ν s) : Fz (OkM P ν) 308 [.ptr s.cells 0] (tripAV s.firstO) := by
  refine OkM.fz (Ψ := fun H nx r H' nx' => r = tripAV s.firstO) (fun H nx => h _ _ _ _ rfl fun hwf => ?_) fun r H' nx' hh => by subst hh; exact tripAV_frz _
  unfold V_spans_triple
  repeat (first | simp (disch := (first | rfl | with_reducible assumption | with_reducible solve_by_elim (maxDepth := 8) [Shape.inT, Shape.inI, Shape.inC, Shape.inK, Shape.obF, Shape.obT, Shape.arI, Arr.inF] | omega)) only [S2, Nat.reduceEqDiff, Nat.reduceAdd, iput, puts] | (refine den_call rfl (by first | (simp only [SS, Nat.reduceEqDiff, Nat.reduceAdd, iput, puts, FF, frzL_cat, frzL_agg2, frzL_prs]; done) | (simp only [SS, Nat.reduceEqDiff, Nat.reduceAdd, iput, puts, FF, frzL_cat, frzL_agg2, frzL_prs]; rfl)) (by first | exact first_fz hh ht hf hu hfi s k) ?_) | (refine den_calli rfl (by first | (simp only [SS, Nat.reduceEqDiff, Nat.reduceAdd, iput, puts, FF, frzL_cat, frzL_agg2, frzL_prs]; done) | (simp only [SS, Nat.reduceEqDiff, Nat.reduceAdd, iput, puts, FF, frzL_cat, frzL_agg2, frzL_prs]; rfl)) (by first | exact first_fz hh ht hf hu hfi s k) ?_))
  cases hq : s.firstO with
  | none =>
    have e0 : ∀ H : Hp, pvf H (.ext 0) [firstAV none] = some (int 0) := fun _ => rfl
    have e1 : ∀ H : Hp, pvf H (.ext 1) [firstAV none] = some (.agg [int 0, int 0]) := fun _ => rfl
    have e2 : ∀ H : Hp, pvf H (.ext 2) [firstAV none] = some (bool false) := fun _ => rfl
    try simp (disch := (first | rfl | with_reducible assumption | with_reducible solve_by_elim (maxDepth := 8) [Shape.inT, Shape.inI, Shape.inC, Shape.inK, Shape.obF, Shape.obT, Shape.arI, Arr.inF] | omega)) only [S2, Nat.reduceEqDiff, Nat.reduceAdd, iput, puts, e0, e1, e2]
    refine den_newG fun H0 z0 e0 => ?_
    try simp (disch := (first | rfl | with_reducible assumption | with_reducible solve_by_elim (maxDepth := 8) [Shape.inT, Shape.inI, Shape.inC, Shape.inK, Shape.obF, Shape.obT, Shape.arI, Arr.inF] | omega)) only [S2, Nat.reduceEqDiff, Nat.reduceAdd, iput, puts]
    refine den_stG (o := nx) (p := 0) (k := 2) (m := 2) (c' := [int 0, int 0]) (by rfl) (by rfl) z0 (by rfl) (by rfl) (show 0 + 2 ≤ 2 by omega) (by rfl) (by rfl) fun H5 z6 e6 => ?_
    try simp (disch := (first | rfl | with_reducible assumption | with_reducible solve_by_elim (maxDepth := 8) [Shape.inT, Shape.inI, Shape.inC, Shape.inK, Shape.obF, Shape.obT, Shape.arI, Arr.inF] | omega)) only [S2, Nat.reduceEqDiff, Nat.reduceAdd, iput, puts]
    exact ⟨_, rfl, H5, fun _ _ h => h, rfl⟩
  | some x =>
    obtain ⟨z, p, q⟩ := x
    have e0 : ∀ H : Hp, pvf H (.ext 0) [firstAV (some (z, p, q))] = some (int z) := fun _ => rfl
    have e1 : ∀ H : Hp, pvf H (.ext 1) [firstAV (some (z, p, q))] = some (.agg [int p, int q]) := fun _ => rfl
    have e2 : ∀ H : Hp, pvf H (.ext 2) [firstAV (some (z, p, q))] = some (bool true) := fun _ => rfl
    try simp (disch := (first | rfl | with_reducible assumption | with_reducible solve_by_elim (maxDepth := 8) [Shape.inT, Shape.inI, Shape.inC, Shape.inK, Shape.obF, Shape.obT, Shape.arI, Arr.inF] | omega)) only [S2, Nat.reduceEqDiff, Nat.reduceAdd, iput, puts, e0, e1, e2]
    refine den_newG fun H0 z0 e0 => ?_
    try simp (disch := (first | rfl | with_reducible assumption | with_reducible solve_by_elim (maxDepth := 8) [Shape.inT, Shape.inI, Shape.inC, Shape.inK, Shape.obF, Shape.obT, Shape.arI, Arr.inF] | omega)) only [S2, Nat.reduceEqDiff, Nat.reduceAdd, iput, puts]
    refine den_stG (o := nx) (p := 0) (k := 2) (m := 2) (c' := [int p, int q]) (by rfl) (by rfl) z0 (by rfl) (by rfl) (show 0 + 2 ≤ 2 by omega) (by rfl) (by rfl) fun H5 z6 e6 => ?_
    try simp (disch := (first | rfl | with_reducible assumption | with_reducible solve_by_elim (maxDepth := 8) [Shape.inT, Shape.inI, Shape.inC, Shape.inK, Shape.obF, Shape.obT, Shape.arI, Arr.inF] | omega)) only [S2, Nat.reduceEqDiff, Nat.reduceAdd, iput, puts, p_fadm (l := 2) z6 rfl, p_ldm (n := 2) z6 rfl]
    exact ⟨_, rfl, H5, fun _ _ h => h, rfl⟩

/-- The three kinds of spans. -/
def spP (c : Cat) (x y : Int) : Sp := ⟨c, x, y, 401, [], false, fun _ _ => true⟩
def spE (c : Cat) (f g : Int) : Sp := ⟨c, c.F f, c.F f, 405, [.ptr [.ptr c.cells 0] 0, .ptr [int f] 0, .ptr [int g] 0], true, fun a b => c.K a f == c.K b g⟩
def spB (c : Cat) (f g : Int) : Sp := ⟨c, c.F f, c.F g, 406, [.ptr [.ptr c.cells 0] 0, .ptr [int f] 0, .ptr [int g] 0], false, fun a b => c.K a f == c.K b g⟩
def V_Category_products_1 : Vc :=
  .ret [(.c (bool true), none)]
def V_Category_equalizers_1 : Vc :=
  .op true (.p (.ld none) [.t 2]) <|
  .op true (.p (.ld none) [.t 3]) <|
  .op true (.call (.f 34) [.t 5, .t 0, .t 6]) <|
  .op true (.p (.ld none) [.t 2]) <|
  .op true (.p (.ld none) [.t 4]) <|
  .op true (.call (.f 34) [.t 8, .t 1, .t 9]) <|
  .op true (.p (.bin .eql) [.t 7, .t 10]) <|
  .ret [(.t 11, none)]
def V_Category_pullbacks_1 : Vc :=
  .op true (.p (.ld none) [.t 2]) <|
  .op true (.p (.ld none) [.t 3]) <|
  .op true (.call (.f 34) [.t 5, .t 0, .t 6]) <|
  .op true (.p (.ld none) [.t 2]) <|
  .op true (.p (.ld none) [.t 4]) <|
  .op true (.call (.f 34) [.t 8, .t 1, .t 9]) <|
  .op true (.p (.bin .eql) [.t 7, .t 10]) <|
  .ret [(.t 11, none)]
theorem p_ld1 {a : AV} : ([a] : List AV)[0]? = some a := rfl
theorem spP_ok (h : Has P ν 401 2 V_Category_products_1) (c : Cat) (a : CatA c) (x y : Int) : SpOk P ν (spP c x y) := by
  refine ⟨a, rfl, rfl, fun a b _ _ _ _ => ?_, fun h => (by cases h), fun _ _ _ _ _ _ _ _ _ _ _ => rfl⟩
  refine Fn.fzb fun H nx => h _ _ _ _ rfl fun hwf => ?_
  unfold V_Category_products_1
  exact ⟨_, rfl, H, fun _ _ h => h, rfl, rfl, Nat.le_refl _⟩
theorem clEB {c : Cat} (k : CatA c) {f g u a b : Int} (hf : Arr c f) (hg : Arr c g) (hu : Arr c u) (ha : Arr c a) (hb : Arr c b) (e1 : c.T u = c.F a) (e2 : c.T u = c.F b) (e3 : c.T a = c.F f) (e4 : c.T b = c.F g) (h : (c.K a f == c.K b g) = true) : (c.K (c.K u a) f == c.K (c.K u b) g) = true := by
  rw [beq_iff_eq] at h ⊢
  rw [k.assoc hu ha hf e1 e3, k.assoc hu hb hg e2 e4, h]
theorem spE_ok (ht : Has P ν 34 3 V_Category_then) (h : Has P ν 405 5 V_Category_equalizers_1) (c : Cat) (k : CatA c) (f g : Int) (hf : Arr c f) (hg : Arr c g) (e : c.F f = c.F g) : SpOk P ν (spE c f g) := by
  refine ⟨k, rfl, rfl, fun a b ha hb _ _ => ?_, fun h => rfl, fun u a b hu ha hb e1 e2 e3 e4 hh => clEB k hf hg hu ha hb e1 e2 e3 (e4.trans e) hh⟩
  refine Fn.fzb fun H nx => h _ _ _ _ rfl fun hwf => ?_
  unfold V_Category_equalizers_1
  have s := k.s
  have ha : Arr c a := ha
  have hb : Arr c b := hb
  show den _ _ _ 5 (env0 [int a, int b, .ptr [.ptr c.cells 0] 0, .ptr [int f] 0, .ptr [int g] 0]) _ _ _
  repeat (first | simp (disch := (first | rfl | with_reducible assumption | with_reducible solve_by_elim (maxDepth := 8) [Shape.inT, Shape.inI, Shape.inC, Shape.inK, Shape.obF, Shape.obT, Shape.arI, Arr.inF] | omega)) only [S2, Nat.reduceEqDiff, Nat.reduceAdd, iput, puts, p_ld1] | (refine den_call rfl (by first | (simp only [SS, Nat.reduceEqDiff, Nat.reduceAdd, iput, puts, FF, frzL_cat, frzL_agg2, frzL_prs]; done) | (simp only [SS, Nat.reduceEqDiff, Nat.reduceAdd, iput, puts, FF, frzL_cat, frzL_agg2, frzL_prs]; rfl)) (by first | exact s.fzThen ht ha hf | exact s.fzThen ht hb hg) ?_) | (refine den_calli rfl (by first | (simp only [SS, Nat.reduceEqDiff, Nat.reduceAdd, iput, puts, FF, frzL_cat, frzL_agg2, frzL_prs]; done) | (simp only [SS, Nat.reduceEqDiff, Nat.reduceAdd, iput, puts, FF, frzL_cat, frzL_agg2, frzL_prs]; rfl)) (by first | exact s.fzThen ht ha hf | exact s.fzThen ht hb hg) ?_))
  exact ⟨_, rfl, H, fun _ _ h => h, rfl, rfl, Nat.le_refl _⟩
theorem spB_ok (ht : Has P ν 34 3 V_Category_then) (h : Has P ν 406 5 V_Category_pullbacks_1) (c : Cat) (k : CatA c) (f g : Int) (hf : Arr c f) (hg : Arr c g) : SpOk P ν (spB c f g) := by
  refine ⟨k, rfl, rfl, fun a b ha hb _ _ => ?_, fun h => (by cases h), fun u a b hu ha hb e1 e2 e3 e4 hh => clEB k hf hg hu ha hb e1 e2 e3 e4 hh⟩
  refine Fn.fzb fun H nx => h _ _ _ _ rfl fun hwf => ?_
  unfold V_Category_pullbacks_1
  have s := k.s
  have ha : Arr c a := ha
  have hb : Arr c b := hb
  show den _ _ _ 5 (env0 [int a, int b, .ptr [.ptr c.cells 0] 0, .ptr [int f] 0, .ptr [int g] 0]) _ _ _
  repeat (first | simp (disch := (first | rfl | with_reducible assumption | with_reducible solve_by_elim (maxDepth := 8) [Shape.inT, Shape.inI, Shape.inC, Shape.inK, Shape.obF, Shape.obT, Shape.arI, Arr.inF] | omega)) only [S2, Nat.reduceEqDiff, Nat.reduceAdd, iput, puts, p_ld1] | (refine den_call rfl (by first | (simp only [SS, Nat.reduceEqDiff, Nat.reduceAdd, iput, puts, FF, frzL_cat, frzL_agg2, frzL_prs]; done) | (simp only [SS, Nat.reduceEqDiff, Nat.reduceAdd, iput, puts, FF, frzL_cat, frzL_agg2, frzL_prs]; rfl)) (by first | exact s.fzThen ht ha hf | exact s.fzThen ht hb hg) ?_) | (refine den_calli rfl (by first | (simp only [SS, Nat.reduceEqDiff, Nat.reduceAdd, iput, puts, FF, frzL_cat, frzL_agg2, frzL_prs]; done) | (simp only [SS, Nat.reduceEqDiff, Nat.reduceAdd, iput, puts, FF, frzL_cat, frzL_agg2, frzL_prs]; rfl)) (by first | exact s.fzThen ht ha hf | exact s.fzThen ht hb hg) ?_))
  exact ⟨_, rfl, H, fun _ _ h => h, rfl, rfl, Nat.le_refl _⟩

def V_Category_products : Vc :=
  .op true (.p (.mka [.v (.pointer none), int 0, int 0, .v .nilFunc, bool false] [(0, 1), (1, 1), (2, 1), (3, 1)]) [.t 0, .t 1, .t 2, .f 401]) <|
  .op true (.p .box [.t 3]) <|
  .ret [(.t 4, none)]
theorem products_fi (h : Has P ν 307 3 V_Category_products) (c : Cat) (x y : Int) : Fi (OkM P ν) 307 [.ptr c.cells 0, int x, int y] (.ptr (spP c x y).cells 0) := by
  refine OkM.fi' (fun H nx => h _ _ _ _ rfl fun hwf => ?_)
  unfold V_Category_products
  have e1 : ∀ H : Hp, pvf H (.mka [.v (.pointer none), int 0, int 0, .v .nilFunc, bool false] [(0, 1), (1, 1), (2, 1), (3, 1)]) [.ptr c.cells 0, int x, int y, .fn 401 []] = some (.agg (spP c x y).cells) := fun _ => rfl
  have e2 : ∀ H : Hp, pvf H .box [.agg (spP c x y).cells] = some (.ptr (spP c x y).cells 0) := fun _ => rfl
  try simp (disch := (first | rfl | with_reducible assumption | with_reducible solve_by_elim (maxDepth := 8) [Shape.inT, Shape.inI, Shape.inC, Shape.inK, Shape.obF, Shape.obT, Shape.arI, Arr.inF] | omega)) only [S2, Nat.reduceEqDiff, Nat.reduceAdd, iput, puts, e1, e2]
  exact ⟨_, rfl, H, fun _ _ h => h, rfl⟩
def V_Category_equalizers : Vc :=
  .op true (.p .box [.t 0]) <|
  .op true (.p .box [.t 1]) <|
  .op true (.p .box [.t 2]) <|
  .op true (.p (.ld none) [.t 3]) <|
  .op true (.p (.ld none) [.t 3]) <|
  .op true (.p .nck [.t 7]) <|
  .op true (.p (.fad 1) [.t 8]) <|
  .op true (.p (.ld none) [.t 9]) <|
  .op true (.p (.ld none) [.t 4]) <|
  .op true (.p (.iad 1) [.t 10, .t 11]) <|
  .op true (.p (.ld none) [.t 12]) <|
  .op true (.p (.ld none) [.t 3]) <|
  .op true (.p .nck [.t 14]) <|
  .op true (.p (.fad 1) [.t 15]) <|
  .op true (.p (.ld none) [.t 16]) <|
  .op true (.p (.ld none) [.t 4]) <|
  .op true (.p (.iad 1) [.t 17, .t 18]) <|
  .op true (.p (.ld none) [.t 19]) <|
  .op true (.p (.mkf 405) [.t 3, .t 4, .t 5]) <|
  .op true (.p (.mka [.v (.pointer none), int 0, int 0, .v .nilFunc, bool false] [(0, 1), (1, 1), (2, 1), (4, 1), (3, 1)]) [.t 6, .t 13, .t 20, .c (bool true), .t 21]) <|
  .op true (.p .box [.t 22]) <|
  .ret [(.t 23, none)]
theorem equalizers_fi (h : Has P ν 321 3 V_Category_equalizers) (c : Cat) (f g : Int) (hf : Arr c f) : Fi (OkM P ν) 321 [.ptr c.cells 0, int f, int g] (.ptr (spE c f g).cells 0) := by
  refine OkM.fi' (fun H nx => h _ _ _ _ rfl fun hwf => ?_)
  unfold V_Category_equalizers
  have iF := hf.inF
  have b1 : ∀ H : Hp, pvf H .box [.ptr c.cells 0] = some (.ptr [.ptr c.cells 0] 0) := fun _ => rfl
  have b2 : ∀ (H : Hp) (n : Int), pvf H .box [int n] = some (.ptr [int n] 0) := fun _ _ => rfl
  have b3 : ∀ H : Hp, pvf H (.mkf 405) [.ptr [.ptr c.cells 0] 0, .ptr [int f] 0, .ptr [int g] 0] = some (.fn 405 [.ptr [.ptr c.cells 0] 0, .ptr [int f] 0, .ptr [int g] 0]) := fun _ => rfl
  have e1 : ∀ H : Hp, pvf H (.mka [.v (.pointer none), int 0, int 0, .v .nilFunc, bool false] [(0, 1), (1, 1), (2, 1), (4, 1), (3, 1)]) [.ptr c.cells 0, int (c.F f), int (c.F f), bool true, .fn 405 [.ptr [.ptr c.cells 0] 0, .ptr [int f] 0, .ptr [int g] 0]] = some (.agg (spE c f g).cells) := fun _ => rfl
  have e2 : ∀ H : Hp, pvf H .box [.agg (spE c f g).cells] = some (.ptr (spE c f g).cells 0) := fun _ => rfl
  try simp (disch := (first | rfl | with_reducible assumption | with_reducible solve_by_elim (maxDepth := 8) [Shape.inT, Shape.inI, Shape.inC, Shape.inK, Shape.obF, Shape.obT, Shape.arI, Arr.inF] | omega)) only [S2, Nat.reduceEqDiff, Nat.reduceAdd, iput, puts, b1, b2, b3, e1, e2, p_ld1]
  exact ⟨_, rfl, H, fun _ _ h => h, rfl⟩
def V_Category_pullbacks : Vc :=
  .op true (.p .box [.t 0]) <|
  .op true (.p .box [.t 1]) <|
  .op true (.p .box [.t 2]) <|
  .op true (.p (.ld none) [.t 3]) <|
  .op true (.p (.ld none) [.t 3]) <|
  .op true (.p .nck [.t 7]) <|
  .op true (.p (.fad 1) [.t 8]) <|
  .op true (.p (.ld none) [.t 9]) <|
  .op true (.p (.ld none) [.t 4]) <|
  .op true (.p (.iad 1) [.t 10, .t 11]) <|
  .op true (.p (.ld none) [.t 12]) <|
  .op true (.p (.ld none) [.t 3]) <|
  .op true (.p .nck [.t 14]) <|
  .op true (.p (.fad 1) [.t 15]) <|
  .op true (.p (.ld none) [.t 16]) <|
  .op true (.p (.ld none) [.t 5]) <|
  .op true (.p (.iad 1) [.t 17, .t 18]) <|
  .op true (.p (.ld none) [.t 19]) <|
  .op true (.p (.mkf 406) [.t 3, .t 4, .t 5]) <|
  .op true (.p (.mka [.v (.pointer none), int 0, int 0, .v .nilFunc, bool false] [(0, 1), (1, 1), (2, 1), (3, 1)]) [.t 6, .t 13, .t 20, .t 21]) <|
  .op true (.p .box [.t 22]) <|
  .ret [(.t 23, none)]
theorem pullbacks_fi (h : Has P ν 324 3 V_Category_pullbacks) (c : Cat) (f g : Int) (hf : Arr c f) (hg : Arr c g) : Fi (OkM P ν) 324 [.ptr c.cells 0, int f, int g] (.ptr (spB c f g).cells 0) := by
  refine OkM.fi' (fun H nx => h _ _ _ _ rfl fun hwf => ?_)
  unfold V_Category_pullbacks
  have iF := hf.inF
  have iG := hg.inF
  have b1 : ∀ H : Hp, pvf H .box [.ptr c.cells 0] = some (.ptr [.ptr c.cells 0] 0) := fun _ => rfl
  have b2 : ∀ (H : Hp) (n : Int), pvf H .box [int n] = some (.ptr [int n] 0) := fun _ _ => rfl
  have b3 : ∀ H : Hp, pvf H (.mkf 406) [.ptr [.ptr c.cells 0] 0, .ptr [int f] 0, .ptr [int g] 0] = some (.fn 406 [.ptr [.ptr c.cells 0] 0, .ptr [int f] 0, .ptr [int g] 0]) := fun _ => rfl
  have e1 : ∀ H : Hp, pvf H (.mka [.v (.pointer none), int 0, int 0, .v .nilFunc, bool false] [(0, 1), (1, 1), (2, 1), (3, 1)]) [.ptr c.cells 0, int (c.F f), int (c.F g), .fn 406 [.ptr [.ptr c.cells 0] 0, .ptr [int f] 0, .ptr [int g] 0]] = some (.agg (spB c f g).cells) := fun _ => rfl
  have e2 : ∀ H : Hp, pvf H .box [.agg (spB c f g).cells] = some (.ptr (spB c f g).cells 0) := fun _ => rfl
  try simp (disch := (first | rfl | with_reducible assumption | with_reducible solve_by_elim (maxDepth := 8) [Shape.inT, Shape.inI, Shape.inC, Shape.inK, Shape.obF, Shape.obT, Shape.arI, Arr.inF] | omega)) only [S2, Nat.reduceEqDiff, Nat.reduceAdd, iput, puts, b1, b2, b3, e1, e2, p_ld1]
  exact ⟨_, rfl, H, fun _ _ h => h, rfl⟩
end Go.Av
