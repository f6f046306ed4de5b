/-
  Congruences: both sides.
-/
import Derived.Test.YtbikcomiocdkpaaAvQ5
import Derived.Test.YtbikcomiocdkpaaAvB8
import Derived.Test.YtbikcomiocdkpaaAvM2
namespace Go.Av
open Classical
set_option linter.unusedSimpArgs false
set_option linter.unusedVariables false
variable {P : Program} {ν : Nat → FuncId}

def V_spec_l01Own2 : Vc :=
  .op true (.p (.msl 0 [] []) []) <|
  .loop 0 [.t 1, .c (int 0)] <|
  .op true (.p .len [.t 0]) <|
  .op true (.p (.bin .lss) [.t 3, .t 4]) <|
  .br 5
   (.op true (.p (.iad 1) [.t 0, .t 3]) <|
   .op true (.p (.ld none) [.t 6]) <|
   .op true (.call (.f 259) [.t 7]) <|
   .op true (.p (.msl 1 [.nil] [(0, 1)]) [.t 8]) <|
   .op true (.app 1 (.t 2) (.t 9)) <|
   .op true (.p (.bin .add) [.t 3, .c (int 1)]) <|
   .again 0 [.t 10, .t 11])
   (.ret [(.t 2, none)])
theorem l01Own2_ok (how : Has P ν 259 1 V_spec_l01Own) (h : Has P ν 360 1 V_spec_l01Own2) (R : List (List Int)) (hl : R.length ≤ 1048576) (hr : ∀ i, i < R.length → (R.getD i []).length ≤ 1048576) (H : Hp) (nx : Nat) : OkM P ν 360 [.sl (rows R) R.length] H nx (IsC (rows R) R.length 1 H nx) := by
  refine h _ _ _ _ rfl fun hwf => ?_
  unfold V_spec_l01Own2
  try simp (disch := (first | rfl | with_reducible assumption | with_reducible solve_by_elim (maxDepth := 8) [Shape.inT, Shape.inI, Shape.inC, Shape.inK, Shape.obF, Shape.obT, Shape.arI, Arr.inF] | omega)) only [S2, Nat.reduceEqDiff, Nat.reduceAdd, iput, puts]
  refine den_loop (α := Nat × AV) (fun a => [a.2, int a.1]) (fun a H' nx' => a.1 ≤ R.length ∧ IsC (rows (R.take a.1)) (R.take a.1).length 1 H nx a.2 H' nx') (fun a => R.length - a.1) (0, .nil) rfl ⟨Nat.zero_le _, IsC.nil⟩ ?_
  rintro ⟨i, v⟩ H1 n1 ⟨hi, hI⟩
  simp only at hi hI
  by_cases hlt : i < R.length
  · have iR : InR R (i : Int) := InR.nat hlt
    have bi := hr i hlt
    have ow : Fz (OkM P ν) 259 [islice (gR R i)] (islice (gR R i)) := OkM.fz (fun H nx => l01Own_ok how (gR R i) (by show (R.getD i []).length ≤ _; omega) H nx) fun _ _ _ hh => hh.frz _
    have tk := take_succ_rows hlt
    repeat (first | simp (disch := (first | rfl | with_reducible assumption | with_reducible solve_by_elim (maxDepth := 8) [Shape.inT, Shape.inI, Shape.inC, Shape.inK, Shape.obF, Shape.obT, Shape.arI, Arr.inF] | omega)) only [S2, Nat.reduceEqDiff, Nat.reduceAdd, iput, puts, hlt] | (refine den_call rfl (by first | (simp only [SS, Nat.reduceEqDiff, Nat.reduceAdd, iput, puts, FF, frzL_cat]; done) | (simp only [SS, Nat.reduceEqDiff, Nat.reduceAdd, iput, puts, FF, frzL_cat]; rfl)) (by first | exact ow) ?_) | (refine den_calli rfl (by first | (simp only [SS, Nat.reduceEqDiff, Nat.reduceAdd, iput, puts, FF, frzL_cat]; done) | (simp only [SS, Nat.reduceEqDiff, Nat.reduceAdd, iput, puts, FF, frzL_cat]; rfl)) (by first | exact ow) ?_))
    try simp (disch := (first | rfl | with_reducible assumption | with_reducible solve_by_elim (maxDepth := 8) [Shape.inT, Shape.inI, Shape.inC, Shape.inK, Shape.obF, Shape.obT, Shape.arI, Arr.inF] | omega)) only [S2, Nat.reduceEqDiff, Nat.reduceAdd, iput, puts, p_msl1R]
    refine den_appC (m := 1) (ds := [islice (gR R i)]) hI rfl (by simp) rfl rfl (by rw [List.length_take]; omega) fun v3 H4 n4 hI2 => ?_
    try simp (disch := (first | rfl | with_reducible assumption | with_reducible solve_by_elim (maxDepth := 8) [Shape.inT, Shape.inI, Shape.inC, Shape.inK, Shape.obF, Shape.obT, Shape.arI, Arr.inF] | omega)) only [S2, Nat.reduceEqDiff, Nat.reduceAdd, iput, puts]
    refine ⟨(i + 1, v3), rfl, ⟨hlt, ?_⟩, by simp only; omega⟩
    simp only
    rw [tk, rows_append, List.length_append]
    exact hI2
  · try simp (disch := (first | rfl | with_reducible assumption | with_reducible solve_by_elim (maxDepth := 8) [Shape.inT, Shape.inI, Shape.inC, Shape.inK, Shape.obF, Shape.obT, Shape.arI, Arr.inF] | omega)) only [S2, Nat.reduceEqDiff, Nat.reduceAdd, iput, puts, hlt]
    have : i = R.length := by omega
    subst this
    rw [List.take_length] at hI
    exact ⟨_, rfl, _, fun _ _ h => h, hI⟩

theorem l01Own2_some (R : List (List Int)) (H : Hp) (nx : Nat) : IsC (rows R) R.length 1 H nx (if R = [] then .nil else .ms nx 0 R.length 1) (if R = [] then H else hput H nx (some (rows R))) (nx + 1) := by
  refine ⟨by omega, by simp [rows], ?_⟩
  by_cases e : R = []
  · subst e; exact .inl ⟨rfl, rfl, rfl⟩
  · rw [if_neg e, if_neg e]; exact .inr ⟨nx, Nat.le_refl _, Nat.lt_succ_self _, rfl, rfl⟩
def sprFG (c : Cat) (p : Nat × Nat) (f g : Nat) : List (Nat × Nat) := if c.T f = c.F p.1 ∧ c.T p.1 = c.F g then [(kN c (kN c f p.1) g, kN c (kN c f p.2) g)] else []
def sprF (c : Cat) (p : Nat × Nat) (f : Nat) : List (Nat × Nat) := (List.range c.f.length).flatMap (sprFG c p f)
theorem spr_eq (c : Cat) (p : Nat × Nat) : spr c p = (List.range c.f.length).flatMap (sprF c p) := rfl
theorem sprG_le (c : Cat) (p : Nat × Nat) (f n : Nat) : ((List.range n).flatMap (sprFG c p f)).length ≤ n := by
  have := flat_len_le (List.range n) (sprFG c p f) 1 fun g _ => by unfold sprFG; split <;> simp
  simpa using this
theorem sprF_le (c : Cat) (p : Nat × Nat) (n : Nat) : ((List.range n).flatMap (sprF c p)).length ≤ n * c.f.length := by
  have := flat_len_le (List.range n) (sprF c p) c.f.length fun f _ => sprG_le c p f _
  simpa using this
def V_spec_l03Spread : Vc :=
  .op true (.p .box [.t 0]) <|
  .op true (.p (.fad 1) [.t 2]) <|
  .op true (.p (.ld none) [.t 3]) <|
  .op true (.p .len [.t 4]) <|
  .op true (.callm (.f 360) [.t 1]) <|
  .loop 0 [.t 6, .c (int 0)] <|
  .op true (.p .len [.t 1]) <|
  .op true (.p (.bin .lss) [.t 8, .t 9]) <|
  .br 10
   (.op true (.p (.iad 1) [.t 1, .t 8]) <|
   .op true (.p (.ld none) [.t 11]) <|
   .op true (.p (.iad 1) [.t 12, .c (int 0)]) <|
   .op true (.p (.ld none) [.t 13]) <|
   .op true (.p (.iad 1) [.t 1, .t 8]) <|
   .op true (.p (.ld none) [.t 15]) <|
   .op true (.p (.iad 1) [.t 16, .c (int 1)]) <|
   .op true (.p (.ld none) [.t 17]) <|
   .loop 1 [.t 7, .c (int 0)] <|
   .op true (.p (.bin .lss) [.t 20, .t 5]) <|
   .br 21
    (.loop 2 [.t 19, .c (int 0)] <|
    .op true (.p (.bin .lss) [.t 23, .t 5]) <|
    .br 24
     (.op true (.p (.fad 2) [.t 2]) <|
     .op true (.p (.ld none) [.t 25]) <|
     .op true (.p (.iad 1) [.t 26, .t 20]) <|
     .op true (.p (.ld none) [.t 27]) <|
     .op true (.p (.fad 1) [.t 2]) <|
     .op true (.p (.ld none) [.t 29]) <|
     .op true (.p (.iad 1) [.t 30, .t 14]) <|
     .op true (.p (.ld none) [.t 31]) <|
     .op true (.p (.bin .eql) [.t 28, .t 32]) <|
     .br 33
      (.op true (.p (.fad 2) [.t 2]) <|
      .op true (.p (.ld none) [.t 34]) <|
      .op true (.p (.iad 1) [.t 35, .t 14]) <|
      .op true (.p (.ld none) [.t 36]) <|
      .op true (.p (.fad 1) [.t 2]) <|
      .op true (.p (.ld none) [.t 38]) <|
      .op true (.p (.iad 1) [.t 39, .t 23]) <|
      .op true (.p (.ld none) [.t 40]) <|
      .op true (.p (.bin .eql) [.t 37, .t 41]) <|
      .br 42
       (.op true (.p (.ld (some 5)) [.t 2]) <|
       .op true (.p (.ld (some 5)) [.t 2]) <|
       .op true (.call (.f 253) [.t 44, .t 20, .t 14]) <|
       .op true (.call (.f 253) [.t 43, .t 45, .t 23]) <|
       .op true (.p (.ld (some 5)) [.t 2]) <|
       .op true (.p (.ld (some 5)) [.t 2]) <|
       .op true (.call (.f 253) [.t 48, .t 20, .t 18]) <|
       .op true (.call (.f 253) [.t 47, .t 49, .t 23]) <|
       .op true (.p (.msl 2 [int 0, int 0] [(0, 1), (1, 1)]) [.t 46, .t 50]) <|
       .op true (.p (.msl 1 [.nil] [(0, 1)]) [.t 51]) <|
       .op true (.app 1 (.t 22) (.t 52)) <|
       .op true (.p (.bin .add) [.t 23, .c (int 1)]) <|
       .again 2 [.t 53, .t 54])
       (.op true (.p (.bin .add) [.t 23, .c (int 1)]) <|
       .again 2 [.t 22, .t 43]))
      (.op true (.p (.bin .add) [.t 23, .c (int 1)]) <|
      .again 2 [.t 22, .t 34]))
     (.op true (.p (.bin .add) [.t 20, .c (int 1)]) <|
     .again 1 [.t 22, .t 25]))
    (.op true (.p (.bin .add) [.t 8, .c (int 1)]) <|
    .again 0 [.t 19, .t 22]))
   (.op true (.call (.f 291) [.t 5, .t 7]) <|
   .ret [(.t 11, none)])
set_option maxHeartbeats 4000000 in
theorem l03Spread_fi (J : HLab P ν) (how : Has P ν 259 1 V_spec_l01Own) (how2 : Has P ν 360 1 V_spec_l01Own2) (ht : Has P ν 253 3 V_spec_l02Then) (h : Has P ν 341 2 V_spec_l03Spread) (c : Cat) (k : IsCat c) (L : List (Nat × Nat)) (hl : L.length ≤ 1048576) (hL : ∀ p ∈ L, Par c p.1 p.2) :
    Fi (OkM P ν) 341 [.agg c.cells, .sl (rows (prM L)) (prM L).length] (islice (nrm (lab (sprP c L)) c.f.length)) := by
  refine OkM.mono (Φ := fun r _ _ => r = islice (nrm (lab (sprP c L)) c.f.length)) (h [.agg c.cells, .sl (rows (prM L)) (prM L).length] hempty 0 _ rfl fun hwf => ?_) (by rintro r H' nx' rfl; exact frz_islice)
  unfold V_spec_l03Spread
  have s := k.1
  have n40 := s.n40
  have tl := s.tl
  have pl := prM_len (l := L)
  have two : ∀ i, i < (prM L).length → ((prM L).getD i []).length ≤ 1048576 := fun i hi => by rw [prM_at (by omega)]; simp
  try simp (disch := (first | rfl | with_reducible assumption | with_reducible solve_by_elim (maxDepth := 8) [Shape.inT, Shape.inI, Shape.inC, Shape.inK, Shape.obF, Shape.obT, Shape.arI, Arr.inF] | omega)) only [S2, Nat.reduceEqDiff, Nat.reduceAdd, iput, puts]
  refine den_callm (fc := (360, [])) rfl (l01Own2_ok how how2 (prM L) (by omega) two hempty 0) ⟨_, _, _, l01Own2_some (prM L) hempty 0⟩ fun u H0 n0 hu => ?_
  try simp (disch := (first | rfl | with_reducible assumption | with_reducible solve_by_elim (maxDepth := 8) [Shape.inT, Shape.inI, Shape.inC, Shape.inK, Shape.obF, Shape.obT, Shape.arI, Arr.inF] | omega)) only [S2, Nat.reduceEqDiff, Nat.reduceAdd, iput, puts]
  refine den_loop (α := Nat × AV) (fun a => [a.2, int a.1]) (fun a H' nx' => a.1 ≤ L.length ∧ IsC (rows (prM (L ++ (L.take a.1).flatMap (spr c)))) (prM (L ++ (L.take a.1).flatMap (spr c))).length 1 hempty 0 a.2 H' nx') (fun a => L.length - a.1) (0, u) rfl ⟨Nat.zero_le _, by simpa using hu⟩ ?_
  clear hu
  rintro ⟨i, v⟩ H1 n1 ⟨hi, hI⟩
  simp only at hi hI
  have lz : ((L.take i).flatMap (spr c)).length ≤ i * 1600 := by
    have := flat_len_le (L.take i) (spr c) 1600 fun p _ => Nat.le_trans (spr_len c p) (Nat.mul_le_mul n40 n40)
    rw [List.length_take, Nat.min_eq_left hi] at this
    exact this
  by_cases hlt : i < L.length
  · have hlt' : i < (prM L).length := by omega
    have kR : InR (prM L) (i : Int) := InR.nat hlt'
    obtain ⟨x, y, hxy⟩ : ∃ x y, L[i] = (x, y) := ⟨_, _, rfl⟩
    have row : gR (prM L) (i : Int) = [(x : Int), (y : Int)] := by show (prM L).getD i [] = _; rw [prM_at hlt, hxy]
    have mem := List.getElem_mem hlt
    rw [hxy] at mem
    have pp := hL _ mem
    have hx := pp.a
    have hy := pp.b
    have pF := pp.F
    have pT := pp.T
    simp only at hx hy pF pT
    have ax : Arr c (x : Int) := Arr.of hx
    have ay : Arr c (y : Int) := Arr.of hy
    have r0 : In [(x : Int), (y : Int)] 0 := ⟨by omega, by simp⟩
    have r1 : In [(x : Int), (y : Int)] 1 := ⟨by omega, by simp⟩
    have g0 : gI [(x : Int), (y : Int)] 0 = x := rfl
    have g1 : gI [(x : Int), (y : Int)] 1 = y := rfl
    have ti : (L.take (i + 1)).flatMap (spr c) = (L.take i).flatMap (spr c) ++ spr c (x, y) := by rw [List.take_succ_eq_append_getElem hlt, List.flatMap_append, hxy]; simp
    generalize hA : L ++ (L.take i).flatMap (spr c) = A at hI
    have lA : A.length ≤ 1048576 + 1048576 * 1600 := by
      rw [← hA, List.length_append]
      have : i * 1600 ≤ 1048576 * 1600 := Nat.mul_le_mul_right _ (by omega)
      omega
    try simp (disch := (first | rfl | with_reducible assumption | with_reducible solve_by_elim (maxDepth := 8) [Shape.inT, Shape.inI, Shape.inC, Shape.inK, Shape.obF, Shape.obT, Shape.arI, Arr.inF] | omega)) only [S2, Nat.reduceEqDiff, Nat.reduceAdd, iput, puts, hlt', row, g0, g1]
    refine den_loop (α := Nat × AV) (fun a => [a.2, int a.1]) (fun a H' nx' => a.1 ≤ c.f.length ∧ IsC (rows (prM (A ++ (List.range a.1).flatMap (sprF c (x, y))))) (prM (A ++ (List.range a.1).flatMap (sprF c (x, y)))).length 1 hempty 0 a.2 H' nx') (fun a => c.f.length - a.1) (0, v) rfl ⟨Nat.zero_le _, by simpa using hI⟩ ?_
    rintro ⟨f, v1⟩ H2 n2 ⟨hf, hJ⟩
    simp only at hf hJ
    by_cases hlf : f < c.f.length
    · have af : Arr c (f : Int) := Arr.of hlf
      have tf := range_flat (sprF c (x, y)) f
      have lF := sprF_le c (x, y) f
      generalize hB : A ++ (List.range f).flatMap (sprF c (x, y)) = B at hJ
      have lB : B.length ≤ 1048576 + 1048576 * 1600 + 1600 := by
        rw [← hB, List.length_append]
        have : f * c.f.length ≤ 40 * 40 := Nat.mul_le_mul (by omega) n40
        omega
      try simp (disch := (first | rfl | with_reducible assumption | with_reducible solve_by_elim (maxDepth := 8) [Shape.inT, Shape.inI, Shape.inC, Shape.inK, Shape.obF, Shape.obT, Shape.arI, Arr.inF] | omega)) only [S2, Nat.reduceEqDiff, Nat.reduceAdd, iput, puts, hlf]
      refine den_loop (α := Nat × AV) (fun a => [a.2, int a.1]) (fun a H' nx' => a.1 ≤ c.f.length ∧ IsC (rows (prM (B ++ (List.range a.1).flatMap (sprFG c (x, y) f)))) (prM (B ++ (List.range a.1).flatMap (sprFG c (x, y) f))).length 1 hempty 0 a.2 H' nx') (fun a => c.f.length - a.1) (0, v1) rfl ⟨Nat.zero_le _, by simpa using hJ⟩ ?_
      rintro ⟨g, v2⟩ H3 n3 ⟨hg, hK⟩
      simp only at hg hK
      by_cases hlg : g < c.f.length
      · have ag : Arr c (g : Int) := Arr.of hlg
        have if1 : In c.t (f : Int) := s.inT af
        have if2 : In c.f (x : Int) := ax.inF
        have if3 : In c.t (x : Int) := s.inT ax
        have if4 : In c.f (g : Int) := ag.inF
        have tg := range_flat (sprFG c (x, y) f) g
        have lG := sprG_le c (x, y) f g
        generalize hD : B ++ (List.range g).flatMap (sprFG c (x, y) f) = D at hK
        have lD : D.length ≤ 1048576 + 1048576 * 1600 + 1640 := by rw [← hD, List.length_append]; omega
        have skip : ¬ (c.T f = c.F x ∧ c.T x = c.F g) → ∃ a' : Nat × AV, [v2, int ((g + 1 : Nat) : Int)] = [a'.2, int a'.1] ∧ (a'.1 ≤ c.f.length ∧ IsC (rows (prM (B ++ (List.range a'.1).flatMap (sprFG c (x, y) f)))) (prM (B ++ (List.range a'.1).flatMap (sprFG c (x, y) f))).length 1 hempty 0 a'.2 H3 n3) ∧ c.f.length - a'.1 < c.f.length - g := fun q => by
          refine ⟨(g + 1, v2), rfl, ⟨hlg, ?_⟩, by simp only; omega⟩
          simp only
          rw [tg, show sprFG c (x, y) f g = [] from if_neg q, List.append_nil, hD]
          exact hK
        try simp (disch := (first | rfl | with_reducible assumption | with_reducible solve_by_elim (maxDepth := 8) [Shape.inT, Shape.inI, Shape.inC, Shape.inK, Shape.obF, Shape.obT, Shape.arI, Arr.inF] | omega)) only [S2, Nat.reduceEqDiff, Nat.reduceAdd, iput, puts, hlg]
        refine ⟨fun e1 => ?_, fun e1 => ?_⟩
        · try simp (disch := (first | rfl | with_reducible assumption | with_reducible solve_by_elim (maxDepth := 8) [Shape.inT, Shape.inI, Shape.inC, Shape.inK, Shape.obF, Shape.obT, Shape.arI, Arr.inF] | omega)) only [S2, Nat.reduceEqDiff, Nat.reduceAdd, iput, puts]
          refine ⟨fun e2 => ?_, fun e2 => ?_⟩
          · obtain ⟨a1, a2, a3, a4⟩ := kN_ok k hlf hx e1
            obtain ⟨b1, b2, b3, b4⟩ := kN_ok k hlf hy (by rw [e1, pF])
            obtain ⟨d1, d2, d3, d4⟩ := kN_ok k a1 hlg (by rw [a4, e2])
            obtain ⟨g1', g2, g3, g4⟩ := kN_ok k b1 hlg (by rw [b4, ← pT, e2])
            have aa : Arr c (c.K f x) := by rw [← a2]; exact Arr.of a1
            have ab : Arr c (c.K f y) := by rw [← b2]; exact Arr.of b1
            have new : sprFG c (x, y) f g = [(kN c (kN c f x) g, kN c (kN c f y) g)] := if_pos ⟨e1, e2⟩
            repeat (first | simp (disch := (first | rfl | with_reducible assumption | with_reducible solve_by_elim (maxDepth := 8) [Shape.inT, Shape.inI, Shape.inC, Shape.inK, Shape.obF, Shape.obT, Shape.arI, Arr.inF] | omega)) only [S2, Nat.reduceEqDiff, Nat.reduceAdd, iput, puts] | (refine den_call rfl (by first | (simp only [SS, Nat.reduceEqDiff, Nat.reduceAdd, iput, puts, FF, frzL_cat]; done) | (simp only [SS, Nat.reduceEqDiff, Nat.reduceAdd, iput, puts, FF, frzL_cat]; rfl)) (by first | exact s.sThenFz ht af ax | exact s.sThenFz ht aa ag) ?_) | (refine den_calli rfl (by first | (simp only [SS, Nat.reduceEqDiff, Nat.reduceAdd, iput, puts, FF, frzL_cat]; done) | (simp only [SS, Nat.reduceEqDiff, Nat.reduceAdd, iput, puts, FF, frzL_cat]; rfl)) (by first | exact s.sThenFz ht af ax | exact s.sThenFz ht aa ag) ?_))
            repeat (first | simp (disch := (first | rfl | with_reducible assumption | with_reducible solve_by_elim (maxDepth := 8) [Shape.inT, Shape.inI, Shape.inC, Shape.inK, Shape.obF, Shape.obT, Shape.arI, Arr.inF] | omega)) only [S2, Nat.reduceEqDiff, Nat.reduceAdd, iput, puts] | (refine den_call rfl (by first | (simp only [SS, Nat.reduceEqDiff, Nat.reduceAdd, iput, puts, FF, frzL_cat]; done) | (simp only [SS, Nat.reduceEqDiff, Nat.reduceAdd, iput, puts, FF, frzL_cat]; rfl)) (by first | exact s.sThenFz ht af ay | exact s.sThenFz ht ab ag) ?_) | (refine den_calli rfl (by first | (simp only [SS, Nat.reduceEqDiff, Nat.reduceAdd, iput, puts, FF, frzL_cat]; done) | (simp only [SS, Nat.reduceEqDiff, Nat.reduceAdd, iput, puts, FF, frzL_cat]; rfl)) (by first | exact s.sThenFz ht af ay | exact s.sThenFz ht ab ag) ?_))
            try simp (disch := (first | rfl | with_reducible assumption | with_reducible solve_by_elim (maxDepth := 8) [Shape.inT, Shape.inI, Shape.inC, Shape.inK, Shape.obF, Shape.obT, Shape.arI, Arr.inF] | omega)) only [S2, Nat.reduceEqDiff, Nat.reduceAdd, iput, puts, p_msl1R]
            refine den_appC (m := 1) (ds := [islice [c.K (c.K f x) g, c.K (c.K f y) g]]) hK rfl (by simp) rfl rfl (by rw [prM_len]; omega) fun v3 H4 n4 hI2 => ?_
            try simp (disch := (first | rfl | with_reducible assumption | with_reducible solve_by_elim (maxDepth := 8) [Shape.inT, Shape.inI, Shape.inC, Shape.inK, Shape.obF, Shape.obT, Shape.arI, Arr.inF] | omega)) only [S2, Nat.reduceEqDiff, Nat.reduceAdd, iput, puts]
            refine ⟨(g + 1, v3), rfl, ⟨hlg, ?_⟩, by simp only; omega⟩
            simp only
            rw [tg, new, ← List.append_assoc, hD, prM_append, rows_append, List.length_append]
            have e5 : prM [(kN c (kN c f x) g, kN c (kN c f y) g)] = [[c.K (c.K f x) g, c.K (c.K f y) g]] := by
              show [[((kN c (kN c f x) g : Nat) : Int), ((kN c (kN c f y) g : Nat) : Int)]] = _
              rw [d2, g2, a2, b2]
            rw [e5]
            exact hI2
          · try simp (disch := (first | rfl | with_reducible assumption | with_reducible solve_by_elim (maxDepth := 8) [Shape.inT, Shape.inI, Shape.inC, Shape.inK, Shape.obF, Shape.obT, Shape.arI, Arr.inF] | omega)) only [S2, Nat.reduceEqDiff, Nat.reduceAdd, iput, puts]
            exact skip fun q => e2 q.2
        · try simp (disch := (first | rfl | with_reducible assumption | with_reducible solve_by_elim (maxDepth := 8) [Shape.inT, Shape.inI, Shape.inC, Shape.inK, Shape.obF, Shape.obT, Shape.arI, Arr.inF] | omega)) only [S2, Nat.reduceEqDiff, Nat.reduceAdd, iput, puts]
          exact skip fun q => e1 q.1
      · try simp (disch := (first | rfl | with_reducible assumption | with_reducible solve_by_elim (maxDepth := 8) [Shape.inT, Shape.inI, Shape.inC, Shape.inK, Shape.obF, Shape.obT, Shape.arI, Arr.inF] | omega)) only [S2, Nat.reduceEqDiff, Nat.reduceAdd, iput, puts, hlg]
        refine ⟨(f + 1, v2), rfl, ⟨hlf, ?_⟩, by simp only; omega⟩
        have hge : g = c.f.length := by omega
        subst hge
        simp only
        rw [tf, ← List.append_assoc, hB]
        exact hK
    · try simp (disch := (first | rfl | with_reducible assumption | with_reducible solve_by_elim (maxDepth := 8) [Shape.inT, Shape.inI, Shape.inC, Shape.inK, Shape.obF, Shape.obT, Shape.arI, Arr.inF] | omega)) only [S2, Nat.reduceEqDiff, Nat.reduceAdd, iput, puts, hlf]
      refine ⟨(i + 1, v1), rfl, ⟨hlt, ?_⟩, by simp only; omega⟩
      have hfe : f = c.f.length := by omega
      subst hfe
      simp only
      rw [ti, ← List.append_assoc, hA, spr_eq]
      exact hJ
  · have hlt' : ¬ i < (prM L).length := by omega
    have hie : i = L.length := by omega
    subst hie
    rw [List.take_length] at hI
    have hI : IsC (rows (prM (sprP c L))) (prM (sprP c L)).length 1 hempty 0 v H1 n1 := hI
    have ls : (sprP c L).length ≤ 1099511627776 := by
      unfold sprP
      rw [List.length_append]
      have := flat_len_le L (spr c) 1600 fun p _ => Nat.le_trans (spr_len c p) (Nat.mul_le_mul n40 n40)
      have : L.length * 1600 ≤ 1048576 * 1600 := Nat.mul_le_mul_right _ hl
      omega
    have jo : Fz (OkM P ν) 291 [int (c.f.length : Int), .sl (rows (prM (sprP c L))) (prM (sprP c L)).length] (islice (nrm (lab (sprP c L)) c.f.length)) := OkM.fz (fun H nx => l01Join_ok J.index J.classes J.join c.f.length (by omega) (sprP c L) (fun p hp => by have := spr_par k hL (x := p.1) (y := p.2) hp; exact ⟨this.a, this.b⟩) ls _ rfl H nx) fun _ _ _ hh => hh.frz _
    try simp (disch := (first | rfl | with_reducible assumption | with_reducible solve_by_elim (maxDepth := 8) [Shape.inT, Shape.inI, Shape.inC, Shape.inK, Shape.obF, Shape.obT, Shape.arI, Arr.inF] | omega)) only [S2, Nat.reduceEqDiff, Nat.reduceAdd, iput, puts, hlt']
    refine den_call (fc := (291, [])) (ys := [int (c.f.length : Int), .sl (rows (prM (sprP c L))) (prM (sprP c L)).length]) rfl (by simp only [SS, Nat.reduceEqDiff, Nat.reduceAdd, iput, puts, frzL, List.mapM_cons, List.mapM_nil, List.append_nil, hI.rows]; rfl) jo ?_
    exact ⟨_, rfl, H1, fun _ _ h => h, rfl⟩
end Go.Av
