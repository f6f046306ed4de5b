/-
  The reference's spans: squares, forks, the first one that all others lead to just once.
-/
import Derived.Test.YtalfoffamemfnaaAvS1
namespace Go.Av
open Classical
set_option linter.unusedSimpArgs false
set_option linter.unusedVariables false
variable {P : Program} {ν : Nat → FuncId}

/-- All squares, all forks. -/
def Sp.sq (s : Sp) : List (List Int) := (List.range s.c.o.toNat).flatMap fun (z : Nat) => (s.fr z).map fun p => [(z : Int), p.1, p.2]
def Sp.fk (s : Sp) : List (List Int) := (List.range s.c.o.toNat).flatMap fun (z : Nat) => (s.fr z).map fun p => [(z : Int), p.1]

theorem Sp.row_len {s : Sp} (k : Shape s.c) (w a : Int) : (s.row w a).length ≤ 40 := by
  unfold Sp.row
  split
  · split <;> simp
  · rw [List.length_map]; exact Nat.le_trans (List.length_filter_le _ _) (homL_len k _ _)
theorem Sp.fr_len {s : Sp} (k : Shape s.c) (w : Int) : (s.fr w).length ≤ 1600 := by
  have := flat_len_le (homL s.c w s.x) (fun a => s.row w a) 40 fun a _ => Sp.row_len k w a
  have h2 := homL_len k w s.x
  unfold Sp.fr
  have : (homL s.c w s.x).length * 40 ≤ 40 * 40 := Nat.mul_le_mul_right _ h2
  omega
def V_spec_l13Squares : Vc :=
  .op true (.p .box [.t 0]) <|
  .op true (.p (.msl 0 [] []) []) <|
  .loop 0 [.t 6, .c (int 0)] <|
  .op true (.p (.fad 0) [.t 5]) <|
  .op true (.p (.ld none) [.t 9]) <|
  .op true (.p (.bin .lss) [.t 8, .t 10]) <|
  .br 11
   (.op true (.p (.ld (some 5)) [.t 5]) <|
   .op true (.call (.f 309) [.t 12, .t 8, .t 1]) <|
   .op true (.p (.ld (some 5)) [.t 5]) <|
   .op true (.call (.f 309) [.t 14, .t 8, .t 2]) <|
   .loop 1 [.t 7, .c (int 0)] <|
   .op true (.p .len [.t 13]) <|
   .op true (.p (.bin .lss) [.t 17, .t 18]) <|
   .br 19
    (.loop 2 [.t 16, .c (int 0)] <|
    .op true (.p .len [.t 15]) <|
    .op true (.p (.bin .lss) [.t 21, .t 22]) <|
    .br 23
     (.op true (.p (.bin .lss) [.t 3, .c (int 0)]) <|
     .br 24
      (.op true (.p (.iad 1) [.t 13, .t 17]) <|
      .op true (.p (.ld none) [.t 25]) <|
      .op true (.p (.iad 1) [.t 15, .t 21]) <|
      .op true (.p (.ld none) [.t 27]) <|
      .op true (.p (.msl 3 [int 0, int 0, int 0] [(0, 1), (1, 1), (2, 1)]) [.t 8, .t 26, .t 28]) <|
      .op true (.p (.msl 1 [.nil] [(0, 1)]) [.t 29]) <|
      .op true (.app 1 (.t 20) (.t 30)) <|
      .op true (.p (.bin .add) [.t 21, .c (int 1)]) <|
      .again 2 [.t 31, .t 32])
      (.op true (.p (.ld (some 5)) [.t 5]) <|
      .op true (.p (.iad 1) [.t 13, .t 17]) <|
      .op true (.p (.ld none) [.t 26]) <|
      .op true (.call (.f 253) [.t 25, .t 27, .t 3]) <|
      .op true (.p (.ld (some 5)) [.t 5]) <|
      .op true (.p (.iad 1) [.t 15, .t 21]) <|
      .op true (.p (.ld none) [.t 30]) <|
      .op true (.call (.f 253) [.t 29, .t 31, .t 4]) <|
      .op true (.p (.bin .eql) [.t 28, .t 32]) <|
      .br 33
       (.op true (.p (.iad 1) [.t 13, .t 17]) <|
       .op true (.p (.ld none) [.t 34]) <|
       .op true (.p (.iad 1) [.t 15, .t 21]) <|
       .op true (.p (.ld none) [.t 36]) <|
       .op true (.p (.msl 3 [int 0, int 0, int 0] [(0, 1), (1, 1), (2, 1)]) [.t 8, .t 35, .t 37]) <|
       .op true (.p (.msl 1 [.nil] [(0, 1)]) [.t 38]) <|
       .op true (.app 1 (.t 20) (.t 39)) <|
       .op true (.p (.bin .add) [.t 21, .c (int 1)]) <|
       .again 2 [.t 40, .t 41])
       (.op true (.p (.bin .add) [.t 21, .c (int 1)]) <|
       .again 2 [.t 20, .t 34])))
     (.op true (.p (.bin .add) [.t 17, .c (int 1)]) <|
     .again 1 [.t 20, .t 24]))
    (.op true (.p (.bin .add) [.t 8, .c (int 1)]) <|
    .again 0 [.t 16, .t 20]))
   (.ret [(.t 7, none)])
set_option maxHeartbeats 2000000 in
theorem l13Squares_fi (hh : Has P ν 309 3 V_spec_l02Hom) (ht : Has P ν 253 3 V_spec_l02Then) (h : Has P ν 400 5 V_spec_l13Squares) (s : Sp) (k : CatA s.c) (f g : Int) (hal : s.alone = false) (hfit : ∀ a b, s.fits a b = (decide (f < 0) || s.c.K a f == s.c.K b g)) (hf : ¬ f < 0 → Arr s.c f ∧ Arr s.c g) :
    Fi (OkM P ν) 400 [.agg s.c.cells, int s.x, int s.y, int f, int g] (.sl (rows s.sq) s.sq.length) := by
  refine OkM.fi (Ψ := fun H nx => IsC (rows s.sq) s.sq.length 1 H nx) (fun H nx => h _ _ _ _ rfl fun hwf => ?_) fun _ _ _ hh => hh.rows
  unfold V_spec_l13Squares
  have sh := k.s
  have o0 := sh.o0
  have o8 := sh.o8
  have rowE : ∀ w a, s.row w a = ((homL s.c w s.y).filter fun b => s.fits a b).map fun b => (a, b) := fun w a => by rw [Sp.row, if_neg (by simp [hal])]
  try simp (disch := (first | rfl | with_reducible assumption | with_reducible solve_by_elim (maxDepth := 8) [Shape.inT, Shape.inI, Shape.inC, Shape.inK, Shape.obF, Shape.obT, Shape.arI, Arr.inF] | omega)) only [S2, Nat.reduceEqDiff, Nat.reduceAdd, iput, puts]
  refine den_loop (α := Nat × AV) (fun a => [a.2, int a.1]) (fun a H' nx' => a.1 ≤ s.c.o.toNat ∧ IsC (rows ((List.range a.1).flatMap fun (z : Nat) => (s.fr z).map fun p => [(z : Int), p.1, p.2])) ((List.range a.1).flatMap fun (z : Nat) => (s.fr z).map fun p => [(z : Int), p.1, p.2]).length 1 H nx a.2 H' nx') (fun a => s.c.o.toNat - a.1) (0, .nil) rfl ⟨Nat.zero_le _, IsC.nil⟩ ?_
  rintro ⟨z, v⟩ H1 n1 ⟨hz, hI⟩
  simp only at hz hI
  have lz : ((List.range z).flatMap fun (z : Nat) => (s.fr z).map fun p => [(z : Int), p.1, p.2]).length ≤ 8 * 1600 := by
    have := flat_len_le (List.range z) (fun (z : Nat) => (s.fr z).map fun p => [(z : Int), p.1, p.2]) 1600 fun a _ => by rw [List.length_map]; exact Sp.fr_len sh _
    simp only [List.length_range] at this
    have h3 : z * 1600 ≤ 8 * 1600 := Nat.mul_le_mul_right _ (by omega)
    exact Nat.le_trans this h3
  by_cases hlt : (z : Int) < s.c.o
  · have zo : Ob s.c z := ⟨by omega, hlt⟩
    have tz := range_flat (fun (z : Nat) => (s.fr z).map fun p => [(z : Int), p.1, p.2]) z
    generalize hA : ((List.range z).flatMap fun (z : Nat) => (s.fr z).map fun p => [(z : Int), p.1, p.2]) = A at hI lz tz
    have l1 := homL_len sh z s.x
    have l2 := homL_len sh z s.y
    repeat (first | simp (disch := (first | rfl | with_reducible assumption | with_reducible solve_by_elim (maxDepth := 8) [Shape.inT, Shape.inI, Shape.inC, Shape.inK, Shape.obF, Shape.obT, Shape.arI, Arr.inF] | omega)) only [S2, Nat.reduceEqDiff, Nat.reduceAdd, iput, puts, hlt] | (refine den_call rfl (by first | (simp only [SS, Nat.reduceEqDiff, Nat.reduceAdd, iput, puts, FF, frzL_cat]; done) | (simp only [SS, Nat.reduceEqDiff, Nat.reduceAdd, iput, puts, FF, frzL_cat]; rfl)) (by first | exact sh.sHomFz hh z s.x | exact sh.sHomFz hh z s.y) ?_) | (refine den_calli rfl (by first | (simp only [SS, Nat.reduceEqDiff, Nat.reduceAdd, iput, puts, FF, frzL_cat]; done) | (simp only [SS, Nat.reduceEqDiff, Nat.reduceAdd, iput, puts, FF, frzL_cat]; rfl)) (by first | exact sh.sHomFz hh z s.x | exact sh.sHomFz hh z s.y) ?_))
    refine den_loop (α := Nat × AV) (fun a => [a.2, int a.1]) (fun a H' nx' => a.1 ≤ (homL s.c z s.x).length ∧ IsC (rows (A ++ (((homL s.c z s.x).take a.1).flatMap fun a => s.row z a).map fun p => [(z : Int), p.1, p.2])) (A ++ (((homL s.c z s.x).take a.1).flatMap fun a => s.row z a).map fun p => [(z : Int), p.1, p.2]).length 1 H nx a.2 H' nx') (fun a => (homL s.c z s.x).length - a.1) (0, v) rfl ⟨Nat.zero_le _, by simpa using hI⟩ ?_
    rintro ⟨i, v1⟩ H2 n2 ⟨hi, hJ⟩
    simp only at hi hJ
    by_cases hli : i < (homL s.c z s.x).length
    · have i1 : In (homL s.c z s.x) (i : Int) := In.nat hli
      have a := hom_arr hli
      have ti : (((homL s.c z s.x).take (i + 1)).flatMap fun a => s.row z a) = (((homL s.c z s.x).take i).flatMap fun a => s.row z a) ++ s.row z ((homL s.c z s.x).getD i 0) := by rw [take_succ_at hli, List.flatMap_append]; simp
      have li : (((homL s.c z s.x).take i).flatMap fun a => s.row z a).length ≤ 1600 := by
        have := flat_len_le ((homL s.c z s.x).take i) (fun a => s.row z a) 40 fun a _ => Sp.row_len sh z a
        have h3 : ((homL s.c z s.x).take i).length ≤ 40 := by simp; omega
        have h4 : ((homL s.c z s.x).take i).length * 40 ≤ 40 * 40 := Nat.mul_le_mul_right _ h3
        omega
      generalize hB : (((homL s.c z s.x).take i).flatMap fun a => s.row z a) = B at hJ ti li
      try simp (disch := (first | rfl | with_reducible assumption | with_reducible solve_by_elim (maxDepth := 8) [Shape.inT, Shape.inI, Shape.inC, Shape.inK, Shape.obF, Shape.obT, Shape.arI, Arr.inF] | omega)) only [S2, Nat.reduceEqDiff, Nat.reduceAdd, iput, puts, hli]
      refine den_loop (α := Nat × AV) (fun a => [a.2, int a.1]) (fun b H' nx' => b.1 ≤ (homL s.c z s.y).length ∧ IsC (rows (A ++ (B ++ (((homL s.c z s.y).take b.1).filter fun b => s.fits ((homL s.c z s.x).getD i 0) b).map fun b => ((homL s.c z s.x).getD i 0, b)).map fun p => [(z : Int), p.1, p.2])) (A ++ (B ++ (((homL s.c z s.y).take b.1).filter fun b => s.fits ((homL s.c z s.x).getD i 0) b).map fun b => ((homL s.c z s.x).getD i 0, b)).map fun p => [(z : Int), p.1, p.2]).length 1 H nx b.2 H' nx') (fun a => (homL s.c z s.y).length - a.1) (0, v1) rfl ⟨Nat.zero_le _, by simpa using hJ⟩ ?_
      rintro ⟨j, v2⟩ H3 n3 ⟨hj, hK⟩
      simp only at hj hK
      by_cases hlj : j < (homL s.c z s.y).length
      · have i2 : In (homL s.c z s.y) (j : Int) := In.nat hlj
        have b := hom_arr hlj
        have fl := take_filter_len (homL s.c z s.y) (fun b => s.fits ((homL s.c z s.x).getD i 0) b) j
        have tj := take_filter (q := fun b => s.fits ((homL s.c z s.x).getD i 0) b) hlj
        have fitE := hfit ((homL s.c z s.x).getD i 0) ((homL s.c z s.y).getD j 0)
        have go : s.fits ((homL s.c z s.x).getD i 0) ((homL s.c z s.y).getD j 0) = true → ∀ v3 H4 n4, IsC (rows (A ++ (B ++ (((homL s.c z s.y).take j).filter fun b => s.fits ((homL s.c z s.x).getD i 0) b).map fun b => ((homL s.c z s.x).getD i 0, b)).map fun p => [(z : Int), p.1, p.2]) ++ [islice [(z : Int), (homL s.c z s.x).getD i 0, (homL s.c z s.y).getD j 0]]) ((A ++ (B ++ (((homL s.c z s.y).take j).filter fun b => s.fits ((homL s.c z s.x).getD i 0) b).map fun b => ((homL s.c z s.x).getD i 0, b)).map fun p => [(z : Int), p.1, p.2]).length + 1) 1 H nx v3 H4 n4 →
            IsC (rows (A ++ (B ++ (((homL s.c z s.y).take (j + 1)).filter fun b => s.fits ((homL s.c z s.x).getD i 0) b).map fun b => ((homL s.c z s.x).getD i 0, b)).map fun p => [(z : Int), p.1, p.2])) (A ++ (B ++ (((homL s.c z s.y).take (j + 1)).filter fun b => s.fits ((homL s.c z s.x).getD i 0) b).map fun b => ((homL s.c z s.x).getD i 0, b)).map fun p => [(z : Int), p.1, p.2]).length 1 H nx v3 H4 n4 := fun hft v3 H4 n4 hh => by
          have e : (A ++ (B ++ (((homL s.c z s.y).take (j + 1)).filter fun b => s.fits ((homL s.c z s.x).getD i 0) b).map fun b => ((homL s.c z s.x).getD i 0, b)).map fun p => [(z : Int), p.1, p.2]) = (A ++ (B ++ (((homL s.c z s.y).take j).filter fun b => s.fits ((homL s.c z s.x).getD i 0) b).map fun b => ((homL s.c z s.x).getD i 0, b)).map fun p => [(z : Int), p.1, p.2]) ++ [[(z : Int), (homL s.c z s.x).getD i 0, (homL s.c z s.y).getD j 0]] := by
            rw [tj, if_pos hft]; simp only [List.map_append, List.append_assoc, List.map_cons, List.map_nil]
          rw [e, rows_append, List.length_append]
          exact hh
        have lim : (A ++ (B ++ (((homL s.c z s.y).take j).filter fun b => s.fits ((homL s.c z s.x).getD i 0) b).map fun b => ((homL s.c z s.x).getD i 0, b)).map fun p => [(z : Int), p.1, p.2]).length + 1 ≤ 1099511627776 := by
          simp only [List.length_append, List.length_map]; omega
        try simp (disch := (first | rfl | with_reducible assumption | with_reducible solve_by_elim (maxDepth := 8) [Shape.inT, Shape.inI, Shape.inC, Shape.inK, Shape.obF, Shape.obT, Shape.arI, Arr.inF] | omega)) only [S2, Nat.reduceEqDiff, Nat.reduceAdd, iput, puts, hlj]
        refine ⟨fun hneg => ?_, fun hneg => ?_⟩
        · try simp (disch := (first | rfl | with_reducible assumption | with_reducible solve_by_elim (maxDepth := 8) [Shape.inT, Shape.inI, Shape.inC, Shape.inK, Shape.obF, Shape.obT, Shape.arI, Arr.inF] | omega)) only [S2, Nat.reduceEqDiff, Nat.reduceAdd, iput, puts, gI_nat, p_msl1R]
          refine den_appC (m := 1) hK rfl (by simp) rfl rfl lim fun v3 H4 n4 hI2 => ?_
          try simp (disch := (first | rfl | with_reducible assumption | with_reducible solve_by_elim (maxDepth := 8) [Shape.inT, Shape.inI, Shape.inC, Shape.inK, Shape.obF, Shape.obT, Shape.arI, Arr.inF] | omega)) only [S2, Nat.reduceEqDiff, Nat.reduceAdd, iput, puts]
          exact ⟨(j + 1, v3), rfl, ⟨hlj, go (by rw [fitE, decide_eq_true hneg]; rfl) _ _ _ hI2⟩, by simp only; omega⟩
        · obtain ⟨af, ag⟩ := hf (by omega)
          repeat (first | simp (disch := (first | rfl | with_reducible assumption | with_reducible solve_by_elim (maxDepth := 8) [Shape.inT, Shape.inI, Shape.inC, Shape.inK, Shape.obF, Shape.obT, Shape.arI, Arr.inF] | omega)) only [S2, Nat.reduceEqDiff, Nat.reduceAdd, iput, puts, gI_nat] | (refine den_call rfl (by first | (simp only [SS, Nat.reduceEqDiff, Nat.reduceAdd, iput, puts, FF, frzL_cat]; done) | (simp only [SS, Nat.reduceEqDiff, Nat.reduceAdd, iput, puts, FF, frzL_cat]; rfl)) (by first | exact sh.sThenFz ht a af | exact sh.sThenFz ht b ag) ?_) | (refine den_calli rfl (by first | (simp only [SS, Nat.reduceEqDiff, Nat.reduceAdd, iput, puts, FF, frzL_cat]; done) | (simp only [SS, Nat.reduceEqDiff, Nat.reduceAdd, iput, puts, FF, frzL_cat]; rfl)) (by first | exact sh.sThenFz ht a af | exact sh.sThenFz ht b ag) ?_))
          refine ⟨fun he => ?_, fun he => ?_⟩
          · try simp (disch := (first | rfl | with_reducible assumption | with_reducible solve_by_elim (maxDepth := 8) [Shape.inT, Shape.inI, Shape.inC, Shape.inK, Shape.obF, Shape.obT, Shape.arI, Arr.inF] | omega)) only [S2, Nat.reduceEqDiff, Nat.reduceAdd, iput, puts, gI_nat, p_msl1R]
            refine den_appC (m := 1) hK rfl (by simp) rfl rfl lim fun v3 H4 n4 hI2 => ?_
            try simp (disch := (first | rfl | with_reducible assumption | with_reducible solve_by_elim (maxDepth := 8) [Shape.inT, Shape.inI, Shape.inC, Shape.inK, Shape.obF, Shape.obT, Shape.arI, Arr.inF] | omega)) only [S2, Nat.reduceEqDiff, Nat.reduceAdd, iput, puts]
            exact ⟨(j + 1, v3), rfl, ⟨hlj, go (by rw [fitE, he]; simp) _ _ _ hI2⟩, by simp only; omega⟩
          · try simp (disch := (first | rfl | with_reducible assumption | with_reducible solve_by_elim (maxDepth := 8) [Shape.inT, Shape.inI, Shape.inC, Shape.inK, Shape.obF, Shape.obT, Shape.arI, Arr.inF] | omega)) only [S2, Nat.reduceEqDiff, Nat.reduceAdd, iput, puts]
            refine ⟨(j + 1, v2), rfl, ⟨hlj, ?_⟩, by simp only; omega⟩
            simp only
            rw [tj, if_neg (by rw [fitE, Bool.or_eq_true_iff]; exact fun h1 => h1.elim (fun h1 => hneg (of_decide_eq_true h1)) fun h1 => he (eq_of_beq h1)), List.append_nil]
            exact hK
      · try simp (disch := (first | rfl | with_reducible assumption | with_reducible solve_by_elim (maxDepth := 8) [Shape.inT, Shape.inI, Shape.inC, Shape.inK, Shape.obF, Shape.obT, Shape.arI, Arr.inF] | omega)) only [S2, Nat.reduceEqDiff, Nat.reduceAdd, iput, puts, hlj]
        have hje : j = (homL s.c z s.y).length := by omega
        subst hje
        rw [List.take_length] at hK
        refine ⟨(i + 1, v2), rfl, ⟨hli, ?_⟩, by simp only; omega⟩
        simp only
        rw [ti, rowE]
        exact hK
    · try simp (disch := (first | rfl | with_reducible assumption | with_reducible solve_by_elim (maxDepth := 8) [Shape.inT, Shape.inI, Shape.inC, Shape.inK, Shape.obF, Shape.obT, Shape.arI, Arr.inF] | omega)) only [S2, Nat.reduceEqDiff, Nat.reduceAdd, iput, puts, hli]
      have hie : i = (homL s.c z s.x).length := by omega
      subst hie
      rw [List.take_length] at hJ
      refine ⟨(z + 1, v1), rfl, ⟨by omega, ?_⟩, by simp only; omega⟩
      simp only
      rw [tz]
      exact hJ
  · try simp (disch := (first | rfl | with_reducible assumption | with_reducible solve_by_elim (maxDepth := 8) [Shape.inT, Shape.inI, Shape.inC, Shape.inK, Shape.obF, Shape.obT, Shape.arI, Arr.inF] | omega)) only [S2, Nat.reduceEqDiff, Nat.reduceAdd, iput, puts, hlt]
    have hze : z = s.c.o.toNat := by omega
    subst hze
    exact ⟨_, rfl, _, fun _ _ h => h, hI⟩

def V_spec_l13Forks : Vc :=
  .op true (.p .box [.t 0]) <|
  .op true (.p (.msl 0 [] []) []) <|
  .loop 0 [.t 4, .c (int 0)] <|
  .op true (.p (.fad 0) [.t 3]) <|
  .op true (.p (.ld none) [.t 7]) <|
  .op true (.p (.bin .lss) [.t 6, .t 8]) <|
  .br 9
   (.op true (.p (.ld (some 5)) [.t 3]) <|
   .op true (.p (.fad 1) [.t 3]) <|
   .op true (.p (.ld none) [.t 11]) <|
   .op true (.p (.iad 1) [.t 12, .t 1]) <|
   .op true (.p (.ld none) [.t 13]) <|
   .op true (.call (.f 309) [.t 10, .t 6, .t 14]) <|
   .loop 1 [.t 5, .c (int 0)] <|
   .op true (.p .len [.t 15]) <|
   .op true (.p (.bin .lss) [.t 17, .t 18]) <|
   .br 19
    (.op true (.p (.ld (some 5)) [.t 3]) <|
    .op true (.p (.iad 1) [.t 15, .t 17]) <|
    .op true (.p (.ld none) [.t 21]) <|
    .op true (.call (.f 253) [.t 20, .t 22, .t 1]) <|
    .op true (.p (.ld (some 5)) [.t 3]) <|
    .op true (.p (.iad 1) [.t 15, .t 17]) <|
    .op true (.p (.ld none) [.t 25]) <|
    .op true (.call (.f 253) [.t 24, .t 26, .t 2]) <|
    .op true (.p (.bin .eql) [.t 23, .t 27]) <|
    .br 28
     (.op true (.p (.iad 1) [.t 15, .t 17]) <|
     .op true (.p (.ld none) [.t 29]) <|
     .op true (.p (.msl 2 [int 0, int 0] [(0, 1), (1, 1)]) [.t 6, .t 30]) <|
     .op true (.p (.msl 1 [.nil] [(0, 1)]) [.t 31]) <|
     .op true (.app 1 (.t 16) (.t 32)) <|
     .op true (.p (.bin .add) [.t 17, .c (int 1)]) <|
     .again 1 [.t 33, .t 34])
     (.op true (.p (.bin .add) [.t 17, .c (int 1)]) <|
     .again 1 [.t 16, .t 29]))
    (.op true (.p (.bin .add) [.t 6, .c (int 1)]) <|
    .again 0 [.t 16, .t 20]))
   (.ret [(.t 5, none)])
set_option maxHeartbeats 2000000 in
theorem l13Forks_fi (hh : Has P ν 309 3 V_spec_l02Hom) (ht : Has P ν 253 3 V_spec_l02Then) (h : Has P ν 320 3 V_spec_l13Forks) (s : Sp) (k : CatA s.c) (f g : Int) (hal : s.alone = true) (hfit : ∀ a b, s.fits a b = (s.c.K a f == s.c.K b g)) (hx : s.x = s.c.F f) (af : Arr s.c f) (ag : Arr s.c g) :
    Fi (OkM P ν) 320 [.agg s.c.cells, int f, int g] (.sl (rows s.fk) s.fk.length) := by
  refine OkM.fi (Ψ := fun H nx => IsC (rows s.fk) s.fk.length 1 H nx) (fun H nx => h _ _ _ _ rfl fun hwf => ?_) fun _ _ _ hh => hh.rows
  unfold V_spec_l13Forks
  have sh := k.s
  have o0 := sh.o0
  have o8 := sh.o8
  have rowE : ∀ w a, s.row w a = if s.fits a a then [(a, a)] else [] := fun w a => by rw [Sp.row, if_pos hal]
  try simp (disch := (first | rfl | with_reducible assumption | with_reducible solve_by_elim (maxDepth := 8) [Shape.inT, Shape.inI, Shape.inC, Shape.inK, Shape.obF, Shape.obT, Shape.arI, Arr.inF] | omega)) only [S2, Nat.reduceEqDiff, Nat.reduceAdd, iput, puts]
  refine den_loop (α := Nat × AV) (fun a => [a.2, int a.1]) (fun a H' nx' => a.1 ≤ s.c.o.toNat ∧ IsC (rows ((List.range a.1).flatMap fun (z : Nat) => (s.fr z).map fun p => [(z : Int), p.1])) ((List.range a.1).flatMap fun (z : Nat) => (s.fr z).map fun p => [(z : Int), p.1]).length 1 H nx a.2 H' nx') (fun a => s.c.o.toNat - a.1) (0, .nil) rfl ⟨Nat.zero_le _, IsC.nil⟩ ?_
  rintro ⟨z, v⟩ H1 n1 ⟨hz, hI⟩
  simp only at hz hI
  have lz : ((List.range z).flatMap fun (z : Nat) => (s.fr z).map fun p => [(z : Int), p.1]).length ≤ 8 * 1600 := by
    have := flat_len_le (List.range z) (fun (z : Nat) => (s.fr z).map fun p => [(z : Int), p.1]) 1600 fun a _ => by rw [List.length_map]; exact Sp.fr_len sh _
    simp only [List.length_range] at this
    have h3 : z * 1600 ≤ 8 * 1600 := Nat.mul_le_mul_right _ (by omega)
    exact Nat.le_trans this h3
  by_cases hlt : (z : Int) < s.c.o
  · have zo : Ob s.c z := ⟨by omega, hlt⟩
    have tz := range_flat (fun (z : Nat) => (s.fr z).map fun p => [(z : Int), p.1]) z
    generalize hA : ((List.range z).flatMap fun (z : Nat) => (s.fr z).map fun p => [(z : Int), p.1]) = A at hI lz tz
    have l1 := homL_len sh z s.x
    have hom := sh.sHomFz hh z s.x
    rw [hx] at hom
    repeat (first | simp (disch := (first | rfl | with_reducible assumption | with_reducible solve_by_elim (maxDepth := 8) [Shape.inT, Shape.inI, Shape.inC, Shape.inK, Shape.obF, Shape.obT, Shape.arI, Arr.inF] | omega)) only [S2, Nat.reduceEqDiff, Nat.reduceAdd, iput, puts, hlt] | (refine den_call rfl (by first | (simp only [SS, Nat.reduceEqDiff, Nat.reduceAdd, iput, puts, FF, frzL_cat]; done) | (simp only [SS, Nat.reduceEqDiff, Nat.reduceAdd, iput, puts, FF, frzL_cat]; rfl)) (by first | exact hom) ?_) | (refine den_calli rfl (by first | (simp only [SS, Nat.reduceEqDiff, Nat.reduceAdd, iput, puts, FF, frzL_cat]; done) | (simp only [SS, Nat.reduceEqDiff, Nat.reduceAdd, iput, puts, FF, frzL_cat]; rfl)) (by first | exact hom) ?_))
    rw [← hx]
    refine den_loop (α := Nat × AV) (fun a => [a.2, int a.1]) (fun a H' nx' => a.1 ≤ (homL s.c z s.x).length ∧ IsC (rows (A ++ (((homL s.c z s.x).take a.1).flatMap fun a => s.row z a).map fun p => [(z : Int), p.1])) (A ++ (((homL s.c z s.x).take a.1).flatMap fun a => s.row z a).map fun p => [(z : Int), p.1]).length 1 H nx a.2 H' nx') (fun a => (homL s.c z s.x).length - a.1) (0, v) rfl ⟨Nat.zero_le _, by simpa using hI⟩ ?_
    rintro ⟨i, v1⟩ H2 n2 ⟨hi, hJ⟩
    simp only at hi hJ
    by_cases hli : i < (homL s.c z s.x).length
    · have i1 : In (homL s.c z s.x) (i : Int) := In.nat hli
      have a := hom_arr hli
      have ti : (((homL s.c z s.x).take (i + 1)).flatMap fun a => s.row z a) = (((homL s.c z s.x).take i).flatMap fun a => s.row z a) ++ s.row z ((homL s.c z s.x).getD i 0) := by rw [take_succ_at hli, List.flatMap_append]; simp
      have li : (((homL s.c z s.x).take i).flatMap fun a => s.row z a).length ≤ 1600 := by
        have := flat_len_le ((homL s.c z s.x).take i) (fun a => s.row z a) 40 fun a _ => Sp.row_len sh z a
        have h3 : ((homL s.c z s.x).take i).length ≤ 40 := by simp; omega
        have h4 : ((homL s.c z s.x).take i).length * 40 ≤ 40 * 40 := Nat.mul_le_mul_right _ h3
        omega
      rw [rowE, hfit] at ti
      generalize hB : (((homL s.c z s.x).take i).flatMap fun a => s.row z a) = B at hJ ti li
      repeat (first | simp (disch := (first | rfl | with_reducible assumption | with_reducible solve_by_elim (maxDepth := 8) [Shape.inT, Shape.inI, Shape.inC, Shape.inK, Shape.obF, Shape.obT, Shape.arI, Arr.inF] | omega)) only [S2, Nat.reduceEqDiff, Nat.reduceAdd, iput, puts, hli, gI_nat] | (refine den_call rfl (by first | (simp only [SS, Nat.reduceEqDiff, Nat.reduceAdd, iput, puts, FF, frzL_cat]; done) | (simp only [SS, Nat.reduceEqDiff, Nat.reduceAdd, iput, puts, FF, frzL_cat]; rfl)) (by first | exact sh.sThenFz ht a af | exact sh.sThenFz ht a ag) ?_) | (refine den_calli rfl (by first | (simp only [SS, Nat.reduceEqDiff, Nat.reduceAdd, iput, puts, FF, frzL_cat]; done) | (simp only [SS, Nat.reduceEqDiff, Nat.reduceAdd, iput, puts, FF, frzL_cat]; rfl)) (by first | exact sh.sThenFz ht a af | exact sh.sThenFz ht a ag) ?_))
      refine ⟨fun he => ?_, fun he => ?_⟩
      · try simp (disch := (first | rfl | with_reducible assumption | with_reducible solve_by_elim (maxDepth := 8) [Shape.inT, Shape.inI, Shape.inC, Shape.inK, Shape.obF, Shape.obT, Shape.arI, Arr.inF] | omega)) only [S2, Nat.reduceEqDiff, Nat.reduceAdd, iput, puts, gI_nat, p_msl1R]
        refine den_appC (m := 1) hJ rfl (by simp) rfl rfl (by simp only [List.length_append, List.length_map]; omega) fun v3 H4 n4 hI2 => ?_
        try simp (disch := (first | rfl | with_reducible assumption | with_reducible solve_by_elim (maxDepth := 8) [Shape.inT, Shape.inI, Shape.inC, Shape.inK, Shape.obF, Shape.obT, Shape.arI, Arr.inF] | omega)) only [S2, Nat.reduceEqDiff, Nat.reduceAdd, iput, puts]
        refine ⟨(i + 1, v3), rfl, ⟨hli, ?_⟩, by simp only; omega⟩
        simp only
        rw [ti, if_pos (by simpa using he), List.map_append, ← List.append_assoc, rows_append, List.length_append]
        exact hI2
      · try simp (disch := (first | rfl | with_reducible assumption | with_reducible solve_by_elim (maxDepth := 8) [Shape.inT, Shape.inI, Shape.inC, Shape.inK, Shape.obF, Shape.obT, Shape.arI, Arr.inF] | omega)) only [S2, Nat.reduceEqDiff, Nat.reduceAdd, iput, puts]
        refine ⟨(i + 1, v1), rfl, ⟨hli, ?_⟩, by simp only; omega⟩
        simp only
        rw [ti, if_neg (by simpa using he), List.append_nil]
        exact hJ
    · try simp (disch := (first | rfl | with_reducible assumption | with_reducible solve_by_elim (maxDepth := 8) [Shape.inT, Shape.inI, Shape.inC, Shape.inK, Shape.obF, Shape.obT, Shape.arI, Arr.inF] | omega)) only [S2, Nat.reduceEqDiff, Nat.reduceAdd, iput, puts, hli]
      have hie : i = (homL s.c z s.x).length := by omega
      subst hie
      rw [List.take_length] at hJ
      refine ⟨(z + 1, v1), rfl, ⟨by omega, ?_⟩, by simp only; omega⟩
      simp only
      rw [tz]
      exact hJ
  · try simp (disch := (first | rfl | with_reducible assumption | with_reducible solve_by_elim (maxDepth := 8) [Shape.inT, Shape.inI, Shape.inC, Shape.inK, Shape.obF, Shape.obT, Shape.arI, Arr.inF] | omega)) only [S2, Nat.reduceEqDiff, Nat.reduceAdd, iput, puts, hlt]
    have hze : z = s.c.o.toNat := by omega
    subst hze
    exact ⟨_, rfl, _, fun _ _ h => h, hI⟩

/-- The arrows from one square to another. -/
def mapsL (c : Cat) (s t : List Int) : List Int := (homL c (gI s 0) (gI t 0)).filter fun u => (List.range (s.length - 1)).all fun i => c.K u (t.getD (i + 1) 0) == s.getD (i + 1) 0
def V_spec_l13Maps : Vc :=
  .op true (.p .box [.t 0]) <|
  .op true (.p (.ld (some 5)) [.t 3]) <|
  .op true (.p (.iad 1) [.t 1, .c (int 0)]) <|
  .op true (.p (.ld none) [.t 5]) <|
  .op true (.p (.iad 1) [.t 2, .c (int 0)]) <|
  .op true (.p (.ld none) [.t 7]) <|
  .op true (.call (.f 309) [.t 4, .t 6, .t 8]) <|
  .op true (.p (.msl 0 [] []) []) <|
  .loop 0 [.t 10, .c (int 0)] <|
  .op true (.p .len [.t 9]) <|
  .op true (.p (.bin .lss) [.t 12, .t 13]) <|
  .br 14
   (.loop 1 [.c (bool true), .c (int 1)] <|
   .br 15
    (.op true (.p .len [.t 1]) <|
    .op true (.p (.bin .lss) [.t 16, .t 17]) <|
    .br 18
     (.op true (.p (.ld (some 5)) [.t 3]) <|
     .op true (.p (.iad 1) [.t 9, .t 12]) <|
     .op true (.p (.ld none) [.t 20]) <|
     .op true (.p (.iad 1) [.t 2, .t 16]) <|
     .op true (.p (.ld none) [.t 22]) <|
     .op true (.call (.f 253) [.t 19, .t 21, .t 23]) <|
     .op true (.p (.iad 1) [.t 1, .t 16]) <|
     .op true (.p (.ld none) [.t 25]) <|
     .op true (.p (.bin .eql) [.t 24, .t 26]) <|
     .op true (.p (.bin .add) [.t 16, .c (int 1)]) <|
     .again 1 [.t 27, .t 28])
     (.op true (.p (.iad 1) [.t 9, .t 12]) <|
     .op true (.p (.ld none) [.t 19]) <|
     .op true (.p (.msl 1 [int 0] [(0, 1)]) [.t 20]) <|
     .op true (.app 1 (.t 11) (.t 21)) <|
     .op true (.p (.bin .add) [.t 12, .c (int 1)]) <|
     .again 0 [.t 22, .t 23]))
    (.op true (.p (.bin .add) [.t 12, .c (int 1)]) <|
    .again 0 [.t 11, .t 17]))
   (.ret [(.t 11, none)])
set_option maxHeartbeats 1000000 in
theorem l13Maps_fz (hh : Has P ν 309 3 V_spec_l02Hom) (ht : Has P ν 253 3 V_spec_l02Then) (h : Has P ν 322 3 V_spec_l13Maps) (c : Cat) (sh : Shape c) (s t : List Int) (h1 : 1 ≤ s.length) (h2 : s.length = t.length) (h3 : s.length ≤ 1000) (ha : ∀ i, i < s.length - 1 → Arr c (t.getD (i + 1) 0)) :
    Fz (OkM P ν) 322 [.agg c.cells, islice s, islice t] (islice (mapsL c s t)) := by
  refine OkM.fz (Ψ := fun H nx => IsI (mapsL c s t) H nx) (fun H nx => h _ _ _ _ rfl fun hwf => ?_) fun _ _ _ hh => hh.frz _
  unfold V_spec_l13Maps
  have s0 : In s 0 := ⟨by omega, by omega⟩
  have t0 : In t 0 := ⟨by omega, by omega⟩
  have l1 := homL_len sh (gI s 0) (gI t 0)
  repeat (first | simp (disch := (first | rfl | with_reducible assumption | with_reducible solve_by_elim (maxDepth := 8) [Shape.inT, Shape.inI, Shape.inC, Shape.inK, Shape.obF, Shape.obT, Shape.arI, Arr.inF] | omega)) only [S2, Nat.reduceEqDiff, Nat.reduceAdd, iput, puts] | (refine den_call rfl (by first | (simp only [SS, Nat.reduceEqDiff, Nat.reduceAdd, iput, puts, FF, frzL_cat]; done) | (simp only [SS, Nat.reduceEqDiff, Nat.reduceAdd, iput, puts, FF, frzL_cat]; rfl)) (by first | exact sh.sHomFz hh (gI s 0) (gI t 0)) ?_) | (refine den_calli rfl (by first | (simp only [SS, Nat.reduceEqDiff, Nat.reduceAdd, iput, puts, FF, frzL_cat]; done) | (simp only [SS, Nat.reduceEqDiff, Nat.reduceAdd, iput, puts, FF, frzL_cat]; rfl)) (by first | exact sh.sHomFz hh (gI s 0) (gI t 0)) ?_))
  refine den_fil (homL c (gI s 0) (gI t 0)) (fun u => (List.range (s.length - 1)).all fun i => c.K u (t.getD (i + 1) 0) == s.getD (i + 1) 0) H nx rfl (Nat.le_refl _) rfl fun i v H1 n1 hi hI => ?_
  by_cases hlt : i < (homL c (gI s 0) (gI t 0)).length
  · have i1 : In (homL c (gI s 0) (gI t 0)) (i : Int) := In.nat hlt
    have a := hom_arr hlt
    generalize hu : (homL c (gI s 0) (gI t 0)).getD i 0 = u at a
    try simp (disch := (first | rfl | with_reducible assumption | with_reducible solve_by_elim (maxDepth := 8) [Shape.inT, Shape.inI, Shape.inC, Shape.inK, Shape.obF, Shape.obT, Shape.arI, Arr.inF] | omega)) only [S2, Nat.reduceEqDiff, Nat.reduceAdd, iput, puts, hlt]
    refine den_loop (α := Nat × Bool) (fun a => [bool a.2, int ((a.1 + 1 : Nat) : Int)]) (fun a H' nx' => a.1 ≤ s.length - 1 ∧ (a.2 = (List.range a.1).all fun i => c.K u (t.getD (i + 1) 0) == s.getD (i + 1) 0) ∧ H' = H1 ∧ nx' = n1) (fun a => s.length - a.1) (0, true) rfl ⟨Nat.zero_le _, rfl, rfl, rfl⟩ ?_
    rintro ⟨j, b⟩ H2 n2 ⟨hj, hb, rfl, rfl⟩
    simp only at hj hb
    have allFalse : b = false → ((List.range (s.length - 1)).all fun i => c.K u (t.getD (i + 1) 0) == s.getD (i + 1) 0) = false := fun e => by
      rw [e] at hb
      have := hb.symm
      rw [List.all_eq_false] at this ⊢
      obtain ⟨x, hx, hx2⟩ := this
      exact ⟨x, by simp at hx ⊢; omega, hx2⟩
    have wj : IntKind.i64.wrap (((j + 1 : Nat) : Int) + 1) = ((j + 1 + 1 : Nat) : Int) := wrap_succ (by omega)
    try simp (disch := (first | rfl | with_reducible assumption | with_reducible solve_by_elim (maxDepth := 8) [Shape.inT, Shape.inI, Shape.inC, Shape.inK, Shape.obF, Shape.obT, Shape.arI, Arr.inF] | omega)) only [S2, Nat.reduceEqDiff, Nat.reduceAdd, iput, puts]
    refine ⟨fun e => ?_, fun e => ?_⟩
    · by_cases hlj : j + 1 < s.length
      · have js : In s ((j + 1 : Nat) : Int) := In.nat hlj
        have jt : In t ((j + 1 : Nat) : Int) := In.nat (by omega)
        have at' := ha j (by omega)
        repeat (first | simp (disch := (first | rfl | with_reducible assumption | with_reducible solve_by_elim (maxDepth := 8) [Shape.inT, Shape.inI, Shape.inC, Shape.inK, Shape.obF, Shape.obT, Shape.arI, Arr.inF] | omega)) only [S2, Nat.reduceEqDiff, Nat.reduceAdd, iput, puts, hlj, gI_nat, hu] | (refine den_call rfl (by first | (simp only [SS, Nat.reduceEqDiff, Nat.reduceAdd, iput, puts, FF, frzL_cat]; done) | (simp only [SS, Nat.reduceEqDiff, Nat.reduceAdd, iput, puts, FF, frzL_cat]; rfl)) (by first | exact sh.sThenFz ht a at') ?_) | (refine den_calli rfl (by first | (simp only [SS, Nat.reduceEqDiff, Nat.reduceAdd, iput, puts, FF, frzL_cat]; done) | (simp only [SS, Nat.reduceEqDiff, Nat.reduceAdd, iput, puts, FF, frzL_cat]; rfl)) (by first | exact sh.sThenFz ht a at') ?_))
        refine ⟨(j + 1, c.K u (t.getD (j + 1) 0) == s.getD (j + 1) 0), rfl, ⟨by simp only; omega, ?_⟩, by simp only; omega⟩
        simp only
        rw [List.range_succ, List.all_append, ← hb, e]
        simp
      · try simp (disch := (first | rfl | with_reducible assumption | with_reducible solve_by_elim (maxDepth := 8) [Shape.inT, Shape.inI, Shape.inC, Shape.inK, Shape.obF, Shape.obT, Shape.arI, Arr.inF] | omega)) only [S2, Nat.reduceEqDiff, Nat.reduceAdd, iput, puts, hlj, gI_nat, hu]
        have hje : j = s.length - 1 := by omega
        subst hje
        refine den_appI (m := [u]) (H0 := H) (nx0 := nx) hI rfl (by simp) (by have := take_filter_len (homL c (gI s 0) (gI t 0)) (fun u => (List.range (s.length - 1)).all fun i => c.K u (t.getD (i + 1) 0) == s.getD (i + 1) 0) i; simp only [List.length_cons, List.length_nil]; omega) fun v2 H3 n3 hI2 => ?_
        try simp (disch := (first | rfl | with_reducible assumption | with_reducible solve_by_elim (maxDepth := 8) [Shape.inT, Shape.inI, Shape.inC, Shape.inK, Shape.obF, Shape.obT, Shape.arI, Arr.inF] | omega)) only [S2, Nat.reduceEqDiff, Nat.reduceAdd, iput, puts, gI_nat]
        exact fil_take rfl hlt (by rw [hu, ← hb, e]) (by rw [hu]; exact hI2)
    · try simp (disch := (first | rfl | with_reducible assumption | with_reducible solve_by_elim (maxDepth := 8) [Shape.inT, Shape.inI, Shape.inC, Shape.inK, Shape.obF, Shape.obT, Shape.arI, Arr.inF] | omega)) only [S2, Nat.reduceEqDiff, Nat.reduceAdd, iput, puts]
      exact fil_skip rfl hlt (by rw [hu]; exact allFalse e) hI
  · try simp (disch := (first | rfl | with_reducible assumption | with_reducible solve_by_elim (maxDepth := 8) [Shape.inT, Shape.inI, Shape.inC, Shape.inK, Shape.obF, Shape.obT, Shape.arI, Arr.inF] | omega)) only [S2, Nat.reduceEqDiff, Nat.reduceAdd, iput, puts, hlt]
    have : i = (homL c (gI s 0) (gI t 0)).length := by omega
    subst this
    rw [List.take_length] at hI
    exact ⟨_, rfl, _, fun _ _ h => h, hI⟩

/-- The rows are all alike. -/
structure RowsOk (c : Cat) (M : List (List Int)) (m : Nat) : Prop where
  len : ∀ i, i < M.length → (M.getD i []).length = m
  arr : ∀ i j, i < M.length → j < m - 1 → Arr c ((M.getD i []).getD (j + 1) 0)
def firstL (c : Cat) (M : List (List Int)) : List Int := (M.find? fun t => M.all fun s => (mapsL c s t).length == 1).getD []
def V_spec_l13First : Vc :=
  .op true (.p .box [.t 0]) <|
  .loop 0 [.c (int 0)] <|
  .op true (.p .len [.t 1]) <|
  .op true (.p (.bin .lss) [.t 3, .t 4]) <|
  .br 5
   (.loop 1 [.c (bool true), .c (int 0)] <|
   .br 6
    (.op true (.p .len [.t 1]) <|
    .op true (.p (.bin .lss) [.t 7, .t 8]) <|
    .br 9
     (.op true (.p (.ld (some 5)) [.t 2]) <|
     .op true (.p (.iad 1) [.t 1, .t 7]) <|
     .op true (.p (.ld none) [.t 11]) <|
     .op true (.p (.iad 1) [.t 1, .t 3]) <|
     .op true (.p (.ld none) [.t 13]) <|
     .op true (.call (.f 322) [.t 10, .t 12, .t 14]) <|
     .op true (.p .len [.t 15]) <|
     .op true (.p (.bin .eql) [.t 16, .c (int 1)]) <|
     .op true (.p (.bin .add) [.t 7, .c (int 1)]) <|
     .again 1 [.t 17, .t 18])
     (.op true (.p (.iad 1) [.t 1, .t 3]) <|
     .op true (.p (.ld none) [.t 10]) <|
     .ret [(.t 11, none)]))
    (.op true (.p (.bin .add) [.t 3, .c (int 1)]) <|
    .again 0 [.t 8]))
   (.op true (.p (.msl 0 [] []) []) <|
   .ret [(.t 6, none)])
set_option maxHeartbeats 1000000 in
theorem l13First_fi (hh : Has P ν 309 3 V_spec_l02Hom) (ht : Has P ν 253 3 V_spec_l02Then) (hm : Has P ν 322 3 V_spec_l13Maps) (h : Has P ν 319 2 V_spec_l13First) (c : Cat) (sh : Shape c) (M : List (List Int)) (m : Nat) (hr : RowsOk c M m) (h1 : 1 ≤ m) (h2 : m ≤ 1000) (h3 : M.length ≤ 1048576) :
    Fi (OkM P ν) 319 [.agg c.cells, .sl (rows M) M.length] (islice (firstL c M)) := by
  refine OkM.fi (Ψ := fun H nx r H' nx' => (r = islice (firstL c M) ∨ (r = .nil ∧ firstL c M = []))) (fun H nx => h _ _ _ _ rfl fun hwf => ?_) fun r H' nx' hh => ?_
  rotate_left
  · rcases hh with rfl | ⟨rfl, e⟩
    · exact frz_islice
    · rw [e]; rfl
  unfold V_spec_l13First
  try simp (disch := (first | rfl | with_reducible assumption | with_reducible solve_by_elim (maxDepth := 8) [Shape.inT, Shape.inI, Shape.inC, Shape.inK, Shape.obF, Shape.obT, Shape.arI, Arr.inF] | omega)) only [S2, Nat.reduceEqDiff, Nat.reduceAdd, iput, puts]
  refine den_for M.length (fun i => ∀ k, k < i → (M.all fun s => (mapsL c s (M.getD k [])).length == 1) = false) (fun k hk => by omega) fun i hi hp => ?_
  by_cases hlt : i < M.length
  · have iR : InR M (i : Int) := InR.nat hlt
    try simp (disch := (first | rfl | with_reducible assumption | with_reducible solve_by_elim (maxDepth := 8) [Shape.inT, Shape.inI, Shape.inC, Shape.inK, Shape.obF, Shape.obT, Shape.arI, Arr.inF] | omega)) only [S2, Nat.reduceEqDiff, Nat.reduceAdd, iput, puts, hlt]
    refine den_loop (α := Nat × Bool) (fun a => [bool a.2, int a.1]) (fun a H' nx' => a.1 ≤ M.length ∧ (a.2 = (M.take a.1).all fun s => (mapsL c s (M.getD i [])).length == 1) ∧ H' = H ∧ nx' = nx) (fun a => M.length - a.1) (0, true) rfl ⟨Nat.zero_le _, rfl, rfl, rfl⟩ ?_
    rintro ⟨j, b⟩ H2 n2 ⟨hj, hb, rfl, rfl⟩
    simp only at hj hb
    have allFalse : b = false → (M.all fun s => (mapsL c s (M.getD i [])).length == 1) = false := fun e => by
      rw [e] at hb
      have := hb.symm
      rw [List.all_eq_false] at this ⊢
      obtain ⟨x, hx, hx2⟩ := this
      exact ⟨x, List.mem_of_mem_take hx, hx2⟩
    try simp (disch := (first | rfl | with_reducible assumption | with_reducible solve_by_elim (maxDepth := 8) [Shape.inT, Shape.inI, Shape.inC, Shape.inK, Shape.obF, Shape.obT, Shape.arI, Arr.inF] | omega)) only [S2, Nat.reduceEqDiff, Nat.reduceAdd, iput, puts]
    refine ⟨fun e => ?_, fun e => ?_⟩
    · by_cases hlj : j < M.length
      · have jR : InR M (j : Int) := InR.nat hlj
        repeat (first | simp (disch := (first | rfl | with_reducible assumption | with_reducible solve_by_elim (maxDepth := 8) [Shape.inT, Shape.inI, Shape.inC, Shape.inK, Shape.obF, Shape.obT, Shape.arI, Arr.inF] | omega)) only [S2, Nat.reduceEqDiff, Nat.reduceAdd, iput, puts, hlj, gR_nat] | (refine den_call rfl (by first | (simp only [SS, Nat.reduceEqDiff, Nat.reduceAdd, iput, puts, FF, frzL_cat]; done) | (simp only [SS, Nat.reduceEqDiff, Nat.reduceAdd, iput, puts, FF, frzL_cat]; rfl)) (by first | exact l13Maps_fz hh ht hm c sh (M.getD j []) (M.getD i []) (by rw [hr.len j hlj]; exact h1) (by rw [hr.len j hlj, hr.len i hlt]) (by rw [hr.len j hlj]; exact h2) (fun q hq => hr.arr i q hlt (by rw [hr.len j hlj] at hq; exact hq))) ?_) | (refine den_calli rfl (by first | (simp only [SS, Nat.reduceEqDiff, Nat.reduceAdd, iput, puts, FF, frzL_cat]; done) | (simp only [SS, Nat.reduceEqDiff, Nat.reduceAdd, iput, puts, FF, frzL_cat]; rfl)) (by first | exact l13Maps_fz hh ht hm c sh (M.getD j []) (M.getD i []) (by rw [hr.len j hlj]; exact h1) (by rw [hr.len j hlj, hr.len i hlt]) (by rw [hr.len j hlj]; exact h2) (fun q hq => hr.arr i q hlt (by rw [hr.len j hlj] at hq; exact hq))) ?_))
        refine ⟨(j + 1, (mapsL c (M.getD j []) (M.getD i [])).length == 1), by simp only [natB1], ⟨by simp only; omega, ?_⟩, by simp only; omega⟩
        simp only
        rw [take_succ_rows hlj, List.all_append, ← hb, e]
        simp
      · try simp (disch := (first | rfl | with_reducible assumption | with_reducible solve_by_elim (maxDepth := 8) [Shape.inT, Shape.inI, Shape.inC, Shape.inK, Shape.obF, Shape.obT, Shape.arI, Arr.inF] | omega)) only [S2, Nat.reduceEqDiff, Nat.reduceAdd, iput, puts, hlj, gR_nat]
        rw [List.take_of_length_le (by omega)] at hb
        refine ⟨_, rfl, H2, fun _ _ h => h, .inl ?_⟩
        rw [firstL, find_at (d := []) hlt (by rw [← hb, e]) hp]
        rfl
    · try simp (disch := (first | rfl | with_reducible assumption | with_reducible solve_by_elim (maxDepth := 8) [Shape.inT, Shape.inI, Shape.inC, Shape.inK, Shape.obF, Shape.obT, Shape.arI, Arr.inF] | omega)) only [S2, Nat.reduceEqDiff, Nat.reduceAdd, iput, puts]
      refine up rfl hlt fun k hk => ?_
      by_cases e2 : k = i
      · subst e2; exact allFalse e
      · exact hp k (by omega)
  · try simp (disch := (first | rfl | with_reducible assumption | with_reducible solve_by_elim (maxDepth := 8) [Shape.inT, Shape.inI, Shape.inC, Shape.inK, Shape.obF, Shape.obT, Shape.arI, Arr.inF] | omega)) only [S2, Nat.reduceEqDiff, Nat.reduceAdd, iput, puts, hlt]
    refine ⟨_, rfl, H, fun _ _ h => h, .inr ⟨rfl, ?_⟩⟩
    rw [firstL, find_none (d := []) fun k hk => hp k (by omega)]
    rfl
end Go.Av
