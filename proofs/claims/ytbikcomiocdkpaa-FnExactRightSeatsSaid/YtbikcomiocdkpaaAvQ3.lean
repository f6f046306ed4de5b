/-
  Seats of a functor on the right: both sides.
-/
import Derived.Test.YtbikcomiocdkpaaAvR2U
import Derived.Test.YtbikcomiocdkpaaAvD4
import Derived.Test.YtbikcomiocdkpaaAvC3
import Derived.Test.YtbikcomiocdkpaaAvB4
import Derived.Test.YtbikcomiocdkpaaAvQ0
namespace Go.Av
open Classical
set_option linter.unusedSimpArgs false
set_option linter.unusedVariables false
variable {P : Program} {ν : Nat → FuncId}

def seatE (f : Fu) (y x : Int) : List (List Int) := (homL f.t y (f.O x)).map fun h => [x, h]
def seatL (f : Fu) (y : Int) : List (List Int) := (List.range f.ob.length).flatMap fun (x : Nat) => seatE f y x
theorem seatE_len {f : Fu} (s : Shape f.t) (y x : Int) : (seatE f y x).length ≤ 40 := by rw [seatE, List.length_map]; exact homL_len s _ _
theorem seatL_row {f : Fu} {y : Int} : ∀ r ∈ seatL f y, r.length = 2 := by
  intro r hr
  simp only [seatL, seatE, List.mem_flatMap, List.mem_map] at hr
  obtain ⟨z, _, g, _, rfl⟩ := hr
  rfl
theorem seat_take {f : Fu} (s : Shape f.t) (y : Int) (n : Nat) (hn : n ≤ 8) : ((List.range n).flatMap fun (x : Nat) => seatE f y x).length ≤ 8 * 40 := by
  have := flat_len_le (List.range n) (fun (x : Nat) => seatE f y x) 40 fun a _ => seatE_len s y a
  simp only [List.length_range] at this
  exact Nat.le_trans this (Nat.mul_le_mul_right _ hn)

def V_rightSeats : Vc :=
  .op true (.p (.msl 0 [] []) []) <|
  .op true (.p .nck [.t 0]) <|
  .op true (.p (.fad 10) [.t 3]) <|
  .op true (.p (.ld none) [.t 4]) <|
  .op true (.p .len [.t 5]) <|
  .loop 0 [.t 2, .c (int 0)] <|
  .op true (.p (.bin .lss) [.t 8, .t 6]) <|
  .br 9
   (.op true (.p (.iad 1) [.t 5, .t 8]) <|
   .op true (.p (.ld none) [.t 10]) <|
   .op true (.p .nck [.t 0]) <|
   .op true (.p (.fad 5) [.t 12]) <|
   .op true (.call (.f 33) [.t 13, .t 1, .t 11]) <|
   .op true (.p .len [.t 14]) <|
   .loop 1 [.t 7, .c (int 0)] <|
   .op true (.p (.bin .lss) [.t 17, .t 15]) <|
   .br 18
    (.op true (.p (.iad 1) [.t 14, .t 17]) <|
    .op true (.p (.ld none) [.t 19]) <|
    .op true (.mslm 1 2 [int 0, int 0] [(0, 1), (1, 1)] [.t 8, .t 20]) <|
    .op true (.mslm 1 1 [.nil] [(0, 1)] [.t 21]) <|
    .op true (.app 1 (.t 16) (.t 22)) <|
    .op true (.p (.bin .add) [.t 17, .c (int 1)]) <|
    .again 1 [.t 23, .t 24])
    (.op true (.p (.bin .add) [.t 8, .c (int 1)]) <|
    .again 0 [.t 16, .t 19]))
   (.ret [(.t 7, none)])
set_option maxHeartbeats 2000000 in
theorem rightSeats_ok (hh : Has P ν 33 3 V_Category_hom) (h : Has P ν 348 2 V_rightSeats) (f : Fu) (hf : IsFu f) (y : Int) (nx : Nat) :
    OkM P ν 348 [.ptr f.cells 0, int y] hempty nx (fun r H' nx' => nx ≤ nx' ∧ OwnD (seatL f y) r H' nx nx' ∧ clnH nx H') := by
  refine h _ _ _ _ rfl fun hwf => ?_
  unfold V_rightSeats
  have st := hf.t.1
  have n40 := st.n40
  have ol := hf.m.ol
  have o8 := hf.s.1.o8
  have l8 : f.ob.length ≤ 8 := by omega
  try simp (disch := (first | rfl | with_reducible assumption | with_reducible solve_by_elim (maxDepth := 8) [Shape.inT, Shape.inI, Shape.inC, Shape.inK, Shape.obF, Shape.obT, Shape.arI, Arr.inF] | omega)) only [S2, Nat.reduceEqDiff, Nat.reduceAdd, iput, puts, SU f]
  refine den_loop (α := Nat × AV) (fun a => [a.2, int a.1]) (fun a H' nx' => a.1 ≤ f.ob.length ∧ OwnD ((List.range a.1).flatMap fun (x : Nat) => seatE f y x) a.2 H' nx nx' ∧ nx ≤ nx') (fun a => f.ob.length - a.1) (0, .nil) rfl ⟨Nat.zero_le _, OwnD.nil, Nat.le_refl _⟩ ?_
  rintro ⟨x, v⟩ H1 n1 ⟨hx, hI, hn1⟩
  simp only at hx hI
  by_cases hlt : x < f.ob.length
  · have tz := range_flat (fun (x : Nat) => seatE f y x) x
    have lA := seat_take st y x (by omega)
    generalize hA : ((List.range x).flatMap fun (x : Nat) => seatE f y x) = A at hI tz lA
    have i0 : In f.ob (x : Int) := In.nat hlt
    have lh := homL_len st y (f.O x)
    repeat (first | simp (disch := (first | rfl | with_reducible assumption | with_reducible solve_by_elim (maxDepth := 8) [Shape.inT, Shape.inI, Shape.inC, Shape.inK, Shape.obF, Shape.obT, Shape.arI, Arr.inF] | omega)) only [S2, Nat.reduceEqDiff, Nat.reduceAdd, iput, puts, hlt, SU f] | (refine den_call rfl (by first | (simp only [SS, Nat.reduceEqDiff, Nat.reduceAdd, iput, puts, FF, frzL_cat, frzL_fu]; done) | (simp only [SS, Nat.reduceEqDiff, Nat.reduceAdd, iput, puts, FF, frzL_cat, frzL_fu]; rfl)) (by first | exact Fu.winT (hom_fz hh f.t y (f.O x) (by have := st.tl; omega) (by omega))) ?_) | (refine den_calli rfl (by first | (simp only [SS, Nat.reduceEqDiff, Nat.reduceAdd, iput, puts, FF, frzL_cat, frzL_fu]; done) | (simp only [SS, Nat.reduceEqDiff, Nat.reduceAdd, iput, puts, FF, frzL_cat, frzL_fu]; rfl)) (by first | exact Fu.winT (hom_fz hh f.t y (f.O x) (by have := st.tl; omega) (by omega))) ?_))
    refine den_loop (α := Nat × AV) (fun a => [a.2, int a.1]) (fun a H' nx' => a.1 ≤ (homL f.t y (f.O x)).length ∧ OwnD (A ++ ((homL f.t y (f.O x)).take a.1).map fun h => [(x : Int), h]) a.2 H' nx nx' ∧ nx ≤ nx') (fun a => (homL f.t y (f.O x)).length - a.1) (0, v) rfl ⟨Nat.zero_le _, by simpa using hI, hn1⟩ ?_
    rintro ⟨i, v1⟩ H2 n2 ⟨hi, hJ, hn2⟩
    simp only at hi hJ
    by_cases hli : i < (homL f.t y (f.O x)).length
    · have i1 : In (homL f.t y (f.O x)) (i : Int) := In.nat hli
      have ti := take_succ_at hli
      generalize hD : A ++ ((homL f.t y (f.O x)).take i).map (fun h => [(x : Int), h]) = D at hJ
      have lD : D.length ≤ 1048576 := by rw [← hD, List.length_append, List.length_map]; simp; omega
      try simp (disch := (first | rfl | with_reducible assumption | with_reducible solve_by_elim (maxDepth := 8) [Shape.inT, Shape.inI, Shape.inC, Shape.inK, Shape.obF, Shape.obT, Shape.arI, Arr.inF] | omega)) only [S2, Nat.reduceEqDiff, Nat.reduceAdd, iput, puts, hli]
      refine den_lit2 (a := x) (b := gI (homL f.t y (f.O x)) i) rfl rfl fun H4 y4 e4 => ?_
      refine den_rowD (R := D) (l := [(x : Int), gI (homL f.t y (f.O x)) i]) (lo := nx) (mid := n2) (hJ.mono (Nat.le_refl _) fun k q1 q2 => e4 k q2) (by omega) (fun _ => rfl) hn2 lD (.inr ⟨n2, Nat.le_refl _, by omega, rfl, y4⟩) fun v3 H5 n5 hO hn5 _ _ => ?_
      try simp (disch := (first | rfl | with_reducible assumption | with_reducible solve_by_elim (maxDepth := 8) [Shape.inT, Shape.inI, Shape.inC, Shape.inK, Shape.obF, Shape.obT, Shape.arI, Arr.inF] | omega)) only [S2, Nat.reduceEqDiff, Nat.reduceAdd, iput, puts]
      refine ⟨(i + 1, v3), rfl, ⟨hli, ?_, by omega⟩, by simp only; omega⟩
      simp only
      rw [ti, List.map_append, ← List.append_assoc, hD]
      exact hO
    · try simp (disch := (first | rfl | with_reducible assumption | with_reducible solve_by_elim (maxDepth := 8) [Shape.inT, Shape.inI, Shape.inC, Shape.inK, Shape.obF, Shape.obT, Shape.arI, Arr.inF] | omega)) only [S2, Nat.reduceEqDiff, Nat.reduceAdd, iput, puts, hli]
      refine ⟨(x + 1, v1), rfl, ⟨hlt, ?_, by omega⟩, by simp only; omega⟩
      have hie : i = (homL f.t y (f.O x)).length := by omega
      subst hie
      rw [List.take_length] at hJ
      simp only
      rw [tz]
      exact hJ
  · try simp (disch := (first | rfl | with_reducible assumption | with_reducible solve_by_elim (maxDepth := 8) [Shape.inT, Shape.inI, Shape.inC, Shape.inK, Shape.obF, Shape.obT, Shape.arI, Arr.inF] | omega)) only [S2, Nat.reduceEqDiff, Nat.reduceAdd, iput, puts, hlt]
    have hze : x = f.ob.length := by omega
    subst hze
    exact ⟨_, rfl, keepH nx H1, keepH_sub _ _, hn1, hI.keep, keepH_cln _ _⟩

def V_RightSeats : Vc :=
  .op true (.p .box [.t 0]) <|
  .op true (.call (.f 257) [.t 2]) <|
  .op true (.p .bnot [.t 3]) <|
  .br 4
   (.ret [(.c (.nil), none), (.c (int 1), none)])
   (.op true (.p (.fad 5) [.t 2]) <|
   .op true (.p (.fad 0) [.t 5]) <|
   .op true (.p (.ld none) [.t 6]) <|
   .op true (.p (.bin .sub) [.t 7, .c (int 1)]) <|
   .op true (.call (.f 32) [.t 1, .c (int 0), .t 8]) <|
   .op true (.p .bnot [.t 9]) <|
   .br 10
    (.ret [(.c (.nil), none), (.c (int 2), none)])
    (.op true (.callo (.f 348) [.t 2, .t 1]) <|
    .ret [(.t 11, none), (.c (int 0), none)]))
noncomputable def seatC (f : Fu) (y : Int) : Int := if IsFu f then if 0 ≤ y ∧ y < f.t.o then 0 else 2 else 1
noncomputable def seatR (f : Fu) (y : Int) : List (List Int) := if seatC f y = 0 then seatL f y else []
set_option maxHeartbeats 1000000 in
theorem RightSeats_ok (K : HFun P ν) (hh : Has P ν 33 3 V_Category_hom) (hs : Has P ν 348 2 V_rightSeats) (h : Has P ν 211 2 V_RightSeats) (f : Fu) (b : SmallU f) (y : Int) (nx : Nat) :
    OkM P ν 211 [.agg f.cells, int y] hempty nx (IsQ (seatR f y) (seatC f y) nx) := by
  refine h _ _ _ _ rfl fun hwf => ?_
  unfold V_RightSeats
  have bad : ∀ k : Int, seatC f y = k → k ≠ 0 → ∃ H', Sub H' hempty ∧ IsQ (seatR f y) (seatC f y) nx (.tup [.nil, int k]) H' nx := fun k e hk => by
    rw [seatR, e, if_neg hk]
    exact ⟨hempty, fun _ _ h => h, .nil, rfl, Nat.le_refl _, OwnD.nil, fun o c hc => by cases hc⟩
  repeat (first | simp (disch := (first | rfl | with_reducible assumption | with_reducible solve_by_elim (maxDepth := 8) [Shape.inT, Shape.inI, Shape.inC, Shape.inK, Shape.obF, Shape.obT, Shape.arI, Arr.inF] | omega)) only [S2, Nat.reduceEqDiff, Nat.reduceAdd, iput, puts, SU f] | (refine den_call rfl (by first | (simp only [SS, Nat.reduceEqDiff, Nat.reduceAdd, iput, puts, FF, frzL_cat, frzL_fu]; done) | (simp only [SS, Nat.reduceEqDiff, Nat.reduceAdd, iput, puts, FF, frzL_cat, frzL_fu]; rfl)) (by first | exact isFunctor_fz K f b) ?_) | (refine den_calli rfl (by first | (simp only [SS, Nat.reduceEqDiff, Nat.reduceAdd, iput, puts, FF, frzL_cat, frzL_fu]; done) | (simp only [SS, Nat.reduceEqDiff, Nat.reduceAdd, iput, puts, FF, frzL_cat, frzL_fu]; rfl)) (by first | exact isFunctor_fz K f b) ?_))
  refine ⟨fun h1 => ?_, fun h1 => ?_⟩
  · obtain ⟨H', q1, q2⟩ := bad 1 (by unfold seatC; rw [if_neg h1]) (by decide)
    exact ⟨_, rfl, H', q1, q2⟩
  have o8 := h1.t.1.o8
  have o0 := h1.t.1.o0
  have w1 : IntKind.i64.wrap (f.t.o - 1) = f.t.o - 1 := wrap_id (by omega) (by omega)
  repeat (first | simp (disch := (first | rfl | with_reducible assumption | with_reducible solve_by_elim (maxDepth := 8) [Shape.inT, Shape.inI, Shape.inC, Shape.inK, Shape.obF, Shape.obT, Shape.arI, Arr.inF] | omega)) only [S2, Nat.reduceEqDiff, Nat.reduceAdd, iput, puts, SU f, w1] | (refine den_call rfl (by first | (simp only [SS, Nat.reduceEqDiff, Nat.reduceAdd, iput, puts, FF, frzL_cat, frzL_fu]; done) | (simp only [SS, Nat.reduceEqDiff, Nat.reduceAdd, iput, puts, FF, frzL_cat, frzL_fu]; rfl)) (by first | exact (inRange_ok K.inRange y 0 (f.t.o - 1)).fzb) ?_) | (refine den_calli rfl (by first | (simp only [SS, Nat.reduceEqDiff, Nat.reduceAdd, iput, puts, FF, frzL_cat, frzL_fu]; done) | (simp only [SS, Nat.reduceEqDiff, Nat.reduceAdd, iput, puts, FF, frzL_cat, frzL_fu]; rfl)) (by first | exact (inRange_ok K.inRange y 0 (f.t.o - 1)).fzb) ?_))
  refine ⟨fun h2 => ?_, fun h2 => ?_⟩
  · obtain ⟨H', q1, q2⟩ := bad 2 (by unfold seatC; rw [if_pos h1, if_neg (fun q => h2 ⟨q.1, by have := q.2; omega⟩)]) (by decide)
    exact ⟨_, rfl, H', q1, q2⟩
  have e0 : seatC f y = 0 := by unfold seatC; rw [if_pos h1, if_pos ⟨h2.1, by have := h2.2; omega⟩]
  refine den_callo (fc := (348, [])) (ys := [.ptr f.cells 0, int y]) rfl (by simp only [SS, Nat.reduceEqDiff, Nat.reduceAdd, iput, puts, FF, frzL_cat, frzL_fu]) (rightSeats_ok hh hs f h1 y nx) ?_ fun u H' nx' hu => ?_
  · obtain ⟨v, H', nx', g1, g2, _⟩ := OwnD.some (seatL f y) hempty nx
    exact ⟨v, keepH nx H', nx', g1, g2.keep, keepH_cln _ _⟩
  obtain ⟨g1, g2, g3⟩ := hu
  refine ⟨g2.cln _, g3, ?_⟩
  refine ⟨_, rfl, keepH nx (hmerge nx hempty H'), keepH_sub _ _, u, ?_, g1, ?_, keepH_cln _ _⟩
  · rw [e0]; rfl
  · rw [seatR, if_pos e0]
    exact (g2.mono (Nat.le_refl _) fun o h1 h2 => by simp only [hmerge]; rw [if_neg (by omega)]).keep

def V_spec_l23Seats : Vc :=
  .op true (.p .box [.t 0]) <|
  .op true (.p (.msl 0 [] []) []) <|
  .loop 0 [.t 3, .c (int 0)] <|
  .op true (.p (.fad 0) [.t 2]) <|
  .op true (.p (.fad 0) [.t 6]) <|
  .op true (.p (.ld none) [.t 7]) <|
  .op true (.p (.bin .lss) [.t 5, .t 8]) <|
  .br 9
   (.op true (.p (.fad 5) [.t 2]) <|
   .op true (.p (.ld (some 5)) [.t 10]) <|
   .op true (.p (.fad 10) [.t 2]) <|
   .op true (.p (.ld none) [.t 12]) <|
   .op true (.p (.iad 1) [.t 13, .t 5]) <|
   .op true (.p (.ld none) [.t 14]) <|
   .op true (.call (.f 309) [.t 11, .t 1, .t 15]) <|
   .loop 1 [.t 4, .c (int 0)] <|
   .op true (.p .len [.t 16]) <|
   .op true (.p (.bin .lss) [.t 18, .t 19]) <|
   .br 20
    (.op true (.p (.iad 1) [.t 16, .t 18]) <|
    .op true (.p (.ld none) [.t 21]) <|
    .op true (.p (.msl 2 [int 0, int 0] [(0, 1), (1, 1)]) [.t 5, .t 22]) <|
    .op true (.p (.msl 1 [.nil] [(0, 1)]) [.t 23]) <|
    .op true (.app 1 (.t 17) (.t 24)) <|
    .op true (.p (.bin .add) [.t 18, .c (int 1)]) <|
    .again 1 [.t 25, .t 26])
    (.op true (.p (.bin .add) [.t 5, .c (int 1)]) <|
    .again 0 [.t 17, .t 21]))
   (.ret [(.t 4, none)])
set_option maxHeartbeats 2000000 in
theorem l23Seats_fi (hh : Has P ν 309 3 V_spec_l02Hom) (h : Has P ν 347 2 V_spec_l23Seats) (f : Fu) (hf : IsFu f) (y : Int) :
    Fi (OkM P ν) 347 [.agg f.cells, int y] (.sl (rows (seatL f y)) (seatL f y).length) := by
  refine OkM.fi (Ψ := fun H nx => IsC (rows (seatL f y)) (seatL f y).length 1 H nx) (fun H nx => h _ _ _ _ rfl fun hwf => ?_) fun _ _ _ hh => hh.rows
  unfold V_spec_l23Seats
  have st := hf.t.1
  have n40 := st.n40
  have ol := hf.m.ol
  have o8 := hf.s.1.o8
  have o0 := hf.s.1.o0
  have l8 : f.ob.length ≤ 8 := by omega
  try simp (disch := (first | rfl | with_reducible assumption | with_reducible solve_by_elim (maxDepth := 8) [Shape.inT, Shape.inI, Shape.inC, Shape.inK, Shape.obF, Shape.obT, Shape.arI, Arr.inF] | omega)) only [S2, Nat.reduceEqDiff, Nat.reduceAdd, iput, puts, SU f]
  refine den_loop (α := Nat × AV) (fun a => [a.2, int a.1]) (fun a H' nx' => a.1 ≤ f.ob.length ∧ IsC (rows ((List.range a.1).flatMap fun (x : Nat) => seatE f y x)) ((List.range a.1).flatMap fun (x : Nat) => seatE f y x).length 1 H nx a.2 H' nx') (fun a => f.ob.length - a.1) (0, .nil) rfl ⟨Nat.zero_le _, IsC.nil⟩ ?_
  rintro ⟨x, v⟩ H1 n1 ⟨hx, hI⟩
  simp only at hx hI
  by_cases hlt : (x : Int) < f.s.o
  · have tz := range_flat (fun (x : Nat) => seatE f y x) x
    have lA := seat_take st y x (by omega)
    generalize hA : ((List.range x).flatMap fun (x : Nat) => seatE f y x) = A at hI tz lA
    have i0 : In f.ob (x : Int) := In.nat (by omega)
    have lh := homL_len st y (f.O x)
    repeat (first | simp (disch := (first | rfl | with_reducible assumption | with_reducible solve_by_elim (maxDepth := 8) [Shape.inT, Shape.inI, Shape.inC, Shape.inK, Shape.obF, Shape.obT, Shape.arI, Arr.inF] | omega)) only [S2, Nat.reduceEqDiff, Nat.reduceAdd, iput, puts, hlt, SU f] | (refine den_call rfl (by first | (simp only [SS, Nat.reduceEqDiff, Nat.reduceAdd, iput, puts, FF, frzL_cat, frzL_fu]; done) | (simp only [SS, Nat.reduceEqDiff, Nat.reduceAdd, iput, puts, FF, frzL_cat, frzL_fu]; rfl)) (by first | exact l02Hom_fz hh f.t y (f.O x) (by have := st.tl; omega) (by omega)) ?_) | (refine den_calli rfl (by first | (simp only [SS, Nat.reduceEqDiff, Nat.reduceAdd, iput, puts, FF, frzL_cat, frzL_fu]; done) | (simp only [SS, Nat.reduceEqDiff, Nat.reduceAdd, iput, puts, FF, frzL_cat, frzL_fu]; rfl)) (by first | exact l02Hom_fz hh f.t y (f.O x) (by have := st.tl; omega) (by omega)) ?_))
    refine den_loop (α := Nat × AV) (fun a => [a.2, int a.1]) (fun a H' nx' => a.1 ≤ (homL f.t y (f.O x)).length ∧ IsC (rows (A ++ ((homL f.t y (f.O x)).take a.1).map fun h => [(x : Int), h])) (A ++ ((homL f.t y (f.O x)).take a.1).map fun h => [(x : Int), h]).length 1 H nx a.2 H' nx') (fun a => (homL f.t y (f.O x)).length - a.1) (0, v) rfl ⟨Nat.zero_le _, by simpa using hI⟩ ?_
    rintro ⟨i, v1⟩ H2 n2 ⟨hi, hJ⟩
    simp only at hi hJ
    by_cases hli : i < (homL f.t y (f.O x)).length
    · have i1 : In (homL f.t y (f.O x)) (i : Int) := In.nat hli
      have ti := take_succ_at hli
      generalize hD : A ++ ((homL f.t y (f.O x)).take i).map (fun h => [(x : Int), h]) = D at hJ
      have lD : D.length ≤ 1048576 := by rw [← hD, List.length_append, List.length_map]; simp; omega
      try simp (disch := (first | rfl | with_reducible assumption | with_reducible solve_by_elim (maxDepth := 8) [Shape.inT, Shape.inI, Shape.inC, Shape.inK, Shape.obF, Shape.obT, Shape.arI, Arr.inF] | omega)) only [S2, Nat.reduceEqDiff, Nat.reduceAdd, iput, puts, hli, p_msl1R]
      refine den_appC (m := 1) (ds := [islice [(x : Int), gI (homL f.t y (f.O x)) i]]) hJ rfl (by simp) rfl rfl (by omega) fun v3 H4 n4 hI2 => ?_
      try simp (disch := (first | rfl | with_reducible assumption | with_reducible solve_by_elim (maxDepth := 8) [Shape.inT, Shape.inI, Shape.inC, Shape.inK, Shape.obF, Shape.obT, Shape.arI, Arr.inF] | omega)) only [S2, Nat.reduceEqDiff, Nat.reduceAdd, iput, puts]
      refine ⟨(i + 1, v3), rfl, ⟨hli, ?_⟩, by simp only; omega⟩
      simp only
      rw [ti, List.map_append, ← List.append_assoc, hD, rows_append, List.length_append]
      exact hI2
    · try simp (disch := (first | rfl | with_reducible assumption | with_reducible solve_by_elim (maxDepth := 8) [Shape.inT, Shape.inI, Shape.inC, Shape.inK, Shape.obF, Shape.obT, Shape.arI, Arr.inF] | omega)) only [S2, Nat.reduceEqDiff, Nat.reduceAdd, iput, puts, hli]
      refine ⟨(x + 1, v1), rfl, ⟨by omega, ?_⟩, by simp only; omega⟩
      have hie : i = (homL f.t y (f.O x)).length := by omega
      subst hie
      rw [List.take_length] at hJ
      simp only
      rw [tz]
      exact hJ
  · try simp (disch := (first | rfl | with_reducible assumption | with_reducible solve_by_elim (maxDepth := 8) [Shape.inT, Shape.inI, Shape.inC, Shape.inK, Shape.obF, Shape.obT, Shape.arI, Arr.inF] | omega)) only [S2, Nat.reduceEqDiff, Nat.reduceAdd, iput, puts, hlt, SU f]
    have hze : x = f.ob.length := by omega
    subst hze
    exact ⟨_, rfl, _, fun _ _ h => h, hI⟩

def V_spec_RightSeats : Vc :=
  .op true (.p .box [.t 0]) <|
  .op true (.p (.ld (some 12)) [.t 2]) <|
  .op true (.call (.f 256) [.t 3]) <|
  .op true (.p .bnot [.t 4]) <|
  .br 5
   (.ret [(.c (.nil), none), (.c (int 1), none)])
   (.op true (.p (.fad 5) [.t 2]) <|
   .op true (.p (.ld (some 5)) [.t 6]) <|
   .op true (.call (.f 284) [.t 7, .t 1]) <|
   .op true (.p .bnot [.t 8]) <|
   .br 9
    (.ret [(.c (.nil), none), (.c (int 2), none)])
    (.op true (.p (.ld (some 12)) [.t 2]) <|
    .op true (.call (.f 347) [.t 10, .t 1]) <|
    .ret [(.t 11, none), (.c (int 0), none)]))
set_option maxHeartbeats 1000000 in
theorem RightSeats_both (K : HFun P ν) (hh : Has P ν 33 3 V_Category_hom) (hs : Has P ν 348 2 V_rightSeats) (h : Has P ν 211 2 V_RightSeats) (KS : HSpecU P ν) (hob : Has P ν 284 2 V_spec_l02Object) (hh2 : Has P ν 309 3 V_spec_l02Hom) (hl : Has P ν 347 2 V_spec_l23Seats) (h' : Has P ν 210 2 V_spec_RightSeats) (f : Fu) (b : SmallU f) (y : Int) :
    BothQ P ν 211 210 [.agg f.cells, int y] := by
  refine ⟨seatR f y, seatC f y, ?_, ?_, fun nx => RightSeats_ok K hh hs h f b y nx, ?_⟩
  · unfold seatR
    split
    · rename_i e
      have h1 : IsFu f := by
        unfold seatC at e
        by_cases h1 : IsFu f
        · exact h1
        · rw [if_neg h1] at e; omega
      have := seat_take h1.t.1 y f.ob.length (by have := h1.m.ol; have := h1.s.1.o8; omega)
      unfold seatL
      omega
    · simp
  · unfold seatR
    split
    · exact rows_le fun r hr => by rw [seatL_row r hr]; omega
    · intro i hi; simp at hi
  · refine OkM.mono (Φ := fun r _ _ => r = .tup [.sl (rows (seatR f y)) (seatR f y).length, int (seatC f y)] ∨ (seatC f y ≠ 0 ∧ r = .tup [.nil, int (seatC f y)])) (h' [.agg f.cells, int y] hempty 0 _ rfl fun hwf => ?_) ?_
    · unfold V_spec_RightSeats
      repeat (first | simp (disch := (first | rfl | with_reducible assumption | with_reducible solve_by_elim (maxDepth := 8) [Shape.inT, Shape.inI, Shape.inC, Shape.inK, Shape.obF, Shape.obT, Shape.arI, Arr.inF] | omega)) only [S2, Nat.reduceEqDiff, Nat.reduceAdd, iput, puts, SU f] | (refine den_call rfl (by first | (simp only [SS, Nat.reduceEqDiff, Nat.reduceAdd, iput, puts, FF, frzL_cat, frzL_fu]; done) | (simp only [SS, Nat.reduceEqDiff, Nat.reduceAdd, iput, puts, FF, frzL_cat, frzL_fu]; rfl)) (by first | exact l06Is_fz KS f b) ?_) | (refine den_calli rfl (by first | (simp only [SS, Nat.reduceEqDiff, Nat.reduceAdd, iput, puts, FF, frzL_cat, frzL_fu]; done) | (simp only [SS, Nat.reduceEqDiff, Nat.reduceAdd, iput, puts, FF, frzL_cat, frzL_fu]; rfl)) (by first | exact l06Is_fz KS f b) ?_))
      refine ⟨fun h1 => ?_, fun h1 => ?_⟩
      · have e : seatC f y = 1 := by unfold seatC; rw [if_neg h1]
        exact ⟨_, rfl, hempty, fun _ _ h => h, .inr ⟨by omega, by rw [e]; rfl⟩⟩
      repeat (first | simp (disch := (first | rfl | with_reducible assumption | with_reducible solve_by_elim (maxDepth := 8) [Shape.inT, Shape.inI, Shape.inC, Shape.inK, Shape.obF, Shape.obT, Shape.arI, Arr.inF] | omega)) only [S2, Nat.reduceEqDiff, Nat.reduceAdd, iput, puts, SU f] | (refine den_call rfl (by first | (simp only [SS, Nat.reduceEqDiff, Nat.reduceAdd, iput, puts, FF, frzL_cat, frzL_fu]; done) | (simp only [SS, Nat.reduceEqDiff, Nat.reduceAdd, iput, puts, FF, frzL_cat, frzL_fu]; rfl)) (by first | exact l02Object_fz hob f.t y) ?_) | (refine den_calli rfl (by first | (simp only [SS, Nat.reduceEqDiff, Nat.reduceAdd, iput, puts, FF, frzL_cat, frzL_fu]; done) | (simp only [SS, Nat.reduceEqDiff, Nat.reduceAdd, iput, puts, FF, frzL_cat, frzL_fu]; rfl)) (by first | exact l02Object_fz hob f.t y) ?_))
      refine ⟨fun h2 => ?_, fun h2 => ?_⟩
      · have e : seatC f y = 2 := by unfold seatC; rw [if_pos h1, if_neg h2]
        exact ⟨_, rfl, hempty, fun _ _ h => h, .inr ⟨by omega, by rw [e]; rfl⟩⟩
      · have e : seatC f y = 0 := by unfold seatC; rw [if_pos h1, if_pos h2]
        repeat (first | simp (disch := (first | rfl | with_reducible assumption | with_reducible solve_by_elim (maxDepth := 8) [Shape.inT, Shape.inI, Shape.inC, Shape.inK, Shape.obF, Shape.obT, Shape.arI, Arr.inF] | omega)) only [S2, Nat.reduceEqDiff, Nat.reduceAdd, iput, puts, SU f] | (refine den_call rfl (by first | (simp only [SS, Nat.reduceEqDiff, Nat.reduceAdd, iput, puts, FF, frzL_cat, frzL_fu]; done) | (simp only [SS, Nat.reduceEqDiff, Nat.reduceAdd, iput, puts, FF, frzL_cat, frzL_fu]; rfl)) (by first | exact l23Seats_fi hh2 hl f h1 y) ?_) | (refine den_calli rfl (by first | (simp only [SS, Nat.reduceEqDiff, Nat.reduceAdd, iput, puts, FF, frzL_cat, frzL_fu]; done) | (simp only [SS, Nat.reduceEqDiff, Nat.reduceAdd, iput, puts, FF, frzL_cat, frzL_fu]; rfl)) (by first | exact l23Seats_fi hh2 hl f h1 y) ?_))
        exact ⟨_, rfl, hempty, fun _ _ h => h, .inl (by rw [seatR, if_pos e, e]; rfl)⟩
    · rintro r H' nx' (rfl | ⟨h0, rfl⟩)
      · show ([AV.sl _ _, int _].mapM (frz H' 5)).map AV.tup = _
        simp only [List.mapM_cons, List.mapM_nil, frz_sl, frz_int]; rfl
      · rw [seatR, if_neg h0]
        show ([AV.nil, int _].mapM (frz H' 5)).map AV.tup = _
        simp only [List.mapM_cons, List.mapM_nil, frz_nil, frz_int]; rfl
end Go.Av
