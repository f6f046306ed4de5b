/-
  The congruence that a functor makes: both sides.
-/
import Derived.Test.YtbgaobcgpkjjkaaAvJ3
import Derived.Test.YtbgaobcgpkjjkaaAvD6
namespace Go.Av
open Classical
set_option linter.unusedSimpArgs false
set_option linter.unusedVariables false
variable {P : Program} {ν : Nat → FuncId}

/-- The program's label of an arrow. -/
def kLab (f : Fu) (i : Int) : Int := (f.s.F i * 8 + f.s.T i) * 40 + f.A i
noncomputable def kF (f : Fu) (i : Nat) : Nat := if i < f.ar.length then (kLab f i).toNat else 12800 + i
def sameK (f : Fu) (a b : Int) : Prop := (f.s.F a = f.s.F b ∧ f.s.T a = f.s.T b) ∧ f.A a = f.A b
noncomputable def kRow (f : Fu) (a k : Nat) : List (Nat × Nat) := ((List.range k).filter fun (b : Nat) => decide (sameK f a b)).map fun (b : Nat) => (b, a)
noncomputable def kP (f : Fu) (k : Nat) : List (Nat × Nat) := (List.range k).flatMap fun (a : Nat) => kRow f a a
theorem kRow_succ (f : Fu) (a k : Nat) : kRow f a (k + 1) = kRow f a k ++ if sameK f a k then [(k, a)] else [] := by
  unfold kRow
  rw [List.range_succ, List.filter_append, List.map_append]
  congr 1
  rw [List.filter_cons]
  by_cases h : sameK f a k <;> simp [h]
theorem kP_succ (f : Fu) (k : Nat) : kP f (k + 1) = kP f k ++ kRow f k k := range_flat _ _
theorem kRow_len (f : Fu) (a k : Nat) : (kRow f a k).length ≤ k := by
  unfold kRow
  rw [List.length_map]
  have := List.length_filter_le (fun (b : Nat) => decide (sameK f a b)) (List.range k)
  rwa [List.length_range] at this
theorem kP_len (f : Fu) (k : Nat) : (kP f k).length ≤ k * k := by
  have := flat_len_le (List.range k) (fun (a : Nat) => kRow f a a) k fun a ha => by
    have ha := List.mem_range.1 ha
    have := kRow_len f a a
    omega
  rwa [List.length_range] at this
theorem mem_kP {f : Fu} {k : Nat} {p : Nat × Nat} : p ∈ kP f k ↔ p.2 < k ∧ p.1 < p.2 ∧ sameK f p.2 p.1 := by
  unfold kP
  rw [List.mem_flatMap]
  constructor
  · rintro ⟨x, hx, hp⟩
    unfold kRow at hp
    obtain ⟨y, hy, rfl⟩ := List.mem_map.1 hp
    obtain ⟨h1, h2⟩ := List.mem_filter.1 hy
    exact ⟨List.mem_range.1 hx, List.mem_range.1 h1, of_decide_eq_true h2⟩
  · rintro ⟨h1, h2, h3⟩
    refine ⟨p.2, List.mem_range.2 h1, ?_⟩
    unfold kRow
    exact List.mem_map.2 ⟨p.1, List.mem_filter.2 ⟨List.mem_range.2 h2, decide_eq_true h3⟩, rfl⟩
theorem kBounds {f : Fu} (u : IsFu f) {i : Nat} (h : i < f.ar.length) : (0 ≤ f.s.F i ∧ f.s.F i < 8) ∧ (0 ≤ f.s.T i ∧ f.s.T i < 8) ∧ 0 ≤ f.A i ∧ f.A i < 40 := by
  have s := u.s.1
  have t := u.t.1
  have al := u.m.al
  have n40 := t.n40
  have o8 := s.o8
  have a : Arr f.s i := ⟨by omega, by omega⟩
  obtain ⟨f0, f1⟩ := s.obF a
  obtain ⟨t0, t1⟩ := s.obT a
  obtain ⟨a0, a1⟩ := u.m.arA a
  exact ⟨⟨f0, by omega⟩, ⟨t0, by omega⟩, a0, by omega⟩
theorem kF_tells {f : Fu} (u : IsFu f) : Tells (kF f) (inP (kP f f.ar.length)) := by
  have key : ∀ x y : Nat, x < f.ar.length → y < f.ar.length → (kF f x = kF f y ↔ sameK f x y) := fun x y hx hy => by
    obtain ⟨⟨a1, a2⟩, ⟨a3, a4⟩, a5, a6⟩ := kBounds u hx
    obtain ⟨⟨b1, b2⟩, ⟨b3, b4⟩, b5, b6⟩ := kBounds u hy
    unfold kF sameK
    rw [if_pos hx, if_pos hy]
    unfold kLab
    omega
  have small : ∀ x : Nat, x < f.ar.length → kF f x < 12800 := fun x hx => by
    obtain ⟨⟨a1, a2⟩, ⟨a3, a4⟩, a5, a6⟩ := kBounds u hx
    unfold kF
    rw [if_pos hx]
    unfold kLab
    omega
  have big : ∀ x : Nat, ¬ x < f.ar.length → kF f x = 12800 + x := fun x hx => by unfold kF; rw [if_neg hx]
  intro x y
  constructor
  · intro h
    by_cases hx : x < f.ar.length
    · by_cases hy : y < f.ar.length
      · have hs := (key x y hx hy).1 h
        rcases Nat.lt_trichotomy x y with q | q | q
        · exact .step (mem_kP.2 ⟨hy, q, (key y x hy hx).1 h.symm⟩)
        · rw [q]; exact .refl _
        · exact (Gen.step (mem_kP.2 ⟨hx, q, hs⟩)).symm
      · have := small x hx; rw [big y hy] at h; omega
    · by_cases hy : y < f.ar.length
      · have := small y hy; rw [big x hx] at h; omega
      · rw [big x hx, big y hy] at h
        have : x = y := by omega
        rw [this]; exact .refl _
  · intro g
    induction g with
    | refl => rfl
    | step a =>
      obtain ⟨h1, h2, h3⟩ := mem_kP.1 a
      exact ((key _ _ h1 (by simp only at h1 h2; omega)).2 h3).symm
    | symm _ ih => exact ih.symm
    | trans _ _ ih1 ih2 => exact ih1.trans ih2
theorem kF_lab {f : Fu} (u : IsFu f) {i : Nat} (h : i < f.ar.length) : ((kF f i : Nat) : Int) = kLab f i := by
  obtain ⟨⟨a1, a2⟩, ⟨a3, a4⟩, a5, a6⟩ := kBounds u h
  unfold kF
  rw [if_pos h]
  unfold kLab
  omega
def V_KernelCongruence : Vc :=
  .op true (.p .box [.t 0]) <|
  .op true (.call (.f 257) [.t 1]) <|
  .op true (.p .bnot [.t 2]) <|
  .br 3
   (.ret [(.c (.nil), none), (.c (int 1), none)])
   (.op true (.p (.fad 11) [.t 1]) <|
   .op true (.p (.ld none) [.t 4]) <|
   .op true (.p .len [.t 5]) <|
   .op true (.mks [int 0] (.t 6) (.t 6)) <|
   .op true (.p (.fad 11) [.t 1]) <|
   .op true (.p (.ld none) [.t 8]) <|
   .op true (.p .len [.t 9]) <|
   .loop 0 [.c (int 0)] <|
   .op true (.p (.bin .lss) [.t 11, .t 10]) <|
   .br 12
    (.op true (.p (.iad 1) [.t 9, .t 11]) <|
    .op true (.p (.ld none) [.t 13]) <|
    .op true (.p (.fad 0) [.t 1]) <|
    .op true (.p (.fad 1) [.t 15]) <|
    .op true (.p (.ld none) [.t 16]) <|
    .op true (.p (.iad 1) [.t 17, .t 11]) <|
    .op true (.p (.ld none) [.t 18]) <|
    .op true (.p (.bin .mul) [.t 19, .c (int 8)]) <|
    .op true (.p (.fad 0) [.t 1]) <|
    .op true (.p (.fad 2) [.t 21]) <|
    .op true (.p (.ld none) [.t 22]) <|
    .op true (.p (.iad 1) [.t 23, .t 11]) <|
    .op true (.p (.ld none) [.t 24]) <|
    .op true (.p (.bin .add) [.t 20, .t 25]) <|
    .op true (.p (.bin .mul) [.t 26, .c (int 40)]) <|
    .op true (.p (.bin .add) [.t 27, .t 14]) <|
    .op true (.p (.iad 1) [.t 7, .t 11]) <|
    .op true (.st 1 (.t 29) (.t 28)) <|
    .op true (.p (.bin .add) [.t 11, .c (int 1)]) <|
    .again 0 [.t 31])
    (.op true (.callo (.f 365) [.t 7]) <|
    .ret [(.t 13, none), (.c (int 0), none)]))
set_option maxHeartbeats 2000000 in
theorem KernelCongruence_ok (K : HFun P ν) (hno : Has P ν 365 1 V_normal) (h : Has P ν 225 1 V_KernelCongruence) (f : Fu) (b : SmallU f) (u : IsFu f) (H : Hp) (nx : Nat) : OkM P ν 225 [.agg f.cells] H nx (IsP (nrm (kF f) f.ar.length) 0 H nx) := by
  refine h _ _ _ _ rfl fun hwf => ?_
  unfold V_KernelCongruence
  have s := u.s.1
  have al := u.m.al
  have n40 := s.n40
  have tl := s.tl
  have isF := isFunctor_fz K f b
  rw [decide_eq_true u] at isF
  repeat (first | simp (disch := (first | rfl | with_reducible assumption | with_reducible solve_by_elim (maxDepth := 8) [Shape.inT, Shape.inI, Shape.inC, Shape.inK, Shape.obF, Shape.obT, Shape.arI, Arr.inF] | omega)) only [S2, Nat.reduceEqDiff, Nat.reduceAdd, iput, puts, SU f] | (refine den_call rfl (by first | (simp only [SS, Nat.reduceEqDiff, Nat.reduceAdd, iput, puts, FF, frzL_cat]; done) | (simp only [SS, Nat.reduceEqDiff, Nat.reduceAdd, iput, puts, FF, frzL_cat]; rfl)) (by first | exact isF) ?_) | (refine den_calli rfl (by first | (simp only [SS, Nat.reduceEqDiff, Nat.reduceAdd, iput, puts, FF, frzL_cat]; done) | (simp only [SS, Nat.reduceEqDiff, Nat.reduceAdd, iput, puts, FF, frzL_cat]; rfl)) (by first | exact isF) ?_))
  refine den_mksG (m := f.ar.length) (z := int 0) rfl rfl (by omega) fun H1 z1 e1 => ?_
  rw [rep_int] at z1
  try simp (disch := (first | rfl | with_reducible assumption | with_reducible solve_by_elim (maxDepth := 8) [Shape.inT, Shape.inI, Shape.inC, Shape.inK, Shape.obF, Shape.obT, Shape.arI, Arr.inF] | omega)) only [S2, Nat.reduceEqDiff, Nat.reduceAdd, iput, puts, SU f]
  refine den_loop (α := Nat) (fun a => [int a]) (fun a H' nx' => a ≤ f.ar.length ∧ nx' = nx + 1 ∧ H' nx = some (ints ((labs (kF f) f.ar.length).take a ++ List.replicate ((labs (kF f) f.ar.length).length - a) 0)) ∧ ∀ j, j < nx → H' j = H j) (fun a => f.ar.length - a) 0 rfl ⟨Nat.zero_le _, rfl, by rw [labs_len]; simpa using z1, fun j hj => e1 j (by omega)⟩ ?_
  clear z1 e1
  rintro i H2 n2 ⟨hi, rfl, z2, low⟩
  have ll : ((labs (kF f) f.ar.length).take i ++ List.replicate ((labs (kF f) f.ar.length).length - i) 0).length = f.ar.length := by simp [labs_len]; omega
  by_cases hlt : i < f.ar.length
  · have i1 : In f.ar (i : Int) := In.nat hlt
    have i2 : In f.s.f (i : Int) := In.nat (by omega)
    have i3 : In f.s.t (i : Int) := In.nat (by omega)
    obtain ⟨⟨a1, a2⟩, ⟨a3, a4⟩, a5, a6⟩ := kBounds u hlt
    have g1 : gI f.ar (i : Int) = f.A i := rfl
    have g2 : gI f.s.f (i : Int) = f.s.F i := rfl
    have g3 : gI f.s.t (i : Int) = f.s.T i := rfl
    have fill := fill_succ (l := labs (kF f) f.ar.length) (i := i) (by rw [labs_len]; exact hlt)
    rw [labs_at hlt, kF_lab u hlt] at fill
    have w1 : IntKind.i64.wrap (f.s.F i * 8) = f.s.F i * 8 := wrap_id (by omega) (by omega)
    have w2 : IntKind.i64.wrap (f.s.F i * 8 + f.s.T i) = f.s.F i * 8 + f.s.T i := wrap_id (by omega) (by omega)
    have w3 : IntKind.i64.wrap ((f.s.F i * 8 + f.s.T i) * 40) = (f.s.F i * 8 + f.s.T i) * 40 := wrap_id (by omega) (by omega)
    have w4 : IntKind.i64.wrap ((f.s.F i * 8 + f.s.T i) * 40 + f.A i) = kLab f i := wrap_id (by omega) (by omega)
    try simp (disch := (first | rfl | with_reducible assumption | with_reducible solve_by_elim (maxDepth := 8) [Shape.inT, Shape.inI, Shape.inC, Shape.inK, Shape.obF, Shape.obT, Shape.arI, Arr.inF] | omega)) only [S2, Nat.reduceEqDiff, Nat.reduceAdd, iput, puts, SU f, hlt, g1, g2, g3, w1, w2, w3, w4, p_iadN z2 ll hlt]
    refine den_st1G (o := nx) (p := i) (m := f.ar.length) (u := int (kLab f i)) rfl rfl z2 (by rw [ints_length]; exact ll) hlt rfl fun H3 z3 e3 => ?_
    rw [ints_set, fill] at z3
    try simp (disch := (first | rfl | with_reducible assumption | with_reducible solve_by_elim (maxDepth := 8) [Shape.inT, Shape.inI, Shape.inC, Shape.inK, Shape.obF, Shape.obT, Shape.arI, Arr.inF] | omega)) only [S2, Nat.reduceEqDiff, Nat.reduceAdd, iput, puts]
    exact ⟨i + 1, rfl, ⟨by omega, z3, fun j hj => by rw [e3 j (by omega)]; exact low j hj⟩, by omega⟩
  · have hie : i = f.ar.length := by omega
    try simp (disch := (first | rfl | with_reducible assumption | with_reducible solve_by_elim (maxDepth := 8) [Shape.inT, Shape.inI, Shape.inC, Shape.inK, Shape.obF, Shape.obT, Shape.arI, Arr.inF] | omega)) only [S2, Nat.reduceEqDiff, Nat.reduceAdd, iput, puts, hlt]
    rw [hie, List.take_of_length_le (by rw [labs_len]; omega), labs_len] at z2
    simp only [Nat.sub_self, List.replicate_zero, List.append_nil] at z2
    refine den_callo (fc := (365, [])) (ys := [islice (labs (kF f) f.ar.length)]) rfl ?_ (normal_ok hno (kF f) f.ar.length (by omega) hempty (nx + 1)) (IsI.some _ _ _) fun v H' nx' hu => ?_
    · have : frz H2 fuel (.ms nx 0 f.ar.length 1) = some (islice (labs (kF f) f.ar.length)) := by
        have := frzN_frz _ _ _ (frzN_ms z2 5)
        rw [labs_len] at this
        exact this
      simp only [SS, Nat.reduceEqDiff, Nat.reduceAdd, iput, puts, frzL, List.mapM_cons, List.mapM_nil, List.append_nil, this]
      rfl
    obtain ⟨q1, q2, _, _⟩ := hu.own H2
    obtain ⟨H4, s4, i4⟩ := hu.back (H1 := H2) hwf (by omega) low
    exact ⟨q1, q2, _, rfl, H4, s4, v, rfl, i4⟩
def V_spec_KernelCongruence : Vc :=
  .op true (.p .box [.t 0]) <|
  .op true (.p (.ld (some 12)) [.t 1]) <|
  .op true (.call (.f 256) [.t 2]) <|
  .op true (.p .bnot [.t 3]) <|
  .br 4
   (.ret [(.c (.nil), none), (.c (int 1), none)])
   (.op true (.p (.msl 0 [] []) []) <|
   .loop 0 [.t 5, .c (int 0)] <|
   .op true (.p (.fad 11) [.t 1]) <|
   .op true (.p (.ld none) [.t 8]) <|
   .op true (.p .len [.t 9]) <|
   .op true (.p (.bin .lss) [.t 7, .t 10]) <|
   .br 11
    (.loop 1 [.t 6, .c (int 0)] <|
    .op true (.p (.bin .lss) [.t 13, .t 7]) <|
    .br 14
     (.op true (.p (.fad 0) [.t 1]) <|
     .op true (.p (.ld (some 5)) [.t 15]) <|
     .op true (.call (.f 340) [.t 16, .t 7, .t 13]) <|
     .br 17
      (.op true (.p (.fad 11) [.t 1]) <|
      .op true (.p (.ld none) [.t 18]) <|
      .op true (.p (.iad 1) [.t 19, .t 7]) <|
      .op true (.p (.ld none) [.t 20]) <|
      .op true (.p (.fad 11) [.t 1]) <|
      .op true (.p (.ld none) [.t 22]) <|
      .op true (.p (.iad 1) [.t 23, .t 13]) <|
      .op true (.p (.ld none) [.t 24]) <|
      .op true (.p (.bin .eql) [.t 21, .t 25]) <|
      .br 26
       (.op true (.p (.msl 2 [int 0, int 0] [(0, 1), (1, 1)]) [.t 13, .t 7]) <|
       .op true (.p (.msl 1 [.nil] [(0, 1)]) [.t 27]) <|
       .op true (.app 1 (.t 12) (.t 28)) <|
       .op true (.p (.bin .add) [.t 13, .c (int 1)]) <|
       .again 1 [.t 29, .t 30])
       (.op true (.p (.bin .add) [.t 13, .c (int 1)]) <|
       .again 1 [.t 12, .t 27]))
      (.op true (.p (.bin .add) [.t 13, .c (int 1)]) <|
      .again 1 [.t 12, .t 18]))
     (.op true (.p (.bin .add) [.t 7, .c (int 1)]) <|
     .again 0 [.t 12, .t 15]))
    (.op true (.p (.fad 11) [.t 1]) <|
    .op true (.p (.ld none) [.t 12]) <|
    .op true (.p .len [.t 13]) <|
    .op true (.callo (.f 291) [.t 14, .t 6]) <|
    .ret [(.t 15, none), (.c (int 0), none)]))
set_option maxHeartbeats 2000000 in
theorem sKernelCongruence_ok (KS : HSpecU P ν) (L : HLab P ν) (hp : Has P ν 340 3 V_spec_l03Parallel) (hs : Has P ν 224 1 V_spec_KernelCongruence) (f : Fu) (b : SmallU f) (u : IsFu f) (H : Hp) (nx : Nat) : OkM P ν 224 [.agg f.cells] H nx (IsP (nrm (kF f) f.ar.length) 0 H nx) := by
  refine hs _ _ _ _ rfl fun hwf => ?_
  unfold V_spec_KernelCongruence
  have s := u.s.1
  have al := u.m.al
  have n40 := s.n40
  have tl := s.tl
  have isF := l06Is_fz KS f b
  rw [decide_eq_true u] at isF
  repeat (first | simp (disch := (first | rfl | with_reducible assumption | with_reducible solve_by_elim (maxDepth := 8) [Shape.inT, Shape.inI, Shape.inC, Shape.inK, Shape.obF, Shape.obT, Shape.arI, Arr.inF] | omega)) only [S2, Nat.reduceEqDiff, Nat.reduceAdd, iput, puts, SU f] | (refine den_call rfl (by first | (simp only [SS, Nat.reduceEqDiff, Nat.reduceAdd, iput, puts, FF, frzL_cat]; done) | (simp only [SS, Nat.reduceEqDiff, Nat.reduceAdd, iput, puts, FF, frzL_cat]; rfl)) (by first | exact isF) ?_) | (refine den_calli rfl (by first | (simp only [SS, Nat.reduceEqDiff, Nat.reduceAdd, iput, puts, FF, frzL_cat]; done) | (simp only [SS, Nat.reduceEqDiff, Nat.reduceAdd, iput, puts, FF, frzL_cat]; rfl)) (by first | exact isF) ?_))
  refine den_loop (α := Nat × AV) (fun a => [a.2, int a.1]) (fun a H' nx' => a.1 ≤ f.ar.length ∧ IsC (rows (prM (kP f a.1))) (prM (kP f a.1)).length 1 H nx a.2 H' nx') (fun a => f.ar.length - a.1) (0, .nil) rfl ⟨Nat.zero_le _, IsC.nil⟩ ?_
  rintro ⟨x, v⟩ H1 n1 ⟨hx, hI⟩
  simp only at hx hI
  have pll := kP_len f x
  have sq : x * x ≤ 40 * 40 := Nat.mul_le_mul (by omega) (by omega)
  by_cases hlt : x < f.ar.length
  · have ax : Arr f.s x := ⟨by omega, by omega⟩
    have ix : In f.ar (x : Int) := In.nat hlt
    try simp (disch := (first | rfl | with_reducible assumption | with_reducible solve_by_elim (maxDepth := 8) [Shape.inT, Shape.inI, Shape.inC, Shape.inK, Shape.obF, Shape.obT, Shape.arI, Arr.inF] | omega)) only [S2, Nat.reduceEqDiff, Nat.reduceAdd, iput, puts, SU f, hlt]
    refine den_loop (α := Nat × AV) (fun a => [a.2, int a.1]) (fun a H' nx' => a.1 ≤ x ∧ IsC (rows (prM (kP f x ++ kRow f x a.1))) (prM (kP f x ++ kRow f x a.1)).length 1 H nx a.2 H' nx') (fun a => x - a.1) (0, v) rfl ⟨Nat.zero_le _, by simpa [kRow] using hI⟩ ?_
    rintro ⟨y, w⟩ H2 n2 ⟨hy, hJ⟩
    simp only at hy hJ
    have rl := kRow_len f x y
    have pl : (prM (kP f x ++ kRow f x y)).length ≤ 2000 := by rw [prM_len, List.length_append]; omega
    by_cases hly : y < x
    · have hly' : (y : Int) < x := by omega
      have ay : Arr f.s y := ⟨by omega, by omega⟩
      have iy : In f.ar (y : Int) := In.nat (by omega)
      have g1 : gI f.ar (x : Int) = f.A x := rfl
      have g2 : gI f.ar (y : Int) = f.A y := rfl
      have skip : ¬ sameK f x y → kRow f x (y + 1) = kRow f x y := fun h => by rw [kRow_succ, if_neg h, List.append_nil]
      repeat (first | simp (disch := (first | rfl | with_reducible assumption | with_reducible solve_by_elim (maxDepth := 8) [Shape.inT, Shape.inI, Shape.inC, Shape.inK, Shape.obF, Shape.obT, Shape.arI, Arr.inF] | omega)) only [S2, Nat.reduceEqDiff, Nat.reduceAdd, iput, puts, SU f, hly'] | (refine den_call rfl (by first | (simp only [SS, Nat.reduceEqDiff, Nat.reduceAdd, iput, puts, FF, frzL_cat]; done) | (simp only [SS, Nat.reduceEqDiff, Nat.reduceAdd, iput, puts, FF, frzL_cat]; rfl)) (by first | exact s.fzParallel hp ax ay) ?_) | (refine den_calli rfl (by first | (simp only [SS, Nat.reduceEqDiff, Nat.reduceAdd, iput, puts, FF, frzL_cat]; done) | (simp only [SS, Nat.reduceEqDiff, Nat.reduceAdd, iput, puts, FF, frzL_cat]; rfl)) (by first | exact s.fzParallel hp ax ay) ?_))
      refine ⟨fun e => ?_, fun e => ?_⟩
      · try simp (disch := (first | rfl | with_reducible assumption | with_reducible solve_by_elim (maxDepth := 8) [Shape.inT, Shape.inI, Shape.inC, Shape.inK, Shape.obF, Shape.obT, Shape.arI, Arr.inF] | omega)) only [S2, Nat.reduceEqDiff, Nat.reduceAdd, iput, puts, SU f, g1, g2]
        refine ⟨fun e2 => ?_, fun e2 => ?_⟩
        · try simp (disch := (first | rfl | with_reducible assumption | with_reducible solve_by_elim (maxDepth := 8) [Shape.inT, Shape.inI, Shape.inC, Shape.inK, Shape.obF, Shape.obT, Shape.arI, Arr.inF] | omega)) only [S2, Nat.reduceEqDiff, Nat.reduceAdd, iput, puts, p_msl2, p_msl1R]
          refine den_appC (m := 1) hJ rfl (by simp) rfl rfl (by omega) fun v3 H4 n4 hI2 => ?_
          try simp (disch := (first | rfl | with_reducible assumption | with_reducible solve_by_elim (maxDepth := 8) [Shape.inT, Shape.inI, Shape.inC, Shape.inK, Shape.obF, Shape.obT, Shape.arI, Arr.inF] | omega)) only [S2, Nat.reduceEqDiff, Nat.reduceAdd, iput, puts]
          refine ⟨(y + 1, v3), rfl, ⟨by simp only; omega, ?_⟩, by simp only; omega⟩
          simp only
          rw [kRow_succ, if_pos ⟨e, e2⟩, ← List.append_assoc, prM_append, rows_append, List.length_append]
          exact hI2
        · try simp (disch := (first | rfl | with_reducible assumption | with_reducible solve_by_elim (maxDepth := 8) [Shape.inT, Shape.inI, Shape.inC, Shape.inK, Shape.obF, Shape.obT, Shape.arI, Arr.inF] | omega)) only [S2, Nat.reduceEqDiff, Nat.reduceAdd, iput, puts]
          refine ⟨(y + 1, w), rfl, ⟨by simp only; omega, ?_⟩, by simp only; omega⟩
          simp only
          rw [skip fun q => e2 q.2]
          exact hJ
      · try simp (disch := (first | rfl | with_reducible assumption | with_reducible solve_by_elim (maxDepth := 8) [Shape.inT, Shape.inI, Shape.inC, Shape.inK, Shape.obF, Shape.obT, Shape.arI, Arr.inF] | omega)) only [S2, Nat.reduceEqDiff, Nat.reduceAdd, iput, puts]
        refine ⟨(y + 1, w), rfl, ⟨by simp only; omega, ?_⟩, by simp only; omega⟩
        simp only
        rw [skip fun q => e q.1]
        exact hJ
    · have hly' : ¬ (y : Int) < x := by omega
      have : y = x := by omega
      subst this
      try simp (disch := (first | rfl | with_reducible assumption | with_reducible solve_by_elim (maxDepth := 8) [Shape.inT, Shape.inI, Shape.inC, Shape.inK, Shape.obF, Shape.obT, Shape.arI, Arr.inF] | omega)) only [S2, Nat.reduceEqDiff, Nat.reduceAdd, iput, puts, hly']
      refine ⟨(y + 1, w), rfl, ⟨by simp only; omega, ?_⟩, by simp only; omega⟩
      simp only
      rw [kP_succ]
      exact hJ
  · try simp (disch := (first | rfl | with_reducible assumption | with_reducible solve_by_elim (maxDepth := 8) [Shape.inT, Shape.inI, Shape.inC, Shape.inK, Shape.obF, Shape.obT, Shape.arI, Arr.inF] | omega)) only [S2, Nat.reduceEqDiff, Nat.reduceAdd, iput, puts, SU f, hlt]
    have hxe : x = f.ar.length := by omega
    rw [hxe] at hI pll
    have hlt2 : ∀ p ∈ kP f f.ar.length, p.1 < f.ar.length ∧ p.2 < f.ar.length := fun p hp => by
      obtain ⟨h1, h2, _⟩ := mem_kP.1 hp
      exact ⟨by omega, h1⟩
    have sq2 : f.ar.length * f.ar.length ≤ 40 * 40 := Nat.mul_le_mul (by omega) (by omega)
    refine den_callo (fc := (291, [])) (ys := [int (f.ar.length : Int), .sl (rows (prM (kP f f.ar.length))) (prM (kP f f.ar.length)).length]) rfl (by simp only [SS, Nat.reduceEqDiff, Nat.reduceAdd, iput, puts, frzL, List.mapM_cons, List.mapM_nil, List.append_nil, hI.rows]; rfl) (l01Join_ok L.index L.classes L.join f.ar.length (by omega) (kP f f.ar.length) hlt2 (by omega) f.ar.length rfl hempty n1) (IsI.some _ _ _) fun v' H' nx' hu => ?_
    obtain ⟨q1, q2, _, _⟩ := hu.own H1
    obtain ⟨H4, s4, i4⟩ := hu.back (H1 := H1) hwf hI.1 fun j hj => hI.old hj
    rw [← tells_nrm (kF_tells u)] at i4
    exact ⟨q1, q2, _, rfl, H4, s4, v', rfl, i4⟩
theorem KernelCongruence_both (K : HFun P ν) (hno : Has P ν 365 1 V_normal) (h : Has P ν 225 1 V_KernelCongruence) (KS : HSpecU P ν) (L : HLab P ν) (hp : Has P ν 340 3 V_spec_l03Parallel) (hs : Has P ν 224 1 V_spec_KernelCongruence) (f : Fu) (b : SmallU f) : BothP P ν 225 224 [.agg f.cells] := by
  by_cases u : IsFu f
  · have n40 := u.s.1.n40
    have al := u.m.al
    exact ⟨nrm (kF f) f.ar.length, 0, by rw [nrm_len]; omega, fun H nx => KernelCongruence_ok K hno h f b u H nx, fun H nx => sKernelCongruence_ok KS L hp hs f b u H nx⟩
  · refine ⟨[], 1, by simp, fun H nx => h _ _ _ _ rfl fun hwf => ?_, fun H nx => hs _ _ _ _ rfl fun hwf => ?_⟩
    · unfold V_KernelCongruence
      repeat (first | simp (disch := (first | rfl | with_reducible assumption | with_reducible solve_by_elim (maxDepth := 8) [Shape.inT, Shape.inI, Shape.inC, Shape.inK, Shape.obF, Shape.obT, Shape.arI, Arr.inF] | omega)) only [S2, Nat.reduceEqDiff, Nat.reduceAdd, iput, puts, SU f, u] | (refine den_call rfl (by first | (simp only [SS, Nat.reduceEqDiff, Nat.reduceAdd, iput, puts, FF, frzL_cat]; done) | (simp only [SS, Nat.reduceEqDiff, Nat.reduceAdd, iput, puts, FF, frzL_cat]; rfl)) (by first | exact isFunctor_fz K f b) ?_) | (refine den_calli rfl (by first | (simp only [SS, Nat.reduceEqDiff, Nat.reduceAdd, iput, puts, FF, frzL_cat]; done) | (simp only [SS, Nat.reduceEqDiff, Nat.reduceAdd, iput, puts, FF, frzL_cat]; rfl)) (by first | exact isFunctor_fz K f b) ?_))
      exact ⟨_, rfl, H, fun _ _ h => h, .nil, rfl, IsI.nil _ _⟩
    · unfold V_spec_KernelCongruence
      repeat (first | simp (disch := (first | rfl | with_reducible assumption | with_reducible solve_by_elim (maxDepth := 8) [Shape.inT, Shape.inI, Shape.inC, Shape.inK, Shape.obF, Shape.obT, Shape.arI, Arr.inF] | omega)) only [S2, Nat.reduceEqDiff, Nat.reduceAdd, iput, puts, SU f, u] | (refine den_call rfl (by first | (simp only [SS, Nat.reduceEqDiff, Nat.reduceAdd, iput, puts, FF, frzL_cat]; done) | (simp only [SS, Nat.reduceEqDiff, Nat.reduceAdd, iput, puts, FF, frzL_cat]; rfl)) (by first | exact l06Is_fz KS f b) ?_) | (refine den_calli rfl (by first | (simp only [SS, Nat.reduceEqDiff, Nat.reduceAdd, iput, puts, FF, frzL_cat]; done) | (simp only [SS, Nat.reduceEqDiff, Nat.reduceAdd, iput, puts, FF, frzL_cat]; rfl)) (by first | exact l06Is_fz KS f b) ?_))
      exact ⟨_, rfl, H, fun _ _ h => h, .nil, rfl, IsI.nil _ _⟩
end Go.Av
