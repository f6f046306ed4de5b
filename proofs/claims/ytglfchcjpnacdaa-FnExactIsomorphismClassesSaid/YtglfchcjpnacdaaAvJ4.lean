/-
  Classes of isomorphic objects; a skeleton: both sides.
-/
import Derived.Test.YtglfchcjpnacdaaAvJ3
import Derived.Test.YtglfchcjpnacdaaAvM2
namespace Go.Av
open Classical
set_option linter.unusedSimpArgs false
set_option linter.unusedVariables false
variable {P : Program} {ν : Nat → FuncId}

theorem lead_ex (f : Nat → Nat) (i : Nat) : ∃ a, a ≤ i ∧ isFst f a = true ∧ f a = f i ∧ numOf f i = (fsts f a).length := by
  cases h : isFst f i with
  | true => exact ⟨i, Nat.le_refl _, h, rfl, numOf_new h⟩
  | false =>
    obtain ⟨j, h1, h2, h3, h4⟩ := numOf_old h
    exact ⟨j, by omega, h2, h3, h4⟩
/-- The first of a class. -/
noncomputable def lead (f : Nat → Nat) (i : Nat) : Nat := Classical.choose (lead_ex f i)
theorem lead_spec (f : Nat → Nat) (i : Nat) : lead f i ≤ i ∧ isFst f (lead f i) = true ∧ f (lead f i) = f i ∧ numOf f i = (fsts f (lead f i)).length := Classical.choose_spec (lead_ex f i)
theorem first_eq {f : Nat → Nat} {a b : Nat} (ha : isFst f a = true) (hb : isFst f b = true) (h : f a = f b) : a = b := by
  have h1 := of_decide_eq_true ha
  have h2 := of_decide_eq_true hb
  rcases Nat.lt_trichotomy a b with q | q | q
  · exact absurd h (h2 a q)
  · exact q
  · exact absurd h.symm (h1 b q)
theorem fsts_lt_len {f : Nat → Nat} {a b : Nat} (ha : isFst f a = true) (h : a < b) : (fsts f a).length < (fsts f b).length := by
  obtain ⟨t, ht⟩ := fsts_split ha h
  rw [ht]; simp
theorem numOf_inj {f : Nat → Nat} {i j : Nat} : numOf f i = numOf f j ↔ f i = f j := by
  obtain ⟨_, a2, a3, a4⟩ := lead_spec f i
  obtain ⟨_, b2, b3, b4⟩ := lead_spec f j
  rw [a4, b4]
  constructor
  · intro h
    rcases Nat.lt_trichotomy (lead f i) (lead f j) with q | q | q
    · have := fsts_lt_len a2 q; omega
    · rw [← a3, ← b3, q]
    · have := fsts_lt_len b2 q; omega
  · intro h
    rw [first_eq a2 b2 (by rw [a3, b3, h])]
theorem isFst_lead {f : Nat → Nat} {i : Nat} : isFst f i = true ↔ lead f i = i := by
  obtain ⟨_, a2, a3, _⟩ := lead_spec f i
  constructor
  · intro h; exact first_eq a2 h a3
  · intro h; rw [← h]; exact a2
theorem numOf_len {f : Nat → Nat} {i : Nat} : numOf f i = (fsts f i).length ↔ isFst f i = true := by
  obtain ⟨a1, a2, a3, a4⟩ := lead_spec f i
  constructor
  · intro h
    rw [isFst_lead]
    by_cases e : lead f i = i
    · exact e
    · have := fsts_lt_len a2 (show lead f i < i by omega); omega
  · exact numOf_new
theorem idx_nrm {f : Nat → Nat} {n x : Nat} (h : x < n) : idxI (nrm f n) (numOf f x) = lead f x := by
  obtain ⟨a1, a2, a3, a4⟩ := lead_spec f x
  refine idxI_at (by rw [nrm_len]; omega) ?_ fun j hj e => ?_
  · rw [nrm_at (by omega)]
    have := (numOf_inj (f := f) (i := lead f x) (j := x)).2 a3
    rw [this]
  · rw [nrm_at (by omega)] at e
    have e2 : numOf f j = numOf f x := by omega
    have := numOf_inj.1 e2
    exact of_decide_eq_true a2 j hj (this.trans a3.symm)
/-- The firsts, in a list of integers. -/
def fstL (f : Nat → Nat) (n : Nat) : List Int := (fsts f n).map fun (j : Nat) => (j : Int)
theorem fstL_len {f : Nat → Nat} {n : Nat} : (fstL f n).length = (fsts f n).length := by simp [fstL]
theorem fstL_succ {f : Nat → Nat} {n : Nat} : fstL f (n + 1) = fstL f n ++ if isFst f n then [(n : Int)] else [] := by
  unfold fstL
  rw [fsts_succ]
  split <;> simp
theorem fstL_at {f : Nat → Nat} {n x : Nat} (h : x < n) : numOf f x < (fstL f n).length ∧ (fstL f n).getD (numOf f x) 0 = lead f x := by
  obtain ⟨a1, a2, a3, a4⟩ := lead_spec f x
  obtain ⟨t, ht⟩ := fsts_split a2 (show lead f x < n by omega)
  rw [fstL_len, a4]
  refine ⟨by rw [ht]; simp, ?_⟩
  unfold fstL
  rw [ht]
  simp [List.getD]
def V_partition_leaders : Vc :=
  .op true (.p (.msl 0 [] []) []) <|
  .op true (.p .len [.t 0]) <|
  .loop 0 [.t 1, .c (int 0)] <|
  .op true (.p (.bin .lss) [.t 4, .t 2]) <|
  .br 5
   (.op true (.p (.iad 1) [.t 0, .t 4]) <|
   .op true (.p (.ld none) [.t 6]) <|
   .op true (.p .len [.t 3]) <|
   .op true (.p (.bin .eql) [.t 7, .t 8]) <|
   .br 9
    (.op true (.p (.msl 1 [int 0] [(0, 1)]) [.t 4]) <|
    .op true (.app 1 (.t 3) (.t 10)) <|
    .op true (.p (.bin .add) [.t 4, .c (int 1)]) <|
    .again 0 [.t 11, .t 12])
    (.op true (.p (.bin .add) [.t 4, .c (int 1)]) <|
    .again 0 [.t 3, .t 10]))
   (.ret [(.t 3, none)])
theorem leaders_ok (h : Has P ν 346 1 V_partition_leaders) (f : Nat → Nat) (n : Nat) (hn : n ≤ 1048576) (H : Hp) (nx : Nat) : OkM P ν 346 [islice (nrm f n)] H nx (IsI (fstL f n) H nx) := by
  refine h _ _ _ _ rfl fun hwf => ?_
  unfold V_partition_leaders
  have ln := nrm_len (f := f) (n := n)
  try simp (disch := (first | rfl | with_reducible assumption | with_reducible solve_by_elim (maxDepth := 8) [Shape.inT, Shape.inI, Shape.inC, Shape.inK, Shape.obF, Shape.obT, Shape.arI, Arr.inF] | omega)) only [S2, Nat.reduceEqDiff, Nat.reduceAdd, iput, puts]
  refine den_loop (α := Nat × AV) (fun a => [a.2, int a.1]) (fun a H' nx' => a.1 ≤ n ∧ IsI (fstL f a.1) H nx a.2 H' nx') (fun a => n - a.1) (0, .nil) rfl ⟨Nat.zero_le _, Nat.le_refl _, .inl ⟨rfl, rfl, rfl⟩⟩ ?_
  rintro ⟨i, v⟩ H1 n1 ⟨hi, hI⟩
  simp only at hi hI
  have fl := fsts_len f i
  have fll := fstL_len (f := f) (n := i)
  by_cases hlt : i < n
  · have i1 : In (nrm f n) (i : Int) := In.nat (by rw [ln]; exact hlt)
    have g1 : gI (nrm f n) (i : Int) = (numOf f i : Int) := by rw [gI_nat]; exact nrm_at hlt
    have lenV : pvf H1 .len [v] = some (int (fstL f i).length) := by
      obtain ⟨_, ⟨e, rfl, _⟩ | ⟨o, _, _, rfl, rfl⟩⟩ := hI
      · rw [e]; rfl
      · exact p_lenN (hput_eq _ _ _) rfl
    try simp (disch := (first | rfl | with_reducible assumption | with_reducible solve_by_elim (maxDepth := 8) [Shape.inT, Shape.inI, Shape.inC, Shape.inK, Shape.obF, Shape.obT, Shape.arI, Arr.inF] | omega)) only [S2, Nat.reduceEqDiff, Nat.reduceAdd, iput, puts, hlt, ln, g1, lenV]
    refine ⟨fun e => ?_, fun e => ?_⟩
    · have hf : isFst f i = true := numOf_len.1 (by omega)
      refine den_appI (m := [(i : Int)]) (H0 := H) (nx0 := nx) hI rfl (by simp) (by simp only [List.length_cons, List.length_nil]; omega) fun v2 H3 n3 hI2 => ?_
      try simp (disch := (first | rfl | with_reducible assumption | with_reducible solve_by_elim (maxDepth := 8) [Shape.inT, Shape.inI, Shape.inC, Shape.inK, Shape.obF, Shape.obT, Shape.arI, Arr.inF] | omega)) only [S2, Nat.reduceEqDiff, Nat.reduceAdd, iput, puts]
      refine ⟨(i + 1, v2), rfl, ⟨by simp only; omega, ?_⟩, by simp only; omega⟩
      simp only
      rw [fstL_succ, if_pos hf]
      exact hI2
    · have hf : ¬ isFst f i = true := fun q => e (by have := numOf_len.2 q; omega)
      try simp (disch := (first | rfl | with_reducible assumption | with_reducible solve_by_elim (maxDepth := 8) [Shape.inT, Shape.inI, Shape.inC, Shape.inK, Shape.obF, Shape.obT, Shape.arI, Arr.inF] | omega)) only [S2, Nat.reduceEqDiff, Nat.reduceAdd, iput, puts]
      refine ⟨(i + 1, v), rfl, ⟨by simp only; omega, ?_⟩, by simp only; omega⟩
      simp only
      rw [fstL_succ, if_neg hf, List.append_nil]
      exact hI
  · try simp (disch := (first | rfl | with_reducible assumption | with_reducible solve_by_elim (maxDepth := 8) [Shape.inT, Shape.inI, Shape.inC, Shape.inK, Shape.obF, Shape.obT, Shape.arI, Arr.inF] | omega)) only [S2, Nat.reduceEqDiff, Nat.reduceAdd, iput, puts, hlt, ln]
    have : i = n := by omega
    subst this
    exact ⟨_, rfl, _, fun _ _ h => h, hI⟩

theorem inv_pos {c : Cat} {f : Int} : 0 ≤ inv c f ↔ ∃ g ∈ homL c (c.T f) (c.F f), c.K f g = c.I (c.F f) ∧ c.K g f = c.I (c.T f) := by
  have h1 := findI_lo (homL c (c.T f) (c.F f)) (fun g => c.K f g == c.I (c.F f) && c.K g f == c.I (c.T f)) fun f hf => (homL_mem hf).1
  rw [List.find?_eq_none] at h1
  constructor
  · intro h
    by_cases hn : ∃ g ∈ homL c (c.T f) (c.F f), c.K f g = c.I (c.F f) ∧ c.K g f = c.I (c.T f)
    · exact hn
    · have := h1.2 fun g hg => by simpa using fun h2 h3 => hn ⟨g, hg, h2, h3⟩
      unfold inv at h; omega
  · rintro ⟨g, hg, h2, h3⟩
    by_cases hn : 0 ≤ inv c f
    · exact hn
    · have := h1.1 (by unfold inv at hn; omega) g hg
      simp [h2, h3] at this
theorem iso_symm {c : Cat} {x y : Int} (h : 0 ≤ isoF c x y) : 0 ≤ isoF c y x := by
  obtain ⟨f, hf, h2⟩ := isoF_pos.1 h
  obtain ⟨g, hg, h3, h4⟩ := inv_pos.1 h2
  obtain ⟨fa, fF, fT⟩ := mem_hom.1 hf
  obtain ⟨ga, gF, gT⟩ := mem_hom.1 hg
  refine isoF_pos.2 ⟨g, mem_hom.2 ⟨ga, by rw [gF, fT], by rw [gT, fF]⟩, inv_pos.2 ⟨f, mem_hom.2 ⟨fa, by rw [gT], by rw [gF]⟩, ?_, ?_⟩⟩
  · rw [gF, h4]
  · rw [gT, h3]
/-- The pairs that isomorphisms join, in the program's order, and in the reference's. -/
def isoP (c : Cat) (k : Nat) : List (Nat × Nat) := ((List.range k).filter fun (i : Nat) => decide (0 ≤ inv c i)).map fun (i : Nat) => ((c.F i).toNat, (c.T i).toNat)
def alRow (c : Cat) (x k : Nat) : List (Nat × Nat) := ((List.range k).filter fun (y : Nat) => decide (0 ≤ isoF c x y)).map fun (y : Nat) => (y, x)
def alP (c : Cat) (k : Nat) : List (Nat × Nat) := (List.range k).flatMap fun (x : Nat) => alRow c x x
theorem isoP_succ (c : Cat) (k : Nat) : isoP c (k + 1) = isoP c k ++ if 0 ≤ inv c k then [((c.F k).toNat, (c.T k).toNat)] else [] := by
  unfold isoP
  rw [List.range_succ, List.filter_append, List.map_append]
  congr 1
  rw [List.filter_cons]
  by_cases h : 0 ≤ inv c k <;> simp [h]
theorem alRow_succ (c : Cat) (x k : Nat) : alRow c x (k + 1) = alRow c x k ++ if 0 ≤ isoF c x k then [(k, x)] else [] := by
  unfold alRow
  rw [List.range_succ, List.filter_append, List.map_append]
  congr 1
  rw [List.filter_cons]
  by_cases h : 0 ≤ isoF c x k <;> simp [h]
theorem alP_succ (c : Cat) (k : Nat) : alP c (k + 1) = alP c k ++ alRow c k k := range_flat _ _
theorem mem_alP {c : Cat} {k : Nat} {p : Nat × Nat} : p ∈ alP c k ↔ p.2 < k ∧ p.1 < p.2 ∧ 0 ≤ isoF c p.2 p.1 := by
  unfold alP
  rw [List.mem_flatMap]
  constructor
  · rintro ⟨x, hx, hp⟩
    unfold alRow at hp
    obtain ⟨y, hy, rfl⟩ := List.mem_map.1 hp
    obtain ⟨h1, h2⟩ := List.mem_filter.1 hy
    exact ⟨List.mem_range.1 hx, List.mem_range.1 h1, of_decide_eq_true h2⟩
  · rintro ⟨h1, h2, h3⟩
    refine ⟨p.2, List.mem_range.2 h1, ?_⟩
    unfold alRow
    exact List.mem_map.2 ⟨p.1, List.mem_filter.2 ⟨List.mem_range.2 h2, decide_eq_true h3⟩, rfl⟩
theorem alP_len (c : Cat) (k : Nat) : (alP c k).length ≤ k * k := by
  have := flat_len_le (List.range k) (fun (x : Nat) => alRow c x x) k fun x hx => by
    have hx := List.mem_range.1 hx
    unfold alRow
    rw [List.length_map]
    have := List.length_filter_le (fun (y : Nat) => decide (0 ≤ isoF c x y)) (List.range x)
    rw [List.length_range] at this
    omega
  rw [List.length_range] at this
  exact this
/-- The labels of the classes of isomorphic objects. -/
def cl (c : Cat) : Nat → Nat := lab (alP c c.o.toNat)
theorem iso_nrm {c : Cat} (s : Shape c) (n : Nat) : nrm (lab (isoP c c.f.length)) n = nrm (cl c) n := by
  have o0 := s.o0
  refine nrm_congr ((lab_tells _).same (lab_tells _) (fun a b hp => ?_) fun a b hp => ?_) n
  · obtain ⟨i, hi, e⟩ := List.mem_map.1 hp
    obtain ⟨h1, h2⟩ := List.mem_filter.1 hi
    have h1 := List.mem_range.1 h1
    have h2 := of_decide_eq_true h2
    have ar : Arr c i := ⟨by omega, by omega⟩
    obtain ⟨f0, f1⟩ := s.obF ar
    obtain ⟨t0, t1⟩ := s.obT ar
    cases e
    have eF : (((c.F i).toNat : Nat) : Int) = c.F i := by omega
    have eT : (((c.T i).toNat : Nat) : Int) = c.T i := by omega
    have al : 0 ≤ isoF c (c.F i) (c.T i) := isoF_pos.2 ⟨i, mem_hom.2 ⟨ar, rfl, rfl⟩, h2⟩
    rcases Nat.lt_trichotomy (c.F i).toNat (c.T i).toNat with q | q | q
    · exact .step (mem_alP.2 ⟨by simp only; omega, q, by simp only; rw [eF, eT]; exact iso_symm al⟩)
    · rw [q]; exact .refl _
    · exact (Gen.step (mem_alP.2 ⟨by simp only; omega, q, by simp only; rw [eF, eT]; exact al⟩)).symm
  · obtain ⟨h1, h2, h3⟩ := mem_alP.1 hp
    simp only at h1 h2 h3
    obtain ⟨f, hf, h4⟩ := isoF_pos.1 h3
    obtain ⟨ar, fF, fT⟩ := mem_hom.1 hf
    obtain ⟨a1, a2⟩ := ar.nat
    refine (Gen.step (List.mem_map.2 ⟨f.toNat, List.mem_filter.2 ⟨List.mem_range.2 a1, by rw [a2]; exact decide_eq_true h4⟩, ?_⟩)).symm
    rw [a2, fF, fT]
    simp
def V_Category_isoClasses : Vc :=
  .op true (.p .nck [.t 0]) <|
  .op true (.p (.fad 0) [.t 1]) <|
  .op true (.p (.ld none) [.t 2]) <|
  .op true (.callm (.f 394) [.t 3]) <|
  .op true (.p .nck [.t 0]) <|
  .op true (.p (.fad 1) [.t 5]) <|
  .op true (.p (.ld none) [.t 6]) <|
  .op true (.p .len [.t 7]) <|
  .loop 0 [.c (int 0)] <|
  .op true (.p (.bin .lss) [.t 9, .t 8]) <|
  .br 10
   (.op true (.call (.f 240) [.t 0, .t 9]) <|
   .op true (.p (.bin .geq) [.t 11, .c (int 0)]) <|
   .br 12
    (.op true (.p .nck [.t 0]) <|
    .op true (.p (.fad 1) [.t 13]) <|
    .op true (.p (.ld none) [.t 14]) <|
    .op true (.p (.iad 1) [.t 15, .t 9]) <|
    .op true (.p (.ld none) [.t 16]) <|
    .op true (.p .nck [.t 0]) <|
    .op true (.p (.fad 2) [.t 18]) <|
    .op true (.p (.ld none) [.t 19]) <|
    .op true (.p (.iad 1) [.t 20, .t 9]) <|
    .op true (.p (.ld none) [.t 21]) <|
    .op true (.callm (.f 395) [.t 4, .t 17, .t 22]) <|
    .op true (.p (.bin .add) [.t 9, .c (int 1)]) <|
    .again 0 [.t 24])
    (.op true (.p (.bin .add) [.t 9, .c (int 1)]) <|
    .again 0 [.t 13]))
   (.op true (.callm (.f 396) [.t 4]) <|
   .ret [(.t 11, none)])
set_option maxHeartbeats 1000000 in
theorem isoClasses_ok (K : HJoin P ν) (hh : Has P ν 33 3 V_Category_hom) (ht : Has P ν 34 3 V_Category_then) (hi : Has P ν 240 2 V_Category_inverse) (h : Has P ν 335 1 V_Category_isoClasses) (c : Cat) (s : Shape c) (H : Hp) (nx : Nat) : OkM P ν 335 [.ptr c.cells 0] H nx (IsI (nrm (cl c) c.o.toNat) H nx) := by
  refine h _ _ _ _ rfl fun hwf => ?_
  unfold V_Category_isoClasses
  have n40 := s.n40
  have tl := s.tl
  have o0 := s.o0
  have o8 := s.o8
  obtain ⟨n, hn⟩ : ∃ n : Nat, c.o = n := ⟨c.o.toNat, by omega⟩
  have hn' : c.o.toNat = n := by omega
  rw [hn']
  have jo := joinerOf_ok K.numbers K.joinerOf n (by omega) H nx
  rw [← hn] at jo
  try simp (disch := (first | rfl | with_reducible assumption | with_reducible solve_by_elim (maxDepth := 8) [Shape.inT, Shape.inI, Shape.inC, Shape.inK, Shape.obF, Shape.obT, Shape.arI, Arr.inF] | omega)) only [S2, Nat.reduceEqDiff, Nat.reduceAdd, iput, puts]
  refine den_callm (fc := (394, [])) rfl jo (NewL.some _ _ _) fun u H1 n1 hu => ?_
  obtain ⟨rfl, rfl, hJ, low⟩ := hu.joiner
  try simp (disch := (first | rfl | with_reducible assumption | with_reducible solve_by_elim (maxDepth := 8) [Shape.inT, Shape.inI, Shape.inC, Shape.inK, Shape.obF, Shape.obT, Shape.arI, Arr.inF] | omega)) only [S2, Nat.reduceEqDiff, Nat.reduceAdd, iput, puts]
  refine den_loop (α := Nat × (Nat → Nat)) (fun a => [int a.1]) (fun a H' nx' => a.1 ≤ c.f.length ∧ Tells a.2 (inP (isoP c a.1)) ∧ JAt H' nx n a.2 ∧ (∀ j, j ≠ nx → H' j = H j) ∧ nx' = nx + 1) (fun a => c.f.length - a.1) (0, id) rfl ⟨Nat.zero_le _, start_tells, hJ, low, rfl⟩ ?_
  clear hJ low hu H1
  rintro ⟨i, R⟩ H1 n1 ⟨hi', hR, hJ, low, rfl⟩
  simp only at hi' hR hJ
  by_cases hlt : i < c.f.length
  · have i1 : In c.f (i : Int) := In.nat hlt
    have i2 : In c.t (i : Int) := In.nat (by omega)
    have a : Arr c i := ⟨by omega, by omega⟩
    obtain ⟨f0, f1⟩ := s.obF a
    obtain ⟨t0, t1⟩ := s.obT a
    have ex : gI c.f (i : Int) = ((c.F i).toNat : Int) := by show c.F i = _; omega
    have ey : gI c.t (i : Int) = ((c.T i).toNat : Int) := by show c.T i = _; omega
    repeat (first | simp (disch := (first | rfl | with_reducible assumption | with_reducible solve_by_elim (maxDepth := 8) [Shape.inT, Shape.inI, Shape.inC, Shape.inK, Shape.obF, Shape.obT, Shape.arI, Arr.inF] | omega)) only [S2, Nat.reduceEqDiff, Nat.reduceAdd, iput, puts, hlt] | (refine den_call rfl (by first | (simp only [SS, Nat.reduceEqDiff, Nat.reduceAdd, iput, puts, FF, frzL_cat]; done) | (simp only [SS, Nat.reduceEqDiff, Nat.reduceAdd, iput, puts, FF, frzL_cat]; rfl)) (by first | exact s.invFz hh ht hi a) ?_) | (refine den_calli rfl (by first | (simp only [SS, Nat.reduceEqDiff, Nat.reduceAdd, iput, puts, FF, frzL_cat]; done) | (simp only [SS, Nat.reduceEqDiff, Nat.reduceAdd, iput, puts, FF, frzL_cat]; rfl)) (by first | exact s.invFz hh ht hi a) ?_))
    refine ⟨fun e => ?_, fun e => ?_⟩
    · try simp (disch := (first | rfl | with_reducible assumption | with_reducible solve_by_elim (maxDepth := 8) [Shape.inT, Shape.inI, Shape.inC, Shape.inK, Shape.obF, Shape.obT, Shape.arI, Arr.inF] | omega)) only [S2, Nat.reduceEqDiff, Nat.reduceAdd, iput, puts]
      refine den_callm (fc := (395, [])) rfl (join_ok K.root K.join nx n R H1 (nx + 1) hJ _ _ (c.F i).toNat (c.T i).toNat ex ey (by omega) (by omega)) (hJ.joinSome (by omega) (by omega)) fun u H2 n2 hu => ?_
      obtain ⟨rfl, rfl, hJ2, low2⟩ := hu
      try simp (disch := (first | rfl | with_reducible assumption | with_reducible solve_by_elim (maxDepth := 8) [Shape.inT, Shape.inI, Shape.inC, Shape.inK, Shape.obF, Shape.obT, Shape.arI, Arr.inF] | omega)) only [S2, Nat.reduceEqDiff, Nat.reduceAdd, iput, puts]
      refine ⟨(i + 1, joinR R (c.F i).toNat (c.T i).toNat), rfl, ⟨by simp only; omega, ?_, hJ2, fun j hj => by rw [low2 j hj]; exact low j hj⟩, by simp only; omega⟩
      simp only
      rw [isoP_succ, if_pos e]
      exact joinR_tells hR _ _
    · try simp (disch := (first | rfl | with_reducible assumption | with_reducible solve_by_elim (maxDepth := 8) [Shape.inT, Shape.inI, Shape.inC, Shape.inK, Shape.obF, Shape.obT, Shape.arI, Arr.inF] | omega)) only [S2, Nat.reduceEqDiff, Nat.reduceAdd, iput, puts]
      refine ⟨(i + 1, R), rfl, ⟨by simp only; omega, ?_, hJ, low⟩, by simp only; omega⟩
      simp only
      rw [isoP_succ, if_neg (by omega), List.append_nil]
      exact hR
  · try simp (disch := (first | rfl | with_reducible assumption | with_reducible solve_by_elim (maxDepth := 8) [Shape.inT, Shape.inI, Shape.inC, Shape.inK, Shape.obF, Shape.obT, Shape.arI, Arr.inF] | omega)) only [S2, Nat.reduceEqDiff, Nat.reduceAdd, iput, puts, hlt]
    have : i = c.f.length := by omega
    subst this
    refine den_callm (fc := (396, [])) rfl (partition_ok K.root K.normal K.partition nx n (by omega) R H1 (nx + 1) hJ (by omega)) PartP.some fun u H2 n2 hu => ?_
    obtain ⟨h1, own, low2⟩ := hu
    rw [tells_nrm hR, iso_nrm s] at own
    have own2 : Own1 (nrm (cl c) n) u H2 nx n2 := by
      rcases own with ⟨e, rfl⟩ | ⟨o, o1, o2, rfl, e⟩
      · exact .inl ⟨e, rfl⟩
      · exact .inr ⟨o, by omega, o2, rfl, e⟩
    obtain ⟨H3, s3, i3⟩ := own2.back (by omega) hwf fun j hj => by rw [low2 j (by omega) (by omega)]; exact low j (by omega)
    exact ⟨_, rfl, H3, s3, i3⟩
/-- What the reference's test of isomorphic objects calls. -/
structure HAlike (P : Program) (ν : Nat → FuncId) : Prop where
  hom : Has P ν 309 3 V_spec_l02Hom
  thn : Has P ν 253 3 V_spec_l02Then
  unit : Has P ν 380 2 V_spec_l02Unit
  inv : Has P ν 423 2 V_spec_l02Inverse
  alike : Has P ν 408 3 V_spec_l06Alike
def V_spec_l11Classes : Vc :=
  .op true (.p .box [.t 0]) <|
  .op true (.p (.msl 0 [] []) []) <|
  .loop 0 [.t 2, .c (int 0)] <|
  .op true (.p (.fad 0) [.t 1]) <|
  .op true (.p (.ld none) [.t 5]) <|
  .op true (.p (.bin .lss) [.t 4, .t 6]) <|
  .br 7
   (.loop 1 [.t 3, .c (int 0)] <|
   .op true (.p (.bin .lss) [.t 9, .t 4]) <|
   .br 10
    (.op true (.p (.ld (some 5)) [.t 1]) <|
    .op true (.call (.f 408) [.t 11, .t 4, .t 9]) <|
    .br 12
     (.op true (.p (.msl 2 [int 0, int 0] [(0, 1), (1, 1)]) [.t 9, .t 4]) <|
     .op true (.p (.msl 1 [.nil] [(0, 1)]) [.t 13]) <|
     .op true (.app 1 (.t 8) (.t 14)) <|
     .op true (.p (.bin .add) [.t 9, .c (int 1)]) <|
     .again 1 [.t 15, .t 16])
     (.op true (.p (.bin .add) [.t 9, .c (int 1)]) <|
     .again 1 [.t 8, .t 13]))
    (.op true (.p (.bin .add) [.t 4, .c (int 1)]) <|
    .again 0 [.t 8, .t 11]))
   (.op true (.p (.fad 0) [.t 1]) <|
   .op true (.p (.ld none) [.t 8]) <|
   .op true (.callo (.f 291) [.t 9, .t 3]) <|
   .ret [(.t 10, none)])
set_option maxHeartbeats 1000000 in
theorem l11Classes_ok (A : HAlike P ν) (L : HLab P ν) (h : Has P ν 334 1 V_spec_l11Classes) (c : Cat) (s : Shape c) (H : Hp) (nx : Nat) : OkM P ν 334 [.agg c.cells] H nx (IsI (nrm (cl c) c.o.toNat) H nx) := by
  refine h _ _ _ _ rfl fun hwf => ?_
  unfold V_spec_l11Classes
  have o0 := s.o0
  have o8 := s.o8
  try simp (disch := (first | rfl | with_reducible assumption | with_reducible solve_by_elim (maxDepth := 8) [Shape.inT, Shape.inI, Shape.inC, Shape.inK, Shape.obF, Shape.obT, Shape.arI, Arr.inF] | omega)) only [S2, Nat.reduceEqDiff, Nat.reduceAdd, iput, puts]
  refine den_loop (α := Nat × AV) (fun a => [a.2, int a.1]) (fun a H' nx' => a.1 ≤ c.o.toNat ∧ IsC (rows (prM (alP c a.1))) (prM (alP c a.1)).length 1 H nx a.2 H' nx') (fun a => c.o.toNat - a.1) (0, .nil) rfl ⟨Nat.zero_le _, IsC.nil⟩ ?_
  rintro ⟨x, v⟩ H1 n1 ⟨hx, hI⟩
  simp only at hx hI
  have al := alP_len c x
  have sq : x * x ≤ 8 * 8 := Nat.mul_le_mul (by omega) (by omega)
  by_cases hlt : (x : Int) < c.o
  · try simp (disch := (first | rfl | with_reducible assumption | with_reducible solve_by_elim (maxDepth := 8) [Shape.inT, Shape.inI, Shape.inC, Shape.inK, Shape.obF, Shape.obT, Shape.arI, Arr.inF] | omega)) only [S2, Nat.reduceEqDiff, Nat.reduceAdd, iput, puts, hlt]
    refine den_loop (α := Nat × AV) (fun a => [a.2, int a.1]) (fun a H' nx' => a.1 ≤ x ∧ IsC (rows (prM (alP c x ++ alRow c x a.1))) (prM (alP c x ++ alRow c x a.1)).length 1 H nx a.2 H' nx') (fun a => x - a.1) (0, v) rfl ⟨Nat.zero_le _, by simpa [alRow] using hI⟩ ?_
    rintro ⟨y, w⟩ H2 n2 ⟨hy, hJ⟩
    simp only at hy hJ
    have rl : (alRow c x y).length ≤ y := by
      unfold alRow
      rw [List.length_map]
      have := List.length_filter_le (fun (y : Nat) => decide (0 ≤ isoF c x y)) (List.range y)
      rwa [List.length_range] at this
    have pl : (prM (alP c x ++ alRow c x y)).length ≤ 1000 := by rw [prM_len, List.length_append]; omega
    by_cases hly : y < x
    · have hly' : (y : Int) < x := by omega
      repeat (first | simp (disch := (first | rfl | with_reducible assumption | with_reducible solve_by_elim (maxDepth := 8) [Shape.inT, Shape.inI, Shape.inC, Shape.inK, Shape.obF, Shape.obT, Shape.arI, Arr.inF] | omega)) only [S2, Nat.reduceEqDiff, Nat.reduceAdd, iput, puts, hly'] | (refine den_call rfl (by first | (simp only [SS, Nat.reduceEqDiff, Nat.reduceAdd, iput, puts, FF, frzL_cat]; done) | (simp only [SS, Nat.reduceEqDiff, Nat.reduceAdd, iput, puts, FF, frzL_cat]; rfl)) (by first | exact s.alikeFz A.hom A.thn A.unit A.inv A.alike x y) ?_) | (refine den_calli rfl (by first | (simp only [SS, Nat.reduceEqDiff, Nat.reduceAdd, iput, puts, FF, frzL_cat]; done) | (simp only [SS, Nat.reduceEqDiff, Nat.reduceAdd, iput, puts, FF, frzL_cat]; rfl)) (by first | exact s.alikeFz A.hom A.thn A.unit A.inv A.alike x y) ?_))
      refine ⟨fun e => ?_, fun e => ?_⟩
      · try simp (disch := (first | rfl | with_reducible assumption | with_reducible solve_by_elim (maxDepth := 8) [Shape.inT, Shape.inI, Shape.inC, Shape.inK, Shape.obF, Shape.obT, Shape.arI, Arr.inF] | omega)) only [S2, Nat.reduceEqDiff, Nat.reduceAdd, iput, puts, p_msl2, p_msl1R]
        refine den_appC (m := 1) hJ rfl (by simp) rfl rfl (by omega) fun v3 H4 n4 hI2 => ?_
        try simp (disch := (first | rfl | with_reducible assumption | with_reducible solve_by_elim (maxDepth := 8) [Shape.inT, Shape.inI, Shape.inC, Shape.inK, Shape.obF, Shape.obT, Shape.arI, Arr.inF] | omega)) only [S2, Nat.reduceEqDiff, Nat.reduceAdd, iput, puts]
        refine ⟨(y + 1, v3), rfl, ⟨by simp only; omega, ?_⟩, by simp only; omega⟩
        simp only
        rw [alRow_succ, if_pos e, ← List.append_assoc, prM_append, rows_append, List.length_append]
        exact hI2
      · try simp (disch := (first | rfl | with_reducible assumption | with_reducible solve_by_elim (maxDepth := 8) [Shape.inT, Shape.inI, Shape.inC, Shape.inK, Shape.obF, Shape.obT, Shape.arI, Arr.inF] | omega)) only [S2, Nat.reduceEqDiff, Nat.reduceAdd, iput, puts]
        refine ⟨(y + 1, w), rfl, ⟨by simp only; omega, ?_⟩, by simp only; omega⟩
        simp only
        rw [alRow_succ, if_neg e, List.append_nil]
        exact hJ
    · have hly' : ¬ (y : Int) < x := by omega
      have : y = x := by omega
      subst this
      try simp (disch := (first | rfl | with_reducible assumption | with_reducible solve_by_elim (maxDepth := 8) [Shape.inT, Shape.inI, Shape.inC, Shape.inK, Shape.obF, Shape.obT, Shape.arI, Arr.inF] | omega)) only [S2, Nat.reduceEqDiff, Nat.reduceAdd, iput, puts, hly']
      refine ⟨(y + 1, w), rfl, ⟨by simp only; omega, ?_⟩, by simp only; omega⟩
      simp only
      rw [alP_succ]
      exact hJ
  · try simp (disch := (first | rfl | with_reducible assumption | with_reducible solve_by_elim (maxDepth := 8) [Shape.inT, Shape.inI, Shape.inC, Shape.inK, Shape.obF, Shape.obT, Shape.arI, Arr.inF] | omega)) only [S2, Nat.reduceEqDiff, Nat.reduceAdd, iput, puts, hlt]
    have : x = c.o.toNat := by omega
    subst this
    have hlt2 : ∀ p ∈ alP c c.o.toNat, p.1 < c.o.toNat ∧ p.2 < c.o.toNat := fun p hp => by
      obtain ⟨h1, h2, _⟩ := mem_alP.1 hp
      exact ⟨by omega, h1⟩
    refine den_callo (fc := (291, [])) (ys := [int c.o, .sl (rows (prM (alP c c.o.toNat))) (prM (alP c c.o.toNat)).length]) rfl (by simp only [SS, Nat.reduceEqDiff, Nat.reduceAdd, iput, puts, frzL, List.mapM_cons, List.mapM_nil, List.append_nil, hI.rows]; rfl) (l01Join_ok L.index L.classes L.join c.o.toNat (by omega) (alP c c.o.toNat) hlt2 (by omega) c.o (by omega) hempty n1) (IsI.some _ _ _) fun u H' nx' hu => ?_
    obtain ⟨q1, q2, _, _⟩ := hu.own H1
    obtain ⟨H4, s4, i4⟩ := hu.back (H1 := H1) hwf hI.1 fun j hj => hI.old hj
    exact ⟨q1, q2, _, rfl, H4, s4, i4⟩
/-- What the program's classes call. -/
structure HIso (P : Program) (ν : Nat → FuncId) : Prop where
  hom : Has P ν 33 3 V_Category_hom
  thn : Has P ν 34 3 V_Category_then
  inv : Has P ν 240 2 V_Category_inverse
  iso : Has P ν 335 1 V_Category_isoClasses
def V_IsomorphismClasses : Vc :=
  .op true (.p .box [.t 0]) <|
  .op true (.call (.f 24) [.t 1]) <|
  .op true (.p .bnot [.t 2]) <|
  .br 3
   (.ret [(.c (.nil), none), (.c (int 1), none)])
   (.op true (.callm (.f 335) [.t 1]) <|
   .ret [(.t 4, none), (.c (int 0), none)])
def V_spec_IsomorphismClasses : Vc :=
  .op true (.p .box [.t 0]) <|
  .op true (.p (.ld (some 5)) [.t 1]) <|
  .op true (.call (.f 22) [.t 2]) <|
  .op true (.p .bnot [.t 3]) <|
  .br 4
   (.ret [(.c (.nil), none), (.c (int 1), none)])
   (.op true (.p (.ld (some 5)) [.t 1]) <|
   .op true (.callm (.f 334) [.t 5]) <|
   .ret [(.t 6, none), (.c (int 0), none)])
theorem IsomorphismClasses_both (K : HCat P ν) (J : HJoin P ν) (I : HIso P ν) (h : Has P ν 193 1 V_IsomorphismClasses) (KS : HSpec P ν) (A : HAlike P ν) (L : HLab P ν) (hcl : Has P ν 334 1 V_spec_l11Classes) (hs : Has P ν 192 1 V_spec_IsomorphismClasses) (c : Cat) (b : Small c) :
    BothP P ν 193 192 [.agg c.cells] := by
  by_cases hc : IsCat c
  · have s := hc.1
    have o8 := s.o8
    refine ⟨nrm (cl c) c.o.toNat, 0, by rw [nrm_len]; omega, fun H nx => h _ _ _ _ rfl fun hwf => ?_, fun H nx => hs _ _ _ _ rfl fun hwf => ?_⟩
    · unfold V_IsomorphismClasses
      repeat (first | simp (disch := (first | rfl | with_reducible assumption | with_reducible solve_by_elim (maxDepth := 8) [Shape.inT, Shape.inI, Shape.inC, Shape.inK, Shape.obF, Shape.obT, Shape.arI, Arr.inF] | omega)) only [S2, Nat.reduceEqDiff, Nat.reduceAdd, iput, puts, hc] | (refine den_call rfl (by first | (simp only [SS, Nat.reduceEqDiff, Nat.reduceAdd, iput, puts, FF, frzL_cat]; done) | (simp only [SS, Nat.reduceEqDiff, Nat.reduceAdd, iput, puts, FF, frzL_cat]; rfl)) (by first | exact (isCategory_ok K c b).fzb) ?_) | (refine den_calli rfl (by first | (simp only [SS, Nat.reduceEqDiff, Nat.reduceAdd, iput, puts, FF, frzL_cat]; done) | (simp only [SS, Nat.reduceEqDiff, Nat.reduceAdd, iput, puts, FF, frzL_cat]; rfl)) (by first | exact (isCategory_ok K c b).fzb) ?_))
      refine den_callm (fc := (335, [])) rfl (isoClasses_ok J I.hom I.thn I.inv I.iso c s H nx) (IsI.some _ _ _) fun u H' nx' hu => ?_
      exact ⟨_, rfl, H', fun _ _ h => h, u, rfl, hu⟩
    · unfold V_spec_IsomorphismClasses
      repeat (first | simp (disch := (first | rfl | with_reducible assumption | with_reducible solve_by_elim (maxDepth := 8) [Shape.inT, Shape.inI, Shape.inC, Shape.inK, Shape.obF, Shape.obT, Shape.arI, Arr.inF] | omega)) only [S2, Nat.reduceEqDiff, Nat.reduceAdd, iput, puts, hc] | (refine den_call rfl (by first | (simp only [SS, Nat.reduceEqDiff, Nat.reduceAdd, iput, puts, FF, frzL_cat]; done) | (simp only [SS, Nat.reduceEqDiff, Nat.reduceAdd, iput, puts, FF, frzL_cat]; rfl)) (by first | exact (l02Is_ok KS c b).fzb) ?_) | (refine den_calli rfl (by first | (simp only [SS, Nat.reduceEqDiff, Nat.reduceAdd, iput, puts, FF, frzL_cat]; done) | (simp only [SS, Nat.reduceEqDiff, Nat.reduceAdd, iput, puts, FF, frzL_cat]; rfl)) (by first | exact (l02Is_ok KS c b).fzb) ?_))
      refine den_callm (fc := (334, [])) rfl (l11Classes_ok A L hcl c s H nx) (IsI.some _ _ _) fun u H' nx' hu => ?_
      exact ⟨_, rfl, H', fun _ _ h => h, u, rfl, hu⟩
  · refine ⟨[], 1, by simp, fun H nx => h _ _ _ _ rfl fun hwf => ?_, fun H nx => hs _ _ _ _ rfl fun hwf => ?_⟩
    · unfold V_IsomorphismClasses
      repeat (first | simp (disch := (first | rfl | with_reducible assumption | with_reducible solve_by_elim (maxDepth := 8) [Shape.inT, Shape.inI, Shape.inC, Shape.inK, Shape.obF, Shape.obT, Shape.arI, Arr.inF] | omega)) only [S2, Nat.reduceEqDiff, Nat.reduceAdd, iput, puts, hc] | (refine den_call rfl (by first | (simp only [SS, Nat.reduceEqDiff, Nat.reduceAdd, iput, puts, FF, frzL_cat]; done) | (simp only [SS, Nat.reduceEqDiff, Nat.reduceAdd, iput, puts, FF, frzL_cat]; rfl)) (by first | exact (isCategory_ok K c b).fzb) ?_) | (refine den_calli rfl (by first | (simp only [SS, Nat.reduceEqDiff, Nat.reduceAdd, iput, puts, FF, frzL_cat]; done) | (simp only [SS, Nat.reduceEqDiff, Nat.reduceAdd, iput, puts, FF, frzL_cat]; rfl)) (by first | exact (isCategory_ok K c b).fzb) ?_))
      exact ⟨_, rfl, H, fun _ _ h => h, .nil, rfl, IsI.nil _ _⟩
    · unfold V_spec_IsomorphismClasses
      repeat (first | simp (disch := (first | rfl | with_reducible assumption | with_reducible solve_by_elim (maxDepth := 8) [Shape.inT, Shape.inI, Shape.inC, Shape.inK, Shape.obF, Shape.obT, Shape.arI, Arr.inF] | omega)) only [S2, Nat.reduceEqDiff, Nat.reduceAdd, iput, puts, hc] | (refine den_call rfl (by first | (simp only [SS, Nat.reduceEqDiff, Nat.reduceAdd, iput, puts, FF, frzL_cat]; done) | (simp only [SS, Nat.reduceEqDiff, Nat.reduceAdd, iput, puts, FF, frzL_cat]; rfl)) (by first | exact (l02Is_ok KS c b).fzb) ?_) | (refine den_calli rfl (by first | (simp only [SS, Nat.reduceEqDiff, Nat.reduceAdd, iput, puts, FF, frzL_cat]; done) | (simp only [SS, Nat.reduceEqDiff, Nat.reduceAdd, iput, puts, FF, frzL_cat]; rfl)) (by first | exact (l02Is_ok KS c b).fzb) ?_))
      exact ⟨_, rfl, H, fun _ _ h => h, .nil, rfl, IsI.nil _ _⟩
def V_spec_l11Skeleton : Vc :=
  .op true (.p .box [.t 0]) <|
  .op true (.p (.ld (some 5)) [.t 1]) <|
  .op true (.call (.f 334) [.t 2]) <|
  .op true (.p (.msl 0 [] []) []) <|
  .loop 0 [.t 4, .c (int 0)] <|
  .op true (.p (.fad 0) [.t 1]) <|
  .op true (.p (.ld none) [.t 7]) <|
  .op true (.p (.bin .lss) [.t 6, .t 8]) <|
  .br 9
   (.op true (.p (.iad 1) [.t 3, .t 6]) <|
   .op true (.p (.ld none) [.t 10]) <|
   .op true (.call (.f 376) [.t 3, .t 11]) <|
   .op true (.p (.bin .eql) [.t 12, .t 6]) <|
   .br 13
    (.op true (.p (.msl 1 [int 0] [(0, 1)]) [.t 6]) <|
    .op true (.app 1 (.t 5) (.t 14)) <|
    .op true (.p (.bin .add) [.t 6, .c (int 1)]) <|
    .again 0 [.t 15, .t 16])
    (.op true (.p (.bin .add) [.t 6, .c (int 1)]) <|
    .again 0 [.t 5, .t 14]))
   (.ret [(.t 5, none)])
set_option maxHeartbeats 1000000 in
theorem l11Skeleton_ok (A : HAlike P ν) (L : HLab P ν) (hcl : Has P ν 334 1 V_spec_l11Classes) (h : Has P ν 345 1 V_spec_l11Skeleton) (c : Cat) (s : Shape c) (H : Hp) (nx : Nat) : OkM P ν 345 [.agg c.cells] H nx (IsI (fstL (cl c) c.o.toNat) H nx) := by
  refine h _ _ _ _ rfl fun hwf => ?_
  unfold V_spec_l11Skeleton
  have o0 := s.o0
  have o8 := s.o8
  have ln := nrm_len (f := cl c) (n := c.o.toNat)
  have clF : Fz (OkM P ν) 334 [.agg c.cells] (islice (nrm (cl c) c.o.toNat)) := OkM.fz (fun H nx => l11Classes_ok A L hcl c s H nx) fun _ _ _ hh => hh.frz _
  repeat (first | simp (disch := (first | rfl | with_reducible assumption | with_reducible solve_by_elim (maxDepth := 8) [Shape.inT, Shape.inI, Shape.inC, Shape.inK, Shape.obF, Shape.obT, Shape.arI, Arr.inF] | omega)) only [S2, Nat.reduceEqDiff, Nat.reduceAdd, iput, puts] | (refine den_call rfl (by first | (simp only [SS, Nat.reduceEqDiff, Nat.reduceAdd, iput, puts, FF, frzL_cat]; done) | (simp only [SS, Nat.reduceEqDiff, Nat.reduceAdd, iput, puts, FF, frzL_cat]; rfl)) (by first | exact clF) ?_) | (refine den_calli rfl (by first | (simp only [SS, Nat.reduceEqDiff, Nat.reduceAdd, iput, puts, FF, frzL_cat]; done) | (simp only [SS, Nat.reduceEqDiff, Nat.reduceAdd, iput, puts, FF, frzL_cat]; rfl)) (by first | exact clF) ?_))
  refine den_loop (α := Nat × AV) (fun a => [a.2, int a.1]) (fun a H' nx' => a.1 ≤ c.o.toNat ∧ IsI (fstL (cl c) a.1) H nx a.2 H' nx') (fun a => c.o.toNat - a.1) (0, .nil) rfl ⟨Nat.zero_le _, Nat.le_refl _, .inl ⟨rfl, rfl, rfl⟩⟩ ?_
  rintro ⟨i, v⟩ H1 n1 ⟨hi, hI⟩
  simp only at hi hI
  have fl := fsts_len (cl c) i
  have fll := fstL_len (f := cl c) (n := i)
  by_cases hlt : (i : Int) < c.o
  · have i1 : In (nrm (cl c) c.o.toNat) (i : Int) := In.nat (by rw [ln]; omega)
    have g1 : gI (nrm (cl c) c.o.toNat) (i : Int) = (numOf (cl c) i : Int) := by rw [gI_nat]; exact nrm_at (by omega)
    have ix := idx_nrm (f := cl c) (n := c.o.toNat) (x := i) (by omega)
    repeat (first | simp (disch := (first | rfl | with_reducible assumption | with_reducible solve_by_elim (maxDepth := 8) [Shape.inT, Shape.inI, Shape.inC, Shape.inK, Shape.obF, Shape.obT, Shape.arI, Arr.inF] | omega)) only [S2, Nat.reduceEqDiff, Nat.reduceAdd, iput, puts, hlt, g1, ix] | (refine den_call rfl (by first | (simp only [SS, Nat.reduceEqDiff, Nat.reduceAdd, iput, puts, FF, frzL_cat]; done) | (simp only [SS, Nat.reduceEqDiff, Nat.reduceAdd, iput, puts, FF, frzL_cat]; rfl)) (by first | exact l01Index_fz L.index (nrm (cl c) c.o.toNat) (numOf (cl c) i) (by omega)) ?_) | (refine den_calli rfl (by first | (simp only [SS, Nat.reduceEqDiff, Nat.reduceAdd, iput, puts, FF, frzL_cat]; done) | (simp only [SS, Nat.reduceEqDiff, Nat.reduceAdd, iput, puts, FF, frzL_cat]; rfl)) (by first | exact l01Index_fz L.index (nrm (cl c) c.o.toNat) (numOf (cl c) i) (by omega)) ?_))
    refine ⟨fun e => ?_, fun e => ?_⟩
    · have hf : isFst (cl c) i = true := isFst_lead.2 (by omega)
      refine den_appI (m := [(i : Int)]) (H0 := H) (nx0 := nx) hI rfl (by simp) (by simp only [List.length_cons, List.length_nil]; omega) fun v2 H3 n3 hI2 => ?_
      try simp (disch := (first | rfl | with_reducible assumption | with_reducible solve_by_elim (maxDepth := 8) [Shape.inT, Shape.inI, Shape.inC, Shape.inK, Shape.obF, Shape.obT, Shape.arI, Arr.inF] | omega)) only [S2, Nat.reduceEqDiff, Nat.reduceAdd, iput, puts]
      refine ⟨(i + 1, v2), rfl, ⟨by simp only; omega, ?_⟩, by simp only; omega⟩
      simp only
      rw [fstL_succ, if_pos hf]
      exact hI2
    · have hf : ¬ isFst (cl c) i = true := fun q => e (by have := isFst_lead.1 q; omega)
      try simp (disch := (first | rfl | with_reducible assumption | with_reducible solve_by_elim (maxDepth := 8) [Shape.inT, Shape.inI, Shape.inC, Shape.inK, Shape.obF, Shape.obT, Shape.arI, Arr.inF] | omega)) only [S2, Nat.reduceEqDiff, Nat.reduceAdd, iput, puts]
      refine ⟨(i + 1, v), rfl, ⟨by simp only; omega, ?_⟩, by simp only; omega⟩
      simp only
      rw [fstL_succ, if_neg hf, List.append_nil]
      exact hI
  · try simp (disch := (first | rfl | with_reducible assumption | with_reducible solve_by_elim (maxDepth := 8) [Shape.inT, Shape.inI, Shape.inC, Shape.inK, Shape.obF, Shape.obT, Shape.arI, Arr.inF] | omega)) only [S2, Nat.reduceEqDiff, Nat.reduceAdd, iput, puts, hlt]
    have : i = c.o.toNat := by omega
    subst this
    exact ⟨_, rfl, _, fun _ _ h => h, hI⟩
def V_SkeletonObjects : Vc :=
  .op true (.p .box [.t 0]) <|
  .op true (.call (.f 24) [.t 1]) <|
  .op true (.p .bnot [.t 2]) <|
  .br 3
   (.ret [(.c (.nil), none), (.c (int 1), none)])
   (.op true (.call (.f 335) [.t 1]) <|
   .op true (.callo (.f 346) [.t 4]) <|
   .ret [(.t 5, none), (.c (int 0), none)])
def V_spec_SkeletonObjects : Vc :=
  .op true (.p .box [.t 0]) <|
  .op true (.p (.ld (some 5)) [.t 1]) <|
  .op true (.call (.f 22) [.t 2]) <|
  .op true (.p .bnot [.t 3]) <|
  .br 4
   (.ret [(.c (.nil), none), (.c (int 1), none)])
   (.op true (.p (.ld (some 5)) [.t 1]) <|
   .op true (.callm (.f 345) [.t 5]) <|
   .ret [(.t 6, none), (.c (int 0), none)])
theorem SkeletonObjects_both (K : HCat P ν) (J : HJoin P ν) (I : HIso P ν) (hle : Has P ν 346 1 V_partition_leaders) (h : Has P ν 209 1 V_SkeletonObjects) (KS : HSpec P ν) (A : HAlike P ν) (L : HLab P ν) (hcl : Has P ν 334 1 V_spec_l11Classes) (hsk : Has P ν 345 1 V_spec_l11Skeleton) (hs : Has P ν 208 1 V_spec_SkeletonObjects) (c : Cat) (b : Small c) :
    BothP P ν 209 208 [.agg c.cells] := by
  by_cases hc : IsCat c
  · have s := hc.1
    have o8 := s.o8
    have fl := fsts_len (cl c) c.o.toNat
    refine ⟨fstL (cl c) c.o.toNat, 0, by rw [fstL_len]; omega, fun H nx => h _ _ _ _ rfl fun hwf => ?_, fun H nx => hs _ _ _ _ rfl fun hwf => ?_⟩
    · unfold V_SkeletonObjects
      have iF : Fz (OkM P ν) 335 [.ptr c.cells 0] (islice (nrm (cl c) c.o.toNat)) := OkM.fz (fun H nx => isoClasses_ok J I.hom I.thn I.inv I.iso c s H nx) fun _ _ _ hh => hh.frz _
      repeat (first | simp (disch := (first | rfl | with_reducible assumption | with_reducible solve_by_elim (maxDepth := 8) [Shape.inT, Shape.inI, Shape.inC, Shape.inK, Shape.obF, Shape.obT, Shape.arI, Arr.inF] | omega)) only [S2, Nat.reduceEqDiff, Nat.reduceAdd, iput, puts, hc] | (refine den_call rfl (by first | (simp only [SS, Nat.reduceEqDiff, Nat.reduceAdd, iput, puts, FF, frzL_cat]; done) | (simp only [SS, Nat.reduceEqDiff, Nat.reduceAdd, iput, puts, FF, frzL_cat]; rfl)) (by first | exact (isCategory_ok K c b).fzb | exact iF) ?_) | (refine den_calli rfl (by first | (simp only [SS, Nat.reduceEqDiff, Nat.reduceAdd, iput, puts, FF, frzL_cat]; done) | (simp only [SS, Nat.reduceEqDiff, Nat.reduceAdd, iput, puts, FF, frzL_cat]; rfl)) (by first | exact (isCategory_ok K c b).fzb | exact iF) ?_))
      refine den_callo (fc := (346, [])) (ys := [islice (nrm (cl c) c.o.toNat)]) rfl (by simp only [SS, Nat.reduceEqDiff, Nat.reduceAdd, iput, puts, FF, frzL_cat]) (leaders_ok hle (cl c) c.o.toNat (by omega) hempty nx) (IsI.some _ _ _) fun u H' nx' hu => ?_
      obtain ⟨q1, q2, _, _⟩ := hu.own H
      obtain ⟨H4, s4, i4⟩ := hu.back (H1 := H) hwf (Nat.le_refl _) fun j hj => rfl
      exact ⟨q1, q2, _, rfl, H4, s4, u, rfl, i4⟩
    · unfold V_spec_SkeletonObjects
      repeat (first | simp (disch := (first | rfl | with_reducible assumption | with_reducible solve_by_elim (maxDepth := 8) [Shape.inT, Shape.inI, Shape.inC, Shape.inK, Shape.obF, Shape.obT, Shape.arI, Arr.inF] | omega)) only [S2, Nat.reduceEqDiff, Nat.reduceAdd, iput, puts, hc] | (refine den_call rfl (by first | (simp only [SS, Nat.reduceEqDiff, Nat.reduceAdd, iput, puts, FF, frzL_cat]; done) | (simp only [SS, Nat.reduceEqDiff, Nat.reduceAdd, iput, puts, FF, frzL_cat]; rfl)) (by first | exact (l02Is_ok KS c b).fzb) ?_) | (refine den_calli rfl (by first | (simp only [SS, Nat.reduceEqDiff, Nat.reduceAdd, iput, puts, FF, frzL_cat]; done) | (simp only [SS, Nat.reduceEqDiff, Nat.reduceAdd, iput, puts, FF, frzL_cat]; rfl)) (by first | exact (l02Is_ok KS c b).fzb) ?_))
      refine den_callm (fc := (345, [])) rfl (l11Skeleton_ok A L hcl hsk c s H nx) (IsI.some _ _ _) fun u H' nx' hu => ?_
      exact ⟨_, rfl, H', fun _ _ h => h, u, rfl, hu⟩
  · refine ⟨[], 1, by simp, fun H nx => h _ _ _ _ rfl fun hwf => ?_, fun H nx => hs _ _ _ _ rfl fun hwf => ?_⟩
    · unfold V_SkeletonObjects
      repeat (first | simp (disch := (first | rfl | with_reducible assumption | with_reducible solve_by_elim (maxDepth := 8) [Shape.inT, Shape.inI, Shape.inC, Shape.inK, Shape.obF, Shape.obT, Shape.arI, Arr.inF] | omega)) only [S2, Nat.reduceEqDiff, Nat.reduceAdd, iput, puts, hc] | (refine den_call rfl (by first | (simp only [SS, Nat.reduceEqDiff, Nat.reduceAdd, iput, puts, FF, frzL_cat]; done) | (simp only [SS, Nat.reduceEqDiff, Nat.reduceAdd, iput, puts, FF, frzL_cat]; rfl)) (by first | exact (isCategory_ok K c b).fzb) ?_) | (refine den_calli rfl (by first | (simp only [SS, Nat.reduceEqDiff, Nat.reduceAdd, iput, puts, FF, frzL_cat]; done) | (simp only [SS, Nat.reduceEqDiff, Nat.reduceAdd, iput, puts, FF, frzL_cat]; rfl)) (by first | exact (isCategory_ok K c b).fzb) ?_))
      exact ⟨_, rfl, H, fun _ _ h => h, .nil, rfl, IsI.nil _ _⟩
    · unfold V_spec_SkeletonObjects
      repeat (first | simp (disch := (first | rfl | with_reducible assumption | with_reducible solve_by_elim (maxDepth := 8) [Shape.inT, Shape.inI, Shape.inC, Shape.inK, Shape.obF, Shape.obT, Shape.arI, Arr.inF] | omega)) only [S2, Nat.reduceEqDiff, Nat.reduceAdd, iput, puts, hc] | (refine den_call rfl (by first | (simp only [SS, Nat.reduceEqDiff, Nat.reduceAdd, iput, puts, FF, frzL_cat]; done) | (simp only [SS, Nat.reduceEqDiff, Nat.reduceAdd, iput, puts, FF, frzL_cat]; rfl)) (by first | exact (l02Is_ok KS c b).fzb) ?_) | (refine den_calli rfl (by first | (simp only [SS, Nat.reduceEqDiff, Nat.reduceAdd, iput, puts, FF, frzL_cat]; done) | (simp only [SS, Nat.reduceEqDiff, Nat.reduceAdd, iput, puts, FF, frzL_cat]; rfl)) (by first | exact (l02Is_ok KS c b).fzb) ?_))
      exact ⟨_, rfl, H, fun _ _ h => h, .nil, rfl, IsI.nil _ _⟩
end Go.Av
