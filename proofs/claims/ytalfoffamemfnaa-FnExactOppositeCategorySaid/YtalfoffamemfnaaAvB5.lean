/-
  Splittings of idempotents: the program's and the reference's.
-/
import Derived.Test.YtalfoffamemfnaaAvB4
namespace Go.Av
open Classical
set_option linter.unusedSimpArgs false
set_option linter.unusedVariables false
variable {P : Program} {ν : Nat → FuncId}

def sp3 (c : Cat) (e : Int) (y i j : Nat) : Option (Int × Int × Int) :=
  if c.K ((homL c (c.F e) y).getD i 0) ((homL c y (c.F e)).getD j 0) = e ∧ c.K ((homL c y (c.F e)).getD j 0) ((homL c (c.F e) y).getD i 0) = c.I y then some ((y : Int), (homL c (c.F e) y).getD i 0, (homL c y (c.F e)).getD j 0) else none
def sp2 (c : Cat) (e : Int) (y i : Nat) : Option (Int × Int × Int) := (List.range (homL c y (c.F e)).length).findSome? (sp3 c e y i)
def sp1 (c : Cat) (e : Int) (y : Nat) : Option (Int × Int × Int) := (List.range (homL c (c.F e) y).length).findSome? (sp2 c e y)
/-- The least splitting of an arrow. -/
def splitO (c : Cat) (e : Int) : Option (Int × Int × Int) := (List.range c.o.toNat).findSome? (sp1 c e)
def splitAV : Option (Int × Int × Int) → AV
  | some (y, r, t) => .tup [int y, int r, int t, bool true]
  | none => .tup [int 0, int 0, int 0, bool false]
theorem splitAV_frz (o : Option (Int × Int × Int)) (H : Hp) : frzN H fuel (splitAV o) = some (splitAV o) := by cases o <;> rfl
theorem nextN {β : Type} {p : Nat → Option β} {i : Nat} (hp : ∀ j, j < i → p j = none) (h : p i = none) : ∀ j, j < i + 1 → p j = none := fun j hj => by
  by_cases e : j = i
  · subst e; exact h
  · exact hp j (by omega)

def V_Category_splitting : Vc :=
  .op true (.p .nck [.t 0]) <|
  .op true (.p (.fad 1) [.t 2]) <|
  .op true (.p (.ld none) [.t 3]) <|
  .op true (.p (.iad 1) [.t 4, .t 1]) <|
  .op true (.p (.ld none) [.t 5]) <|
  .loop 0 [.c (int 0)] <|
  .op true (.p .nck [.t 0]) <|
  .op true (.p (.fad 0) [.t 8]) <|
  .op true (.p (.ld none) [.t 9]) <|
  .op true (.p (.bin .lss) [.t 7, .t 10]) <|
  .br 11
   (.op true (.call (.f 33) [.t 0, .t 6, .t 7]) <|
   .op true (.p .len [.t 12]) <|
   .loop 1 [.c (int 0)] <|
   .op true (.p (.bin .lss) [.t 14, .t 13]) <|
   .br 15
    (.op true (.p (.iad 1) [.t 12, .t 14]) <|
    .op true (.p (.ld none) [.t 16]) <|
    .op true (.call (.f 33) [.t 0, .t 7, .t 6]) <|
    .op true (.p .len [.t 18]) <|
    .loop 2 [.c (int 0)] <|
    .op true (.p (.bin .lss) [.t 20, .t 19]) <|
    .br 21
     (.op true (.p (.iad 1) [.t 18, .t 20]) <|
     .op true (.p (.ld none) [.t 22]) <|
     .op true (.call (.f 34) [.t 0, .t 17, .t 23]) <|
     .op true (.p (.bin .eql) [.t 24, .t 1]) <|
     .br 25
      (.op true (.call (.f 34) [.t 0, .t 23, .t 17]) <|
      .op true (.p .nck [.t 0]) <|
      .op true (.p (.fad 3) [.t 27]) <|
      .op true (.p (.ld none) [.t 28]) <|
      .op true (.p (.iad 1) [.t 29, .t 7]) <|
      .op true (.p (.ld none) [.t 30]) <|
      .op true (.p (.bin .eql) [.t 26, .t 31]) <|
      .br 32
       (.ret [(.t 7, none), (.t 17, none), (.t 23, none), (.c (bool true), none)])
       (.op true (.p (.bin .add) [.t 20, .c (int 1)]) <|
       .again 2 [.t 33]))
      (.op true (.p (.bin .add) [.t 20, .c (int 1)]) <|
      .again 2 [.t 26]))
     (.op true (.p (.bin .add) [.t 14, .c (int 1)]) <|
     .again 1 [.t 22]))
    (.op true (.p (.bin .add) [.t 7, .c (int 1)]) <|
    .again 0 [.t 16]))
   (.ret [(.c (int 0), none), (.c (int 0), none), (.c (int 0), none), (.c (bool false), none)])
set_option maxHeartbeats 1000000 in
theorem splitting_ok (hh : Has P ν 33 3 V_Category_hom) (ht : Has P ν 34 3 V_Category_then) (h : Has P ν 265 2 V_Category_splitting) (c : Cat) (s : Shape c) (e : Int) (e0 : 0 ≤ e) (e1 : e < c.f.length) : Fn P ν 265 [.ptr c.cells 0, int e] (splitAV (splitO c e)) := by
  intro H nx
  refine h _ _ _ _ rfl fun hwf => ?_
  unfold V_Category_splitting
  have n40 := s.n40
  have tl := s.tl
  have il := s.il
  have o0 := s.o0
  have o8 := s.o8
  have e2 : e.toNat < c.f.length := by omega
  simp only [SS, Nat.reduceEqDiff, Nat.reduceAdd, iput, puts, cat1, e0, e1, e2]
  refine den_for c.o.toNat (fun y => ∀ y', y' < y → sp1 c e y' = none) (fun k hk => by omega) fun y hy py => ?_
  by_cases hlt : y < c.o.toNat
  · have hlt' : (y : Int) < c.o := by omega
    have yi : y < c.i.length := by omega
    simp only [SS, Nat.reduceEqDiff, Nat.reduceAdd, iput, puts, cat0, hlt']
    refine den_call (fc := (33, [])) rfl (by first | (simp only [SS, Nat.reduceEqDiff, Nat.reduceAdd, iput, puts, FF, frzL_cat]; done) | (simp only [SS, Nat.reduceEqDiff, Nat.reduceAdd, iput, puts, FF, frzL_cat]; rfl)) (hom_fz hh c (c.F e) y (by omega) (by omega)) ?_
    simp only [SS, Nat.reduceEqDiff, Nat.reduceAdd, iput, puts]
    have l1 := homL_len s (c.F e) y
    have l2 := homL_len s y (c.F e)
    refine den_for (homL c (c.F e) y).length (fun i => ∀ i', i' < i → sp2 c e y i' = none) (fun k hk => by omega) fun i hi pi => ?_
    by_cases hli : i < (homL c (c.F e) y).length
    · obtain ⟨r0, r1, _⟩ := homL_at hli
      simp only [SS, Nat.reduceEqDiff, Nat.reduceAdd, iput, puts, hli]
      refine den_call (fc := (33, [])) rfl (by first | (simp only [SS, Nat.reduceEqDiff, Nat.reduceAdd, iput, puts, FF, frzL_cat]; done) | (simp only [SS, Nat.reduceEqDiff, Nat.reduceAdd, iput, puts, FF, frzL_cat]; rfl)) (hom_fz hh c y (c.F e) (by omega) (by omega)) ?_
      simp only [SS, Nat.reduceEqDiff, Nat.reduceAdd, iput, puts]
      refine den_for (homL c y (c.F e)).length (fun j => ∀ j', j' < j → sp3 c e y i j' = none) (fun k hk => by omega) fun j hj pj => ?_
      by_cases hlj : j < (homL c y (c.F e)).length
      · obtain ⟨t0, t1, _⟩ := homL_at hlj
        simp only [SS, Nat.reduceEqDiff, Nat.reduceAdd, iput, puts, hlj]
        refine den_call (fc := (34, [])) rfl (by first | (simp only [SS, Nat.reduceEqDiff, Nat.reduceAdd, iput, puts, FF, frzL_cat]; done) | (simp only [SS, Nat.reduceEqDiff, Nat.reduceAdd, iput, puts, FF, frzL_cat]; rfl)) (s.then_fz ht _ _ r0 r1 t0 t1) ?_
        simp only [SS, Nat.reduceEqDiff, Nat.reduceAdd, iput, puts, wrap_succ (show j < 9223372036854775807 by omega)]
        refine ⟨fun h1 => ?_, fun h1 => up rfl hlj (nextN pj (by rw [sp3, if_neg fun hb => h1 hb.1]))⟩
        refine den_call (fc := (34, [])) rfl (by first | (simp only [SS, Nat.reduceEqDiff, Nat.reduceAdd, iput, puts, FF, frzL_cat]; done) | (simp only [SS, Nat.reduceEqDiff, Nat.reduceAdd, iput, puts, FF, frzL_cat]; rfl)) (s.then_fz ht _ _ t0 t1 r0 r1) ?_
        simp only [SS, Nat.reduceEqDiff, Nat.reduceAdd, iput, puts, cat3, yi, wrap_succ (show j < 9223372036854775807 by omega)]
        refine ⟨fun h2 => ?_, fun h2 => up rfl hlj (nextN pj (by rw [sp3, if_neg fun hb => h2 hb.2]))⟩
        refine ⟨_, rfl, H, fun _ _ h => h, ?_, rfl, Nat.le_refl _⟩
        rw [splitO, findSome_at hlt (findSome_at hli (findSome_at hlj (by rw [sp3, if_pos ⟨h1, h2⟩]) pj) pi) py]
        rfl
      · simp only [SS, Nat.reduceEqDiff, Nat.reduceAdd, iput, puts, hlj, wrap_succ (show i < 9223372036854775807 by omega)]
        exact up rfl hli (nextN pi (findSome_none fun j' hj' => pj j' (by omega)))
    · simp only [SS, Nat.reduceEqDiff, Nat.reduceAdd, iput, puts, hli, wrap_succ (show y < 9223372036854775807 by omega)]
      exact up rfl hlt (nextN py (findSome_none fun j' hj' => pi j' (by omega)))
  · have hlt' : ¬ (y : Int) < c.o := by omega
    simp only [SS, Nat.reduceEqDiff, Nat.reduceAdd, iput, puts, cat0, hlt']
    refine ⟨_, rfl, H, fun _ _ h => h, ?_, rfl, Nat.le_refl _⟩
    rw [splitO, findSome_none fun j' hj' => py j' (by omega)]
    rfl

def V_spec_l02Unit : Vc :=
  .op true (.p .box [.t 0]) <|
  .op true (.p (.fad 3) [.t 2]) <|
  .op true (.p (.ld none) [.t 3]) <|
  .op true (.p (.fad 1) [.t 2]) <|
  .op true (.p (.ld none) [.t 5]) <|
  .op true (.p (.iad 1) [.t 6, .t 1]) <|
  .op true (.p (.ld none) [.t 7]) <|
  .op true (.p (.iad 1) [.t 4, .t 8]) <|
  .op true (.p (.ld none) [.t 9]) <|
  .op true (.p (.bin .eql) [.t 10, .t 1]) <|
  .ret [(.t 11, none)]
theorem Shape.unit_fz (h : Has P ν 380 2 V_spec_l02Unit) {c : Cat} (s : Shape c) (f : Int) (f0 : 0 ≤ f) (f1 : f < c.f.length) : Fz (OkM P ν) 380 [.agg c.cells, int f] (bool (c.I (c.F f) == f)) := by
  refine Fn.fzb fun H nx => h _ _ _ _ rfl fun hwf => ?_
  unfold V_spec_l02Unit
  have f2 : f.toNat < c.f.length := by omega
  obtain ⟨a1, a2⟩ := s.fLt f2
  simp only [Cat.F, Int.toNat_natCast] at a1 a2
  have a3 : (c.f.getD f.toNat 0).toNat < c.i.length := by omega
  simp only [SS, Nat.reduceEqDiff, Nat.reduceAdd, iput, puts, p_boxc, cat1, cat3, f0, f1, f2, a1, a2, a3]
  exact ⟨_, rfl, H, fun _ _ h => h, rfl, rfl, Nat.le_refl _⟩

def V_spec_l11Splitting : Vc :=
  .op true (.p .box [.t 0]) <|
  .loop 0 [.c (int 0)] <|
  .op true (.p (.fad 0) [.t 2]) <|
  .op true (.p (.ld none) [.t 4]) <|
  .op true (.p (.bin .lss) [.t 3, .t 5]) <|
  .br 6
   (.op true (.p (.ld (some 5)) [.t 2]) <|
   .op true (.p (.fad 1) [.t 2]) <|
   .op true (.p (.ld none) [.t 8]) <|
   .op true (.p (.iad 1) [.t 9, .t 1]) <|
   .op true (.p (.ld none) [.t 10]) <|
   .op true (.call (.f 309) [.t 7, .t 11, .t 3]) <|
   .op true (.p (.ld (some 5)) [.t 2]) <|
   .op true (.p (.fad 1) [.t 2]) <|
   .op true (.p (.ld none) [.t 14]) <|
   .op true (.p (.iad 1) [.t 15, .t 1]) <|
   .op true (.p (.ld none) [.t 16]) <|
   .op true (.call (.f 309) [.t 13, .t 3, .t 17]) <|
   .loop 1 [.c (int 0)] <|
   .op true (.p .len [.t 12]) <|
   .op true (.p (.bin .lss) [.t 19, .t 20]) <|
   .br 21
    (.loop 2 [.c (int 0)] <|
    .op true (.p .len [.t 18]) <|
    .op true (.p (.bin .lss) [.t 22, .t 23]) <|
    .br 24
     (.op true (.p (.ld (some 5)) [.t 2]) <|
     .op true (.p (.iad 1) [.t 12, .t 19]) <|
     .op true (.p (.ld none) [.t 26]) <|
     .op true (.p (.iad 1) [.t 18, .t 22]) <|
     .op true (.p (.ld none) [.t 28]) <|
     .op true (.call (.f 253) [.t 25, .t 27, .t 29]) <|
     .op true (.p (.bin .eql) [.t 30, .t 1]) <|
     .br 31
      (.op true (.p (.ld (some 5)) [.t 2]) <|
      .op true (.p (.ld (some 5)) [.t 2]) <|
      .op true (.p (.iad 1) [.t 18, .t 22]) <|
      .op true (.p (.ld none) [.t 34]) <|
      .op true (.p (.iad 1) [.t 12, .t 19]) <|
      .op true (.p (.ld none) [.t 36]) <|
      .op true (.call (.f 253) [.t 33, .t 35, .t 37]) <|
      .op true (.call (.f 380) [.t 32, .t 38]) <|
      .br 39
       (.op true (.p (.iad 1) [.t 12, .t 19]) <|
       .op true (.p (.ld none) [.t 40]) <|
       .op true (.p (.iad 1) [.t 18, .t 22]) <|
       .op true (.p (.ld none) [.t 42]) <|
       .ret [(.t 3, none), (.t 41, none), (.t 43, none), (.c (bool true), none)])
       (.op true (.p (.bin .add) [.t 22, .c (int 1)]) <|
       .again 2 [.t 40]))
      (.op true (.p (.bin .add) [.t 22, .c (int 1)]) <|
      .again 2 [.t 32]))
     (.op true (.p (.bin .add) [.t 19, .c (int 1)]) <|
     .again 1 [.t 25]))
    (.op true (.p (.bin .add) [.t 3, .c (int 1)]) <|
    .again 0 [.t 22]))
   (.ret [(.c (int 0), none), (.c (int 0), none), (.c (int 0), none), (.c (bool false), none)])
set_option maxHeartbeats 1000000 in
theorem l11Splitting_ok (hh : Has P ν 309 3 V_spec_l02Hom) (ht : Has P ν 253 3 V_spec_l02Then) (hu : Has P ν 380 2 V_spec_l02Unit) (h : Has P ν 264 2 V_spec_l11Splitting) (c : Cat) (s : Shape c) (e : Int) (e0 : 0 ≤ e) (e1 : e < c.f.length) : Fn P ν 264 [.agg c.cells, int e] (splitAV (splitO c e)) := by
  intro H nx
  refine h _ _ _ _ rfl fun hwf => ?_
  unfold V_spec_l11Splitting
  have n40 := s.n40
  have tl := s.tl
  have il := s.il
  have o0 := s.o0
  have o8 := s.o8
  have e2 : e.toNat < c.f.length := by omega
  simp only [SS, Nat.reduceEqDiff, Nat.reduceAdd, iput, puts, p_boxc]
  refine den_for c.o.toNat (fun y => ∀ y', y' < y → sp1 c e y' = none) (fun k hk => by omega) fun y hy py => ?_
  by_cases hlt : y < c.o.toNat
  · have hlt' : (y : Int) < c.o := by omega
    have yi : y < c.i.length := by omega
    simp only [SS, Nat.reduceEqDiff, Nat.reduceAdd, iput, puts, p_ldc, cat0, cat1, e0, e1, e2, hlt']
    refine den_call (fc := (309, [])) rfl (by first | (simp only [SS, Nat.reduceEqDiff, Nat.reduceAdd, iput, puts, FF, frzL_cat]; done) | (simp only [SS, Nat.reduceEqDiff, Nat.reduceAdd, iput, puts, FF, frzL_cat]; rfl)) (l02Hom_fz hh c (c.F e) y (by omega) (by omega)) ?_
    simp only [SS, Nat.reduceEqDiff, Nat.reduceAdd, iput, puts, p_ldc, cat1, e0, e1, e2]
    refine den_call (fc := (309, [])) rfl (by first | (simp only [SS, Nat.reduceEqDiff, Nat.reduceAdd, iput, puts, FF, frzL_cat]; done) | (simp only [SS, Nat.reduceEqDiff, Nat.reduceAdd, iput, puts, FF, frzL_cat]; rfl)) (l02Hom_fz hh c y (c.F e) (by omega) (by omega)) ?_
    have l1 := homL_len s (c.F e) y
    have l2 := homL_len s y (c.F e)
    refine den_for (homL c (c.F e) y).length (fun i => ∀ i', i' < i → sp2 c e y i' = none) (fun k hk => by omega) fun i hi pi => ?_
    by_cases hli : i < (homL c (c.F e) y).length
    · obtain ⟨r0, r1, r3, r4⟩ := homL_at hli
      simp only [SS, Nat.reduceEqDiff, Nat.reduceAdd, iput, puts, hli]
      refine den_for (homL c y (c.F e)).length (fun j => ∀ j', j' < j → sp3 c e y i j' = none) (fun k hk => by omega) fun j hj pj => ?_
      by_cases hlj : j < (homL c y (c.F e)).length
      · obtain ⟨t0, t1, t3, t4⟩ := homL_at hlj
        simp only [SS, Nat.reduceEqDiff, Nat.reduceAdd, iput, puts, p_ldc, hli, hlj]
        refine den_call (fc := (253, [])) rfl (by first | (simp only [SS, Nat.reduceEqDiff, Nat.reduceAdd, iput, puts, FF, frzL_cat]; done) | (simp only [SS, Nat.reduceEqDiff, Nat.reduceAdd, iput, puts, FF, frzL_cat]; rfl)) (s.l02Then_fz ht _ _ r0 r1 t0 t1) ?_
        simp only [SS, Nat.reduceEqDiff, Nat.reduceAdd, iput, puts, p_ldc, hli, hlj, wrap_succ (show j < 9223372036854775807 by omega)]
        refine ⟨fun h1 => ?_, fun h1 => up rfl hlj (nextN pj (by rw [sp3, if_neg fun hb => h1 hb.1]))⟩
        refine den_call (fc := (253, [])) rfl (by first | (simp only [SS, Nat.reduceEqDiff, Nat.reduceAdd, iput, puts, FF, frzL_cat]; done) | (simp only [SS, Nat.reduceEqDiff, Nat.reduceAdd, iput, puts, FF, frzL_cat]; rfl)) (s.l02Then_fz ht _ _ t0 t1 r0 r1) ?_
        simp only [SS, Nat.reduceEqDiff, Nat.reduceAdd, iput, puts, p_ldc]
        have kp := s.kPos (a := ((homL c y (c.F e)).getD j 0).toNat) (b := ((homL c (c.F e) y).getD i 0).toNat) (by omega) (by omega)
        rw [Int.toNat_of_nonneg t0, Int.toNat_of_nonneg r0] at kp
        obtain ⟨k0, k1, k2, _⟩ := kp (by rw [t4, r3])
        refine den_call (fc := (380, [])) rfl (by first | (simp only [SS, Nat.reduceEqDiff, Nat.reduceAdd, iput, puts, FF, frzL_cat]; done) | (simp only [SS, Nat.reduceEqDiff, Nat.reduceAdd, iput, puts, FF, frzL_cat]; rfl)) (s.unit_fz hu _ k0 k1) ?_
        simp only [SS, Nat.reduceEqDiff, Nat.reduceAdd, iput, puts, hli, hlj, wrap_succ (show j < 9223372036854775807 by omega)]
        rw [k2, t3]
        refine ⟨fun h2 => ?_, fun h2 => up rfl hlj (nextN pj (by rw [sp3, if_neg fun hb => h2 hb.2.symm]))⟩
        refine ⟨_, rfl, H, fun _ _ h => h, ?_, rfl, Nat.le_refl _⟩
        rw [splitO, findSome_at hlt (findSome_at hli (findSome_at hlj (by rw [sp3, if_pos ⟨h1, h2.symm⟩]) pj) pi) py]
        rfl
      · simp only [SS, Nat.reduceEqDiff, Nat.reduceAdd, iput, puts, hlj, wrap_succ (show i < 9223372036854775807 by omega)]
        exact up rfl hli (nextN pi (findSome_none fun j' hj' => pj j' (by omega)))
    · simp only [SS, Nat.reduceEqDiff, Nat.reduceAdd, iput, puts, hli, wrap_succ (show y < 9223372036854775807 by omega)]
      exact up rfl hlt (nextN py (findSome_none fun j' hj' => pi j' (by omega)))
  · have hlt' : ¬ (y : Int) < c.o := by omega
    simp only [SS, Nat.reduceEqDiff, Nat.reduceAdd, iput, puts, cat0, hlt']
    refine ⟨_, rfl, H, fun _ _ h => h, ?_, rfl, Nat.le_refl _⟩
    rw [splitO, findSome_none fun j' hj' => py j' (by omega)]
    rfl

def idemL (c : Cat) : List Int := selL c.f.length fun e => c.F e == c.T e && c.K e e == e
def V_spec_l11Idempotents : Vc :=
  .op true (.p .box [.t 0]) <|
  .op true (.p (.msl 0 [] []) []) <|
  .loop 0 [.t 2, .c (int 0)] <|
  .op true (.p (.fad 1) [.t 1]) <|
  .op true (.p (.ld none) [.t 5]) <|
  .op true (.p .len [.t 6]) <|
  .op true (.p (.bin .lss) [.t 4, .t 7]) <|
  .br 8
   (.op true (.p (.fad 1) [.t 1]) <|
   .op true (.p (.ld none) [.t 9]) <|
   .op true (.p (.iad 1) [.t 10, .t 4]) <|
   .op true (.p (.ld none) [.t 11]) <|
   .op true (.p (.fad 2) [.t 1]) <|
   .op true (.p (.ld none) [.t 13]) <|
   .op true (.p (.iad 1) [.t 14, .t 4]) <|
   .op true (.p (.ld none) [.t 15]) <|
   .op true (.p (.bin .eql) [.t 12, .t 16]) <|
   .br 17
    (.op true (.p (.ld (some 5)) [.t 1]) <|
    .op true (.call (.f 253) [.t 18, .t 4, .t 4]) <|
    .op true (.p (.bin .eql) [.t 19, .t 4]) <|
    .br 20
     (.op true (.p (.msl 1 [int 0] [(0, 1)]) [.t 4]) <|
     .op true (.app 1 (.t 3) (.t 21)) <|
     .op true (.p (.bin .add) [.t 4, .c (int 1)]) <|
     .again 0 [.t 22, .t 23])
     (.op true (.p (.bin .add) [.t 4, .c (int 1)]) <|
     .again 0 [.t 3, .t 21]))
    (.op true (.p (.bin .add) [.t 4, .c (int 1)]) <|
    .again 0 [.t 3, .t 18]))
   (.ret [(.t 3, none)])
theorem l11Idempotents_ok (ht : Has P ν 253 3 V_spec_l02Then) (h : Has P ν 263 1 V_spec_l11Idempotents) (c : Cat) (s : Shape c) (H : Hp) (nx : Nat) : OkM P ν 263 [.agg c.cells] H nx (IsI (idemL c) H nx) := by
  refine h _ _ _ _ rfl fun hwf => ?_
  unfold V_spec_l11Idempotents
  have n40 := s.n40
  have tl := s.tl
  simp only [SS, Nat.reduceEqDiff, Nat.reduceAdd, iput, puts, p_boxc]
  refine den_sel c.f.length (fun e => c.F e == c.T e && c.K e e == e) H nx rfl (Nat.le_refl _) rfl fun i v H' nx' hi hI => ?_
  have hl := selL_len i fun e => c.F e == c.T e && c.K e e == e
  by_cases hlt : i < c.f.length
  · simp only [SS, Nat.reduceEqDiff, Nat.reduceAdd, iput, puts, p_ldc, cat1, cat2, hlt, tl, wrap_succ (show i < 9223372036854775807 by omega)]
    have skip : ¬ (c.F i = c.T i ∧ c.K i i = i) → Sel c.f.length (fun e => c.F e == c.T e && c.K e e == e) H nx i [v, int ((i + 1 : Nat) : Int)] H' nx' := fun hb =>
      sel_skip rfl hlt (by rw [Bool.eq_false_iff]; intro hh; simp only [Bool.and_eq_true, beq_iff_eq] at hh; exact hb hh) hI
    refine ⟨fun h3 => ?_, fun h3 => skip fun hb => h3 hb.1⟩
    refine den_call (fc := (253, [])) rfl (by first | (simp only [SS, Nat.reduceEqDiff, Nat.reduceAdd, iput, puts, FF, frzL_cat]; done) | (simp only [SS, Nat.reduceEqDiff, Nat.reduceAdd, iput, puts, FF, frzL_cat]; rfl)) (s.l02Then_fz ht i i (by omega) (by omega) (by omega) (by omega)) ?_
    simp only [SS, Nat.reduceEqDiff, Nat.reduceAdd, iput, puts, wrap_succ (show i < 9223372036854775807 by omega)]
    refine ⟨fun h4 => ?_, fun h4 => skip fun hb => h4 hb.2⟩
    refine den_appI (m := [(i : Int)]) (H0 := H) (nx0 := nx) hI rfl (by simp) (by simp; omega) fun v2 H2 nx2 hI2 => ?_
    simp only [SS, Nat.reduceEqDiff, Nat.reduceAdd, iput, puts, wrap_succ (show i < 9223372036854775807 by omega)]
    exact sel_take rfl hlt (by simp only [Bool.and_eq_true, beq_iff_eq]; exact ⟨h3, h4⟩) hI2
  · have : i = c.f.length := by omega
    subst this
    simp only [SS, Nat.reduceEqDiff, Nat.reduceAdd, iput, puts, cat1, hlt]
    exact ⟨_, rfl, H', fun _ _ h => h, hI⟩
theorem l11Idempotents_fz (ht : Has P ν 253 3 V_spec_l02Then) (h : Has P ν 263 1 V_spec_l11Idempotents) (c : Cat) (s : Shape c) : Fz (OkM P ν) 263 [.agg c.cells] (islice (idemL c)) :=
  OkM.fz (fun H nx => l11Idempotents_ok ht h c s H nx) fun _ _ _ hh => hh.frz _
theorem idemL_mem {c : Cat} (s : Shape c) {e : Int} (e0 : 0 ≤ e) (e1 : e < c.f.length) : e ∈ idemL c ↔ c.K e e = e := by
  have e3 : ((e.toNat : Nat) : Int) = e := by omega
  constructor
  · intro h
    obtain ⟨k, rfl, _, h2⟩ := selL_mem h
    simp only [Bool.and_eq_true, beq_iff_eq] at h2
    exact h2.2
  · intro h
    simp only [idemL, selL, List.mem_map, List.mem_filter, List.mem_range]
    refine ⟨e.toNat, ⟨by omega, ?_⟩, e3⟩
    have := (s.kIff (a := e.toNat) (b := e.toNat) (by omega) (by omega)).1 (by rw [e3, h]; exact e0)
    simp only [e3, Bool.and_eq_true, beq_iff_eq] at this ⊢
    exact ⟨this.symm, h⟩

/-- What the two functions answer. -/
def splAV (k : Int) (c : Cat) (e : Int) : AV :=
  if k = 0 then if c.K e e = e then match splitO c e with | some (y, r, t) => .tup [int y, int r, int t, int 0] | none => .tup [int 0, int 0, int 0, int 4]
  else .tup [int 0, int 0, int 0, int 5] else .tup [int 0, int 0, int 0, int k]

def V_SplittingOf : Vc :=
  .op true (.p .box [.t 0]) <|
  .op true (.p (.msl 1 [int 0] [(0, 1)]) [.t 1]) <|
  .op true (.call (.f 18) [.t 2, .t 3]) <|
  .op true (.p (.bin .neq) [.t 4, .c (int 0)]) <|
  .br 5
   (.ret [(.c (int 0), none), (.c (int 0), none), (.c (int 0), none), (.t 4, none)])
   (.op true (.call (.f 34) [.t 2, .t 1, .t 1]) <|
   .op true (.p (.bin .neq) [.t 6, .t 1]) <|
   .br 7
    (.ret [(.c (int 0), none), (.c (int 0), none), (.c (int 0), none), (.c (int 5), none)])
    (.op true (.call (.f 265) [.t 2, .t 1]) <|
    .op true (.p (.ext 0) [.t 8]) <|
    .op true (.p (.ext 1) [.t 8]) <|
    .op true (.p (.ext 2) [.t 8]) <|
    .op true (.p (.ext 3) [.t 8]) <|
    .op true (.p .bnot [.t 12]) <|
    .br 13
     (.ret [(.c (int 0), none), (.c (int 0), none), (.c (int 0), none), (.c (int 4), none)])
     (.ret [(.t 9, none), (.t 10, none), (.t 11, none), (.c (int 0), none)])))
def V_spec_SplittingOf : Vc :=
  .op true (.p .box [.t 0]) <|
  .op true (.p (.ld (some 5)) [.t 2]) <|
  .op true (.p (.msl 1 [int 0] [(0, 1)]) [.t 1]) <|
  .op true (.call (.f 245) [.t 3, .t 4]) <|
  .op true (.p (.bin .neq) [.t 5, .c (int 0)]) <|
  .br 6
   (.ret [(.c (int 0), none), (.c (int 0), none), (.c (int 0), none), (.t 5, none)])
   (.op true (.p (.ld (some 5)) [.t 2]) <|
   .op true (.call (.f 263) [.t 7]) <|
   .op true (.call (.f 262) [.t 8, .t 1]) <|
   .op true (.p .bnot [.t 9]) <|
   .br 10
    (.ret [(.c (int 0), none), (.c (int 0), none), (.c (int 0), none), (.c (int 5), none)])
    (.op true (.p (.ld (some 5)) [.t 2]) <|
    .op true (.call (.f 264) [.t 11, .t 1]) <|
    .op true (.p (.ext 0) [.t 12]) <|
    .op true (.p (.ext 1) [.t 12]) <|
    .op true (.p (.ext 2) [.t 12]) <|
    .op true (.p (.ext 3) [.t 12]) <|
    .op true (.p .bnot [.t 16]) <|
    .br 17
     (.ret [(.c (int 0), none), (.c (int 0), none), (.c (int 0), none), (.c (int 4), none)])
     (.ret [(.t 13, none), (.t 14, none), (.t 15, none), (.c (int 0), none)])))
set_option maxHeartbeats 1000000 in
theorem SplittingOf_both (K : HCat P ν) (A : HArr P ν) (hp : Has P ν 265 2 V_Category_splitting) (h : Has P ν 124 2 V_SplittingOf) (KS : HSpec P ν) (ha : Has P ν 245 2 V_spec_l02Arrows) (h2 : Has P ν 253 3 V_spec_l02Then) (h3 : Has P ν 309 3 V_spec_l02Hom) (h4 : Has P ν 380 2 V_spec_l02Unit) (h5 : Has P ν 263 1 V_spec_l11Idempotents) (h6 : Has P ν 262 2 V_spec_l01Has) (h7 : Has P ν 264 2 V_spec_l11Splitting) (hs : Has P ν 123 2 V_spec_SplittingOf) (c : Cat) (b : Small c) (e : Int) :
    ∃ x y z k : Int, BothS P ν 124 123 [.agg c.cells, int e] (.tup [int x, int y, int z, int k]) := by
  have key : BothS P ν 124 123 [.agg c.cells, int e] (splAV (code (IsCat c) (Arr c e)) c e) := by
    unfold splAV
    refine ⟨fun H nx => h _ _ _ _ rfl fun hwf => ?_, fun H nx => hs _ _ _ _ rfl fun hwf => ?_⟩
    · unfold V_SplittingOf
      simp only [SS, Nat.reduceEqDiff, Nat.reduceAdd, iput, puts, p_boxc]
      refine den_call (fc := (18, [])) rfl (by first | (simp only [SS, Nat.reduceEqDiff, Nat.reduceAdd, iput, puts, FF, frzL_cat]; done) | (simp only [SS, Nat.reduceEqDiff, Nat.reduceAdd, iput, puts, FF, frzL_cat]; rfl)) (arrowCode_fz K A.code c b [e] (by simp) (Wn1 c e)) ?_
      by_cases h0 : code (IsCat c) (Arr c e) = 0
      · obtain ⟨hc, e0, e1⟩ := code_zero.1 h0
        have s := hc.1
        simp only [SS, Nat.reduceEqDiff, Nat.reduceAdd, iput, puts, h0]
        refine den_call (fc := (34, [])) rfl (by first | (simp only [SS, Nat.reduceEqDiff, Nat.reduceAdd, iput, puts, FF, frzL_cat]; done) | (simp only [SS, Nat.reduceEqDiff, Nat.reduceAdd, iput, puts, FF, frzL_cat]; rfl)) (s.then_fz K.thn e e e0 e1 e0 e1) ?_
        simp only [SS, Nat.reduceEqDiff, Nat.reduceAdd, iput, puts]
        refine ⟨fun h1 => ?_, fun h1 => ?_⟩
        · simp only [h1, if_false]
          exact ⟨_, rfl, H, fun _ _ h => h, rfl, rfl, Nat.le_refl _⟩
        refine den_call (fc := (265, [])) rfl (by first | (simp only [SS, Nat.reduceEqDiff, Nat.reduceAdd, iput, puts, FF, frzL_cat]; done) | (simp only [SS, Nat.reduceEqDiff, Nat.reduceAdd, iput, puts, FF, frzL_cat]; rfl)) ((splitting_ok A.hom K.thn hp c s e e0 e1).fz (splitAV_frz _)) ?_
        simp only [h1, if_true]
        cases splitO c e with
        | none =>
          simp only [SS, Nat.reduceEqDiff, Nat.reduceAdd, iput, puts, splitAV]
          exact ⟨_, rfl, H, fun _ _ h => h, rfl, rfl, Nat.le_refl _⟩
        | some x =>
          simp only [SS, Nat.reduceEqDiff, Nat.reduceAdd, iput, puts, splitAV]
          exact ⟨_, rfl, H, fun _ _ h => h, rfl, rfl, Nat.le_refl _⟩
      · simp only [SS, Nat.reduceEqDiff, Nat.reduceAdd, iput, puts, h0]
        exact ⟨_, rfl, H, fun _ _ h => h, rfl, rfl, Nat.le_refl _⟩
    · unfold V_spec_SplittingOf
      simp only [SS, Nat.reduceEqDiff, Nat.reduceAdd, iput, puts, p_boxc, p_ldc]
      refine den_call (fc := (245, [])) rfl (by first | (simp only [SS, Nat.reduceEqDiff, Nat.reduceAdd, iput, puts, FF, frzL_cat]; done) | (simp only [SS, Nat.reduceEqDiff, Nat.reduceAdd, iput, puts, FF, frzL_cat]; rfl)) (l02Arrows_fz KS ha c b [e] (by simp) (Wn1 c e)) ?_
      by_cases h0 : code (IsCat c) (Arr c e) = 0
      · obtain ⟨hc, e0, e1⟩ := code_zero.1 h0
        have s := hc.1
        have n40 := s.n40
        have hil : (idemL c).length ≤ c.f.length := selL_len _ _
        simp only [SS, Nat.reduceEqDiff, Nat.reduceAdd, iput, puts, p_ldc, h0]
        refine den_call (fc := (263, [])) rfl (by first | (simp only [SS, Nat.reduceEqDiff, Nat.reduceAdd, iput, puts, FF, frzL_cat]; done) | (simp only [SS, Nat.reduceEqDiff, Nat.reduceAdd, iput, puts, FF, frzL_cat]; rfl)) (l11Idempotents_fz h2 h5 c s) ?_
        refine den_call (fc := (262, [])) rfl (by first | (simp only [SS, Nat.reduceEqDiff, Nat.reduceAdd, iput, puts, FF, frzL_cat]; done) | (simp only [SS, Nat.reduceEqDiff, Nat.reduceAdd, iput, puts, FF, frzL_cat]; rfl)) ((l01Has_ok h6 (idemL c) e (by omega)).fzb) ?_
        simp only [SS, Nat.reduceEqDiff, Nat.reduceAdd, iput, puts, p_ldc, idemL_mem s e0 e1]
        refine ⟨fun h1 => ?_, fun h1 => ?_⟩
        · simp only [h1, if_false]
          exact ⟨_, rfl, H, fun _ _ h => h, rfl, rfl, Nat.le_refl _⟩
        refine den_call (fc := (264, [])) rfl (by first | (simp only [SS, Nat.reduceEqDiff, Nat.reduceAdd, iput, puts, FF, frzL_cat]; done) | (simp only [SS, Nat.reduceEqDiff, Nat.reduceAdd, iput, puts, FF, frzL_cat]; rfl)) ((l11Splitting_ok h3 h2 h4 h7 c s e e0 e1).fz (splitAV_frz _)) ?_
        simp only [h1, if_true]
        cases splitO c e with
        | none =>
          simp only [SS, Nat.reduceEqDiff, Nat.reduceAdd, iput, puts, splitAV]
          exact ⟨_, rfl, H, fun _ _ h => h, rfl, rfl, Nat.le_refl _⟩
        | some x =>
          simp only [SS, Nat.reduceEqDiff, Nat.reduceAdd, iput, puts, splitAV]
          exact ⟨_, rfl, H, fun _ _ h => h, rfl, rfl, Nat.le_refl _⟩
      · simp only [SS, Nat.reduceEqDiff, Nat.reduceAdd, iput, puts, h0]
        exact ⟨_, rfl, H, fun _ _ h => h, rfl, rfl, Nat.le_refl _⟩
  have : ∃ x y z k : Int, splAV (code (IsCat c) (Arr c e)) c e = .tup [int x, int y, int z, int k] := by
    unfold splAV
    split
    · split
      · cases splitO c e with
        | none => exact ⟨_, _, _, _, rfl⟩
        | some x => exact ⟨_, _, _, _, rfl⟩
      · exact ⟨_, _, _, _, rfl⟩
    · exact ⟨_, _, _, _, rfl⟩
  obtain ⟨x, y, z, k, e⟩ := this
  rw [e] at key
  exact ⟨x, y, z, k, key⟩
end Go.Av
