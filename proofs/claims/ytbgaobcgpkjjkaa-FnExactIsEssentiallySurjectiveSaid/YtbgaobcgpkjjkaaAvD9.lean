/-
  IsEssentiallySurjective.
-/
import Derived.Test.YtbgaobcgpkjjkaaAvD6
import Derived.Test.YtbgaobcgpkjjkaaAvM2
namespace Go.Av
open Classical
set_option linter.unusedSimpArgs false
set_option linter.unusedVariables false
variable {P : Program} {ν : Nat → FuncId}

def EssAt (f : Fu) (y : Int) : Prop := ∃ k : Nat, k < f.ob.length ∧ 0 ≤ isoF f.t (f.O k) y
def Ess (f : Fu) : Prop := ∀ y : Int, Ob f.t y → EssAt f y

def V_Functor_isEssentiallySurjective : Vc :=
  .loop 0 [.c (int 0)] <|
  .op true (.p .nck [.t 0]) <|
  .op true (.p (.fad 5) [.t 2]) <|
  .op true (.p (.fad 0) [.t 3]) <|
  .op true (.p (.ld none) [.t 4]) <|
  .op true (.p (.bin .lss) [.t 1, .t 5]) <|
  .br 6
   (.op true (.p .nck [.t 0]) <|
   .op true (.p (.fad 10) [.t 7]) <|
   .op true (.p (.ld none) [.t 8]) <|
   .op true (.p .len [.t 9]) <|
   .loop 1 [.c (int 0)] <|
   .op true (.p (.bin .lss) [.t 11, .t 10]) <|
   .br 12
    (.op true (.p (.iad 1) [.t 9, .t 11]) <|
    .op true (.p (.ld none) [.t 13]) <|
    .op true (.p .nck [.t 0]) <|
    .op true (.p (.fad 5) [.t 15]) <|
    .op true (.call (.f 383) [.t 16, .t 14, .t 1]) <|
    .op true (.p (.bin .geq) [.t 17, .c (int 0)]) <|
    .br 18
     (.op true (.p (.bin .add) [.t 1, .c (int 1)]) <|
     .again 0 [.t 19])
     (.op true (.p (.bin .add) [.t 11, .c (int 1)]) <|
     .again 1 [.t 19]))
    (.ret [(.c (bool false), none)]))
   (.ret [(.c (bool true), none)])
set_option maxHeartbeats 1000000 in
theorem isEss_fz (hh : Has P ν 33 3 V_Category_hom) (ht : Has P ν 34 3 V_Category_then) (hi : Has P ν 240 2 V_Category_inverse) (his : Has P ν 383 3 V_Category_isomorphic) (h : Has P ν 344 1 V_Functor_isEssentiallySurjective) (f : Fu) (u : IsFu f) (b : SmallU f) : Fz (OkM P ν) 344 [.ptr f.cells 0] (bool (decide (Ess f))) := by
  refine Fn.fzb fun H nx => h _ _ _ _ rfl fun hwf => ?_
  unfold V_Functor_isEssentiallySurjective
  have t := u.t.1
  have m := u.m
  have o0 := t.o0
  have o8 := t.o8
  have bo := b.ob
  refine den_for f.t.o.toNat (fun i => ∀ y : Int, Ob f.t y → y < i → EssAt f y) (fun y hy hx2 => by have := hy.1; omega) fun i hi' hp => ?_
  by_cases hlt : (i : Int) < f.t.o
  · have io : Ob f.t i := ⟨by omega, hlt⟩
    try simp (disch := (first | rfl | with_reducible assumption | with_reducible solve_by_elim (maxDepth := 8) [Shape.inT, Shape.inI, Shape.inC, Shape.inK, Shape.obF, Shape.obT, Shape.arI, Arr.inF] | omega)) only [S2, Nat.reduceEqDiff, Nat.reduceAdd, iput, puts, SU f, hlt]
    refine den_for f.ob.length (fun k => ∀ z : Nat, z < k → ¬ 0 ≤ isoF f.t (f.O z) i) (fun z hz => by omega) fun k hk hr => ?_
    by_cases hlt3 : k < f.ob.length
    · have i1 : In f.ob (k : Int) := In.nat hlt3
      repeat (first | simp (disch := (first | rfl | with_reducible assumption | with_reducible solve_by_elim (maxDepth := 8) [Shape.inT, Shape.inI, Shape.inC, Shape.inK, Shape.obF, Shape.obT, Shape.arI, Arr.inF] | omega)) only [S2, Nat.reduceEqDiff, Nat.reduceAdd, iput, puts, SU f, hlt3] | (refine den_call rfl (by first | (simp only [SS, Nat.reduceEqDiff, Nat.reduceAdd, iput, puts, FF, frzL_cat, frzL_fu, frzL_fn0]; done) | (simp only [SS, Nat.reduceEqDiff, Nat.reduceAdd, iput, puts, FF, frzL_cat, frzL_fu, frzL_fn0]; rfl)) (by first | exact Fu.winT (t.isoFz hh ht hi his (f.O k) i)) ?_))
      refine ⟨fun h1 => up rfl (by omega) fun y hy hy2 => ?_, fun h1 => up rfl hlt3 fun z hz => ?_⟩
      · by_cases e : y = i
        · subst e; exact ⟨k, hlt3, h1⟩
        · exact hp y hy (by omega)
      · by_cases e : z = k
        · subst e; exact h1
        · exact hr z (by omega)
    · try simp (disch := (first | rfl | with_reducible assumption | with_reducible solve_by_elim (maxDepth := 8) [Shape.inT, Shape.inI, Shape.inC, Shape.inK, Shape.obF, Shape.obT, Shape.arI, Arr.inF] | omega)) only [S2, Nat.reduceEqDiff, Nat.reduceAdd, iput, puts, SU f, hlt3]
      refine ⟨_, rfl, H, fun _ _ h => h, ret_false fun hm => ?_, rfl, Nat.le_refl _⟩
      obtain ⟨z, hz, h2⟩ := hm i io
      exact hr z (by omega) h2
  · try simp (disch := (first | rfl | with_reducible assumption | with_reducible solve_by_elim (maxDepth := 8) [Shape.inT, Shape.inI, Shape.inC, Shape.inK, Shape.obF, Shape.obT, Shape.arI, Arr.inF] | omega)) only [S2, Nat.reduceEqDiff, Nat.reduceAdd, iput, puts, SU f, hlt]
    exact ⟨_, rfl, H, fun _ _ h => h, ret_true (fun y hy => hp y hy (by have := hy.2; omega)), rfl, Nat.le_refl _⟩
def V_IsEssentiallySurjective : Vc :=
  .op true (.p .box [.t 0]) <|
  .op true (.call (.f 297) [.t 1, .f 344]) <|
  .op true (.p (.ext 0) [.t 2]) <|
  .op true (.p (.ext 1) [.t 2]) <|
  .ret [(.t 3, none), (.t 4, none)]
theorem IsEss_fz (K : HFun P ν) (ha : Has P ν 297 2 V_asked) (hh : Has P ν 33 3 V_Category_hom) (hi : Has P ν 240 2 V_Category_inverse) (his : Has P ν 383 3 V_Category_isomorphic) (hf : Has P ν 344 1 V_Functor_isEssentiallySurjective) (h : Has P ν 201 1 V_IsEssentiallySurjective) (f : Fu) (b : SmallU f) : Fz (OkM P ν) 201 [.agg f.cells] (askV f (Ess f)) := by
  refine Fn.fz (fun H nx => h _ _ _ _ rfl fun hwf => ?_) ask_frz
  unfold V_IsEssentiallySurjective
  repeat (first | simp (disch := (first | rfl | with_reducible assumption | with_reducible solve_by_elim (maxDepth := 8) [Shape.inT, Shape.inI, Shape.inC, Shape.inK, Shape.obF, Shape.obT, Shape.arI, Arr.inF] | omega)) only [S2, Nat.reduceEqDiff, Nat.reduceAdd, iput, puts, SU f, ext0, ext1] | (refine den_call rfl (by first | (simp only [SS, Nat.reduceEqDiff, Nat.reduceAdd, iput, puts, FF, frzL_cat, frzL_fu, frzL_fn0]; done) | (simp only [SS, Nat.reduceEqDiff, Nat.reduceAdd, iput, puts, FF, frzL_cat, frzL_fu, frzL_fn0]; rfl)) (by first | exact asked_fz K ha f b _ (Ess f) fun u => isEss_fz hh K.thn hi his hf f u b) ?_))
  exact ⟨_, rfl, H, fun _ _ h => h, rfl, rfl, Nat.le_refl _⟩

def V_spec_l06Surjective : Vc :=
  .op true (.p .box [.t 0]) <|
  .loop 0 [.c (int 0)] <|
  .op true (.p (.fad 5) [.t 1]) <|
  .op true (.p (.fad 0) [.t 3]) <|
  .op true (.p (.ld none) [.t 4]) <|
  .op true (.p (.bin .lss) [.t 2, .t 5]) <|
  .br 6
   (.loop 1 [.c (bool false), .c (int 0)] <|
   .op true (.p (.fad 10) [.t 1]) <|
   .op true (.p (.ld none) [.t 9]) <|
   .op true (.p .len [.t 10]) <|
   .op true (.p (.bin .lss) [.t 8, .t 11]) <|
   .br 12
    (.br 7
     (.op true (.p (.bin .add) [.t 8, .c (int 1)]) <|
     .again 1 [.c (bool true), .t 13])
     (.op true (.p (.fad 5) [.t 1]) <|
     .op true (.p (.ld (some 5)) [.t 13]) <|
     .op true (.p (.fad 10) [.t 1]) <|
     .op true (.p (.ld none) [.t 15]) <|
     .op true (.p (.iad 1) [.t 16, .t 8]) <|
     .op true (.p (.ld none) [.t 17]) <|
     .op true (.call (.f 408) [.t 14, .t 18, .t 2]) <|
     .op true (.p (.bin .add) [.t 8, .c (int 1)]) <|
     .again 1 [.t 19, .t 20]))
    (.op true (.p .bnot [.t 7]) <|
    .br 13
     (.ret [(.c (bool false), none)])
     (.op true (.p (.bin .add) [.t 2, .c (int 1)]) <|
     .again 0 [.t 14])))
   (.ret [(.c (bool true), none)])
set_option maxHeartbeats 1000000 in
theorem l06Sur_fz (hh : Has P ν 309 3 V_spec_l02Hom) (ht : Has P ν 253 3 V_spec_l02Then) (hu : Has P ν 380 2 V_spec_l02Unit) (hi : Has P ν 423 2 V_spec_l02Inverse) (hal : Has P ν 408 3 V_spec_l06Alike) (h : Has P ν 343 1 V_spec_l06Surjective) (f : Fu) (u : IsFu f) (b : SmallU f) : Fz (OkM P ν) 343 [.agg f.cells] (bool (decide (Ess f))) := by
  refine Fn.fzb fun H nx => h _ _ _ _ rfl fun hwf => ?_
  unfold V_spec_l06Surjective
  have t := u.t.1
  have m := u.m
  have o0 := t.o0
  have o8 := t.o8
  have bo := b.ob
  try simp (disch := (first | rfl | with_reducible assumption | with_reducible solve_by_elim (maxDepth := 8) [Shape.inT, Shape.inI, Shape.inC, Shape.inK, Shape.obF, Shape.obT, Shape.arI, Arr.inF] | omega)) only [S2, Nat.reduceEqDiff, Nat.reduceAdd, iput, puts, SU f]
  refine den_for f.t.o.toNat (fun i => ∀ y : Int, Ob f.t y → y < i → EssAt f y) (fun y hy hx2 => by have := hy.1; omega) fun i hi' hp => ?_
  by_cases hlt : (i : Int) < f.t.o
  · have io : Ob f.t i := ⟨by omega, hlt⟩
    try simp (disch := (first | rfl | with_reducible assumption | with_reducible solve_by_elim (maxDepth := 8) [Shape.inT, Shape.inI, Shape.inC, Shape.inK, Shape.obF, Shape.obT, Shape.arI, Arr.inF] | omega)) only [S2, Nat.reduceEqDiff, Nat.reduceAdd, iput, puts, SU f, hlt]
    refine den_loop (α := Nat × Bool) (fun a => [bool a.2, int a.1]) (fun a H' nx' => a.1 ≤ f.ob.length ∧ (a.2 = true ↔ ∃ z : Nat, z < a.1 ∧ 0 ≤ isoF f.t (f.O z) i) ∧ H' = H ∧ nx' = nx) (fun a => f.ob.length - a.1) (0, false) rfl ⟨Nat.zero_le _, by simp, rfl, rfl⟩ ?_
    rintro ⟨k, w⟩ H' nx' ⟨hk, hw, rfl, rfl⟩
    simp only at hk hw
    have step : ∀ w' : Bool, k < f.ob.length → (w' = true ↔ (w = true ∨ 0 ≤ isoF f.t (f.O k) i)) → ∃ a' : Nat × Bool, [bool w', int ((k + 1 : Nat) : Int)] = [bool a'.2, int a'.1] ∧ (a'.1 ≤ f.ob.length ∧ (a'.2 = true ↔ ∃ z : Nat, z < a'.1 ∧ 0 ≤ isoF f.t (f.O z) i)) ∧ f.ob.length - a'.1 < f.ob.length - k := fun w' hlk hw' => by
      refine ⟨(k + 1, w'), rfl, ⟨hlk, ?_⟩, by simp only; omega⟩
      rw [hw', hw]
      constructor
      · rintro (⟨z, h1, h2⟩ | h1)
        · exact ⟨z, by simp only; omega, h2⟩
        · exact ⟨k, by simp, h1⟩
      · rintro ⟨z, h1, h2⟩
        by_cases e : z = k
        · subst e; exact .inr h2
        · exact .inl ⟨z, by simp only at h1; omega, h2⟩
    by_cases hlt3 : k < f.ob.length
    · have i1 : In f.ob (k : Int) := In.nat hlt3
      try simp (disch := (first | rfl | with_reducible assumption | with_reducible solve_by_elim (maxDepth := 8) [Shape.inT, Shape.inI, Shape.inC, Shape.inK, Shape.obF, Shape.obT, Shape.arI, Arr.inF] | omega)) only [S2, Nat.reduceEqDiff, Nat.reduceAdd, iput, puts, SU f, hlt3]
      refine ⟨fun h1 => ?_, fun h1 => ?_⟩
      · try simp (disch := (first | rfl | with_reducible assumption | with_reducible solve_by_elim (maxDepth := 8) [Shape.inT, Shape.inI, Shape.inC, Shape.inK, Shape.obF, Shape.obT, Shape.arI, Arr.inF] | omega)) only [S2, Nat.reduceEqDiff, Nat.reduceAdd, iput, puts, SU f, hlt3]
        exact step true hlt3 (by simp [h1])
      · repeat (first | simp (disch := (first | rfl | with_reducible assumption | with_reducible solve_by_elim (maxDepth := 8) [Shape.inT, Shape.inI, Shape.inC, Shape.inK, Shape.obF, Shape.obT, Shape.arI, Arr.inF] | omega)) only [S2, Nat.reduceEqDiff, Nat.reduceAdd, iput, puts, SU f, hlt3] | (refine den_call rfl (by first | (simp only [SS, Nat.reduceEqDiff, Nat.reduceAdd, iput, puts, FF, frzL_cat, frzL_fu, frzL_fn0]; done) | (simp only [SS, Nat.reduceEqDiff, Nat.reduceAdd, iput, puts, FF, frzL_cat, frzL_fu, frzL_fn0]; rfl)) (by first | exact t.alikeFz hh ht hu hi hal (f.O k) i) ?_))
        exact step (decide (0 ≤ isoF f.t (f.O k) i)) hlt3 (by simp [h1])
    · try simp (disch := (first | rfl | with_reducible assumption | with_reducible solve_by_elim (maxDepth := 8) [Shape.inT, Shape.inI, Shape.inC, Shape.inK, Shape.obF, Shape.obT, Shape.arI, Arr.inF] | omega)) only [S2, Nat.reduceEqDiff, Nat.reduceAdd, iput, puts, SU f, hlt3]
      refine ⟨fun h1 => ?_, fun h1 => up rfl (by omega) fun y hy hy2 => ?_⟩
      · refine ⟨_, rfl, H', fun _ _ h => h, ret_false fun hm => ?_, rfl, Nat.le_refl _⟩
        obtain ⟨z, hz, h2⟩ := hm i io
        rw [hw.2 ⟨z, by omega, h2⟩] at h1; cases h1
      · by_cases e : y = i
        · subst e
          obtain ⟨z, h2, h3⟩ := hw.1 h1
          exact ⟨z, by omega, h3⟩
        · exact hp y hy (by omega)
  · try simp (disch := (first | rfl | with_reducible assumption | with_reducible solve_by_elim (maxDepth := 8) [Shape.inT, Shape.inI, Shape.inC, Shape.inK, Shape.obF, Shape.obT, Shape.arI, Arr.inF] | omega)) only [S2, Nat.reduceEqDiff, Nat.reduceAdd, iput, puts, SU f, hlt]
    exact ⟨_, rfl, H, fun _ _ h => h, ret_true (fun y hy => hp y hy (by have := hy.2; omega)), rfl, Nat.le_refl _⟩
def V_spec_IsEssentiallySurjective : Vc :=
  .op true (.p .box [.t 0]) <|
  .op true (.p (.ld (some 12)) [.t 1]) <|
  .op true (.call (.f 256) [.t 2]) <|
  .op true (.p .bnot [.t 3]) <|
  .br 4
   (.ret [(.c (bool false), none), (.c (int 1), none)])
   (.op true (.p (.ld (some 12)) [.t 1]) <|
   .op true (.call (.f 343) [.t 5]) <|
   .ret [(.t 6, none), (.c (int 0), none)])
theorem sIsEss_fz (K : HSpecU P ν) (hh : Has P ν 309 3 V_spec_l02Hom) (ht : Has P ν 253 3 V_spec_l02Then) (hu : Has P ν 380 2 V_spec_l02Unit) (hi : Has P ν 423 2 V_spec_l02Inverse) (hal : Has P ν 408 3 V_spec_l06Alike) (hf : Has P ν 343 1 V_spec_l06Surjective) (h : Has P ν 200 1 V_spec_IsEssentiallySurjective) (f : Fu) (b : SmallU f) : Fz (OkM P ν) 200 [.agg f.cells] (askV f (Ess f)) := by
  refine Fn.fz (fun H nx => h _ _ _ _ rfl fun hwf => ?_) ask_frz
  unfold V_spec_IsEssentiallySurjective
  repeat (first | simp (disch := (first | rfl | with_reducible assumption | with_reducible solve_by_elim (maxDepth := 8) [Shape.inT, Shape.inI, Shape.inC, Shape.inK, Shape.obF, Shape.obT, Shape.arI, Arr.inF] | omega)) only [S2, Nat.reduceEqDiff, Nat.reduceAdd, iput, puts, SU f] | (refine den_call rfl (by first | (simp only [SS, Nat.reduceEqDiff, Nat.reduceAdd, iput, puts, FF, frzL_cat, frzL_fu, frzL_fn0]; done) | (simp only [SS, Nat.reduceEqDiff, Nat.reduceAdd, iput, puts, FF, frzL_cat, frzL_fu, frzL_fn0]; rfl)) (by first | exact l06Is_fz K f b) ?_))
  refine ⟨fun h1 => ?_, fun u => ?_⟩
  · exact ⟨_, rfl, H, fun _ _ h => h, ask_no h1, rfl, Nat.le_refl _⟩
  repeat (first | simp (disch := (first | rfl | with_reducible assumption | with_reducible solve_by_elim (maxDepth := 8) [Shape.inT, Shape.inI, Shape.inC, Shape.inK, Shape.obF, Shape.obT, Shape.arI, Arr.inF] | omega)) only [S2, Nat.reduceEqDiff, Nat.reduceAdd, iput, puts, SU f] | (refine den_call rfl (by first | (simp only [SS, Nat.reduceEqDiff, Nat.reduceAdd, iput, puts, FF, frzL_cat, frzL_fu, frzL_fn0]; done) | (simp only [SS, Nat.reduceEqDiff, Nat.reduceAdd, iput, puts, FF, frzL_cat, frzL_fu, frzL_fn0]; rfl)) (by first | exact l06Sur_fz hh ht hu hi hal hf f u b) ?_))
  exact ⟨_, rfl, H, fun _ _ h => h, ask_q u, rfl, Nat.le_refl _⟩
theorem IsEssentiallySurjective_both (K : HFun P ν) (ha : Has P ν 297 2 V_asked) (hh : Has P ν 33 3 V_Category_hom) (hi : Has P ν 240 2 V_Category_inverse) (his : Has P ν 383 3 V_Category_isomorphic) (hf : Has P ν 344 1 V_Functor_isEssentiallySurjective) (h : Has P ν 201 1 V_IsEssentiallySurjective) (KS : HSpecU P ν) (h1 : Has P ν 309 3 V_spec_l02Hom) (h2 : Has P ν 253 3 V_spec_l02Then) (h3 : Has P ν 380 2 V_spec_l02Unit) (h4 : Has P ν 423 2 V_spec_l02Inverse) (h5 : Has P ν 408 3 V_spec_l06Alike) (h6 : Has P ν 343 1 V_spec_l06Surjective) (h' : Has P ν 200 1 V_spec_IsEssentiallySurjective) (f : Fu) (b : SmallU f) :
    ∃ (a : Bool) (k : Int), Fz (OkM P ν) 201 [.agg f.cells] (.tup [bool a, int k]) ∧ Fz (OkM P ν) 200 [.agg f.cells] (.tup [bool a, int k]) :=
  ⟨_, _, IsEss_fz K ha hh hi his hf h f b, sIsEss_fz KS h1 h2 h3 h4 h5 h6 h' f b⟩
end Go.Av
