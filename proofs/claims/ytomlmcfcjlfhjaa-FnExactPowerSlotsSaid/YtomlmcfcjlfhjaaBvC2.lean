/-
  Faults of set functors; three statements on set functors.
-/
import Derived.Test.YtomlmcfcjlfhjaaBvC1
namespace Go.Av
set_option linter.unusedSectionVars false
set_option linter.unusedSimpArgs false
set_option linter.unusedVariables false
variable [md : Md]
open Classical
set_option linter.unusedSimpArgs false
set_option linter.unusedVariables false
variable {P : Program} {ν : Nat → FuncId}

abbrev Q4 := Int × Int × Int × Int
def fi2 (f : SF) (x e : Nat) : Option Q4 := if (f.a.getD (f.c.i.getD x 0).toNat []).getD e 0 = e then none else some (1, (x : Int), (e : Int), 0)
def fi1 (f : SF) (x : Nat) : Option Q4 := (List.range (f.a.getD (f.c.i.getD x 0).toNat []).length).findSome? (fi2 f x)
def fc3 (f : SF) (a b e : Nat) : Option Q4 := if (f.a.getD (f.c.K a b).toNat []).getD e 0 = (f.a.getD b []).getD ((f.a.getD a []).getD e 0).toNat 0 then none else some (2, (a : Int), (b : Int), (e : Int))
def fc2 (f : SF) (a b : Nat) : Option Q4 := if f.c.K a b < 0 then none else (List.range (f.a.getD a []).length).findSome? (fc3 f a b)
def fc1 (f : SF) (a : Nat) : Option Q4 := (List.range f.c.f.length).findSome? (fc2 f a)
/-- The first fault of the shape of a set functor. -/
def flt (f : SF) : Q4 := match (List.range f.c.i.length).findSome? (fi1 f) with
  | some q => q
  | none => ((List.range f.c.f.length).findSome? (fc1 f)).getD (0, 0, 0, 0)
def q4 (q : Q4) : AV := .tup [int q.1, int q.2.1, int q.2.2.1, int q.2.2.2]
theorem q4_frz (q : Q4) (H : Hp) : frzN H fuel (q4 q) = some (q4 q) := rfl
theorem flt_i {f : SF} {q : Q4} (h : (List.range f.c.i.length).findSome? (fi1 f) = some q) : flt f = q := by simp only [flt, h]
theorem flt_c {f : SF} {q : Q4} (h : (List.range f.c.i.length).findSome? (fi1 f) = none) (h2 : (List.range f.c.f.length).findSome? (fc1 f) = some q) : flt f = q := by simp only [flt, h, h2, Option.getD_some]
theorem flt_0 {f : SF} (h : (List.range f.c.i.length).findSome? (fi1 f) = none) (h2 : (List.range f.c.f.length).findSome? (fc1 f) = none) : flt f = (0, 0, 0, 0) := by simp only [flt, h, h2, Option.getD_none]

theorem SShape.len {f : SF} (s : SShape f) {k : Nat} (h : k < f.c.f.length) : ((f.a.getD k []).length : Int) = f.z.getD (f.c.f.getD k 0).toNat 0 := (s.map k (by rw [s.al]; exact h)).1
theorem SShape.val {f : SF} (s : SShape f) {k e : Nat} (h : k < f.c.f.length) (he : e < (f.a.getD k []).length) : 0 ≤ (f.a.getD k []).getD e 0 ∧ (f.a.getD k []).getD e 0 < f.z.getD (f.c.t.getD k 0).toNat 0 := (s.map k (by rw [s.al]; exact h)).2 e he

def V_SetFunctor_fault : Vc :=
  .op true (.p .nck [.t 0]) <|
  .op true (.p (.fad 0) [.t 1]) <|
  .op true (.p .nck [.t 2]) <|
  .op true (.p (.fad 3) [.t 3]) <|
  .op true (.p (.ld none) [.t 4]) <|
  .op true (.p .len [.t 5]) <|
  .loop 0 [.c (int 0)] <|
  .op true (.p (.bin .lss) [.t 7, .t 6]) <|
  .br 8
   (.op true (.p (.iad 1) [.t 5, .t 7]) <|
   .op true (.p (.ld none) [.t 9]) <|
   .op true (.p .nck [.t 0]) <|
   .op true (.p (.fad 6) [.t 11]) <|
   .op true (.p (.ld none) [.t 12]) <|
   .op true (.p (.iad 1) [.t 13, .t 10]) <|
   .op true (.p (.ld none) [.t 14]) <|
   .op true (.p .len [.t 15]) <|
   .loop 1 [.c (int 0)] <|
   .op true (.p (.bin .lss) [.t 17, .t 16]) <|
   .br 18
    (.op true (.p (.iad 1) [.t 15, .t 17]) <|
    .op true (.p (.ld none) [.t 19]) <|
    .op true (.p (.bin .neq) [.t 20, .t 17]) <|
    .br 21
     (.ret [(.c (int 1), none), (.t 7, none), (.t 17, none), (.c (int 0), none)])
     (.op true (.p (.bin .add) [.t 17, .c (int 1)]) <|
     .again 1 [.t 22]))
    (.op true (.p (.bin .add) [.t 7, .c (int 1)]) <|
    .again 0 [.t 19]))
   (.op true (.p .nck [.t 2]) <|
   .op true (.p (.fad 4) [.t 9]) <|
   .op true (.p (.ld none) [.t 10]) <|
   .op true (.p .len [.t 11]) <|
   .loop 0 [.c (int 0)] <|
   .op true (.p (.bin .lss) [.t 13, .t 12]) <|
   .br 14
    (.op true (.p (.iad 1) [.t 11, .t 13]) <|
    .op true (.p (.ld none) [.t 15]) <|
    .op true (.p .len [.t 16]) <|
    .loop 1 [.c (int 0)] <|
    .op true (.p (.bin .lss) [.t 18, .t 17]) <|
    .br 19
     (.op true (.p (.iad 1) [.t 16, .t 18]) <|
     .op true (.p (.ld none) [.t 20]) <|
     .op true (.p (.bin .lss) [.t 21, .c (int 0)]) <|
     .br 22
      (.op true (.p (.bin .add) [.t 18, .c (int 1)]) <|
      .again 1 [.t 23])
      (.op true (.p .nck [.t 0]) <|
      .op true (.p (.fad 6) [.t 23]) <|
      .op true (.p (.ld none) [.t 24]) <|
      .op true (.p (.iad 1) [.t 25, .t 13]) <|
      .op true (.p (.ld none) [.t 26]) <|
      .op true (.p .len [.t 27]) <|
      .loop 2 [.c (int 0)] <|
      .op true (.p (.bin .lss) [.t 29, .t 28]) <|
      .br 30
       (.op true (.p (.iad 1) [.t 27, .t 29]) <|
       .op true (.p (.ld none) [.t 31]) <|
       .op true (.p .nck [.t 0]) <|
       .op true (.p (.fad 6) [.t 33]) <|
       .op true (.p (.ld none) [.t 34]) <|
       .op true (.p (.iad 1) [.t 35, .t 21]) <|
       .op true (.p (.ld none) [.t 36]) <|
       .op true (.p (.iad 1) [.t 37, .t 29]) <|
       .op true (.p (.ld none) [.t 38]) <|
       .op true (.p .nck [.t 0]) <|
       .op true (.p (.fad 6) [.t 40]) <|
       .op true (.p (.ld none) [.t 41]) <|
       .op true (.p (.iad 1) [.t 42, .t 18]) <|
       .op true (.p (.ld none) [.t 43]) <|
       .op true (.p (.iad 1) [.t 44, .t 32]) <|
       .op true (.p (.ld none) [.t 45]) <|
       .op true (.p (.bin .neq) [.t 39, .t 46]) <|
       .br 47
        (.ret [(.c (int 2), none), (.t 13, none), (.t 18, none), (.t 29, none)])
        (.op true (.p (.bin .add) [.t 29, .c (int 1)]) <|
        .again 2 [.t 48]))
       (.op true (.p (.bin .add) [.t 18, .c (int 1)]) <|
       .again 1 [.t 31])))
     (.op true (.p (.bin .add) [.t 13, .c (int 1)]) <|
     .again 0 [.t 20]))
    (.ret [(.c (int 0), none), (.c (int 0), none), (.c (int 0), none), (.c (int 0), none)]))
set_option maxHeartbeats 2000000 in
theorem sfFault_fz (h : Has P ν 281 1 V_SetFunctor_fault) (f : SF) (b : SmallF f) (s : SShape f) : Fz (OkM P ν) 281 [.ptr f.cells 0] (q4 (flt f)) := by
  refine Fn.fz (fun H nx => h _ _ _ _ rfl fun hwf => ?_) (q4_frz _)
  unfold V_SetFunctor_fault
  have sc := s.cat.1
  have n40 := sc.n40
  have tl := sc.tl
  have il := sc.il
  have cl := sc.cl
  have o8 := sc.o8
  have al := s.al
  simp only [SS, Nat.reduceEqDiff, Nat.reduceAdd, iput, puts, sf3]
  refine den_for f.c.i.length (fun x => ∀ x', x' < x → fi1 f x' = none) (fun k hk => by omega) fun x hx px => ?_
  by_cases hlx : x < f.c.i.length
  · obtain ⟨i0, i1⟩ := sc.iw x hlx
    have i2 : (f.c.i.getD x 0).toNat < f.c.f.length := by omega
    have br := b.row (f.c.i.getD x 0).toNat (by omega)
    simp only [SS, Nat.reduceEqDiff, Nat.reduceAdd, iput, puts, hlx, sf6, al, i0, i1, i2]
    refine den_for (f.a.getD (f.c.i.getD x 0).toNat []).length (fun e => ∀ e', e' < e → fi2 f x e' = none) (fun k hk => by omega) fun e he pe => ?_
    by_cases hle : e < (f.a.getD (f.c.i.getD x 0).toNat []).length
    · simp only [SS, Nat.reduceEqDiff, Nat.reduceAdd, iput, puts, hle, wrap_succ (show e < 9223372036854775807 by omega)]
      refine ⟨fun h1 => ?_, fun h1 => up rfl hle (nextP pe (by rw [fi2, if_pos h1]))⟩
      refine ⟨_, rfl, H, fun _ _ h => h, ?_, rfl, Nat.le_refl _⟩
      rw [flt_i (findSome_at hlx (findSome_at hle (by rw [fi2, if_neg h1]) pe) px)]
      rfl
    · simp only [SS, Nat.reduceEqDiff, Nat.reduceAdd, iput, puts, hle, wrap_succ (show x < 9223372036854775807 by omega)]
      exact up rfl hlx (nextP px (findSome_none fun j hj => pe j (by omega)))
  · have hi0 : (List.range f.c.i.length).findSome? (fi1 f) = none := findSome_none fun j hj => px j (by omega)
    simp only [SS, Nat.reduceEqDiff, Nat.reduceAdd, iput, puts, hlx, sf4, cl]
    refine den_for f.c.f.length (fun a => ∀ a', a' < a → fc1 f a' = none) (fun k hk => by omega) fun a ha pa => ?_
    by_cases hla : a < f.c.f.length
    · have r1 := sc.rowLen (a := a) (by omega) (by omega)
      simp only [Int.toNat_natCast] at r1
      simp only [SS, Nat.reduceEqDiff, Nat.reduceAdd, iput, puts, hla, cl, r1]
      refine den_for f.c.f.length (fun b => ∀ b', b' < b → fc2 f a b' = none) (fun k hk => by omega) fun c hc pc => ?_
      by_cases hlc : c < f.c.f.length
      · simp only [SS, Nat.reduceEqDiff, Nat.reduceAdd, iput, puts, hlc, r1, wrap_succ (show c < 9223372036854775807 by omega)]
        refine ⟨fun h1 => up rfl hlc (nextP pc (by rw [fc2, if_pos (show f.c.K a c < 0 from h1)])), fun h1 => ?_⟩
        have hki : f.c.T a = f.c.F c := (sc.kIff hla hlc).1 (by show 0 ≤ (f.c.c.getD a []).getD c 0; omega)
        obtain ⟨k0, k1, k2, k3⟩ := sc.kPos hla hlc hki
        have k4 : (f.c.K a c).toNat < f.c.f.length := by omega
        have La := s.len hla
        have Lc := s.len hlc
        have Lk := s.len k4
        have bra := b.row a (by omega)
        have eL : (f.a.getD (f.c.K a c).toNat []).length = (f.a.getD a []).length := by
          have : f.c.f.getD (f.c.K a c).toNat 0 = f.c.f.getD a 0 := k2
          rw [this] at Lk; omega
        simp only [Cat.K, Int.toNat_natCast] at k0 k1 k4 eL
        simp only [SS, Nat.reduceEqDiff, Nat.reduceAdd, iput, puts, sf6, al, hla]
        refine den_for (f.a.getD a []).length (fun e => ∀ e', e' < e → fc3 f a c e' = none) (fun k hk => by omega) fun e he pe => ?_
        by_cases hle : e < (f.a.getD a []).length
        · obtain ⟨v0, v1⟩ := s.val hla hle
          have hT : f.c.t.getD a 0 = f.c.f.getD c 0 := hki
          rw [hT] at v1
          have v2 : (f.a.getD a []).getD e 0 < ((f.a.getD c []).length : Int) := by omega
          have v3 : ((f.a.getD a []).getD e 0).toNat < (f.a.getD c []).length := by omega
          simp only [SS, Nat.reduceEqDiff, Nat.reduceAdd, iput, puts, sf6, al, hle, hlc, k0, k1, k4, eL, v0, v2, v3, wrap_succ (show e < 9223372036854775807 by omega)]
          refine ⟨fun h2 => ?_, fun h2 => up rfl hle (nextP pe (by unfold fc3; exact if_pos h2))⟩
          refine ⟨_, rfl, H, fun _ _ h => h, ?_, rfl, Nat.le_refl _⟩
          rw [flt_c hi0 (findSome_at hla (findSome_at hlc (by rw [fc2, if_neg (show ¬ f.c.K a c < 0 from h1)]; exact findSome_at hle (by unfold fc3; exact if_neg h2) pe) pc) pa)]
          rfl
        · simp only [SS, Nat.reduceEqDiff, Nat.reduceAdd, iput, puts, hle, wrap_succ (show c < 9223372036854775807 by omega)]
          exact up rfl hlc (nextP pc (by rw [fc2, if_neg (show ¬ f.c.K a c < 0 from h1)]; exact findSome_none fun j hj => pe j (by omega)))
      · simp only [SS, Nat.reduceEqDiff, Nat.reduceAdd, iput, puts, hlc, wrap_succ (show a < 9223372036854775807 by omega)]
        exact up rfl hla (nextP pa (findSome_none fun j hj => pc j (by omega)))
    · simp only [SS, Nat.reduceEqDiff, Nat.reduceAdd, iput, puts, hla]
      refine ⟨_, rfl, H, fun _ _ h => h, ?_, rfl, Nat.le_refl _⟩
      rw [flt_0 hi0 (findSome_none fun j hj => pa j (by omega))]
      rfl

def V_spec_l19Fault : Vc :=
  .op true (.p .box [.t 0]) <|
  .op true (.p (.fad 0) [.t 1]) <|
  .op true (.p (.ld (some 5)) [.t 2]) <|
  .op true (.new [int 0, .nil, .nil, .nil, .nil]) <|
  .op true (.st 5 (.t 4) (.t 3)) <|
  .loop 0 [.c (int 0)] <|
  .op true (.p (.fad 0) [.t 4]) <|
  .op true (.p (.ld none) [.t 7]) <|
  .op true (.p (.bin .lss) [.t 6, .t 8]) <|
  .br 9
   (.loop 1 [.c (int 0)] <|
   .op true (.p (.fad 5) [.t 1]) <|
   .op true (.p (.ld none) [.t 11]) <|
   .op true (.p (.iad 1) [.t 12, .t 6]) <|
   .op true (.p (.ld none) [.t 13]) <|
   .op true (.p (.bin .lss) [.t 10, .t 14]) <|
   .br 15
    (.op true (.p (.fad 6) [.t 1]) <|
    .op true (.p (.ld none) [.t 16]) <|
    .op true (.p (.fad 3) [.t 4]) <|
    .op true (.p (.ld none) [.t 18]) <|
    .op true (.p (.iad 1) [.t 19, .t 6]) <|
    .op true (.p (.ld none) [.t 20]) <|
    .op true (.p (.iad 1) [.t 17, .t 21]) <|
    .op true (.p (.ld none) [.t 22]) <|
    .op true (.p (.iad 1) [.t 23, .t 10]) <|
    .op true (.p (.ld none) [.t 24]) <|
    .op true (.p (.bin .neq) [.t 25, .t 10]) <|
    .br 26
     (.ret [(.c (int 1), none), (.t 6, none), (.t 10, none), (.c (int 0), none)])
     (.op true (.p (.bin .add) [.t 10, .c (int 1)]) <|
     .again 1 [.t 27]))
    (.op true (.p (.bin .add) [.t 6, .c (int 1)]) <|
    .again 0 [.t 16]))
   (.loop 0 [.c (int 0)] <|
   .op true (.p (.fad 1) [.t 4]) <|
   .op true (.p (.ld none) [.t 11]) <|
   .op true (.p .len [.t 12]) <|
   .op true (.p (.bin .lss) [.t 10, .t 13]) <|
   .br 14
    (.loop 1 [.c (int 0)] <|
    .op true (.p (.fad 1) [.t 4]) <|
    .op true (.p (.ld none) [.t 16]) <|
    .op true (.p .len [.t 17]) <|
    .op true (.p (.bin .lss) [.t 15, .t 18]) <|
    .br 19
     (.op true (.p (.fad 2) [.t 4]) <|
     .op true (.p (.ld none) [.t 20]) <|
     .op true (.p (.iad 1) [.t 21, .t 10]) <|
     .op true (.p (.ld none) [.t 22]) <|
     .op true (.p (.fad 1) [.t 4]) <|
     .op true (.p (.ld none) [.t 24]) <|
     .op true (.p (.iad 1) [.t 25, .t 15]) <|
     .op true (.p (.ld none) [.t 26]) <|
     .op true (.p (.bin .neq) [.t 23, .t 27]) <|
     .br 28
      (.op true (.p (.bin .add) [.t 15, .c (int 1)]) <|
      .again 1 [.t 29])
      (.loop 2 [.c (int 0)] <|
      .op true (.p (.fad 5) [.t 1]) <|
      .op true (.p (.ld none) [.t 30]) <|
      .op true (.p (.fad 1) [.t 4]) <|
      .op true (.p (.ld none) [.t 32]) <|
      .op true (.p (.iad 1) [.t 33, .t 10]) <|
      .op true (.p (.ld none) [.t 34]) <|
      .op true (.p (.iad 1) [.t 31, .t 35]) <|
      .op true (.p (.ld none) [.t 36]) <|
      .op true (.p (.bin .lss) [.t 29, .t 37]) <|
      .br 38
       (.op true (.p (.fad 6) [.t 1]) <|
       .op true (.p (.ld none) [.t 39]) <|
       .op true (.p (.fad 4) [.t 4]) <|
       .op true (.p (.ld none) [.t 41]) <|
       .op true (.p (.iad 1) [.t 42, .t 10]) <|
       .op true (.p (.ld none) [.t 43]) <|
       .op true (.p (.iad 1) [.t 44, .t 15]) <|
       .op true (.p (.ld none) [.t 45]) <|
       .op true (.p (.iad 1) [.t 40, .t 46]) <|
       .op true (.p (.ld none) [.t 47]) <|
       .op true (.p (.iad 1) [.t 48, .t 29]) <|
       .op true (.p (.ld none) [.t 49]) <|
       .op true (.p (.fad 6) [.t 1]) <|
       .op true (.p (.ld none) [.t 51]) <|
       .op true (.p (.iad 1) [.t 52, .t 15]) <|
       .op true (.p (.ld none) [.t 53]) <|
       .op true (.p (.fad 6) [.t 1]) <|
       .op true (.p (.ld none) [.t 55]) <|
       .op true (.p (.iad 1) [.t 56, .t 10]) <|
       .op true (.p (.ld none) [.t 57]) <|
       .op true (.p (.iad 1) [.t 58, .t 29]) <|
       .op true (.p (.ld none) [.t 59]) <|
       .op true (.p (.iad 1) [.t 54, .t 60]) <|
       .op true (.p (.ld none) [.t 61]) <|
       .op true (.p (.bin .neq) [.t 50, .t 62]) <|
       .br 63
        (.ret [(.c (int 2), none), (.t 10, none), (.t 15, none), (.t 29, none)])
        (.op true (.p (.bin .add) [.t 29, .c (int 1)]) <|
        .again 2 [.t 64]))
       (.op true (.p (.bin .add) [.t 15, .c (int 1)]) <|
       .again 1 [.t 39])))
     (.op true (.p (.bin .add) [.t 10, .c (int 1)]) <|
     .again 0 [.t 20]))
    (.ret [(.c (int 0), none), (.c (int 0), none), (.c (int 0), none), (.c (int 0), none)]))
set_option maxHeartbeats 2000000 in
theorem l19Fault_fz (h : Has P ν 279 1 V_spec_l19Fault) (f : SF) (b : SmallF f) (s : SShape f) : Fz (OkM P ν) 279 [.agg f.cells] (q4 (flt f)) := by
  refine Fn.fz (fun H nx => h _ _ _ _ rfl fun hwf => ?_) (q4_frz _)
  unfold V_spec_l19Fault
  have sc := s.cat.1
  have n40 := sc.n40
  have tl := sc.tl
  have il := sc.il
  have cl := sc.cl
  have o0 := sc.o0
  have o8 := sc.o8
  have al := s.al
  have zl := s.zl
  have bz := b.z
  simp only [SS, Nat.reduceEqDiff, Nat.reduceAdd, iput, puts, p_boxs, p_lds5]
  refine den_new ?_
  refine den_stA (o := nx) (m := 5) rfl rfl (hput_eq _ _ _) rfl rfl rfl ?_
  rw [hput_hput]
  have x2 : hput H nx (some f.c.cells) nx = some f.c.cells := hput_eq _ _ _
  have sub : ∀ o d, H o = some d → hput H nx (some f.c.cells) o = some d := fun o d hd => by
    by_cases e : o = nx
    · rw [e, hwf nx (Nat.le_refl _)] at hd; cases hd
    · rw [hput_ne _ _ _ _ e]; exact hd
  show den _ _ _ _ _ (hput H nx (some f.c.cells)) _ _
  generalize hput H nx (some f.c.cells) = H2 at x2 sub
  refine den_for f.c.i.length (fun x => ∀ x', x' < x → fi1 f x' = none) (fun k hk => by omega) fun x hx px => ?_
  by_cases hlx : x < f.c.i.length
  · have hlx' : (x : Int) < f.c.o := by omega
    have hlz : x < f.z.length := by omega
    obtain ⟨i0, i1⟩ := sc.iw x hlx
    have i2 : (f.c.i.getD x 0).toNat < f.c.f.length := by omega
    have br := b.row (f.c.i.getD x 0).toNat (by omega)
    have L := s.len i2
    have hF : f.c.f.getD (f.c.i.getD x 0).toNat 0 = x := (sc.id x hlx).1
    rw [hF, Int.toNat_natCast] at L
    simp only [SS, Nat.reduceEqDiff, Nat.reduceAdd, iput, puts, p_fadm (l := 5) x2 rfl, p_ldm (n := 5) x2 rfl, cat0, hlx']
    refine den_for (f.a.getD (f.c.i.getD x 0).toNat []).length (fun e => ∀ e', e' < e → fi2 f x e' = none) (fun k hk => by omega) fun e he pe => ?_
    by_cases hle : e < (f.a.getD (f.c.i.getD x 0).toNat []).length
    · have hle' : (e : Int) < f.z.getD x 0 := by omega
      simp only [SS, Nat.reduceEqDiff, Nat.reduceAdd, iput, puts, sf5, sf6, p_fadm (l := 5) x2 rfl, p_ldm (n := 5) x2 rfl, cat3, hlx, hlz, al, hle, hle', i0, i1, i2, wrap_succ (show e < 9223372036854775807 by omega)]
      refine ⟨fun h1 => ?_, fun h1 => up rfl hle (nextP pe (by rw [fi2, if_pos h1]))⟩
      refine ⟨_, rfl, H, sub, ?_, rfl, by omega⟩
      rw [flt_i (findSome_at hlx (findSome_at hle (by rw [fi2, if_neg h1]) pe) px)]
      rfl
    · have hle' : ¬ (e : Int) < f.z.getD x 0 := by omega
      simp only [SS, Nat.reduceEqDiff, Nat.reduceAdd, iput, puts, sf5, hlz, hle', wrap_succ (show x < 9223372036854775807 by omega)]
      exact up rfl hlx (nextP px (findSome_none fun j hj => pe j (by omega)))
  · have hlx' : ¬ (x : Int) < f.c.o := by omega
    have hi0 : (List.range f.c.i.length).findSome? (fi1 f) = none := findSome_none fun j hj => px j (by omega)
    simp only [SS, Nat.reduceEqDiff, Nat.reduceAdd, iput, puts, p_fadm (l := 5) x2 rfl, p_ldm (n := 5) x2 rfl, cat0, hlx']
    refine den_for f.c.f.length (fun a => ∀ a', a' < a → fc1 f a' = none) (fun k hk => by omega) fun a ha pa => ?_
    by_cases hla : a < f.c.f.length
    · have r1 := sc.rowLen (a := a) (by omega) (by omega)
      simp only [Int.toNat_natCast] at r1
      simp only [SS, Nat.reduceEqDiff, Nat.reduceAdd, iput, puts, p_fadm (l := 5) x2 rfl, p_ldm (n := 5) x2 rfl, cat1, hla]
      refine den_for f.c.f.length (fun b => ∀ b', b' < b → fc2 f a b' = none) (fun k hk => by omega) fun c hc pc => ?_
      by_cases hlc : c < f.c.f.length
      · simp only [SS, Nat.reduceEqDiff, Nat.reduceAdd, iput, puts, p_fadm (l := 5) x2 rfl, p_ldm (n := 5) x2 rfl, cat1, cat2, tl, hla, hlc, wrap_succ (show c < 9223372036854775807 by omega)]
        refine ⟨fun h1 => up rfl hlc (nextP pc (by rw [fc2, if_pos (by have := sc.kNeg hla hlc h1; omega)])), fun h1 => ?_⟩
        obtain ⟨k0, k1, k2, k3⟩ := sc.kPos hla hlc h1
        have hnk : ¬ f.c.K a c < 0 := by omega
        have k4 : (f.c.K a c).toNat < f.c.f.length := by omega
        have La := s.len hla
        have Lc := s.len hlc
        have Lk := s.len k4
        have bra := b.row a (by omega)
        have eL : (f.a.getD (f.c.K a c).toNat []).length = (f.a.getD a []).length := by
          have : f.c.f.getD (f.c.K a c).toNat 0 = f.c.f.getD a 0 := k2
          rw [this] at Lk; omega
        have fz := sc.fLt hla
        simp only [Cat.F, Int.toNat_natCast] at fz
        obtain ⟨z0, z1⟩ := fz
        have z2 : f.c.f.getD a 0 < (f.z.length : Int) := by omega
        have z3 : (f.c.f.getD a 0).toNat < f.z.length := by omega
        simp only [Cat.K, Int.toNat_natCast] at k0 k1 k4 eL
        refine den_for (f.a.getD a []).length (fun e => ∀ e', e' < e → fc3 f a c e' = none) (fun k hk => by omega) fun e he pe => ?_
        by_cases hle : e < (f.a.getD a []).length
        · have hle' : (e : Int) < f.z.getD (f.c.f.getD a 0).toNat 0 := by omega
          obtain ⟨v0, v1⟩ := s.val hla hle
          have hT : f.c.t.getD a 0 = f.c.f.getD c 0 := h1
          rw [hT] at v1
          have v2 : (f.a.getD a []).getD e 0 < ((f.a.getD c []).length : Int) := by omega
          have v3 : ((f.a.getD a []).getD e 0).toNat < (f.a.getD c []).length := by omega
          simp only [SS, Nat.reduceEqDiff, Nat.reduceAdd, iput, puts, sf5, sf6, p_fadm (l := 5) x2 rfl, p_ldm (n := 5) x2 rfl, cat1, cat4, cl, r1, al, hla, hlc, hle, hle', z0, z2, z3, k0, k1, k4, eL, v0, v2, v3, wrap_succ (show e < 9223372036854775807 by omega)]
          refine ⟨fun h2 => ?_, fun h2 => up rfl hle (nextP pe (by unfold fc3; exact if_pos h2))⟩
          refine ⟨_, rfl, H, sub, ?_, rfl, by omega⟩
          rw [flt_c hi0 (findSome_at hla (findSome_at hlc (by rw [fc2, if_neg hnk]; exact findSome_at hle (by unfold fc3; exact if_neg h2) pe) pc) pa)]
          rfl
        · have hle' : ¬ (e : Int) < f.z.getD (f.c.f.getD a 0).toNat 0 := by omega
          simp only [SS, Nat.reduceEqDiff, Nat.reduceAdd, iput, puts, sf5, p_fadm (l := 5) x2 rfl, p_ldm (n := 5) x2 rfl, cat1, hla, z0, z2, z3, hle', wrap_succ (show c < 9223372036854775807 by omega)]
          exact up rfl hlc (nextP pc (by rw [fc2, if_neg hnk]; exact findSome_none fun j hj => pe j (by omega)))
      · simp only [SS, Nat.reduceEqDiff, Nat.reduceAdd, iput, puts, p_fadm (l := 5) x2 rfl, p_ldm (n := 5) x2 rfl, cat1, hlc, wrap_succ (show a < 9223372036854775807 by omega)]
        exact up rfl hla (nextP pa (findSome_none fun j hj => pc j (by omega)))
    · simp only [SS, Nat.reduceEqDiff, Nat.reduceAdd, iput, puts, p_fadm (l := 5) x2 rfl, p_ldm (n := 5) x2 rfl, cat1, hla]
      refine ⟨_, rfl, H, sub, ?_, rfl, by omega⟩
      rw [flt_0 hi0 (findSome_none fun j hj => pa j (by omega))]
      rfl
end Go.Av
