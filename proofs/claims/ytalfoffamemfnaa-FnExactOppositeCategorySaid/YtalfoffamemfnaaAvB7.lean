/-
  Epis, joint epis, balanced categories: the program's and the reference's.
-/
import Derived.Test.YtalfoffamemfnaaAvB6
namespace Go.Av
open Classical
set_option linter.unusedSimpArgs false
set_option linter.unusedVariables false
variable {P : Program} {ν : Nat → FuncId}

def JEpi (c : Cat) (x : Int) (as : List Int) : Prop := ∀ s, s < c.o.toNat → Canc (homL c x s) as.length fun g w => c.K (as.getD w 0) g
def V_Category_jointlyEpi : Vc :=
  .op true (.p .box [.t 0]) <|
  .op true (.p .box [.t 2]) <|
  .loop 0 [.c (int 0)] <|
  .op true (.p (.ld none) [.t 3]) <|
  .op true (.p .nck [.t 6]) <|
  .op true (.p (.fad 0) [.t 7]) <|
  .op true (.p (.ld none) [.t 8]) <|
  .op true (.p (.bin .lss) [.t 5, .t 9]) <|
  .br 10
   (.op true (.p (.ld none) [.t 3]) <|
   .op true (.call (.f 33) [.t 11, .t 1, .t 5]) <|
   .op true (.p (.ld none) [.t 4]) <|
   .op true (.p .len [.t 13]) <|
   .op true (.p (.mkf 381) [.t 3, .t 4]) <|
   .op true (.call (.f 373) [.t 12, .t 14, .t 15]) <|
   .op true (.p .bnot [.t 16]) <|
   .br 17
    (.ret [(.c (bool false), none)])
    (.op true (.p (.bin .add) [.t 5, .c (int 1)]) <|
    .again 0 [.t 18]))
   (.ret [(.c (bool true), none)])
def V_Category_jointlyEpi_1 : Vc :=
  .op true (.p (.ld none) [.t 2]) <|
  .op true (.p (.ld none) [.t 3]) <|
  .op true (.p (.iad 1) [.t 5, .t 1]) <|
  .op true (.p (.ld none) [.t 6]) <|
  .op true (.call (.f 34) [.t 4, .t 7, .t 0]) <|
  .ret [(.t 8, none)]
theorem je1_fz (ht : Has P ν 34 3 V_Category_then) (h : Has P ν 381 4 V_Category_jointlyEpi_1) (c : Cat) (s : Shape c) (as : List Int) (hw : Wn as c.f.length) (g : Int) (g0 : 0 ≤ g) (g1 : g < c.f.length) (w : Nat) (hl : w < as.length) : Fz (OkM P ν) 381 [int g, int w, .ptr [.ptr c.cells 0] 0, .ptr [islice as] 0] (int (c.K (as.getD w 0) g)) := by
  refine Fn.fzi fun H nx => h _ _ _ _ rfl fun hwf => ?_
  unfold V_Category_jointlyEpi_1
  obtain ⟨w0, w1⟩ := hw w hl
  simp only [SS, Nat.reduceEqDiff, Nat.reduceAdd, iput, puts, hl]
  refine den_call (fc := (34, [])) rfl (by first | (simp only [SS, Nat.reduceEqDiff, Nat.reduceAdd, iput, puts, FF, frzL_cat]; done) | (simp only [SS, Nat.reduceEqDiff, Nat.reduceAdd, iput, puts, FF, frzL_cat]; rfl)) (s.then_fz ht (as.getD w 0) g w0 w1 g0 g1) ?_
  simp only [SS, Nat.reduceEqDiff, Nat.reduceAdd, iput, puts]
  exact ⟨_, rfl, H, fun _ _ h => h, rfl, rfl, Nat.le_refl _⟩
theorem jointlyEpi_ok (hh : Has P ν 33 3 V_Category_hom) (ht : Has P ν 34 3 V_Category_then) (hca : Has P ν 373 3 V_cancels) (h1 : Has P ν 381 4 V_Category_jointlyEpi_1) (h : Has P ν 266 3 V_Category_jointlyEpi) (c : Cat) (s : Shape c) (x : Int) (as : List Int) (hl : as.length ≤ 1048576) (hw : Wn as c.f.length) : Fn P ν 266 [.ptr c.cells 0, int x, islice as] (bool (decide (JEpi c x as))) := by
  intro H nx
  refine h _ _ _ _ rfl fun hwf => ?_
  unfold V_Category_jointlyEpi
  have n40 := s.n40
  have tl := s.tl
  have o0 := s.o0
  have o8 := s.o8
  simp only [SS, Nat.reduceEqDiff, Nat.reduceAdd, iput, puts, p_boxI, p_boxP]
  refine den_for c.o.toNat (fun y => ∀ y', y' < y → Canc (homL c x y') as.length fun g w => c.K (as.getD w 0) g) (fun k hk => by omega) fun y hy py => ?_
  by_cases hlt : y < c.o.toNat
  · have hlt' : (y : Int) < c.o := by omega
    simp only [SS, Nat.reduceEqDiff, Nat.reduceAdd, iput, puts, cat0, hlt']
    refine den_call (fc := (33, [])) rfl (by first | (simp only [SS, Nat.reduceEqDiff, Nat.reduceAdd, iput, puts, FF, frzL_cat]; done) | (simp only [SS, Nat.reduceEqDiff, Nat.reduceAdd, iput, puts, FF, frzL_cat]; rfl)) (hom_fz hh c x y (by omega) (by omega)) ?_
    simp only [SS, Nat.reduceEqDiff, Nat.reduceAdd, iput, puts, p_mkf]
    have hl1 := homL_len s x y
    refine den_call (fc := (373, [])) rfl (by first | (simp only [SS, Nat.reduceEqDiff, Nat.reduceAdd, iput, puts, FF, frzL_cat, frzL_fn]; done) | (simp only [SS, Nat.reduceEqDiff, Nat.reduceAdd, iput, puts, FF, frzL_cat, frzL_fn]; rfl)) ((cancels_ok hca (homL c x y) as.length 381 [.ptr [.ptr c.cells 0] 0, .ptr [islice as] 0] (fun g w => c.K (as.getD w 0) g) (by omega) hl (fun _ => rfl) fun i w hi hw' => je1_fz ht h1 c s as hw _ (homL_at hi).1 (homL_at hi).2.1 w hw').fzb) ?_
    simp only [SS, Nat.reduceEqDiff, Nat.reduceAdd, iput, puts, wrap_succ (show y < 9223372036854775807 by omega)]
    refine ⟨fun h1 => ?_, fun h1 => up rfl hlt (nextP py h1)⟩
    exact ⟨_, rfl, H, fun _ _ h => h, ret_false (fun hJ => h1 (hJ y hlt)), rfl, Nat.le_refl _⟩
  · have hlt' : ¬ (y : Int) < c.o := by omega
    simp only [SS, Nat.reduceEqDiff, Nat.reduceAdd, iput, puts, cat0, hlt']
    exact ⟨_, rfl, H, fun _ _ h => h, ret_true (fun y' hy' => py y' (by omega)), rfl, Nat.le_refl _⟩


def Mono (c : Cat) (f : Int) : Prop := ∀ g : Nat, g < c.f.length → ∀ h : Nat, g + 1 ≤ h → h < c.f.length → ¬ (c.F g = c.F h ∧ c.T g = c.F f ∧ c.T h = c.F f ∧ c.K g f = c.K h f)
def Epi (c : Cat) (f : Int) : Prop := ∀ g : Nat, g < c.f.length → ∀ h : Nat, g + 1 ≤ h → h < c.f.length → ¬ (c.T g = c.T h ∧ c.F g = c.T f ∧ c.F h = c.T f ∧ c.K f g = c.K f h)
theorem one_iff {p : Nat → Prop} {f : Int} : (∀ w, w < [f].length → p w) ↔ p 0 := ⟨fun h => h 0 (by simp), fun h w hw => by simp at hw; subst hw; exact h⟩
theorem Mono_iff {c : Cat} (s : Shape c) (f : Int) : JMono c (c.F f) [f] ↔ Mono c f := by
  rw [show c.F f = c.F ([f].getD 0 0) from rfl, JMono_iff s]
  constructor
  · intro h g hg k hk hk' ⟨e1, e2, e3, e4⟩
    exact h g hg k hk hk' ⟨e1, by rw [e2, e3], e2, one_iff.2 e4⟩
  · intro h g hg k hk hk' ⟨e1, e2, e3, e4⟩
    exact h g hg k hk hk' ⟨e1, e3, by rw [← e2]; exact e3, one_iff.1 e4⟩
theorem Epi_iff {c : Cat} (s : Shape c) (f : Int) : JEpi c (c.T f) [f] ↔ Epi c f := by
  have il := s.il
  constructor
  · intro h g hg k hk hk' ⟨e1, e2, e3, e4⟩
    have f1 := s.tLt hg
    exact (Canc_sel _ _ _ _).1 (h (c.T g).toNat (by omega)) g k (by omega) hk' (by simp only [Bool.and_eq_true, beq_iff_eq]; exact ⟨e2, by omega⟩) (by simp only [Bool.and_eq_true, beq_iff_eq]; exact ⟨e3, by omega⟩) (one_iff.2 e4)
  · intro h y hy
    refine (Canc_sel _ _ _ _).2 fun g k h1 h2 h3 h4 h5 => ?_
    simp only [Bool.and_eq_true, beq_iff_eq] at h3 h4
    exact h g (by omega) k (by omega) h2 ⟨by rw [h3.2, h4.2], h3.1, h4.1, one_iff.1 h5⟩

def V_Category_isMono : Vc :=
  .op true (.p .nck [.t 0]) <|
  .op true (.p (.fad 1) [.t 2]) <|
  .op true (.p (.ld none) [.t 3]) <|
  .op true (.p (.iad 1) [.t 4, .t 1]) <|
  .op true (.p (.ld none) [.t 5]) <|
  .op true (.p (.msl 1 [int 0] [(0, 1)]) [.t 1]) <|
  .op true (.call (.f 244) [.t 0, .t 6, .t 7]) <|
  .ret [(.t 8, none)]
def V_Category_isEpi : Vc :=
  .op true (.p .nck [.t 0]) <|
  .op true (.p (.fad 2) [.t 2]) <|
  .op true (.p (.ld none) [.t 3]) <|
  .op true (.p (.iad 1) [.t 4, .t 1]) <|
  .op true (.p (.ld none) [.t 5]) <|
  .op true (.p (.msl 1 [int 0] [(0, 1)]) [.t 1]) <|
  .op true (.call (.f 266) [.t 0, .t 6, .t 7]) <|
  .ret [(.t 8, none)]
structure HMono (P : Program) (ν : Nat → FuncId) : Prop where
  cancels : Has P ν 373 3 V_cancels
  jm1 : Has P ν 374 4 V_Category_jointlyMono_1
  jm : Has P ν 244 3 V_Category_jointlyMono
  je1 : Has P ν 381 4 V_Category_jointlyEpi_1
  je : Has P ν 266 3 V_Category_jointlyEpi
  isMono : Has P ν 289 2 V_Category_isMono
  isEpi : Has P ν 290 2 V_Category_isEpi
/-- What the test for one side calls. -/
structure HMono1 (P : Program) (ν : Nat → FuncId) : Prop where
  cancels : Has P ν 373 3 V_cancels
  jm1 : Has P ν 374 4 V_Category_jointlyMono_1
  jm : Has P ν 244 3 V_Category_jointlyMono
  isMono : Has P ν 289 2 V_Category_isMono
theorem Shape.isMono1_fz (hh : Has P ν 33 3 V_Category_hom) (ht : Has P ν 34 3 V_Category_then) (M : HMono1 P ν) {c : Cat} (s : Shape c) (f : Int) (f0 : 0 ≤ f) (f1 : f < c.f.length) : Fz (OkM P ν) 289 [.ptr c.cells 0, int f] (bool (decide (Mono c f))) := by
  refine Fn.fzb fun H nx => M.isMono _ _ _ _ rfl fun hwf => ?_
  unfold V_Category_isMono
  have f2 : f.toNat < c.f.length := by omega
  simp only [SS, Nat.reduceEqDiff, Nat.reduceAdd, iput, puts, cat1, f0, f1, f2]
  refine den_call (fc := (244, [])) rfl (by first | (simp only [SS, Nat.reduceEqDiff, Nat.reduceAdd, iput, puts, FF, frzL_cat]; done) | (simp only [SS, Nat.reduceEqDiff, Nat.reduceAdd, iput, puts, FF, frzL_cat]; rfl)) ((jointlyMono_ok hh ht M.cancels M.jm1 M.jm c s (c.F f) [f] (by simp) ((Wn1 c f).2 ⟨f0, f1⟩)).fzb) ?_
  refine ⟨_, rfl, H, fun _ _ h => h, ?_, rfl, Nat.le_refl _⟩
  simp only [SS, Nat.reduceEqDiff, Nat.reduceAdd, iput, puts, Mono_iff s f]
theorem Shape.isMono_fz (hh : Has P ν 33 3 V_Category_hom) (ht : Has P ν 34 3 V_Category_then) (M : HMono P ν) {c : Cat} (s : Shape c) (f : Int) (f0 : 0 ≤ f) (f1 : f < c.f.length) : Fz (OkM P ν) 289 [.ptr c.cells 0, int f] (bool (decide (Mono c f))) := s.isMono1_fz hh ht ⟨M.cancels, M.jm1, M.jm, M.isMono⟩ f f0 f1
theorem Shape.isEpi_fz (hh : Has P ν 33 3 V_Category_hom) (ht : Has P ν 34 3 V_Category_then) (M : HMono P ν) {c : Cat} (s : Shape c) (f : Int) (f0 : 0 ≤ f) (f1 : f < c.f.length) : Fz (OkM P ν) 290 [.ptr c.cells 0, int f] (bool (decide (Epi c f))) := by
  refine Fn.fzb fun H nx => M.isEpi _ _ _ _ rfl fun hwf => ?_
  unfold V_Category_isEpi
  have tl := s.tl
  have f2 : f.toNat < c.f.length := by omega
  simp only [SS, Nat.reduceEqDiff, Nat.reduceAdd, iput, puts, cat2, tl, f0, f1, f2]
  refine den_call (fc := (266, [])) rfl (by first | (simp only [SS, Nat.reduceEqDiff, Nat.reduceAdd, iput, puts, FF, frzL_cat]; done) | (simp only [SS, Nat.reduceEqDiff, Nat.reduceAdd, iput, puts, FF, frzL_cat]; rfl)) ((jointlyEpi_ok hh ht M.cancels M.je1 M.je c s (c.T f) [f] (by simp) ((Wn1 c f).2 ⟨f0, f1⟩)).fzb) ?_
  refine ⟨_, rfl, H, fun _ _ h => h, ?_, rfl, Nat.le_refl _⟩
  simp only [SS, Nat.reduceEqDiff, Nat.reduceAdd, iput, puts, Epi_iff s f]

def V_spec_l05Mono : Vc :=
  .op true (.p .box [.t 0]) <|
  .loop 0 [.c (int 0)] <|
  .op true (.p (.fad 1) [.t 2]) <|
  .op true (.p (.ld none) [.t 4]) <|
  .op true (.p .len [.t 5]) <|
  .op true (.p (.bin .lss) [.t 3, .t 6]) <|
  .br 7
   (.op true (.p (.bin .add) [.t 3, .c (int 1)]) <|
   .loop 1 [.t 8] <|
   .op true (.p (.fad 1) [.t 2]) <|
   .op true (.p (.ld none) [.t 10]) <|
   .op true (.p .len [.t 11]) <|
   .op true (.p (.bin .lss) [.t 9, .t 12]) <|
   .br 13
    (.op true (.p (.fad 1) [.t 2]) <|
    .op true (.p (.ld none) [.t 14]) <|
    .op true (.p (.iad 1) [.t 15, .t 3]) <|
    .op true (.p (.ld none) [.t 16]) <|
    .op true (.p (.fad 1) [.t 2]) <|
    .op true (.p (.ld none) [.t 18]) <|
    .op true (.p (.iad 1) [.t 19, .t 9]) <|
    .op true (.p (.ld none) [.t 20]) <|
    .op true (.p (.bin .eql) [.t 17, .t 21]) <|
    .br 22
     (.op true (.p (.fad 2) [.t 2]) <|
     .op true (.p (.ld none) [.t 23]) <|
     .op true (.p (.iad 1) [.t 24, .t 3]) <|
     .op true (.p (.ld none) [.t 25]) <|
     .op true (.p (.fad 1) [.t 2]) <|
     .op true (.p (.ld none) [.t 27]) <|
     .op true (.p (.iad 1) [.t 28, .t 1]) <|
     .op true (.p (.ld none) [.t 29]) <|
     .op true (.p (.bin .eql) [.t 26, .t 30]) <|
     .br 31
      (.op true (.p (.fad 2) [.t 2]) <|
      .op true (.p (.ld none) [.t 32]) <|
      .op true (.p (.iad 1) [.t 33, .t 9]) <|
      .op true (.p (.ld none) [.t 34]) <|
      .op true (.p (.fad 1) [.t 2]) <|
      .op true (.p (.ld none) [.t 36]) <|
      .op true (.p (.iad 1) [.t 37, .t 1]) <|
      .op true (.p (.ld none) [.t 38]) <|
      .op true (.p (.bin .eql) [.t 35, .t 39]) <|
      .br 40
       (.op true (.p (.fad 4) [.t 2]) <|
       .op true (.p (.ld none) [.t 41]) <|
       .op true (.p (.iad 1) [.t 42, .t 3]) <|
       .op true (.p (.ld none) [.t 43]) <|
       .op true (.p (.iad 1) [.t 44, .t 1]) <|
       .op true (.p (.ld none) [.t 45]) <|
       .op true (.p (.fad 4) [.t 2]) <|
       .op true (.p (.ld none) [.t 47]) <|
       .op true (.p (.iad 1) [.t 48, .t 9]) <|
       .op true (.p (.ld none) [.t 49]) <|
       .op true (.p (.iad 1) [.t 50, .t 1]) <|
       .op true (.p (.ld none) [.t 51]) <|
       .op true (.p (.bin .eql) [.t 46, .t 52]) <|
       .br 53
        (.ret [(.c (bool false), none)])
        (.op true (.p (.bin .add) [.t 9, .c (int 1)]) <|
        .again 1 [.t 54]))
       (.op true (.p (.bin .add) [.t 9, .c (int 1)]) <|
       .again 1 [.t 41]))
      (.op true (.p (.bin .add) [.t 9, .c (int 1)]) <|
      .again 1 [.t 32]))
     (.op true (.p (.bin .add) [.t 9, .c (int 1)]) <|
     .again 1 [.t 23]))
    (.op true (.p (.bin .add) [.t 3, .c (int 1)]) <|
    .again 0 [.t 14]))
   (.ret [(.c (bool true), none)])
set_option maxHeartbeats 1000000 in
theorem Shape.l05Mono_fz (h : Has P ν 287 2 V_spec_l05Mono) {c : Cat} (s : Shape c) (f : Int) (f0 : 0 ≤ f) (f1 : f < c.f.length) : Fz (OkM P ν) 287 [.agg c.cells, int f] (bool (decide (Mono c f))) := by
  refine Fn.fzb fun H nx => h _ _ _ _ rfl fun hwf => ?_
  unfold V_spec_l05Mono
  have n40 := s.n40
  have tl := s.tl
  have cl := s.cl
  have f2 : f.toNat < c.f.length := by omega
  have rf := s.rowLen f0 f1
  simp only [SS, Nat.reduceEqDiff, Nat.reduceAdd, iput, puts, p_boxc]
  refine den_for c.f.length (fun g => ∀ g' : Nat, g' < g → ∀ h : Nat, g' + 1 ≤ h → h < c.f.length → ¬ (c.F g' = c.F h ∧ c.T g' = c.F f ∧ c.T h = c.F f ∧ c.K g' f = c.K h f)) (fun k hk => by omega) fun g hg pg => ?_
  by_cases hlg : g < c.f.length
  · simp only [SS, Nat.reduceEqDiff, Nat.reduceAdd, iput, puts, cat1, hlg, wrap_succ (show g < 9223372036854775807 by omega)]
    refine den_forS c.f.length (g + 1) (by omega) rfl (fun k => ∀ h : Nat, g + 1 ≤ h → h < k → ¬ (c.F g = c.F h ∧ c.T g = c.F f ∧ c.T h = c.F f ∧ c.K g f = c.K h f)) (fun k hk hk' => by omega) fun k hk hk' pk => ?_
    by_cases hlk : k < c.f.length
    · have next : ¬ (c.F g = c.F k ∧ c.T g = c.F f ∧ c.T k = c.F f ∧ c.K g f = c.K k f) → (g + 1 ≤ k + 1 ∧ ∀ h : Nat, g + 1 ≤ h → h < k + 1 → ¬ (c.F g = c.F h ∧ c.T g = c.F f ∧ c.T h = c.F f ∧ c.K g f = c.K h f)) := fun hn => ⟨by omega, fun h' hh1 hh2 => by
        by_cases e : h' = k
        · subst e; exact hn
        · exact pk h' hh1 (by omega)⟩
      have r1 := s.rowLen (a := g) (by omega) (by omega)
      have r2 := s.rowLen (a := k) (by omega) (by omega)
      simp only [Int.toNat_natCast] at r1 r2
      simp only [SS, Nat.reduceEqDiff, Nat.reduceAdd, iput, puts, cat1, cat2, cat4, tl, cl, hlg, hlk, f0, f1, f2, rf, r1, r2, wrap_succ (show k < 9223372036854775807 by omega)]
      refine ⟨fun h1 => ⟨fun h2 => ⟨fun h3 => ⟨fun h4 => ?_, fun h4 => up rfl hlk (next fun hn => h4 hn.2.2.2)⟩, fun h3 => up rfl hlk (next fun hn => h3 hn.2.2.1)⟩, fun h2 => up rfl hlk (next fun hn => h2 hn.2.1)⟩, fun h1 => up rfl hlk (next fun hn => h1 hn.1)⟩
      exact ⟨_, rfl, H, fun _ _ h => h, ret_false (fun hM => hM g hlg k hk hlk ⟨h1, h2, h3, h4⟩), rfl, Nat.le_refl _⟩
    · simp only [SS, Nat.reduceEqDiff, Nat.reduceAdd, iput, puts, cat1, hlk, wrap_succ (show g < 9223372036854775807 by omega)]
      exact up rfl hlg (nextP pg fun h' hh1 hh2 => pk h' hh1 (by omega))
  · simp only [SS, Nat.reduceEqDiff, Nat.reduceAdd, iput, puts, cat1, hlg]
    exact ⟨_, rfl, H, fun _ _ h => h, ret_true (fun g' hg' h' hh1 hh2 => pg g' (by omega) h' hh1 hh2), rfl, Nat.le_refl _⟩

def V_spec_l05Epi : Vc :=
  .op true (.p .box [.t 0]) <|
  .loop 0 [.c (int 0)] <|
  .op true (.p (.fad 1) [.t 2]) <|
  .op true (.p (.ld none) [.t 4]) <|
  .op true (.p .len [.t 5]) <|
  .op true (.p (.bin .lss) [.t 3, .t 6]) <|
  .br 7
   (.op true (.p (.bin .add) [.t 3, .c (int 1)]) <|
   .loop 1 [.t 8] <|
   .op true (.p (.fad 1) [.t 2]) <|
   .op true (.p (.ld none) [.t 10]) <|
   .op true (.p .len [.t 11]) <|
   .op true (.p (.bin .lss) [.t 9, .t 12]) <|
   .br 13
    (.op true (.p (.fad 2) [.t 2]) <|
    .op true (.p (.ld none) [.t 14]) <|
    .op true (.p (.iad 1) [.t 15, .t 3]) <|
    .op true (.p (.ld none) [.t 16]) <|
    .op true (.p (.fad 2) [.t 2]) <|
    .op true (.p (.ld none) [.t 18]) <|
    .op true (.p (.iad 1) [.t 19, .t 9]) <|
    .op true (.p (.ld none) [.t 20]) <|
    .op true (.p (.bin .eql) [.t 17, .t 21]) <|
    .br 22
     (.op true (.p (.fad 1) [.t 2]) <|
     .op true (.p (.ld none) [.t 23]) <|
     .op true (.p (.iad 1) [.t 24, .t 3]) <|
     .op true (.p (.ld none) [.t 25]) <|
     .op true (.p (.fad 2) [.t 2]) <|
     .op true (.p (.ld none) [.t 27]) <|
     .op true (.p (.iad 1) [.t 28, .t 1]) <|
     .op true (.p (.ld none) [.t 29]) <|
     .op true (.p (.bin .eql) [.t 26, .t 30]) <|
     .br 31
      (.op true (.p (.fad 1) [.t 2]) <|
      .op true (.p (.ld none) [.t 32]) <|
      .op true (.p (.iad 1) [.t 33, .t 9]) <|
      .op true (.p (.ld none) [.t 34]) <|
      .op true (.p (.fad 2) [.t 2]) <|
      .op true (.p (.ld none) [.t 36]) <|
      .op true (.p (.iad 1) [.t 37, .t 1]) <|
      .op true (.p (.ld none) [.t 38]) <|
      .op true (.p (.bin .eql) [.t 35, .t 39]) <|
      .br 40
       (.op true (.p (.fad 4) [.t 2]) <|
       .op true (.p (.ld none) [.t 41]) <|
       .op true (.p (.iad 1) [.t 42, .t 1]) <|
       .op true (.p (.ld none) [.t 43]) <|
       .op true (.p (.iad 1) [.t 44, .t 3]) <|
       .op true (.p (.ld none) [.t 45]) <|
       .op true (.p (.fad 4) [.t 2]) <|
       .op true (.p (.ld none) [.t 47]) <|
       .op true (.p (.iad 1) [.t 48, .t 1]) <|
       .op true (.p (.ld none) [.t 49]) <|
       .op true (.p (.iad 1) [.t 50, .t 9]) <|
       .op true (.p (.ld none) [.t 51]) <|
       .op true (.p (.bin .eql) [.t 46, .t 52]) <|
       .br 53
        (.ret [(.c (bool false), none)])
        (.op true (.p (.bin .add) [.t 9, .c (int 1)]) <|
        .again 1 [.t 54]))
       (.op true (.p (.bin .add) [.t 9, .c (int 1)]) <|
       .again 1 [.t 41]))
      (.op true (.p (.bin .add) [.t 9, .c (int 1)]) <|
      .again 1 [.t 32]))
     (.op true (.p (.bin .add) [.t 9, .c (int 1)]) <|
     .again 1 [.t 23]))
    (.op true (.p (.bin .add) [.t 3, .c (int 1)]) <|
    .again 0 [.t 14]))
   (.ret [(.c (bool true), none)])
set_option maxHeartbeats 1000000 in
theorem Shape.l05Epi_fz (h : Has P ν 288 2 V_spec_l05Epi) {c : Cat} (s : Shape c) (f : Int) (f0 : 0 ≤ f) (f1 : f < c.f.length) : Fz (OkM P ν) 288 [.agg c.cells, int f] (bool (decide (Epi c f))) := by
  refine Fn.fzb fun H nx => h _ _ _ _ rfl fun hwf => ?_
  unfold V_spec_l05Epi
  have n40 := s.n40
  have tl := s.tl
  have cl := s.cl
  have f2 : f.toNat < c.f.length := by omega
  have rf := s.rowLen f0 f1
  simp only [SS, Nat.reduceEqDiff, Nat.reduceAdd, iput, puts, p_boxc]
  refine den_for c.f.length (fun g => ∀ g' : Nat, g' < g → ∀ h : Nat, g' + 1 ≤ h → h < c.f.length → ¬ (c.T g' = c.T h ∧ c.F g' = c.T f ∧ c.F h = c.T f ∧ c.K f g' = c.K f h)) (fun k hk => by omega) fun g hg pg => ?_
  by_cases hlg : g < c.f.length
  · simp only [SS, Nat.reduceEqDiff, Nat.reduceAdd, iput, puts, cat1, hlg, wrap_succ (show g < 9223372036854775807 by omega)]
    refine den_forS c.f.length (g + 1) (by omega) rfl (fun k => ∀ h : Nat, g + 1 ≤ h → h < k → ¬ (c.T g = c.T h ∧ c.F g = c.T f ∧ c.F h = c.T f ∧ c.K f g = c.K f h)) (fun k hk hk' => by omega) fun k hk hk' pk => ?_
    by_cases hlk : k < c.f.length
    · have next : ¬ (c.T g = c.T k ∧ c.F g = c.T f ∧ c.F k = c.T f ∧ c.K f g = c.K f k) → (g + 1 ≤ k + 1 ∧ ∀ h : Nat, g + 1 ≤ h → h < k + 1 → ¬ (c.T g = c.T h ∧ c.F g = c.T f ∧ c.F h = c.T f ∧ c.K f g = c.K f h)) := fun hn => ⟨by omega, fun h' hh1 hh2 => by
        by_cases e : h' = k
        · subst e; exact hn
        · exact pk h' hh1 (by omega)⟩
      have r1 := s.rowLen (a := g) (by omega) (by omega)
      have r2 := s.rowLen (a := k) (by omega) (by omega)
      simp only [Int.toNat_natCast] at r1 r2
      simp only [SS, Nat.reduceEqDiff, Nat.reduceAdd, iput, puts, cat1, cat2, cat4, tl, cl, hlg, hlk, f0, f1, f2, rf, r1, r2, wrap_succ (show k < 9223372036854775807 by omega)]
      refine ⟨fun h1 => ⟨fun h2 => ⟨fun h3 => ⟨fun h4 => ?_, fun h4 => up rfl hlk (next fun hn => h4 hn.2.2.2)⟩, fun h3 => up rfl hlk (next fun hn => h3 hn.2.2.1)⟩, fun h2 => up rfl hlk (next fun hn => h2 hn.2.1)⟩, fun h1 => up rfl hlk (next fun hn => h1 hn.1)⟩
      exact ⟨_, rfl, H, fun _ _ h => h, ret_false (fun hM => hM g hlg k hk hlk ⟨h1, h2, h3, h4⟩), rfl, Nat.le_refl _⟩
    · simp only [SS, Nat.reduceEqDiff, Nat.reduceAdd, iput, puts, cat1, hlk, wrap_succ (show g < 9223372036854775807 by omega)]
      exact up rfl hlg (nextP pg fun h' hh1 hh2 => pk h' hh1 (by omega))
  · simp only [SS, Nat.reduceEqDiff, Nat.reduceAdd, iput, puts, cat1, hlg]
    exact ⟨_, rfl, H, fun _ _ h => h, ret_true (fun g' hg' h' hh1 hh2 => pg g' (by omega) h' hh1 hh2), rfl, Nat.le_refl _⟩

def Bal (c : Cat) : Prop := ∀ f : Nat, f < c.f.length → ¬ (Mono c f ∧ Epi c f ∧ inv c f < 0)
def V_IsBalanced : Vc :=
  .op true (.p .box [.t 0]) <|
  .op true (.call (.f 24) [.t 1]) <|
  .op true (.p .bnot [.t 2]) <|
  .br 3
   (.ret [(.c (bool false), none), (.c (int 1), none)])
   (.loop 0 [.c (int 0)] <|
   .op true (.call (.f 26) [.t 1]) <|
   .op true (.p (.bin .lss) [.t 4, .t 5]) <|
   .br 6
    (.op true (.call (.f 289) [.t 1, .t 4]) <|
    .br 7
     (.op true (.call (.f 290) [.t 1, .t 4]) <|
     .br 8
      (.op true (.call (.f 240) [.t 1, .t 4]) <|
      .op true (.p (.bin .lss) [.t 9, .c (int 0)]) <|
      .br 10
       (.ret [(.c (bool false), none), (.c (int 0), none)])
       (.op true (.p (.bin .add) [.t 4, .c (int 1)]) <|
       .again 0 [.t 11]))
      (.op true (.p (.bin .add) [.t 4, .c (int 1)]) <|
      .again 0 [.t 9]))
     (.op true (.p (.bin .add) [.t 4, .c (int 1)]) <|
     .again 0 [.t 8]))
    (.ret [(.c (bool true), none), (.c (int 0), none)]))
def V_spec_IsBalanced : Vc :=
  .op true (.p .box [.t 0]) <|
  .op true (.p (.ld (some 5)) [.t 1]) <|
  .op true (.call (.f 22) [.t 2]) <|
  .op true (.p .bnot [.t 3]) <|
  .br 4
   (.ret [(.c (bool false), none), (.c (int 1), none)])
   (.loop 0 [.c (int 0)] <|
   .op true (.p (.fad 1) [.t 1]) <|
   .op true (.p (.ld none) [.t 6]) <|
   .op true (.p .len [.t 7]) <|
   .op true (.p (.bin .lss) [.t 5, .t 8]) <|
   .br 9
    (.op true (.p (.ld (some 5)) [.t 1]) <|
    .op true (.call (.f 287) [.t 10, .t 5]) <|
    .br 11
     (.op true (.p (.ld (some 5)) [.t 1]) <|
     .op true (.call (.f 288) [.t 12, .t 5]) <|
     .br 13
      (.op true (.p (.ld (some 5)) [.t 1]) <|
      .op true (.call (.f 239) [.t 14, .t 5]) <|
      .op true (.p (.bin .lss) [.t 15, .c (int 0)]) <|
      .br 16
       (.ret [(.c (bool false), none), (.c (int 0), none)])
       (.op true (.p (.bin .add) [.t 5, .c (int 1)]) <|
       .again 0 [.t 17]))
      (.op true (.p (.bin .add) [.t 5, .c (int 1)]) <|
      .again 0 [.t 14]))
     (.op true (.p (.bin .add) [.t 5, .c (int 1)]) <|
     .again 0 [.t 12]))
    (.ret [(.c (bool true), none), (.c (int 0), none)]))
set_option maxHeartbeats 1000000 in
theorem IsBalanced_both (K : HCat P ν) (hh : Has P ν 33 3 V_Category_hom) (M : HMono P ν) (hi : Has P ν 240 2 V_Category_inverse) (h : Has P ν 152 1 V_IsBalanced) (KS : HSpec P ν) (hm : Has P ν 287 2 V_spec_l05Mono) (he : Has P ν 288 2 V_spec_l05Epi) (hr : Has P ν 237 2 V_spec_l05Retractions) (hse : Has P ν 15 2 V_spec_l05Sections) (hha : Has P ν 262 2 V_spec_l01Has) (hin : Has P ν 239 2 V_spec_l05Inverse) (hs : Has P ν 151 1 V_spec_IsBalanced) (c : Cat) (b : Small c) :
    ∃ (x : Bool) (k : Int), BothS P ν 152 151 [.agg c.cells] (.tup [bool x, int k]) := by
  by_cases hc : IsCat c
  · have s := hc.1
    have n40 := s.n40
    refine ⟨decide (Bal c), 0, fun H nx => h _ _ _ _ rfl fun hwf => ?_, fun H nx => hs _ _ _ _ rfl fun hwf => ?_⟩
    · unfold V_IsBalanced
      simp only [SS, Nat.reduceEqDiff, Nat.reduceAdd, iput, puts, p_boxc]
      refine den_call (fc := (24, [])) rfl (by first | (simp only [SS, Nat.reduceEqDiff, Nat.reduceAdd, iput, puts, FF, frzL_cat]; done) | (simp only [SS, Nat.reduceEqDiff, Nat.reduceAdd, iput, puts, FF, frzL_cat]; rfl)) ((isCategory_ok K c b).fzb) ?_
      simp only [SS, Nat.reduceEqDiff, Nat.reduceAdd, iput, puts, hc, decide_true]
      refine den_for c.f.length (fun i => ∀ f : Nat, f < i → ¬ (Mono c f ∧ Epi c f ∧ inv c f < 0)) (fun k hk => by omega) fun i hi' pi => ?_
      refine den_call (fc := (26, [])) rfl (by first | (simp only [SS, Nat.reduceEqDiff, Nat.reduceAdd, iput, puts, FF, frzL_cat]; done) | (simp only [SS, Nat.reduceEqDiff, Nat.reduceAdd, iput, puts, FF, frzL_cat]; rfl)) ((arrows_ok K.arrows c).fzi) ?_
      by_cases hlt : i < c.f.length
      · simp only [SS, Nat.reduceEqDiff, Nat.reduceAdd, iput, puts, hlt]
        refine den_call (fc := (289, [])) rfl (by first | (simp only [SS, Nat.reduceEqDiff, Nat.reduceAdd, iput, puts, FF, frzL_cat]; done) | (simp only [SS, Nat.reduceEqDiff, Nat.reduceAdd, iput, puts, FF, frzL_cat]; rfl)) (s.isMono_fz hh K.thn M i (by omega) (by omega)) ?_
        simp only [SS, Nat.reduceEqDiff, Nat.reduceAdd, iput, puts, wrap_succ (show i < 9223372036854775807 by omega)]
        refine ⟨fun h1 => ?_, fun h1 => up rfl hlt (nextP pi fun hn => h1 hn.1)⟩
        refine den_call (fc := (290, [])) rfl (by first | (simp only [SS, Nat.reduceEqDiff, Nat.reduceAdd, iput, puts, FF, frzL_cat]; done) | (simp only [SS, Nat.reduceEqDiff, Nat.reduceAdd, iput, puts, FF, frzL_cat]; rfl)) (s.isEpi_fz hh K.thn M i (by omega) (by omega)) ?_
        simp only [SS, Nat.reduceEqDiff, Nat.reduceAdd, iput, puts, wrap_succ (show i < 9223372036854775807 by omega)]
        refine ⟨fun h2 => ?_, fun h2 => up rfl hlt (nextP pi fun hn => h2 hn.2.1)⟩
        refine den_call (fc := (240, [])) rfl (by first | (simp only [SS, Nat.reduceEqDiff, Nat.reduceAdd, iput, puts, FF, frzL_cat]; done) | (simp only [SS, Nat.reduceEqDiff, Nat.reduceAdd, iput, puts, FF, frzL_cat]; rfl)) ((inverse_ok hh K.thn hi c s i (by omega) (by omega)).fzi) ?_
        simp only [SS, Nat.reduceEqDiff, Nat.reduceAdd, iput, puts, wrap_succ (show i < 9223372036854775807 by omega)]
        refine ⟨fun h3 => ?_, fun h3 => up rfl hlt (nextP pi fun hn => h3 hn.2.2)⟩
        have : ¬ Bal c := fun hB => hB i hlt ⟨h1, h2, h3⟩
        simp only [this, decide_false]
        exact ⟨_, rfl, H, fun _ _ h => h, rfl, rfl, Nat.le_refl _⟩
      · simp only [SS, Nat.reduceEqDiff, Nat.reduceAdd, iput, puts, hlt]
        have : Bal c := fun f hf => pi f (by omega)
        simp only [this, decide_true]
        exact ⟨_, rfl, H, fun _ _ h => h, rfl, rfl, Nat.le_refl _⟩
    · unfold V_spec_IsBalanced
      simp only [SS, Nat.reduceEqDiff, Nat.reduceAdd, iput, puts, p_boxc, p_ldc]
      refine den_call (fc := (22, [])) rfl (by first | (simp only [SS, Nat.reduceEqDiff, Nat.reduceAdd, iput, puts, FF, frzL_cat]; done) | (simp only [SS, Nat.reduceEqDiff, Nat.reduceAdd, iput, puts, FF, frzL_cat]; rfl)) ((l02Is_ok KS c b).fzb) ?_
      simp only [SS, Nat.reduceEqDiff, Nat.reduceAdd, iput, puts, hc, decide_true]
      refine den_for c.f.length (fun i => ∀ f : Nat, f < i → ¬ (Mono c f ∧ Epi c f ∧ inv c f < 0)) (fun k hk => by omega) fun i hi' pi => ?_
      by_cases hlt : i < c.f.length
      · simp only [SS, Nat.reduceEqDiff, Nat.reduceAdd, iput, puts, hlt, cat1, p_ldc]
        refine den_call (fc := (287, [])) rfl (by first | (simp only [SS, Nat.reduceEqDiff, Nat.reduceAdd, iput, puts, FF, frzL_cat]; done) | (simp only [SS, Nat.reduceEqDiff, Nat.reduceAdd, iput, puts, FF, frzL_cat]; rfl)) (s.l05Mono_fz hm i (by omega) (by omega)) ?_
        simp only [SS, Nat.reduceEqDiff, Nat.reduceAdd, iput, puts, p_ldc, wrap_succ (show i < 9223372036854775807 by omega)]
        refine ⟨fun h1 => ?_, fun h1 => up rfl hlt (nextP pi fun hn => h1 hn.1)⟩
        refine den_call (fc := (288, [])) rfl (by first | (simp only [SS, Nat.reduceEqDiff, Nat.reduceAdd, iput, puts, FF, frzL_cat]; done) | (simp only [SS, Nat.reduceEqDiff, Nat.reduceAdd, iput, puts, FF, frzL_cat]; rfl)) (s.l05Epi_fz he i (by omega) (by omega)) ?_
        simp only [SS, Nat.reduceEqDiff, Nat.reduceAdd, iput, puts, p_ldc, wrap_succ (show i < 9223372036854775807 by omega)]
        refine ⟨fun h2 => ?_, fun h2 => up rfl hlt (nextP pi fun hn => h2 hn.2.1)⟩
        refine den_call (fc := (239, [])) rfl (by first | (simp only [SS, Nat.reduceEqDiff, Nat.reduceAdd, iput, puts, FF, frzL_cat]; done) | (simp only [SS, Nat.reduceEqDiff, Nat.reduceAdd, iput, puts, FF, frzL_cat]; rfl)) ((l05Inverse_ok hr hse hha hin c s i (by omega) (by omega)).fzi) ?_
        simp only [SS, Nat.reduceEqDiff, Nat.reduceAdd, iput, puts, wrap_succ (show i < 9223372036854775807 by omega)]
        refine ⟨fun h3 => ?_, fun h3 => up rfl hlt (nextP pi fun hn => h3 hn.2.2)⟩
        have : ¬ Bal c := fun hB => hB i hlt ⟨h1, h2, h3⟩
        simp only [this, decide_false]
        exact ⟨_, rfl, H, fun _ _ h => h, rfl, rfl, Nat.le_refl _⟩
      · simp only [SS, Nat.reduceEqDiff, Nat.reduceAdd, iput, puts, cat1, hlt]
        have : Bal c := fun f hf => pi f (by omega)
        simp only [this, decide_true]
        exact ⟨_, rfl, H, fun _ _ h => h, rfl, rfl, Nat.le_refl _⟩
  · refine ⟨false, 1, fun H nx => h _ _ _ _ rfl fun hwf => ?_, fun H nx => hs _ _ _ _ rfl fun hwf => ?_⟩
    · unfold V_IsBalanced
      simp only [SS, Nat.reduceEqDiff, Nat.reduceAdd, iput, puts, p_boxc]
      refine den_call (fc := (24, [])) rfl (by first | (simp only [SS, Nat.reduceEqDiff, Nat.reduceAdd, iput, puts, FF, frzL_cat]; done) | (simp only [SS, Nat.reduceEqDiff, Nat.reduceAdd, iput, puts, FF, frzL_cat]; rfl)) ((isCategory_ok K c b).fzb) ?_
      simp only [SS, Nat.reduceEqDiff, Nat.reduceAdd, iput, puts, hc, decide_false]
      exact ⟨_, rfl, H, fun _ _ h => h, rfl, rfl, Nat.le_refl _⟩
    · unfold V_spec_IsBalanced
      simp only [SS, Nat.reduceEqDiff, Nat.reduceAdd, iput, puts, p_boxc, p_ldc]
      refine den_call (fc := (22, [])) rfl (by first | (simp only [SS, Nat.reduceEqDiff, Nat.reduceAdd, iput, puts, FF, frzL_cat]; done) | (simp only [SS, Nat.reduceEqDiff, Nat.reduceAdd, iput, puts, FF, frzL_cat]; rfl)) ((l02Is_ok KS c b).fzb) ?_
      simp only [SS, Nat.reduceEqDiff, Nat.reduceAdd, iput, puts, hc, decide_false]
      exact ⟨_, rfl, H, fun _ _ h => h, rfl, rfl, Nat.le_refl _⟩
end Go.Av
