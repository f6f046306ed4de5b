/-
  Extensions, lifts, retractions: the program's and the reference's.
-/
import Derived.Test.YtalfoffamemfnaaAvB0
namespace Go.Av
open Classical
set_option linter.unusedSimpArgs false
set_option linter.unusedVariables false
variable {P : Program} {ν : Nat → FuncId}

def extL (c : Cat) (f g : Int) : List Int := (homL c (c.T g) (c.T f)).filter fun h => c.K g h == f
theorem extL_eq (c : Cat) (f g : Int) : extL c f g = selL c.f.length fun k => (c.F k == c.T g && c.T k == c.T f) && c.K g k == f := by simp only [extL, homL, selL_filter]
theorem liftsL_eq (c : Cat) (f g : Int) : liftsL c f g = selL c.f.length fun k => (c.F k == c.F f && c.T k == c.F g) && c.K k g == f := by simp only [liftsL, homL, selL_filter]

def V_Category_extensions : Vc :=
  .op true (.p (.msl 0 [] []) []) <|
  .op true (.p .nck [.t 0]) <|
  .op true (.p (.fad 2) [.t 4]) <|
  .op true (.p (.ld none) [.t 5]) <|
  .op true (.p (.iad 1) [.t 6, .t 2]) <|
  .op true (.p (.ld none) [.t 7]) <|
  .op true (.p .nck [.t 0]) <|
  .op true (.p (.fad 2) [.t 9]) <|
  .op true (.p (.ld none) [.t 10]) <|
  .op true (.p (.iad 1) [.t 11, .t 1]) <|
  .op true (.p (.ld none) [.t 12]) <|
  .op true (.call (.f 33) [.t 0, .t 8, .t 13]) <|
  .op true (.p .len [.t 14]) <|
  .loop 0 [.t 3, .c (int 0)] <|
  .op true (.p (.bin .lss) [.t 17, .t 15]) <|
  .br 18
   (.op true (.p (.iad 1) [.t 14, .t 17]) <|
   .op true (.p (.ld none) [.t 19]) <|
   .op true (.call (.f 34) [.t 0, .t 2, .t 20]) <|
   .op true (.p (.bin .eql) [.t 21, .t 1]) <|
   .br 22
    (.op true (.p (.msl 1 [int 0] [(0, 1)]) [.t 20]) <|
    .op true (.app 1 (.t 16) (.t 23)) <|
    .op true (.p (.bin .add) [.t 17, .c (int 1)]) <|
    .again 0 [.t 24, .t 25])
    (.op true (.p (.bin .add) [.t 17, .c (int 1)]) <|
    .again 0 [.t 16, .t 23]))
   (.ret [(.t 16, none)])
theorem extensions_ok (hh : Has P ν 33 3 V_Category_hom) (ht : Has P ν 34 3 V_Category_then) (h : Has P ν 236 3 V_Category_extensions) (c : Cat) (s : Shape c) (f g : Int) (f0 : 0 ≤ f) (f1 : f < c.f.length) (g0 : 0 ≤ g) (g1 : g < c.f.length) (H : Hp) (nx : Nat) :
    OkM P ν 236 [.ptr c.cells 0, int f, int g] H nx (IsI (extL c f g) H nx) := by
  refine h _ _ _ _ rfl fun hwf => ?_
  unfold V_Category_extensions
  have n40 := s.n40
  have tl := s.tl
  have f2 : f.toNat < c.f.length := by omega
  have g2 : g.toNat < c.f.length := by omega
  simp only [SS, Nat.reduceEqDiff, Nat.reduceAdd, iput, puts, cat2, tl, f0, f1, f2, g0, g1, g2]
  refine den_call (fc := (33, [])) rfl (by first | (simp only [SS, Nat.reduceEqDiff, Nat.reduceAdd, iput, puts, FF, frzL_cat]; done) | (simp only [SS, Nat.reduceEqDiff, Nat.reduceAdd, iput, puts, FF, frzL_cat]; rfl)) (hom_fz hh c (c.T g) (c.T f) (by omega) (by omega)) ?_
  simp only [SS, Nat.reduceEqDiff, Nat.reduceAdd, iput, puts]
  have hlen := selL_len c.f.length fun k => c.F k == c.T g && c.T k == c.T f
  generalize hl : homL c (c.T g) (c.T f) = l
  have hm : ∀ i, i < l.length → 0 ≤ l.getD i 0 ∧ l.getD i 0 < c.f.length := fun i hi => by
    have := getD_mem hi
    rw [← hl] at this
    have := homL_mem this
    rw [hl] at this
    exact ⟨this.1, this.2.1⟩
  have hlen' : l.length ≤ 40 := by rw [← hl]; exact Nat.le_trans hlen n40
  refine den_fil l (fun h => c.K g h == f) H nx rfl (Nat.le_refl _) rfl fun i v H' nx' hi hI => ?_
  by_cases hlt : i < l.length
  · have hl2 := take_filter_len l (fun h => c.K g h == f) i
    obtain ⟨m1, m2⟩ := hm i hlt
    simp only [SS, Nat.reduceEqDiff, Nat.reduceAdd, iput, puts, hlt]
    refine den_call (fc := (34, [])) rfl (by first | (simp only [SS, Nat.reduceEqDiff, Nat.reduceAdd, iput, puts, FF, frzL_cat]; done) | (simp only [SS, Nat.reduceEqDiff, Nat.reduceAdd, iput, puts, FF, frzL_cat]; rfl)) (s.then_fz ht g (l.getD i 0) g0 g1 m1 m2) ?_
    simp only [SS, Nat.reduceEqDiff, Nat.reduceAdd, iput, puts, wrap_succ (show i < 9223372036854775807 by omega)]
    refine ⟨fun h1 => ?_, fun h1 => fil_skip rfl hlt (beq_eq_false_iff_ne.2 h1) hI⟩
    refine den_appI (m := [l.getD i 0]) (H0 := H) (nx0 := nx) hI rfl (by simp) (by simp; omega) fun v2 H2 nx2 hI2 => ?_
    simp only [SS, Nat.reduceEqDiff, Nat.reduceAdd, iput, puts, wrap_succ (show i < 9223372036854775807 by omega)]
    exact fil_take rfl hlt (beq_iff_eq.2 h1) hI2
  · simp only [SS, Nat.reduceEqDiff, Nat.reduceAdd, iput, puts, hlt]
    refine ⟨v, rfl, H', fun _ _ h => h, ?_⟩
    rw [List.take_of_length_le (by omega)] at hI
    rw [extL, hl]
    exact hI

def retL (c : Cat) (f : Int) : List Int := extL c (c.I (c.F f)) f
def V_Category_retractions : Vc :=
  .op true (.p .nck [.t 0]) <|
  .op true (.p (.fad 3) [.t 2]) <|
  .op true (.p (.ld none) [.t 3]) <|
  .op true (.p .nck [.t 0]) <|
  .op true (.p (.fad 1) [.t 5]) <|
  .op true (.p (.ld none) [.t 6]) <|
  .op true (.p (.iad 1) [.t 7, .t 1]) <|
  .op true (.p (.ld none) [.t 8]) <|
  .op true (.p (.iad 1) [.t 4, .t 9]) <|
  .op true (.p (.ld none) [.t 10]) <|
  .op true (.callm (.f 236) [.t 0, .t 11, .t 1]) <|
  .ret [(.t 12, none)]
theorem retractions_ok (hh : Has P ν 33 3 V_Category_hom) (ht : Has P ν 34 3 V_Category_then) (he : Has P ν 236 3 V_Category_extensions) (h : Has P ν 238 2 V_Category_retractions) (c : Cat) (s : Shape c) (f : Int) (f0 : 0 ≤ f) (f1 : f < c.f.length) (H : Hp) (nx : Nat) :
    OkM P ν 238 [.ptr c.cells 0, int f] H nx (IsI (retL c f) H nx) := by
  refine h _ _ _ _ rfl fun hwf => ?_
  unfold V_Category_retractions
  have f2 : f.toNat < c.f.length := by omega
  obtain ⟨a1, a2⟩ := s.fLt f2
  obtain ⟨b1, b2⟩ := s.iLt a1 a2
  simp only [Cat.F, Cat.I, Int.toNat_natCast] at a1 a2 b1 b2
  have a3 : (c.f.getD f.toNat 0).toNat < c.i.length := by omega
  simp only [SS, Nat.reduceEqDiff, Nat.reduceAdd, iput, puts, cat1, cat3, f0, f1, f2, a1, a2, a3]
  refine den_callm (fc := (236, [])) rfl (extensions_ok hh ht he c s (c.i.getD (c.f.getD f.toNat 0).toNat 0) f b1 b2 f0 f1 H nx) (IsI.some _ _ _) fun u H' nx' hu => ?_
  exact ⟨u, rfl, H', fun _ _ h => h, hu⟩

structure HArr (P : Program) (ν : Nat → FuncId) : Prop where
  hom : Has P ν 33 3 V_Category_hom
  code : Has P ν 18 2 V_arrowCode
structure HL05 (P : Program) (ν : Nat → FuncId) : Prop where
  arrow : Has P ν 23 2 V_spec_l05Arrow

def V_ExtensionsOf : Vc :=
  .op true (.p .box [.t 0]) <|
  .op true (.p (.msl 2 [int 0, int 0] [(0, 1), (1, 1)]) [.t 1, .t 2]) <|
  .op true (.call (.f 18) [.t 3, .t 4]) <|
  .op true (.p (.bin .neq) [.t 5, .c (int 0)]) <|
  .br 6
   (.ret [(.c (.nil), none), (.t 5, none)])
   (.op true (.p (.fad 1) [.t 3]) <|
   .op true (.p (.ld none) [.t 7]) <|
   .op true (.p (.iad 1) [.t 8, .t 1]) <|
   .op true (.p (.ld none) [.t 9]) <|
   .op true (.p (.fad 1) [.t 3]) <|
   .op true (.p (.ld none) [.t 11]) <|
   .op true (.p (.iad 1) [.t 12, .t 2]) <|
   .op true (.p (.ld none) [.t 13]) <|
   .op true (.p (.bin .neq) [.t 10, .t 14]) <|
   .br 15
    (.ret [(.c (.nil), none), (.c (int 5), none)])
    (.op true (.callm (.f 236) [.t 3, .t 1, .t 2]) <|
    .ret [(.t 16, none), (.c (int 0), none)]))
def V_spec_ExtensionsOf : Vc :=
  .op true (.p .box [.t 0]) <|
  .op true (.p (.ld (some 5)) [.t 3]) <|
  .op true (.call (.f 235) [.t 4, .t 1, .t 2]) <|
  .op true (.p (.bin .neq) [.t 5, .c (int 0)]) <|
  .br 6
   (.ret [(.c (.nil), none), (.t 5, none)])
   (.op true (.p (.fad 1) [.t 3]) <|
   .op true (.p (.ld none) [.t 7]) <|
   .op true (.p (.iad 1) [.t 8, .t 1]) <|
   .op true (.p (.ld none) [.t 9]) <|
   .op true (.p (.fad 1) [.t 3]) <|
   .op true (.p (.ld none) [.t 11]) <|
   .op true (.p (.iad 1) [.t 12, .t 2]) <|
   .op true (.p (.ld none) [.t 13]) <|
   .op true (.p (.bin .neq) [.t 10, .t 14]) <|
   .br 15
    (.ret [(.c (.nil), none), (.c (int 5), none)])
    (.op true (.p (.msl 0 [] []) []) <|
    .loop 0 [.t 16, .c (int 0)] <|
    .op true (.p (.fad 1) [.t 3]) <|
    .op true (.p (.ld none) [.t 19]) <|
    .op true (.p .len [.t 20]) <|
    .op true (.p (.bin .lss) [.t 18, .t 21]) <|
    .br 22
     (.op true (.p (.fad 1) [.t 3]) <|
     .op true (.p (.ld none) [.t 23]) <|
     .op true (.p (.iad 1) [.t 24, .t 18]) <|
     .op true (.p (.ld none) [.t 25]) <|
     .op true (.p (.fad 2) [.t 3]) <|
     .op true (.p (.ld none) [.t 27]) <|
     .op true (.p (.iad 1) [.t 28, .t 2]) <|
     .op true (.p (.ld none) [.t 29]) <|
     .op true (.p (.bin .eql) [.t 26, .t 30]) <|
     .br 31
      (.op true (.p (.fad 2) [.t 3]) <|
      .op true (.p (.ld none) [.t 32]) <|
      .op true (.p (.iad 1) [.t 33, .t 18]) <|
      .op true (.p (.ld none) [.t 34]) <|
      .op true (.p (.fad 2) [.t 3]) <|
      .op true (.p (.ld none) [.t 36]) <|
      .op true (.p (.iad 1) [.t 37, .t 1]) <|
      .op true (.p (.ld none) [.t 38]) <|
      .op true (.p (.bin .eql) [.t 35, .t 39]) <|
      .br 40
       (.op true (.p (.fad 4) [.t 3]) <|
       .op true (.p (.ld none) [.t 41]) <|
       .op true (.p (.iad 1) [.t 42, .t 2]) <|
       .op true (.p (.ld none) [.t 43]) <|
       .op true (.p (.iad 1) [.t 44, .t 18]) <|
       .op true (.p (.ld none) [.t 45]) <|
       .op true (.p (.bin .eql) [.t 46, .t 1]) <|
       .br 47
        (.op true (.p (.msl 1 [int 0] [(0, 1)]) [.t 18]) <|
        .op true (.app 1 (.t 17) (.t 48)) <|
        .op true (.p (.bin .add) [.t 18, .c (int 1)]) <|
        .again 0 [.t 49, .t 50])
        (.op true (.p (.bin .add) [.t 18, .c (int 1)]) <|
        .again 0 [.t 17, .t 48]))
       (.op true (.p (.bin .add) [.t 18, .c (int 1)]) <|
       .again 0 [.t 17, .t 41]))
      (.op true (.p (.bin .add) [.t 18, .c (int 1)]) <|
      .again 0 [.t 17, .t 32]))
     (.ret [(.t 17, none), (.c (int 0), none)])))
set_option maxHeartbeats 1000000 in
theorem ExtensionsOf_both (K : HCat P ν) (A : HArr P ν) (he : Has P ν 236 3 V_Category_extensions) (h : Has P ν 98 3 V_ExtensionsOf) (KS : HSpec P ν) (ha : Has P ν 23 2 V_spec_l05Arrow) (h2 : Has P ν 235 3 V_spec_l05Two) (hs : Has P ν 97 3 V_spec_ExtensionsOf) (c : Cat) (b : Small c) (f g : Int) :
    BothP P ν 98 97 [.agg c.cells, int f, int g] := by
  by_cases h0 : code (IsCat c) (Arr c f ∧ Arr c g) = 0
  · obtain ⟨hc, hf, hg⟩ := code_zero.1 h0
    have s := hc.1
    have n40 := s.n40
    have tl := s.tl
    have cl := s.cl
    obtain ⟨f0, f1⟩ := hf
    obtain ⟨g0, g1⟩ := hg
    have f2 : f.toNat < c.f.length := by omega
    have g2 : g.toNat < c.f.length := by omega
    by_cases h1 : c.F f = c.F g
    · refine ⟨extL c f g, 0, ?_, fun H nx => h _ _ _ _ rfl fun hwf => ?_, fun H nx => hs _ _ _ _ rfl fun hwf => ?_⟩
      · rw [extL_eq]; exact Nat.le_trans (selL_len _ _) (by omega)
      · unfold V_ExtensionsOf
        simp only [SS, Nat.reduceEqDiff, Nat.reduceAdd, iput, puts, p_boxc, p_msl2]
        refine den_call (fc := (18, [])) rfl (by first | (simp only [SS, Nat.reduceEqDiff, Nat.reduceAdd, iput, puts, FF, frzL_cat]; done) | (simp only [SS, Nat.reduceEqDiff, Nat.reduceAdd, iput, puts, FF, frzL_cat]; rfl)) (arrowCode_fz K A.code c b [f, g] (by simp) (Wn2 c f g)) ?_
        have h1' : (c.f.getD f.toNat 0 != c.f.getD g.toNat 0) = false := by rw [show c.f.getD f.toNat 0 = c.f.getD g.toNat 0 from h1]; simp
        simp only [SS, Nat.reduceEqDiff, Nat.reduceAdd, iput, puts, h0, cat1, f0, f1, f2, g0, g1, g2, show c.f.getD f.toNat 0 = c.f.getD g.toNat 0 from h1]
        refine den_callm (fc := (236, [])) rfl (extensions_ok A.hom K.thn he c s f g f0 f1 g0 g1 H nx) (IsI.some _ _ _) fun u H' nx' hu => ?_
        exact ⟨_, rfl, H', fun _ _ h => h, u, rfl, hu⟩
      · unfold V_spec_ExtensionsOf
        simp only [SS, Nat.reduceEqDiff, Nat.reduceAdd, iput, puts, p_boxc, p_ldc]
        refine den_call (fc := (235, [])) rfl (by first | (simp only [SS, Nat.reduceEqDiff, Nat.reduceAdd, iput, puts, FF, frzL_cat]; done) | (simp only [SS, Nat.reduceEqDiff, Nat.reduceAdd, iput, puts, FF, frzL_cat]; rfl)) (l05Two_fz KS ha h2 c b f g) ?_
        simp only [SS, Nat.reduceEqDiff, Nat.reduceAdd, iput, puts, h0, cat1, f0, f1, f2, g0, g1, g2, show c.f.getD f.toNat 0 = c.f.getD g.toNat 0 from h1]
        rw [extL_eq]
        have r1 := s.rowLen g0 g1
        refine den_sel c.f.length (fun k => (c.F k == c.T g && c.T k == c.T f) && c.K g k == f) H nx rfl (Nat.le_refl _) rfl fun i v H' nx' hi hI => ?_
        have hl := selL_len i fun k => (c.F k == c.T g && c.T k == c.T f) && c.K g k == f
        by_cases hlt : i < c.f.length
        · simp only [SS, Nat.reduceEqDiff, Nat.reduceAdd, iput, puts, cat1, cat2, cat4, hlt, tl, cl, f0, f1, f2, g0, g1, g2, r1, wrap_succ (show i < 9223372036854775807 by omega)]
          have skip : ¬ (c.F i = c.T g ∧ c.T i = c.T f ∧ c.K g i = f) → Sel c.f.length (fun k => (c.F k == c.T g && c.T k == c.T f) && c.K g k == f) H nx i [v, int ((i + 1 : Nat) : Int)] H' nx' := fun hb =>
            sel_skip rfl hlt (by rw [Bool.eq_false_iff]; intro hh; simp only [Bool.and_eq_true, beq_iff_eq] at hh; exact hb ⟨hh.1.1, hh.1.2, hh.2⟩) hI
          refine ⟨fun h3 => ⟨fun h4 => ⟨fun h5 => ?_, fun h5 => skip fun hb => h5 hb.2.2⟩, fun h4 => skip fun hb => h4 hb.2.1⟩, fun h3 => skip fun hb => h3 hb.1⟩
          refine den_appI (m := [(i : Int)]) (H0 := H) (nx0 := nx) hI rfl (by simp) (by simp; omega) fun v2 H2 nx2 hI2 => ?_
          simp only [SS, Nat.reduceEqDiff, Nat.reduceAdd, iput, puts, wrap_succ (show i < 9223372036854775807 by omega)]
          exact sel_take rfl hlt (by simp only [Bool.and_eq_true, beq_iff_eq]; exact ⟨⟨h3, h4⟩, h5⟩) hI2
        · have : i = c.f.length := by omega
          subst this
          simp only [SS, Nat.reduceEqDiff, Nat.reduceAdd, iput, puts, cat1, hlt]
          exact ⟨_, rfl, H', fun _ _ h => h, v, rfl, hI⟩
    · have h1' : ¬ c.f.getD f.toNat 0 = c.f.getD g.toNat 0 := h1
      refine ⟨[], 5, by simp, fun H nx => h _ _ _ _ rfl fun hwf => ?_, fun H nx => hs _ _ _ _ rfl fun hwf => ?_⟩
      · unfold V_ExtensionsOf
        simp only [SS, Nat.reduceEqDiff, Nat.reduceAdd, iput, puts, p_boxc, p_msl2]
        refine den_call (fc := (18, [])) rfl (by first | (simp only [SS, Nat.reduceEqDiff, Nat.reduceAdd, iput, puts, FF, frzL_cat]; done) | (simp only [SS, Nat.reduceEqDiff, Nat.reduceAdd, iput, puts, FF, frzL_cat]; rfl)) (arrowCode_fz K A.code c b [f, g] (by simp) (Wn2 c f g)) ?_
        simp only [SS, Nat.reduceEqDiff, Nat.reduceAdd, iput, puts, h0, cat1, f0, f1, f2, g0, g1, g2, h1']
        exact ⟨_, rfl, H, fun _ _ h => h, .nil, rfl, IsI.nil _ _⟩
      · unfold V_spec_ExtensionsOf
        simp only [SS, Nat.reduceEqDiff, Nat.reduceAdd, iput, puts, p_boxc, p_ldc]
        refine den_call (fc := (235, [])) rfl (by first | (simp only [SS, Nat.reduceEqDiff, Nat.reduceAdd, iput, puts, FF, frzL_cat]; done) | (simp only [SS, Nat.reduceEqDiff, Nat.reduceAdd, iput, puts, FF, frzL_cat]; rfl)) (l05Two_fz KS ha h2 c b f g) ?_
        simp only [SS, Nat.reduceEqDiff, Nat.reduceAdd, iput, puts, h0, cat1, f0, f1, f2, g0, g1, g2, h1']
        exact ⟨_, rfl, H, fun _ _ h => h, .nil, rfl, IsI.nil _ _⟩
  · refine ⟨[], code (IsCat c) (Arr c f ∧ Arr c g), by simp, fun H nx => h _ _ _ _ rfl fun hwf => ?_, fun H nx => hs _ _ _ _ rfl fun hwf => ?_⟩
    · unfold V_ExtensionsOf
      simp only [SS, Nat.reduceEqDiff, Nat.reduceAdd, iput, puts, p_boxc, p_msl2]
      refine den_call (fc := (18, [])) rfl (by first | (simp only [SS, Nat.reduceEqDiff, Nat.reduceAdd, iput, puts, FF, frzL_cat]; done) | (simp only [SS, Nat.reduceEqDiff, Nat.reduceAdd, iput, puts, FF, frzL_cat]; rfl)) (arrowCode_fz K A.code c b [f, g] (by simp) (Wn2 c f g)) ?_
      simp only [SS, Nat.reduceEqDiff, Nat.reduceAdd, iput, puts, h0]
      exact ⟨_, rfl, H, fun _ _ h => h, .nil, rfl, IsI.nil _ _⟩
    · unfold V_spec_ExtensionsOf
      simp only [SS, Nat.reduceEqDiff, Nat.reduceAdd, iput, puts, p_boxc, p_ldc]
      refine den_call (fc := (235, [])) rfl (by first | (simp only [SS, Nat.reduceEqDiff, Nat.reduceAdd, iput, puts, FF, frzL_cat]; done) | (simp only [SS, Nat.reduceEqDiff, Nat.reduceAdd, iput, puts, FF, frzL_cat]; rfl)) (l05Two_fz KS ha h2 c b f g) ?_
      simp only [SS, Nat.reduceEqDiff, Nat.reduceAdd, iput, puts, h0]
      exact ⟨_, rfl, H, fun _ _ h => h, .nil, rfl, IsI.nil _ _⟩

def V_LiftsOf : Vc :=
  .op true (.p .box [.t 0]) <|
  .op true (.p (.msl 2 [int 0, int 0] [(0, 1), (1, 1)]) [.t 1, .t 2]) <|
  .op true (.call (.f 18) [.t 3, .t 4]) <|
  .op true (.p (.bin .neq) [.t 5, .c (int 0)]) <|
  .br 6
   (.ret [(.c (.nil), none), (.t 5, none)])
   (.op true (.p (.fad 2) [.t 3]) <|
   .op true (.p (.ld none) [.t 7]) <|
   .op true (.p (.iad 1) [.t 8, .t 1]) <|
   .op true (.p (.ld none) [.t 9]) <|
   .op true (.p (.fad 2) [.t 3]) <|
   .op true (.p (.ld none) [.t 11]) <|
   .op true (.p (.iad 1) [.t 12, .t 2]) <|
   .op true (.p (.ld none) [.t 13]) <|
   .op true (.p (.bin .neq) [.t 10, .t 14]) <|
   .br 15
    (.ret [(.c (.nil), none), (.c (int 5), none)])
    (.op true (.callm (.f 27) [.t 3, .t 1, .t 2]) <|
    .ret [(.t 16, none), (.c (int 0), none)]))
def V_spec_LiftsOf : Vc :=
  .op true (.p .box [.t 0]) <|
  .op true (.p (.ld (some 5)) [.t 3]) <|
  .op true (.call (.f 235) [.t 4, .t 1, .t 2]) <|
  .op true (.p (.bin .neq) [.t 5, .c (int 0)]) <|
  .br 6
   (.ret [(.c (.nil), none), (.t 5, none)])
   (.op true (.p (.fad 2) [.t 3]) <|
   .op true (.p (.ld none) [.t 7]) <|
   .op true (.p (.iad 1) [.t 8, .t 1]) <|
   .op true (.p (.ld none) [.t 9]) <|
   .op true (.p (.fad 2) [.t 3]) <|
   .op true (.p (.ld none) [.t 11]) <|
   .op true (.p (.iad 1) [.t 12, .t 2]) <|
   .op true (.p (.ld none) [.t 13]) <|
   .op true (.p (.bin .neq) [.t 10, .t 14]) <|
   .br 15
    (.ret [(.c (.nil), none), (.c (int 5), none)])
    (.op true (.p (.msl 0 [] []) []) <|
    .loop 0 [.t 16, .c (int 0)] <|
    .op true (.p (.fad 1) [.t 3]) <|
    .op true (.p (.ld none) [.t 19]) <|
    .op true (.p .len [.t 20]) <|
    .op true (.p (.bin .lss) [.t 18, .t 21]) <|
    .br 22
     (.op true (.p (.fad 1) [.t 3]) <|
     .op true (.p (.ld none) [.t 23]) <|
     .op true (.p (.iad 1) [.t 24, .t 18]) <|
     .op true (.p (.ld none) [.t 25]) <|
     .op true (.p (.fad 1) [.t 3]) <|
     .op true (.p (.ld none) [.t 27]) <|
     .op true (.p (.iad 1) [.t 28, .t 1]) <|
     .op true (.p (.ld none) [.t 29]) <|
     .op true (.p (.bin .eql) [.t 26, .t 30]) <|
     .br 31
      (.op true (.p (.fad 2) [.t 3]) <|
      .op true (.p (.ld none) [.t 32]) <|
      .op true (.p (.iad 1) [.t 33, .t 18]) <|
      .op true (.p (.ld none) [.t 34]) <|
      .op true (.p (.fad 1) [.t 3]) <|
      .op true (.p (.ld none) [.t 36]) <|
      .op true (.p (.iad 1) [.t 37, .t 2]) <|
      .op true (.p (.ld none) [.t 38]) <|
      .op true (.p (.bin .eql) [.t 35, .t 39]) <|
      .br 40
       (.op true (.p (.fad 4) [.t 3]) <|
       .op true (.p (.ld none) [.t 41]) <|
       .op true (.p (.iad 1) [.t 42, .t 18]) <|
       .op true (.p (.ld none) [.t 43]) <|
       .op true (.p (.iad 1) [.t 44, .t 2]) <|
       .op true (.p (.ld none) [.t 45]) <|
       .op true (.p (.bin .eql) [.t 46, .t 1]) <|
       .br 47
        (.op true (.p (.msl 1 [int 0] [(0, 1)]) [.t 18]) <|
        .op true (.app 1 (.t 17) (.t 48)) <|
        .op true (.p (.bin .add) [.t 18, .c (int 1)]) <|
        .again 0 [.t 49, .t 50])
        (.op true (.p (.bin .add) [.t 18, .c (int 1)]) <|
        .again 0 [.t 17, .t 48]))
       (.op true (.p (.bin .add) [.t 18, .c (int 1)]) <|
       .again 0 [.t 17, .t 41]))
      (.op true (.p (.bin .add) [.t 18, .c (int 1)]) <|
      .again 0 [.t 17, .t 32]))
     (.ret [(.t 17, none), (.c (int 0), none)])))
set_option maxHeartbeats 1000000 in
theorem LiftsOf_both (K : HCat P ν) (A : HArr P ν) (he : Has P ν 27 3 V_Category_lifts) (h : Has P ν 100 3 V_LiftsOf) (KS : HSpec P ν) (ha : Has P ν 23 2 V_spec_l05Arrow) (h2 : Has P ν 235 3 V_spec_l05Two) (hs : Has P ν 99 3 V_spec_LiftsOf) (c : Cat) (b : Small c) (f g : Int) :
    BothP P ν 100 99 [.agg c.cells, int f, int g] := by
  by_cases h0 : code (IsCat c) (Arr c f ∧ Arr c g) = 0
  · obtain ⟨hc, hf, hg⟩ := code_zero.1 h0
    have s := hc.1
    have n40 := s.n40
    have tl := s.tl
    have cl := s.cl
    obtain ⟨f0, f1⟩ := hf
    obtain ⟨g0, g1⟩ := hg
    have f2 : f.toNat < c.f.length := by omega
    have g2 : g.toNat < c.f.length := by omega
    by_cases h1 : c.T f = c.T g
    · refine ⟨liftsL c f g, 0, ?_, fun H nx => h _ _ _ _ rfl fun hwf => ?_, fun H nx => hs _ _ _ _ rfl fun hwf => ?_⟩
      · rw [liftsL_eq]; exact Nat.le_trans (selL_len _ _) (by omega)
      · unfold V_LiftsOf
        simp only [SS, Nat.reduceEqDiff, Nat.reduceAdd, iput, puts, p_boxc, p_msl2]
        refine den_call (fc := (18, [])) rfl (by first | (simp only [SS, Nat.reduceEqDiff, Nat.reduceAdd, iput, puts, FF, frzL_cat]; done) | (simp only [SS, Nat.reduceEqDiff, Nat.reduceAdd, iput, puts, FF, frzL_cat]; rfl)) (arrowCode_fz K A.code c b [f, g] (by simp) (Wn2 c f g)) ?_
        simp only [SS, Nat.reduceEqDiff, Nat.reduceAdd, iput, puts, h0, cat2, tl, f0, f1, f2, g0, g1, g2, show c.t.getD f.toNat 0 = c.t.getD g.toNat 0 from h1]
        refine den_callm (fc := (27, [])) rfl (lifts_ok A.hom K.thn he c s f g f0 f1 g0 g1 H nx) (IsI.some _ _ _) fun u H' nx' hu => ?_
        exact ⟨_, rfl, H', fun _ _ h => h, u, rfl, hu⟩
      · unfold V_spec_LiftsOf
        simp only [SS, Nat.reduceEqDiff, Nat.reduceAdd, iput, puts, p_boxc, p_ldc]
        refine den_call (fc := (235, [])) rfl (by first | (simp only [SS, Nat.reduceEqDiff, Nat.reduceAdd, iput, puts, FF, frzL_cat]; done) | (simp only [SS, Nat.reduceEqDiff, Nat.reduceAdd, iput, puts, FF, frzL_cat]; rfl)) (l05Two_fz KS ha h2 c b f g) ?_
        simp only [SS, Nat.reduceEqDiff, Nat.reduceAdd, iput, puts, h0, cat2, tl, f0, f1, f2, g0, g1, g2, show c.t.getD f.toNat 0 = c.t.getD g.toNat 0 from h1]
        rw [liftsL_eq]
        refine den_sel c.f.length (fun k => (c.F k == c.F f && c.T k == c.F g) && c.K k g == f) H nx rfl (Nat.le_refl _) rfl fun i v H' nx' hi hI => ?_
        have hl := selL_len i fun k => (c.F k == c.F f && c.T k == c.F g) && c.K k g == f
        by_cases hlt : i < c.f.length
        · have r1 := s.rowLen (a := i) (by omega) (by omega)
          simp only [Int.toNat_natCast] at r1
          simp only [SS, Nat.reduceEqDiff, Nat.reduceAdd, iput, puts, cat1, cat2, cat4, hlt, tl, cl, f0, f1, f2, g0, g1, g2, r1, wrap_succ (show i < 9223372036854775807 by omega)]
          have skip : ¬ (c.F i = c.F f ∧ c.T i = c.F g ∧ c.K i g = f) → Sel c.f.length (fun k => (c.F k == c.F f && c.T k == c.F g) && c.K k g == f) H nx i [v, int ((i + 1 : Nat) : Int)] H' nx' := fun hb =>
            sel_skip rfl hlt (by rw [Bool.eq_false_iff]; intro hh; simp only [Bool.and_eq_true, beq_iff_eq] at hh; exact hb ⟨hh.1.1, hh.1.2, hh.2⟩) hI
          refine ⟨fun h3 => ⟨fun h4 => ⟨fun h5 => ?_, fun h5 => skip fun hb => h5 hb.2.2⟩, fun h4 => skip fun hb => h4 hb.2.1⟩, fun h3 => skip fun hb => h3 hb.1⟩
          refine den_appI (m := [(i : Int)]) (H0 := H) (nx0 := nx) hI rfl (by simp) (by simp; omega) fun v2 H2 nx2 hI2 => ?_
          simp only [SS, Nat.reduceEqDiff, Nat.reduceAdd, iput, puts, wrap_succ (show i < 9223372036854775807 by omega)]
          exact sel_take rfl hlt (by simp only [Bool.and_eq_true, beq_iff_eq]; exact ⟨⟨h3, h4⟩, h5⟩) hI2
        · have : i = c.f.length := by omega
          subst this
          simp only [SS, Nat.reduceEqDiff, Nat.reduceAdd, iput, puts, cat1, hlt]
          exact ⟨_, rfl, H', fun _ _ h => h, v, rfl, hI⟩
    · have h1' : ¬ c.t.getD f.toNat 0 = c.t.getD g.toNat 0 := h1
      refine ⟨[], 5, by simp, fun H nx => h _ _ _ _ rfl fun hwf => ?_, fun H nx => hs _ _ _ _ rfl fun hwf => ?_⟩
      · unfold V_LiftsOf
        simp only [SS, Nat.reduceEqDiff, Nat.reduceAdd, iput, puts, p_boxc, p_msl2]
        refine den_call (fc := (18, [])) rfl (by first | (simp only [SS, Nat.reduceEqDiff, Nat.reduceAdd, iput, puts, FF, frzL_cat]; done) | (simp only [SS, Nat.reduceEqDiff, Nat.reduceAdd, iput, puts, FF, frzL_cat]; rfl)) (arrowCode_fz K A.code c b [f, g] (by simp) (Wn2 c f g)) ?_
        simp only [SS, Nat.reduceEqDiff, Nat.reduceAdd, iput, puts, h0, cat2, tl, f0, f1, f2, g0, g1, g2, h1']
        exact ⟨_, rfl, H, fun _ _ h => h, .nil, rfl, IsI.nil _ _⟩
      · unfold V_spec_LiftsOf
        simp only [SS, Nat.reduceEqDiff, Nat.reduceAdd, iput, puts, p_boxc, p_ldc]
        refine den_call (fc := (235, [])) rfl (by first | (simp only [SS, Nat.reduceEqDiff, Nat.reduceAdd, iput, puts, FF, frzL_cat]; done) | (simp only [SS, Nat.reduceEqDiff, Nat.reduceAdd, iput, puts, FF, frzL_cat]; rfl)) (l05Two_fz KS ha h2 c b f g) ?_
        simp only [SS, Nat.reduceEqDiff, Nat.reduceAdd, iput, puts, h0, cat2, tl, f0, f1, f2, g0, g1, g2, h1']
        exact ⟨_, rfl, H, fun _ _ h => h, .nil, rfl, IsI.nil _ _⟩
  · refine ⟨[], code (IsCat c) (Arr c f ∧ Arr c g), by simp, fun H nx => h _ _ _ _ rfl fun hwf => ?_, fun H nx => hs _ _ _ _ rfl fun hwf => ?_⟩
    · unfold V_LiftsOf
      simp only [SS, Nat.reduceEqDiff, Nat.reduceAdd, iput, puts, p_boxc, p_msl2]
      refine den_call (fc := (18, [])) rfl (by first | (simp only [SS, Nat.reduceEqDiff, Nat.reduceAdd, iput, puts, FF, frzL_cat]; done) | (simp only [SS, Nat.reduceEqDiff, Nat.reduceAdd, iput, puts, FF, frzL_cat]; rfl)) (arrowCode_fz K A.code c b [f, g] (by simp) (Wn2 c f g)) ?_
      simp only [SS, Nat.reduceEqDiff, Nat.reduceAdd, iput, puts, h0]
      exact ⟨_, rfl, H, fun _ _ h => h, .nil, rfl, IsI.nil _ _⟩
    · unfold V_spec_LiftsOf
      simp only [SS, Nat.reduceEqDiff, Nat.reduceAdd, iput, puts, p_boxc, p_ldc]
      refine den_call (fc := (235, [])) rfl (by first | (simp only [SS, Nat.reduceEqDiff, Nat.reduceAdd, iput, puts, FF, frzL_cat]; done) | (simp only [SS, Nat.reduceEqDiff, Nat.reduceAdd, iput, puts, FF, frzL_cat]; rfl)) (l05Two_fz KS ha h2 c b f g) ?_
      simp only [SS, Nat.reduceEqDiff, Nat.reduceAdd, iput, puts, h0]
      exact ⟨_, rfl, H, fun _ _ h => h, .nil, rfl, IsI.nil _ _⟩

theorem retL_eq {c : Cat} (s : Shape c) {f : Int} (f0 : 0 ≤ f) (f1 : f < c.f.length) : retL c f = selL c.f.length fun k => (c.F k == c.T f && c.T k == c.F f) && c.K f k == c.I (c.F f) := by
  have f2 : f.toNat < c.f.length := by omega
  have f3 : ((f.toNat : Nat) : Int) = f := by omega
  obtain ⟨a1, a2⟩ := s.fLt f2
  rw [f3] at a1 a2
  have hid := s.id (c.F f).toNat (by omega)
  have : c.T (c.I (c.F f)) = c.F f := by rw [Cat.I, hid.2]; omega
  simp only [retL, extL_eq, this]

def V_spec_l05Retractions : Vc :=
  .op true (.p .box [.t 0]) <|
  .op true (.p (.msl 0 [] []) []) <|
  .loop 0 [.t 3, .c (int 0)] <|
  .op true (.p (.fad 1) [.t 2]) <|
  .op true (.p (.ld none) [.t 6]) <|
  .op true (.p .len [.t 7]) <|
  .op true (.p (.bin .lss) [.t 5, .t 8]) <|
  .br 9
   (.op true (.p (.fad 1) [.t 2]) <|
   .op true (.p (.ld none) [.t 10]) <|
   .op true (.p (.iad 1) [.t 11, .t 5]) <|
   .op true (.p (.ld none) [.t 12]) <|
   .op true (.p (.fad 2) [.t 2]) <|
   .op true (.p (.ld none) [.t 14]) <|
   .op true (.p (.iad 1) [.t 15, .t 1]) <|
   .op true (.p (.ld none) [.t 16]) <|
   .op true (.p (.bin .eql) [.t 13, .t 17]) <|
   .br 18
    (.op true (.p (.fad 2) [.t 2]) <|
    .op true (.p (.ld none) [.t 19]) <|
    .op true (.p (.iad 1) [.t 20, .t 5]) <|
    .op true (.p (.ld none) [.t 21]) <|
    .op true (.p (.fad 1) [.t 2]) <|
    .op true (.p (.ld none) [.t 23]) <|
    .op true (.p (.iad 1) [.t 24, .t 1]) <|
    .op true (.p (.ld none) [.t 25]) <|
    .op true (.p (.bin .eql) [.t 22, .t 26]) <|
    .br 27
     (.op true (.p (.fad 4) [.t 2]) <|
     .op true (.p (.ld none) [.t 28]) <|
     .op true (.p (.iad 1) [.t 29, .t 1]) <|
     .op true (.p (.ld none) [.t 30]) <|
     .op true (.p (.iad 1) [.t 31, .t 5]) <|
     .op true (.p (.ld none) [.t 32]) <|
     .op true (.p (.fad 3) [.t 2]) <|
     .op true (.p (.ld none) [.t 34]) <|
     .op true (.p (.fad 1) [.t 2]) <|
     .op true (.p (.ld none) [.t 36]) <|
     .op true (.p (.iad 1) [.t 37, .t 1]) <|
     .op true (.p (.ld none) [.t 38]) <|
     .op true (.p (.iad 1) [.t 35, .t 39]) <|
     .op true (.p (.ld none) [.t 40]) <|
     .op true (.p (.bin .eql) [.t 33, .t 41]) <|
     .br 42
      (.op true (.p (.msl 1 [int 0] [(0, 1)]) [.t 5]) <|
      .op true (.app 1 (.t 4) (.t 43)) <|
      .op true (.p (.bin .add) [.t 5, .c (int 1)]) <|
      .again 0 [.t 44, .t 45])
      (.op true (.p (.bin .add) [.t 5, .c (int 1)]) <|
      .again 0 [.t 4, .t 43]))
     (.op true (.p (.bin .add) [.t 5, .c (int 1)]) <|
     .again 0 [.t 4, .t 28]))
    (.op true (.p (.bin .add) [.t 5, .c (int 1)]) <|
    .again 0 [.t 4, .t 19]))
   (.ret [(.t 4, none)])
theorem l05Retractions_ok (h : Has P ν 237 2 V_spec_l05Retractions) (c : Cat) (s : Shape c) (f : Int) (f0 : 0 ≤ f) (f1 : f < c.f.length) (H : Hp) (nx : Nat) :
    OkM P ν 237 [.agg c.cells, int f] H nx (IsI (retL c f) H nx) := by
  refine h _ _ _ _ rfl fun hwf => ?_
  unfold V_spec_l05Retractions
  simp only [SS, Nat.reduceEqDiff, Nat.reduceAdd, iput, puts, p_boxc]
  rw [retL_eq s f0 f1]
  have n40 := s.n40
  have tl := s.tl
  have cl := s.cl
  have f2 : f.toNat < c.f.length := by omega
  obtain ⟨a1, a2⟩ := s.fLt f2
  simp only [Cat.F, Int.toNat_natCast] at a1 a2
  have a3 : (c.f.getD f.toNat 0).toNat < c.i.length := by omega
  have r1 := s.rowLen f0 f1
  refine den_sel c.f.length (fun k => (c.F k == c.T f && c.T k == c.F f) && c.K f k == c.I (c.F f)) H nx rfl (Nat.le_refl _) rfl fun i v H' nx' hi hI => ?_
  have hl := selL_len i fun k => (c.F k == c.T f && c.T k == c.F f) && c.K f k == c.I (c.F f)
  by_cases hlt : i < c.f.length
  · simp only [SS, Nat.reduceEqDiff, Nat.reduceAdd, iput, puts, cat1, cat2, cat3, cat4, hlt, tl, cl, f0, f1, f2, a1, a2, a3, r1, wrap_succ (show i < 9223372036854775807 by omega)]
    have skip : ¬ (c.F i = c.T f ∧ c.T i = c.F f ∧ c.K f i = c.I (c.F f)) → Sel c.f.length (fun k => (c.F k == c.T f && c.T k == c.F f) && c.K f k == c.I (c.F f)) H nx i [v, int ((i + 1 : Nat) : Int)] H' nx' := fun hb =>
      sel_skip rfl hlt (by rw [Bool.eq_false_iff]; intro hh; simp only [Bool.and_eq_true, beq_iff_eq] at hh; exact hb ⟨hh.1.1, hh.1.2, hh.2⟩) hI
    refine ⟨fun h3 => ⟨fun h4 => ⟨fun h5 => ?_, fun h5 => skip fun hb => h5 hb.2.2⟩, fun h4 => skip fun hb => h4 hb.2.1⟩, fun h3 => skip fun hb => h3 hb.1⟩
    refine den_appI (m := [(i : Int)]) (H0 := H) (nx0 := nx) hI rfl (by simp) (by simp; omega) fun v2 H2 nx2 hI2 => ?_
    simp only [SS, Nat.reduceEqDiff, Nat.reduceAdd, iput, puts, wrap_succ (show i < 9223372036854775807 by omega)]
    exact sel_take rfl hlt (by simp only [Bool.and_eq_true, beq_iff_eq]; exact ⟨⟨h3, h4⟩, h5⟩) hI2
  · have : i = c.f.length := by omega
    subst this
    simp only [SS, Nat.reduceEqDiff, Nat.reduceAdd, iput, puts, cat1, hlt]
    exact ⟨_, rfl, H', fun _ _ h => h, hI⟩

def V_RetractionsOf : Vc :=
  .op true (.p .box [.t 0]) <|
  .op true (.p (.msl 1 [int 0] [(0, 1)]) [.t 1]) <|
  .op true (.call (.f 18) [.t 2, .t 3]) <|
  .op true (.p (.bin .neq) [.t 4, .c (int 0)]) <|
  .br 5
   (.ret [(.c (.nil), none), (.t 4, none)])
   (.op true (.callm (.f 238) [.t 2, .t 1]) <|
   .ret [(.t 6, none), (.c (int 0), none)])
def V_spec_RetractionsOf : Vc :=
  .op true (.p .box [.t 0]) <|
  .op true (.p (.ld (some 5)) [.t 2]) <|
  .op true (.call (.f 14) [.t 3, .t 1]) <|
  .op true (.p (.bin .neq) [.t 4, .c (int 0)]) <|
  .br 5
   (.ret [(.c (.nil), none), (.t 4, none)])
   (.op true (.p (.ld (some 5)) [.t 2]) <|
   .op true (.callm (.f 237) [.t 6, .t 1]) <|
   .ret [(.t 7, none), (.c (int 0), none)])
theorem RetractionsOf_both (K : HCat P ν) (A : HArr P ν) (he : Has P ν 236 3 V_Category_extensions) (hr : Has P ν 238 2 V_Category_retractions) (h : Has P ν 102 2 V_RetractionsOf) (KS : HSpec P ν) (ha : Has P ν 23 2 V_spec_l05Arrow) (h2 : Has P ν 14 2 V_spec_l05Code) (h3 : Has P ν 237 2 V_spec_l05Retractions) (hs : Has P ν 101 2 V_spec_RetractionsOf) (c : Cat) (b : Small c) (f : Int) :
    BothP P ν 102 101 [.agg c.cells, int f] := by
  by_cases h0 : code (IsCat c) (Arr c f) = 0
  · obtain ⟨hc, f0, f1⟩ := code_zero.1 h0
    have s := hc.1
    have n40 := s.n40
    refine ⟨retL c f, 0, ?_, fun H nx => h _ _ _ _ rfl fun hwf => ?_, fun H nx => hs _ _ _ _ rfl fun hwf => ?_⟩
    · rw [retL_eq s f0 f1]; exact Nat.le_trans (selL_len _ _) (by omega)
    · unfold V_RetractionsOf
      simp only [SS, Nat.reduceEqDiff, Nat.reduceAdd, iput, puts, p_boxc]
      refine den_call (fc := (18, [])) rfl (by first | (simp only [SS, Nat.reduceEqDiff, Nat.reduceAdd, iput, puts, FF, frzL_cat]; done) | (simp only [SS, Nat.reduceEqDiff, Nat.reduceAdd, iput, puts, FF, frzL_cat]; rfl)) (arrowCode_fz K A.code c b [f] (by simp) (Wn1 c f)) ?_
      simp only [SS, Nat.reduceEqDiff, Nat.reduceAdd, iput, puts, h0]
      refine den_callm (fc := (238, [])) rfl (retractions_ok A.hom K.thn he hr c s f f0 f1 H nx) (IsI.some _ _ _) fun u H' nx' hu => ?_
      exact ⟨_, rfl, H', fun _ _ h => h, u, rfl, hu⟩
    · unfold V_spec_RetractionsOf
      simp only [SS, Nat.reduceEqDiff, Nat.reduceAdd, iput, puts, p_boxc, p_ldc]
      refine den_call (fc := (14, [])) rfl (by first | (simp only [SS, Nat.reduceEqDiff, Nat.reduceAdd, iput, puts, FF, frzL_cat]; done) | (simp only [SS, Nat.reduceEqDiff, Nat.reduceAdd, iput, puts, FF, frzL_cat]; rfl)) (l05Code_fz KS ha h2 c b f) ?_
      simp only [SS, Nat.reduceEqDiff, Nat.reduceAdd, iput, puts, h0, p_ldc]
      refine den_callm (fc := (237, [])) rfl (l05Retractions_ok h3 c s f f0 f1 H nx) (IsI.some _ _ _) fun u H' nx' hu => ?_
      exact ⟨_, rfl, H', fun _ _ h => h, u, rfl, hu⟩
  · refine ⟨[], code (IsCat c) (Arr c f), by simp, fun H nx => h _ _ _ _ rfl fun hwf => ?_, fun H nx => hs _ _ _ _ rfl fun hwf => ?_⟩
    · unfold V_RetractionsOf
      simp only [SS, Nat.reduceEqDiff, Nat.reduceAdd, iput, puts, p_boxc]
      refine den_call (fc := (18, [])) rfl (by first | (simp only [SS, Nat.reduceEqDiff, Nat.reduceAdd, iput, puts, FF, frzL_cat]; done) | (simp only [SS, Nat.reduceEqDiff, Nat.reduceAdd, iput, puts, FF, frzL_cat]; rfl)) (arrowCode_fz K A.code c b [f] (by simp) (Wn1 c f)) ?_
      simp only [SS, Nat.reduceEqDiff, Nat.reduceAdd, iput, puts, h0]
      exact ⟨_, rfl, H, fun _ _ h => h, .nil, rfl, IsI.nil _ _⟩
    · unfold V_spec_RetractionsOf
      simp only [SS, Nat.reduceEqDiff, Nat.reduceAdd, iput, puts, p_boxc, p_ldc]
      refine den_call (fc := (14, [])) rfl (by first | (simp only [SS, Nat.reduceEqDiff, Nat.reduceAdd, iput, puts, FF, frzL_cat]; done) | (simp only [SS, Nat.reduceEqDiff, Nat.reduceAdd, iput, puts, FF, frzL_cat]; rfl)) (l05Code_fz KS ha h2 c b f) ?_
      simp only [SS, Nat.reduceEqDiff, Nat.reduceAdd, iput, puts, h0]
      exact ⟨_, rfl, H, fun _ _ h => h, .nil, rfl, IsI.nil _ _⟩
end Go.Av
