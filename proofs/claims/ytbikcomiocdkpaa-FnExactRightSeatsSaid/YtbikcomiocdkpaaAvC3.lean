/-
  The functions on set functors that the statements ask for.
-/
import Derived.Test.YtbikcomiocdkpaaAvC2
namespace Go.Av
open Classical
set_option linter.unusedSimpArgs false
set_option linter.unusedVariables false
variable {P : Program} {ν : Nat → FuncId}

def SFun (f : SF) : Prop := SShape f ∧ (flt f).1 = 0
def V_SetFunctor_isSetFunctor : Vc :=
  .op true (.call (.f 280) [.t 0]) <|
  .op true (.p .bnot [.t 1]) <|
  .br 2
   (.ret [(.c (bool false), none)])
   (.op true (.call (.f 281) [.t 0]) <|
   .op true (.p (.ext 0) [.t 3]) <|
   .op true (.p (.ext 1) [.t 3]) <|
   .op true (.p (.ext 2) [.t 3]) <|
   .op true (.p (.ext 3) [.t 3]) <|
   .op true (.p (.bin .eql) [.t 4, .c (int 0)]) <|
   .ret [(.t 8, none)])
def V_spec_l19Is : Vc :=
  .op true (.p .box [.t 0]) <|
  .op true (.p (.ld (some 7)) [.t 1]) <|
  .op true (.call (.f 278) [.t 2]) <|
  .op true (.p .bnot [.t 3]) <|
  .br 4
   (.ret [(.c (bool false), none)])
   (.op true (.p (.ld (some 7)) [.t 1]) <|
   .op true (.call (.f 279) [.t 5]) <|
   .op true (.p (.ext 0) [.t 6]) <|
   .op true (.p (.ext 1) [.t 6]) <|
   .op true (.p (.ext 2) [.t 6]) <|
   .op true (.p (.ext 3) [.t 6]) <|
   .op true (.p (.bin .eql) [.t 7, .c (int 0)]) <|
   .ret [(.t 11, none)])
structure HSF (P : Program) (ν : Nat → FuncId) : Prop where
  isMapOf : Has P ν 391 3 V_isMapOf
  isShape : Has P ν 280 1 V_SetFunctor_isShape
  fault : Has P ν 281 1 V_SetFunctor_fault
  is : Has P ν 283 1 V_SetFunctor_isSetFunctor
structure HSFS (P : Program) (ν : Nat → FuncId) : Prop where
  shape : Has P ν 278 1 V_spec_l19Shape
  fault : Has P ν 279 1 V_spec_l19Fault
  is : Has P ν 282 1 V_spec_l19Is
theorem isSetFunctor_fz (K : HCat P ν) (L : HSF P ν) (f : SF) (b : SmallF f) : Fz (OkM P ν) 283 [.ptr f.cells 0] (bool (decide (SFun f))) := by
  refine Fn.fzb fun H nx => L.is _ _ _ _ rfl fun hwf => ?_
  unfold V_SetFunctor_isSetFunctor
  refine den_call (fc := (280, [])) rfl (by first | (simp only [SS, Nat.reduceEqDiff, Nat.reduceAdd, iput, puts, FF, frzL_cat]; done) | (simp only [SS, Nat.reduceEqDiff, Nat.reduceAdd, iput, puts, FF, frzL_cat]; rfl)) (sfIsShape_fz K L.isMapOf L.isShape f b) ?_
  simp only [SS, Nat.reduceEqDiff, Nat.reduceAdd, iput, puts]
  refine ⟨fun h1 => ?_, fun h1 => ?_⟩
  · exact ⟨_, rfl, H, fun _ _ h => h, ret_false (fun s => h1 s.1), rfl, Nat.le_refl _⟩
  refine den_call (fc := (281, [])) rfl (by first | (simp only [SS, Nat.reduceEqDiff, Nat.reduceAdd, iput, puts, FF, frzL_cat]; done) | (simp only [SS, Nat.reduceEqDiff, Nat.reduceAdd, iput, puts, FF, frzL_cat]; rfl)) (sfFault_fz L.fault f b h1) ?_
  simp only [SS, Nat.reduceEqDiff, Nat.reduceAdd, iput, puts, q4]
  refine ⟨_, rfl, H, fun _ _ h => h, ?_, rfl, Nat.le_refl _⟩
  by_cases e : (flt f).1 = 0
  · rw [decide_eq_true (show SFun f from ⟨h1, e⟩)]; simp only [SS, Nat.reduceEqDiff, Nat.reduceAdd, iput, puts, e, beq_self_eq_true]
  · rw [decide_eq_false (fun s : SFun f => e s.2)]; simp only [SS, Nat.reduceEqDiff, Nat.reduceAdd, iput, puts, show ((flt f).1 == 0) = false from beq_eq_false_iff_ne.2 e]
theorem l19Is_fz (KS : HSpec P ν) (L : HSFS P ν) (f : SF) (b : SmallF f) : Fz (OkM P ν) 282 [.agg f.cells] (bool (decide (SFun f))) := by
  refine Fn.fzb fun H nx => L.is _ _ _ _ rfl fun hwf => ?_
  unfold V_spec_l19Is
  simp only [SS, Nat.reduceEqDiff, Nat.reduceAdd, iput, puts, p_boxs, p_lds7]
  refine den_call (fc := (278, [])) (ys := [.agg f.cells]) rfl (by simp only [SS, Nat.reduceEqDiff, Nat.reduceAdd, iput, puts, FF, frzL_cat, frzL_sf]) (l19Shape_fz KS L.shape f b) ?_
  simp only [SS, Nat.reduceEqDiff, Nat.reduceAdd, iput, puts, p_lds7]
  refine ⟨fun h1 => ?_, fun h1 => ?_⟩
  · exact ⟨_, rfl, H, fun _ _ h => h, ret_false (fun s => h1 s.1), rfl, Nat.le_refl _⟩
  refine den_call (fc := (279, [])) (ys := [.agg f.cells]) rfl (by simp only [SS, Nat.reduceEqDiff, Nat.reduceAdd, iput, puts, FF, frzL_cat, frzL_sf]) (l19Fault_fz L.fault f b h1) ?_
  simp only [SS, Nat.reduceEqDiff, Nat.reduceAdd, iput, puts, q4]
  refine ⟨_, rfl, H, fun _ _ h => h, ?_, rfl, Nat.le_refl _⟩
  by_cases e : (flt f).1 = 0
  · rw [decide_eq_true (show SFun f from ⟨h1, e⟩)]; simp only [SS, Nat.reduceEqDiff, Nat.reduceAdd, iput, puts, e, beq_self_eq_true]
  · rw [decide_eq_false (fun s : SFun f => e s.2)]; simp only [SS, Nat.reduceEqDiff, Nat.reduceAdd, iput, puts, show ((flt f).1 == 0) = false from beq_eq_false_iff_ne.2 e]

def V_IsSetFunctor : Vc :=
  .op true (.p .box [.t 0]) <|
  .op true (.call (.f 283) [.t 1]) <|
  .ret [(.t 2, none)]
def V_spec_IsSetFunctor : Vc :=
  .op true (.p .box [.t 0]) <|
  .op true (.p (.ld (some 7)) [.t 1]) <|
  .op true (.call (.f 282) [.t 2]) <|
  .ret [(.t 3, none)]
theorem IsSetFunctor_both (K : HCat P ν) (L : HSF P ν) (h : Has P ν 146 1 V_IsSetFunctor) (KS : HSpec P ν) (LS : HSFS P ν) (hs : Has P ν 145 1 V_spec_IsSetFunctor) (f : SF) (b : SmallF f) : ∃ x : Bool, BothS P ν 146 145 [.agg f.cells] (bool x) := by
  refine ⟨decide (SFun f), fun H nx => h _ _ _ _ rfl fun hwf => ?_, fun H nx => hs _ _ _ _ rfl fun hwf => ?_⟩
  · unfold V_IsSetFunctor
    simp only [SS, Nat.reduceEqDiff, Nat.reduceAdd, iput, puts, p_boxs]
    refine den_call (fc := (283, [])) rfl (by first | (simp only [SS, Nat.reduceEqDiff, Nat.reduceAdd, iput, puts, FF, frzL_cat]; done) | (simp only [SS, Nat.reduceEqDiff, Nat.reduceAdd, iput, puts, FF, frzL_cat]; rfl)) (isSetFunctor_fz K L f b) ?_
    exact ⟨_, rfl, H, fun _ _ h => h, rfl, rfl, Nat.le_refl _⟩
  · unfold V_spec_IsSetFunctor
    simp only [SS, Nat.reduceEqDiff, Nat.reduceAdd, iput, puts, p_boxs, p_lds7]
    refine den_call (fc := (282, [])) (ys := [.agg f.cells]) rfl (by simp only [SS, Nat.reduceEqDiff, Nat.reduceAdd, iput, puts, FF, frzL_cat, frzL_sf]) (l19Is_fz KS LS f b) ?_
    exact ⟨_, rfl, H, fun _ _ h => h, rfl, rfl, Nat.le_refl _⟩

def V_FirstActionFault : Vc :=
  .op true (.p .box [.t 0]) <|
  .op true (.call (.f 280) [.t 1]) <|
  .op true (.p .bnot [.t 2]) <|
  .br 3
   (.ret [(.c (int 0), none), (.c (int 0), none), (.c (int 0), none), (.c (int 0), none), (.c (int 1), none)])
   (.op true (.call (.f 281) [.t 1]) <|
   .op true (.p (.ext 0) [.t 4]) <|
   .op true (.p (.ext 1) [.t 4]) <|
   .op true (.p (.ext 2) [.t 4]) <|
   .op true (.p (.ext 3) [.t 4]) <|
   .ret [(.t 5, none), (.t 6, none), (.t 7, none), (.t 8, none), (.c (int 0), none)])
def V_spec_FirstActionFault : Vc :=
  .op true (.p .box [.t 0]) <|
  .op true (.p (.ld (some 7)) [.t 1]) <|
  .op true (.call (.f 278) [.t 2]) <|
  .op true (.p .bnot [.t 3]) <|
  .br 4
   (.ret [(.c (int 0), none), (.c (int 0), none), (.c (int 0), none), (.c (int 0), none), (.c (int 1), none)])
   (.op true (.p (.ld (some 7)) [.t 1]) <|
   .op true (.call (.f 279) [.t 5]) <|
   .op true (.p (.ext 0) [.t 6]) <|
   .op true (.p (.ext 1) [.t 6]) <|
   .op true (.p (.ext 2) [.t 6]) <|
   .op true (.p (.ext 3) [.t 6]) <|
   .ret [(.t 7, none), (.t 8, none), (.t 9, none), (.t 10, none), (.c (int 0), none)])
theorem FirstActionFault_both (K : HCat P ν) (L : HSF P ν) (h : Has P ν 143 1 V_FirstActionFault) (KS : HSpec P ν) (LS : HSFS P ν) (hs : Has P ν 141 1 V_spec_FirstActionFault) (f : SF) (b : SmallF f) : ∃ x y z w k : Int, BothS P ν 143 141 [.agg f.cells] (.tup [int x, int y, int z, int w, int k]) := by
  by_cases h1 : SShape f
  · refine ⟨(flt f).1, (flt f).2.1, (flt f).2.2.1, (flt f).2.2.2, 0, fun H nx => h _ _ _ _ rfl fun hwf => ?_, fun H nx => hs _ _ _ _ rfl fun hwf => ?_⟩
    · unfold V_FirstActionFault
      simp only [SS, Nat.reduceEqDiff, Nat.reduceAdd, iput, puts, p_boxs]
      refine den_call (fc := (280, [])) rfl (by first | (simp only [SS, Nat.reduceEqDiff, Nat.reduceAdd, iput, puts, FF, frzL_cat]; done) | (simp only [SS, Nat.reduceEqDiff, Nat.reduceAdd, iput, puts, FF, frzL_cat]; rfl)) (sfIsShape_fz K L.isMapOf L.isShape f b) ?_
      simp only [SS, Nat.reduceEqDiff, Nat.reduceAdd, iput, puts, h1, decide_true]
      refine den_call (fc := (281, [])) rfl (by first | (simp only [SS, Nat.reduceEqDiff, Nat.reduceAdd, iput, puts, FF, frzL_cat]; done) | (simp only [SS, Nat.reduceEqDiff, Nat.reduceAdd, iput, puts, FF, frzL_cat]; rfl)) (sfFault_fz L.fault f b h1) ?_
      simp only [SS, Nat.reduceEqDiff, Nat.reduceAdd, iput, puts, q4]
      exact ⟨_, rfl, H, fun _ _ h => h, rfl, rfl, Nat.le_refl _⟩
    · unfold V_spec_FirstActionFault
      simp only [SS, Nat.reduceEqDiff, Nat.reduceAdd, iput, puts, p_boxs, p_lds7]
      refine den_call (fc := (278, [])) (ys := [.agg f.cells]) rfl (by simp only [SS, Nat.reduceEqDiff, Nat.reduceAdd, iput, puts, FF, frzL_cat, frzL_sf]) (l19Shape_fz KS LS.shape f b) ?_
      simp only [SS, Nat.reduceEqDiff, Nat.reduceAdd, iput, puts, p_lds7, h1, decide_true]
      refine den_call (fc := (279, [])) (ys := [.agg f.cells]) rfl (by simp only [SS, Nat.reduceEqDiff, Nat.reduceAdd, iput, puts, FF, frzL_cat, frzL_sf]) (l19Fault_fz LS.fault f b h1) ?_
      simp only [SS, Nat.reduceEqDiff, Nat.reduceAdd, iput, puts, q4]
      exact ⟨_, rfl, H, fun _ _ h => h, rfl, rfl, Nat.le_refl _⟩
  · refine ⟨0, 0, 0, 0, 1, fun H nx => h _ _ _ _ rfl fun hwf => ?_, fun H nx => hs _ _ _ _ rfl fun hwf => ?_⟩
    · unfold V_FirstActionFault
      simp only [SS, Nat.reduceEqDiff, Nat.reduceAdd, iput, puts, p_boxs]
      refine den_call (fc := (280, [])) rfl (by first | (simp only [SS, Nat.reduceEqDiff, Nat.reduceAdd, iput, puts, FF, frzL_cat]; done) | (simp only [SS, Nat.reduceEqDiff, Nat.reduceAdd, iput, puts, FF, frzL_cat]; rfl)) (sfIsShape_fz K L.isMapOf L.isShape f b) ?_
      simp only [SS, Nat.reduceEqDiff, Nat.reduceAdd, iput, puts, h1, decide_false]
      exact ⟨_, rfl, H, fun _ _ h => h, rfl, rfl, Nat.le_refl _⟩
    · unfold V_spec_FirstActionFault
      simp only [SS, Nat.reduceEqDiff, Nat.reduceAdd, iput, puts, p_boxs, p_lds7]
      refine den_call (fc := (278, [])) (ys := [.agg f.cells]) rfl (by simp only [SS, Nat.reduceEqDiff, Nat.reduceAdd, iput, puts, FF, frzL_cat, frzL_sf]) (l19Shape_fz KS LS.shape f b) ?_
      simp only [SS, Nat.reduceEqDiff, Nat.reduceAdd, iput, puts, h1, decide_false]
      exact ⟨_, rfl, H, fun _ _ h => h, rfl, rfl, Nat.le_refl _⟩

def V_spec_l02Arrow : Vc :=
  .op true (.p .box [.t 0]) <|
  .op true (.p (.bin .geq) [.t 1, .c (int 0)]) <|
  .br 3
   (.op true (.p (.fad 1) [.t 2]) <|
   .op true (.p (.ld none) [.t 4]) <|
   .op true (.p .len [.t 5]) <|
   .op true (.p (.bin .lss) [.t 1, .t 6]) <|
   .ret [(.t 7, none)])
   (.ret [(.c (bool false), none)])
theorem l02Arrow_fz (h : Has P ν 301 2 V_spec_l02Arrow) (c : Cat) (x : Int) : Fz (OkM P ν) 301 [.agg c.cells, int x] (bool (decide (Arr c x))) := by
  refine Fn.fzb fun H nx => h _ _ _ _ rfl fun hwf => ?_
  unfold V_spec_l02Arrow
  simp only [SS, Nat.reduceEqDiff, Nat.reduceAdd, iput, puts, p_boxc, cat1]
  refine ⟨fun h1 => ?_, fun h1 => ?_⟩
  · refine ⟨_, rfl, H, fun _ _ h => h, ?_, rfl, Nat.le_refl _⟩
    simp only [SS, Nat.reduceEqDiff, Nat.reduceAdd, iput, puts, Arr, show (0 ≤ x) from h1]
  · exact ⟨_, rfl, H, fun _ _ h => h, ret_false (fun s => h1 s.1), rfl, Nat.le_refl _⟩
def V_spec_l02Object : Vc :=
  .op true (.p .box [.t 0]) <|
  .op true (.p (.bin .geq) [.t 1, .c (int 0)]) <|
  .br 3
   (.op true (.p (.fad 0) [.t 2]) <|
   .op true (.p (.ld none) [.t 4]) <|
   .op true (.p (.bin .lss) [.t 1, .t 5]) <|
   .ret [(.t 6, none)])
   (.ret [(.c (bool false), none)])
theorem l02Object_fz (h : Has P ν 284 2 V_spec_l02Object) (c : Cat) (x : Int) : Fz (OkM P ν) 284 [.agg c.cells, int x] (bool (decide (0 ≤ x ∧ x < c.o))) := by
  refine Fn.fzb fun H nx => h _ _ _ _ rfl fun hwf => ?_
  unfold V_spec_l02Object
  simp only [SS, Nat.reduceEqDiff, Nat.reduceAdd, iput, puts, p_boxc, cat0]
  refine ⟨fun h1 => ?_, fun h1 => ?_⟩
  · refine ⟨_, rfl, H, fun _ _ h => h, ?_, rfl, Nat.le_refl _⟩
    simp only [SS, Nat.reduceEqDiff, Nat.reduceAdd, iput, puts, show (0 ≤ x) from h1]
  · exact ⟨_, rfl, H, fun _ _ h => h, ret_false (fun s => h1 s.1), rfl, Nat.le_refl _⟩
def V_spec_l19Element : Vc :=
  .op true (.p .box [.t 0]) <|
  .op true (.p (.fad 0) [.t 3]) <|
  .op true (.p (.ld (some 5)) [.t 4]) <|
  .op true (.call (.f 284) [.t 5, .t 1]) <|
  .br 6
   (.op true (.p (.bin .geq) [.t 2, .c (int 0)]) <|
   .br 7
    (.op true (.p (.fad 5) [.t 3]) <|
    .op true (.p (.ld none) [.t 8]) <|
    .op true (.p (.iad 1) [.t 9, .t 1]) <|
    .op true (.p (.ld none) [.t 10]) <|
    .op true (.p (.bin .lss) [.t 2, .t 11]) <|
    .ret [(.t 12, none)])
    (.ret [(.c (bool false), none)]))
   (.ret [(.c (bool false), none)])
theorem l19Element_fz (ho : Has P ν 284 2 V_spec_l02Object) (h : Has P ν 302 3 V_spec_l19Element) (f : SF) (hz : (f.z.length : Int) = f.c.o) (x e : Int) : Fz (OkM P ν) 302 [.agg f.cells, int x, int e] (bool (decide ((0 ≤ x ∧ x < f.c.o) ∧ 0 ≤ e ∧ e < f.z.getD x.toNat 0))) := by
  refine Fn.fzb fun H nx => h _ _ _ _ rfl fun hwf => ?_
  unfold V_spec_l19Element
  simp only [SS, Nat.reduceEqDiff, Nat.reduceAdd, iput, puts, p_boxs, p_lds5]
  refine den_call (fc := (284, [])) rfl (by first | (simp only [SS, Nat.reduceEqDiff, Nat.reduceAdd, iput, puts, FF, frzL_cat]; done) | (simp only [SS, Nat.reduceEqDiff, Nat.reduceAdd, iput, puts, FF, frzL_cat]; rfl)) (l02Object_fz ho f.c x) ?_
  by_cases h1 : 0 ≤ x ∧ x < f.c.o
  · obtain ⟨x0, x1⟩ := h1
    have x2 : x < (f.z.length : Int) := by omega
    have x3 : x.toNat < f.z.length := by omega
    simp only [SS, Nat.reduceEqDiff, Nat.reduceAdd, iput, puts, x0, x1, decide_true, sf5, x2, x3]
    refine ⟨fun h2 => ?_, fun h2 => ?_⟩
    · refine ⟨_, rfl, H, fun _ _ h => h, ?_, rfl, Nat.le_refl _⟩
      simp only [SS, Nat.reduceEqDiff, Nat.reduceAdd, iput, puts, show (0 ≤ e) from h2]
    · exact ⟨_, rfl, H, fun _ _ h => h, ret_false (fun s => h2 s.1), rfl, Nat.le_refl _⟩
  · simp only [SS, Nat.reduceEqDiff, Nat.reduceAdd, iput, puts, h1, decide_false]
    exact ⟨_, rfl, H, fun _ _ h => h, ret_false (fun s => s.1), rfl, Nat.le_refl _⟩

def V_ActOnElement : Vc :=
  .op true (.p .box [.t 0]) <|
  .op true (.call (.f 283) [.t 3]) <|
  .op true (.p .bnot [.t 4]) <|
  .br 5
   (.ret [(.c (int 0), none), (.c (int 1), none)])
   (.op true (.p (.fad 0) [.t 3]) <|
   .op true (.call (.f 26) [.t 6]) <|
   .op true (.p (.bin .sub) [.t 7, .c (int 1)]) <|
   .op true (.call (.f 32) [.t 1, .c (int 0), .t 8]) <|
   .op true (.p .bnot [.t 9]) <|
   .br 10
    (.ret [(.c (int 0), none), (.c (int 2), none)])
    (.op true (.p (.fad 6) [.t 3]) <|
    .op true (.p (.ld none) [.t 11]) <|
    .op true (.p (.iad 1) [.t 12, .t 1]) <|
    .op true (.p (.ld none) [.t 13]) <|
    .op true (.p .len [.t 14]) <|
    .op true (.p (.bin .sub) [.t 15, .c (int 1)]) <|
    .op true (.call (.f 32) [.t 2, .c (int 0), .t 16]) <|
    .op true (.p .bnot [.t 17]) <|
    .br 18
     (.ret [(.c (int 0), none), (.c (int 2), none)])
     (.op true (.p (.fad 6) [.t 3]) <|
     .op true (.p (.ld none) [.t 19]) <|
     .op true (.p (.iad 1) [.t 20, .t 1]) <|
     .op true (.p (.ld none) [.t 21]) <|
     .op true (.p (.iad 1) [.t 22, .t 2]) <|
     .op true (.p (.ld none) [.t 23]) <|
     .ret [(.t 24, none), (.c (int 0), none)])))
def V_spec_ActOnElement : Vc :=
  .op true (.p .box [.t 0]) <|
  .op true (.p (.ld (some 7)) [.t 3]) <|
  .op true (.call (.f 282) [.t 4]) <|
  .op true (.p .bnot [.t 5]) <|
  .br 6
   (.ret [(.c (int 0), none), (.c (int 1), none)])
   (.op true (.p (.fad 0) [.t 3]) <|
   .op true (.p (.ld (some 5)) [.t 7]) <|
   .op true (.call (.f 301) [.t 8, .t 1]) <|
   .op true (.p .bnot [.t 9]) <|
   .br 10
    (.ret [(.c (int 0), none), (.c (int 2), none)])
    (.op true (.p (.ld (some 7)) [.t 3]) <|
    .op true (.p (.fad 0) [.t 3]) <|
    .op true (.p (.fad 1) [.t 12]) <|
    .op true (.p (.ld none) [.t 13]) <|
    .op true (.p (.iad 1) [.t 14, .t 1]) <|
    .op true (.p (.ld none) [.t 15]) <|
    .op true (.call (.f 302) [.t 11, .t 16, .t 2]) <|
    .op true (.p .bnot [.t 17]) <|
    .br 18
     (.ret [(.c (int 0), none), (.c (int 2), none)])
     (.op true (.p (.fad 6) [.t 3]) <|
     .op true (.p (.ld none) [.t 19]) <|
     .op true (.p (.iad 1) [.t 20, .t 1]) <|
     .op true (.p (.ld none) [.t 21]) <|
     .op true (.p (.iad 1) [.t 22, .t 2]) <|
     .op true (.p (.ld none) [.t 23]) <|
     .ret [(.t 24, none), (.c (int 0), none)])))
set_option maxHeartbeats 1000000 in
theorem ActOnElement_both (K : HCat P ν) (L : HSF P ν) (h : Has P ν 162 3 V_ActOnElement) (KS : HSpec P ν) (LS : HSFS P ν) (ha : Has P ν 301 2 V_spec_l02Arrow) (ho : Has P ν 284 2 V_spec_l02Object) (he : Has P ν 302 3 V_spec_l19Element) (hs : Has P ν 161 3 V_spec_ActOnElement) (f : SF) (b : SmallF f) (a e : Int) : ∃ x k : Int, BothS P ν 162 161 [.agg f.cells, int a, int e] (.tup [int x, int k]) := by
  have b1 := b.c.f
  by_cases h1 : SFun f
  · have s := h1.1
    have sc := s.cat.1
    have al := s.al
    have zl := s.zl
    have il := sc.il
    by_cases h2 : 0 ≤ a ∧ a < (f.c.f.length : Int)
    · obtain ⟨a0, a1⟩ := h2
      have a2 : a.toNat < f.c.f.length := by omega
      have Ln := s.len a2
      have br := b.row a.toNat (by omega)
      have fl := sc.fLt a2
      simp only [Cat.F, Int.toNat_natCast] at fl
      have harr : Arr f.c a := ⟨a0, a1⟩
      have w1 : IntKind.i64.wrap ((f.c.f.length : Int) - 1) = (f.c.f.length : Int) - 1 := wrap_id (by omega) (by omega)
      have w2 : IntKind.i64.wrap (((f.a.getD a.toNat []).length : Int) - 1) = ((f.a.getD a.toNat []).length : Int) - 1 := wrap_id (by omega) (by omega)
      have c1 : (0 ≤ a ∧ a ≤ (f.c.f.length : Int) - 1) := ⟨a0, by omega⟩
      by_cases h3 : 0 ≤ e ∧ e < ((f.a.getD a.toNat []).length : Int)
      · obtain ⟨e0, e1⟩ := h3
        have e2 : e.toNat < (f.a.getD a.toNat []).length := by omega
        have c2 : (0 ≤ e ∧ e ≤ ((f.a.getD a.toNat []).length : Int) - 1) := ⟨e0, by omega⟩
        have c3 : (0 ≤ f.c.f.getD a.toNat 0 ∧ f.c.f.getD a.toNat 0 < f.c.o) ∧ 0 ≤ e ∧ e < f.z.getD (f.c.f.getD a.toNat 0).toNat 0 := ⟨⟨fl.1, by omega⟩, e0, by omega⟩
        refine ⟨(f.a.getD a.toNat []).getD e.toNat 0, 0, fun H nx => h _ _ _ _ rfl fun hwf => ?_, fun H nx => hs _ _ _ _ rfl fun hwf => ?_⟩
        · unfold V_ActOnElement
          simp only [SS, Nat.reduceEqDiff, Nat.reduceAdd, iput, puts, p_boxs]
          refine den_call (fc := (283, [])) rfl (by first | (simp only [SS, Nat.reduceEqDiff, Nat.reduceAdd, iput, puts, FF, frzL_cat]; done) | (simp only [SS, Nat.reduceEqDiff, Nat.reduceAdd, iput, puts, FF, frzL_cat]; rfl)) (isSetFunctor_fz K L f b) ?_
          rw [decide_eq_true h1]
          simp only [SS, Nat.reduceEqDiff, Nat.reduceAdd, iput, puts]
          refine den_call (fc := (26, [])) (ys := [.ptr f.cells 0]) rfl (by simp only [SS, Nat.reduceEqDiff, Nat.reduceAdd, iput, puts, FF, frzL_cat]) (Fz.win (n := 5) ((arrows_ok K.arrows f.c).fzi)) ?_
          simp only [SS, Nat.reduceEqDiff, Nat.reduceAdd, iput, puts, w1]
          refine den_call (fc := (32, [])) rfl (by first | (simp only [SS, Nat.reduceEqDiff, Nat.reduceAdd, iput, puts, FF, frzL_cat]; done) | (simp only [SS, Nat.reduceEqDiff, Nat.reduceAdd, iput, puts, FF, frzL_cat]; rfl)) ((inRange_ok K.inRange a 0 ((f.c.f.length : Int) - 1)).fzb) ?_
          rw [decide_eq_true c1]
          simp only [SS, Nat.reduceEqDiff, Nat.reduceAdd, iput, puts, sf6, al, a0, a1, a2, w2]
          refine den_call (fc := (32, [])) rfl (by first | (simp only [SS, Nat.reduceEqDiff, Nat.reduceAdd, iput, puts, FF, frzL_cat]; done) | (simp only [SS, Nat.reduceEqDiff, Nat.reduceAdd, iput, puts, FF, frzL_cat]; rfl)) ((inRange_ok K.inRange e 0 (((f.a.getD a.toNat []).length : Int) - 1)).fzb) ?_
          rw [decide_eq_true c2]
          simp only [SS, Nat.reduceEqDiff, Nat.reduceAdd, iput, puts, sf6, al, a0, a1, a2, e0, e1, e2]
          exact ⟨_, rfl, H, fun _ _ h => h, rfl, rfl, Nat.le_refl _⟩
        · unfold V_spec_ActOnElement
          simp only [SS, Nat.reduceEqDiff, Nat.reduceAdd, iput, puts, p_boxs, p_lds7]
          refine den_call (fc := (282, [])) (ys := [.agg f.cells]) rfl (by simp only [SS, Nat.reduceEqDiff, Nat.reduceAdd, iput, puts, FF, frzL_cat, frzL_sf]) (l19Is_fz KS LS f b) ?_
          rw [decide_eq_true h1]
          simp only [SS, Nat.reduceEqDiff, Nat.reduceAdd, iput, puts, p_lds5]
          refine den_call (fc := (301, [])) rfl (by first | (simp only [SS, Nat.reduceEqDiff, Nat.reduceAdd, iput, puts, FF, frzL_cat]; done) | (simp only [SS, Nat.reduceEqDiff, Nat.reduceAdd, iput, puts, FF, frzL_cat]; rfl)) (l02Arrow_fz ha f.c a) ?_
          rw [decide_eq_true harr]
          simp only [SS, Nat.reduceEqDiff, Nat.reduceAdd, iput, puts, p_lds7, sf1, a0, a1, a2]
          refine den_call (fc := (302, [])) (ys := [.agg f.cells, int (f.c.f.getD a.toNat 0), int e]) rfl (by simp only [SS, Nat.reduceEqDiff, Nat.reduceAdd, iput, puts, FF, frzL_cat, frzL_sf]) (l19Element_fz ho he f zl (f.c.f.getD a.toNat 0) e) ?_
          rw [decide_eq_true c3]
          simp only [SS, Nat.reduceEqDiff, Nat.reduceAdd, iput, puts, sf6, al, a0, a1, a2, e0, e1, e2]
          exact ⟨_, rfl, H, fun _ _ h => h, rfl, rfl, Nat.le_refl _⟩
      · have c2 : ¬ (0 ≤ e ∧ e ≤ ((f.a.getD a.toNat []).length : Int) - 1) := fun hh => h3 ⟨hh.1, by omega⟩
        have c3 : ¬ ((0 ≤ f.c.f.getD a.toNat 0 ∧ f.c.f.getD a.toNat 0 < f.c.o) ∧ 0 ≤ e ∧ e < f.z.getD (f.c.f.getD a.toNat 0).toNat 0) := fun hh => h3 ⟨hh.2.1, by omega⟩
        refine ⟨0, 2, fun H nx => h _ _ _ _ rfl fun hwf => ?_, fun H nx => hs _ _ _ _ rfl fun hwf => ?_⟩
        · unfold V_ActOnElement
          simp only [SS, Nat.reduceEqDiff, Nat.reduceAdd, iput, puts, p_boxs]
          refine den_call (fc := (283, [])) rfl (by first | (simp only [SS, Nat.reduceEqDiff, Nat.reduceAdd, iput, puts, FF, frzL_cat]; done) | (simp only [SS, Nat.reduceEqDiff, Nat.reduceAdd, iput, puts, FF, frzL_cat]; rfl)) (isSetFunctor_fz K L f b) ?_
          rw [decide_eq_true h1]
          simp only [SS, Nat.reduceEqDiff, Nat.reduceAdd, iput, puts]
          refine den_call (fc := (26, [])) (ys := [.ptr f.cells 0]) rfl (by simp only [SS, Nat.reduceEqDiff, Nat.reduceAdd, iput, puts, FF, frzL_cat]) (Fz.win (n := 5) ((arrows_ok K.arrows f.c).fzi)) ?_
          simp only [SS, Nat.reduceEqDiff, Nat.reduceAdd, iput, puts, w1]
          refine den_call (fc := (32, [])) rfl (by first | (simp only [SS, Nat.reduceEqDiff, Nat.reduceAdd, iput, puts, FF, frzL_cat]; done) | (simp only [SS, Nat.reduceEqDiff, Nat.reduceAdd, iput, puts, FF, frzL_cat]; rfl)) ((inRange_ok K.inRange a 0 ((f.c.f.length : Int) - 1)).fzb) ?_
          rw [decide_eq_true c1]
          simp only [SS, Nat.reduceEqDiff, Nat.reduceAdd, iput, puts, sf6, al, a0, a1, a2, w2]
          refine den_call (fc := (32, [])) rfl (by first | (simp only [SS, Nat.reduceEqDiff, Nat.reduceAdd, iput, puts, FF, frzL_cat]; done) | (simp only [SS, Nat.reduceEqDiff, Nat.reduceAdd, iput, puts, FF, frzL_cat]; rfl)) ((inRange_ok K.inRange e 0 (((f.a.getD a.toNat []).length : Int) - 1)).fzb) ?_
          rw [decide_eq_false c2]
          simp only [SS, Nat.reduceEqDiff, Nat.reduceAdd, iput, puts]
          exact ⟨_, rfl, H, fun _ _ h => h, rfl, rfl, Nat.le_refl _⟩
        · unfold V_spec_ActOnElement
          simp only [SS, Nat.reduceEqDiff, Nat.reduceAdd, iput, puts, p_boxs, p_lds7]
          refine den_call (fc := (282, [])) (ys := [.agg f.cells]) rfl (by simp only [SS, Nat.reduceEqDiff, Nat.reduceAdd, iput, puts, FF, frzL_cat, frzL_sf]) (l19Is_fz KS LS f b) ?_
          rw [decide_eq_true h1]
          simp only [SS, Nat.reduceEqDiff, Nat.reduceAdd, iput, puts, p_lds5]
          refine den_call (fc := (301, [])) rfl (by first | (simp only [SS, Nat.reduceEqDiff, Nat.reduceAdd, iput, puts, FF, frzL_cat]; done) | (simp only [SS, Nat.reduceEqDiff, Nat.reduceAdd, iput, puts, FF, frzL_cat]; rfl)) (l02Arrow_fz ha f.c a) ?_
          rw [decide_eq_true harr]
          simp only [SS, Nat.reduceEqDiff, Nat.reduceAdd, iput, puts, p_lds7, sf1, a0, a1, a2]
          refine den_call (fc := (302, [])) (ys := [.agg f.cells, int (f.c.f.getD a.toNat 0), int e]) rfl (by simp only [SS, Nat.reduceEqDiff, Nat.reduceAdd, iput, puts, FF, frzL_cat, frzL_sf]) (l19Element_fz ho he f zl (f.c.f.getD a.toNat 0) e) ?_
          rw [decide_eq_false c3]
          simp only [SS, Nat.reduceEqDiff, Nat.reduceAdd, iput, puts]
          exact ⟨_, rfl, H, fun _ _ h => h, rfl, rfl, Nat.le_refl _⟩
    · have harr : ¬ Arr f.c a := h2
      have w1 : IntKind.i64.wrap ((f.c.f.length : Int) - 1) = (f.c.f.length : Int) - 1 := wrap_id (by omega) (by omega)
      have c1 : ¬ (0 ≤ a ∧ a ≤ (f.c.f.length : Int) - 1) := fun hh => h2 ⟨hh.1, by omega⟩
      refine ⟨0, 2, fun H nx => h _ _ _ _ rfl fun hwf => ?_, fun H nx => hs _ _ _ _ rfl fun hwf => ?_⟩
      · unfold V_ActOnElement
        simp only [SS, Nat.reduceEqDiff, Nat.reduceAdd, iput, puts, p_boxs]
        refine den_call (fc := (283, [])) rfl (by first | (simp only [SS, Nat.reduceEqDiff, Nat.reduceAdd, iput, puts, FF, frzL_cat]; done) | (simp only [SS, Nat.reduceEqDiff, Nat.reduceAdd, iput, puts, FF, frzL_cat]; rfl)) (isSetFunctor_fz K L f b) ?_
        rw [decide_eq_true h1]
        simp only [SS, Nat.reduceEqDiff, Nat.reduceAdd, iput, puts]
        refine den_call (fc := (26, [])) (ys := [.ptr f.cells 0]) rfl (by simp only [SS, Nat.reduceEqDiff, Nat.reduceAdd, iput, puts, FF, frzL_cat]) (Fz.win (n := 5) ((arrows_ok K.arrows f.c).fzi)) ?_
        simp only [SS, Nat.reduceEqDiff, Nat.reduceAdd, iput, puts, w1]
        refine den_call (fc := (32, [])) rfl (by first | (simp only [SS, Nat.reduceEqDiff, Nat.reduceAdd, iput, puts, FF, frzL_cat]; done) | (simp only [SS, Nat.reduceEqDiff, Nat.reduceAdd, iput, puts, FF, frzL_cat]; rfl)) ((inRange_ok K.inRange a 0 ((f.c.f.length : Int) - 1)).fzb) ?_
        rw [decide_eq_false c1]
        simp only [SS, Nat.reduceEqDiff, Nat.reduceAdd, iput, puts]
        exact ⟨_, rfl, H, fun _ _ h => h, rfl, rfl, Nat.le_refl _⟩
      · unfold V_spec_ActOnElement
        simp only [SS, Nat.reduceEqDiff, Nat.reduceAdd, iput, puts, p_boxs, p_lds7]
        refine den_call (fc := (282, [])) (ys := [.agg f.cells]) rfl (by simp only [SS, Nat.reduceEqDiff, Nat.reduceAdd, iput, puts, FF, frzL_cat, frzL_sf]) (l19Is_fz KS LS f b) ?_
        rw [decide_eq_true h1]
        simp only [SS, Nat.reduceEqDiff, Nat.reduceAdd, iput, puts, p_lds5]
        refine den_call (fc := (301, [])) rfl (by first | (simp only [SS, Nat.reduceEqDiff, Nat.reduceAdd, iput, puts, FF, frzL_cat]; done) | (simp only [SS, Nat.reduceEqDiff, Nat.reduceAdd, iput, puts, FF, frzL_cat]; rfl)) (l02Arrow_fz ha f.c a) ?_
        rw [decide_eq_false harr]
        simp only [SS, Nat.reduceEqDiff, Nat.reduceAdd, iput, puts]
        exact ⟨_, rfl, H, fun _ _ h => h, rfl, rfl, Nat.le_refl _⟩
  · refine ⟨0, 1, fun H nx => h _ _ _ _ rfl fun hwf => ?_, fun H nx => hs _ _ _ _ rfl fun hwf => ?_⟩
    · unfold V_ActOnElement
      simp only [SS, Nat.reduceEqDiff, Nat.reduceAdd, iput, puts, p_boxs]
      refine den_call (fc := (283, [])) rfl (by first | (simp only [SS, Nat.reduceEqDiff, Nat.reduceAdd, iput, puts, FF, frzL_cat]; done) | (simp only [SS, Nat.reduceEqDiff, Nat.reduceAdd, iput, puts, FF, frzL_cat]; rfl)) (isSetFunctor_fz K L f b) ?_
      rw [decide_eq_false h1]
      simp only [SS, Nat.reduceEqDiff, Nat.reduceAdd, iput, puts]
      exact ⟨_, rfl, H, fun _ _ h => h, rfl, rfl, Nat.le_refl _⟩
    · unfold V_spec_ActOnElement
      simp only [SS, Nat.reduceEqDiff, Nat.reduceAdd, iput, puts, p_boxs, p_lds7]
      refine den_call (fc := (282, [])) (ys := [.agg f.cells]) rfl (by simp only [SS, Nat.reduceEqDiff, Nat.reduceAdd, iput, puts, FF, frzL_cat, frzL_sf]) (l19Is_fz KS LS f b) ?_
      rw [decide_eq_false h1]
      simp only [SS, Nat.reduceEqDiff, Nat.reduceAdd, iput, puts]
      exact ⟨_, rfl, H, fun _ _ h => h, rfl, rfl, Nat.le_refl _⟩
end Go.Av
