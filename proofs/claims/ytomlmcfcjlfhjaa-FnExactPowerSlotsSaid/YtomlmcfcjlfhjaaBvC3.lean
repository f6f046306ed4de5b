/-
  The functions on set functors that the statements ask for.
-/
import Derived.Test.YtomlmcfcjlfhjaaBvC2
import Derived.Test.YtomlmcfcjlfhjaaBvN0
namespace Go.Av
set_option linter.unusedSectionVars false
set_option linter.unusedSimpArgs false
set_option linter.unusedVariables false
variable [md : Md]
open Classical
set_option linter.unusedSimpArgs false
set_option linter.unusedVariables false
variable {P : Program} {ν : Nat → FuncId}

def SFun (f : SF) : Prop := SShape f ∧ (flt f).1 = 0
def V_SetFunctor_isSetFunctor : Vc :=
  .op true (.call (.f 280) [.t 0]) <|
  .op true (.p .bnot [.t 1]) <|
  .br 2
   (.ret [(.c (bool false), none)])
   (.op true (.call (.f 281) [.t 0]) <|
   .op true (.p (.ext 0) [.t 3]) <|
   .op true (.p (.ext 1) [.t 3]) <|
   .op true (.p (.ext 2) [.t 3]) <|
   .op true (.p (.ext 3) [.t 3]) <|
   .op true (.p (.bin .eql) [.t 4, .c (int 0)]) <|
   .ret [(.t 8, none)])
def V_spec_l19Is : Vc :=
  .op true (.p .box [.t 0]) <|
  .op true (.p (.ld (some 7)) [.t 1]) <|
  .op true (.call (.f 278) [.t 2]) <|
  .op true (.p .bnot [.t 3]) <|
  .br 4
   (.ret [(.c (bool false), none)])
   (.op true (.p (.ld (some 7)) [.t 1]) <|
   .op true (.call (.f 279) [.t 5]) <|
   .op true (.p (.ext 0) [.t 6]) <|
   .op true (.p (.ext 1) [.t 6]) <|
   .op true (.p (.ext 2) [.t 6]) <|
   .op true (.p (.ext 3) [.t 6]) <|
   .op true (.p (.bin .eql) [.t 7, .c (int 0)]) <|
   .ret [(.t 11, none)])
structure HSF (P : Program) (ν : Nat → FuncId) : Prop where
  isMapOf : Has P ν 391 3 V_isMapOf
  isShape : Has P ν 280 1 V_SetFunctor_isShape
  fault : Has P ν 281 1 V_SetFunctor_fault
  is : Has P ν 283 1 V_SetFunctor_isSetFunctor
structure HSFS (P : Program) (ν : Nat → FuncId) : Prop where
  shape : Has P ν 278 1 V_spec_l19Shape
  fault : Has P ν 279 1 V_spec_l19Fault
  is : Has P ν 282 1 V_spec_l19Is
theorem isSetFunctor_fz (K : HCat P ν) (L : HSF P ν) (f : SF) (b : SmallF f) : Fz (OkM P ν) 283 [.ptr f.cells 0] (bool (decide (SFun f))) := by
  refine Fn.fzb fun H nx => L.is _ _ _ _ rfl fun hwf => ?_
  unfold V_SetFunctor_isSetFunctor
  refine den_call (fc := (280, [])) rfl (by first | (simp only [SS, Nat.reduceEqDiff, Nat.reduceAdd, iput, puts, FF, frzL_cat]; done) | (simp only [SS, Nat.reduceEqDiff, Nat.reduceAdd, iput, puts, FF, frzL_cat]; rfl)) (sfIsShape_fz K L.isMapOf L.isShape f b) ?_
  simp only [SS, Nat.reduceEqDiff, Nat.reduceAdd, iput, puts]
  refine ⟨fun h1 => ?_, fun h1 => ?_⟩
  · exact ⟨_, rfl, H, fun _ _ h => h, ret_false (fun s => h1 s.1), rfl, Nat.le_refl _⟩
  refine den_call (fc := (281, [])) rfl (by first | (simp only [SS, Nat.reduceEqDiff, Nat.reduceAdd, iput, puts, FF, frzL_cat]; done) | (simp only [SS, Nat.reduceEqDiff, Nat.reduceAdd, iput, puts, FF, frzL_cat]; rfl)) (sfFault_fz L.fault f b h1) ?_
  simp only [SS, Nat.reduceEqDiff, Nat.reduceAdd, iput, puts, q4]
  refine ⟨_, rfl, H, fun _ _ h => h, ?_, rfl, Nat.le_refl _⟩
  by_cases e : (flt f).1 = 0
  · rw [decide_eq_true (show SFun f from ⟨h1, e⟩)]; simp only [SS, Nat.reduceEqDiff, Nat.reduceAdd, iput, puts, e, beq_self_eq_true]
  · rw [decide_eq_false (fun s : SFun f => e s.2)]; simp only [SS, Nat.reduceEqDiff, Nat.reduceAdd, iput, puts, show ((flt f).1 == 0) = false from beq_eq_false_iff_ne.2 e]
theorem l19Is_fz (KS : HSpec P ν) (L : HSFS P ν) (f : SF) (b : SmallF f) : Fz (OkM P ν) 282 [.agg f.cells] (bool (decide (SFun f))) := by
  refine Fn.fzb fun H nx => L.is _ _ _ _ rfl fun hwf => ?_
  unfold V_spec_l19Is
  simp only [SS, Nat.reduceEqDiff, Nat.reduceAdd, iput, puts, p_boxs, p_lds7]
  refine den_call (fc := (278, [])) (ys := [.agg f.cells]) rfl (by simp only [SS, Nat.reduceEqDiff, Nat.reduceAdd, iput, puts, FF, frzL_cat, frzL_sf]) (l19Shape_fz KS L.shape f b) ?_
  simp only [SS, Nat.reduceEqDiff, Nat.reduceAdd, iput, puts, p_lds7]
  refine ⟨fun h1 => ?_, fun h1 => ?_⟩
  · exact ⟨_, rfl, H, fun _ _ h => h, ret_false (fun s => h1 s.1), rfl, Nat.le_refl _⟩
  refine den_call (fc := (279, [])) (ys := [.agg f.cells]) rfl (by simp only [SS, Nat.reduceEqDiff, Nat.reduceAdd, iput, puts, FF, frzL_cat, frzL_sf]) (l19Fault_fz L.fault f b h1) ?_
  simp only [SS, Nat.reduceEqDiff, Nat.reduceAdd, iput, puts, q4]
  refine ⟨_, rfl, H, fun _ _ h => h, ?_, rfl, Nat.le_refl _⟩
  by_cases e : (flt f).1 = 0
  · rw [decide_eq_true (show SFun f from ⟨h1, e⟩)]; simp only [SS, Nat.reduceEqDiff, Nat.reduceAdd, iput, puts, e, beq_self_eq_true]
  · rw [decide_eq_false (fun s : SFun f => e s.2)]; simp only [SS, Nat.reduceEqDiff, Nat.reduceAdd, iput, puts, show ((flt f).1 == 0) = false from beq_eq_false_iff_ne.2 e]




end Go.Av
