/-
  Objects among the arguments.
-/
import Derived.Test.YtomlmcfcjlfhjaaBvD0
import Derived.Test.YtomlmcfcjlfhjaaBvB4
namespace Go.Av
set_option linter.unusedSectionVars false
set_option linter.unusedSimpArgs false
set_option linter.unusedVariables false
variable [md : Md]
open Classical
set_option linter.unusedSimpArgs false
set_option linter.unusedVariables false
variable {P : Program} {ν : Nat → FuncId}

def V_spec_l02Object : Vc :=
  .op true (.p .box [.t 0]) <|
  .op true (.p (.bin .geq) [.t 1, .c (int 0)]) <|
  .br 3
   (.op true (.p (.fad 0) [.t 2]) <|
   .op true (.p (.ld none) [.t 4]) <|
   .op true (.p (.bin .lss) [.t 1, .t 5]) <|
   .ret [(.t 6, none)])
   (.ret [(.c (bool false), none)])
theorem l02Object_fz (h : Has P ν 284 2 V_spec_l02Object) (c : Cat) (x : Int) : Fz (OkM P ν) 284 [.agg c.cells, int x] (bool (decide (0 ≤ x ∧ x < c.o))) := by
  refine Fn.fzb fun H nx => h _ _ _ _ rfl fun hwf => ?_
  unfold V_spec_l02Object
  simp only [SS, Nat.reduceEqDiff, Nat.reduceAdd, iput, puts, p_boxc, cat0]
  refine ⟨fun h1 => ?_, fun h1 => ?_⟩
  · refine ⟨_, rfl, H, fun _ _ h => h, ?_, rfl, Nat.le_refl _⟩
    simp only [SS, Nat.reduceEqDiff, Nat.reduceAdd, iput, puts, show (0 ≤ x) from h1]
  · exact ⟨_, rfl, H, fun _ _ h => h, ret_false (fun s => h1 s.1), rfl, Nat.le_refl _⟩
end Go.Av
