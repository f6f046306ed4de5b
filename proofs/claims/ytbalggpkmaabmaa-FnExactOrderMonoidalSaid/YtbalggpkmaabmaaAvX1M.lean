/-
  What several references share: made categories.
-/
import Derived.Test.YtbalggpkmaabmaaAvZ0
namespace Go.Av
open Classical
set_option linter.unusedSimpArgs false
set_option linter.unusedVariables false
variable {P : Program} {ν : Nat → FuncId}

theorem p_ld0 {a : AV} : ([a] : List AV)[0]? = some a := rfl
def FitX (x : Cat) : Prop := x.o ≤ 8 ∧ x.f.length ≤ 40
def V_spec_l02Fits : Vc :=
  .op true (.p .box [.t 0]) <|
  .op true (.p (.fad 0) [.t 1]) <|
  .op true (.p (.ld none) [.t 2]) <|
  .op true (.p (.bin .leq) [.t 3, .c (int 8)]) <|
  .br 4
   (.op true (.p (.fad 1) [.t 1]) <|
   .op true (.p (.ld none) [.t 5]) <|
   .op true (.p .len [.t 6]) <|
   .op true (.p (.bin .leq) [.t 7, .c (int 40)]) <|
   .ret [(.t 8, none)])
   (.ret [(.c (bool false), none)])
theorem l02Fits_fz (h : Has P ν 359 1 V_spec_l02Fits) (x : Cat) (hl : x.f.length ≤ 1099511627776) : Fz (OkM P ν) 359 [.agg x.cells] (bool (decide (FitX x))) := by
  refine Fn.fzb fun H nx => h _ _ _ _ rfl fun hwf => ?_
  unfold V_spec_l02Fits
  try simp (disch := (first | rfl | with_reducible assumption | with_reducible solve_by_elim (maxDepth := 8) [Shape.inT, Shape.inI, Shape.inC, Shape.inK, Shape.obF, Shape.obT, Shape.arI, Arr.inF] | omega)) only [S2, Nat.reduceEqDiff, Nat.reduceAdd, iput, puts]
  refine ⟨fun h1 => ?_, fun h1 => ?_⟩
  · try simp (disch := (first | rfl | with_reducible assumption | with_reducible solve_by_elim (maxDepth := 8) [Shape.inT, Shape.inI, Shape.inC, Shape.inK, Shape.obF, Shape.obT, Shape.arI, Arr.inF] | omega)) only [S2, Nat.reduceEqDiff, Nat.reduceAdd, iput, puts]
    refine ⟨_, rfl, H, fun _ _ h => h, ?_, rfl, Nat.le_refl _⟩
    show bool (decide (_ ≤ _)) = _
    congr 1
    exact decide_eq_decide.2 ⟨fun m => ⟨by omega, by omega⟩, fun m => by have := m.2; omega⟩
  · exact ⟨_, rfl, H, fun _ _ h => h, ret_false (fun m => h1 (by have := m.1; omega)), rfl, Nat.le_refl _⟩
end Go.Av
