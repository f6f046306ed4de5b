/-
  IsFunctor: the program's and the reference's.
-/
import Derived.Test.YtbgaobcgpkjjkaaAvD4
namespace Go.Av
open Classical
variable {P : Program} {ν : Nat → FuncId}
theorem IsFunctor_both (K : HFun P ν) (KS : HSpecU P ν) (h : Has P ν 119 1 V_IsFunctor) (h' : Has P ν 117 1 V_spec_IsFunctor) (f : Fu) (b : SmallU f) : ∃ a : Bool, Fz (OkM P ν) 119 [.agg f.cells] (bool a) ∧ Fz (OkM P ν) 117 [.agg f.cells] (bool a) :=
  ⟨_, IsFunctor_fz K h f b, sIsFunctor_fz KS h' f b⟩
end Go.Av
