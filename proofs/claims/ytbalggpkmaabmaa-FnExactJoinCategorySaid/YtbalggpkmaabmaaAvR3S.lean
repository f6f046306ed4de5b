/-
  A category of the call's own, taken as a value.
-/
import Derived.Test.YtbalggpkmaabmaaAvR3
namespace Go.Av
open Classical
variable {P : Program} {ν : Nat → FuncId}

theorem IsK.toFi {i : Nat} {ys : List AV} {x : Cat} {k : Int} (h : OkM P ν i ys hempty 0 (IsK x k 0)) : Fi (OkM P ν) i ys (.tup [.agg x.cells, int k]) := by
  refine OkM.mono h fun r H' nx' hh => ?_
  obtain ⟨r0, rfl, _, ho, _⟩ := hh
  have := ho.frz 2
  show ([r0, int k].mapM (Av.frz H' 5)).map AV.tup = _
  simp only [List.mapM_cons, List.mapM_nil, this]
  rfl
end Go.Av
