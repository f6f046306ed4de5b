/-
  Set functors among a statement's arguments: sizes, copies, comparisons.
-/
import Derived.Test.YtbalggpkmaabmaaAvC1
import Derived.Test.YtbalggpkmaabmaaAvL0
import Derived.Test.YtbalggpkmaabmaaAvO1
namespace Go.Av
open Classical
set_option linter.unusedSimpArgs false
set_option linter.unusedVariables false
variable {P : Program} {ν : Nat → FuncId}

structure ReadF (f : SF) : Prop where
  c : Read f.c
  z : f.z.length ≤ 9223372036854775807
  a : f.a.length ≤ 9223372036854775807
  row : ∀ k, k < f.a.length → (f.a.getD k []).length ≤ 9223372036854775807
def sfTy : Ty := .pair catTy (.pair (.sl .int) (.pair (.sl (.sl .int)) .unit))
theorem ShpV.sf {x : AV} (h : ShpV sfTy x) : ∃ f : SF, x = .agg f.cells ∧ ReadF f := by
  cases h with
  | agg h =>
    cases h with | pair h1 h =>
    cases h with | pair h2 h =>
    cases h with | pair h3 h =>
    cases h
    obtain ⟨c, rfl, rc, _⟩ := Shp.cat h1
    obtain ⟨z, rfl, z1, _⟩ := h2.ints
    obtain ⟨a, rfl, a1, a2⟩ := h3.intRows
    exact ⟨⟨c, z, a⟩, rfl, rc, z1, a1, a2⟩
  | one h => have := h.len; simp [sfTy, catTy, Ty.size] at this




end Go.Av
