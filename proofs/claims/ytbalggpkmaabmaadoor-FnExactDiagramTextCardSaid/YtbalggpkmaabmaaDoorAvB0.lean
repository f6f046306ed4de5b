/-
  Loops that select and filter; error codes; pairs of results.
-/
import Derived.Test.YtbalggpkmaabmaaDoorAvAA
namespace Go.Av
open Classical
set_option linter.unusedSimpArgs false
set_option linter.unusedVariables false
variable {P : Program} {ν : Nat → FuncId}

section loops
variable {C : Ct} {Φ : AV → Hp → Nat → Prop} {n : Nat} {vars : Nat → AV} {H : Hp} {nx : Nat} {Is : Nat → Inv} {body : Vc} {d : Nat}

end loops

/-- The error of a category and of what else is asked. -/
def code (a b : Prop) [Decidable a] [Decidable b] : Int := if a then if b then 0 else 2 else 1

theorem p_msl2 {H : Hp} {a b : Int} : pvf H (.msl 2 [int 0, int 0] [(0, 1), (1, 1)]) [int a, int b] = some (islice [a, b]) := rfl
theorem p_msl3 {H : Hp} {a b c : Int} : pvf H (.msl 3 [int 0, int 0, int 0] [(0, 1), (1, 1), (2, 1)]) [int a, int b, int c] = some (islice [a, b, c]) := rfl
theorem p_msl4 {H : Hp} {a b c d : Int} : pvf H (.msl 4 [int 0, int 0, int 0, int 0] [(0, 1), (1, 1), (2, 1), (3, 1)]) [int a, int b, int c, int d] = some (islice [a, b, c, d]) := rfl

def Arr (c : Cat) (f : Int) : Prop := 0 ≤ f ∧ f < c.f.length


end Go.Av
