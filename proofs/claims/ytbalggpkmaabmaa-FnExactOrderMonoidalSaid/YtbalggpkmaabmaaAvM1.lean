/-
  Small functions on lists: composites, membership.
-/
import Derived.Test.YtbalggpkmaabmaaAvD0
import Derived.Test.YtbalggpkmaabmaaAvAA
import Derived.Test.YtbalggpkmaabmaaAvB2
import Derived.Test.YtbalggpkmaabmaaAvC5
namespace Go.Av
open Classical
set_option linter.unusedSimpArgs false
set_option linter.unusedVariables false
variable {P : Program} {ν : Nat → FuncId}

section
variable {C : Ct} {Φ : AV → Hp → Nat → Prop} {n : Nat} {vars : Nat → AV} {H : Hp} {nx : Nat} {Is : Nat → Inv} {r : Vc}
end
section
variable {C : Ct} {Φ : AV → Hp → Nat → Prop} {n : Nat} {vars : Nat → AV} {H : Hp} {nx : Nat} {Is : Nat → Inv} {body : Vc} {d : Nat}

end



end Go.Av
