/-
  Small functions on lists: composites, membership.
-/
import Derived.Test.YtbalggpkmaabmaaDoorAvD0
import Derived.Test.YtbalggpkmaabmaaDoorAvAA
import Derived.Test.YtbalggpkmaabmaaDoorAvB2
import Derived.Test.YtbalggpkmaabmaaDoorAvC5
namespace Go.Av
open Classical
set_option linter.unusedSimpArgs false
set_option linter.unusedVariables false
variable {P : Program} {ν : Nat → FuncId}

section
variable {C : Ct} {Φ : AV → Hp → Nat → Prop} {n : Nat} {vars : Nat → AV} {H : Hp} {nx : Nat} {Is : Nat → Inv} {r : Vc}
end
section
variable {C : Ct} {Φ : AV → Hp → Nat → Prop} {n : Nat} {vars : Nat → AV} {H : Hp} {nx : Nat} {Is : Nat → Inv} {body : Vc} {d : Nat}

end



end Go.Av
