/-
  Arrows between two objects, isomorphic objects.
-/
import Derived.Test.YtbalggpkmaabmaaDoorAvM1
import Derived.Test.YtbalggpkmaabmaaDoorAvB5
namespace Go.Av
open Classical
set_option linter.unusedSimpArgs false
set_option linter.unusedVariables false
variable {P : Program} {ν : Nat → FuncId}

section
variable {c : Cat} {x y : Int}
end



end Go.Av
