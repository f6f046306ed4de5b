/-
  Preorders and monoids: the checks of both sides.
-/
import Derived.Test.YtbalggpkmaabmaaDoorAvR3
import Derived.Test.YtbalggpkmaabmaaDoorAvD0
namespace Go.Av
open Classical
set_option linter.unusedSimpArgs false
set_option linter.unusedVariables false
variable {P : Program} {ν : Nat → FuncId}

def E (R : List (List Int)) (i j : Nat) : Int := gI (gR R i) j
end Go.Av
