/-
  Monoids, and the reference's checks.
-/
import Derived.Test.YtbalggpkmaabmaaDoorAvW1
namespace Go.Av
open Classical
set_option linter.unusedSimpArgs false
set_option linter.unusedVariables false
variable {P : Program} {ν : Nat → FuncId}

end Go.Av
