/-
  What several references share: made categories.
-/
import Derived.Test.YtbalggpkmaabmaaDoorAvZ0
namespace Go.Av
open Classical
set_option linter.unusedSimpArgs false
set_option linter.unusedVariables false
variable {P : Program} {ν : Nat → FuncId}

end Go.Av
