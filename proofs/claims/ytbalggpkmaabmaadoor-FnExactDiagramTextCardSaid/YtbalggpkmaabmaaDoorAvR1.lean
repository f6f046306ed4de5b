/-
  Marks on lists of lists of the call's own.
-/
import Derived.Test.YtbalggpkmaabmaaDoorAvR0
namespace Go.Av
open Classical
set_option linter.unusedSimpArgs false
set_option linter.unusedVariables false
variable {P : Program} {ν : Nat → FuncId}



end Go.Av
