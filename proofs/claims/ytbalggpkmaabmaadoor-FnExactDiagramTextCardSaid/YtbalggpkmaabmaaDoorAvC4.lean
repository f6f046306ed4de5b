/-
  Set functors among a statement's arguments: sizes, copies, comparisons.
-/
import Derived.Test.YtbalggpkmaabmaaDoorAvC1
import Derived.Test.YtbalggpkmaabmaaDoorAvL0
import Derived.Test.YtbalggpkmaabmaaDoorAvO1
namespace Go.Av
open Classical
set_option linter.unusedSimpArgs false
set_option linter.unusedVariables false
variable {P : Program} {ν : Nat → FuncId}





end Go.Av
