/-
  Set functors among a statement's arguments: sizes, copies, comparisons.
-/
import Derived.Test.YtbalggpkmaabmaaAvC1
import Derived.Test.YtbalggpkmaabmaaAvL0
import Derived.Test.YtbalggpkmaabmaaAvO1
namespace Go.Av
open Classical
set_option linter.unusedSimpArgs false
set_option linter.unusedVariables false
variable {P : Program} {ν : Nat → FuncId}





end Go.Av
