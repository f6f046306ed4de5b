/-
  Epis, joint epis, balanced categories: the program's and the reference's.
-/
import Derived.Test.YtbalggpkmaabmaaDoorAvB6
namespace Go.Av
open Classical
set_option linter.unusedSimpArgs false
set_option linter.unusedVariables false
variable {P : Program} {ν : Nat → FuncId}







end Go.Av
