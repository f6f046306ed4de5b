/-
  Squares and their diagonals: the program's and the reference's.
-/
import Derived.Test.YtbalggpkmaabmaaDoorAvB2
import Derived.Test.YtbalggpkmaabmaaDoorAvB3
namespace Go.Av
open Classical
set_option linter.unusedSimpArgs false
set_option linter.unusedVariables false
variable {P : Program} {ν : Nat → FuncId}












end Go.Av
