/-
  Splittings of idempotents: the program's and the reference's.
-/
import Derived.Test.YtbalggpkmaabmaaAvB4
namespace Go.Av
open Classical
set_option linter.unusedSimpArgs false
set_option linter.unusedVariables false
variable {P : Program} {ν : Nat → FuncId}







end Go.Av
