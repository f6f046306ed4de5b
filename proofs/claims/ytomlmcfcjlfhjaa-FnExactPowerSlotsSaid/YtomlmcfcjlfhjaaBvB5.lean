/-
  Splittings of idempotents: the program's and the reference's.
-/
import Derived.Test.YtomlmcfcjlfhjaaBvB4
namespace Go.Av
set_option linter.unusedSectionVars false
set_option linter.unusedSimpArgs false
set_option linter.unusedVariables false
variable [md : Md]
open Classical
set_option linter.unusedSimpArgs false
set_option linter.unusedVariables false
variable {P : Program} {ν : Nat → FuncId}







end Go.Av
