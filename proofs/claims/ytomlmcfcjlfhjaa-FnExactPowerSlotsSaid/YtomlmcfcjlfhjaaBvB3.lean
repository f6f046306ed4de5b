/-
  SectionsOf: what the two have in common.
-/
import Derived.Test.YtomlmcfcjlfhjaaBvB0
namespace Go.Av
set_option linter.unusedSectionVars false
set_option linter.unusedSimpArgs false
set_option linter.unusedVariables false
variable [md : Md]
open Classical
variable {P : Program} {ν : Nat → FuncId}
end Go.Av
