/-
  Sums and joins of categories: the plain side, the composite, what is kept while the program builds them.
-/
import Derived.Test.YtbalggpkmaabmaaAvT5
import Derived.Test.YtbalggpkmaabmaaAvX1M
namespace Go.Av
open Classical
set_option linter.unusedSimpArgs false
set_option linter.unusedVariables false
variable {P : Program} {ν : Nat → FuncId}


section
variable (c d : Cat)
end
section
variable {c d : Cat}
end

end Go.Av
