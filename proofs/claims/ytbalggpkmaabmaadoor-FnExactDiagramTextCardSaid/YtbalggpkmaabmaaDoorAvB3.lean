/-
  SectionsOf: what the two have in common.
-/
import Derived.Test.YtbalggpkmaabmaaDoorAvB0
namespace Go.Av
open Classical
variable {P : Program} {ν : Nat → FuncId}
end Go.Av
