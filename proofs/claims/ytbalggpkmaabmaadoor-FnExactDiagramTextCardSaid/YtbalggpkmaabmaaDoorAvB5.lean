/-
  Splittings of idempotents: the program's and the reference's.
-/
import Derived.Test.YtbalggpkmaabmaaDoorAvB4
namespace Go.Av
open Classical
set_option linter.unusedSimpArgs false
set_option linter.unusedVariables false
variable {P : Program} {ν : Nat → FuncId}

def sp3 (c : Cat) (e : Int) (y i j : Nat) : Option (Int × Int × Int) :=
  if c.K ((homL c (c.F e) y).getD i 0) ((homL c y (c.F e)).getD j 0) = e ∧ c.K ((homL c y (c.F e)).getD j 0) ((homL c (c.F e) y).getD i 0) = c.I y then some ((y : Int), (homL c (c.F e) y).getD i 0, (homL c y (c.F e)).getD j 0) else none
def sp2 (c : Cat) (e : Int) (y i : Nat) : Option (Int × Int × Int) := (List.range (homL c y (c.F e)).length).findSome? (sp3 c e y i)
def sp1 (c : Cat) (e : Int) (y : Nat) : Option (Int × Int × Int) := (List.range (homL c (c.F e) y).length).findSome? (sp2 c e y)






end Go.Av
