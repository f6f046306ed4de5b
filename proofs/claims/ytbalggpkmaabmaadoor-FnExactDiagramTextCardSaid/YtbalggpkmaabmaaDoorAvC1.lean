/-
  Set functors: their shape and their faults, the program's and the reference's.
-/
import Derived.Test.YtbalggpkmaabmaaDoorAvB6
import Derived.Test.YtbalggpkmaabmaaDoorAvAA
import Derived.Test.YtbalggpkmaabmaaDoorAvQ
namespace Go.Av
open Classical
set_option linter.unusedSimpArgs false
set_option linter.unusedVariables false
variable {P : Program} {ν : Nat → FuncId}

structure SF where
  c : Cat
  z : List Int
  a : List (List Int)
def SF.cells (f : SF) : List AV := [int f.c.o, islice f.c.f, islice f.c.t, islice f.c.i, .sl (rows f.c.c) f.c.c.length, islice f.z, .sl (rows f.a) f.a.length]

def SF.A (f : SF) (k : Int) : List Int := f.a.getD k.toNat []
def SF.Z (f : SF) (x : Int) : Int := f.z.getD x.toNat 0



end Go.Av
