/-
  Functors: when a pair of maps is one, the program's test.
-/
import Derived.Test.YtomlmcfcjlfhjaaBvD0
import Derived.Test.YtomlmcfcjlfhjaaBvAA
namespace Go.Av
set_option linter.unusedSectionVars false
set_option linter.unusedSimpArgs false
set_option linter.unusedVariables false
variable [md : Md]
open Classical
set_option linter.unusedSimpArgs false
set_option linter.unusedVariables false
variable {P : Program} {ν : Nat → FuncId}

structure Fu where
  s : Cat
  t : Cat
  ob : List Int
  ar : List Int
def Fu.cells (f : Fu) : List AV := [int f.s.o, islice f.s.f, islice f.s.t, islice f.s.i, .sl (rows f.s.c) f.s.c.length, int f.t.o, islice f.t.f, islice f.t.t, islice f.t.i, .sl (rows f.t.c) f.t.c.length, islice f.ob, islice f.ar]
def Fu.A (f : Fu) (x : Int) : Int := gI f.ar x



end Go.Av
