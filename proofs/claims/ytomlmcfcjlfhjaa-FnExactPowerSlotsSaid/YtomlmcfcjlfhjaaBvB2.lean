/-
  Inverses: the program's and the reference's.
-/
import Derived.Test.YtomlmcfcjlfhjaaBvB1
namespace Go.Av
set_option linter.unusedSectionVars false
set_option linter.unusedSimpArgs false
set_option linter.unusedVariables false
variable [md : Md]
open Classical
set_option linter.unusedSimpArgs false
set_option linter.unusedVariables false
variable {P : Program} {ν : Nat → FuncId}

/-- The first element that meets q, or -1. -/
def findI (l : List Int) (q : Int → Bool) : Int := (l.find? q).getD (-1)

def inv (c : Cat) (f : Int) : Int := findI (homL c (c.T f) (c.F f)) fun g => c.K f g == c.I (c.F f) && c.K g f == c.I (c.T f)






end Go.Av
