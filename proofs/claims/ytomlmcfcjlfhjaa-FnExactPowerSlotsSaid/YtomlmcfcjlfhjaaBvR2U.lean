/-
  The same for functors.
-/
import Derived.Test.YtomlmcfcjlfhjaaBvR2
import Derived.Test.YtomlmcfcjlfhjaaBvU0
