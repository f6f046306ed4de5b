/-
  The same for functors.
-/
import Derived.Test.YtalfoffamemfnaaAvR2
import Derived.Test.YtalfoffamemfnaaAvU0
