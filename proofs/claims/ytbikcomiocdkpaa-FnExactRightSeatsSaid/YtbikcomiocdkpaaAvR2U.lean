/-
  The same for functors.
-/
import Derived.Test.YtbikcomiocdkpaaAvR2
import Derived.Test.YtbikcomiocdkpaaAvU0
