/-
  Literals as objects, rows.
-/
import Derived.Test.YtomlmcfcjlfhjaaBvR2
namespace Go.Av
set_option linter.unusedSectionVars false
set_option linter.unusedSimpArgs false
set_option linter.unusedVariables false
variable [md : Md]
open Classical
set_option linter.unusedSimpArgs false
set_option linter.unusedVariables false
variable {P : Program} {ν : Nat → FuncId}

section
variable {C : Ct} {Φ : AV → Hp → Nat → Prop} {n : Nat} {vars : Nat → AV} {H : Hp} {nx : Nat} {Is : Nat → Inv} {r : Vc}
end

theorem rows_le {R : List (List Int)} {m : Nat} (h : ∀ r ∈ R, r.length ≤ m) : ∀ i, i < R.length → (R.getD i []).length ≤ m := fun i hi => h _ (by simp [List.getD, hi])

end Go.Av
