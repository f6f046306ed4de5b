/-
  Subcategories: the program's and the reference's.
-/
import Derived.Test.YtomlmcfcjlfhjaaBvB9
namespace Go.Av
set_option linter.unusedSectionVars false
set_option linter.unusedSimpArgs false
set_option linter.unusedVariables false
variable [md : Md]
open Classical
set_option linter.unusedSimpArgs false
set_option linter.unusedVariables false
variable {P : Program} {ν : Nat → FuncId}

def Rising (l : List Int) : Prop := ∀ k, k + 1 < l.length → l.getD k 0 < l.getD (k + 1) 0






theorem Rising.le {l : List Int} {n : Int} (h : Rising l) (hw : Wn l n) : (l.length : Int) ≤ n ∨ l = [] := by
  by_cases e : l = []
  · exact .inr e
  · left
    have key : ∀ k : Nat, k < l.length → (k : Int) ≤ l.getD k 0 := by
      intro k
      induction k with
      | zero => intro hk; exact (hw 0 hk).1
      | succ k ih => intro hk; have := ih (by omega); have := h k hk; omega
    have hl : 0 < l.length := List.length_pos_iff.2 e
    have h1 := key (l.length - 1) (by omega)
    have h2 := (hw (l.length - 1) (by omega)).2
    omega
end Go.Av
