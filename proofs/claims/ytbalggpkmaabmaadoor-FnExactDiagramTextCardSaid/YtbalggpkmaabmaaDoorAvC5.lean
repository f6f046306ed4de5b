/-
  Copies of set functors.
-/
import Derived.Test.YtbalggpkmaabmaaDoorAvC4
import Derived.Test.YtbalggpkmaabmaaDoorAvK0
namespace Go.Av
open Classical
set_option linter.unusedSimpArgs false
set_option linter.unusedVariables false
variable {P : Program} {ν : Nat → FuncId}

theorem frzN_rows {H : Hp} {o : Nat} {m : List (List Int)} {id : Nat → Nat} (h : H o = some (outerC m.length id fun j => (m.getD j []).length)) (hr : ∀ j, j < m.length → H (id j) = some (ints (m.getD j []))) (k : Nat) : frzN H (k + 1 + 1) (.ms o 0 m.length 1) = some (.sl (rows m) m.length) := by
  have hl : (outerC m.length id fun j => (m.getD j []).length).length = m.length := by simp [outerC]
  simp only [frzN, h, hl, Nat.zero_add, Nat.mul_one, if_true]
  rw [show outerC m.length id (fun j => (m.getD j []).length) = (List.range m.length).map fun j => .ms (id j) 0 (m.getD j []).length 1 from rfl, mapM_outer fun j hj => frzN_ms (hr j hj) k]
  simp

end Go.Av
