/-
  Loops over growing memory; loops that fill a set.
-/
import Derived.Test.YtbalggpkmaabmaaAvM0
import Derived.Test.YtbalggpkmaabmaaAvM2
namespace Go.Av
open Classical
set_option linter.unusedSimpArgs false
set_option linter.unusedVariables false
variable {P : Program} {ν : Nat → FuncId}

/-- The objects below nx are as they were. -/
structure Low (H : Hp) (nx : Nat) (H' : Hp) (nx' : Nat) : Prop where
  le : nx ≤ nx'
  eq : ∀ o, o < nx → H' o = H o
theorem Low.refl (H : Hp) (nx : Nat) : Low H nx H nx := ⟨Nat.le_refl _, fun _ _ => rfl⟩
theorem Low.sub {H H' : Hp} {nx nx' : Nat} (h : Low H nx H' nx') (hw : Wf H nx) : Sub H H' := fun o c hc => by
  by_cases e : o < nx
  · rw [h.eq o e]; exact hc
  · rw [hw o (by omega)] at hc; cases hc
theorem Low.trans {H H' H'' : Hp} {a b c : Nat} (h : Low H a H' b) (k : Low H' b H'' c) : Low H a H'' c := ⟨Nat.le_trans h.le k.le, fun o ho => (k.eq o (Nat.lt_of_lt_of_le ho h.le)).trans (h.eq o ho)⟩
theorem Low.new {H H' H'' : Hp} {a b c : Nat} (h : Low H a H' b) (hk : ∀ o, o ≠ b → H'' o = H' o) (hc : b ≤ c) : Low H a H'' c := ⟨Nat.le_trans h.le hc, fun o ho => by rw [hk o (by have := h.le; omega)]; exact h.eq o ho⟩

section
variable {C : Ct} {Φ : AV → Hp → Nat → Prop} {n : Nat} {vars : Nat → AV} {H : Hp} {nx : Nat} {Is : Nat → Inv} {body : Vc} {d : Nat}

end
theorem SetAt.len {H : Hp} {o : Nat} {kd : Option Nat} {l : List (List Int)} (h : SetAt H o kd l) : pvf H .mlen [.mm o] = some (int l.length) := by
  have := MapAt.len h
  simpa using this

end Go.Av
