/-
  Maps in the second form: rules, and how many different keys a set has.
-/
import Derived.Test.YtbalggpkmaabmaaDoorAvQ
namespace Go.Av
open Classical
set_option linter.unusedSimpArgs false
set_option linter.unusedVariables false

/-- Object o is a map with these entries. -/
def MapAt (H : Hp) (o : Nat) (kd : Option Nat) (l : List (List Int × AV)) : Prop := ∃ c, H o = some c ∧ mdec kd c = some l
theorem MapAt.len {H : Hp} {o : Nat} {kd : Option Nat} {l : List (List Int × AV)} (h : MapAt H o kd l) : pvf H .mlen [.mm o] = some (int l.length) := by
  obtain ⟨c, h1, h2⟩ := h
  simp only [pvf, pMlen, h1]
  rw [← (show l.length = c.length from by
    have : ∀ (c : List AV) (l : List (List Int × AV)), c.mapM (mentry kd) = some l → l.length = c.length := by
      intro c
      induction c with
      | nil => intro l h; simp at h; simp [h]
      | cons a c ih =>
        intro l h
        simp only [List.mapM_cons, Option.pure_def, Option.bind_eq_bind] at h
        obtain ⟨z, hz, h⟩ := bindSome h
        obtain ⟨r, hr, h⟩ := bindSome h
        cases h
        simp [ih r hr]
    exact this c l h2)]
  rfl
theorem MapAt.kept {H H' : Hp} {o : Nat} {kd : Option Nat} {l : List (List Int × AV)} (h : MapAt H o kd l) (hh : H' o = H o) : MapAt H' o kd l := by
  obtain ⟨c, h1, h2⟩ := h
  exact ⟨c, hh.trans h1, h2⟩

section
variable {C : Ct} {Φ : AV → Hp → Nat → Prop} {n : Nat} {vars : Nat → AV} {H : Hp} {nx : Nat} {Is : Nat → Inv} {r : Vc}
end

def SetAt (H : Hp) (o : Nat) (kd : Option Nat) (l : List (List Int)) : Prop := MapAt H o kd (l.map fun k => (k, bool true))
end Go.Av
