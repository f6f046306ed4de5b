/-
  Subcategories and the arrows that some arrows generate: the program's and the reference's.
-/
import Derived.Test.YtomlmcfcjlfhjaaBvB8
import Derived.Test.YtomlmcfcjlfhjaaBvAA
import Derived.Test.YtomlmcfcjlfhjaaBvK0
namespace Go.Av
set_option linter.unusedSectionVars false
set_option linter.unusedSimpArgs false
set_option linter.unusedVariables false
variable [md : Md]
open Classical
set_option linter.unusedSimpArgs false
set_option linter.unusedVariables false
variable {P : Program} {ν : Nat → FuncId}

theorem set_true {l : List Bool} {j k : Nat} (hj : j < l.length) : (l.set j true).getD k false = true ↔ k = j ∨ l.getD k false = true := by
  simp only [List.getD_eq_getElem?_getD, List.getElem?_set]
  by_cases e : j = k
  · subst e; simp [hj]
  · simp [e]
    exact fun h => absurd h.symm e

section
variable {C : Ct} {Φ : AV → Hp → Nat → Prop} {n : Nat} {vars : Nat → AV} {H : Hp} {nx : Nat} {Is : Nat → Inv} {r : Vc}
end

/-- The arrows that some arrows generate. -/
inductive Cl (c : Cat) (as : List Int) : Int → Prop
  | arr (k : Nat) : k < as.length → Cl c as (as.getD k 0)
  | src (k : Nat) : k < as.length → Cl c as (c.I (c.F (as.getD k 0)))
  | tgt (k : Nat) : k < as.length → Cl c as (c.I (c.T (as.getD k 0)))
  | comp (f g : Int) : Cl c as f → Cl c as g → c.T f = c.F g → Cl c as (c.K f g)
def Snd (c : Cat) (as : List Int) (L : List Bool) : Prop := ∀ f : Nat, L.getD f false = true → Cl c as f
def Has3 (c : Cat) (as : List Int) (L : List Bool) (i : Nat) : Prop := ∀ k, k < i → L.getD (as.getD k 0).toNat false = true ∧ L.getD (c.I (c.F (as.getD k 0))).toNat false = true ∧ L.getD (c.I (c.T (as.getD k 0))).toNat false = true
theorem Snd.set {c : Cat} {as : List Int} {L : List Bool} (h : Snd c as L) {x : Int} (x0 : 0 ≤ x) (x1 : x.toNat < L.length) (hx : Cl c as x) : Snd c as (L.set x.toNat true) := fun f hf => by
  rcases (set_true x1).1 hf with rfl | h'
  · rw [Int.toNat_of_nonneg x0]; exact hx
  · exact h f h'
theorem Has3.set {c : Cat} {as : List Int} {L : List Bool} {i : Nat} (h : Has3 c as L i) {j : Nat} (hj : j < L.length) : Has3 c as (L.set j true) i := fun k hk => by
  obtain ⟨h1, h2, h3⟩ := h k hk
  exact ⟨(set_true hj).2 (.inr h1), (set_true hj).2 (.inr h2), (set_true hj).2 (.inr h3)⟩

/-- What was made before may be forgotten. -/
theorem IsI.low {l : List Int} {H H1 : Hp} {nx n1 : Nat} {v : AV} {H' : Hp} {nx' : Nat} (h : IsI l H1 n1 v H' nx') (hn : nx ≤ n1) (hw : Wf H nx) (hs : ∀ o, o < nx → H1 o = H o) : ∃ H'', (∀ o c, H'' o = Option.some c → H' o = Option.some c) ∧ IsI l H nx v H'' nx' := by
  have hs' : ∀ o c, H o = Option.some c → H1 o = Option.some c := fun o c hc => by
    by_cases e : o < nx
    · rw [hs o e]; exact hc
    · rw [hw o (by omega)] at hc; cases hc
  obtain ⟨h0, ⟨h1, h2, rfl⟩ | ⟨o', g1, g2, g3, rfl⟩⟩ := h
  · exact ⟨H, hs', by omega, .inl ⟨h1, h2, rfl⟩⟩
  · refine ⟨hput H o' (Option.some (ints l)), fun o c hc => ?_, by omega, .inr ⟨o', by omega, g2, g3, rfl⟩⟩
    by_cases e : o = o'
    · subst e; rw [hput_eq] at hc ⊢; exact hc
    · rw [hput_ne _ _ _ _ e] at hc ⊢; exact hs' o c hc


end Go.Av
