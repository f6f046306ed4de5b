/-
  Loops that select and filter; error codes; pairs of results.
-/
import Derived.Test.YtomlmcfcjlfhjaaBvAA
namespace Go.Av
set_option linter.unusedSectionVars false
set_option linter.unusedSimpArgs false
set_option linter.unusedVariables false
variable [md : Md]
open Classical
set_option linter.unusedSimpArgs false
set_option linter.unusedVariables false
variable {P : Program} {ν : Nat → FuncId}

section loops
variable {C : Ct} {Φ : AV → Hp → Nat → Prop} {n : Nat} {vars : Nat → AV} {H : Hp} {nx : Nat} {Is : Nat → Inv} {body : Vc} {d : Nat}
def Sel (N : Nat) (p : Nat → Bool) (H0 : Hp) (nx0 i : Nat) : Inv := fun us H' nx' => ∃ v, us = [v, int ((i + 1 : Nat) : Int)] ∧ i < N ∧ IsI (selL (i + 1) p) H0 nx0 v H' nx'
/-- A loop over 0 .. N-1 that appends the numbers which meet p. -/
theorem den_sel {x : Opd} (N : Nat) (p : Nat → Bool) (H0 : Hp) (nx0 : Nat) (hx : ev vars x = .nil) (h0 : nx0 ≤ nx) (hH : H = H0)
    (hr : ∀ i v H' nx', i ≤ N → IsI (selL i p) H0 nx0 v H' nx' → den C Φ body (n + 2) (put (put vars n v) (n + 1) (int (i : Int))) H' nx' (iput Is d (Sel N p H0 nx0 i))) :
    den C Φ (.loop d [x, .c (int 0)] body) n vars H nx Is := by
  subst hH
  refine den_loop (α := Nat × AV) (fun a => [a.2, int a.1]) (fun a H' nx' => a.1 ≤ N ∧ IsI (selL a.1 p) H nx0 a.2 H' nx') (fun a => N - a.1) (0, .nil) ?_ ⟨Nat.zero_le _, h0, .inl ⟨rfl, rfl, rfl⟩⟩ ?_
  · simp only [List.map_cons, List.map_nil, hx]; rfl
  · rintro ⟨i, v⟩ H' nx' ⟨hi, hI⟩
    have := hr i v H' nx' hi hI
    have e : iput Is d (Sel N p H nx0 i) = iput Is d fun us H'' nx'' => ∃ v', us = [v', int ((i + 1 : Nat) : Int)] ∧ i < N ∧ IsI (selL (i + 1) p) H nx0 v' H'' nx'' := rfl
    refine den_mono _ ?_ this
    intro j us H2 nx2 hj
    simp only [iput] at hj ⊢
    split at hj
    · rename_i e1
      rw [if_pos e1]
      obtain ⟨v', e2, e3, e4⟩ := hj
      exact ⟨(i + 1, v'), e2, ⟨e3, e4⟩, by simp only; omega⟩
    · rename_i e1; rw [if_neg e1]; exact hj
theorem sel_skip {N : Nat} {p : Nat → Bool} {H0 : Hp} {nx0 i : Nat} {v : AV} {H' : Hp} {nx' : Nat} {a : Int} (ha : a = ((i + 1 : Nat) : Int)) (hi : i < N) (hp : p i = false) (hI : IsI (selL i p) H0 nx0 v H' nx') : Sel N p H0 nx0 i [v, int a] H' nx' := by
  subst ha
  refine ⟨v, rfl, hi, ?_⟩
  rw [selL_succ, hp]
  simpa using hI
theorem sel_take {N : Nat} {p : Nat → Bool} {H0 : Hp} {nx0 i : Nat} {v : AV} {H' : Hp} {nx' : Nat} {a : Int} (ha : a = ((i + 1 : Nat) : Int)) (hi : i < N) (hp : p i = true) (hI : IsI (selL i p ++ [(i : Int)]) H0 nx0 v H' nx') : Sel N p H0 nx0 i [v, int a] H' nx' := by
  subst ha
  refine ⟨v, rfl, hi, ?_⟩
  rw [selL_succ, hp]
  simpa using hI

end loops

/-- The error of a category and of what else is asked. -/
def code (a b : Prop) [Decidable a] [Decidable b] : Int := if a then if b then 0 else 2 else 1

theorem p_msl2 {H : Hp} {a b : Int} : pvf H (.msl 2 [int 0, int 0] [(0, 1), (1, 1)]) [int a, int b] = some (islice [a, b]) := rfl
theorem p_msl3 {H : Hp} {a b c : Int} : pvf H (.msl 3 [int 0, int 0, int 0] [(0, 1), (1, 1), (2, 1)]) [int a, int b, int c] = some (islice [a, b, c]) := rfl
theorem p_msl4 {H : Hp} {a b c d : Int} : pvf H (.msl 4 [int 0, int 0, int 0, int 0] [(0, 1), (1, 1), (2, 1), (3, 1)]) [int a, int b, int c, int d] = some (islice [a, b, c, d]) := rfl

def Arr (c : Cat) (f : Int) : Prop := 0 ≤ f ∧ f < c.f.length


end Go.Av
