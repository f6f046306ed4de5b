/-
  Union and find over a slice; numbering of classes: the program's.
-/
import Derived.Test.YtbalggpkmaabmaaDoorAvJ0
import Derived.Test.YtbalggpkmaabmaaDoorAvK0
import Derived.Test.YtbalggpkmaabmaaDoorAvD0
namespace Go.Av
open Classical
set_option linter.unusedSimpArgs false
set_option linter.unusedVariables false
variable {P : Program} {ν : Nat → FuncId}

theorem isI_of {l : List Int} {H : Hp} {nx : Nat} {H' : Hp} {nx' o : Nat} (hw : Wf H nx) (h0 : nx ≤ o) (h1 : o < nx') (ho : H' o = some (ints l)) (low : ∀ j, j < nx → H' j = H j) : ∃ H2 : Hp, (∀ q d, H2 q = some d → H' q = some d) ∧ IsI l H nx (.ms o 0 l.length 1) H2 nx' := by
  refine ⟨hput H o (some (ints l)), fun q d hq => ?_, by omega, .inr ⟨o, h0, h1, rfl, rfl⟩⟩
  by_cases eq : q = o
  · subst eq; rw [hput_eq] at hq; rw [ho]; exact hq
  · rw [hput_ne _ _ _ _ eq] at hq
    have : q < nx := by
      by_cases e : q < nx
      · exact e
      · rw [hw q (by omega)] at hq; cases hq
    rw [low q this]; exact hq
def upto (n : Nat) : List Int := (List.range n).map fun (i : Nat) => (i : Int)
theorem upto_len {n : Nat} : (upto n).length = n := by simp [upto]
/-- A new slice. -/
def NewL (l : List Int) (H : Hp) (nx : Nat) (r : AV) (H' : Hp) (nx' : Nat) : Prop := r = .ms nx 0 l.length 1 ∧ nx' = nx + 1 ∧ H' nx = some (ints l) ∧ ∀ j, j ≠ nx → H' j = H j
theorem NewL.some (l : List Int) (H : Hp) (nx : Nat) : ∃ u H' nx', NewL l H nx u H' nx' := ⟨_, hput H nx (Option.some (ints l)), _, rfl, rfl, hput_eq _ _ _, fun j hj => hput_ne _ _ _ _ hj⟩

/-- The joiner in object o. -/
structure JAt (H : Hp) (o n : Nat) (R : Nat → Nat) : Prop where
  ex : ∃ J, H o = some (ints J) ∧ J.length = n ∧ Forest J R
def RootP (o n : Nat) (R : Nat → Nat) (x : Nat) (H : Hp) (nx : Nat) (r : AV) (H' : Hp) (nx' : Nat) : Prop := r = int (R x) ∧ nx' = nx ∧ JAt H' o n R ∧ ∀ j, j ≠ o → H' j = H j
theorem JAt.some {H : Hp} {o n : Nat} {R : Nat → Nat} (hJ : JAt H o n R) {x : Nat} {nx : Nat} : ∃ u H' nx', RootP o n R x H nx u H' nx' := ⟨_, H, nx, rfl, rfl, hJ, fun _ _ => rfl⟩


/-- What a partition leaves. -/
def PartP (o n : Nat) (f : Nat → Nat) (H : Hp) (nx : Nat) (r : AV) (H' : Hp) (nx' : Nat) : Prop := nx ≤ nx' ∧ Own1 (nrm f n) r H' nx nx' ∧ ∀ j, j < nx → j ≠ o → H' j = H j
theorem PartP.some {o n : Nat} {f : Nat → Nat} {H : Hp} {nx : Nat} : ∃ u H' nx', PartP o n f H nx u H' nx' := ⟨_, hput H nx (Option.some (ints (nrm f n))), nx + 1, Nat.le_succ _, .inr ⟨nx, Nat.le_refl _, Nat.lt_succ_self _, rfl, hput_eq _ _ _⟩, fun j hj _ => hput_ne _ _ _ _ (by omega)⟩
end Go.Av
