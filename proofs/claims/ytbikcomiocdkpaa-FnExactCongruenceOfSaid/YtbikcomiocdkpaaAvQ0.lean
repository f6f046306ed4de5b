/-
  Literals as objects, rows.
-/
import Derived.Test.YtbikcomiocdkpaaAvR2
namespace Go.Av
open Classical
set_option linter.unusedSimpArgs false
set_option linter.unusedVariables false
variable {P : Program} {ν : Nat → FuncId}

section
variable {C : Ct} {Φ : AV → Hp → Nat → Prop} {n : Nat} {vars : Nat → AV} {H : Hp} {nx : Nat} {Is : Nat → Inv} {r : Vc}
theorem den_lit1 {x : Opd} {a : Int} (hx : ev vars x = int a) (hk : ∀ H2 : Hp, H2 nx = some (ints [a]) → (∀ j, j < nx → H2 j = H j) → den C Φ r (n + 1) (put vars n (.ms nx 0 1 1)) H2 (nx + 1) Is) :
    den C Φ (.op true (.mslm 1 1 [int 0] [(0, 1)] [x]) r) n vars H nx Is := by
  refine den_mslm (q := (.ms nx 0 1 1, hput H nx (some (ints [a])), nx + 1)) ?_ (hk _ (hput_eq _ _ _) fun j hj => hput_ne _ _ _ _ (by omega))
  simp only [List.map_cons, List.map_nil, hx]; rfl
theorem den_lit2 {x y : Opd} {a b : Int} (hx : ev vars x = int a) (hy : ev vars y = int b) (hk : ∀ H2 : Hp, H2 nx = some (ints [a, b]) → (∀ j, j < nx → H2 j = H j) → den C Φ r (n + 1) (put vars n (.ms nx 0 2 1)) H2 (nx + 1) Is) :
    den C Φ (.op true (.mslm 1 2 [int 0, int 0] [(0, 1), (1, 1)] [x, y]) r) n vars H nx Is := by
  refine den_mslm (q := (.ms nx 0 2 1, hput H nx (some (ints [a, b])), nx + 1)) ?_ (hk _ (hput_eq _ _ _) fun j hj => hput_ne _ _ _ _ (by omega))
  simp only [List.map_cons, List.map_nil, hx, hy]; rfl
theorem den_lit3 {x y z : Opd} {a b c : Int} (hx : ev vars x = int a) (hy : ev vars y = int b) (hz : ev vars z = int c) (hk : ∀ H2 : Hp, H2 nx = some (ints [a, b, c]) → (∀ j, j < nx → H2 j = H j) → den C Φ r (n + 1) (put vars n (.ms nx 0 3 1)) H2 (nx + 1) Is) :
    den C Φ (.op true (.mslm 1 3 [int 0, int 0, int 0] [(0, 1), (1, 1), (2, 1)] [x, y, z]) r) n vars H nx Is := by
  refine den_mslm (q := (.ms nx 0 3 1, hput H nx (some (ints [a, b, c])), nx + 1)) ?_ (hk _ (hput_eq _ _ _) fun j hj => hput_ne _ _ _ _ (by omega))
  simp only [List.map_cons, List.map_nil, hx, hy, hz]; rfl
end

theorem rows_le {R : List (List Int)} {m : Nat} (h : ∀ r ∈ R, r.length ≤ m) : ∀ i, i < R.length → (R.getD i []).length ≤ m := fun i hi => h _ (by simp [List.getD, hi])

theorem map_same {f : List Int → List Int} {l : List (List Int)} (h : ∀ x ∈ l, f x = x) : l.map f = l := by
  induction l with
  | nil => rfl
  | cons a l ih => rw [List.map_cons, h a (by simp), ih fun x hx => h x (by simp [hx])]
end Go.Av
