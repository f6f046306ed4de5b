/-
  What the statements with lists of lists need: results, arguments in memory.
-/
import Derived.Test.YtbalggpkmaabmaaAvR1
namespace Go.Av
open Classical
set_option linter.unusedSimpArgs false
set_option linter.unusedVariables false
variable {P : Program} {ν : Nat → FuncId}

section
variable {C : Ct} {Φ : AV → Hp → Nat → Prop} {n : Nat} {vars : Nat → AV} {H : Hp} {nx : Nat} {Is : Nat → Inv} {r : Vc}
theorem den_newR {z : List AV} (hk : ∀ H2 : Hp, H2 nx = some z → (∀ j, j < nx → H2 j = H j) → den C Φ r (n + 1) (put vars n (.mp nx 0 z.length)) H2 (nx + 1) Is) : den C Φ (.op true (.new z) r) n vars H nx Is :=
  den_new (hk _ (hput_eq _ _ _) fun j hj => hput_ne _ _ _ _ (by omega))
theorem den_stR {x y : Opd} {o m : Nat} {c d : List AV} (hx : ev vars x = .mp o 0 m) (hy : ev vars y = .agg d) (ho : H o = some c) (hl : c.length = m) (hd : d.length = m) (h1 : d.all AV.one = true)
    (hk : ∀ H2 : Hp, H2 o = some d → (∀ j, j ≠ o → H2 j = H j) → den C Φ r (n + 1) (put vars n (.v undef)) H2 nx Is) : den C Φ (.op true (.st m x y) r) n vars H nx Is :=
  den_stA hx hy ho hl hd h1 (hk _ (hput_eq _ _ _) fun j hj => hput_ne _ _ _ _ hj)
end
theorem rowsH_D (H : Hp) (nx : Nat) (R : List (List Int)) : OwnD R (.ms nx 0 R.length 1) (rowsH H nx R R.length) nx (nx + 1 + R.length) := by
  refine .inr ⟨nx, outer R nx R.length, rfl, Nat.le_refl _, by omega, by simp [rowsH], outer_len _ _ _, fun k a hk => ?_, fun j k x n1 n2 hj hk => ?_⟩
  · have hk' : k < R.length := by
      obtain ⟨h1, _⟩ := List.getElem?_eq_some_iff.1 hk
      simpa [outer_len] using h1
    rw [outer_full, outerC_get hk'] at hk
    cases hk
    refine .inr ⟨nx + 1 + k, rfl, by omega, by omega, by omega, ?_⟩
    simp only [rowsH]
    rw [if_neg (by omega), if_pos (by omega), show nx + 1 + k - nx - 1 = k by omega]
  · have hj' : j < R.length := by
      obtain ⟨h1, _⟩ := List.getElem?_eq_some_iff.1 hj
      simpa [outer_len] using h1
    have hk' : k < R.length := by
      obtain ⟨h1, _⟩ := List.getElem?_eq_some_iff.1 hk
      simpa [outer_len] using h1
    rw [outer_full, outerC_get hj'] at hj
    rw [outer_full, outerC_get hk'] at hk
    simp only [Option.some.injEq, AV.ms.injEq] at hj hk
    omega
theorem toII_R (L : HLaw P ν) (R : List (List Int)) (b : R.length ≤ 1048576) (hr : ∀ k, k < R.length → (R.getD k []).length ≤ 1048576) (H : Hp) (nx : Nat) : OkM P ν 17 [.sl (rows R) R.length] H nx (fun r H' nx' => nx' = nx + 1 + R.length ∧ OwnD R r H' nx nx' ∧ ∀ o, o < nx → H' o = H o) :=
  (toII_ok L.toI L.toII R b hr H nx).mono fun r H' nx' ⟨h1, h2, h3⟩ => by subst h1; subst h2; subst h3; exact ⟨rfl, rowsH_D _ _ _, fun o ho => rowsH_lo _ _ _ _ _ ho⟩
theorem toII_Rs (R : List (List Int)) (H : Hp) (nx : Nat) : ∃ (r : AV) (H' : Hp) (nx' : Nat), nx' = nx + 1 + R.length ∧ OwnD R r H' nx nx' ∧ ∀ o, o < nx → H' o = H o :=
  ⟨_, _, _, rfl, rowsH_D H nx R, fun o ho => rowsH_lo _ _ _ _ _ ho⟩
theorem toII_fz (L : HLaw P ν) (R : List (List Int)) (b : R.length ≤ 1048576) (hr : ∀ k, k < R.length → (R.getD k []).length ≤ 1048576) : Fz (OkM P ν) 17 [.sl (rows R) R.length] (.sl (rows R) R.length) :=
  OkM.fz (fun H nx => toII_ok L.toI L.toII R b hr H nx) fun r H' nx' hh => by
    obtain ⟨rfl, rfl, _⟩ := hh
    have hl : (outerC R.length (fun j => 0 + 1 + j) (fun j => (R.getD j []).length)).length = R.length := by simp [outerC]
    have h0 : rowsH hempty 0 R R.length 0 = some (outerC R.length (fun j => 0 + 1 + j) fun j => (R.getD j []).length) := by simp only [rowsH]; rw [if_pos trivial, outer_full]
    simp only [fuel, frzN, h0, hl, Nat.zero_add, Nat.mul_one, if_true]
    rw [show outerC R.length (fun j => 1 + j) (fun j => (R.getD j []).length) = (List.range R.length).map fun j => .ms (1 + j) 0 (R.getD j []).length 1 from rfl, mapM_outer fun j hj => ?_]
    · simp
    · refine frzN_ms ?_ 4
      simp only [rowsH]; rw [if_neg (by omega), if_pos (by omega), show 1 + j - 0 - 1 = j by omega]
structure ReadII (R : List (List Int)) : Prop where
  len : R.length ≤ 9223372036854775807
  row : ∀ k, k < R.length → (R.getD k []).length ≤ 9223372036854775807
structure SmallII (R : List (List Int)) : Prop where
  len : R.length ≤ 1048576
  row : ∀ k, k < R.length → (R.getD k []).length ≤ 1048576
theorem tot_le {R : List (List Int)} {m : Nat} (h : ∀ i, i < R.length → (R.getD i []).length ≤ m) : tot R ≤ R.length * m := by
  induction R with
  | nil => simp [tot]
  | cons l R ih =>
    have h0 := h 0 (by simp)
    have h1 := ih fun i hi => h (i + 1) (by simpa using hi)
    rw [tot_cons, List.length_cons, Nat.add_mul]
    simp at h0
    omega

end Go.Av
