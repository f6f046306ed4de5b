/-
  What the statements with lists of lists need: results, arguments in memory.
-/
import Derived.Test.YtalfoffamemfnaaAvR1
namespace Go.Av
open Classical
set_option linter.unusedSimpArgs false
set_option linter.unusedVariables false
variable {P : Program} {ν : Nat → FuncId}

section
variable {C : Ct} {Φ : AV → Hp → Nat → Prop} {n : Nat} {vars : Nat → AV} {H : Hp} {nx : Nat} {Is : Nat → Inv} {r : Vc}
theorem den_newR {z : List AV} (hk : ∀ H2 : Hp, H2 nx = some z → (∀ j, j < nx → H2 j = H j) → den C Φ r (n + 1) (put vars n (.mp nx 0 z.length)) H2 (nx + 1) Is) : den C Φ (.op true (.new z) r) n vars H nx Is :=
  den_new (hk _ (hput_eq _ _ _) fun j hj => hput_ne _ _ _ _ (by omega))
theorem den_stR {x y : Opd} {o m : Nat} {c d : List AV} (hx : ev vars x = .mp o 0 m) (hy : ev vars y = .agg d) (ho : H o = some c) (hl : c.length = m) (hd : d.length = m) (h1 : d.all AV.one = true)
    (hk : ∀ H2 : Hp, H2 o = some d → (∀ j, j ≠ o → H2 j = H j) → den C Φ r (n + 1) (put vars n (.v undef)) H2 nx Is) : den C Φ (.op true (.st m x y) r) n vars H nx Is :=
  den_stA hx hy ho hl hd h1 (hk _ (hput_eq _ _ _) fun j hj => hput_ne _ _ _ _ hj)
end
theorem toCat_R (L : HLaw P ν) (c : Cat) (b : Small2 c) (H : Hp) (nx : Nat) : OkM P ν 5 [.agg c.cells] H nx (fun r H' nx' => ∃ n0, r = catM c n0 ∧ nx ≤ n0 ∧ nx' = n0 + 4 + c.c.length ∧ CatAt H' n0 c ∧ ∀ o, o < nx → H' o = H o) :=
  (toCat_ok L.toI L.toII L.toC c b H nx).mono fun r H' nx' ⟨n0, h1, h2, h3, h4⟩ => ⟨n0, h2, h1, h4, h3 ▸ catH_at _ _ _, fun o ho => by rw [h3]; exact catH_lo _ _ _ _ (by omega)⟩
theorem toCat_Rs (c : Cat) (H : Hp) (nx : Nat) : ∃ (r : AV) (H' : Hp) (nx' : Nat), ∃ n0, r = catM c n0 ∧ nx ≤ n0 ∧ nx' = n0 + 4 + c.c.length ∧ CatAt H' n0 c ∧ ∀ o, o < nx → H' o = H o :=
  ⟨_, catH H nx c, _, nx, rfl, Nat.le_refl _, rfl, catH_at _ _ _, fun o ho => catH_lo _ _ _ _ ho⟩
theorem toI_R (L : HLaw P ν) (l : List Int) (b : l.length ≤ 1048576) (H : Hp) (nx : Nat) : OkM P ν 16 [islice l] H nx (fun r H' nx' => r = .ms nx 0 l.length 1 ∧ nx' = nx + 1 ∧ H' nx = some (ints l) ∧ ∀ o, o < nx → H' o = H o) :=
  (toI_ok L.toI l b H nx).mono fun r H' nx' ⟨h1, h2, h3⟩ => ⟨h1, h3, by rw [h2]; exact hput_eq _ _ _, fun o ho => by rw [h2]; exact hput_ne _ _ _ _ (by omega)⟩
theorem toI_Rs (l : List Int) (H : Hp) (nx : Nat) : ∃ (r : AV) (H' : Hp) (nx' : Nat), r = AV.ms nx 0 l.length 1 ∧ nx' = nx + 1 ∧ H' nx = some (ints l) ∧ ∀ o, o < nx → H' o = H o :=
  ⟨_, hput H nx (some (ints l)), _, rfl, rfl, hput_eq _ _ _, fun o ho => hput_ne _ _ _ _ (by omega)⟩
theorem rowsH_D (H : Hp) (nx : Nat) (R : List (List Int)) : OwnD R (.ms nx 0 R.length 1) (rowsH H nx R R.length) nx (nx + 1 + R.length) := by
  refine .inr ⟨nx, outer R nx R.length, rfl, Nat.le_refl _, by omega, by simp [rowsH], outer_len _ _ _, fun k a hk => ?_, fun j k x n1 n2 hj hk => ?_⟩
  · have hk' : k < R.length := by
      obtain ⟨h1, _⟩ := List.getElem?_eq_some_iff.1 hk
      simpa [outer_len] using h1
    rw [outer_full, outerC_get hk'] at hk
    cases hk
    refine .inr ⟨nx + 1 + k, rfl, by omega, by omega, by omega, ?_⟩
    simp only [rowsH]
    rw [if_neg (by omega), if_pos (by omega), show nx + 1 + k - nx - 1 = k by omega]
  · have hj' : j < R.length := by
      obtain ⟨h1, _⟩ := List.getElem?_eq_some_iff.1 hj
      simpa [outer_len] using h1
    have hk' : k < R.length := by
      obtain ⟨h1, _⟩ := List.getElem?_eq_some_iff.1 hk
      simpa [outer_len] using h1
    rw [outer_full, outerC_get hj'] at hj
    rw [outer_full, outerC_get hk'] at hk
    simp only [Option.some.injEq, AV.ms.injEq] at hj hk
    omega
theorem toII_R (L : HLaw P ν) (R : List (List Int)) (b : R.length ≤ 1048576) (hr : ∀ k, k < R.length → (R.getD k []).length ≤ 1048576) (H : Hp) (nx : Nat) : OkM P ν 17 [.sl (rows R) R.length] H nx (fun r H' nx' => nx' = nx + 1 + R.length ∧ OwnD R r H' nx nx' ∧ ∀ o, o < nx → H' o = H o) :=
  (toII_ok L.toI L.toII R b hr H nx).mono fun r H' nx' ⟨h1, h2, h3⟩ => by subst h1; subst h2; subst h3; exact ⟨rfl, rowsH_D _ _ _, fun o ho => rowsH_lo _ _ _ _ _ ho⟩
theorem toII_Rs (R : List (List Int)) (H : Hp) (nx : Nat) : ∃ (r : AV) (H' : Hp) (nx' : Nat), nx' = nx + 1 + R.length ∧ OwnD R r H' nx nx' ∧ ∀ o, o < nx → H' o = H o :=
  ⟨_, _, _, rfl, rowsH_D H nx R, fun o ho => rowsH_lo _ _ _ _ _ ho⟩
theorem toII_fz (L : HLaw P ν) (R : List (List Int)) (b : R.length ≤ 1048576) (hr : ∀ k, k < R.length → (R.getD k []).length ≤ 1048576) : Fz (OkM P ν) 17 [.sl (rows R) R.length] (.sl (rows R) R.length) :=
  OkM.fz (fun H nx => toII_ok L.toI L.toII R b hr H nx) fun r H' nx' hh => by
    obtain ⟨rfl, rfl, _⟩ := hh
    have hl : (outerC R.length (fun j => 0 + 1 + j) (fun j => (R.getD j []).length)).length = R.length := by simp [outerC]
    have h0 : rowsH hempty 0 R R.length 0 = some (outerC R.length (fun j => 0 + 1 + j) fun j => (R.getD j []).length) := by simp only [rowsH]; rw [if_pos trivial, outer_full]
    simp only [fuel, frzN, h0, hl, Nat.zero_add, Nat.mul_one, if_true]
    rw [show outerC R.length (fun j => 1 + j) (fun j => (R.getD j []).length) = (List.range R.length).map fun j => .ms (1 + j) 0 (R.getD j []).length 1 from rfl, mapM_outer fun j hj => ?_]
    · simp
    · refine frzN_ms ?_ 4
      simp only [rowsH]; rw [if_neg (by omega), if_pos (by omega), show 1 + j - 0 - 1 = j by omega]
theorem frzL_ofN {H : Hp} {v u : AV} {l : List AV} (h : frzN H fuel v = some u) : frzL H (v :: l) = (frzL H l).map (u :: ·) := by
  have := frzN_frz _ _ _ h
  simp only [frzL, List.mapM_cons, this]; cases List.mapM (frz H fuel) l <;> rfl
theorem frzL_ms {H : Hp} {o : Nat} {l : List Int} (h : H o = some (ints l)) (t : List AV) : frzL H (.ms o 0 l.length 1 :: t) = (frzL H t).map (islice l :: ·) := frzL_ofN (frzN_ms h 5)
structure ReadII (R : List (List Int)) : Prop where
  len : R.length ≤ 9223372036854775807
  row : ∀ k, k < R.length → (R.getD k []).length ≤ 9223372036854775807
structure SmallII (R : List (List Int)) : Prop where
  len : R.length ≤ 1048576
  row : ∀ k, k < R.length → (R.getD k []).length ≤ 1048576
theorem markI_R (hm : Has P ν 10 2 V_laws_markInt64S) (l : List Int) (k : Int) (o : Nat) (H : Hp) (nx : Nat) (ho : H o = some (ints l)) (k0 : 0 ≤ k) (kl : k ≤ 2305843009213693952) (hl : l.length ≤ 2305843009213693952) :
    OkM P ν 10 [.ms o 0 l.length 1, int k] H nx (fun r H' nx' => r = int (k + l.length) ∧ nx' = nx ∧ ∀ t, t ≠ o → H' t = H t) :=
  (markI_ms hm l k o H nx ho k0 kl hl).mono fun r H' nx' ⟨h1, h2, h3⟩ => ⟨h1, h3, fun t ht => by rw [h2]; exact hput_ne _ _ _ _ ht⟩
theorem tot_le {R : List (List Int)} {m : Nat} (h : ∀ i, i < R.length → (R.getD i []).length ≤ m) : tot R ≤ R.length * m := by
  induction R with
  | nil => simp [tot]
  | cons l R ih =>
    have h0 := h 0 (by simp)
    have h1 := ih fun i hi => h (i + 1) (by simpa using hi)
    rw [tot_cons, List.length_cons, Nat.add_mul]
    simp at h0
    omega

theorem Fz.fi {f : Nat} {ys : List AV} {u : AV} (h : Fz (OkM P ν) f ys u) : Fi (OkM P ν) f ys u := OkM.mono h fun _ _ _ hh => frzN_frz _ _ _ hh
/-- Both sides answer alike: a list and a code. -/
def BothL (P : Program) (ν : Nat → FuncId) (i j : Nat) (ys : List AV) : Prop :=
  ∃ (l : List Int) (k : Int), l.length ≤ 1048576 ∧ (∀ nx, OkM P ν i ys hempty nx (IsP l k hempty nx)) ∧ Fi (OkM P ν) j ys (.tup [islice l, int k])
/-- A list of lists and a code. -/
def BothQ (P : Program) (ν : Nat → FuncId) (i j : Nat) (ys : List AV) : Prop :=
  ∃ (R : List (List Int)) (k : Int), R.length ≤ 1048576 ∧ (∀ i, i < R.length → (R.getD i []).length ≤ 1048576) ∧ (∀ nx, OkM P ν i ys hempty nx (IsQ R k nx)) ∧ Fi (OkM P ν) j ys (.tup [.sl (rows R) R.length, int k])
end Go.Av
