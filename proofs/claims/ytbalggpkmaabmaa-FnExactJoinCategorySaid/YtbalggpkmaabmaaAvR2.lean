/-
  What the statements with lists of lists need: results, arguments in memory.
-/
import Derived.Test.YtbalggpkmaabmaaAvR1
namespace Go.Av
open Classical
set_option linter.unusedSimpArgs false
set_option linter.unusedVariables false
variable {P : Program} {ν : Nat → FuncId}

section
variable {C : Ct} {Φ : AV → Hp → Nat → Prop} {n : Nat} {vars : Nat → AV} {H : Hp} {nx : Nat} {Is : Nat → Inv} {r : Vc}
theorem den_newR {z : List AV} (hk : ∀ H2 : Hp, H2 nx = some z → (∀ j, j < nx → H2 j = H j) → den C Φ r (n + 1) (put vars n (.mp nx 0 z.length)) H2 (nx + 1) Is) : den C Φ (.op true (.new z) r) n vars H nx Is :=
  den_new (hk _ (hput_eq _ _ _) fun j hj => hput_ne _ _ _ _ (by omega))
theorem den_stR {x y : Opd} {o m : Nat} {c d : List AV} (hx : ev vars x = .mp o 0 m) (hy : ev vars y = .agg d) (ho : H o = some c) (hl : c.length = m) (hd : d.length = m) (h1 : d.all AV.one = true)
    (hk : ∀ H2 : Hp, H2 o = some d → (∀ j, j ≠ o → H2 j = H j) → den C Φ r (n + 1) (put vars n (.v undef)) H2 nx Is) : den C Φ (.op true (.st m x y) r) n vars H nx Is :=
  den_stA hx hy ho hl hd h1 (hk _ (hput_eq _ _ _) fun j hj => hput_ne _ _ _ _ hj)
end
theorem toCat_R (L : HLaw P ν) (c : Cat) (b : Small2 c) (H : Hp) (nx : Nat) : OkM P ν 5 [.agg c.cells] H nx (fun r H' nx' => ∃ n0, r = catM c n0 ∧ nx ≤ n0 ∧ nx' = n0 + 4 + c.c.length ∧ CatAt H' n0 c ∧ ∀ o, o < nx → H' o = H o) :=
  (toCat_ok L.toI L.toII L.toC c b H nx).mono fun r H' nx' ⟨n0, h1, h2, h3, h4⟩ => ⟨n0, h2, h1, h4, h3 ▸ catH_at _ _ _, fun o ho => by rw [h3]; exact catH_lo _ _ _ _ (by omega)⟩
theorem toCat_Rs (c : Cat) (H : Hp) (nx : Nat) : ∃ (r : AV) (H' : Hp) (nx' : Nat), ∃ n0, r = catM c n0 ∧ nx ≤ n0 ∧ nx' = n0 + 4 + c.c.length ∧ CatAt H' n0 c ∧ ∀ o, o < nx → H' o = H o :=
  ⟨_, catH H nx c, _, nx, rfl, Nat.le_refl _, rfl, catH_at _ _ _, fun o ho => catH_lo _ _ _ _ ho⟩
theorem tot_le {R : List (List Int)} {m : Nat} (h : ∀ i, i < R.length → (R.getD i []).length ≤ m) : tot R ≤ R.length * m := by
  induction R with
  | nil => simp [tot]
  | cons l R ih =>
    have h0 := h 0 (by simp)
    have h1 := ih fun i hi => h (i + 1) (by simpa using hi)
    rw [tot_cons, List.length_cons, Nat.add_mul]
    simp at h0
    omega

end Go.Av
