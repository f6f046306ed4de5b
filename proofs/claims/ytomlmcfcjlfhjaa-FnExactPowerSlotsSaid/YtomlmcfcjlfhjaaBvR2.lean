/-
  What the statements with lists of lists need: results, arguments in memory.
-/
import Derived.Test.YtomlmcfcjlfhjaaBvR1
namespace Go.Av
set_option linter.unusedSectionVars false
set_option linter.unusedSimpArgs false
set_option linter.unusedVariables false
variable [md : Md]
open Classical
set_option linter.unusedSimpArgs false
set_option linter.unusedVariables false
variable {P : Program} {ν : Nat → FuncId}

section
variable {C : Ct} {Φ : AV → Hp → Nat → Prop} {n : Nat} {vars : Nat → AV} {H : Hp} {nx : Nat} {Is : Nat → Inv} {r : Vc}
theorem den_newR {z : List AV} (hk : ∀ H2 : Hp, H2 nx = some z → (∀ j, j < nx → H2 j = H j) → den C Φ r (n + 1) (put vars n (.mp nx 0 z.length)) H2 (nx + 1) Is) : den C Φ (.op true (.new z) r) n vars H nx Is :=
  den_new (hk _ (hput_eq _ _ _) fun j hj => hput_ne _ _ _ _ (by omega))
theorem den_stR {x y : Opd} {o m : Nat} {c d : List AV} (hx : ev vars x = .mp o 0 m) (hy : ev vars y = .agg d) (ho : H o = some c) (hl : c.length = m) (hd : d.length = m) (h1 : d.all AV.one = true)
    (hk : ∀ H2 : Hp, H2 o = some d → (∀ j, j ≠ o → H2 j = H j) → den C Φ r (n + 1) (put vars n (.v undef)) H2 nx Is) : den C Φ (.op true (.st m x y) r) n vars H nx Is :=
  den_stA hx hy ho hl hd h1 (hk _ (hput_eq _ _ _) fun j hj => hput_ne _ _ _ _ hj)
end
theorem tot_le {R : List (List Int)} {m : Nat} (h : ∀ i, i < R.length → (R.getD i []).length ≤ m) : tot R ≤ R.length * m := by
  induction R with
  | nil => simp [tot]
  | cons l R ih =>
    have h0 := h 0 (by simp)
    have h1 := ih fun i hi => h (i + 1) (by simpa using hi)
    rw [tot_cons, List.length_cons, Nat.add_mul]
    simp at h0
    omega

theorem Fz.fi {f : Nat} {ys : List AV} {u : AV} (h : Fz (OkM P ν) f ys u) : Fi (OkM P ν) f ys u := OkM.mono h fun _ _ _ hh => frzN_frz _ _ _ hh
/-- A list of lists and a code. -/
def BothQ (P : Program) (ν : Nat → FuncId) (i j : Nat) (ys : List AV) : Prop :=
  ∃ (R : List (List Int)) (k : Int), R.length ≤ 1048576 ∧ (∀ i, i < R.length → (R.getD i []).length ≤ 1048576) ∧ (∀ nx, OkM P ν i ys hempty nx (IsQ R k nx)) ∧ Fi (OkM P ν) j ys (.tup [.sl (rows R) R.length, int k])
end Go.Av
