/-
  Loops over growing memory; loops that fill a set.
-/
import Derived.Test.YtbalggpkmaabmaaDoorAvM0
import Derived.Test.YtbalggpkmaabmaaDoorAvM2
namespace Go.Av
open Classical
set_option linter.unusedSimpArgs false
set_option linter.unusedVariables false
variable {P : Program} {ν : Nat → FuncId}

/-- The objects below nx are as they were. -/
structure Low (H : Hp) (nx : Nat) (H' : Hp) (nx' : Nat) : Prop where
  le : nx ≤ nx'
  eq : ∀ o, o < nx → H' o = H o
theorem Low.refl (H : Hp) (nx : Nat) : Low H nx H nx := ⟨Nat.le_refl _, fun _ _ => rfl⟩
theorem Low.sub {H H' : Hp} {nx nx' : Nat} (h : Low H nx H' nx') (hw : Wf H nx) : Sub H H' := fun o c hc => by
  by_cases e : o < nx
  · rw [h.eq o e]; exact hc
  · rw [hw o (by omega)] at hc; cases hc
theorem Low.trans {H H' H'' : Hp} {a b c : Nat} (h : Low H a H' b) (k : Low H' b H'' c) : Low H a H'' c := ⟨Nat.le_trans h.le k.le, fun o ho => (k.eq o (Nat.lt_of_lt_of_le ho h.le)).trans (h.eq o ho)⟩
theorem Low.new {H H' H'' : Hp} {a b c : Nat} (h : Low H a H' b) (hk : ∀ o, o ≠ b → H'' o = H' o) (hc : b ≤ c) : Low H a H'' c := ⟨Nat.le_trans h.le hc, fun o ho => by rw [hk o (by have := h.le; omega)]; exact h.eq o ho⟩

section
variable {C : Ct} {Φ : AV → Hp → Nat → Prop} {n : Nat} {vars : Nat → AV} {H : Hp} {nx : Nat} {Is : Nat → Inv} {body : Vc} {d : Nat}
def UpG (N : Nat) (p : Nat → Prop) (H0 : Hp) (nx0 i : Nat) : Inv := fun us H' nx' => us = [int ((i + 1 : Nat) : Int)] ∧ i < N ∧ p (i + 1) ∧ Low H0 nx0 H' nx'
/-- A loop that counts while memory grows. -/
theorem den_forG (N : Nat) (p : Nat → Prop) (H0 : Hp) (nx0 : Nat) (hl : Low H0 nx0 H nx) (h0 : p 0) (hr : ∀ (i : Nat) (H' : Hp) (nx' : Nat), i ≤ N → p i → Low H0 nx0 H' nx' → den C Φ body (n + 1) (put vars n (int i)) H' nx' (iput Is d (UpG N p H0 nx0 i))) : den C Φ (.loop d [.c (int 0)] body) n vars H nx Is := by
  refine den_loop (α := Nat) (fun i => [int i]) (fun i H' nx' => i ≤ N ∧ p i ∧ Low H0 nx0 H' nx') (fun i => N - i) 0 rfl ⟨Nat.zero_le _, h0, hl⟩ fun i H' nx' ⟨h1, h2, h3⟩ => ?_
  refine den_mono _ ?_ (hr i H' nx' h1 h2 h3)
  intro j us H2 nx2 hj
  simp only [iput] at hj ⊢
  split at hj
  · rename_i e1
    rw [if_pos e1]
    obtain ⟨e2, e3, e4, e5⟩ := hj
    exact ⟨i + 1, e2, ⟨e3, e4, e5⟩, by omega⟩
  · rename_i e1; rw [if_neg e1]; exact hj
theorem upG {N : Nat} {p : Nat → Prop} {H0 : Hp} {nx0 i : Nat} {a : Int} {H' : Hp} {nx' : Nat} (ha : a = ((i + 1 : Nat) : Int)) (hi : i < N) (hp : p (i + 1)) (hl : Low H0 nx0 H' nx') : UpG N p H0 nx0 i [int a] H' nx' := ⟨by rw [ha], hi, hp, hl⟩

end
theorem SetAt.len {H : Hp} {o : Nat} {kd : Option Nat} {l : List (List Int)} (h : SetAt H o kd l) : pvf H .mlen [.mm o] = some (int l.length) := by
  have := MapAt.len h
  simpa using this

end Go.Av
