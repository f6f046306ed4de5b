/-
  The reference's sum of two categories.
-/
import Derived.Test.YtbalggpkmaabmaaAvY2
namespace Go.Av
open Classical
set_option linter.unusedSimpArgs false
set_option linter.unusedVariables false
variable {P : Program} {ν : Nat → FuncId}

/-- A row of a list of lists, and what a change of it leaves. -/
theorem OwnD.atY {R : List (List Int)} {v : AV} {H : Hp} {lo hi : Nat} (h : OwnD R v H lo hi) {j : Nat} (hj : j < R.length) (hne : R.getD j [] ≠ []) :
    ∃ (o o' : Nat) (cells : List AV), v = .ms o 0 R.length 1 ∧ H o = Option.some cells ∧ cells.length = R.length ∧ cells[j]? = Option.some (AV.ms o' 0 (R.getD j []).length 1) ∧ H o' = Option.some (ints (R.getD j [])) ∧ o' ≠ o ∧ lo ≤ o' ∧ o' < hi ∧ lo ≤ o ∧ o < hi ∧
      ∀ (l : List Int) (H' : Hp), H' o' = Option.some (ints l) → H' o = Option.some (cells.set j (AV.ms o' 0 l.length 1)) → (∀ t, lo ≤ t → t < hi → t ≠ o → t ≠ o' → H' t = H t) → OwnD (R.set j l) v H' lo hi := by
  rcases h with ⟨rfl, _⟩ | ⟨o, cells, h1, h2, h3, h4, h5, h6, h7⟩
  · simp at hj
  · have hjc : j < cells.length := by omega
    have hc : cells[j]? = Option.some cells[j] := List.getElem?_eq_getElem hjc
    rcases h6 j _ hc with ⟨e, _⟩ | ⟨o', e1, e2, e3, e4, e5⟩
    · exact absurd e hne
    · refine ⟨o, o', cells, h1, h4, h5, by rw [hc, e1], e5, e4, e2, e3, h2, h3, fun l H' g1 g2 g3 => ?_⟩
      refine .inr ⟨o, cells.set j (AV.ms o' 0 l.length 1), by rw [h1]; simp, h2, h3, g2, by simp [h5], fun k a hk => ?_, fun a b x n1 n2 ha hb => ?_⟩
      · by_cases ek : k = j
        · subst ek
          rw [List.getElem?_set_self (by omega)] at hk
          cases hk
          rw [show (R.set k l).getD k [] = l from by simp [List.getD, hj]]
          exact .inr ⟨o', rfl, e2, e3, e4, g1⟩
        · rw [List.getElem?_set_ne (fun e => ek e.symm)] at hk
          rw [show (R.set j l).getD k [] = R.getD k [] from by simp [List.getD, List.getElem?_set_ne (fun e : j = k => ek e.symm)]]
          rcases h6 k a hk with q | ⟨o2, q1, q2, q3, q4, q5⟩
          · exact .inl q
          · refine .inr ⟨o2, q1, q2, q3, q4, (g3 o2 q2 q3 q4 fun e => ek ?_).trans q5⟩
            rw [q1] at hk
            rw [e] at hk
            exact h7 k j o' _ _ hk (by rw [hc, e1])
      · -- the objects of the rows are those they were
        have key : ∀ (i m : Nat), (cells.set j (AV.ms o' 0 l.length 1))[i]? = Option.some (AV.ms x 0 m 1) → ∃ m', cells[i]? = Option.some (AV.ms x 0 m' 1) := fun i m hi' => by
          by_cases ei : i = j
          · subst ei
            rw [List.getElem?_set_self (by omega)] at hi'
            cases hi'
            exact ⟨_, by rw [hc, e1]⟩
          · rw [List.getElem?_set_ne (fun e => ei e.symm)] at hi'
            exact ⟨_, hi'⟩
        obtain ⟨m1, k1⟩ := key a n1 ha
        obtain ⟨m2, k2⟩ := key b n2 hb
        exact h7 a b x m1 m2 k1 k2

theorem Own1.grY {l : List Int} {v : AV} {H : Hp} {lo hi : Nat} (h : Own1 l v H lo hi) : ∃ s, Gr s l v H ∧ ∀ o, s = some o → lo ≤ o ∧ o < hi ∧ Ft1 v o := by
  rcases h with ⟨h1, h2⟩ | ⟨o, h1, h2, h3, h4⟩
  · exact ⟨none, ⟨h1, h2⟩, fun o e => by cases e⟩
  · exact ⟨some o, ⟨h3, h4⟩, fun o' e => by cases e; exact ⟨h1, h2, _, h3⟩⟩
/-- A category of the call's own, put into an object. -/
theorem OwnKC.out3 {x : Cat} {a b d e : AV} {H : Hp} {lo hi q lo' hi' : Nat} (h : OwnKC x a b d e H lo hi) (hq : H q = some [int x.o, a, b, d, e]) (q1 : lo' ≤ q) (q2 : q < hi') (q3 : ¬ (lo ≤ q ∧ q < hi)) (l : lo' ≤ lo) (u : hi ≤ hi') : ∃ s1 s2 s3, Out3 q x.o x.f x.t x.i x.c a b d e s1 s2 s3 H lo' hi' := by
  obtain ⟨s1, g1, r1⟩ := h.f.grY
  obtain ⟨s2, g2, r2⟩ := h.t.grY
  obtain ⟨s3, g3, r3⟩ := h.i.grY
  have nq : ∀ t, lo ≤ t → t < hi → t ≠ q := fun t h1 h2 e => q3 (by subst e; exact ⟨h1, h2⟩)
  refine ⟨s1, s2, s3, hq, q1, q2, g1, g2, g3, fun o ho => ?_, fun o ho => ?_, fun o ho => ?_, fun o h1 h2 => ?_, fun o h1 h2 => ?_, fun o h1 h2 => ?_, (h.c.weak' l).mono u fun _ _ _ => rfl, fun t ht => ?_⟩
  · obtain ⟨z1, z2, _⟩ := r1 o ho; exact ⟨by omega, by omega, nq _ z1 z2⟩
  · obtain ⟨z1, z2, _⟩ := r2 o ho; exact ⟨by omega, by omega, nq _ z1 z2⟩
  · obtain ⟨z1, z2, _⟩ := r3 o ho; exact ⟨by omega, by omega, nq _ z1 z2⟩
  · exact h.ab o (r1 o h1).2.2 (r2 o h2).2.2
  · exact h.ad o (r1 o h1).2.2 (r3 o h2).2.2
  · exact h.bd o (r2 o h1).2.2 (r3 o h2).2.2
  · have f := h.c.foot ht
    exact ⟨nq t f.1 f.2, fun e => h.ae t (r1 t e).2.2 ht, fun e => h.be t (r2 t e).2.2 ht, fun e => h.de t (r3 t e).2.2 ht⟩
section
variable {q : Nat} {ob : Int} {F T I : List Int} {R : List (List Int)} {a b d e : AV} {s1 s2 s3 : Option Nat} {H : Hp} {lo hi : Nat}
end

theorem take_snoc {l : List Int} {k : Nat} {x : Int} (h : k < l.length) (e : l.getD k 0 = x) : l.take k ++ [x] = l.take (k + 1) := by
  rw [List.take_succ_eq_append_getElem h, ← e]
  congr 2
  simp [List.getD, h]
section
variable {c d : Cat}
end
end Go.Av
