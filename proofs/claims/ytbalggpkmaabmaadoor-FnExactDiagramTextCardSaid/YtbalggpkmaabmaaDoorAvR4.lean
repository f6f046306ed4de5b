/-
  A category under construction: a struct in an object of its own whose slices grow.
-/
import Derived.Test.YtbalggpkmaabmaaDoorAvR3
import Derived.Test.YtbalggpkmaabmaaDoorAvJ2
import Derived.Test.YtbalggpkmaabmaaDoorAvT1
namespace Go.Av
open Classical
set_option linter.unusedSimpArgs false
set_option linter.unusedVariables false
variable {P : Program} {ν : Nat → FuncId}

/-- The struct in object q; all its objects lie from lo on and below hi. -/
structure Out3 (q : Nat) (ob : Int) (F T I : List Int) (R : List (List Int)) (a b d e : AV) (s1 s2 s3 : Option Nat) (H : Hp) (lo hi : Nat) : Prop where
  obj : H q = some [int ob, a, b, d, e]
  ql : lo ≤ q
  qh : q < hi
  g1 : Gr s1 F a H
  g2 : Gr s2 T b H
  g3 : Gr s3 I d H
  r1 : ∀ o, s1 = some o → lo ≤ o ∧ o < hi ∧ o ≠ q
  r2 : ∀ o, s2 = some o → lo ≤ o ∧ o < hi ∧ o ≠ q
  r3 : ∀ o, s3 = some o → lo ≤ o ∧ o < hi ∧ o ≠ q
  n12 : ∀ o, s1 = some o → s2 ≠ some o
  n13 : ∀ o, s1 = some o → s3 ≠ some o
  n23 : ∀ o, s2 = some o → s3 ≠ some o
  tab : OwnD R e H lo hi
  ft : ∀ t, Ft2 e H t → t ≠ q ∧ s1 ≠ some t ∧ s2 ≠ some t ∧ s3 ≠ some t
section
variable {q : Nat} {ob : Int} {F T I : List Int} {R : List (List Int)} {a b d e : AV} {s1 s2 s3 : Option Nat} {H : Hp} {lo hi : Nat}
theorem Gr.one {s : Option Nat} {l : List Int} {v : AV} (h : Gr s l v H) : v.one = true := by
  cases s with
  | none => obtain ⟨_, rfl⟩ := h; rfl
  | some o => obtain ⟨rfl, _⟩ := h; rfl
theorem Gr.own {s : Option Nat} {l : List Int} {v : AV} (h : Gr s l v H) (r : ∀ o, s = some o → lo ≤ o ∧ o < hi) : Own1 l v H lo hi := by
  cases s with
  | none => exact .inl h
  | some o => exact .inr ⟨o, (r o rfl).1, (r o rfl).2, h.1, h.2⟩
theorem Gr.ft {s : Option Nat} {l : List Int} {v : AV} (h : Gr s l v H) {t : Nat} (ht : Ft1 v t) : s = some t := by
  obtain ⟨n, e⟩ := ht
  cases s with
  | none => rw [h.2] at e; cases e
  | some o => rw [h.1] at e; cases e; rfl
theorem Gr.rd {s : Option Nat} {l : List Int} {v : AV} (h : Gr s l v H) {lim : Nat → Prop} (r : ∀ o, s = some o → lim o) : Rd H lim v l := by
  cases s with
  | none => obtain ⟨rfl, rfl⟩ := h; exact .nil
  | some o => obtain ⟨rfl, h2⟩ := h; exact .ms o l h2 (r o rfl)
theorem Out3.mono (h : Out3 q ob F T I R a b d e s1 s2 s3 H lo hi) {H' : Hp} {hi' : Nat} (hh : hi ≤ hi') (hH : ∀ t, lo ≤ t → t < hi → H' t = H t) : Out3 q ob F T I R a b d e s1 s2 s3 H' lo hi' := by
  have ft := h.tab.ft (H' := H') fun t ht => hH t (h.tab.foot ht).1 (h.tab.foot ht).2
  exact ⟨(hH q h.ql h.qh).trans h.obj, h.ql, by have := h.qh; omega, h.g1.kept fun o ho => hH o (h.r1 o ho).1 (h.r1 o ho).2.1, h.g2.kept fun o ho => hH o (h.r2 o ho).1 (h.r2 o ho).2.1, h.g3.kept fun o ho => hH o (h.r3 o ho).1 (h.r3 o ho).2.1,
    fun o ho => by have := h.r1 o ho; exact ⟨this.1, by omega, this.2.2⟩, fun o ho => by have := h.r2 o ho; exact ⟨this.1, by omega, this.2.2⟩, fun o ho => by have := h.r3 o ho; exact ⟨this.1, by omega, this.2.2⟩, h.n12, h.n13, h.n23, h.tab.mono hh hH, fun t ht => h.ft t ((ft t).1 ht)⟩
theorem Out3.own (h : Out3 q ob F T I R a b d e s1 s2 s3 H lo hi) : OwnK ⟨ob, F, T, I, R⟩ (.agg [int ob, a, b, d, e]) H lo hi := by
  refine ⟨a, b, d, e, rfl, h.g1.own fun o ho => ⟨(h.r1 o ho).1, (h.r1 o ho).2.1⟩, h.g2.own fun o ho => ⟨(h.r2 o ho).1, (h.r2 o ho).2.1⟩, h.g3.own fun o ho => ⟨(h.r3 o ho).1, (h.r3 o ho).2.1⟩, h.tab, fun o q1 q2 => h.n12 o (h.g1.ft q1) (h.g2.ft q2), fun o q1 q2 => h.n13 o (h.g1.ft q1) (h.g3.ft q2), fun o q1 q2 => h.n23 o (h.g2.ft q1) (h.g3.ft q2), fun o q1 q2 => (h.ft o q2).2.1 (h.g1.ft q1), fun o q1 q2 => (h.ft o q2).2.2.1 (h.g2.ft q1), fun o q1 q2 => (h.ft o q2).2.2.2 (h.g3.ft q1)⟩
theorem Out3.ones (h : Out3 q ob F T I R a b d e s1 s2 s3 H lo hi) : [int ob, a, b, d, e].all AV.one = true := h.own.one5
theorem Out3.start {q : Nat} {ob : Int} {H : Hp} {lo : Nat} (h : H q = some [int ob, .nil, .nil, .nil, .nil]) (hq : lo ≤ q) : Out3 q ob [] [] [] [] .nil .nil .nil .nil none none none H lo (q + 1) :=
  ⟨h, hq, by omega, ⟨rfl, rfl⟩, ⟨rfl, rfl⟩, ⟨rfl, rfl⟩, (fun o h => by cases h), (fun o h => by cases h), (fun o h => by cases h), (fun o h => by cases h), (fun o h => by cases h), (fun o h => by cases h), OwnD.nil, fun t ⟨o, m, cells, e, _⟩ => by cases e⟩
end
section
variable {C : Ct} {Φ : AV → Hp → Nat → Prop} {n : Nat} {vars : Nat → AV} {H : Hp} {nx : Nat} {Is : Nat → Inv} {r : Vc}
variable {q : Nat} {ob : Int} {F T I : List Int} {R : List (List Int)} {a b d e : AV} {s1 s2 s3 : Option Nat} {lo hi : Nat}
end
/-- The table is made. -/
theorem Out3.table {q : Nat} {ob : Int} {F T I : List Int} {a b d : AV} {s1 s2 s3 : Option Nat} {H H' : Hp} {lo nx : Nat} {M : List (List Int)} (h : Out3 q ob F T I [] a b d .nil s1 s2 s3 H lo nx) (hT : TblAt H nx q [int ob, a, b, d] M H') : Out3 q ob F T I M a b d (.ms nx 0 M.length 1) s1 s2 s3 H' lo (nx + 1 + M.length) := by
  have hqh := h.qh
  have hql := h.ql
  have kp : ∀ (s : Option Nat) (L : List Int) (v : AV), Gr s L v H → (∀ o, s = some o → lo ≤ o ∧ o < nx ∧ o ≠ q) → Gr s L v H' := fun s L v g g2 => g.kept fun o ho => hT.low o (g2 o ho).2.1 (g2 o ho).2.2
  have ftT : ∀ t, Ft2 (.ms nx 0 M.length 1) H' t → nx ≤ t := fun t hh => by
    obtain ⟨o, m, cells, e1, e2, e3⟩ := hh
    cases e1
    rw [hT.tab] at e2; cases e2
    rcases e3 with rfl | ⟨k, n, hk⟩
    · exact Nat.le_refl _
    · have hk' : k < M.length := by
        obtain ⟨z, _⟩ := List.getElem?_eq_some_iff.1 hk
        simpa [outer_len] using z
      rw [outer_full, outerC_get hk'] at hk
      cases hk; omega
  refine ⟨by rw [hT.obj]; rfl, h.ql, by omega, kp _ _ _ h.g1 h.r1, kp _ _ _ h.g2 h.r2, kp _ _ _ h.g3 h.r3, fun o ho => by have := h.r1 o ho; exact ⟨this.1, by omega, this.2.2⟩, fun o ho => by have := h.r2 o ho; exact ⟨this.1, by omega, this.2.2⟩, fun o ho => by have := h.r3 o ho; exact ⟨this.1, by omega, this.2.2⟩, h.n12, h.n13, h.n23, ?_, fun t hh => ?_⟩
  · refine .inr ⟨nx, outer M nx M.length, rfl, by omega, by omega, hT.tab, outer_len _ _ _, fun k a hk => ?_, fun j k x n1 n2 hj hk => ?_⟩
    · have hk' : k < M.length := by
        obtain ⟨z, _⟩ := List.getElem?_eq_some_iff.1 hk
        simpa [outer_len] using z
      rw [outer_full, outerC_get hk'] at hk
      cases hk
      exact .inr ⟨nx + 1 + k, rfl, by omega, by omega, by omega, hT.row k hk'⟩
    · have hj' : j < M.length := by
        obtain ⟨z, _⟩ := List.getElem?_eq_some_iff.1 hj
        simpa [outer_len] using z
      have hk' : k < M.length := by
        obtain ⟨z, _⟩ := List.getElem?_eq_some_iff.1 hk
        simpa [outer_len] using z
      rw [outer_full, outerC_get hj'] at hj
      rw [outer_full, outerC_get hk'] at hk
      simp only [Option.some.injEq, AV.ms.injEq] at hj hk
      omega
  · have := ftT t hh
    refine ⟨by omega, fun ee => ?_, fun ee => ?_, fun ee => ?_⟩
    · have := h.r1 t ee; omega
    · have := h.r2 t ee; omega
    · have := h.r3 t ee; omega
end Go.Av
