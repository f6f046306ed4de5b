/-
  The reference's sum of two categories.
-/
import Derived.Test.YtbalggpkmaabmaaAvY2
namespace Go.Av
open Classical
set_option linter.unusedSimpArgs false
set_option linter.unusedVariables false
variable {P : Program} {ν : Nat → FuncId}

/-- A row of a list of lists, and what a change of it leaves. -/
theorem OwnD.atY {R : List (List Int)} {v : AV} {H : Hp} {lo hi : Nat} (h : OwnD R v H lo hi) {j : Nat} (hj : j < R.length) (hne : R.getD j [] ≠ []) :
    ∃ (o o' : Nat) (cells : List AV), v = .ms o 0 R.length 1 ∧ H o = Option.some cells ∧ cells.length = R.length ∧ cells[j]? = Option.some (AV.ms o' 0 (R.getD j []).length 1) ∧ H o' = Option.some (ints (R.getD j [])) ∧ o' ≠ o ∧ lo ≤ o' ∧ o' < hi ∧ lo ≤ o ∧ o < hi ∧
      ∀ (l : List Int) (H' : Hp), H' o' = Option.some (ints l) → H' o = Option.some (cells.set j (AV.ms o' 0 l.length 1)) → (∀ t, lo ≤ t → t < hi → t ≠ o → t ≠ o' → H' t = H t) → OwnD (R.set j l) v H' lo hi := by
  rcases h with ⟨rfl, _⟩ | ⟨o, cells, h1, h2, h3, h4, h5, h6, h7⟩
  · simp at hj
  · have hjc : j < cells.length := by omega
    have hc : cells[j]? = Option.some cells[j] := List.getElem?_eq_getElem hjc
    rcases h6 j _ hc with ⟨e, _⟩ | ⟨o', e1, e2, e3, e4, e5⟩
    · exact absurd e hne
    · refine ⟨o, o', cells, h1, h4, h5, by rw [hc, e1], e5, e4, e2, e3, h2, h3, fun l H' g1 g2 g3 => ?_⟩
      refine .inr ⟨o, cells.set j (AV.ms o' 0 l.length 1), by rw [h1]; simp, h2, h3, g2, by simp [h5], fun k a hk => ?_, fun a b x n1 n2 ha hb => ?_⟩
      · by_cases ek : k = j
        · subst ek
          rw [List.getElem?_set_self (by omega)] at hk
          cases hk
          rw [show (R.set k l).getD k [] = l from by simp [List.getD, hj]]
          exact .inr ⟨o', rfl, e2, e3, e4, g1⟩
        · rw [List.getElem?_set_ne (fun e => ek e.symm)] at hk
          rw [show (R.set j l).getD k [] = R.getD k [] from by simp [List.getD, List.getElem?_set_ne (fun e : j = k => ek e.symm)]]
          rcases h6 k a hk with q | ⟨o2, q1, q2, q3, q4, q5⟩
          · exact .inl q
          · refine .inr ⟨o2, q1, q2, q3, q4, (g3 o2 q2 q3 q4 fun e => ek ?_).trans q5⟩
            rw [q1] at hk
            rw [e] at hk
            exact h7 k j o' _ _ hk (by rw [hc, e1])
      · -- the objects of the rows are those they were
        have key : ∀ (i m : Nat), (cells.set j (AV.ms o' 0 l.length 1))[i]? = Option.some (AV.ms x 0 m 1) → ∃ m', cells[i]? = Option.some (AV.ms x 0 m' 1) := fun i m hi' => by
          by_cases ei : i = j
          · subst ei
            rw [List.getElem?_set_self (by omega)] at hi'
            cases hi'
            exact ⟨_, by rw [hc, e1]⟩
          · rw [List.getElem?_set_ne (fun e => ei e.symm)] at hi'
            exact ⟨_, hi'⟩
        obtain ⟨m1, k1⟩ := key a n1 ha
        obtain ⟨m2, k2⟩ := key b n2 hb
        exact h7 a b x m1 m2 k1 k2
theorem OwnD.plenY {R : List (List Int)} {v : AV} {H : Hp} {lo hi : Nat} (h : OwnD R v H lo hi) : pvf H .len [v] = Option.some (int R.length) := by
  rcases h with ⟨rfl, rfl⟩ | ⟨o, cells, rfl, h2, h3, h4, h5, h6, h7⟩
  · rfl
  · exact p_lenm h4 h5

theorem Own1.grY {l : List Int} {v : AV} {H : Hp} {lo hi : Nat} (h : Own1 l v H lo hi) : ∃ s, Gr s l v H ∧ ∀ o, s = some o → lo ≤ o ∧ o < hi ∧ Ft1 v o := by
  rcases h with ⟨h1, h2⟩ | ⟨o, h1, h2, h3, h4⟩
  · exact ⟨none, ⟨h1, h2⟩, fun o e => by cases e⟩
  · exact ⟨some o, ⟨h3, h4⟩, fun o' e => by cases e; exact ⟨h1, h2, _, h3⟩⟩
/-- A category of the call's own, put into an object. -/
theorem OwnKC.out3 {x : Cat} {a b d e : AV} {H : Hp} {lo hi q lo' hi' : Nat} (h : OwnKC x a b d e H lo hi) (hq : H q = some [int x.o, a, b, d, e]) (q1 : lo' ≤ q) (q2 : q < hi') (q3 : ¬ (lo ≤ q ∧ q < hi)) (l : lo' ≤ lo) (u : hi ≤ hi') : ∃ s1 s2 s3, Out3 q x.o x.f x.t x.i x.c a b d e s1 s2 s3 H lo' hi' := by
  obtain ⟨s1, g1, r1⟩ := h.f.grY
  obtain ⟨s2, g2, r2⟩ := h.t.grY
  obtain ⟨s3, g3, r3⟩ := h.i.grY
  have nq : ∀ t, lo ≤ t → t < hi → t ≠ q := fun t h1 h2 e => q3 (by subst e; exact ⟨h1, h2⟩)
  refine ⟨s1, s2, s3, hq, q1, q2, g1, g2, g3, fun o ho => ?_, fun o ho => ?_, fun o ho => ?_, fun o h1 h2 => ?_, fun o h1 h2 => ?_, fun o h1 h2 => ?_, (h.c.weak' l).mono u fun _ _ _ => rfl, fun t ht => ?_⟩
  · obtain ⟨z1, z2, _⟩ := r1 o ho; exact ⟨by omega, by omega, nq _ z1 z2⟩
  · obtain ⟨z1, z2, _⟩ := r2 o ho; exact ⟨by omega, by omega, nq _ z1 z2⟩
  · obtain ⟨z1, z2, _⟩ := r3 o ho; exact ⟨by omega, by omega, nq _ z1 z2⟩
  · exact h.ab o (r1 o h1).2.2 (r2 o h2).2.2
  · exact h.ad o (r1 o h1).2.2 (r3 o h2).2.2
  · exact h.bd o (r2 o h1).2.2 (r3 o h2).2.2
  · have f := h.c.foot ht
    exact ⟨nq t f.1 f.2, fun e => h.ae t (r1 t e).2.2 ht, fun e => h.be t (r2 t e).2.2 ht, fun e => h.de t (r3 t e).2.2 ht⟩
section
variable {q : Nat} {ob : Int} {F T I : List Int} {R : List (List Int)} {a b d e : AV} {s1 s2 s3 : Option Nat} {H : Hp} {lo hi : Nat}
/-- The number of objects is set. -/
theorem Out3.setOb (h : Out3 q ob F T I R a b d e s1 s2 s3 H lo hi) {ob' : Int} {H' : Hp} (h1 : H' q = some [int ob', a, b, d, e]) (hk : ∀ t, t ≠ q → H' t = H t) : Out3 q ob' F T I R a b d e s1 s2 s3 H' lo hi := by
  have kf : ∀ t, Ft2 e H t → H' t = H t := fun t ht => hk t (h.ft t ht).1
  have ft := h.tab.ft kf
  exact ⟨h1, h.ql, h.qh, h.g1.kept fun o ho => hk o (h.r1 o ho).2.2, h.g2.kept fun o ho => hk o (h.r2 o ho).2.2, h.g3.kept fun o ho => hk o (h.r3 o ho).2.2, h.r1, h.r2, h.r3, h.n12, h.n13, h.n23, h.tab.apart (Nat.le_refl _) kf, fun t ht => h.ft t ((ft t).1 ht)⟩
/-- A row, and what a change of it leaves. -/
theorem Out3.rowAt (h : Out3 q ob F T I R a b d e s1 s2 s3 H lo hi) {j : Nat} (hj : j < R.length) (hne : R.getD j [] ≠ []) :
    ∃ (o o' : Nat) (cells : List AV), e = .ms o 0 R.length 1 ∧ H o = some cells ∧ cells.length = R.length ∧ cells[j]? = some (AV.ms o' 0 (R.getD j []).length 1) ∧ H o' = some (ints (R.getD j [])) ∧ o' ≠ o ∧ o' ≠ q ∧ o ≠ q ∧ lo ≤ o' ∧ o' < hi ∧ lo ≤ o ∧ o < hi ∧
      ∀ (l : List Int) (H' : Hp), H' o' = some (ints l) → H' o = some (cells.set j (AV.ms o' 0 l.length 1)) → (∀ t, t ≠ o → t ≠ o' → H' t = H t) → Out3 q ob F T I (R.set j l) a b d e s1 s2 s3 H' lo hi := by
  obtain ⟨o, o', cells, h1, h2, h3, h4, h5, h6, h7, h8, h9, h10, hk⟩ := h.tab.atY hj hne
  have f1 : Ft2 e H o := ⟨o, _, cells, h1, h2, .inl rfl⟩
  have f2 : Ft2 e H o' := ⟨o, _, cells, h1, h2, .inr ⟨j, _, h4⟩⟩
  have n1 := h.ft o f1
  have n2 := h.ft o' f2
  refine ⟨o, o', cells, h1, h2, h3, h4, h5, h6, n2.1, n1.1, h7, h8, h9, h10, fun l H' g1 g2 g3 => ?_⟩
  refine ⟨(g3 q n1.1.symm n2.1.symm).trans h.obj, h.ql, h.qh, h.g1.kept fun x hx => g3 x ?_ ?_, h.g2.kept fun x hx => g3 x ?_ ?_, h.g3.kept fun x hx => g3 x ?_ ?_, h.r1, h.r2, h.r3, h.n12, h.n13, h.n23, hk l H' g1 g2 fun t _ _ q1 q2 => g3 t q1 q2, fun t ht => h.ft t ?_⟩
  · intro ee; subst ee; exact n1.2.1 hx
  · intro ee; subst ee; exact n2.2.1 hx
  · intro ee; subst ee; exact n1.2.2.1 hx
  · intro ee; subst ee; exact n2.2.2.1 hx
  · intro ee; subst ee; exact n1.2.2.2 hx
  · intro ee; subst ee; exact n2.2.2.2 hx
  · obtain ⟨o2, m, cs, e1, e2, e3⟩ := ht
    rw [h1] at e1; cases e1
    rw [g2] at e2; cases e2
    rcases e3 with rfl | ⟨k, n, hkk⟩
    · exact f1
    · by_cases ek : k = j
      · subst ek
        rw [List.getElem?_set_self (by omega)] at hkk
        cases hkk
        exact f2
      · rw [List.getElem?_set_ne (fun e => ek e.symm)] at hkk
        exact ⟨o, _, cells, h1, h2, .inr ⟨k, n, hkk⟩⟩
end

theorem lenA3 {A l : List Int} {n : Int} {i : Nat} : (A ++ upL n (l.take i)).length ≤ A.length + l.length := by
  simp [upL_len]; omega
theorem getD_of {l : List Int} {j : Nat} (h : j < l.length) : l[j] = l.getD j 0 := by rw [List.getD_eq_getElem?_getD, List.getElem?_eq_getElem h]; rfl
/-- The sum's rows. -/
def tR (c d : Cat) (a : Nat) : List Int := tblRow (kA c d (fS c d) (tS c d)) (fS c d) (tS c d) a
def rU (c d : Cat) (p : Nat → Nat) : List (List Int) := (List.range c.f.length).map fun k => (tR c d k).take (p k)
def pS (c d : Cat) (f g k : Nat) : Nat := if k < f then rS c d else if k = f then c.f.length + g else c.f.length
theorem take_snoc {l : List Int} {k : Nat} {x : Int} (h : k < l.length) (e : l.getD k 0 = x) : l.take k ++ [x] = l.take (k + 1) := by
  rw [List.take_succ_eq_append_getElem h, ← e]
  congr 2
  simp [List.getD, h]
section
variable {c d : Cat}
theorem tR_len {a : Nat} : (tR c d a).length = rS c d := by unfold tR; rw [tblRow_len, fS_len]
theorem rU_len {p : Nat → Nat} : (rU c d p).length = c.f.length := by simp [rU]
theorem rU_at {p : Nat → Nat} {k : Nat} (h : k < c.f.length) : (rU c d p).getD k [] = (tR c d k).take (p k) := by simp [rU, List.getD, h]
theorem rU_congr {p p' : Nat → Nat} (h : ∀ k, k < c.f.length → p k = p' k) : rU c d p = rU c d p' := List.map_congr_left fun k hk => by rw [h k (List.mem_range.1 hk)]
theorem rU_set {f g : Nat} (h : f < c.f.length) : (rU c d (pS c d f g)).set f ((tR c d f).take (c.f.length + (g + 1))) = rU c d (pS c d f (g + 1)) := by
  refine List.ext_getElem (by simp [rU]) fun i h1 h2 => ?_
  have hi : i < c.f.length := by simpa [rU] using h2
  rw [List.getElem_set]
  simp only [rU, List.getElem_map, List.getElem_range, pS]
  by_cases e : f = i
  · subst e; rw [if_pos rfl, if_neg (by omega), if_pos rfl]
  · rw [if_neg e]
    by_cases e2 : i < f
    · rw [if_pos e2, if_pos e2]
    · rw [if_neg e2, if_neg e2, if_neg (by omega), if_neg (by omega)]
theorem rU_next {f : Nat} : rU c d (pS c d f d.f.length) = rU c d (pS c d (f + 1) 0) := rU_congr fun k hk => by
  unfold pS
  have hr : rS c d = c.f.length + d.f.length := rfl
  split <;> split <;> (try split) <;> (try split) <;> omega
theorem rU_all : rU c d (pS c d c.f.length 0) = (List.range c.f.length).map (tR c d) := List.map_congr_left fun k hk => by
  have := List.mem_range.1 hk
  unfold pS
  rw [if_pos this, List.take_of_length_le (by rw [tR_len]; exact Nat.le_refl _)]
theorem tR_at {a b : Nat} (h : b < rS c d) : (tR c d a).getD b 0 = tblAt (kA c d (fS c d) (tS c d)) (fS c d) (tS c d) a b := tbl_at (by rw [fS_len]; exact h)
/-- The entries: both of the first. -/
theorem tR_11 (s : Shape c) (t : Shape d) {a b : Nat} (ha : a < c.f.length) (hb : b < c.f.length) : (tR c d a).getD b 0 = c.K a b := by
  have hr : rS c d = c.f.length + d.f.length := rfl
  rw [tR_at (by omega), tblAt, tS_lo s ha, fS_lo hb]
  split
  · unfold kA; rw [if_pos ⟨ha, hb⟩]
  · rename_i h; exact (s.kN (loArr ha) (loArr hb) h).symm
theorem tR_12 (s : Shape c) (t : Shape d) {a b : Nat} (ha : a < c.f.length) (hb : c.f.length ≤ b) (hb2 : b < rS c d) : (tR c d a).getD b 0 = -1 := by
  rw [tR_at hb2, tblAt, tS_lo s ha, fS_hi hb hb2, if_neg]
  have q1 := (s.obT (loArr ha)).2
  have q2 := (t.obF (hiArr (c := c) hb hb2)).1
  omega
theorem tR_21 (s : Shape c) (t : Shape d) {a b : Nat} (ha : c.f.length ≤ a) (ha2 : a < rS c d) (hb : b < c.f.length) : (tR c d a).getD b 0 = -1 := by
  have hr : rS c d = c.f.length + d.f.length := rfl
  rw [tR_at (by omega), tblAt, tS_hi s t ha ha2, fS_lo hb, if_neg]
  have q1 := (t.obT (hiArr (c := c) ha ha2)).1
  have q2 := (s.obF (loArr hb)).2
  omega
theorem tR_22 (s : Shape c) (t : Shape d) {a b : Nat} (ha : a < d.f.length) (hb : b < d.f.length) : (tR c d (c.f.length + a)).getD (c.f.length + b) 0 = if 0 ≤ d.K a b then (c.f.length : Int) + d.K a b else d.K a b := by
  have hr : rS c d = c.f.length + d.f.length := rfl
  have e1 : c.f.length + a - c.f.length = a := by omega
  have e2 : c.f.length + b - c.f.length = b := by omega
  rw [tR_at (by omega), tblAt, tS_hi s t (by omega) (by omega), fS_hi (by omega) (by omega), e1, e2]
  have aa : Arr d (a : Int) := ⟨by omega, by omega⟩
  have ab : Arr d (b : Int) := ⟨by omega, by omega⟩
  have ki := t.kI aa ab
  by_cases e : d.T a = d.F b
  · rw [if_pos (by omega), if_pos (ki.2 e)]
    unfold kA; rw [if_neg (by omega), if_pos ⟨by omega, by omega⟩, e1, e2]
  · rw [if_neg (by omega), if_neg (fun q => e (ki.1 q)), t.kN aa ab e]
theorem rU_zero (s : Shape c) (t : Shape d) : c.c = rU c d (pS c d 0 0) := by
  have hr : rS c d = c.f.length + d.f.length := rfl
  refine List.ext_getElem (by rw [rU_len, s.cl]) fun i h1 h2 => ?_
  have hi : i < c.f.length := by have := s.cl; omega
  have rl := (s.row i hi).1
  have e1 : c.c[i] = c.c.getD i [] := by simp [List.getD, h1]
  rw [e1]
  simp only [rU, List.getElem_map, List.getElem_range]
  have ep : pS c d 0 0 i = c.f.length := by unfold pS; rw [if_neg (by omega)]; split <;> omega
  rw [ep]
  refine List.ext_getElem (by rw [rl, List.length_take, tR_len]; omega) fun j g1 g2 => ?_
  have hj : j < c.f.length := by omega
  have := tR_11 s t hi hj
  rw [List.getElem_take]
  have x1 : (c.c.getD i [])[j] = (c.c.getD i []).getD j 0 := getD_of g1
  have x2 : (tR c d i)[j]'(by rw [tR_len]; omega) = (tR c d i).getD j 0 := by rw [List.getD, List.getElem?_eq_getElem (by rw [tR_len]; omega)]; rfl
  rw [x1, x2, this]
  rfl
theorem tR_tbl : (List.range (rS c d)).map (tR c d) = (sumK c d).c := by
  show _ = tbl _ _ _
  unfold tbl
  rw [fS_len]
  rfl
end
end Go.Av
