/-
  Categories of the call's own: found, marked, found again.
-/
import Derived.Test.YtbalggpkmaabmaaDoorAvR2
namespace Go.Av
open Classical
set_option linter.unusedSimpArgs false
set_option linter.unusedVariables false
variable {P : Program} {ν : Nat → FuncId}

theorem Ft2.same {v : AV} {H H' : Hp} {t : Nat} (hk : ∀ o m, v = .ms o 0 m 1 → H' o = H o) : Ft2 v H' t ↔ Ft2 v H t := by
  constructor
  · rintro ⟨o, m, cells, rfl, h1, h2⟩; exact ⟨o, m, cells, rfl, (hk o m rfl).symm.trans h1, h2⟩
  · rintro ⟨o, m, cells, rfl, h1, h2⟩; exact ⟨o, m, cells, rfl, (hk o m rfl).trans h1, h2⟩
theorem OwnD.self {R : List (List Int)} {v : AV} {H : Hp} {lo hi : Nat} (h : OwnD R v H lo hi) {o m : Nat} (e : v = .ms o 0 m 1) : Ft2 v H o := by
  rcases h with ⟨_, rfl⟩ | ⟨o', cells, rfl, h2, h3, h4, h5, h6, h7⟩
  · cases e
  · cases e; exact ⟨_, _, cells, rfl, h4, .inl rfl⟩
theorem OwnD.foot {R : List (List Int)} {v : AV} {H : Hp} {lo hi : Nat} (h : OwnD R v H lo hi) {t : Nat} (ht : Ft2 v H t) : lo ≤ t ∧ t < hi := by
  rcases h with ⟨_, rfl⟩ | ⟨o', cells, rfl, h2, h3, h4, h5, h6, h7⟩
  · obtain ⟨o, m, cells, e, _⟩ := ht; cases e
  · obtain ⟨o, m, cells2, e, g1, g2⟩ := ht
    cases e
    rw [h4] at g1; cases g1
    rcases g2 with rfl | ⟨k, n, hk⟩
    · exact ⟨h2, h3⟩
    · rcases h6 k _ hk with ⟨_, e⟩ | ⟨o2, e, q1, q2, _⟩
      · cases e
      · cases e; exact ⟨q1, q2⟩
/-- What does not touch a slice of slices leaves it. -/
theorem OwnD.apart {R : List (List Int)} {v : AV} {H H' : Hp} {lo hi hi' : Nat} (h : OwnD R v H lo hi) (hh : hi ≤ hi') (hk : ∀ t, Ft2 v H t → H' t = H t) : OwnD R v H' lo hi' := by
  rcases h with h | ⟨o, cells, h1, h2, h3, h4, h5, h6, h7⟩
  · exact .inl h
  · have ho := hk o ⟨o, _, cells, h1, h4, .inl rfl⟩
    refine .inr ⟨o, cells, h1, h2, by omega, ho.trans h4, h5, fun k a hk' => ?_, h7⟩
    rcases h6 k a hk' with q | ⟨o', q1, q2, q3, q4, q5⟩
    · exact .inl q
    · refine .inr ⟨o', q1, q2, by omega, q4, (hk o' ⟨o, _, cells, h1, h4, .inr ⟨k, _, by rw [hk', q1]⟩⟩).trans q5⟩
theorem OwnD.ft {R : List (List Int)} {v : AV} {H H' : Hp} {lo hi : Nat} (h : OwnD R v H lo hi) (hk : ∀ t, Ft2 v H t → H' t = H t) (t : Nat) : Ft2 v H' t ↔ Ft2 v H t := Ft2.same fun o m e => hk o (h.self e)
theorem Own1.apart {l : List Int} {v : AV} {H H' : Hp} {lo hi hi' : Nat} (h : Own1 l v H lo hi) (hh : hi ≤ hi') (hk : ∀ t, Ft1 v t → H' t = H t) : Own1 l v H' lo hi' := by
  rcases h with h | ⟨o, h1, h2, rfl, h4⟩
  · exact .inl h
  · exact .inr ⟨o, h1, by omega, rfl, (hk o ⟨_, rfl⟩).trans h4⟩

theorem Own1.one' {l : List Int} {v : AV} {H : Hp} {lo hi : Nat} (h : Own1 l v H lo hi) : v.one = true := by rcases h with ⟨_, rfl⟩ | ⟨o, _, _, rfl, _⟩ <;> rfl
/-- A category of the call's own, its parts. -/
structure OwnKC (x : Cat) (a b d e : AV) (H : Hp) (lo hi : Nat) : Prop where
  f : Own1 x.f a H lo hi
  t : Own1 x.t b H lo hi
  i : Own1 x.i d H lo hi
  c : OwnD x.c e H lo hi
  ab : ∀ o, Ft1 a o → ¬ Ft1 b o
  ad : ∀ o, Ft1 a o → ¬ Ft1 d o
  bd : ∀ o, Ft1 b o → ¬ Ft1 d o
  ae : ∀ o, Ft1 a o → ¬ Ft2 e H o
  be : ∀ o, Ft1 b o → ¬ Ft2 e H o
  de : ∀ o, Ft1 d o → ¬ Ft2 e H o
def OwnK (x : Cat) (v : AV) (H : Hp) (lo hi : Nat) : Prop := ∃ a b d e, v = .agg [int x.o, a, b, d, e] ∧ OwnKC x a b d e H lo hi
theorem OwnKC.mono {x : Cat} {a b d e : AV} {H H' : Hp} {lo hi hi' : Nat} (h : OwnKC x a b d e H lo hi) (hh : hi ≤ hi') (hH : ∀ k, lo ≤ k → k < hi → H' k = H k) : OwnKC x a b d e H' lo hi' := by
  have ft := h.c.ft (H' := H') fun t ht => hH t (h.c.foot ht).1 (h.c.foot ht).2
  exact ⟨h.f.mono hh hH, h.t.mono hh hH, h.i.mono hh hH, h.c.mono hh hH, h.ab, h.ad, h.bd, fun o ho q => h.ae o ho ((ft o).1 q), fun o ho q => h.be o ho ((ft o).1 q), fun o ho q => h.de o ho ((ft o).1 q)⟩
theorem OwnK.mono {x : Cat} {v : AV} {H H' : Hp} {lo hi hi' : Nat} (h : OwnK x v H lo hi) (hh : hi ≤ hi') (hH : ∀ k, lo ≤ k → k < hi → H' k = H k) : OwnK x v H' lo hi' := by
  obtain ⟨a, b, d, e, rfl, h⟩ := h
  exact ⟨a, b, d, e, rfl, h.mono hh hH⟩
theorem Own1.weak {l : List Int} {v : AV} {H : Hp} {lo lo' hi : Nat} (h : Own1 l v H lo hi) (hh : lo' ≤ lo) : Own1 l v H lo' hi := by
  rcases h with h | ⟨o, h1, h2, h3⟩
  · exact .inl h
  · exact .inr ⟨o, by omega, h2, h3⟩
theorem OwnD.weak' {R : List (List Int)} {v : AV} {H : Hp} {lo lo' hi : Nat} (h : OwnD R v H lo hi) (hh : lo' ≤ lo) : OwnD R v H lo' hi := by
  rcases h with h | ⟨o, cells, h1, h2, h3, h4, h5, h6, h7⟩
  · exact .inl h
  · refine .inr ⟨o, cells, h1, by omega, h3, h4, h5, fun k a hk => ?_, h7⟩
    rcases h6 k a hk with q | ⟨o', q1, q2, q3, q4, q5⟩
    · exact .inl q
    · exact .inr ⟨o', q1, by omega, q3, q4, q5⟩
theorem OwnKC.weak {x : Cat} {a b d e : AV} {H : Hp} {lo lo' hi : Nat} (h : OwnKC x a b d e H lo hi) (hh : lo' ≤ lo) : OwnKC x a b d e H lo' hi := ⟨h.f.weak hh, h.t.weak hh, h.i.weak hh, h.c.weak' hh, h.ab, h.ad, h.bd, h.ae, h.be, h.de⟩
theorem OwnK.weak {x : Cat} {v : AV} {H : Hp} {lo lo' hi : Nat} (h : OwnK x v H lo hi) (hh : lo' ≤ lo) : OwnK x v H lo' hi := by
  obtain ⟨a, b, d, e, rfl, h⟩ := h
  exact ⟨a, b, d, e, rfl, h.weak hh⟩
theorem OwnKC.keep {x : Cat} {a b d e : AV} {H : Hp} {lo hi : Nat} (h : OwnKC x a b d e H lo hi) : OwnKC x a b d e (keepH lo H) lo hi := by
  have ft : ∀ t, Ft2 e (keepH lo H) t → Ft2 e H t := fun t ht => by
    obtain ⟨o, m, cells, e1, e2, e3⟩ := ht
    exact ⟨o, m, cells, e1, keepH_sub _ _ _ _ e2, e3⟩
  exact ⟨h.f.keep, h.t.keep, h.i.keep, h.c.keep, h.ab, h.ad, h.bd, fun o ho q => h.ae o ho (ft o q), fun o ho q => h.be o ho (ft o q), fun o ho q => h.de o ho (ft o q)⟩
theorem OwnK.keep {x : Cat} {v : AV} {H : Hp} {lo hi : Nat} (h : OwnK x v H lo hi) : OwnK x v (keepH lo H) lo hi := by
  obtain ⟨a, b, d, e, rfl, h⟩ := h
  exact ⟨a, b, d, e, rfl, h.keep⟩
theorem OwnK.cln {x : Cat} {v : AV} {H : Hp} {lo hi : Nat} (h : OwnK x v H lo hi) (k : Nat) : Av.cln lo (k + 1) v = true := by
  obtain ⟨a, b, d, e, rfl, h⟩ := h
  have hi : Av.cln lo k (int x.o) = true := by cases k <;> rfl
  simp [Av.cln, h.f.cln k, h.t.cln k, h.i.cln k, h.c.cln k, hi]
theorem Own1.frzk {l : List Int} {v : AV} {H : Hp} {lo hi : Nat} (h : Own1 l v H lo hi) (k : Nat) : Av.frz H (k + 1) v = some (islice l) := by
  rcases h with ⟨rfl, rfl⟩ | ⟨o, _, _, rfl, ho⟩
  · rfl
  · exact frzN_frz _ _ _ (frzN_ms ho k)
theorem OwnK.frz {x : Cat} {v : AV} {H : Hp} {lo hi : Nat} (h : OwnK x v H lo hi) (k : Nat) : Av.frz H (k + 1 + 1 + 1) v = some (.agg x.cells) := by
  obtain ⟨a, b, d, e, rfl, h⟩ := h
  show ([int x.o, a, b, d, e].mapM (Av.frz H (k + 1 + 1))).map AV.agg = _
  simp only [List.mapM_cons, List.mapM_nil, frz_int, h.f.frzk, h.t.frzk, h.i.frzk, h.c.frz k]
  rfl
theorem OwnK.frzL {x : Cat} {v : AV} {H : Hp} {lo hi : Nat} (h : OwnK x v H lo hi) (t : List AV) : frzL H (v :: t) = (Av.frzL H t).map (.agg x.cells :: ·) := by
  simp only [Av.frzL, List.mapM_cons, show Av.frz H fuel v = _ from h.frz 3]; cases List.mapM (Av.frz H fuel) t <;> rfl
theorem OwnK.one5 {x : Cat} {a b d e : AV} {H : Hp} {lo hi : Nat} (h : OwnK x (.agg [int x.o, a, b, d, e]) H lo hi) : [int x.o, a, b, d, e].all AV.one = true := by
  obtain ⟨a', b', d', e', q, h⟩ := h
  cases q
  simp only [List.all_cons, List.all_nil, h.f.one', h.t.one', h.i.one', h.c.one, Bool.and_true]
  rfl
theorem CatAt.ownK {H : Hp} {n0 : Nat} {x : Cat} (h : CatAt H n0 x) : OwnK x (catM x n0) H n0 (n0 + 4 + x.c.length) := by
  have fe : ∀ t, Ft2 (.ms (n0 + 3) 0 x.c.length 1) H t → n0 + 3 ≤ t := fun t ht => by
    obtain ⟨o, m, cells, e1, e2, e3⟩ := ht
    cases e1
    rw [h.c] at e2; cases e2
    rcases e3 with rfl | ⟨k, n, hk⟩
    · exact Nat.le_refl _
    · have hk' : k < x.c.length := by
        obtain ⟨q, _⟩ := List.getElem?_eq_some_iff.1 hk
        simpa [outerC] using q
      rw [outerC_get hk'] at hk
      cases hk; omega
  have f1 : ∀ {o n t : Nat}, Ft1 (.ms o 0 n 1) t → t = o := fun ⟨m, e⟩ => by cases e; rfl
  refine ⟨_, _, _, _, rfl, .inr ⟨n0, Nat.le_refl _, by omega, rfl, h.f⟩, .inr ⟨n0 + 1, by omega, by omega, rfl, h.t⟩, .inr ⟨n0 + 2, by omega, by omega, rfl, h.i⟩, ?_, fun o h1 h2 => ?_, fun o h1 h2 => ?_, fun o h1 h2 => ?_, fun o h1 h2 => ?_, fun o h1 h2 => ?_, fun o h1 h2 => ?_⟩
  · refine .inr ⟨n0 + 3, _, rfl, by omega, by omega, h.c, by simp [outerC], fun k a hk => ?_, fun j k x' n1 n2 hj hk => ?_⟩
    · have hk' : k < x.c.length := by
        obtain ⟨q, _⟩ := List.getElem?_eq_some_iff.1 hk
        simpa [outerC] using q
      rw [outerC_get hk'] at hk
      cases hk
      exact .inr ⟨n0 + 4 + k, rfl, by omega, by omega, by omega, h.row k hk'⟩
    · have hj' : j < x.c.length := by
        obtain ⟨q, _⟩ := List.getElem?_eq_some_iff.1 hj
        simpa [outerC] using q
      have hk' : k < x.c.length := by
        obtain ⟨q, _⟩ := List.getElem?_eq_some_iff.1 hk
        simpa [outerC] using q
      rw [outerC_get hj'] at hj
      rw [outerC_get hk'] at hk
      simp only [Option.some.injEq, AV.ms.injEq] at hj hk
      omega
  · have := f1 h1; have := f1 h2; omega
  · have := f1 h1; have := f1 h2; omega
  · have := f1 h1; have := f1 h2; omega
  · have := f1 h1; have := fe o h2; omega
  · have := f1 h1; have := fe o h2; omega
  · have := f1 h1; have := fe o h2; omega
theorem OwnK.ex (x : Cat) (nx : Nat) : ∃ v H' nx', nx ≤ nx' ∧ OwnK x v H' nx nx' := ⟨_, catH hempty nx x, nx + 4 + x.c.length, by omega, (catH_at hempty nx x).ownK⟩

/-- A category of the call's own and a second result. -/
def IsKV (x : Cat) (w : AV) (nx : Nat) (r : AV) (H' : Hp) (nx' : Nat) : Prop := ∃ r0, r = .tup [r0, w] ∧ nx ≤ nx' ∧ OwnK x r0 H' nx nx' ∧ clnH nx H'
def IsK (x : Cat) (k : Int) (nx : Nat) (r : AV) (H' : Hp) (nx' : Nat) : Prop := IsKV x (int k) nx r H' nx'
theorem IsKV.some (x : Cat) (w : AV) (nx : Nat) : ∃ u H' nx', IsKV x w nx u H' nx' := by
  obtain ⟨v, H', nx', h1, h2⟩ := OwnK.ex x nx
  exact ⟨_, keepH nx H', nx', v, rfl, h1, h2.keep, keepH_cln _ _⟩
theorem IsK.some (x : Cat) (k : Int) (nx : Nat) : ∃ u H' nx', IsK x k nx u H' nx' := IsKV.some _ _ _
theorem IsKV.own {x : Cat} {w : AV} {nx : Nat} {r : AV} {H' : Hp} {nx' : Nat} (h : IsKV x w nx r H' nx') (hw : ∀ k, Av.cln nx k w = true) (H : Hp) :
    cln nx fuel r = true ∧ clnH nx H' ∧ nx ≤ nx' ∧ ∃ r0, r = .tup [r0, w] ∧ OwnK x r0 (hmerge nx H H') nx nx' := by
  obtain ⟨r0, rfl, h0, hO, hc⟩ := h
  refine ⟨by simp [fuel, Av.cln, hO.cln, hw], hc, h0, r0, rfl, hO.mono (Nat.le_refl _) fun o h1 h2 => ?_⟩
  simp only [hmerge]; rw [if_neg (by omega)]
theorem cln_int (nx k : Nat) (n : Int) : Av.cln nx k (int n) = true := by cases k <;> rfl
theorem IsK.own {x : Cat} {k : Int} {nx : Nat} {r : AV} {H' : Hp} {nx' : Nat} (h : IsK x k nx r H' nx') (H : Hp) :
    cln nx fuel r = true ∧ clnH nx H' ∧ nx ≤ nx' ∧ ∃ r0, r = .tup [r0, int k] ∧ OwnK x r0 (hmerge nx H H') nx nx' := IsKV.own h (fun k => cln_int _ _ _) H
/-- Nothing but the category goes back. -/
theorem OwnK.back {x : Cat} {v w : AV} {H : Hp} {nx lo nx' : Nat} (h : OwnK x v H lo nx') (h1 : nx ≤ lo) (h2 : nx ≤ nx') : ∃ H', Sub H' H ∧ IsKV x w nx (.tup [v, w]) H' nx' := ⟨keepH nx H, keepH_sub _ _, v, rfl, h2, (h.weak h1).keep, keepH_cln _ _⟩


end Go.Av
