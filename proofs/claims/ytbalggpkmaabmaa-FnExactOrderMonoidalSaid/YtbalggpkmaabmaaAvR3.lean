/-
  Categories of the call's own: found, marked, found again.
-/
import Derived.Test.YtbalggpkmaabmaaAvR2
namespace Go.Av
open Classical
set_option linter.unusedSimpArgs false
set_option linter.unusedVariables false
variable {P : Program} {ν : Nat → FuncId}

theorem Ft2.same {v : AV} {H H' : Hp} {t : Nat} (hk : ∀ o m, v = .ms o 0 m 1 → H' o = H o) : Ft2 v H' t ↔ Ft2 v H t := by
  constructor
  · rintro ⟨o, m, cells, rfl, h1, h2⟩; exact ⟨o, m, cells, rfl, (hk o m rfl).symm.trans h1, h2⟩
  · rintro ⟨o, m, cells, rfl, h1, h2⟩; exact ⟨o, m, cells, rfl, (hk o m rfl).trans h1, h2⟩
theorem OwnD.self {R : List (List Int)} {v : AV} {H : Hp} {lo hi : Nat} (h : OwnD R v H lo hi) {o m : Nat} (e : v = .ms o 0 m 1) : Ft2 v H o := by
  rcases h with ⟨_, rfl⟩ | ⟨o', cells, rfl, h2, h3, h4, h5, h6, h7⟩
  · cases e
  · cases e; exact ⟨_, _, cells, rfl, h4, .inl rfl⟩
theorem OwnD.foot {R : List (List Int)} {v : AV} {H : Hp} {lo hi : Nat} (h : OwnD R v H lo hi) {t : Nat} (ht : Ft2 v H t) : lo ≤ t ∧ t < hi := by
  rcases h with ⟨_, rfl⟩ | ⟨o', cells, rfl, h2, h3, h4, h5, h6, h7⟩
  · obtain ⟨o, m, cells, e, _⟩ := ht; cases e
  · obtain ⟨o, m, cells2, e, g1, g2⟩ := ht
    cases e
    rw [h4] at g1; cases g1
    rcases g2 with rfl | ⟨k, n, hk⟩
    · exact ⟨h2, h3⟩
    · rcases h6 k _ hk with ⟨_, e⟩ | ⟨o2, e, q1, q2, _⟩
      · cases e
      · cases e; exact ⟨q1, q2⟩
/-- What does not touch a slice of slices leaves it. -/
theorem OwnD.apart {R : List (List Int)} {v : AV} {H H' : Hp} {lo hi hi' : Nat} (h : OwnD R v H lo hi) (hh : hi ≤ hi') (hk : ∀ t, Ft2 v H t → H' t = H t) : OwnD R v H' lo hi' := by
  rcases h with h | ⟨o, cells, h1, h2, h3, h4, h5, h6, h7⟩
  · exact .inl h
  · have ho := hk o ⟨o, _, cells, h1, h4, .inl rfl⟩
    refine .inr ⟨o, cells, h1, h2, by omega, ho.trans h4, h5, fun k a hk' => ?_, h7⟩
    rcases h6 k a hk' with q | ⟨o', q1, q2, q3, q4, q5⟩
    · exact .inl q
    · refine .inr ⟨o', q1, q2, by omega, q4, (hk o' ⟨o, _, cells, h1, h4, .inr ⟨k, _, by rw [hk', q1]⟩⟩).trans q5⟩
theorem OwnD.ft {R : List (List Int)} {v : AV} {H H' : Hp} {lo hi : Nat} (h : OwnD R v H lo hi) (hk : ∀ t, Ft2 v H t → H' t = H t) (t : Nat) : Ft2 v H' t ↔ Ft2 v H t := Ft2.same fun o m e => hk o (h.self e)
theorem Own1.apart {l : List Int} {v : AV} {H H' : Hp} {lo hi hi' : Nat} (h : Own1 l v H lo hi) (hh : hi ≤ hi') (hk : ∀ t, Ft1 v t → H' t = H t) : Own1 l v H' lo hi' := by
  rcases h with h | ⟨o, h1, h2, rfl, h4⟩
  · exact .inl h
  · exact .inr ⟨o, h1, by omega, rfl, (hk o ⟨_, rfl⟩).trans h4⟩

theorem Own1.one' {l : List Int} {v : AV} {H : Hp} {lo hi : Nat} (h : Own1 l v H lo hi) : v.one = true := by rcases h with ⟨_, rfl⟩ | ⟨o, _, _, rfl, _⟩ <;> rfl
/-- A category of the call's own, its parts. -/
structure OwnKC (x : Cat) (a b d e : AV) (H : Hp) (lo hi : Nat) : Prop where
  f : Own1 x.f a H lo hi
  t : Own1 x.t b H lo hi
  i : Own1 x.i d H lo hi
  c : OwnD x.c e H lo hi
  ab : ∀ o, Ft1 a o → ¬ Ft1 b o
  ad : ∀ o, Ft1 a o → ¬ Ft1 d o
  bd : ∀ o, Ft1 b o → ¬ Ft1 d o
  ae : ∀ o, Ft1 a o → ¬ Ft2 e H o
  be : ∀ o, Ft1 b o → ¬ Ft2 e H o
  de : ∀ o, Ft1 d o → ¬ Ft2 e H o
def OwnK (x : Cat) (v : AV) (H : Hp) (lo hi : Nat) : Prop := ∃ a b d e, v = .agg [int x.o, a, b, d, e] ∧ OwnKC x a b d e H lo hi
theorem OwnKC.mono {x : Cat} {a b d e : AV} {H H' : Hp} {lo hi hi' : Nat} (h : OwnKC x a b d e H lo hi) (hh : hi ≤ hi') (hH : ∀ k, lo ≤ k → k < hi → H' k = H k) : OwnKC x a b d e H' lo hi' := by
  have ft := h.c.ft (H' := H') fun t ht => hH t (h.c.foot ht).1 (h.c.foot ht).2
  exact ⟨h.f.mono hh hH, h.t.mono hh hH, h.i.mono hh hH, h.c.mono hh hH, h.ab, h.ad, h.bd, fun o ho q => h.ae o ho ((ft o).1 q), fun o ho q => h.be o ho ((ft o).1 q), fun o ho q => h.de o ho ((ft o).1 q)⟩
theorem OwnK.mono {x : Cat} {v : AV} {H H' : Hp} {lo hi hi' : Nat} (h : OwnK x v H lo hi) (hh : hi ≤ hi') (hH : ∀ k, lo ≤ k → k < hi → H' k = H k) : OwnK x v H' lo hi' := by
  obtain ⟨a, b, d, e, rfl, h⟩ := h
  exact ⟨a, b, d, e, rfl, h.mono hh hH⟩
theorem Own1.weak {l : List Int} {v : AV} {H : Hp} {lo lo' hi : Nat} (h : Own1 l v H lo hi) (hh : lo' ≤ lo) : Own1 l v H lo' hi := by
  rcases h with h | ⟨o, h1, h2, h3⟩
  · exact .inl h
  · exact .inr ⟨o, by omega, h2, h3⟩
theorem OwnD.weak' {R : List (List Int)} {v : AV} {H : Hp} {lo lo' hi : Nat} (h : OwnD R v H lo hi) (hh : lo' ≤ lo) : OwnD R v H lo' hi := by
  rcases h with h | ⟨o, cells, h1, h2, h3, h4, h5, h6, h7⟩
  · exact .inl h
  · refine .inr ⟨o, cells, h1, by omega, h3, h4, h5, fun k a hk => ?_, h7⟩
    rcases h6 k a hk with q | ⟨o', q1, q2, q3, q4, q5⟩
    · exact .inl q
    · exact .inr ⟨o', q1, by omega, q3, q4, q5⟩
theorem OwnKC.weak {x : Cat} {a b d e : AV} {H : Hp} {lo lo' hi : Nat} (h : OwnKC x a b d e H lo hi) (hh : lo' ≤ lo) : OwnKC x a b d e H lo' hi := ⟨h.f.weak hh, h.t.weak hh, h.i.weak hh, h.c.weak' hh, h.ab, h.ad, h.bd, h.ae, h.be, h.de⟩
theorem OwnK.weak {x : Cat} {v : AV} {H : Hp} {lo lo' hi : Nat} (h : OwnK x v H lo hi) (hh : lo' ≤ lo) : OwnK x v H lo' hi := by
  obtain ⟨a, b, d, e, rfl, h⟩ := h
  exact ⟨a, b, d, e, rfl, h.weak hh⟩
theorem OwnKC.keep {x : Cat} {a b d e : AV} {H : Hp} {lo hi : Nat} (h : OwnKC x a b d e H lo hi) : OwnKC x a b d e (keepH lo H) lo hi := by
  have ft : ∀ t, Ft2 e (keepH lo H) t → Ft2 e H t := fun t ht => by
    obtain ⟨o, m, cells, e1, e2, e3⟩ := ht
    exact ⟨o, m, cells, e1, keepH_sub _ _ _ _ e2, e3⟩
  exact ⟨h.f.keep, h.t.keep, h.i.keep, h.c.keep, h.ab, h.ad, h.bd, fun o ho q => h.ae o ho (ft o q), fun o ho q => h.be o ho (ft o q), fun o ho q => h.de o ho (ft o q)⟩
theorem OwnK.keep {x : Cat} {v : AV} {H : Hp} {lo hi : Nat} (h : OwnK x v H lo hi) : OwnK x v (keepH lo H) lo hi := by
  obtain ⟨a, b, d, e, rfl, h⟩ := h
  exact ⟨a, b, d, e, rfl, h.keep⟩
theorem OwnK.cln {x : Cat} {v : AV} {H : Hp} {lo hi : Nat} (h : OwnK x v H lo hi) (k : Nat) : Av.cln lo (k + 1) v = true := by
  obtain ⟨a, b, d, e, rfl, h⟩ := h
  have hi : Av.cln lo k (int x.o) = true := by cases k <;> rfl
  simp [Av.cln, h.f.cln k, h.t.cln k, h.i.cln k, h.c.cln k, hi]
theorem Own1.frzk {l : List Int} {v : AV} {H : Hp} {lo hi : Nat} (h : Own1 l v H lo hi) (k : Nat) : Av.frz H (k + 1) v = some (islice l) := by
  rcases h with ⟨rfl, rfl⟩ | ⟨o, _, _, rfl, ho⟩
  · rfl
  · exact frzN_frz _ _ _ (frzN_ms ho k)
theorem OwnK.frz {x : Cat} {v : AV} {H : Hp} {lo hi : Nat} (h : OwnK x v H lo hi) (k : Nat) : Av.frz H (k + 1 + 1 + 1) v = some (.agg x.cells) := by
  obtain ⟨a, b, d, e, rfl, h⟩ := h
  show ([int x.o, a, b, d, e].mapM (Av.frz H (k + 1 + 1))).map AV.agg = _
  simp only [List.mapM_cons, List.mapM_nil, frz_int, h.f.frzk, h.t.frzk, h.i.frzk, h.c.frz k]
  rfl
theorem OwnK.frzL {x : Cat} {v : AV} {H : Hp} {lo hi : Nat} (h : OwnK x v H lo hi) (t : List AV) : frzL H (v :: t) = (Av.frzL H t).map (.agg x.cells :: ·) := by
  simp only [Av.frzL, List.mapM_cons, show Av.frz H fuel v = _ from h.frz 3]; cases List.mapM (Av.frz H fuel) t <;> rfl
theorem OwnK.one5 {x : Cat} {a b d e : AV} {H : Hp} {lo hi : Nat} (h : OwnK x (.agg [int x.o, a, b, d, e]) H lo hi) : [int x.o, a, b, d, e].all AV.one = true := by
  obtain ⟨a', b', d', e', q, h⟩ := h
  cases q
  simp only [List.all_cons, List.all_nil, h.f.one', h.t.one', h.i.one', h.c.one, Bool.and_true]
  rfl
theorem CatAt.ownK {H : Hp} {n0 : Nat} {x : Cat} (h : CatAt H n0 x) : OwnK x (catM x n0) H n0 (n0 + 4 + x.c.length) := by
  have fe : ∀ t, Ft2 (.ms (n0 + 3) 0 x.c.length 1) H t → n0 + 3 ≤ t := fun t ht => by
    obtain ⟨o, m, cells, e1, e2, e3⟩ := ht
    cases e1
    rw [h.c] at e2; cases e2
    rcases e3 with rfl | ⟨k, n, hk⟩
    · exact Nat.le_refl _
    · have hk' : k < x.c.length := by
        obtain ⟨q, _⟩ := List.getElem?_eq_some_iff.1 hk
        simpa [outerC] using q
      rw [outerC_get hk'] at hk
      cases hk; omega
  have f1 : ∀ {o n t : Nat}, Ft1 (.ms o 0 n 1) t → t = o := fun ⟨m, e⟩ => by cases e; rfl
  refine ⟨_, _, _, _, rfl, .inr ⟨n0, Nat.le_refl _, by omega, rfl, h.f⟩, .inr ⟨n0 + 1, by omega, by omega, rfl, h.t⟩, .inr ⟨n0 + 2, by omega, by omega, rfl, h.i⟩, ?_, fun o h1 h2 => ?_, fun o h1 h2 => ?_, fun o h1 h2 => ?_, fun o h1 h2 => ?_, fun o h1 h2 => ?_, fun o h1 h2 => ?_⟩
  · refine .inr ⟨n0 + 3, _, rfl, by omega, by omega, h.c, by simp [outerC], fun k a hk => ?_, fun j k x' n1 n2 hj hk => ?_⟩
    · have hk' : k < x.c.length := by
        obtain ⟨q, _⟩ := List.getElem?_eq_some_iff.1 hk
        simpa [outerC] using q
      rw [outerC_get hk'] at hk
      cases hk
      exact .inr ⟨n0 + 4 + k, rfl, by omega, by omega, by omega, h.row k hk'⟩
    · have hj' : j < x.c.length := by
        obtain ⟨q, _⟩ := List.getElem?_eq_some_iff.1 hj
        simpa [outerC] using q
      have hk' : k < x.c.length := by
        obtain ⟨q, _⟩ := List.getElem?_eq_some_iff.1 hk
        simpa [outerC] using q
      rw [outerC_get hj'] at hj
      rw [outerC_get hk'] at hk
      simp only [Option.some.injEq, AV.ms.injEq] at hj hk
      omega
  · have := f1 h1; have := f1 h2; omega
  · have := f1 h1; have := f1 h2; omega
  · have := f1 h1; have := f1 h2; omega
  · have := f1 h1; have := fe o h2; omega
  · have := f1 h1; have := fe o h2; omega
  · have := f1 h1; have := fe o h2; omega
theorem OwnK.ex (x : Cat) (nx : Nat) : ∃ v H' nx', nx ≤ nx' ∧ OwnK x v H' nx nx' := ⟨_, catH hempty nx x, nx + 4 + x.c.length, by omega, (catH_at hempty nx x).ownK⟩

/-- A category of the call's own and a second result. -/
def IsKV (x : Cat) (w : AV) (nx : Nat) (r : AV) (H' : Hp) (nx' : Nat) : Prop := ∃ r0, r = .tup [r0, w] ∧ nx ≤ nx' ∧ OwnK x r0 H' nx nx' ∧ clnH nx H'
def IsK (x : Cat) (k : Int) (nx : Nat) (r : AV) (H' : Hp) (nx' : Nat) : Prop := IsKV x (int k) nx r H' nx'
theorem IsKV.some (x : Cat) (w : AV) (nx : Nat) : ∃ u H' nx', IsKV x w nx u H' nx' := by
  obtain ⟨v, H', nx', h1, h2⟩ := OwnK.ex x nx
  exact ⟨_, keepH nx H', nx', v, rfl, h1, h2.keep, keepH_cln _ _⟩
theorem IsK.some (x : Cat) (k : Int) (nx : Nat) : ∃ u H' nx', IsK x k nx u H' nx' := IsKV.some _ _ _
theorem IsKV.own {x : Cat} {w : AV} {nx : Nat} {r : AV} {H' : Hp} {nx' : Nat} (h : IsKV x w nx r H' nx') (hw : ∀ k, Av.cln nx k w = true) (H : Hp) :
    cln nx fuel r = true ∧ clnH nx H' ∧ nx ≤ nx' ∧ ∃ r0, r = .tup [r0, w] ∧ OwnK x r0 (hmerge nx H H') nx nx' := by
  obtain ⟨r0, rfl, h0, hO, hc⟩ := h
  refine ⟨by simp [fuel, Av.cln, hO.cln, hw], hc, h0, r0, rfl, hO.mono (Nat.le_refl _) fun o h1 h2 => ?_⟩
  simp only [hmerge]; rw [if_neg (by omega)]
theorem cln_int (nx k : Nat) (n : Int) : Av.cln nx k (int n) = true := by cases k <;> rfl
theorem IsK.own {x : Cat} {k : Int} {nx : Nat} {r : AV} {H' : Hp} {nx' : Nat} (h : IsK x k nx r H' nx') (H : Hp) :
    cln nx fuel r = true ∧ clnH nx H' ∧ nx ≤ nx' ∧ ∃ r0, r = .tup [r0, int k] ∧ OwnK x r0 (hmerge nx H H') nx nx' := IsKV.own h (fun k => cln_int _ _ _) H
/-- Nothing but the category goes back. -/
theorem OwnK.back {x : Cat} {v w : AV} {H : Hp} {nx lo nx' : Nat} (h : OwnK x v H lo nx') (h1 : nx ≤ lo) (h2 : nx ≤ nx') : ∃ H', Sub H' H ∧ IsKV x w nx (.tup [v, w]) H' nx' := ⟨keepH nx H, keepH_sub _ _, v, rfl, h2, (h.weak h1).keep, keepH_cln _ _⟩

/-- Marks. -/
def totC (x : Cat) : Nat := x.f.length + x.t.length + x.i.length + tot x.c
def seqC (k : Int) (x : Cat) : Cat := ⟨x.o, seqI k x.f.length, seqI (k + x.f.length) x.t.length, seqI (k + x.f.length + x.t.length) x.i.length, seqR (k + x.f.length + x.t.length + x.i.length) x.c⟩
theorem totC_le {x : Cat} (b : Small2 x) : totC x ≤ 1099514773504 := by
  have b1 := b.f
  have b2 := b.t
  have b3 := b.i
  have b4 := b.c
  have := tot_le (R := x.c) b.row
  have : x.c.length * 1048576 ≤ 1048576 * 1048576 := Nat.mul_le_mul_right _ b4
  unfold totC
  omega
theorem markF {l : List Int} {r0 : AV} {M : Hp} {lo hi nx : Nat} {k : Int} (hm : Has P ν 10 2 V_laws_markInt64S) (ho : Own1 l r0 M lo hi) (k0 : 0 ≤ k) (kl : k ≤ 2305843009213693952) (hl : l.length ≤ 2305843009213693952) :
    OkM P ν 10 [r0, int k] M nx (fun r H' nx' => r = int (k + l.length) ∧ nx' = nx ∧ Own1 (seqI k l.length) r0 H' lo hi ∧ ∀ o, ¬ Ft1 r0 o → H' o = M o) := by
  rcases ho with ⟨rfl, rfl⟩ | ⟨o, h1, h2, rfl, ho⟩
  · refine (markI_nil hm k M nx).mono ?_
    rintro r H' nx' ⟨rfl, rfl, rfl⟩
    exact ⟨by simp, rfl, .inl ⟨rfl, rfl⟩, fun _ _ => rfl⟩
  · refine (markI_ms hm l k o M nx ho k0 kl hl).mono ?_
    rintro r H' nx' ⟨rfl, rfl, rfl⟩
    exact ⟨rfl, rfl, .inr ⟨o, h1, h2, by rw [seqI_len], hput_eq _ _ _⟩, fun t ht => hput_ne _ _ _ _ fun e => ht ⟨l.length, by rw [e]⟩⟩
theorem markF_some {l : List Int} {r0 : AV} {M : Hp} {lo hi : Nat} (ho : Own1 l r0 M lo hi) (k : Int) (nx : Nat) : ∃ (r : AV) (H' : Hp) (nx' : Nat), r = int (k + l.length) ∧ nx' = nx ∧ Own1 (seqI k l.length) r0 H' lo hi ∧ ∀ o, ¬ Ft1 r0 o → H' o = M o := by
  rcases ho with ⟨rfl, rfl⟩ | ⟨o, h1, h2, rfl, ho⟩
  · exact ⟨_, M, nx, rfl, rfl, .inl ⟨rfl, rfl⟩, fun _ _ => rfl⟩
  · exact ⟨_, hput M o (some (ints (seqI k l.length))), nx, rfl, rfl, .inr ⟨o, h1, h2, by rw [seqI_len], hput_eq _ _ _⟩, fun t ht => hput_ne _ _ _ _ fun e => ht ⟨l.length, by rw [e]⟩⟩
theorem markK_own (M : HMark P ν) (x : Cat) (b : Small2 x) (k : Int) (r0 : AV) (H : Hp) (lo hi nx : Nat) (ho : OwnK x r0 H lo hi) (hl : lo ≤ nx) (hn : hi ≤ nx) (k0 : 0 ≤ k) (kl : k ≤ 4398046511104) :
    OkM P ν 9 [r0, int k] H nx (fun r H' nx' => r = int (k + totC x) ∧ nx ≤ nx' ∧ OwnK (seqC k x) r0 H' lo hi ∧ ∀ o, o < lo ∨ hi ≤ o → o < nx → H' o = H o) := by
  obtain ⟨a, b', d, e, rfl, h⟩ := ho
  refine M.mC _ _ _ _ rfl fun hwf => ?_
  unfold V_laws_markCategory
  have b1 := b.f
  have b2 := b.t
  have b3 := b.i
  have b4 := b.c
  have tt := tot_le (R := x.c) b.row
  have tt2 : x.c.length * 1048576 ≤ 1048576 * 1048576 := Nat.mul_le_mul_right _ b4
  -- all that the category holds lies below hi
  have lt1 : ∀ {l : List Int} {v : AV} {t : Nat}, Own1 l v H lo hi → Ft1 v t → lo ≤ t ∧ t < hi := fun q ⟨n, e⟩ => by
    rcases q with ⟨_, q⟩ | ⟨o, q1, q2, q3, _⟩
    · rw [q] at e; cases e
    · rw [q3] at e; cases e; exact ⟨q1, q2⟩
  refine den_boxm (by
    show ([int x.o, a, b', d, e].all AV.one) = true
    simp only [List.all_cons, List.all_nil, h.f.one', h.t.one', h.i.one', h.c.one, Bool.and_true]
    rfl) ?_
  refine den_fget (o := nx) (m := 5) rfl (hput_eq _ _ _) rfl rfl ?_
  generalize hH1 : hput H nx (some (ev (env0 [.agg [int x.o, a, b', d, e], int k]) (.t 0)).cells) = H1
  have x1 : H1 nx = some [int x.o, a, b', d, e] := by rw [← hH1]; exact hput_eq _ _ _
  have y1 : ∀ o, o < nx → H1 o = H o := fun o ho => by rw [← hH1]; exact hput_ne _ _ _ _ (by omega)
  have h1 : OwnKC x a b' d e H1 lo hi := h.mono (Nat.le_refl _) fun o _ ho => y1 o (by omega)
  refine den_callm (fc := (10, [])) rfl (markF M.mI h1.f k0 (by omega) (by omega)) (markF_some h1.f _ _) fun u H2 n2 hu => ?_
  obtain ⟨rfl, rfl, f2, y2⟩ := hu
  have n2x : ∀ {l : List Int} {v : AV}, Own1 l v H lo hi → ¬ Ft1 v nx := fun q ht => by have := (lt1 q ht).2; omega
  have x2 := (y2 nx (n2x h.f)).trans x1
  refine den_fget (o := nx) (m := 5) rfl x2 rfl rfl ?_
  have t2 := h1.t.apart (H' := H2) (Nat.le_refl _) fun o ho => y2 o fun q => h1.ab o q ho
  refine den_callm (fc := (10, [])) rfl (markF M.mI t2 (by omega) (by omega) (by omega)) (markF_some t2 _ _) fun u H3 n3 hu => ?_
  obtain ⟨rfl, rfl, f3, y3⟩ := hu
  have x3 := (y3 nx (n2x h.t)).trans x2
  refine den_fget (o := nx) (m := 5) rfl x3 rfl rfl ?_
  have i3 := h1.i.apart (H' := H3) (Nat.le_refl _) fun o ho => by rw [y3 o fun q => h1.bd o q ho, y2 o fun q => h1.ad o q ho]
  refine den_callm (fc := (10, [])) rfl (markF M.mI i3 (by omega) (by omega) (by omega)) (markF_some i3 _ _) fun u H4 n4 hu => ?_
  obtain ⟨rfl, rfl, f4, y4⟩ := hu
  have x4 := (y4 nx (n2x h.i)).trans x3
  refine den_fget (o := nx) (m := 5) rfl x4 rfl rfl ?_
  have kp : ∀ t, Ft2 e H1 t → H4 t = H1 t := fun t ht => by rw [y4 t fun q => h1.de t q ht, y3 t fun q => h1.be t q ht, y2 t fun q => h1.ae t q ht]
  have c4 := h1.c.apart (H' := H4) (Nat.le_refl _) kp
  have ft4 := h1.c.ft kp
  refine den_callm (fc := (21, [])) rfl (markII_fr M.mI M.mII x.c _ _ _ _ _ _ c4 (by omega) (by omega) b4 b.row (by omega)) (c4.markedF _ _) fun u H5 n5 hu => ?_
  obtain ⟨rfl, rfl, f5, y5⟩ := hu
  have y5' : ∀ t, ¬ Ft2 e H1 t → H5 t = H4 t := fun t ht => y5 t fun ⟨o, m, cells, j, n, e1, e2, e3⟩ => ht ((ft4 t).1 ⟨o, m, cells, e1, e2, .inr ⟨j, n, e3⟩⟩)
  have same5 : ∀ t, Ft2 e H5 t ↔ Ft2 e H1 t := fun t => (Ft2.same fun o m eo => y5 o fun ⟨o', m', cells, j, n, e1, e2, e3⟩ => by
    rcases c4 with ⟨_, q⟩ | ⟨o2, cells2, q1, q2, q3, q4, q5, q6, q7⟩
    · rw [q] at e1; cases e1
    · rw [q1] at e1 eo
      cases e1; cases eo
      rw [q4] at e2; cases e2
      rcases q6 j _ e3 with ⟨_, q⟩ | ⟨o3, q, _, _, q8, _⟩
      · cases q
      · cases q; exact q8 rfl).trans (ft4 t)
  refine ⟨_, rfl, H5, fun _ _ h => h, ?_, by omega, ⟨a, b', d, e, rfl, ?_⟩, fun o ho hon => ?_⟩
  · show int _ = int _
    congr 1
    unfold totC
    push_cast
    omega
  · refine ⟨f2.apart (Nat.le_refl _) fun t ht => by rw [y5' t (h1.ae t ht), y4 t (h1.ad t ht), y3 t (h1.ab t ht)], f3.apart (Nat.le_refl _) fun t ht => by rw [y5' t (h1.be t ht), y4 t (h1.bd t ht)], f4.apart (Nat.le_refl _) fun t ht => y5' t (h1.de t ht), f5, h1.ab, h1.ad, h1.bd, fun t q1 q2 => h1.ae t q1 ((same5 t).1 q2), fun t q1 q2 => h1.be t q1 ((same5 t).1 q2), fun t q1 q2 => h1.de t q1 ((same5 t).1 q2)⟩
  · have no1 : ∀ {l : List Int} {v : AV}, Own1 l v H lo hi → ¬ Ft1 v o := fun q ht => by have := lt1 q ht; omega
    have no2 : ¬ Ft2 e H1 o := fun ht => by have := h1.c.foot ht; omega
    rw [y5' o no2, y4 o (no1 h.i), y3 o (no1 h.t), y2 o (no1 h.f)]
    exact y1 o (by omega)
theorem OwnK.marked {x : Cat} {r : AV} {M : Hp} {lo hi : Nat} (h : OwnK x r M lo hi) (k : Int) (nx : Nat) : ∃ u H' nx', u = int (k + totC x) ∧ nx ≤ nx' ∧ OwnK (seqC k x) r H' lo hi ∧ ∀ o, o < lo ∨ hi ≤ o → o < nx → H' o = M o := by
  obtain ⟨a, b', d, e, rfl, h1⟩ := h
  obtain ⟨_, H2, _, _, _, f2, y2⟩ := markF_some h1.f k nx
  have t2 := h1.t.apart (H' := H2) (Nat.le_refl _) fun o ho => y2 o fun q => h1.ab o q ho
  obtain ⟨_, H3, _, _, _, f3, y3⟩ := markF_some t2 (k + x.f.length) nx
  have i3 := h1.i.apart (H' := H3) (Nat.le_refl _) fun o ho => by rw [y3 o fun q => h1.bd o q ho, y2 o fun q => h1.ad o q ho]
  obtain ⟨_, H4, _, _, _, f4, y4⟩ := markF_some i3 (k + x.f.length + x.t.length) nx
  have kp : ∀ t, Ft2 e M t → H4 t = M t := fun t ht => by rw [y4 t fun q => h1.de t q ht, y3 t fun q => h1.be t q ht, y2 t fun q => h1.ae t q ht]
  have c4 := h1.c.apart (H' := H4) (Nat.le_refl _) kp
  have ft4 := h1.c.ft kp
  obtain ⟨_, H5, _, _, _, f5, y5⟩ := c4.markedF (k + x.f.length + x.t.length + x.i.length) nx
  have y5' : ∀ t, ¬ Ft2 e M t → H5 t = H4 t := fun t ht => y5 t fun ⟨o, m, cells, j, n, e1, e2, e3⟩ => ht ((ft4 t).1 ⟨o, m, cells, e1, e2, .inr ⟨j, n, e3⟩⟩)
  have same5 : ∀ t, Ft2 e H5 t ↔ Ft2 e M t := fun t => (Ft2.same fun o m eo => y5 o fun ⟨o', m', cells, j, n, e1, e2, e3⟩ => by
    rcases c4 with ⟨_, q⟩ | ⟨o2, cells2, q1, q2, q3, q4, q5, q6, q7⟩
    · rw [q] at e1; cases e1
    · rw [q1] at e1 eo
      cases e1; cases eo
      rw [q4] at e2; cases e2
      rcases q6 j _ e3 with ⟨_, q⟩ | ⟨o3, q, _, _, q8, _⟩
      · cases q
      · cases q; exact q8 rfl).trans (ft4 t)
  have lt1 : ∀ {l : List Int} {v : AV} {t : Nat}, Own1 l v M lo hi → Ft1 v t → lo ≤ t ∧ t < hi := fun q ⟨n, e⟩ => by
    rcases q with ⟨_, q⟩ | ⟨o, q1, q2, q3, _⟩
    · rw [q] at e; cases e
    · rw [q3] at e; cases e; exact ⟨q1, q2⟩
  refine ⟨_, H5, nx, rfl, Nat.le_refl _, ⟨a, b', d, e, rfl, ?_⟩, fun o ho _ => ?_⟩
  · refine ⟨f2.apart (Nat.le_refl _) fun t ht => by rw [y5' t (h1.ae t ht), y4 t (h1.ad t ht), y3 t (h1.ab t ht)], f3.apart (Nat.le_refl _) fun t ht => by rw [y5' t (h1.be t ht), y4 t (h1.bd t ht)], f4.apart (Nat.le_refl _) fun t ht => y5' t (h1.de t ht), f5, h1.ab, h1.ad, h1.bd, fun t q1 q2 => h1.ae t q1 ((same5 t).1 q2), fun t q1 q2 => h1.be t q1 ((same5 t).1 q2), fun t q1 q2 => h1.de t q1 ((same5 t).1 q2)⟩
  · have no1 : ∀ {l : List Int} {v : AV}, Own1 l v M lo hi → ¬ Ft1 v o := fun q ht => by have := lt1 q ht; omega
    have no2 : ¬ Ft2 e M o := fun ht => by have := h1.c.foot ht; omega
    rw [y5' o no2, y4 o (no1 h1.i), y3 o (no1 h1.t), y2 o (no1 h1.f)]

def V_laws_heldCategory : Vc :=
  .op true (.p .box [.t 0]) <|
  .op true (.p (.fad 1) [.t 2]) <|
  .op true (.p (.ld none) [.t 3]) <|
  .op true (.call (.f 11) [.t 4, .t 1]) <|
  .op true (.p (.bin .lss) [.t 5, .c (int 0)]) <|
  .br 6
   (.ret [(.c (int (-1)), none)])
   (.op true (.p (.fad 2) [.t 2]) <|
   .op true (.p (.ld none) [.t 7]) <|
   .op true (.call (.f 11) [.t 8, .t 5]) <|
   .op true (.p (.bin .lss) [.t 9, .c (int 0)]) <|
   .br 10
    (.ret [(.c (int (-1)), none)])
    (.op true (.p (.fad 3) [.t 2]) <|
    .op true (.p (.ld none) [.t 11]) <|
    .op true (.call (.f 11) [.t 12, .t 9]) <|
    .op true (.p (.bin .lss) [.t 13, .c (int 0)]) <|
    .br 14
     (.ret [(.c (int (-1)), none)])
     (.op true (.p (.fad 4) [.t 2]) <|
     .op true (.p (.ld none) [.t 15]) <|
     .op true (.call (.f 150) [.t 16, .t 13]) <|
     .op true (.p (.bin .lss) [.t 17, .c (int 0)]) <|
     .br 18
      (.ret [(.c (int (-1)), none)])
      (.ret [(.t 17, none)]))))
set_option maxHeartbeats 1000000 in
theorem heldK_ok (h1 : Has P ν 11 2 V_laws_heldInt64S) (h2 : Has P ν 150 2 V_laws_heldInt64SS) (h : Has P ν 111 2 V_laws_heldCategory) (x : Cat) (b : Small2 x) (k : Int) (k0 : 0 ≤ k) (kl : k ≤ 4398046511104) : Fn P ν 111 [.agg (seqC k x).cells, int k] (int (k + totC x)) := by
  intro H nx
  refine h _ _ _ _ rfl fun hwf => ?_
  unfold V_laws_heldCategory
  have b1 := b.f
  have b2 := b.t
  have b3 := b.i
  have b4 := b.c
  have tt := tot_le (R := x.c) b.row
  have tt2 : x.c.length * 1048576 ≤ 1048576 * 1048576 := Nat.mul_le_mul_right _ b4
  have a1 := (heldI_ok h1 k x.f.length k0 (by omega) (by omega)).fzi
  have a2 := (heldI_ok h1 (k + x.f.length) x.t.length (by omega) (by omega) (by omega)).fzi
  have a3 := (heldI_ok h1 (k + x.f.length + x.t.length) x.i.length (by omega) (by omega) (by omega)).fzi
  have a4 := (heldII_ok h1 h2 x.c (k + x.f.length + x.t.length + x.i.length) (by omega) (by omega) b4 b.row (by omega)).fzi
  have c1 : (seqC k x).cells[1]? = some (islice (seqI k x.f.length)) := rfl
  have c2 : (seqC k x).cells[2]? = some (islice (seqI (k + x.f.length) x.t.length)) := rfl
  have c3 : (seqC k x).cells[3]? = some (islice (seqI (k + x.f.length + x.t.length) x.i.length)) := rfl
  have c4 : (seqC k x).cells[4]? = some (.sl (rows (seqR (k + x.f.length + x.t.length + x.i.length) x.c)) x.c.length) := by
    show some (AV.sl (rows (seqR _ x.c)) (seqR _ x.c).length) = _
    rw [seqR_len]
  have k1 : ¬ k + (x.f.length : Int) < 0 := by omega
  have k2 : ¬ k + (x.f.length : Int) + x.t.length < 0 := by omega
  have k3 : ¬ k + (x.f.length : Int) + x.t.length + x.i.length < 0 := by omega
  have k4 : ¬ k + (x.f.length : Int) + x.t.length + x.i.length + (tot x.c : Int) < 0 := by omega
  simp only [SS, Nat.reduceEqDiff, Nat.reduceAdd, iput, puts, p_boxc, c1]
  refine den_call (fc := (11, [])) rfl (by first | (simp only [SS, Nat.reduceEqDiff, Nat.reduceAdd, iput, puts, FF, frzL_cat]; done) | (simp only [SS, Nat.reduceEqDiff, Nat.reduceAdd, iput, puts, FF, frzL_cat]; rfl)) (a1) ?_
  simp only [SS, Nat.reduceEqDiff, Nat.reduceAdd, iput, puts, k1, c2]
  refine den_call (fc := (11, [])) rfl (by first | (simp only [SS, Nat.reduceEqDiff, Nat.reduceAdd, iput, puts, FF, frzL_cat]; done) | (simp only [SS, Nat.reduceEqDiff, Nat.reduceAdd, iput, puts, FF, frzL_cat]; rfl)) (a2) ?_
  simp only [SS, Nat.reduceEqDiff, Nat.reduceAdd, iput, puts, k2, c3]
  refine den_call (fc := (11, [])) rfl (by first | (simp only [SS, Nat.reduceEqDiff, Nat.reduceAdd, iput, puts, FF, frzL_cat]; done) | (simp only [SS, Nat.reduceEqDiff, Nat.reduceAdd, iput, puts, FF, frzL_cat]; rfl)) (a3) ?_
  simp only [SS, Nat.reduceEqDiff, Nat.reduceAdd, iput, puts, k3, c4]
  refine den_call (fc := (150, [])) rfl (by first | (simp only [SS, Nat.reduceEqDiff, Nat.reduceAdd, iput, puts, FF, frzL_cat]; done) | (simp only [SS, Nat.reduceEqDiff, Nat.reduceAdd, iput, puts, FF, frzL_cat]; rfl)) (a4) ?_
  simp only [SS, Nat.reduceEqDiff, Nat.reduceAdd, iput, puts, k4]
  refine ⟨_, rfl, H, fun _ _ h => h, ?_, rfl, Nat.le_refl _⟩
  show int _ = int _
  congr 1
  unfold totC
  push_cast
  omega
end Go.Av
