/-
  The category of a preorder: what the reference keeps while it numbers the pairs.
-/
import Derived.Test.YtbalggpkmaabmaaAvW4
import Derived.Test.YtbalggpkmaabmaaAvY3
namespace Go.Av
open Classical
set_option linter.unusedSimpArgs false
set_option linter.unusedVariables false
variable {P : Program} {ν : Nat → FuncId}

section
variable {C : Ct} {Φ : AV → Hp → Nat → Prop} {n : Nat} {vars : Nat → AV} {H : Hp} {nx : Nat} {Is : Nat → Inv} {r : Vc}
variable {q : Nat} {ob : Int} {F T I : List Int} {R : List (List Int)} {a b d e : AV} {s1 s2 s3 : Option Nat} {lo hi : Nat}
/-- A row appended to the table. -/
theorem den_outK {x w : Opd} {dq n1 n2 : Nat} {l : List Int} (h : Out3 q ob F T I R a b d e s1 s2 s3 H lo hi) (hx : ev vars x = e) (hxv : ∀ u, ev (put vars n u) x = ev vars x) (hq : vars dq = .mp q 0 5) (hqn : dq < n) (e1 : n1 = n + 2) (e2 : n + 1 = n2) (hR : R.length ≤ 1048576) (hn : hi ≤ nx)
    (hw : Own1 l (ev vars w) H hi nx)
    (hk : ∀ v2 H2 nx2, Out3 q ob F T I (R ++ [l]) a b d v2 s1 s2 s3 H2 lo nx2 → nx ≤ nx2 → (∀ t, t < nx → t ≠ q → ¬ Ft2 e H t → H2 t = H t) → (∀ t, Ft2 v2 H2 t → Ft2 e H t ∨ Ft1 (ev vars w) t ∨ nx ≤ t) → den C Φ r (n + 4) (put (put (put (put vars n (.ms nx 0 1 1)) (n + 1) v2) (n + 2) (.mp q 4 5)) (n + 3) (.v undef)) H2 nx2 Is) :
    den C Φ (.op true (.mslm 1 1 [.nil] [(0, 1)] [w]) (.op true (.app 1 x (.t n)) (.op true (.p (.fad 4) [.t dq]) (.op true (.st 1 (.t n1) (.t n2)) r)))) n vars H nx Is := by
  subst e1; subst e2
  have hqh := h.qh
  have hql := h.ql
  have ht := h.tab
  rw [← hx] at ht
  refine den_rowF ht hn hxv (by omega) hR hw fun v2 H2 nx2 hO hnx low keep ftO' => ?_
  -- the outer object is none of the slices, nor the struct
  have kp : ∀ t, t < nx → ¬ Ft2 e H t → H2 t = H t := fun t h1 h2 => keep t h1 fun ee => h2 (by rw [hx] at ee; exact h.tab.self ee)
  have fq : ¬ Ft2 e H q := fun hh => (h.ft q hh).1 rfl
  have obj2 := (kp q (by omega) fq).trans h.obj
  have dqn : dq ≠ n := by omega
  have dqn2 : dq ≠ n + 1 := by omega
  rw [den_p]
  simp only [if_true, List.map_cons, List.map_nil, ev_t]
  rw [show put (put vars n (.ms nx 0 1 1)) (n + 1) v2 dq = .mp q 0 5 from by simp only [put]; rw [if_neg dqn2, if_neg dqn]; exact hq, p_fadm (l := 5) obj2 rfl]
  simp only [Nat.zero_add, denS_some]
  refine den_st1G (o := q) (p := 4) (m := 5) (c := [int ob, a, b, d, e]) (u := v2) (by rw [ev_t, put_eq]) (by rw [ev_t]; simp only [put]; rw [if_neg (by omega), if_pos trivial]) obj2 rfl (by omega) hO.one fun H3 y3 e3 => ?_
  -- the table's objects: old ones, the row, or new ones
  have ftO : ∀ t, Ft2 v2 H2 t → Ft2 e H t ∨ Ft1 (ev vars w) t ∨ nx ≤ t := fun t hh => by have := ftO' t hh; rwa [hx] at this
  have n1 : ∀ (s : Option Nat), (∀ t, Ft2 e H t → s ≠ some t) → (∀ o, s = some o → lo ≤ o ∧ o < hi ∧ o ≠ q) → ∀ t, Ft2 v2 H2 t → s ≠ some t := fun s g1 g2 t hh ee => by
    rcases ftO t hh with q1 | ⟨m, q1⟩ | q1
    · exact g1 t q1 ee
    · have := g2 t ee
      rcases hw with ⟨_, e9⟩ | ⟨o', p1, p2, p3, _⟩
      · rw [e9] at q1; cases q1
      · rw [p3] at q1; cases q1; omega
    · have := g2 t ee; omega
  have nq : ∀ t, Ft2 v2 H2 t → t ≠ q := fun t hh ee => by
    rcases ftO t hh with q1 | ⟨m, q1⟩ | q1
    · exact (h.ft t q1).1 ee
    · rcases hw with ⟨_, e9⟩ | ⟨o', p1, p2, p3, _⟩
      · rw [e9] at q1; cases q1
      · rw [p3] at q1; cases q1; omega
    · omega
  have kf : ∀ t, Ft2 v2 H2 t → H3 t = H2 t := fun t hh => e3 t (nq t hh)
  have ft3 := hO.ft kf
  have gk : ∀ (s : Option Nat) (L : List Int) (v : AV), Gr s L v H → (∀ t, Ft2 e H t → s ≠ some t) → (∀ o, s = some o → lo ≤ o ∧ o < hi ∧ o ≠ q) → Gr s L v H3 := fun s L v g g1 g2 => g.kept fun o ho => by rw [e3 o (g2 o ho).2.2, kp o (by have := g2 o ho; omega) fun hh => g1 o hh ho]
  refine hk v2 H3 nx2 ⟨by rw [y3]; rfl, h.ql, by omega, gk _ _ _ h.g1 (fun t hh => (h.ft t hh).2.1) h.r1, gk _ _ _ h.g2 (fun t hh => (h.ft t hh).2.2.1) h.r2, gk _ _ _ h.g3 (fun t hh => (h.ft t hh).2.2.2) h.r3, fun o ho => by have := h.r1 o ho; exact ⟨this.1, by omega, this.2.2⟩, fun o ho => by have := h.r2 o ho; exact ⟨this.1, by omega, this.2.2⟩, fun o ho => by have := h.r3 o ho; exact ⟨this.1, by omega, this.2.2⟩, h.n12, h.n13, h.n23, hO.apart (Nat.le_refl _) kf, fun t hh => ⟨nq t ((ft3 t).1 hh), n1 _ (fun t hh => (h.ft t hh).2.1) h.r1 t ((ft3 t).1 hh), n1 _ (fun t hh => (h.ft t hh).2.2.1) h.r2 t ((ft3 t).1 hh), n1 _ (fun t hh => (h.ft t hh).2.2.2) h.r3 t ((ft3 t).1 hh)⟩⟩ hnx (fun t h1 h2 h3 => by rw [e3 t h2, kp t h1 h3]) fun t hh => ftO t ((ft3 t).1 hh)
end
/-- The memory while a row of numbers grows beside the arrows. -/
structure NbS (ob : Int) (F T : List Int) (N : List (List Int)) (row : List Int) (vn vr va vb : AV) (sr s1 s2 : Option Nat) (mid : Nat) (H : Hp) (hi : Nat) : Prop where
  out : Out3 1 ob F T [] [] va vb .nil .nil s1 s2 none H 1 hi
  tab : OwnD N vn H 2 mid
  row : Gr sr row vr H
  m2 : 2 ≤ mid
  mh : mid ≤ hi
  rr : ∀ o, sr = some o → mid ≤ o ∧ o < hi ∧ s1 ≠ some o ∧ s2 ≠ some o
  f : ∀ t, Ft2 vn H t → s1 ≠ some t ∧ s2 ≠ some t
  res : H 0 = some [int 0, .nil, .nil, .nil, .nil]
section
variable {ob : Int} {F T : List Int} {N : List (List Int)} {row : List Int} {vn vr va vb : AV} {sr s1 s2 : Option Nat} {mid : Nat} {H : Hp} {hi : Nat}
theorem NbS.app (h : NbS ob F T N row vn vr va vb sr s1 s2 mid H hi) {row' : List Int} {v2 : AV} {H2 : Hp} {nx2 : Nat} (hG : Gr (some (sr.getD hi)) row' v2 H2) (e2 : ∀ j, j ≠ sr.getD hi → H2 j = H j) (hn : nx2 = (if sr.isSome then hi else hi + 1)) :
    NbS ob F T N row' vn v2 va vb (some (sr.getD hi)) s1 s2 mid H2 nx2 := by
  have m2 := h.m2
  have mh := h.mh
  have t1 : mid ≤ sr.getD hi ∧ (sr.getD hi = hi ∨ sr = some (sr.getD hi)) := by
    cases hs : sr with
    | none => simp; omega
    | some o => have := h.rr o hs; simp; omega
  have hle : hi ≤ nx2 := by rw [hn]; split <;> omega
  have hlt : sr.getD hi < nx2 := by
    cases hs : sr with
    | none => rw [hs] at hn; simp at hn; simp; omega
    | some o => have := h.rr o hs; simp; omega
  have n1 : ∀ o, s1 = some o → o ≠ sr.getD hi := fun o ho e => by
    rcases t1.2 with q | q
    · have := h.out.r1 o ho; omega
    · exact (h.rr _ q).2.2.1 (by rw [← e]; exact ho)
  have n2 : ∀ o, s2 = some o → o ≠ sr.getD hi := fun o ho e => by
    rcases t1.2 with q | q
    · have := h.out.r2 o ho; omega
    · exact (h.rr _ q).2.2.2 (by rw [← e]; exact ho)
  have kt : ∀ t, Ft2 vn H t → H2 t = H t := fun t ht => e2 t (by have := h.tab.foot ht; omega)
  have ft := h.tab.ft kt
  refine ⟨h.out.apart hle fun t ht => ?_, h.tab.apart (Nat.le_refl _) kt, hG, m2, by omega, fun o ho => ?_, fun t ht => h.f t ((ft t).1 ht), (e2 0 (by omega)).trans h.res⟩
  · rcases ht with rfl | ht | ht | ht | ⟨o, m, cells, e, _⟩
    · exact e2 _ (by omega)
    · exact e2 _ (n1 t ht)
    · exact e2 _ (n2 t ht)
    · cases ht
    · cases e
  · cases ho
    exact ⟨t1.1, hlt, fun e => n1 _ e rfl, fun e => n2 _ e rfl⟩
theorem NbS.out1 (h : NbS ob F T N row vn vr va vb sr s1 s2 mid H hi) {F' : List Int} {v6 : AV} {H6 : Hp} {n6 : Nat} (o6 : Out3 1 ob F' T [] [] v6 vb .nil .nil (some (s1.getD hi)) s2 none H6 1 n6) (hn : hi ≤ n6) (keep : ∀ t, t < hi → t ≠ 1 → s1 ≠ some t → H6 t = H t) :
    NbS ob F' T N row vn vr v6 vb sr (some (s1.getD hi)) s2 mid H6 n6 := by
  have m2 := h.m2
  have mh := h.mh
  have t1 : s1.getD hi = hi ∨ s1 = some (s1.getD hi) := by
    cases hs : s1 with
    | none => simp
    | some o => simp
  have kt : ∀ t, Ft2 vn H t → H6 t = H t := fun t ht => keep t (by have := h.tab.foot ht; omega) (by have := h.tab.foot ht; omega) (h.f t ht).1
  have ft := h.tab.ft kt
  refine ⟨o6, h.tab.apart (Nat.le_refl _) kt, h.row.kept fun o ho => ?_, m2, by omega, fun o ho => ?_, fun t ht => ?_, (keep 0 (by omega) (by omega) fun e => by have := h.out.r1 0 e; omega).trans h.res⟩
  · have := h.rr o ho
    exact keep o this.2.1 (by omega) this.2.2.1
  · have := h.rr o ho
    refine ⟨this.1, by omega, fun e => ?_, this.2.2.2⟩
    rcases t1 with q | q
    · cases e; omega
    · rw [← q] at e; exact this.2.2.1 e
  · have ht := (ft t).1 ht
    refine ⟨fun e => ?_, (h.f t ht).2⟩
    rcases t1 with q | q
    · cases e; have := h.tab.foot ht; omega
    · rw [← q] at e; exact (h.f t ht).1 e
theorem NbS.out2 (h : NbS ob F T N row vn vr va vb sr s1 s2 mid H hi) {T' : List Int} {v6 : AV} {H6 : Hp} {n6 : Nat} (o6 : Out3 1 ob F T' [] [] va v6 .nil .nil s1 (some (s2.getD hi)) none H6 1 n6) (hn : hi ≤ n6) (keep : ∀ t, t < hi → t ≠ 1 → s2 ≠ some t → H6 t = H t) :
    NbS ob F T' N row vn vr va v6 sr s1 (some (s2.getD hi)) mid H6 n6 := by
  have m2 := h.m2
  have mh := h.mh
  have t1 : s2.getD hi = hi ∨ s2 = some (s2.getD hi) := by
    cases hs : s2 with
    | none => simp
    | some o => simp
  have kt : ∀ t, Ft2 vn H t → H6 t = H t := fun t ht => keep t (by have := h.tab.foot ht; omega) (by have := h.tab.foot ht; omega) (h.f t ht).2
  have ft := h.tab.ft kt
  refine ⟨o6, h.tab.apart (Nat.le_refl _) kt, h.row.kept fun o ho => ?_, m2, by omega, fun o ho => ?_, fun t ht => ?_, (keep 0 (by omega) (by omega) fun e => by have := h.out.r2 0 e; omega).trans h.res⟩
  · have := h.rr o ho
    exact keep o this.2.1 (by omega) this.2.2.2
  · have := h.rr o ho
    refine ⟨this.1, by omega, this.2.2.1, fun e => ?_⟩
    rcases t1 with q | q
    · cases e; omega
    · rw [← q] at e; exact this.2.2.2 e
  · have ht := (ft t).1 ht
    refine ⟨(h.f t ht).1, fun e => ?_⟩
    rcases t1 with q | q
    · cases e; have := h.tab.foot ht; omega
    · rw [← q] at e; exact (h.f t ht).2 e
/-- The row is done. -/
theorem NbS.done (h : NbS ob F T N row vn vr va vb sr s1 s2 mid H hi) {v2 : AV} {H2 : Hp} {nx2 : Nat} (hD : OwnD (N ++ [row]) v2 H2 2 nx2) (hn : hi ≤ nx2) (low : ∀ o, o < 2 → H2 o = H o) (keep : ∀ o, o < hi → vn ≠ .ms o 0 N.length 1 → H2 o = H o) (ftO : ∀ t, Ft2 v2 H2 t → Ft2 vn H t ∨ Ft1 vr t ∨ hi ≤ t) :
    NbS ob F T (N ++ [row]) [] v2 .nil va vb none s1 s2 nx2 H2 nx2 := by
  have m2 := h.m2
  have mh := h.mh
  refine ⟨h.out.apart hn fun t ht => ?_, hD, ⟨rfl, rfl⟩, by omega, Nat.le_refl _, (fun o e => by cases e), fun t ht => ?_, (low 0 (by omega)).trans h.res⟩
  · rcases ht with rfl | ht | ht | ht | ⟨o, m, cells, e, _⟩
    · exact low _ (by omega)
    · exact keep t (h.out.r1 t ht).2.1 fun e => (h.f t (h.tab.self e)).1 ht
    · exact keep t (h.out.r2 t ht).2.1 fun e => (h.f t (h.tab.self e)).2 ht
    · cases ht
    · cases e
  · rcases ftO t ht with q | q | q
    · exact h.f t q
    · exact (h.rr t (h.row.ft q)).2.2
    · exact ⟨fun e => by have := h.out.r1 t e; omega, fun e => by have := h.out.r2 t e; omega⟩
end
/-- The memory while identities and composites are made out of the numbers. -/
structure NbI (ob : Int) (F T I : List Int) (R N : List (List Int)) (vn va vb vd ve : AV) (s1 s2 s3 : Option Nat) (mid : Nat) (H : Hp) (hi : Nat) : Prop where
  out : Out3 1 ob F T I R va vb vd ve s1 s2 s3 H 1 hi
  tab : OwnD N vn H 2 mid
  mh : mid ≤ hi
  f : ∀ t, Ft2 vn H t → s1 ≠ some t ∧ s2 ≠ some t ∧ s3 ≠ some t
  fe : ∀ t, Ft2 ve H t → mid ≤ t
  res : H 0 = some [int 0, .nil, .nil, .nil, .nil]
section
variable {ob : Int} {F T I : List Int} {R N : List (List Int)} {vn va vb vd ve : AV} {s1 s2 s3 : Option Nat} {mid : Nat} {H : Hp} {hi : Nat}
theorem NbI.mono (h : NbI ob F T I R N vn va vb vd ve s1 s2 s3 mid H hi) {H' : Hp} {hi' : Nat} (hh : hi ≤ hi') (e : ∀ t, t < hi → H' t = H t) : NbI ob F T I R N vn va vb vd ve s1 s2 s3 mid H' hi' := by
  have mh := h.mh
  have qh := h.out.qh
  have kt : ∀ t, Ft2 vn H t → H' t = H t := fun t ht => e t (by have := h.tab.foot ht; omega)
  have ke : ∀ t, Ft2 ve H t → H' t = H t := fun t ht => e t (by have := h.out.tab.foot ht; omega)
  have ft := h.tab.ft kt
  have fe := h.out.tab.ft ke
  exact ⟨h.out.mono hh fun t _ ht => e t ht, h.tab.apart (Nat.le_refl _) kt, by omega, fun t ht => h.f t ((ft t).1 ht), fun t ht => h.fe t ((fe t).1 ht), (e 0 (by omega)).trans h.res⟩
theorem NbI.out3 (h : NbI ob F T I [] N vn va vb vd .nil s1 s2 s3 mid H hi) {I' : List Int} {v6 : AV} {H6 : Hp} {n6 : Nat} (o6 : Out3 1 ob F T I' [] va vb v6 .nil s1 s2 (some (s3.getD hi)) H6 1 n6) (hn : hi ≤ n6) (keep : ∀ t, t < hi → t ≠ 1 → s3 ≠ some t → H6 t = H t) :
    NbI ob F T I' [] N vn va vb v6 .nil s1 s2 (some (s3.getD hi)) mid H6 n6 := by
  have mh := h.mh
  have qh := h.out.qh
  have t1 : s3.getD hi = hi ∨ s3 = some (s3.getD hi) := by
    cases hs : s3 with
    | none => simp
    | some o => simp
  have kt : ∀ t, Ft2 vn H t → H6 t = H t := fun t ht => keep t (by have := h.tab.foot ht; omega) (by have := h.tab.foot ht; omega) (h.f t ht).2.2
  have ft := h.tab.ft kt
  refine ⟨o6, h.tab.apart (Nat.le_refl _) kt, by omega, fun t ht => ?_, (fun t ⟨o, m, cells, e, _⟩ => by cases e), (keep 0 (by omega) (by omega) fun e => by have := h.out.r3 0 e; omega).trans h.res⟩
  have ht := (ft t).1 ht
  refine ⟨(h.f t ht).1, (h.f t ht).2.1, fun e => ?_⟩
  rcases t1 with q | q
  · cases e; have := h.tab.foot ht; omega
  · rw [← q] at e; exact (h.f t ht).2.2 e
theorem NbI.row (h : NbI ob F T I R N vn va vb vd ve s1 s2 s3 mid H hi) {l : List Int} {w v6 : AV} {H6 : Hp} {n5 n6 : Nat} (o6 : Out3 1 ob F T I (R ++ [l]) va vb vd v6 s1 s2 s3 H6 1 n6) (hn : hi ≤ n6) (h5 : hi ≤ n5) (keep : ∀ t, t < n5 → t ≠ 1 → ¬ Ft2 ve H t → H6 t = H t) (ftO : ∀ t, Ft2 v6 H6 t → Ft2 ve H t ∨ Ft1 w t ∨ n5 ≤ t) (hw : ∀ t, Ft1 w t → mid ≤ t) (h0 : ¬ Ft2 ve H 0) :
    NbI ob F T I (R ++ [l]) N vn va vb vd v6 s1 s2 s3 mid H6 n6 := by
  have mh := h.mh
  have qh := h.out.qh
  have kt : ∀ t, Ft2 vn H t → H6 t = H t := fun t ht => keep t (by have := h.tab.foot ht; omega) (by have := h.tab.foot ht; omega) fun q => by have := h.fe t q; have := h.tab.foot ht; omega
  have ft := h.tab.ft kt
  refine ⟨o6, h.tab.apart (Nat.le_refl _) kt, by omega, fun t ht => h.f t ((ft t).1 ht), fun t ht => ?_, (keep 0 (by omega) (by omega) h0).trans h.res⟩
  rcases ftO t ht with q | q | q
  · exact h.fe t q
  · exact hw t q
  · omega
end
end Go.Av
