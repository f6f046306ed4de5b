/-
  A category under construction: a struct in an object of its own whose slices grow.
-/
import Derived.Test.YtbalggpkmaabmaaAvR3
import Derived.Test.YtbalggpkmaabmaaAvJ2
import Derived.Test.YtbalggpkmaabmaaAvT1
namespace Go.Av
open Classical
set_option linter.unusedSimpArgs false
set_option linter.unusedVariables false
variable {P : Program} {ν : Nat → FuncId}

/-- The struct in object q; all its objects lie from lo on and below hi. -/
structure Out3 (q : Nat) (ob : Int) (F T I : List Int) (R : List (List Int)) (a b d e : AV) (s1 s2 s3 : Option Nat) (H : Hp) (lo hi : Nat) : Prop where
  obj : H q = some [int ob, a, b, d, e]
  ql : lo ≤ q
  qh : q < hi
  g1 : Gr s1 F a H
  g2 : Gr s2 T b H
  g3 : Gr s3 I d H
  r1 : ∀ o, s1 = some o → lo ≤ o ∧ o < hi ∧ o ≠ q
  r2 : ∀ o, s2 = some o → lo ≤ o ∧ o < hi ∧ o ≠ q
  r3 : ∀ o, s3 = some o → lo ≤ o ∧ o < hi ∧ o ≠ q
  n12 : ∀ o, s1 = some o → s2 ≠ some o
  n13 : ∀ o, s1 = some o → s3 ≠ some o
  n23 : ∀ o, s2 = some o → s3 ≠ some o
  tab : OwnD R e H lo hi
  ft : ∀ t, Ft2 e H t → t ≠ q ∧ s1 ≠ some t ∧ s2 ≠ some t ∧ s3 ≠ some t
section
variable {q : Nat} {ob : Int} {F T I : List Int} {R : List (List Int)} {a b d e : AV} {s1 s2 s3 : Option Nat} {H : Hp} {lo hi : Nat}
theorem Gr.one {s : Option Nat} {l : List Int} {v : AV} (h : Gr s l v H) : v.one = true := by
  cases s with
  | none => obtain ⟨_, rfl⟩ := h; rfl
  | some o => obtain ⟨rfl, _⟩ := h; rfl
theorem Gr.own {s : Option Nat} {l : List Int} {v : AV} (h : Gr s l v H) (r : ∀ o, s = some o → lo ≤ o ∧ o < hi) : Own1 l v H lo hi := by
  cases s with
  | none => exact .inl h
  | some o => exact .inr ⟨o, (r o rfl).1, (r o rfl).2, h.1, h.2⟩
theorem Gr.ft {s : Option Nat} {l : List Int} {v : AV} (h : Gr s l v H) {t : Nat} (ht : Ft1 v t) : s = some t := by
  obtain ⟨n, e⟩ := ht
  cases s with
  | none => rw [h.2] at e; cases e
  | some o => rw [h.1] at e; cases e; rfl
theorem Gr.rd {s : Option Nat} {l : List Int} {v : AV} (h : Gr s l v H) {lim : Nat → Prop} (r : ∀ o, s = some o → lim o) : Rd H lim v l := by
  cases s with
  | none => obtain ⟨rfl, rfl⟩ := h; exact .nil
  | some o => obtain ⟨rfl, h2⟩ := h; exact .ms o l h2 (r o rfl)
theorem Gr.plen {s : Option Nat} {l : List Int} {v : AV} (h : Gr s l v H) : pvf H .len [v] = some (int l.length) := by
  cases s with
  | none => obtain ⟨rfl, rfl⟩ := h; rfl
  | some o => obtain ⟨rfl, h2⟩ := h; exact p_lenm h2 (ints_length _)
theorem Out3.mono (h : Out3 q ob F T I R a b d e s1 s2 s3 H lo hi) {H' : Hp} {hi' : Nat} (hh : hi ≤ hi') (hH : ∀ t, lo ≤ t → t < hi → H' t = H t) : Out3 q ob F T I R a b d e s1 s2 s3 H' lo hi' := by
  have ft := h.tab.ft (H' := H') fun t ht => hH t (h.tab.foot ht).1 (h.tab.foot ht).2
  exact ⟨(hH q h.ql h.qh).trans h.obj, h.ql, by have := h.qh; omega, h.g1.kept fun o ho => hH o (h.r1 o ho).1 (h.r1 o ho).2.1, h.g2.kept fun o ho => hH o (h.r2 o ho).1 (h.r2 o ho).2.1, h.g3.kept fun o ho => hH o (h.r3 o ho).1 (h.r3 o ho).2.1,
    fun o ho => by have := h.r1 o ho; exact ⟨this.1, by omega, this.2.2⟩, fun o ho => by have := h.r2 o ho; exact ⟨this.1, by omega, this.2.2⟩, fun o ho => by have := h.r3 o ho; exact ⟨this.1, by omega, this.2.2⟩, h.n12, h.n13, h.n23, h.tab.mono hh hH, fun t ht => h.ft t ((ft t).1 ht)⟩
theorem Out3.own (h : Out3 q ob F T I R a b d e s1 s2 s3 H lo hi) : OwnK ⟨ob, F, T, I, R⟩ (.agg [int ob, a, b, d, e]) H lo hi := by
  refine ⟨a, b, d, e, rfl, h.g1.own fun o ho => ⟨(h.r1 o ho).1, (h.r1 o ho).2.1⟩, h.g2.own fun o ho => ⟨(h.r2 o ho).1, (h.r2 o ho).2.1⟩, h.g3.own fun o ho => ⟨(h.r3 o ho).1, (h.r3 o ho).2.1⟩, h.tab, fun o q1 q2 => h.n12 o (h.g1.ft q1) (h.g2.ft q2), fun o q1 q2 => h.n13 o (h.g1.ft q1) (h.g3.ft q2), fun o q1 q2 => h.n23 o (h.g2.ft q1) (h.g3.ft q2), fun o q1 q2 => (h.ft o q2).2.1 (h.g1.ft q1), fun o q1 q2 => (h.ft o q2).2.2.1 (h.g2.ft q1), fun o q1 q2 => (h.ft o q2).2.2.2 (h.g3.ft q1)⟩
theorem Out3.ones (h : Out3 q ob F T I R a b d e s1 s2 s3 H lo hi) : [int ob, a, b, d, e].all AV.one = true := h.own.one5
theorem Out3.start {q : Nat} {ob : Int} {H : Hp} {lo : Nat} (h : H q = some [int ob, .nil, .nil, .nil, .nil]) (hq : lo ≤ q) : Out3 q ob [] [] [] [] .nil .nil .nil .nil none none none H lo (q + 1) :=
  ⟨h, hq, by omega, ⟨rfl, rfl⟩, ⟨rfl, rfl⟩, ⟨rfl, rfl⟩, (fun o h => by cases h), (fun o h => by cases h), (fun o h => by cases h), (fun o h => by cases h), (fun o h => by cases h), (fun o h => by cases h), OwnD.nil, fun t ⟨o, m, cells, e, _⟩ => by cases e⟩
end
section
variable {C : Ct} {Φ : AV → Hp → Nat → Prop} {n : Nat} {vars : Nat → AV} {H : Hp} {nx : Nat} {Is : Nat → Inv} {r : Vc}
variable {q : Nat} {ob : Int} {F T I : List Int} {R : List (List Int)} {a b d e : AV} {s1 s2 s3 : Option Nat} {lo hi : Nat}
/-- An append to field 1. -/
theorem den_out1 {x y : Opd} {dq n1 n2 : Nat} {m : List Int} (h : Out3 q ob F T I R a b d e s1 s2 s3 H lo hi) (hn : hi ≤ nx) (hx : ev vars x = a) (hy : ev vars y = islice m) (hq : vars dq = .mp q 0 5) (hqn : dq < n) (e1 : n1 = n + 1) (e2 : n = n2) (hm : m.length ≠ 0) (hlen : F.length + m.length ≤ 1099511627776)
    (hk : ∀ v2 H2 nx2, Out3 q ob (F ++ m) T I R v2 b d e (some (s1.getD nx)) s2 s3 H2 lo nx2 → nx ≤ nx2 → (∀ t, t < nx → t ≠ q → s1 ≠ some t → H2 t = H t) → den C Φ r (n + 3) (put (put (put vars n v2) (n + 1) (.mp q 1 5)) (n + 2) (.v undef)) H2 nx2 Is) :
    den C Φ (.op true (.app 1 x y) (.op true (.p (.fad 1) [.t dq]) (.op true (.st 1 (.t n1) (.t n2)) r))) n vars H nx Is := by
  subst e1; subst e2
  have hqh := h.qh
  have hg := h.g1
  rw [← hx] at hg
  refine den_appW hg hy hm hlen fun v2 H2 nx2 hG e2 hnx => ?_
  have sq : s1.getD nx ≠ q := by
    cases hs : s1 with
    | none => simp; omega
    | some o => have := h.r1 o hs; simp; exact this.2.2
  have obj2 := (e2 q (fun e => sq e.symm)).trans h.obj
  have dqn : dq ≠ n := by omega
  rw [den_p]
  simp only [if_true, List.map_cons, List.map_nil, ev_t]
  rw [show put vars n v2 dq = .mp q 0 5 from by simp only [put]; rw [if_neg dqn]; exact hq, p_fadm (l := 5) obj2 rfl]
  simp only [Nat.zero_add, denS_some]
  have one2 : v2.one = true := hG.one
  refine den_st1G (o := q) (p := 1) (m := 5) (c := [int ob, a, b, d, e]) (u := v2) (by rw [ev_t, put_eq]) (by rw [ev_t]; simp only [put]; rw [if_neg (by omega), if_pos trivial]) obj2 rfl (by omega) one2 fun H3 y3 e3 => ?_
  have hnx2 : nx ≤ nx2 := by rw [hnx]; split <;> omega
  have sr : lo ≤ s1.getD nx ∧ s1.getD nx < nx2 ∧ (s1.getD nx = nx ∨ s1 = some (s1.getD nx)) := by
    have := h.ql
    cases hs : s1 with
    | none => rw [hs] at hnx; simp at hnx; simp; omega
    | some o => have := h.r1 o hs; rw [hs] at hnx; simp at hnx; simp; omega
  -- what is neither the struct nor this slice stays
  have keep : ∀ t, t ≠ q → t ≠ s1.getD nx → H3 t = H t := fun t h1 h2 => by rw [e3 t h1, e2 t h2]
  have ne2 : ∀ o, s2 = some o → o ≠ s1.getD nx := fun o ho e => by
    rcases sr.2.2 with q1 | q1
    · have := h.r2 o ho; omega
    · exact h.n12 _ q1 (by rw [← e]; exact ho)
  have ne3 : ∀ o, s3 = some o → o ≠ s1.getD nx := fun o ho e => by
    rcases sr.2.2 with q1 | q1
    · have := h.r3 o ho; omega
    · exact h.n13 _ q1 (by rw [← e]; exact ho)
  have fte : ∀ t, Ft2 e H t → t ≠ s1.getD nx := fun t ht ee => by
    rcases sr.2.2 with q1 | q1
    · have := h.tab.foot ht; omega
    · exact (h.ft t ht).2.1 (by rw [ee]; exact q1)
  have kf : ∀ t, Ft2 e H t → H3 t = H t := fun t ht => keep t (h.ft t ht).1 (fte t ht)
  have ft3 := h.tab.ft kf
  refine hk v2 H3 nx2 ⟨by rw [y3]; rfl, h.ql, by omega, (hG.kept fun o ho => by cases ho; exact e3 _ sq), (h.g2.kept fun o ho => keep o (h.r2 o ho).2.2 (ne2 o ho)), (h.g3.kept fun o ho => keep o (h.r3 o ho).2.2 (ne3 o ho)), (fun o ho => by cases ho; exact ⟨sr.1, sr.2.1, sq⟩), (fun o ho => by have := h.r2 o ho; exact ⟨this.1, by omega, this.2.2⟩), (fun o ho => by have := h.r3 o ho; exact ⟨this.1, by omega, this.2.2⟩), (fun o ho ho2 => by cases ho; exact ne2 _ ho2 rfl), (fun o ho ho2 => by cases ho; exact ne3 _ ho2 rfl), (h.n23), h.tab.apart (by omega) kf, fun t ht => ⟨(h.ft t ((ft3 t).1 ht)).1, (fun ee => fte t ((ft3 t).1 ht) (by cases ee; rfl)), ((h.ft t ((ft3 t).1 ht)).2.2.1), ((h.ft t ((ft3 t).1 ht)).2.2.2)⟩⟩ hnx2 fun t h1 h2 h3 => keep t h2 fun ee => ?_
  rcases sr.2.2 with q1 | q1
  · omega
  · exact h3 (by rw [ee]; exact q1)
/-- An append to field 2. -/
theorem den_out2 {x y : Opd} {dq n1 n2 : Nat} {m : List Int} (h : Out3 q ob F T I R a b d e s1 s2 s3 H lo hi) (hn : hi ≤ nx) (hx : ev vars x = b) (hy : ev vars y = islice m) (hq : vars dq = .mp q 0 5) (hqn : dq < n) (e1 : n1 = n + 1) (e2 : n = n2) (hm : m.length ≠ 0) (hlen : T.length + m.length ≤ 1099511627776)
    (hk : ∀ v2 H2 nx2, Out3 q ob F (T ++ m) I R a v2 d e s1 (some (s2.getD nx)) s3 H2 lo nx2 → nx ≤ nx2 → (∀ t, t < nx → t ≠ q → s2 ≠ some t → H2 t = H t) → den C Φ r (n + 3) (put (put (put vars n v2) (n + 1) (.mp q 2 5)) (n + 2) (.v undef)) H2 nx2 Is) :
    den C Φ (.op true (.app 1 x y) (.op true (.p (.fad 2) [.t dq]) (.op true (.st 1 (.t n1) (.t n2)) r))) n vars H nx Is := by
  subst e1; subst e2
  have hqh := h.qh
  have hg := h.g2
  rw [← hx] at hg
  refine den_appW hg hy hm hlen fun v2 H2 nx2 hG e2 hnx => ?_
  have sq : s2.getD nx ≠ q := by
    cases hs : s2 with
    | none => simp; omega
    | some o => have := h.r2 o hs; simp; exact this.2.2
  have obj2 := (e2 q (fun e => sq e.symm)).trans h.obj
  have dqn : dq ≠ n := by omega
  rw [den_p]
  simp only [if_true, List.map_cons, List.map_nil, ev_t]
  rw [show put vars n v2 dq = .mp q 0 5 from by simp only [put]; rw [if_neg dqn]; exact hq, p_fadm (l := 5) obj2 rfl]
  simp only [Nat.zero_add, denS_some]
  have one2 : v2.one = true := hG.one
  refine den_st1G (o := q) (p := 2) (m := 5) (c := [int ob, a, b, d, e]) (u := v2) (by rw [ev_t, put_eq]) (by rw [ev_t]; simp only [put]; rw [if_neg (by omega), if_pos trivial]) obj2 rfl (by omega) one2 fun H3 y3 e3 => ?_
  have hnx2 : nx ≤ nx2 := by rw [hnx]; split <;> omega
  have sr : lo ≤ s2.getD nx ∧ s2.getD nx < nx2 ∧ (s2.getD nx = nx ∨ s2 = some (s2.getD nx)) := by
    have := h.ql
    cases hs : s2 with
    | none => rw [hs] at hnx; simp at hnx; simp; omega
    | some o => have := h.r2 o hs; rw [hs] at hnx; simp at hnx; simp; omega
  -- what is neither the struct nor this slice stays
  have keep : ∀ t, t ≠ q → t ≠ s2.getD nx → H3 t = H t := fun t h1 h2 => by rw [e3 t h1, e2 t h2]
  have ne1 : ∀ o, s1 = some o → o ≠ s2.getD nx := fun o ho e => by
    rcases sr.2.2 with q1 | q1
    · have := h.r1 o ho; omega
    · exact h.n12 o ho (by rw [e]; exact q1)
  have ne3 : ∀ o, s3 = some o → o ≠ s2.getD nx := fun o ho e => by
    rcases sr.2.2 with q1 | q1
    · have := h.r3 o ho; omega
    · exact h.n23 _ q1 (by rw [← e]; exact ho)
  have fte : ∀ t, Ft2 e H t → t ≠ s2.getD nx := fun t ht ee => by
    rcases sr.2.2 with q1 | q1
    · have := h.tab.foot ht; omega
    · exact (h.ft t ht).2.2.1 (by rw [ee]; exact q1)
  have kf : ∀ t, Ft2 e H t → H3 t = H t := fun t ht => keep t (h.ft t ht).1 (fte t ht)
  have ft3 := h.tab.ft kf
  refine hk v2 H3 nx2 ⟨by rw [y3]; rfl, h.ql, by omega, (h.g1.kept fun o ho => keep o (h.r1 o ho).2.2 (ne1 o ho)), (hG.kept fun o ho => by cases ho; exact e3 _ sq), (h.g3.kept fun o ho => keep o (h.r3 o ho).2.2 (ne3 o ho)), (fun o ho => by have := h.r1 o ho; exact ⟨this.1, by omega, this.2.2⟩), (fun o ho => by cases ho; exact ⟨sr.1, sr.2.1, sq⟩), (fun o ho => by have := h.r3 o ho; exact ⟨this.1, by omega, this.2.2⟩), (fun o ho ho2 => by cases ho2; exact ne1 _ ho rfl), (h.n13), (fun o ho ho2 => by cases ho; exact ne3 _ ho2 rfl), h.tab.apart (by omega) kf, fun t ht => ⟨(h.ft t ((ft3 t).1 ht)).1, ((h.ft t ((ft3 t).1 ht)).2.1), (fun ee => fte t ((ft3 t).1 ht) (by cases ee; rfl)), ((h.ft t ((ft3 t).1 ht)).2.2.2)⟩⟩ hnx2 fun t h1 h2 h3 => keep t h2 fun ee => ?_
  rcases sr.2.2 with q1 | q1
  · omega
  · exact h3 (by rw [ee]; exact q1)
/-- An append to field 3. -/
theorem den_out3 {x y : Opd} {dq n1 n2 : Nat} {m : List Int} (h : Out3 q ob F T I R a b d e s1 s2 s3 H lo hi) (hn : hi ≤ nx) (hx : ev vars x = d) (hy : ev vars y = islice m) (hq : vars dq = .mp q 0 5) (hqn : dq < n) (e1 : n1 = n + 1) (e2 : n = n2) (hm : m.length ≠ 0) (hlen : I.length + m.length ≤ 1099511627776)
    (hk : ∀ v2 H2 nx2, Out3 q ob F T (I ++ m) R a b v2 e s1 s2 (some (s3.getD nx)) H2 lo nx2 → nx ≤ nx2 → (∀ t, t < nx → t ≠ q → s3 ≠ some t → H2 t = H t) → den C Φ r (n + 3) (put (put (put vars n v2) (n + 1) (.mp q 3 5)) (n + 2) (.v undef)) H2 nx2 Is) :
    den C Φ (.op true (.app 1 x y) (.op true (.p (.fad 3) [.t dq]) (.op true (.st 1 (.t n1) (.t n2)) r))) n vars H nx Is := by
  subst e1; subst e2
  have hqh := h.qh
  have hg := h.g3
  rw [← hx] at hg
  refine den_appW hg hy hm hlen fun v2 H2 nx2 hG e2 hnx => ?_
  have sq : s3.getD nx ≠ q := by
    cases hs : s3 with
    | none => simp; omega
    | some o => have := h.r3 o hs; simp; exact this.2.2
  have obj2 := (e2 q (fun e => sq e.symm)).trans h.obj
  have dqn : dq ≠ n := by omega
  rw [den_p]
  simp only [if_true, List.map_cons, List.map_nil, ev_t]
  rw [show put vars n v2 dq = .mp q 0 5 from by simp only [put]; rw [if_neg dqn]; exact hq, p_fadm (l := 5) obj2 rfl]
  simp only [Nat.zero_add, denS_some]
  have one2 : v2.one = true := hG.one
  refine den_st1G (o := q) (p := 3) (m := 5) (c := [int ob, a, b, d, e]) (u := v2) (by rw [ev_t, put_eq]) (by rw [ev_t]; simp only [put]; rw [if_neg (by omega), if_pos trivial]) obj2 rfl (by omega) one2 fun H3 y3 e3 => ?_
  have hnx2 : nx ≤ nx2 := by rw [hnx]; split <;> omega
  have sr : lo ≤ s3.getD nx ∧ s3.getD nx < nx2 ∧ (s3.getD nx = nx ∨ s3 = some (s3.getD nx)) := by
    have := h.ql
    cases hs : s3 with
    | none => rw [hs] at hnx; simp at hnx; simp; omega
    | some o => have := h.r3 o hs; rw [hs] at hnx; simp at hnx; simp; omega
  -- what is neither the struct nor this slice stays
  have keep : ∀ t, t ≠ q → t ≠ s3.getD nx → H3 t = H t := fun t h1 h2 => by rw [e3 t h1, e2 t h2]
  have ne1 : ∀ o, s1 = some o → o ≠ s3.getD nx := fun o ho e => by
    rcases sr.2.2 with q1 | q1
    · have := h.r1 o ho; omega
    · exact h.n13 o ho (by rw [e]; exact q1)
  have ne2 : ∀ o, s2 = some o → o ≠ s3.getD nx := fun o ho e => by
    rcases sr.2.2 with q1 | q1
    · have := h.r2 o ho; omega
    · exact h.n23 o ho (by rw [e]; exact q1)
  have fte : ∀ t, Ft2 e H t → t ≠ s3.getD nx := fun t ht ee => by
    rcases sr.2.2 with q1 | q1
    · have := h.tab.foot ht; omega
    · exact (h.ft t ht).2.2.2 (by rw [ee]; exact q1)
  have kf : ∀ t, Ft2 e H t → H3 t = H t := fun t ht => keep t (h.ft t ht).1 (fte t ht)
  have ft3 := h.tab.ft kf
  refine hk v2 H3 nx2 ⟨by rw [y3]; rfl, h.ql, by omega, (h.g1.kept fun o ho => keep o (h.r1 o ho).2.2 (ne1 o ho)), (h.g2.kept fun o ho => keep o (h.r2 o ho).2.2 (ne2 o ho)), (hG.kept fun o ho => by cases ho; exact e3 _ sq), (fun o ho => by have := h.r1 o ho; exact ⟨this.1, by omega, this.2.2⟩), (fun o ho => by have := h.r2 o ho; exact ⟨this.1, by omega, this.2.2⟩), (fun o ho => by cases ho; exact ⟨sr.1, sr.2.1, sq⟩), (h.n12), (fun o ho ho2 => by cases ho2; exact ne1 _ ho rfl), (fun o ho ho2 => by cases ho2; exact ne2 _ ho rfl), h.tab.apart (by omega) kf, fun t ht => ⟨(h.ft t ((ft3 t).1 ht)).1, ((h.ft t ((ft3 t).1 ht)).2.1), ((h.ft t ((ft3 t).1 ht)).2.2.1), (fun ee => fte t ((ft3 t).1 ht) (by cases ee; rfl))⟩⟩ hnx2 fun t h1 h2 h3 => keep t h2 fun ee => ?_
  rcases sr.2.2 with q1 | q1
  · omega
  · exact h3 (by rw [ee]; exact q1)
end
/-- The table is made. -/
theorem Out3.table {q : Nat} {ob : Int} {F T I : List Int} {a b d : AV} {s1 s2 s3 : Option Nat} {H H' : Hp} {lo nx : Nat} {M : List (List Int)} (h : Out3 q ob F T I [] a b d .nil s1 s2 s3 H lo nx) (hT : TblAt H nx q [int ob, a, b, d] M H') : Out3 q ob F T I M a b d (.ms nx 0 M.length 1) s1 s2 s3 H' lo (nx + 1 + M.length) := by
  have hqh := h.qh
  have hql := h.ql
  have kp : ∀ (s : Option Nat) (L : List Int) (v : AV), Gr s L v H → (∀ o, s = some o → lo ≤ o ∧ o < nx ∧ o ≠ q) → Gr s L v H' := fun s L v g g2 => g.kept fun o ho => hT.low o (g2 o ho).2.1 (g2 o ho).2.2
  have ftT : ∀ t, Ft2 (.ms nx 0 M.length 1) H' t → nx ≤ t := fun t hh => by
    obtain ⟨o, m, cells, e1, e2, e3⟩ := hh
    cases e1
    rw [hT.tab] at e2; cases e2
    rcases e3 with rfl | ⟨k, n, hk⟩
    · exact Nat.le_refl _
    · have hk' : k < M.length := by
        obtain ⟨z, _⟩ := List.getElem?_eq_some_iff.1 hk
        simpa [outer_len] using z
      rw [outer_full, outerC_get hk'] at hk
      cases hk; omega
  refine ⟨by rw [hT.obj]; rfl, h.ql, by omega, kp _ _ _ h.g1 h.r1, kp _ _ _ h.g2 h.r2, kp _ _ _ h.g3 h.r3, fun o ho => by have := h.r1 o ho; exact ⟨this.1, by omega, this.2.2⟩, fun o ho => by have := h.r2 o ho; exact ⟨this.1, by omega, this.2.2⟩, fun o ho => by have := h.r3 o ho; exact ⟨this.1, by omega, this.2.2⟩, h.n12, h.n13, h.n23, ?_, fun t hh => ?_⟩
  · refine .inr ⟨nx, outer M nx M.length, rfl, by omega, by omega, hT.tab, outer_len _ _ _, fun k a hk => ?_, fun j k x n1 n2 hj hk => ?_⟩
    · have hk' : k < M.length := by
        obtain ⟨z, _⟩ := List.getElem?_eq_some_iff.1 hk
        simpa [outer_len] using z
      rw [outer_full, outerC_get hk'] at hk
      cases hk
      exact .inr ⟨nx + 1 + k, rfl, by omega, by omega, by omega, hT.row k hk'⟩
    · have hj' : j < M.length := by
        obtain ⟨z, _⟩ := List.getElem?_eq_some_iff.1 hj
        simpa [outer_len] using z
      have hk' : k < M.length := by
        obtain ⟨z, _⟩ := List.getElem?_eq_some_iff.1 hk
        simpa [outer_len] using z
      rw [outer_full, outerC_get hj'] at hj
      rw [outer_full, outerC_get hk'] at hk
      simp only [Option.some.injEq, AV.ms.injEq] at hj hk
      omega
  · have := ftT t hh
    refine ⟨by omega, fun ee => ?_, fun ee => ?_, fun ee => ?_⟩
    · have := h.r1 t ee; omega
    · have := h.r2 t ee; omega
    · have := h.r3 t ee; omega
end Go.Av
