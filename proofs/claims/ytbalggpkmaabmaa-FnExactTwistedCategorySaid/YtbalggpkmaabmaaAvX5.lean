/-
  TwistedCategory: the program's.
-/
import Derived.Test.YtbalggpkmaabmaaAvX4
namespace Go.Av
open Classical
set_option linter.unusedSimpArgs false
set_option linter.unusedVariables false
variable {P : Program} {ν : Nat → FuncId}

def V_Category_isIdentity : Vc :=
  .op true (.p .nck [.t 0]) <|
  .op true (.p (.fad 3) [.t 2]) <|
  .op true (.p (.ld none) [.t 3]) <|
  .op true (.p .nck [.t 0]) <|
  .op true (.p (.fad 1) [.t 5]) <|
  .op true (.p (.ld none) [.t 6]) <|
  .op true (.p (.iad 1) [.t 7, .t 1]) <|
  .op true (.p (.ld none) [.t 8]) <|
  .op true (.p (.iad 1) [.t 4, .t 9]) <|
  .op true (.p (.ld none) [.t 10]) <|
  .op true (.p (.bin .eql) [.t 11, .t 1]) <|
  .ret [(.t 12, none)]
theorem isId_fz (h : Has P ν 352 2 V_Category_isIdentity) {c : Cat} (s : Shape c) {u : Int} (a : Arr c u) : Fz (OkM P ν) 352 [.ptr c.cells 0, int u] (bool (decide (isU c u))) := by
  refine Fn.fzb fun H nx => h _ _ _ _ rfl fun hwf => ?_
  unfold V_Category_isIdentity
  have i1 : In c.f u := a.inF
  have i2 : In c.i (c.F u) := s.inI (s.obF a)
  have g1 : gI c.f u = c.F u := rfl
  have g2 : gI c.i (c.F u) = c.I (c.F u) := rfl
  try simp (disch := (first | rfl | with_reducible assumption | with_reducible solve_by_elim (maxDepth := 8) [Shape.inT, Shape.inI, Shape.inC, Shape.inK, Shape.obF, Shape.obT, Shape.arI, Arr.inF] | omega)) only [S2, Nat.reduceEqDiff, Nat.reduceAdd, iput, puts, g1, g2]
  refine ⟨_, rfl, H, fun _ _ h => h, ?_, rfl, Nat.le_refl _⟩
  show bool (_ == _) = _
  congr 1
  rw [Bool.beq_eq_decide_eq]; exact decide_eq_decide.2 Iff.rfl
/-- The memory while the twisted arrows are gathered. -/
structure TwS (nx : Nat) (ob : Int) (L : List Tw) (F T I : List Int) (v va vb vd : AV) (sL s1 s2 : Option Nat) (H : Hp) (hi : Nat) : Prop where
  out : Out3 (nx + 2) ob F T I [] va vb vd .nil s1 s2 (some (nx + 1)) H (nx + 1) hi
  lst : GrT sL L v H
  box : H (nx + 3) = some [v]
  res : H nx = some [int 0, .nil, .nil, .nil, .nil]
  hb : nx + 4 ≤ hi
  rL : ∀ o, sL = some o → nx + 4 ≤ o ∧ o < hi ∧ s1 ≠ some o ∧ s2 ≠ some o
  r1 : ∀ o, s1 = some o → nx + 4 ≤ o
  r2 : ∀ o, s2 = some o → nx + 4 ≤ o
section
variable {nx : Nat} {ob : Int} {L : List Tw} {F T I : List Int} {v va vb vd : AV} {sL s1 s2 : Option Nat} {H : Hp} {hi : Nat}
theorem TwS.top (h : TwS nx ob L F T I v va vb vd sL s1 s2 H hi) : nx + 4 ≤ sL.getD hi ∧ (sL.getD hi = hi ∨ sL = some (sL.getD hi)) := by
  have := h.hb
  cases hs : sL with
  | none => simp; omega
  | some o => have := h.rL o hs; simp; omega
theorem TwS.app (h : TwS nx ob L F T I v va vb vd sL s1 s2 H hi) {L' : List Tw} {v2 : AV} {H2 H3 : Hp} {nx2 : Nat} (hG : GrT (some (sL.getD hi)) L' v2 H2) (e2 : ∀ j, j ≠ sL.getD hi → H2 j = H j) (hn : nx2 = (if sL.isSome then hi else hi + 1)) (b : H3 (nx + 3) = some [v2]) (e3 : ∀ j, j ≠ nx + 3 → H3 j = H2 j) :
    TwS nx ob L' F T I v2 va vb vd (some (sL.getD hi)) s1 s2 H3 nx2 := by
  obtain ⟨t1, t2⟩ := h.top
  have hb := h.hb
  have hle : hi ≤ nx2 := by rw [hn]; split <;> omega
  have hlt : sL.getD hi < nx2 := by
    cases hs : sL with
    | none => rw [hs] at hn; simp at hn; simp; omega
    | some o => have := h.rL o hs; simp; omega
  have kp : ∀ t, t ≠ nx + 3 → t ≠ sL.getD hi → H3 t = H t := fun t h1 h2 => (e3 t h1).trans (e2 t h2)
  have n1 : ∀ o, s1 = some o → o ≠ sL.getD hi := fun o ho e => by
    rcases t2 with q | q
    · have := h.out.r1 o ho; omega
    · exact (h.rL _ q).2.2.1 (by rw [← e]; exact ho)
  have n2 : ∀ o, s2 = some o → o ≠ sL.getD hi := fun o ho e => by
    rcases t2 with q | q
    · have := h.out.r2 o ho; omega
    · exact (h.rL _ q).2.2.2 (by rw [← e]; exact ho)
  refine ⟨h.out.apart hle fun t ht => ?_, hG.kept fun o ho => by cases ho; exact e3 _ (by omega), b, (kp nx (by omega) (by omega)).trans h.res, by omega, fun o ho => ?_, h.r1, h.r2⟩
  · rcases ht with rfl | ht | ht | ht | ⟨o, m, cells, e, _⟩
    · exact kp _ (by omega) (by omega)
    · exact kp _ (by have := h.r1 t ht; omega) (n1 t ht)
    · exact kp _ (by have := h.r2 t ht; omega) (n2 t ht)
    · cases ht; exact kp _ (by omega) (by omega)
    · cases e
  · cases ho
    exact ⟨t1, hlt, fun e => n1 _ e rfl, fun e => n2 _ e rfl⟩
theorem TwS.out1 (h : TwS nx ob L F T I v va vb vd sL s1 s2 H hi) {F' : List Int} {v6 : AV} {H6 : Hp} {n6 : Nat} (o6 : Out3 (nx + 2) ob F' T I [] v6 vb vd .nil (some (s1.getD hi)) s2 (some (nx + 1)) H6 (nx + 1) n6) (hn : hi ≤ n6) (keep : ∀ t, t < hi → t ≠ nx + 2 → s1 ≠ some t → H6 t = H t) :
    TwS nx ob L F' T I v v6 vb vd sL (some (s1.getD hi)) s2 H6 n6 := by
  have hb := h.hb
  have t1 : nx + 4 ≤ s1.getD hi ∧ (s1.getD hi = hi ∨ s1 = some (s1.getD hi)) := by
    cases hs : s1 with
    | none => simp; omega
    | some o => have := h.r1 o hs; simp; omega
  refine ⟨o6, h.lst.kept fun o ho => ?_, (keep _ (by omega) (by omega) fun e => by have := h.r1 _ e; omega).trans h.box, (keep _ (by omega) (by omega) fun e => by have := h.r1 _ e; omega).trans h.res, by omega, fun o ho => ?_, fun o ho => by cases ho; exact t1.1, h.r2⟩
  · have := h.rL o ho
    exact keep o this.2.1 (by omega) this.2.2.1
  · have := h.rL o ho
    refine ⟨this.1, by omega, fun e => ?_, this.2.2.2⟩
    rcases t1.2 with q | q
    · cases e; omega
    · rw [← q] at e; exact this.2.2.1 e
theorem TwS.out2 (h : TwS nx ob L F T I v va vb vd sL s1 s2 H hi) {T' : List Int} {v6 : AV} {H6 : Hp} {n6 : Nat} (o6 : Out3 (nx + 2) ob F T' I [] va v6 vd .nil s1 (some (s2.getD hi)) (some (nx + 1)) H6 (nx + 1) n6) (hn : hi ≤ n6) (keep : ∀ t, t < hi → t ≠ nx + 2 → s2 ≠ some t → H6 t = H t) :
    TwS nx ob L F T' I v va v6 vd sL s1 (some (s2.getD hi)) H6 n6 := by
  have hb := h.hb
  have t1 : nx + 4 ≤ s2.getD hi ∧ (s2.getD hi = hi ∨ s2 = some (s2.getD hi)) := by
    cases hs : s2 with
    | none => simp; omega
    | some o => have := h.r2 o hs; simp; omega
  refine ⟨o6, h.lst.kept fun o ho => ?_, (keep _ (by omega) (by omega) fun e => by have := h.r2 _ e; omega).trans h.box, (keep _ (by omega) (by omega) fun e => by have := h.r2 _ e; omega).trans h.res, by omega, fun o ho => ?_, h.r1, fun o ho => by cases ho; exact t1.1⟩
  · have := h.rL o ho
    exact keep o this.2.1 (by omega) this.2.2.2
  · have := h.rL o ho
    refine ⟨this.1, by omega, this.2.2.1, fun e => ?_⟩
    rcases t1.2 with q | q
    · cases e; omega
    · rw [← q] at e; exact this.2.2.2 e
theorem TwS.setI (h : TwS nx ob L F T I v va vb vd sL s1 s2 H hi) {H' : Hp} {i : Nat} {x : Int} (ho : H' (nx + 1) = some (ints (I.set i x))) (hH : ∀ t, t ≠ nx + 1 → H' t = H t) : TwS nx ob L F T (I.set i x) v va vb vd sL s1 s2 H' hi :=
  ⟨h.out.setI ho hH, h.lst.kept fun o ho' => hH o (by have := h.rL o ho'; omega), (hH _ (by omega)).trans h.box, (hH _ (by omega)).trans h.res, h.hb, h.rL, h.r1, h.r2⟩
end
abbrev St6 := (AV × AV × AV) × Option Nat × Option Nat × Option Nat
noncomputable def TwI (c : Cat) (nx : Nat) (L : List Tw) (st : St6) (H : Hp) (hi : Nat) : Prop := TwS nx c.f.length L (twF L) (twT L) (idAll c c.f.length L) st.1.1 st.1.2.1 st.1.2.2 (.ms (nx + 1) 0 c.f.length 1) st.2.1 st.2.2.1 st.2.2.2 H hi
theorem hom_arrI {c : Cat} {x y : Int} {i : Nat} (h : i < (homL c x y).length) : Arr c (gI (homL c x y) (i : Int)) ∧ c.F (gI (homL c x y) (i : Int)) = x ∧ c.T (gI (homL c x y) (i : Int)) = y := by
  rw [gI_nat]; exact ⟨hom_arr h, hom_F h, hom_T h⟩
noncomputable def twC0 (c : Cat) : Int := if IsCat c then if FitX (twX c) then 0 else 3 else 1
noncomputable def twR (c : Cat) : Cat := if twC0 c = 0 then twX c else zeroK
end Go.Av
