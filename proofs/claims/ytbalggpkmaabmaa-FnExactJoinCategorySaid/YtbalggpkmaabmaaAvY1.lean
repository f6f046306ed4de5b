/-
  Sums and joins of categories: the program's.
-/
import Derived.Test.YtbalggpkmaabmaaAvY0
namespace Go.Av
open Classical
set_option linter.unusedSimpArgs false
set_option linter.unusedVariables false
variable {P : Program} {ν : Nat → FuncId}

structure AdM (c : Cat) (nx lo oN oM : Nat) (H : Hp) : Prop where
  y : H nx = some [int 0, .nil, .nil, .nil, .nil]
  n : H oN = some [int c.o]
  m : H oM = some [int c.f.length]
  ly : nx < lo
  ln : oN < lo
  lm : oM < lo
theorem AdM.mono {c : Cat} {nx lo oN oM : Nat} {H H' : Hp} (h : AdM c nx lo oN oM H) (e : ∀ t, t < lo → H' t = H t) : AdM c nx lo oN oM H' :=
  ⟨(e _ h.ly).trans h.y, (e _ h.ln).trans h.n, (e _ h.lm).trans h.m, h.ly, h.ln, h.lm⟩
theorem Out3.frzO {q : Nat} {ob : Int} {F T I : List Int} {a b d : AV} {s1 s2 s3 : Option Nat} {H : Hp} {lo hi : Nat} (h : Out3 q ob F T I [] a b d .nil s1 s2 s3 H lo hi) (l : List AV) : frzL H (.mp q 0 5 :: l) = (frzL H l).map (.ptr (Cat.mk ob F T I []).cells 0 :: ·) := by
  have e1 : frz H fuel (.mp q 0 5) = some (.ptr (Cat.mk ob F T I []).cells 0) := by
    have r1 := h.g1.rd (lim := fun _ => True) fun _ _ => trivial
    have r2 := h.g2.rd (lim := fun _ => True) fun _ _ => trivial
    have r3 := h.g3.rd (lim := fun _ => True) fun _ _ => trivial
    simp only [fuel, frz, h.obj]
    simp only [List.length_cons, List.length_nil, Nat.zero_add, Nat.reduceAdd, if_true, List.mapM_cons, List.mapM_nil, r1.frz, r2.frz, r3.frz]
    rfl
  simp only [frzL, List.mapM_cons, e1]
  cases List.mapM (frz H fuel) l <;> rfl
/-- What the two become, if it fits. -/
noncomputable def adK (c d : Cat) (F T I : List Int) : Cat := if FitA c d F.length then ⟨c.o + d.o, F, T, I, tbl (kA c d F T) F T⟩ else zeroK
def V_addE (dq nB mB n : Nat) : Vc :=
  .op true (.p (.fad 0) [.t dq]) <|
  .op true (.p (.ld none) [.t n]) <|
  .op true (.p (.bin .gtr) [.t (n + 1), .c (int 8)]) <|
  .br (n + 2)
  (.op true (.p (.mka [int 0, .nil, .nil, .nil, .nil] []) []) <|
  .op true (.st 5 (.t 5) (.t (n + 3))) <|
  .ret [(.t 5, some (some 5)), (.c (bool false), none)])
  (.op true (.call (.f 26) [.t dq]) <|
  .op true (.p (.bin .gtr) [.t (n + 3), .c (int 40)]) <|
  .br (n + 4)
  (.op true (.p (.mka [int 0, .nil, .nil, .nil, .nil] []) []) <|
  .op true (.st 5 (.t 5) (.t (n + 5))) <|
  .ret [(.t 5, some (some 5)), (.c (bool false), none)])
  (.op true (.p (.mkf 428) [.t mB, .t 3, .t 55, .t 4, .t dq, .t nB]) <|
  .op true (.callm (.f 353) [.t dq, .t (n + 5)]) <|
  .op true (.p (.ld (some 5)) [.t dq]) <|
  .op true (.st 5 (.t 5) (.t (n + 7))) <|
  .ret [(.t 5, some (some 5)), (.c (bool true), none)]))
def V_addT (dq nB mB : Nat) : Vc :=
  .op true (.p (.ld none) [.t 4]) <|
  .op true (.p .nck [.t 40]) <|
  .op true (.p (.fad 1) [.t 41]) <|
  .op true (.p (.ld none) [.t 42]) <|
  .op true (.p .len [.t 43]) <|
  .loop 0 [.c (int 0)] <|
  .op true (.p (.bin .lss) [.t 45, .t 44]) <|
  .br 46
  (.op true (.p (.fad 1) [.t dq]) <|
  .op true (.p (.ld none) [.t 47]) <|
  .op true (.p (.ld none) [.t nB]) <|
  .op true (.p (.ld none) [.t 4]) <|
  .op true (.p .nck [.t 50]) <|
  .op true (.p (.fad 1) [.t 51]) <|
  .op true (.p (.ld none) [.t 52]) <|
  .op true (.p (.iad 1) [.t 53, .t 45]) <|
  .op true (.p (.ld none) [.t 54]) <|
  .op true (.p (.bin .add) [.t 49, .t 55]) <|
  .op true (.p (.msl 1 [int 0] [(0, 1)]) [.t 56]) <|
  .op true (.app 1 (.t 48) (.t 57)) <|
  .op true (.p (.fad 1) [.t dq]) <|
  .op true (.st 1 (.t 59) (.t 58)) <|
  .op true (.p (.fad 2) [.t dq]) <|
  .op true (.p (.ld none) [.t 61]) <|
  .op true (.p (.ld none) [.t nB]) <|
  .op true (.p (.ld none) [.t 4]) <|
  .op true (.p .nck [.t 64]) <|
  .op true (.p (.fad 2) [.t 65]) <|
  .op true (.p (.ld none) [.t 66]) <|
  .op true (.p (.iad 1) [.t 67, .t 45]) <|
  .op true (.p (.ld none) [.t 68]) <|
  .op true (.p (.bin .add) [.t 63, .t 69]) <|
  .op true (.p (.msl 1 [int 0] [(0, 1)]) [.t 70]) <|
  .op true (.app 1 (.t 62) (.t 71)) <|
  .op true (.p (.fad 2) [.t dq]) <|
  .op true (.st 1 (.t 73) (.t 72)) <|
  .op true (.p (.bin .add) [.t 45, .c (int 1)]) <|
  .again 0 [.t 75])
  (.op true (.p (.ld none) [.t 4]) <|
  .op true (.p .nck [.t 47]) <|
  .op true (.p (.fad 3) [.t 48]) <|
  .op true (.p (.ld none) [.t 49]) <|
  .op true (.p .len [.t 50]) <|
  .loop 0 [.c (int 0)] <|
  .op true (.p (.bin .lss) [.t 52, .t 51]) <|
  .br 53
  (.op true (.p (.iad 1) [.t 50, .t 52]) <|
  .op true (.p (.ld none) [.t 54]) <|
  .op true (.p (.fad 3) [.t dq]) <|
  .op true (.p (.ld none) [.t 56]) <|
  .op true (.p (.ld none) [.t mB]) <|
  .op true (.p (.bin .add) [.t 58, .t 55]) <|
  .op true (.p (.msl 1 [int 0] [(0, 1)]) [.t 59]) <|
  .op true (.app 1 (.t 57) (.t 60)) <|
  .op true (.p (.fad 3) [.t dq]) <|
  .op true (.st 1 (.t 62) (.t 61)) <|
  .op true (.p (.bin .add) [.t 52, .c (int 1)]) <|
  .again 0 [.t 64])
  (.op true (.call (.f 26) [.t dq]) <|
  .op true (.new [int 0]) <|
  .op true (.st 1 (.t 55) (.t 54)) <|
  .br 2
  (.loop 0 [.c (int 0)] <|
  .op true (.p (.ld none) [.t nB]) <|
  .op true (.p (.bin .lss) [.t 57, .t 58]) <|
  .br 59
  (.loop 1 [.c (int 0)] <|
  .op true (.p (.ld none) [.t 4]) <|
  .op true (.p .nck [.t 61]) <|
  .op true (.p (.fad 0) [.t 62]) <|
  .op true (.p (.ld none) [.t 63]) <|
  .op true (.p (.bin .lss) [.t 60, .t 64]) <|
  .br 65
  (.op true (.p (.fad 1) [.t dq]) <|
  .op true (.p (.ld none) [.t 66]) <|
  .op true (.p (.msl 1 [int 0] [(0, 1)]) [.t 57]) <|
  .op true (.app 1 (.t 67) (.t 68)) <|
  .op true (.p (.fad 1) [.t dq]) <|
  .op true (.st 1 (.t 70) (.t 69)) <|
  .op true (.p (.fad 2) [.t dq]) <|
  .op true (.p (.ld none) [.t 72]) <|
  .op true (.p (.ld none) [.t nB]) <|
  .op true (.p (.bin .add) [.t 74, .t 60]) <|
  .op true (.p (.msl 1 [int 0] [(0, 1)]) [.t 75]) <|
  .op true (.app 1 (.t 73) (.t 76)) <|
  .op true (.p (.fad 2) [.t dq]) <|
  .op true (.st 1 (.t 78) (.t 77)) <|
  .op true (.p (.bin .add) [.t 60, .c (int 1)]) <|
  .again 1 [.t 80])
  (.op true (.p (.bin .add) [.t 57, .c (int 1)]) <|
  .again 0 [.t 66]))
  (V_addE dq nB mB 60))
  (V_addE dq nB mB 57)))
def V_addH (nB mB : Nat) : Vc :=
  .op true (.p (.ld none) [.t nB]) <|
  .op true (.p (.ld none) [.t 4]) <|
  .op true (.p .nck [.t 17]) <|
  .op true (.p (.fad 0) [.t 18]) <|
  .op true (.p (.ld none) [.t 19]) <|
  .op false (.p (.bin .add) [.t 16, .t 20]) <|
  .op true (.p (.ld none) [.t 3]) <|
  .op true (.p .nck [.t 22]) <|
  .op true (.p (.fad 1) [.t 23]) <|
  .op true (.p (.ld none) [.t 24]) <|
  .op true (.p (.ld none) [.t 3]) <|
  .op true (.p .nck [.t 26]) <|
  .op true (.p (.fad 2) [.t 27]) <|
  .op true (.p (.ld none) [.t 28]) <|
  .op true (.p (.ld none) [.t 3]) <|
  .op true (.p .nck [.t 30]) <|
  .op true (.p (.fad 3) [.t 31]) <|
  .op true (.p (.ld none) [.t 32]) <|
  .both
  (.op true (.callo (.f 261) [.t 25]) <|
  .both
  (.op true (.callo (.f 261) [.t 29]) <|
  .both
  (.op true (.callo (.f 261) [.t 33]) <|
  .op true (.new [int 0, .nil, .nil, .nil, .nil]) <|
  .op false (.p (.mka [int 0, .nil, .nil, .nil, .nil] [(0, 1), (1, 1), (2, 1), (3, 1)]) [.t 21, .t 34, .t 35, .t 36]) <|
  .op true (.st 5 (.t 37) (.t 38)) <|
  V_addT 37 nB mB)
  (.op true (.new [int 0, .nil, .nil, .nil, .nil]) <|
  .op true (.callo (.f 261) [.t 33]) <|
  .op false (.p (.mka [int 0, .nil, .nil, .nil, .nil] [(0, 1), (1, 1), (2, 1), (3, 1)]) [.t 21, .t 34, .t 35, .t 37]) <|
  .op true (.st 5 (.t 36) (.t 38)) <|
  V_addT 36 nB mB))
  (.op true (.new [int 0, .nil, .nil, .nil, .nil]) <|
  .op true (.callo (.f 261) [.t 29]) <|
  .op true (.callo (.f 261) [.t 33]) <|
  .op false (.p (.mka [int 0, .nil, .nil, .nil, .nil] [(0, 1), (1, 1), (2, 1), (3, 1)]) [.t 21, .t 34, .t 36, .t 37]) <|
  .op true (.st 5 (.t 35) (.t 38)) <|
  V_addT 35 nB mB))
  (.op true (.new [int 0, .nil, .nil, .nil, .nil]) <|
  .op true (.callo (.f 261) [.t 25]) <|
  .op true (.callo (.f 261) [.t 29]) <|
  .op true (.callo (.f 261) [.t 33]) <|
  .op false (.p (.mka [int 0, .nil, .nil, .nil, .nil] [(0, 1), (1, 1), (2, 1), (3, 1)]) [.t 21, .t 35, .t 36, .t 37]) <|
  .op true (.st 5 (.t 34) (.t 38)) <|
  V_addT 34 nB mB)
def V_added : Vc :=
  .op true (.p .box [.t 0]) <|
  .op true (.p .box [.t 1]) <|
  .op true (.new [int 0, .nil, .nil, .nil, .nil]) <|
  .op true (.p (.ld none) [.t 3]) <|
  .op true (.p .nck [.t 6]) <|
  .op true (.p (.fad 0) [.t 7]) <|
  .op true (.p (.ld none) [.t 8]) <|
  .op true (.p (.ld none) [.t 3]) <|
  .op true (.call (.f 26) [.t 10]) <|
  .both
   (.op true (.new [int 0]) <|
   .op true (.new [int 0]) <|
   .op true (.st 1 (.t 12) (.t 9)) <|
   .op true (.st 1 (.t 13) (.t 11)) <|
   V_addH 12 13)
   (.op true (.new [int 0]) <|
   .op true (.new [int 0]) <|
   .op true (.st 1 (.t 13) (.t 9)) <|
   .op true (.st 1 (.t 12) (.t 11)) <|
   V_addH 13 12)
set_option maxHeartbeats 4000000 in
theorem addE_ok (har : Has P ν 26 1 V_Category_arrows) (hth : Has P ν 34 3 V_Category_then) (hir : Has P ν 32 3 V_inRange) (hta : Has P ν 353 2 V_Category_table) (h1 : Has P ν 428 8 V_added_1) {c d : Cat} (s : Shape c) (t : Shape d) {vars : Nat → AV} {H : Hp} {nx hi lo q oN oM oR dq nB mB n : Nat} {Is : Nat → Inv} (hn : n = 57 ∨ n = 60) (hdq : dq < 40) (hnB : nB < 40) (hmB : mB < 40)
    (v3 : vars 3 = .ptr [.ptr c.cells 0] 0) (v4 : vars 4 = .ptr [.ptr d.cells 0] 0) (v5 : vars 5 = .mp nx 0 5) (vq : vars dq = .mp q 0 5) (vn : vars nB = .mp oN 0 1) (vm : vars mB = .mp oM 0 1) (v55 : vars 55 = .mp oR 0 1)
    {F T I : List Int} {va vb vd : AV} {s1 s2 s3 : Option Nat} (ad : AdM c nx lo oN oM H) (hr : H oR = some [int (rS c d)]) (rq : oR ≠ q) (rh : oR < hi) (out : Out3 q (c.o + d.o) F T I [] va vb vd .nil s1 s2 s3 H lo hi) (hFT : T.length = F.length) (hF140 : F.length ≤ 4096)
    (hK : ∀ a b, a < F.length → b < F.length → T.getD a 0 = F.getD b 0 → c.f.length ≤ a → a < rS c d → c.f.length ≤ b ∧ b < rS c d) (hF : ∀ a, a < F.length → 0 ≤ F.getD a 0 ∧ F.getD a 0 ≤ 16) (hT : ∀ a, a < F.length → 0 ≤ T.getD a 0 ∧ T.getD a 0 ≤ 16) :
    den (OkM P ν) (IsKV (adK c d F T I) (bool (decide (FitA c d F.length))) nx) (V_addE dq nB mB n) n vars H hi Is := by
  unfold V_addE
  have n40 := s.n40
  have o8 := s.o8
  have o0 := s.o0
  have n40' := t.n40
  have o8' := t.o8
  have o0' := t.o0
  have qh := out.qh
  have ql := out.ql
  have ly := ad.ly
  have ln := ad.ln
  have lm := ad.lm
  have dqp : ∀ (e : Nat → AV) (k : Nat) (u : AV), put e (k + 40) u dq = e dq := fun e k u => by simp only [put]; rw [if_neg (by omega)]
  have nBp : ∀ (e : Nat → AV) (k : Nat) (u : AV), put e (k + 40) u nB = e nB := fun e k u => by simp only [put]; rw [if_neg (by omega)]
  have mBp : ∀ (e : Nat → AV) (k : Nat) (u : AV), put e (k + 40) u mB = e mB := fun e k u => by simp only [put]; rw [if_neg (by omega)]
  have bad : ∀ (H : Hp), ¬ FitA c d F.length → ∃ H', Sub H' H ∧ IsKV (adK c d F T I) (bool (decide (FitA c d F.length))) nx (.tup [.agg [int 0, .nil, .nil, .nil, .nil], bool false]) H' hi := fun H hk => by
    rw [adK, if_neg hk, decide_eq_false hk]
    exact (zeroK_own (H := H) (lo := nx) (hi := hi)).back (Nat.le_refl _) (by omega)
  have cl : ∀ (a b : Nat) (H' : Hp), a < F.length → b < F.length → T.getD a 0 = F.getD b 0 → MidT H hi q [int (c.o + d.o), va, vb, vd] F.length H' → ∃ ys, frzL H' [.mp oM 0 1, .ptr [.ptr c.cells 0] 0, .mp oR 0 1, .ptr [.ptr d.cells 0] 0, .mp q 0 5, .mp oN 0 1] = some ys ∧ Fz (OkM P ν) 428 ([int a, int b] ++ ys) (int (kA c d F T a b)) := by
    intro a b H' ha hb he mid
    obtain ⟨m1, m2, ds, m3⟩ := mid
    have e1 := (m1 oM (by omega) (by omega)).trans ad.m
    have e2 := (m1 oN (by omega) (by omega)).trans ad.n
    have e3 := (m1 oR rh rq).trans hr
    have r1 := (out.g1.kept (H' := H') fun o ho => m1 o (out.r1 o ho).2.1 (out.r1 o ho).2.2).rd (lim := fun _ => True) fun _ _ => trivial
    have r2 := (out.g2.kept (H' := H') fun o ho => m1 o (out.r2 o ho).2.1 (out.r2 o ho).2.2).rd (lim := fun _ => True) fun _ _ => trivial
    have r3 := (out.g3.kept (H' := H') fun o ho => m1 o (out.r3 o ho).2.1 (out.r3 o ho).2.2).rd (lim := fun _ => True) fun _ _ => trivial
    have m3 := m3 2
    have x1 : frz H' fuel (.mp q 0 5) = some (.ptr [int (c.o + d.o), islice F, islice T, islice I, .sl ds F.length] 0) := by
      simp only [fuel, frz, m2]
      simp only [List.cons_append, List.nil_append, List.length_cons, List.length_nil, Nat.zero_add, Nat.reduceAdd, if_true, List.mapM_cons, List.mapM_nil, r1.frz, r2.frz, r3.frz, m3]
      rfl
    have x2 : frz H' fuel (.mp oM 0 1) = some (.ptr [int c.f.length] 0) := by simp only [fuel, frz, e1]; rfl
    have x3 : frz H' fuel (.mp oN 0 1) = some (.ptr [int c.o] 0) := by simp only [fuel, frz, e2]; rfl
    have x4 : frz H' fuel (.mp oR 0 1) = some (.ptr [int (rS c d)] 0) := by simp only [fuel, frz, e3]; rfl
    refine ⟨[.ptr [int c.f.length] 0, .ptr [.ptr c.cells 0] 0, .ptr [int (rS c d)] 0, .ptr [.ptr d.cells 0] 0, .ptr [int (c.o + d.o), islice F, islice T, islice I, .sl ds F.length] 0, .ptr [int c.o] 0], ?_, ?_⟩
    · simp only [frzL, List.mapM_cons, List.mapM_nil, x1, x2, x3, x4]
      rfl
    · exact added1_fz hth hir h1 c d s t F T I _ a b ha (by omega) hF140 (hK a b ha hb he) (hF a ha) (hT b hb)
  have mf : ∀ H : Hp, pvf H (.mkf 428) [.mp oM 0 1, .ptr [.ptr c.cells 0] 0, .mp oR 0 1, .ptr [.ptr d.cells 0] 0, .mp q 0 5, .mp oN 0 1] = some (.fn 428 [.mp oM 0 1, .ptr [.ptr c.cells 0] 0, .mp oR 0 1, .ptr [.ptr d.cells 0] 0, .mp q 0 5, .mp oN 0 1]) := fun _ => rfl
  rcases hn with rfl | rfl
  all_goals
    try simp (disch := (first | rfl | with_reducible assumption | with_reducible solve_by_elim (maxDepth := 8) [Shape.inT, Shape.inI, Shape.inC, Shape.inK, Shape.obF, Shape.obT, Shape.arI, Arr.inF] | omega)) only [S2, Nat.reduceEqDiff, Nat.reduceAdd, iput, puts, dqp, vq, v5, p_fadm (l := 5) out.obj rfl, p_ldm (n := 5) out.obj rfl]
    refine ⟨fun g1 => ?_, fun g1 => ?_⟩
    · try simp (disch := (first | rfl | with_reducible assumption | with_reducible solve_by_elim (maxDepth := 8) [Shape.inT, Shape.inI, Shape.inC, Shape.inK, Shape.obF, Shape.obT, Shape.arI, Arr.inF] | omega)) only [S2, Nat.reduceEqDiff, Nat.reduceAdd, iput, puts, mkZ, v5]
      refine den_stR (o := nx) (m := 5) (d := [int 0, .nil, .nil, .nil, .nil]) (by simp only [SS, Nat.reduceEqDiff, Nat.reduceAdd, iput, puts, v5]) rfl ad.y rfl rfl rfl fun H3 y3 e3 => ?_
      obtain ⟨H', q1, q2⟩ := bad H3 (fun f => by have := f.1; omega)
      refine ⟨.tup [.agg [int 0, .nil, .nil, .nil, .nil], bool false], ?_, H', q1, q2⟩
      simp only [retOf, rets, SS, Nat.reduceEqDiff, Nat.reduceAdd, iput, puts, v5, pLd, y3]
      rfl
    refine den_call (fc := (26, [])) (ys := [.ptr (Cat.mk (c.o + d.o) F T I []).cells 0]) rfl ?_ (arrows_ok har ⟨c.o + d.o, F, T, I, []⟩).fzi ?_
    · simp only [List.map_cons, List.map_nil, ev_t, SS, Nat.reduceEqDiff, Nat.reduceAdd, iput, puts, dqp, vq, List.nil_append, List.append_nil, List.cons_append]
      rw [out.frzO]
      rfl
    try simp (disch := (first | rfl | with_reducible assumption | with_reducible solve_by_elim (maxDepth := 8) [Shape.inT, Shape.inI, Shape.inC, Shape.inK, Shape.obF, Shape.obT, Shape.arI, Arr.inF] | omega)) only [S2, Nat.reduceEqDiff, Nat.reduceAdd, iput, puts, dqp, vq, v5]
    refine ⟨fun g2 => ?_, fun g2 => ?_⟩
    · try simp (disch := (first | rfl | with_reducible assumption | with_reducible solve_by_elim (maxDepth := 8) [Shape.inT, Shape.inI, Shape.inC, Shape.inK, Shape.obF, Shape.obT, Shape.arI, Arr.inF] | omega)) only [S2, Nat.reduceEqDiff, Nat.reduceAdd, iput, puts, mkZ, v5]
      refine den_stR (o := nx) (m := 5) (d := [int 0, .nil, .nil, .nil, .nil]) (by simp only [SS, Nat.reduceEqDiff, Nat.reduceAdd, iput, puts, v5]) rfl ad.y rfl rfl rfl fun H3 y3 e3 => ?_
      obtain ⟨H', q1, q2⟩ := bad H3 (fun f => by have := f.2; omega)
      refine ⟨.tup [.agg [int 0, .nil, .nil, .nil, .nil], bool false], ?_, H', q1, q2⟩
      simp only [retOf, rets, SS, Nat.reduceEqDiff, Nat.reduceAdd, iput, puts, v5, pLd, y3]
      rfl
    have fit : FitA c d F.length := ⟨by omega, by omega⟩
    try simp (disch := (first | rfl | with_reducible assumption | with_reducible solve_by_elim (maxDepth := 8) [Shape.inT, Shape.inI, Shape.inC, Shape.inK, Shape.obF, Shape.obT, Shape.arI, Arr.inF] | omega)) only [S2, Nat.reduceEqDiff, Nat.reduceAdd, iput, puts, dqp, nBp, mBp, vq, vn, vm, v3, v4, v5, v55, mf]
    refine den_callm (fc := (353, [])) (by first | rfl | simp only [SS, Nat.reduceEqDiff, Nat.reduceAdd, iput, puts, fnOf]) (Eq.subst (motive := fun l => OkM P ν 353 l H hi _) ?_ (table_ok har hta (kA c d F T) (c.o + d.o) va vb vd F T I 428 _ q H hi out.obj qh (out.g1.rd fun o ho => (out.r1 o ho).2) (out.g2.rd fun o ho => (out.r2 o ho).2) (out.g3.rd fun o ho => (out.r3 o ho).2) hFT (by omega) cl)) (IsTbl.some' qh) fun u H3 n3 hu => ?_
    · simp only [List.map_cons, List.map_nil, ev_t, SS, Nat.reduceEqDiff, Nat.reduceAdd, iput, puts, dqp, vq, List.nil_append, List.append_nil, List.cons_append]
    obtain ⟨rfl, rfl, hTb⟩ := hu
    have out3 := out.table hTb
    have y3 := (hTb.low nx (by omega) (by omega)).trans ad.y
    try simp (disch := (first | rfl | with_reducible assumption | with_reducible solve_by_elim (maxDepth := 8) [Shape.inT, Shape.inI, Shape.inC, Shape.inK, Shape.obF, Shape.obT, Shape.arI, Arr.inF] | omega)) only [S2, Nat.reduceEqDiff, Nat.reduceAdd, iput, puts, dqp, vq, v5, p_ldsm (l := 5) out3.obj rfl]
    refine den_stR (o := nx) (m := 5) (d := [int (c.o + d.o), va, vb, vd, .ms hi 0 (tbl (kA c d F T) F T).length 1]) (by simp only [SS, Nat.reduceEqDiff, Nat.reduceAdd, iput, puts, v5]) rfl y3 rfl rfl out3.ones fun H4 y4 e4 => ?_
    have out4 := out3.mono (H' := H4) (Nat.le_refl _) fun t h1 _ => e4 t (by omega)
    obtain ⟨H5, q4, q5⟩ := out4.own.back (w := bool true) (nx := nx) (by omega) (by omega)
    refine ⟨.tup [.agg [int (c.o + d.o), va, vb, vd, .ms hi 0 (tbl (kA c d F T) F T).length 1], bool true], ?_, H5, q4, ?_⟩
    · simp only [retOf, rets, SS, Nat.reduceEqDiff, Nat.reduceAdd, iput, puts, v5, pLd, y4]
      rfl
    · rw [adK, if_pos fit, decide_eq_true fit]; exact q5

/-- The box of the count stays. -/
structure BoxR (o : Nat) (v : Int) (s1 s2 : Option Nat) (H : Hp) (nx : Nat) : Prop where
  v : H o = some [int v]
  lt : o < nx
  a1 : s1 ≠ some o
  a2 : s2 ≠ some o
theorem BoxR.step1 {o q : Nat} {v : Int} {s1 s2 : Option Nat} {H H' : Hp} {nx nx' : Nat} (h : BoxR o v s1 s2 H nx) (hq : o ≠ q) (hk : ∀ t, t < nx → t ≠ q → s1 ≠ some t → H' t = H t) (hn : nx ≤ nx') : BoxR o v (some (s1.getD nx)) s2 H' nx' := by
  have lt := h.lt
  refine ⟨(hk o h.lt hq h.a1).trans h.v, by omega, fun e => ?_, h.a2⟩
  have a1 := h.a1
  cases s1 with
  | none => simp at e; omega
  | some x => simp at e; exact a1 (by rw [e])
theorem BoxR.step2 {o q : Nat} {v : Int} {s1 s2 : Option Nat} {H H' : Hp} {nx nx' : Nat} (h : BoxR o v s1 s2 H nx) (hq : o ≠ q) (hk : ∀ t, t < nx → t ≠ q → s2 ≠ some t → H' t = H t) (hn : nx ≤ nx') : BoxR o v s1 (some (s2.getD nx)) H' nx' := by
  have lt := h.lt
  refine ⟨(hk o h.lt hq h.a2).trans h.v, by omega, h.a1, fun e => ?_⟩
  have a2 := h.a2
  cases s2 with
  | none => simp at e; omega
  | some x => simp at e; exact a2 (by rw [e])
def glS (n : Nat) (p : Nat → Int) : List Int := (List.range n).map p
theorem glS_succ {n : Nat} {p : Nat → Int} : glS (n + 1) p = glS n p ++ [p n] := by simp [glS, List.range_succ]
theorem glS_len {n : Nat} {p : Nat → Int} : (glS n p).length = n := by simp [glS]
theorem glS_at {n i : Nat} {p : Nat → Int} (h : i < n) : (glS n p).getD i 0 = p i := by simp [glS, List.getD, h]
theorem iyd {a b m : Nat} (h : b < m) : (a * m + b) / m = a := by rw [Nat.add_comm, Nat.add_mul_div_right _ _ (by omega), Nat.div_eq_of_lt h, Nat.zero_add]
theorem iym {a b m : Nat} (h : b < m) : (a * m + b) % m = b := by rw [Nat.add_comm, Nat.add_mul_mod_self_right, Nat.mod_eq_of_lt h]
theorem iylt {a b n m : Nat} (ha : a < n) (h : b < m) : a * m + b < n * m := by
  have : (a + 1) * m ≤ n * m := Nat.mul_le_mul_right _ ha
  rw [Nat.succ_mul] at this
  omega
theorem iys {a m : Nat} : a * m + m = (a + 1) * m := by rw [Nat.succ_mul]
theorem div_ltY {k n m : Nat} (h : k < n * m) : k / m < n ∧ k % m < m := by
  have hm : 0 < m := by
    cases m with
    | zero => simp at h
    | succ m => omega
  exact ⟨(Nat.div_lt_iff_lt_mul hm).2 h, Nat.mod_lt _ hm⟩
section
variable (c d : Cat)
def pL (k : Nat) : Int := ((k / d.o.toNat : Nat) : Int)
def pR (k : Nat) : Int := c.o + ((k % d.o.toNat : Nat) : Int)
def nJ : Nat := c.o.toNat * d.o.toNat
def fJ : List Int := fS c d ++ glS (nJ c d) (pL d)
def tJ : List Int := tS c d ++ glS (nJ c d) (pR c d)
end
section
variable {c d : Cat}
theorem fJ_len : (fJ c d).length = rS c d + nJ c d := by simp [fJ, fS_len, glS_len]
theorem tJ_len (s : Shape c) (t : Shape d) : (tJ c d).length = rS c d + nJ c d := by simp [tJ, tS_len s t, glS_len]
theorem fJ_lo {a : Nat} (h : a < rS c d) : (fJ c d).getD a 0 = (fS c d).getD a 0 := app_lo (by rw [fS_len]; exact h)
theorem tJ_lo (s : Shape c) (t : Shape d) {a : Nat} (h : a < rS c d) : (tJ c d).getD a 0 = (tS c d).getD a 0 := app_lo (by rw [tS_len s t]; exact h)
theorem fJ_hi {a : Nat} (h : rS c d ≤ a) (h2 : a < rS c d + nJ c d) : (fJ c d).getD a 0 = pL d (a - rS c d) := by
  unfold fJ; rw [app_hi (by rw [fS_len]; exact h), fS_len, glS_at (by omega)]
theorem tJ_hi (s : Shape c) (t : Shape d) {a : Nat} (h : rS c d ≤ a) (h2 : a < rS c d + nJ c d) : (tJ c d).getD a 0 = pR c d (a - rS c d) := by
  unfold tJ; rw [app_hi (by rw [tS_len s t]; exact h), tS_len s t, glS_at (by omega)]
theorem nJ_le (s : Shape c) (t : Shape d) : nJ c d ≤ 64 := by
  have o8 := s.o8
  have o8' := t.o8
  exact Nat.mul_le_mul (show c.o.toNat ≤ 8 by omega) (show d.o.toNat ≤ 8 by omega)
theorem pL_bd {k : Nat} (s : Shape c) (h : k < nJ c d) : 0 ≤ pL d k ∧ pL d k < c.o := by
  have := (div_ltY h).1
  unfold pL; generalize k / d.o.toNat = z at this ⊢; omega
theorem pR_bd {k : Nat} (s : Shape c) (h : k < nJ c d) : c.o ≤ pR c d k ∧ pR c d k < c.o + d.o := by
  have := (div_ltY h).2
  unfold pR; generalize k % d.o.toNat = z at this ⊢; omega
theorem fJ_ob (s : Shape c) (t : Shape d) {a : Nat} (h : a < rS c d + nJ c d) : 0 ≤ (fJ c d).getD a 0 ∧ (fJ c d).getD a 0 < c.o + d.o := by
  have o0' := t.o0
  by_cases e : a < rS c d
  · rw [fJ_lo e]; exact fS_ob s t e
  · rw [fJ_hi (by omega) h]; have q := pL_bd (d := d) s (k := a - rS c d) (by omega); have := q.1; have := q.2; omega
theorem tJ_ob (s : Shape c) (t : Shape d) {a : Nat} (h : a < rS c d + nJ c d) : 0 ≤ (tJ c d).getD a 0 ∧ (tJ c d).getD a 0 < c.o + d.o := by
  have o0 := s.o0
  by_cases e : a < rS c d
  · rw [tJ_lo s t e]; exact tS_ob s t e
  · rw [tJ_hi s t (by omega) h]; have q := pR_bd (d := d) s (k := a - rS c d) (by omega); have := q.1; have := q.2; omega
/-- An arrow of the second is followed by none but arrows of the second, also in the join. -/
theorem hi_thenJ (s : Shape c) (t : Shape d) {a b : Nat} (h1 : c.f.length ≤ a) (h2 : a < rS c d) (hb : b < rS c d + nJ c d) (e : (tJ c d).getD a 0 = (fJ c d).getD b 0) : c.f.length ≤ b ∧ b < rS c d := by
  rw [tJ_lo s t h2] at e
  rcases Nat.lt_or_ge b (rS c d) with h | h
  · rw [fJ_lo h] at e
    exact ⟨hi_then s t h1 h2 h e, h⟩
  · rw [fJ_hi h hb, tS_hi s t h1 h2] at e
    have q1 := (t.obT (hiArr (c := c) h1 h2)).1
    have q2 := (pL_bd (d := d) s (k := b - rS c d) (by omega)).2
    omega
end
theorem lenA {A l : List Int} {n : Int} {i : Nat} : (A ++ upL n (l.take i)).length ≤ A.length + l.length := by
  simp [upL_len]; omega
/-- What the program makes of the two. -/
def fB (c d : Cat) (b : Bool) : List Int := if b = true then fJ c d else fS c d
def tB (c d : Cat) (b : Bool) : List Int := if b = true then tJ c d else tS c d
noncomputable def addK (c d : Cat) (b : Bool) : Cat := adK c d (fB c d b) (tB c d b) (iS c d)
def FitB (c d : Cat) (b : Bool) : Prop := FitA c d (fB c d b).length
set_option maxHeartbeats 8000000 in
theorem addT_ok (har : Has P ν 26 1 V_Category_arrows) (hth : Has P ν 34 3 V_Category_then) (hir : Has P ν 32 3 V_inRange) (hta : Has P ν 353 2 V_Category_table) (h1 : Has P ν 428 8 V_added_1) {c d : Cat} (s : Shape c) (t : Shape d) (b : Bool) {vars : Nat → AV} {H : Hp} {nx hi lo q oN oM dq nB mB : Nat} {Is : Nat → Inv} (hdq : dq < 40) (hnB : nB < 40) (hmB : mB < 40)
    (v2 : vars 2 = bool b) (v3 : vars 3 = .ptr [.ptr c.cells 0] 0) (v4 : vars 4 = .ptr [.ptr d.cells 0] 0) (v5 : vars 5 = .mp nx 0 5) (vq : vars dq = .mp q 0 5) (vn : vars nB = .mp oN 0 1) (vm : vars mB = .mp oM 0 1)
    {va vb vd : AV} {s1 s2 s3 : Option Nat} (ad : AdM c nx lo oN oM H) (out : Out3 q (c.o + d.o) c.f c.t c.i [] va vb vd .nil s1 s2 s3 H lo hi) :
    den (OkM P ν) (IsKV (addK c d b) (bool (decide (FitB c d b))) nx) (V_addT dq nB mB) 40 vars H hi Is := by
  unfold V_addT
  have n40 := s.n40
  have tl := s.tl
  have il := s.il
  have o8 := s.o8
  have o0 := s.o0
  have n40' := t.n40
  have tl' := t.tl
  have il' := t.il
  have o8' := t.o8
  have o0' := t.o0
  have ly := ad.ly
  have ln := ad.ln
  have lm := ad.lm
  have ql := out.ql
  have dqp : ∀ (e : Nat → AV) (k : Nat) (u : AV), put e (k + 40) u dq = e dq := fun e k u => by simp only [put]; rw [if_neg (by omega)]
  have nBp : ∀ (e : Nat → AV) (k : Nat) (u : AV), put e (k + 40) u nB = e nB := fun e k u => by simp only [put]; rw [if_neg (by omega)]
  have mBp : ∀ (e : Nat → AV) (k : Nat) (u : AV), put e (k + 40) u mB = e mB := fun e k u => by simp only [put]; rw [if_neg (by omega)]
  try simp (disch := (first | rfl | with_reducible assumption | with_reducible solve_by_elim (maxDepth := 8) [Shape.inT, Shape.inI, Shape.inC, Shape.inK, Shape.obF, Shape.obT, Shape.arI, Arr.inF] | omega)) only [S2, Nat.reduceEqDiff, Nat.reduceAdd, iput, puts, v4, p_ld0]
  -- arrows of the second
  refine den_loop (α := Nat × (AV × AV) × (Option Nat × Option Nat)) (fun a => [int a.1]) (fun a H' nx' => a.1 ≤ d.f.length ∧ Out3 q (c.o + d.o) (c.f ++ upL c.o (d.f.take a.1)) (c.t ++ upL c.o (d.t.take a.1)) c.i [] a.2.1.1 a.2.1.2 vd .nil a.2.2.1 a.2.2.2 s3 H' lo nx' ∧ AdM c nx lo oN oM H') (fun a => d.f.length - a.1) (0, (va, vb), s1, s2) rfl ⟨Nat.zero_le _, by simpa [upL] using out, ad⟩ ?_
  clear out ad va vb s1 s2 H hi
  rintro ⟨a, ⟨va, vb⟩, s1, s2⟩ H1 n1 ⟨ha, out, ad⟩
  simp only at ha out
  by_cases hla : a < d.f.length
  · have i2 : In d.f (a : Int) := In.nat hla
    have i4 : In d.t (a : Int) := In.nat (by omega)
    have g2 : gI d.f (a : Int) = d.F a := rfl
    have g4 : gI d.t (a : Int) = d.T a := rfl
    have aa : Arr d (a : Int) := ⟨by omega, by omega⟩
    have r2 := t.obF aa
    have r4 := t.obT aa
    have w3 : IntKind.i64.wrap (c.o + d.F a) = c.o + d.F a := wrap_id (by have := r2.1; omega) (by have := r2.2; omega)
    have w4 : IntKind.i64.wrap (c.o + d.T a) = c.o + d.T a := wrap_id (by have := r4.1; omega) (by have := r4.2; omega)
    have qh := out.qh
    have uF : upL c.o (d.f.take a) ++ [c.o + d.F a] = upL c.o (d.f.take (a + 1)) := upL_take hla
    have uT : upL c.o (d.t.take a) ++ [c.o + d.T a] = upL c.o (d.t.take (a + 1)) := upL_take (by omega)
    try simp (disch := (first | rfl | with_reducible assumption | with_reducible solve_by_elim (maxDepth := 8) [Shape.inT, Shape.inI, Shape.inC, Shape.inK, Shape.obF, Shape.obT, Shape.arI, Arr.inF] | omega)) only [S2, Nat.reduceEqDiff, Nat.reduceAdd, iput, puts, hla, v4, p_ld0, g2, w3, dqp, nBp, vq, vn, p_fadm (l := 5) out.obj rfl, p_ldm (n := 5) out.obj rfl, p_ldm (n := 1) ad.n rfl]
    refine den_out1 (m := [c.o + d.F a]) out (Nat.le_refl _) rfl rfl (by simp only [SS, Nat.reduceEqDiff, Nat.reduceAdd, iput, puts, dqp, vq]) (by omega) rfl rfl (by simp) (by have := lenA (A := c.f) (l := d.f) (n := c.o) (i := a); simp only [List.length_cons, List.length_nil]; omega) fun a6 H6 n6 out6 hn6 keep6 => ?_
    have ad6 := ad.mono (H' := H6) fun t ht => keep6 t (by omega) (by omega) fun ee => by have := out.r1 t ee; omega
    rw [List.append_assoc, uF] at out6
    try simp (disch := (first | rfl | with_reducible assumption | with_reducible solve_by_elim (maxDepth := 8) [Shape.inT, Shape.inI, Shape.inC, Shape.inK, Shape.obF, Shape.obT, Shape.arI, Arr.inF] | omega)) only [S2, Nat.reduceEqDiff, Nat.reduceAdd, iput, puts, v4, p_ld0, g4, w4, dqp, nBp, vq, vn, p_fadm (l := 5) out6.obj rfl, p_ldm (n := 5) out6.obj rfl, p_ldm (n := 1) ad6.n rfl]
    refine den_out2 (m := [c.o + d.T a]) out6 (Nat.le_refl _) rfl rfl (by simp only [SS, Nat.reduceEqDiff, Nat.reduceAdd, iput, puts, dqp, vq]) (by omega) rfl rfl (by simp) (by have := lenA (A := c.t) (l := d.t) (n := c.o) (i := a); simp only [List.length_cons, List.length_nil]; omega) fun b7 H7 n7 out7 hn7 keep7 => ?_
    have ad7 := ad6.mono (H' := H7) fun t ht => keep7 t (by omega) (by omega) fun ee => by have := out6.r2 t ee; omega
    rw [List.append_assoc, uT] at out7
    try simp (disch := (first | rfl | with_reducible assumption | with_reducible solve_by_elim (maxDepth := 8) [Shape.inT, Shape.inI, Shape.inC, Shape.inK, Shape.obF, Shape.obT, Shape.arI, Arr.inF] | omega)) only [S2, Nat.reduceEqDiff, Nat.reduceAdd, iput, puts]
    exact ⟨(a + 1, (a6, b7), some (s1.getD n1), some (s2.getD n6)), rfl, ⟨hla, out7, ad7⟩, by simp only; omega⟩
  have hae : a = d.f.length := by omega
  subst hae
  rw [show c.f ++ upL c.o (d.f.take d.f.length) = fS c d by rw [List.take_length]; rfl, show c.t ++ upL c.o (d.t.take d.f.length) = tS c d by rw [← tl', List.take_length]; rfl] at out
  try simp (disch := (first | rfl | with_reducible assumption | with_reducible solve_by_elim (maxDepth := 8) [Shape.inT, Shape.inI, Shape.inC, Shape.inK, Shape.obF, Shape.obT, Shape.arI, Arr.inF] | omega)) only [S2, Nat.reduceEqDiff, Nat.reduceAdd, iput, puts, hla, v4, p_ld0]
  -- identities of the second
  refine den_loop (α := Nat × AV × Option Nat) (fun a => [int a.1]) (fun a H' nx' => a.1 ≤ d.i.length ∧ Out3 q (c.o + d.o) (fS c d) (tS c d) (c.i ++ upL c.f.length (d.i.take a.1)) [] va vb a.2.1 .nil s1 s2 a.2.2 H' lo nx' ∧ AdM c nx lo oN oM H') (fun a => d.i.length - a.1) (0, vd, s3) rfl ⟨Nat.zero_le _, by simpa [upL] using out, ad⟩ ?_
  clear out ad H1 n1
  rintro ⟨x, vd, s3⟩ H1 n1 ⟨hx, out, ad⟩
  simp only at hx out
  by_cases hlx : x < d.i.length
  · have ox := t.obI hlx
    have i1 : In d.i (x : Int) := t.inI ox
    have g1 : gI d.i (x : Int) = d.I x := rfl
    have r2 := t.arI ox
    have w3 : IntKind.i64.wrap ((c.f.length : Int) + d.I x) = (c.f.length : Int) + d.I x := wrap_id (by have := r2.1; omega) (by have := r2.2; omega)
    have qh := out.qh
    have uI : upL c.f.length (d.i.take x) ++ [(c.f.length : Int) + d.I x] = upL c.f.length (d.i.take (x + 1)) := upL_take hlx
    try simp (disch := (first | rfl | with_reducible assumption | with_reducible solve_by_elim (maxDepth := 8) [Shape.inT, Shape.inI, Shape.inC, Shape.inK, Shape.obF, Shape.obT, Shape.arI, Arr.inF] | omega)) only [S2, Nat.reduceEqDiff, Nat.reduceAdd, iput, puts, hlx, p_ld0, g1, w3, dqp, mBp, vq, vm, p_fadm (l := 5) out.obj rfl, p_ldm (n := 5) out.obj rfl, p_ldm (n := 1) ad.m rfl]
    refine den_out3 (m := [(c.f.length : Int) + d.I x]) out (Nat.le_refl _) rfl rfl (by simp only [SS, Nat.reduceEqDiff, Nat.reduceAdd, iput, puts, dqp, vq]) (by omega) rfl rfl (by simp) (by have := lenA (A := c.i) (l := d.i) (n := c.f.length) (i := x); simp only [List.length_cons, List.length_nil]; omega) fun a6 H6 n6 out6 hn6 keep6 => ?_
    have ad6 := ad.mono (H' := H6) fun t ht => keep6 t (by omega) (by omega) fun ee => by have := out.r3 t ee; omega
    rw [List.append_assoc, uI] at out6
    try simp (disch := (first | rfl | with_reducible assumption | with_reducible solve_by_elim (maxDepth := 8) [Shape.inT, Shape.inI, Shape.inC, Shape.inK, Shape.obF, Shape.obT, Shape.arI, Arr.inF] | omega)) only [S2, Nat.reduceEqDiff, Nat.reduceAdd, iput, puts]
    exact ⟨(x + 1, a6, some (s3.getD n1)), rfl, ⟨hlx, out6, ad6⟩, by simp only; omega⟩
  have hxe : x = d.i.length := by omega
  subst hxe
  rw [show c.i ++ upL c.f.length (d.i.take d.i.length) = iS c d by rw [List.take_length]; rfl] at out
  try simp (disch := (first | rfl | with_reducible assumption | with_reducible solve_by_elim (maxDepth := 8) [Shape.inT, Shape.inI, Shape.inC, Shape.inK, Shape.obF, Shape.obT, Shape.arI, Arr.inF] | omega)) only [S2, Nat.reduceEqDiff, Nat.reduceAdd, iput, puts, hlx, dqp, vq]
  refine den_call (fc := (26, [])) (ys := [.ptr (Cat.mk (c.o + d.o) (fS c d) (tS c d) (iS c d) []).cells 0]) rfl ?_ (arrows_ok har ⟨c.o + d.o, fS c d, tS c d, iS c d, []⟩).fzi ?_
  · simp only [List.map_cons, List.map_nil, ev_t, SS, Nat.reduceEqDiff, Nat.reduceAdd, iput, puts, dqp, vq, List.nil_append, List.append_nil, List.cons_append]
    rw [out.frzO]
    rfl
  try simp (disch := (first | rfl | with_reducible assumption | with_reducible solve_by_elim (maxDepth := 8) [Shape.inT, Shape.inI, Shape.inC, Shape.inK, Shape.obF, Shape.obT, Shape.arI, Arr.inF] | omega)) only [S2, Nat.reduceEqDiff, Nat.reduceAdd, iput, puts]
  refine den_newR fun H2 b2 e2 => ?_
  try simp (disch := (first | rfl | with_reducible assumption | with_reducible solve_by_elim (maxDepth := 8) [Shape.inT, Shape.inI, Shape.inC, Shape.inK, Shape.obF, Shape.obT, Shape.arI, Arr.inF] | omega)) only [S2, Nat.reduceEqDiff, Nat.reduceAdd, iput, puts]
  refine den_st1G (o := n1) (p := 0) (m := 1) (u := int ((fS c d).length : Int)) rfl rfl b2 rfl (by omega) rfl fun H3 b3 e3 => ?_
  have b3 : H3 n1 = some [int (rS c d)] := by rw [← fS_len (c := c) (d := d)]; exact b3
  have qh := out.qh
  have ke : ∀ t, t < n1 → H3 t = H1 t := fun t ht => (e3 t (by omega)).trans (e2 t ht)
  have out0 := out
  have out := out.mono (hi' := n1 + 1) (by omega) fun t _ ht => ke t ht
  have ad := ad.mono fun t ht => ke t (by omega)
  have rq : n1 ≠ q := by omega
  have r1 : s1 = some n1 → n1 < n1 := fun e => (out0.r1 _ e).2.1
  have r2 : s2 = some n1 → n1 < n1 := fun e => (out0.r2 _ e).2.1
  have bxq := rq
  cases b
  · try simp (disch := (first | rfl | with_reducible assumption | with_reducible solve_by_elim (maxDepth := 8) [Shape.inT, Shape.inI, Shape.inC, Shape.inK, Shape.obF, Shape.obT, Shape.arI, Arr.inF] | omega)) only [S2, Nat.reduceEqDiff, Nat.reduceAdd, iput, puts, v2]
    refine addE_ok har hth hir hta h1 s t (F := fS c d) (T := tS c d) (.inl rfl) hdq hnB hmB (by simp only [SS, Nat.reduceEqDiff, Nat.reduceAdd, iput, puts, v3]) (by simp only [SS, Nat.reduceEqDiff, Nat.reduceAdd, iput, puts, v4]) (by simp only [SS, Nat.reduceEqDiff, Nat.reduceAdd, iput, puts, v5]) (by simp only [SS, Nat.reduceEqDiff, Nat.reduceAdd, iput, puts, dqp, vq]) (by simp only [SS, Nat.reduceEqDiff, Nat.reduceAdd, iput, puts, nBp, vn]) (by simp only [SS, Nat.reduceEqDiff, Nat.reduceAdd, iput, puts, mBp, vm]) (by simp only [SS, Nat.reduceEqDiff, Nat.reduceAdd, iput, puts]; try rfl) ad b3 rq (by omega) out (by rw [tS_len s t, fS_len]) (by rw [fS_len]; unfold rS; omega) (fun a b ha hb e h1 h2 => ⟨hi_then s t h1 h2 (by rw [fS_len] at hb; exact hb) e, by rw [fS_len] at hb; exact hb⟩) (fun a ha => ?_) (fun a ha => ?_)
    · have := fS_ob s t (a := a) (by rw [fS_len] at ha; exact ha); omega
    · have := tS_ob s t (a := a) (by rw [fS_len] at ha; exact ha); omega
  · try simp (disch := (first | rfl | with_reducible assumption | with_reducible solve_by_elim (maxDepth := 8) [Shape.inT, Shape.inI, Shape.inC, Shape.inK, Shape.obF, Shape.obT, Shape.arI, Arr.inF] | omega)) only [S2, Nat.reduceEqDiff, Nat.reduceAdd, iput, puts, v2]
    refine den_loop (α := Nat × (AV × AV) × (Option Nat × Option Nat)) (fun a => [int a.1]) (fun a H' nx' => a.1 ≤ c.o.toNat ∧ Out3 q (c.o + d.o) (fS c d ++ glS (a.1 * d.o.toNat) (pL d)) (tS c d ++ glS (a.1 * d.o.toNat) (pR c d)) (iS c d) [] a.2.1.1 a.2.1.2 vd .nil a.2.2.1 a.2.2.2 s3 H' lo nx' ∧ AdM c nx lo oN oM H' ∧ BoxR n1 (rS c d) a.2.2.1 a.2.2.2 H' nx') (fun a => c.o.toNat - a.1) (0, (va, vb), s1, s2) rfl ⟨Nat.zero_le _, by simpa [glS] using out, ad, ⟨b3, by omega, fun e => by have := r1 e; omega, fun e => by have := r2 e; omega⟩⟩ ?_
    clear out ad r1 r2 qh out0
    generalize n1 = oR at bxq ⊢
    rintro ⟨a, ⟨va, vb⟩, s1, s2⟩ H1 n1 ⟨ha, out, ad, bx⟩
    simp only at ha out bx
    by_cases hla : a < c.o.toNat
    · have hla' : (a : Int) < c.o := by omega
      try simp (disch := (first | rfl | with_reducible assumption | with_reducible solve_by_elim (maxDepth := 8) [Shape.inT, Shape.inI, Shape.inC, Shape.inK, Shape.obF, Shape.obT, Shape.arI, Arr.inF] | omega)) only [S2, Nat.reduceEqDiff, Nat.reduceAdd, iput, puts, hla', nBp, vn, p_ldm (n := 1) ad.n rfl]
      refine den_loop (α := Nat × (AV × AV) × (Option Nat × Option Nat)) (fun b => [int b.1]) (fun b H' nx' => b.1 ≤ d.o.toNat ∧ Out3 q (c.o + d.o) (fS c d ++ glS (a * d.o.toNat + b.1) (pL d)) (tS c d ++ glS (a * d.o.toNat + b.1) (pR c d)) (iS c d) [] b.2.1.1 b.2.1.2 vd .nil b.2.2.1 b.2.2.2 s3 H' lo nx' ∧ AdM c nx lo oN oM H' ∧ BoxR oR (rS c d) b.2.2.1 b.2.2.2 H' nx') (fun b => d.o.toNat - b.1) (0, (va, vb), s1, s2) rfl ⟨Nat.zero_le _, by simpa using out, ad, bx⟩ ?_
      clear out ad bx va vb s1 s2 H1 n1
      rintro ⟨b, ⟨va, vb⟩, s1, s2⟩ H1 n1 ⟨hb, out, ad, bx⟩
      simp only at hb out bx
      by_cases hlb : b < d.o.toNat
      · have hlb' : (b : Int) < d.o := by omega
        have wR : IntKind.i64.wrap (c.o + (b : Int)) = c.o + (b : Int) := wrap_id (by omega) (by omega)
        have eL : pL d (a * d.o.toNat + b) = (a : Int) := by unfold pL; rw [iyd hlb]
        have eR : pR c d (a * d.o.toNat + b) = c.o + (b : Int) := by unfold pR; rw [iym hlb]
        have lt : a * d.o.toNat + b < nJ c d := iylt hla hlb
        have n64 := nJ_le s t
        have fl : (fS c d).length = c.f.length + d.f.length := fS_len
        have tl2 : (tS c d).length = c.f.length + d.f.length := tS_len s t
        have qh := out.qh
        generalize hN : a * d.o.toNat + b = N at lt eL eR out
        try simp (disch := (first | rfl | with_reducible assumption | with_reducible solve_by_elim (maxDepth := 8) [Shape.inT, Shape.inI, Shape.inC, Shape.inK, Shape.obF, Shape.obT, Shape.arI, Arr.inF] | omega)) only [S2, Nat.reduceEqDiff, Nat.reduceAdd, iput, puts, hlb', v4, p_ld0, dqp, vq, p_fadm (l := 5) out.obj rfl, p_ldm (n := 5) out.obj rfl]
        refine den_out1 (m := [(a : Int)]) out (Nat.le_refl _) rfl rfl (by simp only [SS, Nat.reduceEqDiff, Nat.reduceAdd, iput, puts, dqp, vq]) (by omega) rfl rfl (by simp) (by rw [List.length_append, glS_len]; simp only [List.length_cons, List.length_nil]; omega) fun a6 H6 n6 out6 hn6 keep6 => ?_
        have ad6 := ad.mono (H' := H6) fun t ht => keep6 t (by omega) (by omega) fun ee => by have := out.r1 t ee; omega
        have bx6 : BoxR oR (rS c d) (some (s1.getD n1)) s2 H6 n6 := bx.step1 bxq keep6 hn6
        rw [List.append_assoc, ← eL, ← glS_succ] at out6
        try simp (disch := (first | rfl | with_reducible assumption | with_reducible solve_by_elim (maxDepth := 8) [Shape.inT, Shape.inI, Shape.inC, Shape.inK, Shape.obF, Shape.obT, Shape.arI, Arr.inF] | omega)) only [S2, Nat.reduceEqDiff, Nat.reduceAdd, iput, puts, v4, p_ld0, wR, dqp, nBp, vq, vn, p_fadm (l := 5) out6.obj rfl, p_ldm (n := 5) out6.obj rfl, p_ldm (n := 1) ad6.n rfl]
        refine den_out2 (m := [c.o + (b : Int)]) out6 (Nat.le_refl _) rfl rfl (by simp only [SS, Nat.reduceEqDiff, Nat.reduceAdd, iput, puts, dqp, vq]) (by omega) rfl rfl (by simp) (by rw [List.length_append, glS_len]; simp only [List.length_cons, List.length_nil]; omega) fun b7 H7 n7 out7 hn7 keep7 => ?_
        have ad7 := ad6.mono (H' := H7) fun t ht => keep7 t (by omega) (by omega) fun ee => by have := out6.r2 t ee; omega
        have bx7 : BoxR oR (rS c d) (some (s1.getD n1)) (some (s2.getD n6)) H7 n7 := bx6.step2 bxq keep7 hn7
        rw [List.append_assoc, ← eR, ← glS_succ] at out7
        try simp (disch := (first | rfl | with_reducible assumption | with_reducible solve_by_elim (maxDepth := 8) [Shape.inT, Shape.inI, Shape.inC, Shape.inK, Shape.obF, Shape.obT, Shape.arI, Arr.inF] | omega)) only [S2, Nat.reduceEqDiff, Nat.reduceAdd, iput, puts]
        refine ⟨(b + 1, (a6, b7), some (s1.getD n1), some (s2.getD n6)), rfl, ⟨hlb, ?_, ad7, bx7⟩, by simp only; omega⟩
        simp only
        rw [← Nat.add_assoc, hN]
        exact out7
      · have hbe : b = d.o.toNat := by omega
        subst hbe
        rw [iys] at out
        have hlb' : ¬ ((d.o.toNat : Nat) : Int) < d.o := by omega
        try simp (disch := (first | rfl | with_reducible assumption | with_reducible solve_by_elim (maxDepth := 8) [Shape.inT, Shape.inI, Shape.inC, Shape.inK, Shape.obF, Shape.obT, Shape.arI, Arr.inF] | omega)) only [S2, Nat.reduceEqDiff, Nat.reduceAdd, iput, puts, hlb', v4, p_ld0]
        exact ⟨(a + 1, (va, vb), s1, s2), rfl, ⟨hla, out, ad, bx⟩, by simp only; omega⟩
    · have hae : a = c.o.toNat := by omega
      subst hae
      have hla' : ¬ ((c.o.toNat : Nat) : Int) < c.o := by omega
      try simp (disch := (first | rfl | with_reducible assumption | with_reducible solve_by_elim (maxDepth := 8) [Shape.inT, Shape.inI, Shape.inC, Shape.inK, Shape.obF, Shape.obT, Shape.arI, Arr.inF] | omega)) only [S2, Nat.reduceEqDiff, Nat.reduceAdd, iput, puts, hla', nBp, vn, p_ldm (n := 1) ad.n rfl]
      have n64 := nJ_le s t
      have fl : (fJ c d).length = rS c d + nJ c d := fJ_len
      have rl : rS c d = c.f.length + d.f.length := rfl
      refine addE_ok har hth hir hta h1 s t (F := fJ c d) (T := tJ c d) (.inr rfl) hdq hnB hmB (by simp only [SS, Nat.reduceEqDiff, Nat.reduceAdd, iput, puts, v3]) (by simp only [SS, Nat.reduceEqDiff, Nat.reduceAdd, iput, puts, v4]) (by simp only [SS, Nat.reduceEqDiff, Nat.reduceAdd, iput, puts, v5]) (by simp only [SS, Nat.reduceEqDiff, Nat.reduceAdd, iput, puts, dqp, vq]) (by simp only [SS, Nat.reduceEqDiff, Nat.reduceAdd, iput, puts, nBp, vn]) (by simp only [SS, Nat.reduceEqDiff, Nat.reduceAdd, iput, puts, mBp, vm]) (by simp only [SS, Nat.reduceEqDiff, Nat.reduceAdd, iput, puts]; try rfl) ad bx.v bxq bx.lt out (by rw [tJ_len s t, fJ_len]) (by omega) (fun a b ha hb e h1 h2 => hi_thenJ s t h1 h2 (by omega) e) (fun a ha => ?_) (fun a ha => ?_)
      · have := fJ_ob s t (a := a) (by omega); omega
      · have := tJ_ob s t (a := a) (by omega); omega

set_option maxHeartbeats 8000000 in
theorem addH_ok (har : Has P ν 26 1 V_Category_arrows) (hth : Has P ν 34 3 V_Category_then) (hir : Has P ν 32 3 V_inRange) (hcl : Has P ν 261 1 V_clone) (hta : Has P ν 353 2 V_Category_table) (h1 : Has P ν 428 8 V_added_1) {c d : Cat} (s : Shape c) (t : Shape d) (b : Bool) {vars : Nat → AV} {H : Hp} {nx n0 oN oM nB mB : Nat} {Is : Nat → Inv} (hnB : nB < 14) (hmB : mB < 14)
    (v2 : vars 2 = bool b) (v3 : vars 3 = .ptr [.ptr c.cells 0] 0) (v4 : vars 4 = .ptr [.ptr d.cells 0] 0) (v5 : vars 5 = .mp nx 0 5) (vn : vars nB = .mp oN 0 1) (vm : vars mB = .mp oM 0 1) (ad : AdM c nx n0 oN oM H) :
    den (OkM P ν) (IsKV (addK c d b) (bool (decide (FitB c d b))) nx) (V_addH nB mB) 16 vars H n0 Is := by
  unfold V_addH
  have n40 := s.n40
  have tl := s.tl
  have il := s.il
  have o8 := s.o8
  have o0 := s.o0
  have o8' := t.o8
  have o0' := t.o0
  have nBp : ∀ (e : Nat → AV) (k : Nat) (u : AV), put e (k + 14) u nB = e nB := fun e k u => by simp only [put]; rw [if_neg (by omega)]
  have mBp : ∀ (e : Nat → AV) (k : Nat) (u : AV), put e (k + 14) u mB = e mB := fun e k u => by simp only [put]; rw [if_neg (by omega)]
  have wO : IntKind.i64.wrap (c.o + d.o) = c.o + d.o := wrap_id (by omega) (by omega)
  try simp (disch := (first | rfl | with_reducible assumption | with_reducible solve_by_elim (maxDepth := 8) [Shape.inT, Shape.inI, Shape.inC, Shape.inK, Shape.obF, Shape.obT, Shape.arI, Arr.inF] | omega)) only [S2, Nat.reduceEqDiff, Nat.reduceAdd, iput, puts, v3, v4, nBp, vn, p_ld0, p_ldm (n := 1) ad.n rfl, wO]
  refine ⟨den_clone hcl c.f rfl (by omega) fun va s1 H1 n1 g1 r1 l1 k1 => ⟨den_clone hcl c.t rfl (by omega) fun vb s2 H2 n2 g2 r2 l2 k2 => ⟨den_clone hcl c.i rfl (by omega) fun vd s3 H3 n3 g3 r3 l3 k3 => den_newR fun H4 x4 e4 => ?_,
    den_newR fun H3 x4 e4 => den_clone hcl c.i rfl (by omega) fun vd s3 H4 n4 g3 r3 l3 k3 => ?_⟩,
    den_newR fun H3 x4 e4 => den_clone hcl c.t rfl (by omega) fun vb s2 H2 n2 g2 r2 l2 k2 => den_clone hcl c.i rfl (by omega) fun vd s3 H4 n4 g3 r3 l3 k3 => ?_⟩,
    den_newR fun H3 x4 e4 => den_clone hcl c.f rfl (by omega) fun va s1 H1 n1 g1 r1 l1 k1 => den_clone hcl c.t rfl (by omega) fun vb s2 H2 n2 g2 r2 l2 k2 => den_clone hcl c.i rfl (by omega) fun vd s3 H4 n4 g3 r3 l3 k3 => ?_⟩
  · try simp (disch := (first | rfl | with_reducible assumption | with_reducible solve_by_elim (maxDepth := 8) [Shape.inT, Shape.inI, Shape.inC, Shape.inK, Shape.obF, Shape.obT, Shape.arI, Arr.inF] | omega)) only [S2, Nat.reduceEqDiff, Nat.reduceAdd, iput, puts, p_mkaO g1.one g2.one g3.one]
    refine den_stR (o := n3) (m := 5) (d := [int (c.o + d.o), va, vb, vd, .nil]) (by simp only [SS, Nat.reduceEqDiff, Nat.reduceAdd, iput, puts]; try rfl) (by simp only [SS, Nat.reduceEqDiff, Nat.reduceAdd, iput, puts]; try rfl) x4 rfl rfl (ones5 g1.one g2.one g3.one) fun H5 x5 e5 => ?_
    have ad5 := ad.mono (H' := H5) fun t ht => by rw [e5 _ (by omega), e4 _ (by omega), k3 _ (by omega), k2 _ (by omega), k1 _ (by omega)]
    exact addT_ok har hth hir hta h1 s t b (by omega) (by omega) (by omega) (by simp only [SS, Nat.reduceEqDiff, Nat.reduceAdd, iput, puts, v2]) (by simp only [SS, Nat.reduceEqDiff, Nat.reduceAdd, iput, puts, v3]) (by simp only [SS, Nat.reduceEqDiff, Nat.reduceAdd, iput, puts, v4]) (by simp only [SS, Nat.reduceEqDiff, Nat.reduceAdd, iput, puts, v5]) (by simp only [SS, Nat.reduceEqDiff, Nat.reduceAdd, iput, puts]; try rfl) (by simp only [SS, Nat.reduceEqDiff, Nat.reduceAdd, iput, puts, nBp, vn]) (by simp only [SS, Nat.reduceEqDiff, Nat.reduceAdd, iput, puts, mBp, vm]) ad5 (Out3.of x5 (by omega) (by omega)
      (g1.kept fun o ho => by have := r1 o ho; rw [e5 _ (by omega), e4 _ (by omega), k3 _ (by omega), k2 _ (by omega)]) (g2.kept fun o ho => by have := r2 o ho; rw [e5 _ (by omega), e4 _ (by omega), k3 _ (by omega)]) (g3.kept fun o ho => by have := r3 o ho; rw [e5 _ (by omega), e4 _ (by omega)])
      (fun o ho => by have := r1 o ho; omega) (fun o ho => by have := r2 o ho; omega) (fun o ho => by have := r3 o ho; omega) (fun o o' h1 h2 => by have := r1 o h1; have := r2 o' h2; omega) (fun o o' h1 h2 => by have := r1 o h1; have := r3 o' h2; omega) (fun o o' h1 h2 => by have := r2 o h1; have := r3 o' h2; omega))
  · try simp (disch := (first | rfl | with_reducible assumption | with_reducible solve_by_elim (maxDepth := 8) [Shape.inT, Shape.inI, Shape.inC, Shape.inK, Shape.obF, Shape.obT, Shape.arI, Arr.inF] | omega)) only [S2, Nat.reduceEqDiff, Nat.reduceAdd, iput, puts, p_mkaO g1.one g2.one g3.one]
    have x4 := (k3 _ (by omega)).trans x4
    refine den_stR (o := n2) (m := 5) (d := [int (c.o + d.o), va, vb, vd, .nil]) (by simp only [SS, Nat.reduceEqDiff, Nat.reduceAdd, iput, puts]; try rfl) (by simp only [SS, Nat.reduceEqDiff, Nat.reduceAdd, iput, puts]; try rfl) x4 rfl rfl (ones5 g1.one g2.one g3.one) fun H5 x5 e5 => ?_
    have ad5 := ad.mono (H' := H5) fun t ht => by rw [e5 _ (by omega), k3 _ (by omega), e4 _ (by omega), k2 _ (by omega), k1 _ (by omega)]
    exact addT_ok har hth hir hta h1 s t b (by omega) (by omega) (by omega) (by simp only [SS, Nat.reduceEqDiff, Nat.reduceAdd, iput, puts, v2]) (by simp only [SS, Nat.reduceEqDiff, Nat.reduceAdd, iput, puts, v3]) (by simp only [SS, Nat.reduceEqDiff, Nat.reduceAdd, iput, puts, v4]) (by simp only [SS, Nat.reduceEqDiff, Nat.reduceAdd, iput, puts, v5]) (by simp only [SS, Nat.reduceEqDiff, Nat.reduceAdd, iput, puts]; try rfl) (by simp only [SS, Nat.reduceEqDiff, Nat.reduceAdd, iput, puts, nBp, vn]) (by simp only [SS, Nat.reduceEqDiff, Nat.reduceAdd, iput, puts, mBp, vm]) ad5 (Out3.of x5 (by omega) (by omega)
      (g1.kept fun o ho => by have := r1 o ho; rw [e5 _ (by omega), k3 _ (by omega), e4 _ (by omega), k2 _ (by omega)]) (g2.kept fun o ho => by have := r2 o ho; rw [e5 _ (by omega), k3 _ (by omega), e4 _ (by omega)]) (g3.kept fun o ho => by have := r3 o ho; rw [e5 _ (by omega)])
      (fun o ho => by have := r1 o ho; omega) (fun o ho => by have := r2 o ho; omega) (fun o ho => by have := r3 o ho; omega) (fun o o' h1 h2 => by have := r1 o h1; have := r2 o' h2; omega) (fun o o' h1 h2 => by have := r1 o h1; have := r3 o' h2; omega) (fun o o' h1 h2 => by have := r2 o h1; have := r3 o' h2; omega))
  · try simp (disch := (first | rfl | with_reducible assumption | with_reducible solve_by_elim (maxDepth := 8) [Shape.inT, Shape.inI, Shape.inC, Shape.inK, Shape.obF, Shape.obT, Shape.arI, Arr.inF] | omega)) only [S2, Nat.reduceEqDiff, Nat.reduceAdd, iput, puts, p_mkaO g1.one g2.one g3.one]
    have x4 := (k3 _ (by omega)).trans ((k2 _ (by omega)).trans x4)
    refine den_stR (o := n1) (m := 5) (d := [int (c.o + d.o), va, vb, vd, .nil]) (by simp only [SS, Nat.reduceEqDiff, Nat.reduceAdd, iput, puts]; try rfl) (by simp only [SS, Nat.reduceEqDiff, Nat.reduceAdd, iput, puts]; try rfl) x4 rfl rfl (ones5 g1.one g2.one g3.one) fun H5 x5 e5 => ?_
    have ad5 := ad.mono (H' := H5) fun t ht => by rw [e5 _ (by omega), k3 _ (by omega), k2 _ (by omega), e4 _ (by omega), k1 _ (by omega)]
    exact addT_ok har hth hir hta h1 s t b (by omega) (by omega) (by omega) (by simp only [SS, Nat.reduceEqDiff, Nat.reduceAdd, iput, puts, v2]) (by simp only [SS, Nat.reduceEqDiff, Nat.reduceAdd, iput, puts, v3]) (by simp only [SS, Nat.reduceEqDiff, Nat.reduceAdd, iput, puts, v4]) (by simp only [SS, Nat.reduceEqDiff, Nat.reduceAdd, iput, puts, v5]) (by simp only [SS, Nat.reduceEqDiff, Nat.reduceAdd, iput, puts]; try rfl) (by simp only [SS, Nat.reduceEqDiff, Nat.reduceAdd, iput, puts, nBp, vn]) (by simp only [SS, Nat.reduceEqDiff, Nat.reduceAdd, iput, puts, mBp, vm]) ad5 (Out3.of x5 (by omega) (by omega)
      (g1.kept fun o ho => by have := r1 o ho; rw [e5 _ (by omega), k3 _ (by omega), k2 _ (by omega), e4 _ (by omega)]) (g2.kept fun o ho => by have := r2 o ho; rw [e5 _ (by omega), k3 _ (by omega)]) (g3.kept fun o ho => by have := r3 o ho; rw [e5 _ (by omega)])
      (fun o ho => by have := r1 o ho; omega) (fun o ho => by have := r2 o ho; omega) (fun o ho => by have := r3 o ho; omega) (fun o o' h1 h2 => by have := r1 o h1; have := r2 o' h2; omega) (fun o o' h1 h2 => by have := r1 o h1; have := r3 o' h2; omega) (fun o o' h1 h2 => by have := r2 o h1; have := r3 o' h2; omega))
  · try simp (disch := (first | rfl | with_reducible assumption | with_reducible solve_by_elim (maxDepth := 8) [Shape.inT, Shape.inI, Shape.inC, Shape.inK, Shape.obF, Shape.obT, Shape.arI, Arr.inF] | omega)) only [S2, Nat.reduceEqDiff, Nat.reduceAdd, iput, puts, p_mkaO g1.one g2.one g3.one]
    have x4 := (k3 _ (by omega)).trans ((k2 _ (by omega)).trans ((k1 _ (by omega)).trans x4))
    refine den_stR (o := n0) (m := 5) (d := [int (c.o + d.o), va, vb, vd, .nil]) (by simp only [SS, Nat.reduceEqDiff, Nat.reduceAdd, iput, puts]; try rfl) (by simp only [SS, Nat.reduceEqDiff, Nat.reduceAdd, iput, puts]; try rfl) x4 rfl rfl (ones5 g1.one g2.one g3.one) fun H5 x5 e5 => ?_
    have ad5 := ad.mono (H' := H5) fun t ht => by rw [e5 _ (by omega), k3 _ (by omega), k2 _ (by omega), k1 _ (by omega), e4 _ (by omega)]
    exact addT_ok har hth hir hta h1 s t b (by omega) (by omega) (by omega) (by simp only [SS, Nat.reduceEqDiff, Nat.reduceAdd, iput, puts, v2]) (by simp only [SS, Nat.reduceEqDiff, Nat.reduceAdd, iput, puts, v3]) (by simp only [SS, Nat.reduceEqDiff, Nat.reduceAdd, iput, puts, v4]) (by simp only [SS, Nat.reduceEqDiff, Nat.reduceAdd, iput, puts, v5]) (by simp only [SS, Nat.reduceEqDiff, Nat.reduceAdd, iput, puts]; try rfl) (by simp only [SS, Nat.reduceEqDiff, Nat.reduceAdd, iput, puts, nBp, vn]) (by simp only [SS, Nat.reduceEqDiff, Nat.reduceAdd, iput, puts, mBp, vm]) ad5 (Out3.of x5 (by omega) (by omega)
      (g1.kept fun o ho => by have := r1 o ho; rw [e5 _ (by omega), k3 _ (by omega), k2 _ (by omega)]) (g2.kept fun o ho => by have := r2 o ho; rw [e5 _ (by omega), k3 _ (by omega)]) (g3.kept fun o ho => by have := r3 o ho; rw [e5 _ (by omega)])
      (fun o ho => by have := r1 o ho; omega) (fun o ho => by have := r2 o ho; omega) (fun o ho => by have := r3 o ho; omega) (fun o o' h1 h2 => by have := r1 o h1; have := r2 o' h2; omega) (fun o o' h1 h2 => by have := r1 o h1; have := r3 o' h2; omega) (fun o o' h1 h2 => by have := r2 o h1; have := r3 o' h2; omega))

set_option maxHeartbeats 4000000 in
theorem added_ok (har : Has P ν 26 1 V_Category_arrows) (hth : Has P ν 34 3 V_Category_then) (hir : Has P ν 32 3 V_inRange) (hcl : Has P ν 261 1 V_clone) (hta : Has P ν 353 2 V_Category_table) (h1 : Has P ν 428 8 V_added_1) (h : Has P ν 410 3 V_added) (c d : Cat) (s : Shape c) (t : Shape d) (b : Bool) (nx : Nat) :
    OkM P ν 410 [.ptr c.cells 0, .ptr d.cells 0, bool b] hempty nx (IsKV (addK c d b) (bool (decide (FitB c d b))) nx) := by
  refine h _ _ _ _ rfl fun hwf => ?_
  unfold V_added
  have b1 : ∀ H : Hp, pvf H .box [.ptr c.cells 0] = some (.ptr [.ptr c.cells 0] 0) := fun _ => rfl
  have b2 : ∀ H : Hp, pvf H .box [.ptr d.cells 0] = some (.ptr [.ptr d.cells 0] 0) := fun _ => rfl
  try simp (disch := (first | rfl | with_reducible assumption | with_reducible solve_by_elim (maxDepth := 8) [Shape.inT, Shape.inI, Shape.inC, Shape.inK, Shape.obF, Shape.obT, Shape.arI, Arr.inF] | omega)) only [S2, Nat.reduceEqDiff, Nat.reduceAdd, iput, puts, b1, b2]
  refine den_newR fun H0 y0 e0 => ?_
  repeat (first | simp (disch := (first | rfl | with_reducible assumption | with_reducible solve_by_elim (maxDepth := 8) [Shape.inT, Shape.inI, Shape.inC, Shape.inK, Shape.obF, Shape.obT, Shape.arI, Arr.inF] | omega)) only [S2, Nat.reduceEqDiff, Nat.reduceAdd, iput, puts, p_ld0] | (refine den_call rfl (by first | (simp only [SS, Nat.reduceEqDiff, Nat.reduceAdd, iput, puts, FF, frzL_cat]; done) | (simp only [SS, Nat.reduceEqDiff, Nat.reduceAdd, iput, puts, FF, frzL_cat]; rfl)) (by first | exact (arrows_ok har c).fzi) ?_) | (refine den_calli rfl (by first | (simp only [SS, Nat.reduceEqDiff, Nat.reduceAdd, iput, puts, FF, frzL_cat]; done) | (simp only [SS, Nat.reduceEqDiff, Nat.reduceAdd, iput, puts, FF, frzL_cat]; rfl)) (by first | exact (arrows_ok har c).fzi) ?_))
  refine ⟨den_newR fun H1 n1 k1 => den_newR fun H2 m2 k2 => ?_, den_newR fun H1 m1 k1 => den_newR fun H2 n2 k2 => ?_⟩
  · refine den_st1G (o := nx + 1) (p := 0) (m := 1) (u := int c.o) (by simp only [SS, Nat.reduceEqDiff, Nat.reduceAdd, iput, puts]; try rfl) (by simp only [SS, Nat.reduceEqDiff, Nat.reduceAdd, iput, puts]) ((k2 _ (by omega)).trans n1) rfl (by omega) rfl fun H3 n3 e3 => ?_
    refine den_st1G (o := nx + 1 + 1) (p := 0) (m := 1) (u := int (c.f.length : Int)) (by simp only [SS, Nat.reduceEqDiff, Nat.reduceAdd, iput, puts]; try rfl) (by simp only [SS, Nat.reduceEqDiff, Nat.reduceAdd, iput, puts]) ((e3 _ (by omega)).trans m2) rfl (by omega) rfl fun H4 m4 e4 => ?_
    refine addH_ok har hth hir hcl hta h1 s t b (oN := nx + 1) (oM := nx + 1 + 1) (by omega) (by omega) (by simp only [SS, Nat.reduceEqDiff, Nat.reduceAdd, iput, puts]) (by simp only [SS, Nat.reduceEqDiff, Nat.reduceAdd, iput, puts]) (by simp only [SS, Nat.reduceEqDiff, Nat.reduceAdd, iput, puts]) (by simp only [SS, Nat.reduceEqDiff, Nat.reduceAdd, iput, puts]; try rfl) (by simp only [SS, Nat.reduceEqDiff, Nat.reduceAdd, iput, puts]; try rfl) (by simp only [SS, Nat.reduceEqDiff, Nat.reduceAdd, iput, puts]; try rfl) ⟨?_, (e4 _ (by omega)).trans n3, m4, by omega, by omega, by omega⟩
    rw [e4 _ (by omega), e3 _ (by omega), k2 _ (by omega), k1 _ (by omega)]
    exact y0
  · refine den_st1G (o := nx + 1 + 1) (p := 0) (m := 1) (u := int c.o) (by simp only [SS, Nat.reduceEqDiff, Nat.reduceAdd, iput, puts]; try rfl) (by simp only [SS, Nat.reduceEqDiff, Nat.reduceAdd, iput, puts]) n2 rfl (by omega) rfl fun H3 n3 e3 => ?_
    refine den_st1G (o := nx + 1) (p := 0) (m := 1) (u := int (c.f.length : Int)) (by simp only [SS, Nat.reduceEqDiff, Nat.reduceAdd, iput, puts]; try rfl) (by simp only [SS, Nat.reduceEqDiff, Nat.reduceAdd, iput, puts]) ((e3 _ (by omega)).trans ((k2 _ (by omega)).trans m1)) rfl (by omega) rfl fun H4 m4 e4 => ?_
    refine addH_ok har hth hir hcl hta h1 s t b (oN := nx + 1 + 1) (oM := nx + 1) (by omega) (by omega) (by simp only [SS, Nat.reduceEqDiff, Nat.reduceAdd, iput, puts]) (by simp only [SS, Nat.reduceEqDiff, Nat.reduceAdd, iput, puts]) (by simp only [SS, Nat.reduceEqDiff, Nat.reduceAdd, iput, puts]) (by simp only [SS, Nat.reduceEqDiff, Nat.reduceAdd, iput, puts]; try rfl) (by simp only [SS, Nat.reduceEqDiff, Nat.reduceAdd, iput, puts]; try rfl) (by simp only [SS, Nat.reduceEqDiff, Nat.reduceAdd, iput, puts]; try rfl) ⟨?_, (e4 _ (by omega)).trans n3, m4, by omega, by omega, by omega⟩
    rw [e4 _ (by omega), e3 _ (by omega), k2 _ (by omega), k1 _ (by omega)]
    exact y0
end Go.Av
