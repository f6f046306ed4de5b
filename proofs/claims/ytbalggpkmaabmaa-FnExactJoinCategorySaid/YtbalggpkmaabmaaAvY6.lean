/-
  The reference's join of two categories.
-/
import Derived.Test.YtbalggpkmaabmaaAvY1
import Derived.Test.YtbalggpkmaabmaaAvY3b
namespace Go.Av
open Classical
set_option linter.unusedSimpArgs false
set_option linter.unusedVariables false
variable {P : Program} {ν : Nat → FuncId}

/-- The table is put in another's place. -/
theorem Out3.newTab {q : Nat} {ob : Int} {F T I : List Int} {R M : List (List Int)} {a b d e v : AV} {s1 s2 s3 : Option Nat} {H H' : Hp} {lo mid hi : Nat} (h : Out3 q ob F T I R a b d e s1 s2 s3 H lo mid) (hm : mid ≤ hi) (hM : OwnD M v H mid hi)
    (h1 : H' q = some [int ob, a, b, d, v]) (hk : ∀ t, t ≠ q → H' t = H t) : Out3 q ob F T I M a b d v s1 s2 s3 H' lo hi := by
  have ql := h.ql
  have qh := h.qh
  have kf : ∀ t, Ft2 v H t → H' t = H t := fun t ht => hk t (by have := hM.foot ht; omega)
  have ft := hM.ft kf
  refine ⟨h1, h.ql, by omega, h.g1.kept fun o ho => hk o (h.r1 o ho).2.2, h.g2.kept fun o ho => hk o (h.r2 o ho).2.2, h.g3.kept fun o ho => hk o (h.r3 o ho).2.2, fun o ho => ?_, fun o ho => ?_, fun o ho => ?_, h.n12, h.n13, h.n23, (hM.apart (Nat.le_refl _) kf).weak' (by omega), fun t ht => ?_⟩
  · have := h.r1 o ho; omega
  · have := h.r2 o ho; omega
  · have := h.r3 o ho; omega
  · have f := hM.foot ((ft t).1 ht)
    refine ⟨by omega, fun ee => ?_, fun ee => ?_, fun ee => ?_⟩
    · have := h.r1 t ee; omega
    · have := h.r2 t ee; omega
    · have := h.r3 t ee; omega
def jR (c d : Cat) (a : Nat) : List Int := tblRow (kA c d (fJ c d) (tJ c d)) (fJ c d) (tJ c d) a
def joinK (c d : Cat) : Cat := ⟨c.o + d.o, fJ c d, tJ c d, iS c d, tbl (kA c d (fJ c d) (tJ c d)) (fJ c d) (tJ c d)⟩
section
variable {c d : Cat}
theorem jR_len {a : Nat} : (jR c d a).length = rS c d + nJ c d := by unfold jR; rw [tblRow_len, fJ_len]
theorem jR_at {a b : Nat} (h : b < rS c d + nJ c d) : (jR c d a).getD b 0 = tblAt (kA c d (fJ c d) (tJ c d)) (fJ c d) (tJ c d) a b := tbl_at (by rw [fJ_len]; exact h)
theorem jR_no {a b : Nat} (h : b < rS c d + nJ c d) (e : ¬ (tJ c d).getD a 0 = (fJ c d).getD b 0) : (jR c d a).getD b 0 = -1 := by rw [jR_at h, tblAt, if_neg e]
theorem jR_in (s : Shape c) (t : Shape d) {a b : Nat} (ha : a < rS c d) (hb : b < rS c d) (e : (tJ c d).getD a 0 = (fJ c d).getD b 0) : (jR c d a).getD b 0 = (tR c d a).getD b 0 := by
  have hr : rS c d = c.f.length + d.f.length := rfl
  have e' := e
  rw [tJ_lo s t ha, fJ_lo hb] at e'
  rw [jR_at (by omega), tR_at hb, tblAt, tblAt, if_pos e, if_pos e']
  unfold kA
  by_cases h1 : a < c.f.length ∧ b < c.f.length
  · rw [if_pos h1, if_pos h1]
  · rw [if_neg h1, if_neg h1]
    by_cases h2 : c.f.length ≤ a ∧ a < rS c d
    · rw [if_pos h2, if_pos h2]
    · exfalso
      have ha2 : a < c.f.length := by omega
      rw [tS_lo s ha2, fS_hi (by omega) hb] at e'
      have q1 := (s.obT (loArr ha2)).2
      have q2 := (t.obF (hiArr (c := c) (show c.f.length ≤ b by omega) hb)).1
      omega
theorem jR_out (s : Shape c) (t : Shape d) {a b : Nat} (hb : b < rS c d + nJ c d) (h : ¬ (a < rS c d ∧ b < rS c d)) (e : (tJ c d).getD a 0 = (fJ c d).getD b 0) : (jR c d a).getD b 0 = (rS c d : Int) + (fJ c d).getD a 0 * d.o + (tJ c d).getD b 0 - c.o := by
  have hr : rS c d = c.f.length + d.f.length := rfl
  rw [jR_at hb, tblAt, if_pos e]
  unfold kA
  rw [if_neg (by omega), if_neg]
  intro h2
  exact h ⟨h2.2, (hi_thenJ s t h2.1 h2.2 hb e).2⟩
theorem jR_tbl : (List.range (rS c d + nJ c d)).map (jR c d) = (joinK c d).c := by
  show _ = tbl _ _ _
  unfold tbl
  rw [fJ_len]
  rfl
theorem sum_row {a : Nat} (h : a < rS c d) : (sumK c d).c.getD a [] = tR c d a := tbl_row (by rw [fS_len]; exact h)
theorem sum_len : (sumK c d).c.length = rS c d := by show (tbl _ _ _).length = _; rw [tbl_len, fS_len]
end
def V_spec_l03Join : Vc :=
  .op true (.p .box [.t 0]) <|
  .op true (.p .box [.t 1]) <|
  .op true (.new [int 0, .nil, .nil, .nil, .nil]) <|
  .op true (.p (.ld (some 5)) [.t 2]) <|
  .op true (.p (.ld (some 5)) [.t 3]) <|
  .op true (.callo (.f 336) [.t 5, .t 6]) <|
  .op true (.new [int 0, .nil, .nil, .nil, .nil]) <|
  .op true (.st 5 (.t 8) (.t 7)) <|
  .op true (.p (.fad 1) [.t 8]) <|
  .op true (.p (.ld none) [.t 10]) <|
  .op true (.p .len [.t 11]) <|
  .loop 0 [.c (int 0)] <|
  .op true (.p (.fad 0) [.t 2]) <|
  .op true (.p (.ld none) [.t 14]) <|
  .op true (.p (.bin .lss) [.t 13, .t 15]) <|
  .br 16
   (.loop 1 [.c (int 0)] <|
   .op true (.p (.fad 0) [.t 3]) <|
   .op true (.p (.ld none) [.t 18]) <|
   .op true (.p (.bin .lss) [.t 17, .t 19]) <|
   .br 20
    (.op true (.p (.fad 1) [.t 8]) <|
    .op true (.p (.ld none) [.t 21]) <|
    .op true (.p (.msl 1 [int 0] [(0, 1)]) [.t 13]) <|
    .op true (.app 1 (.t 22) (.t 23)) <|
    .op true (.p (.fad 1) [.t 8]) <|
    .op true (.st 1 (.t 25) (.t 24)) <|
    .op true (.p (.fad 2) [.t 8]) <|
    .op true (.p (.ld none) [.t 27]) <|
    .op true (.p (.fad 0) [.t 2]) <|
    .op true (.p (.ld none) [.t 29]) <|
    .op true (.p (.bin .add) [.t 30, .t 17]) <|
    .op true (.p (.msl 1 [int 0] [(0, 1)]) [.t 31]) <|
    .op true (.app 1 (.t 28) (.t 32)) <|
    .op true (.p (.fad 2) [.t 8]) <|
    .op true (.st 1 (.t 34) (.t 33)) <|
    .op true (.p (.bin .add) [.t 17, .c (int 1)]) <|
    .again 1 [.t 36])
    (.op true (.p (.bin .add) [.t 13, .c (int 1)]) <|
    .again 0 [.t 21]))
   (.op true (.p (.msl 0 [] []) []) <|
   .loop 0 [.t 17, .c (int 0)] <|
   .op true (.p (.fad 1) [.t 8]) <|
   .op true (.p (.ld none) [.t 20]) <|
   .op true (.p .len [.t 21]) <|
   .op true (.p (.bin .lss) [.t 19, .t 22]) <|
   .br 23
    (.op true (.p (.msl 0 [] []) []) <|
    .loop 1 [.t 24, .c (int 0)] <|
    .op true (.p (.fad 1) [.t 8]) <|
    .op true (.p (.ld none) [.t 27]) <|
    .op true (.p .len [.t 28]) <|
    .op true (.p (.bin .lss) [.t 26, .t 29]) <|
    .br 30
     (.op true (.p (.fad 2) [.t 8]) <|
     .op true (.p (.ld none) [.t 31]) <|
     .op true (.p (.iad 1) [.t 32, .t 19]) <|
     .op true (.p (.ld none) [.t 33]) <|
     .op true (.p (.fad 1) [.t 8]) <|
     .op true (.p (.ld none) [.t 35]) <|
     .op true (.p (.iad 1) [.t 36, .t 26]) <|
     .op true (.p (.ld none) [.t 37]) <|
     .op true (.p (.bin .neq) [.t 34, .t 38]) <|
     .br 39
      (.op true (.p (.msl 1 [int 0] [(0, 1)]) [.c (int (-1))]) <|
      .op true (.app 1 (.t 25) (.t 40)) <|
      .op true (.p (.bin .add) [.t 26, .c (int 1)]) <|
      .again 1 [.t 41, .t 42])
      (.op true (.p (.bin .lss) [.t 19, .t 12]) <|
      .br 40
       (.op true (.p (.bin .lss) [.t 26, .t 12]) <|
       .br 41
        (.op true (.p (.fad 4) [.t 8]) <|
        .op true (.p (.ld none) [.t 42]) <|
        .op true (.p (.iad 1) [.t 43, .t 19]) <|
        .op true (.p (.ld none) [.t 44]) <|
        .op true (.p (.iad 1) [.t 45, .t 26]) <|
        .op true (.p (.ld none) [.t 46]) <|
        .op true (.p (.msl 1 [int 0] [(0, 1)]) [.t 47]) <|
        .op true (.app 1 (.t 25) (.t 48)) <|
        .op true (.p (.bin .add) [.t 26, .c (int 1)]) <|
        .again 1 [.t 49, .t 50])
        (.op true (.p (.fad 1) [.t 8]) <|
        .op true (.p (.ld none) [.t 42]) <|
        .op true (.p (.iad 1) [.t 43, .t 19]) <|
        .op true (.p (.ld none) [.t 44]) <|
        .op true (.p (.fad 0) [.t 3]) <|
        .op true (.p (.ld none) [.t 46]) <|
        .op true (.p (.bin .mul) [.t 45, .t 47]) <|
        .op true (.p (.bin .add) [.t 12, .t 48]) <|
        .op true (.p (.fad 2) [.t 8]) <|
        .op true (.p (.ld none) [.t 50]) <|
        .op true (.p (.iad 1) [.t 51, .t 26]) <|
        .op true (.p (.ld none) [.t 52]) <|
        .op true (.p (.bin .add) [.t 49, .t 53]) <|
        .op true (.p (.fad 0) [.t 2]) <|
        .op true (.p (.ld none) [.t 55]) <|
        .op true (.p (.bin .sub) [.t 54, .t 56]) <|
        .op true (.p (.msl 1 [int 0] [(0, 1)]) [.t 57]) <|
        .op true (.app 1 (.t 25) (.t 58)) <|
        .op true (.p (.bin .add) [.t 26, .c (int 1)]) <|
        .again 1 [.t 59, .t 60]))
       (.op true (.p (.fad 1) [.t 8]) <|
       .op true (.p (.ld none) [.t 41]) <|
       .op true (.p (.iad 1) [.t 42, .t 19]) <|
       .op true (.p (.ld none) [.t 43]) <|
       .op true (.p (.fad 0) [.t 3]) <|
       .op true (.p (.ld none) [.t 45]) <|
       .op true (.p (.bin .mul) [.t 44, .t 46]) <|
       .op true (.p (.bin .add) [.t 12, .t 47]) <|
       .op true (.p (.fad 2) [.t 8]) <|
       .op true (.p (.ld none) [.t 49]) <|
       .op true (.p (.iad 1) [.t 50, .t 26]) <|
       .op true (.p (.ld none) [.t 51]) <|
       .op true (.p (.bin .add) [.t 48, .t 52]) <|
       .op true (.p (.fad 0) [.t 2]) <|
       .op true (.p (.ld none) [.t 54]) <|
       .op true (.p (.bin .sub) [.t 53, .t 55]) <|
       .op true (.p (.msl 1 [int 0] [(0, 1)]) [.t 56]) <|
       .op true (.app 1 (.t 25) (.t 57)) <|
       .op true (.p (.bin .add) [.t 26, .c (int 1)]) <|
       .again 1 [.t 58, .t 59])))
     (.op true (.mslm 1 1 [.nil] [(0, 1)] [.t 25]) <|
     .op true (.app 1 (.t 18) (.t 31)) <|
     .op true (.p (.bin .add) [.t 19, .c (int 1)]) <|
     .again 0 [.t 32, .t 33]))
    (.op true (.p (.fad 4) [.t 8]) <|
    .op true (.st 1 (.t 24) (.t 18)) <|
    .op true (.p (.ld (some 5)) [.t 8]) <|
    .op true (.st 5 (.t 4) (.t 26)) <|
    .ret [(.t 4, some (some 5))]))
set_option maxHeartbeats 8000000 in
theorem l03Join_fi (how : Has P ν 259 1 V_spec_l01Own) (how2 : Has P ν 360 1 V_spec_l01Own2_o) (ho : Has P ν 409 1 V_spec_l02Own) (hsu : Has P ν 336 2 V_spec_l03Sum) (h : Has P ν 370 2 V_spec_l03Join) (c d : Cat) (s : Shape c) (t : Shape d) :
    Fi (OkM P ν) 370 [.agg c.cells, .agg d.cells] (.agg (joinK c d).cells) := by
  refine OkM.mono (Φ := fun r H' nx' => ∃ lo hi, OwnK (joinK c d) r H' lo hi) (h [.agg c.cells, .agg d.cells] hempty 0 _ rfl fun hwf => ?_) fun r H' nx' ⟨lo, hi, hO⟩ => hO.frz 3
  unfold V_spec_l03Join
  have hr : rS c d = c.f.length + d.f.length := rfl
  have n40 := s.n40
  have tl := s.tl
  have il := s.il
  have o8 := s.o8
  have o0 := s.o0
  have n40' := t.n40
  have tl' := t.tl
  have il' := t.il
  have o8' := t.o8
  have o0' := t.o0
  have n64 := nJ_le s t
  have fl : (fS c d).length = rS c d := fS_len
  have tl2 : (tS c d).length = rS c d := tS_len s t
  try simp (disch := (first | rfl | with_reducible assumption | with_reducible solve_by_elim (maxDepth := 8) [Shape.inT, Shape.inI, Shape.inC, Shape.inK, Shape.obF, Shape.obT, Shape.arI, Arr.inF] | omega)) only [S2, Nat.reduceEqDiff, Nat.reduceAdd, iput, puts]
  refine den_newR fun H0 y0 e0 => ?_
  try simp (disch := (first | rfl | with_reducible assumption | with_reducible solve_by_elim (maxDepth := 8) [Shape.inT, Shape.inI, Shape.inC, Shape.inK, Shape.obF, Shape.obT, Shape.arI, Arr.inF] | omega)) only [S2, Nat.reduceEqDiff, Nat.reduceAdd, iput, puts]
  refine den_callo (fc := (336, [])) (ys := [.agg c.cells, .agg d.cells]) rfl (by simp only [SS, Nat.reduceEqDiff, Nat.reduceAdd, iput, puts, FF, frzL_cat]) (l03Sum_own how how2 ho hsu c d s t (0 + 1)) (IsCO.some _ _) fun u H' n1 hu => ?_
  obtain ⟨q1, q2, q3, own⟩ := hu.own H0
  refine ⟨q1, q2, ?_⟩
  have y1 : hmerge (0 + 1) H0 H' 0 = some [int 0, .nil, .nil, .nil, .nil] := (hmerge_lo (by omega)).trans y0
  generalize hmerge (0 + 1) H0 H' = H1 at own y1
  obtain ⟨va, vb, vd, ve, rfl, oC⟩ := own
  have one5 := OwnK.one5 (x := sumK c d) ⟨va, vb, vd, ve, rfl, oC⟩
  refine den_newR fun H2 x2 e2 => ?_
  refine den_stR (o := n1) (m := 5) (d := [int (sumK c d).o, va, vb, vd, ve]) rfl rfl x2 rfl rfl one5 fun H3 x3 e3 => ?_
  have y3 := ((e3 0 (by omega)).trans (e2 0 (by omega))).trans y1
  obtain ⟨s1, s2, s3, out⟩ := (oC.mono (H' := H3) (Nat.le_refl _) fun t _ h2 => (e3 t (by omega)).trans (e2 t h2)).out3 (q := n1) (lo' := 0 + 1) (hi' := n1 + 1) x3 (by omega) (by omega) (by omega) (by omega) (by omega)
  have pl := out.g1.plen
  have out : Out3 n1 (c.o + d.o) (fS c d) (tS c d) (iS c d) (sumK c d).c va vb vd ve s1 s2 s3 H3 1 (n1 + 1) := out
  rw [show (sumK c d).f.length = rS c d from fl] at pl
  obtain ⟨q, hq⟩ : ∃ q, q = n1 := ⟨_, rfl⟩
  rw [← hq] at out ⊢
  have ql : 1 ≤ q := by omega
  try simp (disch := (first | rfl | with_reducible assumption | with_reducible solve_by_elim (maxDepth := 8) [Shape.inT, Shape.inI, Shape.inC, Shape.inK, Shape.obF, Shape.obT, Shape.arI, Arr.inF] | omega)) only [S2, Nat.reduceEqDiff, Nat.reduceAdd, iput, puts, pl, p_fadm (l := 5) out.obj rfl, p_ldm (n := 5) out.obj rfl]
  refine den_loop (α := Nat × (AV × AV) × (Option Nat × Option Nat)) (fun a => [int a.1]) (fun a H' nx' => a.1 ≤ c.o.toNat ∧ Out3 q (c.o + d.o) (fS c d ++ glS (a.1 * d.o.toNat) (pL d)) (tS c d ++ glS (a.1 * d.o.toNat) (pR c d)) (iS c d) (sumK c d).c a.2.1.1 a.2.1.2 vd ve a.2.2.1 a.2.2.2 s3 H' 1 nx' ∧ H' 0 = some [int 0, .nil, .nil, .nil, .nil]) (fun a => c.o.toNat - a.1) (0, (va, vb), s1, s2) rfl ⟨Nat.zero_le _, by simpa [glS] using out, y3⟩ ?_
  clear out
  rintro ⟨a, ⟨va, vb⟩, s1, s2⟩ H1 n1 ⟨ha, out, y1⟩
  simp only at ha out
  by_cases hla : a < c.o.toNat
  · have hla' : (a : Int) < c.o := by omega
    try simp (disch := (first | rfl | with_reducible assumption | with_reducible solve_by_elim (maxDepth := 8) [Shape.inT, Shape.inI, Shape.inC, Shape.inK, Shape.obF, Shape.obT, Shape.arI, Arr.inF] | omega)) only [S2, Nat.reduceEqDiff, Nat.reduceAdd, iput, puts, hla']
    refine den_loop (α := Nat × (AV × AV) × (Option Nat × Option Nat)) (fun b => [int b.1]) (fun b H' nx' => b.1 ≤ d.o.toNat ∧ Out3 q (c.o + d.o) (fS c d ++ glS (a * d.o.toNat + b.1) (pL d)) (tS c d ++ glS (a * d.o.toNat + b.1) (pR c d)) (iS c d) (sumK c d).c b.2.1.1 b.2.1.2 vd ve b.2.2.1 b.2.2.2 s3 H' 1 nx' ∧ H' 0 = some [int 0, .nil, .nil, .nil, .nil]) (fun b => d.o.toNat - b.1) (0, (va, vb), s1, s2) rfl ⟨Nat.zero_le _, by simpa using out, y1⟩ ?_
    clear out
    rintro ⟨b, ⟨va, vb⟩, s1, s2⟩ H1 n1 ⟨hb, out, y1⟩
    simp only at hb out
    by_cases hlb : b < d.o.toNat
    · have hlb' : (b : Int) < d.o := by omega
      have wR : IntKind.i64.wrap (c.o + (b : Int)) = c.o + (b : Int) := wrap_id (by omega) (by omega)
      have eL : pL d (a * d.o.toNat + b) = (a : Int) := by unfold pL; rw [iyd hlb]
      have eR : pR c d (a * d.o.toNat + b) = c.o + (b : Int) := by unfold pR; rw [iym hlb]
      have lt : a * d.o.toNat + b < nJ c d := iylt hla hlb
      have qh := out.qh
      generalize hN : a * d.o.toNat + b = N at lt eL eR out
      try simp (disch := (first | rfl | with_reducible assumption | with_reducible solve_by_elim (maxDepth := 8) [Shape.inT, Shape.inI, Shape.inC, Shape.inK, Shape.obF, Shape.obT, Shape.arI, Arr.inF] | omega)) only [S2, Nat.reduceEqDiff, Nat.reduceAdd, iput, puts, hlb', p_fadm (l := 5) out.obj rfl, p_ldm (n := 5) out.obj rfl]
      refine den_out1 (m := [(a : Int)]) out (Nat.le_refl _) rfl rfl rfl (by omega) rfl rfl (by simp) (by rw [List.length_append, glS_len]; simp only [List.length_cons, List.length_nil]; omega) fun a6 H6 n6 out6 hn6 keep6 => ?_
      have y6 := (keep6 0 (by omega) (by omega) fun ee => by have := out.r1 0 ee; omega).trans y1
      rw [List.append_assoc, ← eL, ← glS_succ] at out6
      try simp (disch := (first | rfl | with_reducible assumption | with_reducible solve_by_elim (maxDepth := 8) [Shape.inT, Shape.inI, Shape.inC, Shape.inK, Shape.obF, Shape.obT, Shape.arI, Arr.inF] | omega)) only [S2, Nat.reduceEqDiff, Nat.reduceAdd, iput, puts, wR, p_fadm (l := 5) out6.obj rfl, p_ldm (n := 5) out6.obj rfl]
      refine den_out2 (m := [c.o + (b : Int)]) out6 (Nat.le_refl _) rfl rfl rfl (by omega) rfl rfl (by simp) (by rw [List.length_append, glS_len]; simp only [List.length_cons, List.length_nil]; omega) fun b7 H7 n7 out7 hn7 keep7 => ?_
      have y7 := (keep7 0 (by omega) (by omega) fun ee => by have := out6.r2 0 ee; omega).trans y6
      rw [List.append_assoc, ← eR, ← glS_succ] at out7
      try simp (disch := (first | rfl | with_reducible assumption | with_reducible solve_by_elim (maxDepth := 8) [Shape.inT, Shape.inI, Shape.inC, Shape.inK, Shape.obF, Shape.obT, Shape.arI, Arr.inF] | omega)) only [S2, Nat.reduceEqDiff, Nat.reduceAdd, iput, puts]
      refine ⟨(b + 1, (a6, b7), some (s1.getD n1), some (s2.getD n6)), rfl, ⟨hlb, ?_, y7⟩, by simp only; omega⟩
      simp only
      rw [← Nat.add_assoc, hN]
      exact out7
    · have hbe : b = d.o.toNat := by omega
      subst hbe
      rw [iys] at out
      have hlb' : ¬ ((d.o.toNat : Nat) : Int) < d.o := by omega
      try simp (disch := (first | rfl | with_reducible assumption | with_reducible solve_by_elim (maxDepth := 8) [Shape.inT, Shape.inI, Shape.inC, Shape.inK, Shape.obF, Shape.obT, Shape.arI, Arr.inF] | omega)) only [S2, Nat.reduceEqDiff, Nat.reduceAdd, iput, puts, hlb']
      exact ⟨(a + 1, (va, vb), s1, s2), rfl, ⟨hla, out, y1⟩, by simp only; omega⟩
  have hae : a = c.o.toNat := by omega
  subst hae
  have hla' : ¬ ((c.o.toNat : Nat) : Int) < c.o := by omega
  have out : Out3 q (c.o + d.o) (fJ c d) (tJ c d) (iS c d) (sumK c d).c va vb vd ve s1 s2 s3 H1 1 n1 := out
  try simp (disch := (first | rfl | with_reducible assumption | with_reducible solve_by_elim (maxDepth := 8) [Shape.inT, Shape.inI, Shape.inC, Shape.inK, Shape.obF, Shape.obT, Shape.arI, Arr.inF] | omega)) only [S2, Nat.reduceEqDiff, Nat.reduceAdd, iput, puts, hla']
  -- the rows anew
  refine den_loop (α := Nat × AV) (fun a => [a.2, int a.1]) (fun a H' nx' => a.1 ≤ rS c d + nJ c d ∧ n1 ≤ nx' ∧ OwnD ((List.range a.1).map (jR c d)) a.2 H' n1 nx' ∧ ∀ t, t < n1 → H' t = H1 t) (fun a => rS c d + nJ c d - a.1) (0, .nil) rfl ⟨Nat.zero_le _, Nat.le_refl _, OwnD.nil, fun _ _ => rfl⟩ ?_
  rintro ⟨f, vt⟩ H2 n2 ⟨hf, h12, oD, k2⟩
  simp only at hf oD
  have fl3 : (fJ c d).length = rS c d + nJ c d := fJ_len
  have tl3 : (tJ c d).length = rS c d + nJ c d := tJ_len s t
  have out2 := out.mono (H' := H2) (Nat.le_refl _) fun t _ ht => k2 t ht
  have pl2 := out2.g1.plen
  rw [fl3] at pl2
  by_cases hlf : f < rS c d + nJ c d
  · try simp (disch := (first | rfl | with_reducible assumption | with_reducible solve_by_elim (maxDepth := 8) [Shape.inT, Shape.inI, Shape.inC, Shape.inK, Shape.obF, Shape.obT, Shape.arI, Arr.inF] | omega)) only [S2, Nat.reduceEqDiff, Nat.reduceAdd, iput, puts, hlf, pl2, p_fadm (l := 5) out2.obj rfl, p_ldm (n := 5) out2.obj rfl]
    refine den_loop (α := Nat × AV) (fun b => [b.2, int b.1]) (fun b H' nx' => b.1 ≤ rS c d + nJ c d ∧ IsI ((jR c d f).take b.1) H2 n2 b.2 H' nx') (fun b => rS c d + nJ c d - b.1) (0, .nil) rfl ⟨Nat.zero_le _, IsI.nil H2 n2⟩ ?_
    rintro ⟨g, v8⟩ H8 n8 ⟨hg, hI⟩
    simp only at hg hI
    have out8 := out2.mono (H' := H8) (Nat.le_refl _) fun t _ ht => hI.old (by omega)
    have pl8 := out8.g1.plen
    rw [fl3] at pl8
    by_cases hlg : g < rS c d + nJ c d
    · have gT : gI (tJ c d) (f : Int) = (tJ c d).getD f 0 := rfl
      have gF : gI (fJ c d) (g : Int) = (fJ c d).getD g 0 := rfl
      have gT' : gI (tJ c d) (g : Int) = (tJ c d).getD g 0 := rfl
      have gF' : gI (fJ c d) (f : Int) = (fJ c d).getD f 0 := rfl
      obtain ⟨p1, a1, a2⟩ := (out8.g2.rd (lim := fun _ => True) fun _ _ => trivial).rd (i := (f : Int)) (In.nat (by omega))
      obtain ⟨p2, a3, a4⟩ := (out8.g1.rd (lim := fun _ => True) fun _ _ => trivial).rd (i := (g : Int)) (In.nat (by omega))
      have ln : ((jR c d f).take g).length ≤ 200 := by rw [List.length_take, jR_len]; omega
      have lj : g < (jR c d f).length := by rw [jR_len]; omega
      try simp (disch := (first | rfl | with_reducible assumption | with_reducible solve_by_elim (maxDepth := 8) [Shape.inT, Shape.inI, Shape.inC, Shape.inK, Shape.obF, Shape.obT, Shape.arI, Arr.inF] | omega)) only [S2, Nat.reduceEqDiff, Nat.reduceAdd, iput, puts, hlg, pl8, p_fadm (l := 5) out8.obj rfl, p_ldm (n := 5) out8.obj rfl, a1, a2, a3, a4, gT, gF]
      refine ⟨fun h1 => ?_, fun h1 => ?_⟩
      · have sn := take_snoc lj (jR_no (by omega) (by simpa using h1))
        try simp (disch := (first | rfl | with_reducible assumption | with_reducible solve_by_elim (maxDepth := 8) [Shape.inT, Shape.inI, Shape.inC, Shape.inK, Shape.obF, Shape.obT, Shape.arI, Arr.inF] | omega)) only [S2, Nat.reduceEqDiff, Nat.reduceAdd, iput, puts]
        refine den_appI (m := [-1]) hI rfl (by simp) (by simp only [List.length_cons, List.length_nil]; omega) fun v9 H9 n9 hI9 => ?_
        rw [sn] at hI9
        try simp (disch := (first | rfl | with_reducible assumption | with_reducible solve_by_elim (maxDepth := 8) [Shape.inT, Shape.inI, Shape.inC, Shape.inK, Shape.obF, Shape.obT, Shape.arI, Arr.inF] | omega)) only [S2, Nat.reduceEqDiff, Nat.reduceAdd, iput, puts]
        exact ⟨(g + 1, v9), rfl, ⟨hlg, hI9⟩, by simp only; omega⟩
      have h1 : (tJ c d).getD f 0 = (fJ c d).getD g 0 := by simpa using h1
      obtain ⟨p3, a5, a6⟩ := (out8.g1.rd (lim := fun _ => True) fun _ _ => trivial).rd (i := (f : Int)) (In.nat (by omega))
      obtain ⟨p4, a7, a8⟩ := (out8.g2.rd (lim := fun _ => True) fun _ _ => trivial).rd (i := (g : Int)) (In.nat (by omega))
      have oF := fJ_ob s t (a := f) (by omega)
      have oT := tJ_ob s t (a := g) (by omega)
      have bd := mul_bd' (a := 16) (b := 8) oF.1 (by have := oF.2; omega) o0' o8'
      have w1 : IntKind.i64.wrap ((fJ c d).getD f 0 * d.o) = (fJ c d).getD f 0 * d.o := wrap_id (by omega) (by omega)
      have w2 : IntKind.i64.wrap ((rS c d : Int) + (fJ c d).getD f 0 * d.o) = (rS c d : Int) + (fJ c d).getD f 0 * d.o := wrap_id (by omega) (by omega)
      have w3 : IntKind.i64.wrap ((rS c d : Int) + (fJ c d).getD f 0 * d.o + (tJ c d).getD g 0) = (rS c d : Int) + (fJ c d).getD f 0 * d.o + (tJ c d).getD g 0 := wrap_id (by omega) (by omega)
      have w4 : IntKind.i64.wrap ((rS c d : Int) + (fJ c d).getD f 0 * d.o + (tJ c d).getD g 0 - c.o) = (rS c d : Int) + (fJ c d).getD f 0 * d.o + (tJ c d).getD g 0 - c.o := wrap_id (by omega) (by omega)
      by_cases hf2 : f < rS c d
      · by_cases hg2 : g < rS c d
        · have rl : (tR c d f).length = rS c d := tR_len
          have er : (sumK c d).c.getD f [] = tR c d f := sum_row hf2
          obtain ⟨o, o', cells, hve, h2, h3, h4, h5, _⟩ := out8.tab.atY (j := f) (by rw [sum_len]; exact hf2) (by rw [er]; intro e; rw [e] at rl; simp at rl; omega)
          rw [er] at h4 h5
          rw [sum_len] at h3 hve
          rw [rl] at h4
          have z1 : pvf H8 (.iad 1) [ve, int (f : Int)] = some (.mp o f (rS c d)) := by rw [hve, p_iadm h2 h3, if_pos ⟨by omega, by omega⟩]; rfl
          have z2 : pvf H8 (.ld none) [.mp o f (rS c d)] = some (.ms o' 0 (rS c d) 1) := by rw [p_ldm h2 h3, h4]
          have sn := take_snoc lj (jR_in s t hf2 hg2 h1)
          try simp (disch := (first | rfl | with_reducible assumption | with_reducible solve_by_elim (maxDepth := 8) [Shape.inT, Shape.inI, Shape.inC, Shape.inK, Shape.obF, Shape.obT, Shape.arI, Arr.inF] | omega)) only [S2, Nat.reduceEqDiff, Nat.reduceAdd, iput, puts, hf2, hg2, p_fadm (l := 5) out8.obj rfl, p_ldm (n := 5) out8.obj rfl, z1, z2, p_iadN h5 rl hg2, p_ldN h5 rl hg2]
          refine den_appI (m := [(tR c d f).getD g 0]) hI rfl (by simp) (by simp only [List.length_cons, List.length_nil]; omega) fun v9 H9 n9 hI9 => ?_
          rw [sn] at hI9
          try simp (disch := (first | rfl | with_reducible assumption | with_reducible solve_by_elim (maxDepth := 8) [Shape.inT, Shape.inI, Shape.inC, Shape.inK, Shape.obF, Shape.obT, Shape.arI, Arr.inF] | omega)) only [S2, Nat.reduceEqDiff, Nat.reduceAdd, iput, puts]
          exact ⟨(g + 1, v9), rfl, ⟨hlg, hI9⟩, by simp only; omega⟩
        · have sn := take_snoc lj (jR_out s t (by omega) (fun e => hg2 e.2) h1)
          try simp (disch := (first | rfl | with_reducible assumption | with_reducible solve_by_elim (maxDepth := 8) [Shape.inT, Shape.inI, Shape.inC, Shape.inK, Shape.obF, Shape.obT, Shape.arI, Arr.inF] | omega)) only [S2, Nat.reduceEqDiff, Nat.reduceAdd, iput, puts, hf2, hg2, p_fadm (l := 5) out8.obj rfl, p_ldm (n := 5) out8.obj rfl, a5, a6, a7, a8, gT', gF', w1, w2, w3, w4]
          refine den_appI (m := [(rS c d : Int) + (fJ c d).getD f 0 * d.o + (tJ c d).getD g 0 - c.o]) hI rfl (by simp) (by simp only [List.length_cons, List.length_nil]; omega) fun v9 H9 n9 hI9 => ?_
          rw [sn] at hI9
          try simp (disch := (first | rfl | with_reducible assumption | with_reducible solve_by_elim (maxDepth := 8) [Shape.inT, Shape.inI, Shape.inC, Shape.inK, Shape.obF, Shape.obT, Shape.arI, Arr.inF] | omega)) only [S2, Nat.reduceEqDiff, Nat.reduceAdd, iput, puts]
          exact ⟨(g + 1, v9), rfl, ⟨hlg, hI9⟩, by simp only; omega⟩
      · have sn := take_snoc lj (jR_out s t (by omega) (fun e => hf2 e.1) h1)
        try simp (disch := (first | rfl | with_reducible assumption | with_reducible solve_by_elim (maxDepth := 8) [Shape.inT, Shape.inI, Shape.inC, Shape.inK, Shape.obF, Shape.obT, Shape.arI, Arr.inF] | omega)) only [S2, Nat.reduceEqDiff, Nat.reduceAdd, iput, puts, hf2, p_fadm (l := 5) out8.obj rfl, p_ldm (n := 5) out8.obj rfl, a5, a6, a7, a8, gT', gF', w1, w2, w3, w4]
        refine den_appI (m := [(rS c d : Int) + (fJ c d).getD f 0 * d.o + (tJ c d).getD g 0 - c.o]) hI rfl (by simp) (by simp only [List.length_cons, List.length_nil]; omega) fun v9 H9 n9 hI9 => ?_
        rw [sn] at hI9
        try simp (disch := (first | rfl | with_reducible assumption | with_reducible solve_by_elim (maxDepth := 8) [Shape.inT, Shape.inI, Shape.inC, Shape.inK, Shape.obF, Shape.obT, Shape.arI, Arr.inF] | omega)) only [S2, Nat.reduceEqDiff, Nat.reduceAdd, iput, puts]
        exact ⟨(g + 1, v9), rfl, ⟨hlg, hI9⟩, by simp only; omega⟩
    have hge : g = rS c d + nJ c d := by omega
    subst hge
    rw [List.take_of_length_le (by rw [jR_len]; omega)] at hI
    have hn8 := hI.1
    have ow : Own1 (jR c d f) v8 H8 n2 n8 := by
      obtain ⟨_, ⟨q1, q2, _⟩ | ⟨o, q1, q2, q3, q4⟩⟩ := hI
      · exact .inl ⟨q1, q2⟩
      · exact .inr ⟨o, q1, q2, q3, by rw [q4]; exact hput_eq _ _ _⟩
    have oD8 := oD.mono (H' := H8) (Nat.le_refl _) fun t _ ht => hI.old ht
    try simp (disch := (first | rfl | with_reducible assumption | with_reducible solve_by_elim (maxDepth := 8) [Shape.inT, Shape.inI, Shape.inC, Shape.inK, Shape.obF, Shape.obT, Shape.arI, Arr.inF] | omega)) only [S2, Nat.reduceEqDiff, Nat.reduceAdd, iput, puts, hlg, pl8, p_fadm (l := 5) out8.obj rfl, p_ldm (n := 5) out8.obj rfl]
    refine den_rowF (l := jR c d f) oD8 hn8 (fun _ => rfl) h12 (by rw [List.length_map, List.length_range]; omega) ow fun v3 H4 n4 hD4 l4 k4 _ _ => ?_
    try simp (disch := (first | rfl | with_reducible assumption | with_reducible solve_by_elim (maxDepth := 8) [Shape.inT, Shape.inI, Shape.inC, Shape.inK, Shape.obF, Shape.obT, Shape.arI, Arr.inF] | omega)) only [S2, Nat.reduceEqDiff, Nat.reduceAdd, iput, puts]
    refine ⟨(f + 1, v3), rfl, ⟨hlf, by omega, ?_, fun t ht => ?_⟩, by simp only; omega⟩
    · simp only
      rw [List.range_succ, List.map_append]
      exact hD4
    · rw [k4 t ht, hI.old (by omega), k2 t ht]
  have hfe : f = rS c d + nJ c d := by omega
  subst hfe
  have ql2 := out2.ql
  have qh2 := out2.qh
  have y2 := (k2 0 (by omega)).trans y1
  try simp (disch := (first | rfl | with_reducible assumption | with_reducible solve_by_elim (maxDepth := 8) [Shape.inT, Shape.inI, Shape.inC, Shape.inK, Shape.obF, Shape.obT, Shape.arI, Arr.inF] | omega)) only [S2, Nat.reduceEqDiff, Nat.reduceAdd, iput, puts, hlf, pl2, p_fadm (l := 5) out2.obj rfl, p_ldm (n := 5) out2.obj rfl]
  refine den_st1G (o := q) (p := 4) (m := 5) (u := vt) rfl rfl out2.obj rfl (by omega) oD.one fun H3 x3 e3 => ?_
  have out3 := out2.newTab h12 oD x3 e3
  rw [jR_tbl] at out3
  have y3 := (e3 0 (by omega)).trans y2
  try simp (disch := (first | rfl | with_reducible assumption | with_reducible solve_by_elim (maxDepth := 8) [Shape.inT, Shape.inI, Shape.inC, Shape.inK, Shape.obF, Shape.obT, Shape.arI, Arr.inF] | omega)) only [S2, Nat.reduceEqDiff, Nat.reduceAdd, iput, puts, p_ldsm (l := 5) out3.obj rfl]
  refine den_stR (o := 0) (m := 5) (d := [int (c.o + d.o), va, vb, vd, vt]) rfl rfl y3 rfl rfl out3.ones fun H9 y9 e9 => ?_
  have out9 := out3.mono (H' := H9) (Nat.le_refl _) fun t h1 _ => e9 t (by omega)
  refine ⟨_, ?_, H9, fun _ _ h => h, 1, n2, out9.own⟩
  simp only [retOf, rets, SS, Nat.reduceEqDiff, Nat.reduceAdd, iput, puts, pLd, y9]
  rfl
end Go.Av
