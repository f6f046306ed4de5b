/-
  Marks on a functor.
-/
import Derived.Test.YtalfoffamemfnaaAvD3
namespace Go.Av
open Classical
set_option linter.unusedSimpArgs false
set_option linter.unusedVariables false
variable {P : Program} {ν : Nat → FuncId}

theorem IsMkU.some (f : Fu) (H : Hp) (nx : Nat) : ∃ u H' nx', IsMkU f H nx u H' nx' := by
  obtain ⟨_, H1, _, a, _, ha, rfl, c1, e1⟩ := toCat_someG f.s H nx
  obtain ⟨_, H2, _, b, _, hb, rfl, c2, e2⟩ := toCat_someG f.t H1 (a + 4 + f.s.c.length)
  generalize hn : b + 4 + f.t.c.length = n
  have k : ∀ o, o < n → hput (hput H2 n (Option.some (ints f.ob))) (n + 1) (Option.some (ints f.ar)) o = H2 o := fun o ho => by rw [hput_ne _ _ _ _ (by omega), hput_ne _ _ _ _ (by omega)]
  refine ⟨.agg (fuM f a b n (n + 1)), hput (hput H2 n (Option.some (ints f.ob))) (n + 1) (Option.some (ints f.ar)), n + 2, a, b, n, n + 1, rfl, ⟨ha, hb, by omega, by omega, by omega⟩, ⟨c1.mono fun o _ _ => ?_, c2.mono fun o _ _ => k o (by omega), ?_, hput_eq _ _ _⟩, fun o ho => ?_⟩
  · rw [k o (by omega), e2 o (by omega)]
  · rw [hput_ne _ _ _ _ (by omega)]; exact hput_eq _ _ _
  · rw [k o (by omega), e2 o (by omega), e1 o ho]
/-- As markCat_ok, from a larger mark. -/
theorem markCat_okB (hm : Has P ν 10 2 V_laws_markInt64S) (hm2 : Has P ν 21 2 V_laws_markInt64SS) (h : Has P ν 9 2 V_laws_markCategory) (c : Cat) (b : Small2 c) (n0 : Nat) (k : Int) (H : Hp) (nx : Nat) (hc : CatAt H n0 c) (hn : n0 + 4 + c.c.length ≤ nx) (k0 : 0 ≤ k) (kl : k ≤ 2199023255552) :
    OkM P ν 9 [catM c n0, int k] H nx (fun r H' nx' => ∃ k' : Int, r = int k' ∧ 0 ≤ k' ∧ k' ≤ k + 1099514773504 ∧ nx ≤ nx' ∧ ∀ o, o < n0 ∨ n0 + 4 + c.c.length ≤ o → o < nx → H' o = H o) := by
  refine h _ _ _ _ rfl fun hwf => ?_
  unfold V_laws_markCategory
  have b1 := b.f
  have b2 := b.t
  have b3 := b.i
  have b4 := b.c
  refine den_boxm rfl ?_
  refine den_fget (o := nx) (m := 5) rfl (hput_eq _ _ _) rfl rfl ?_
  generalize hH1 : hput H nx (some (ev (env0 [catM c n0, int k]) (.t 0)).cells) = H1
  have x1 : H1 nx = some [int c.o, .ms n0 0 c.f.length 1, .ms (n0 + 1) 0 c.t.length 1, .ms (n0 + 2) 0 c.i.length 1, .ms (n0 + 3) 0 c.c.length 1] := by rw [← hH1]; exact hput_eq _ _ _
  have y1 : ∀ o, o < nx → H1 o = H o := fun o ho => by rw [← hH1]; exact hput_ne _ _ _ _ (by omega)
  have c1 : CatAt H1 n0 c := hc.mono fun o _ ho => y1 o (by omega)
  refine den_callm (fc := (10, [])) rfl (markI_ms hm c.f k n0 _ _ c1.f k0 (by omega) (by omega)) ⟨_, _, _, rfl, rfl, rfl⟩ fun u H' nx' hu => ?_
  obtain ⟨rfl, rfl, rfl⟩ := hu
  refine den_fget (o := nx) (m := 5) rfl (hp2 (by omega) x1) rfl rfl ?_
  have c2 : hput H1 n0 (some (ints (seqI k c.f.length))) (n0 + 1) = some (ints c.t) := hp2 (by omega) c1.t
  refine den_callm (fc := (10, [])) rfl (markI_ms hm c.t (k + c.f.length) (n0 + 1) _ _ c2 (by omega) (by omega) (by omega)) ⟨_, _, _, rfl, rfl, rfl⟩ fun u H' nx' hu => ?_
  obtain ⟨rfl, rfl, rfl⟩ := hu
  refine den_fget (o := nx) (m := 5) rfl (hp2 (by omega) (hp2 (by omega) x1)) rfl rfl ?_
  have c3 : hput (hput H1 n0 (some (ints (seqI k c.f.length)))) (n0 + 1) (some (ints (seqI (k + c.f.length) c.t.length))) (n0 + 2) = some (ints c.i) := hp2 (by omega) (hp2 (by omega) c1.i)
  refine den_callm (fc := (10, [])) rfl (markI_ms hm c.i (k + c.f.length + c.t.length) (n0 + 2) _ _ c3 (by omega) (by omega) (by omega)) ⟨_, _, _, rfl, rfl, rfl⟩ fun u H' nx' hu => ?_
  obtain ⟨rfl, rfl, rfl⟩ := hu
  refine den_fget (o := nx) (m := 5) rfl (hp2 (by omega) (hp2 (by omega) (hp2 (by omega) x1))) rfl rfl ?_
  refine den_callm (fc := (21, [])) rfl (markII_ok hm hm2 (n0 + 3) c.c.length (fun j => n0 + 4 + j) (fun j => (c.c.getD j []).length) (k + c.f.length + c.t.length + c.i.length) _ _ ?_ ?_ (fun j _ => by omega) b.row (by omega) (by omega) (by omega)) ⟨int 0, _, _, 0, rfl, by omega, by omega, rfl, fun _ _ => rfl⟩ fun u H' nx' hu => ?_
  · exact hp2 (by omega) (hp2 (by omega) (hp2 (by omega) c1.c))
  · intro j hj; exact ⟨c.c.getD j [], hp2 (by show n0 + 4 + j ≠ n0 + 2; omega) (hp2 (by show n0 + 4 + j ≠ n0 + 1; omega) (hp2 (by show n0 + 4 + j ≠ n0; omega) (c1.row j hj))), rfl⟩
  · obtain ⟨k', rfl, q1, q2, rfl, q4⟩ := hu
    refine ⟨_, rfl, H', fun _ _ h => h, k', rfl, q1, by omega, Nat.le_succ _, fun o h1 h2 => ?_⟩
    rw [q4 o (fun j hj => by show o ≠ n0 + 4 + j; omega), hput_ne _ _ _ _ (by omega), hput_ne _ _ _ _ (by omega), hput_ne _ _ _ _ (by omega)]
    exact y1 o h2
def V_laws_markFunctor : Vc :=
  .op true (.boxm (.t 0)) <|
  .op true (.p (.fad 0) [.t 2]) <|
  .op true (.p (.ld (some 5)) [.t 3]) <|
  .op true (.callm (.f 9) [.t 4, .t 1]) <|
  .op true (.p (.fad 5) [.t 2]) <|
  .op true (.p (.ld (some 5)) [.t 6]) <|
  .op true (.callm (.f 9) [.t 7, .t 5]) <|
  .op true (.p (.fad 10) [.t 2]) <|
  .op true (.p (.ld none) [.t 9]) <|
  .op true (.callm (.f 10) [.t 10, .t 8]) <|
  .op true (.p (.fad 11) [.t 2]) <|
  .op true (.p (.ld none) [.t 12]) <|
  .op true (.callm (.f 10) [.t 13, .t 11]) <|
  .ret [(.t 14, none)]
set_option maxHeartbeats 2000000 in
theorem markU_ok (hm : Has P ν 10 2 V_laws_markInt64S) (hm2 : Has P ν 21 2 V_laws_markInt64SS) (hc : Has P ν 9 2 V_laws_markCategory) (h : Has P ν 212 2 V_laws_markFunctor) (f : Fu) (b : SmallU f) (a b' p q lo hi : Nat) (k : Int) (H : Hp) (nx : Nat) (hf : FuAt H a b' p q f) (i : FuIn f a b' p q lo hi) (hn : hi ≤ nx) (k0 : 0 ≤ k) (kl : k ≤ 1048576) :
    OkM P ν 212 [.agg (fuM f a b' p q), int k] H nx (fun r H' nx' => ∃ k' : Int, r = int k' ∧ 0 ≤ k' ∧ k' ≤ 4398046511104 ∧ nx ≤ nx' ∧ ∀ o, o < lo ∨ hi ≤ o → o < nx → H' o = H o) := by
  refine h _ _ _ _ rfl fun hwf => ?_
  unfold V_laws_markFunctor
  have i1 := i.ia
  have i2 := i.ib
  have i3 := i.ip
  have i4 := i.iq
  have i5 := i.ih
  have bo := b.ob
  have ba := b.ar
  refine den_boxm rfl ?_
  show den _ _ _ _ (put _ _ (.mp nx 0 12)) (hput H nx (some (fuM f a b' p q))) _ _
  have x1 : hput H nx (some (fuM f a b' p q)) nx = some (fuM f a b' p q) := hput_eq _ _ _
  have y1 : ∀ o, o < nx → hput H nx (some (fuM f a b' p q)) o = H o := fun o ho => hput_ne _ _ _ _ (by omega)
  generalize hput H nx (some (fuM f a b' p q)) = H1 at x1 y1
  have f1 : FuAt H1 a b' p q f := hf.mono i fun o h1 h2 => y1 o (by omega)
  have l0 : ∀ H2 : Hp, H2 nx = some (fuM f a b' p q) → pvf H2 (.ld (some 5)) [.mp nx 0 12] = some (catM f.s a) := fun H2 h => by simp only [pvf, pLd, h]; rfl
  have l5 : ∀ H2 : Hp, H2 nx = some (fuM f a b' p q) → pvf H2 (.ld (some 5)) [.mp nx 5 12] = some (catM f.t b') := fun H2 h => by simp only [pvf, pLd, h]; rfl
  have lp : ∀ H2 : Hp, H2 nx = some (fuM f a b' p q) → pvf H2 (.ld none) [.mp nx 10 12] = some (.ms p 0 f.ob.length 1) := fun H2 h => by simp only [pvf, pLd, h]; rfl
  have lq : ∀ H2 : Hp, H2 nx = some (fuM f a b' p q) → pvf H2 (.ld none) [.mp nx 11 12] = some (.ms q 0 f.ar.length 1) := fun H2 h => by simp only [pvf, pLd, h]; rfl
  try simp (disch := (first | rfl | with_reducible assumption | with_reducible solve_by_elim (maxDepth := 8) [Shape.inT, Shape.inI, Shape.inC, Shape.inK, Shape.obF, Shape.obT, Shape.arI, Arr.inF] | omega)) only [S2, Nat.reduceEqDiff, Nat.reduceAdd, iput, puts, p_fadm (l := 12) x1 rfl, l0 H1 x1]
  refine den_callm (fc := (9, [])) rfl (markCat_okB hm hm2 hc f.s b.s a k H1 (nx + 1) f1.s (by omega) k0 (by omega)) ⟨int 0, H1, nx + 1, 0, rfl, by omega, by omega, Nat.le_refl _, fun _ _ _ => rfl⟩ fun u H2 n2 hu => ?_
  obtain ⟨k2, rfl, k3, k4, n3, e2⟩ := hu
  have x2 := (e2 nx (by omega) (by omega)).trans x1
  have t2 : CatAt H2 b' f.t := f1.t.mono fun o h1 h2 => e2 o (by omega) (by omega)
  have p2 := (e2 p (by omega) (by omega)).trans f1.ob
  have q2 := (e2 q (by omega) (by omega)).trans f1.ar
  try simp (disch := (first | rfl | with_reducible assumption | with_reducible solve_by_elim (maxDepth := 8) [Shape.inT, Shape.inI, Shape.inC, Shape.inK, Shape.obF, Shape.obT, Shape.arI, Arr.inF] | omega)) only [S2, Nat.reduceEqDiff, Nat.reduceAdd, iput, puts, p_fadm (l := 12) x2 rfl, l5 H2 x2]
  refine den_callm (fc := (9, [])) rfl (markCat_okB hm hm2 hc f.t b.t b' k2 H2 n2 t2 (by omega) k3 (by omega)) ⟨int 0, H2, n2, 0, rfl, by omega, by omega, Nat.le_refl _, fun _ _ _ => rfl⟩ fun u H3 n4 hu => ?_
  obtain ⟨k5, rfl, k6, k7, n5, e3⟩ := hu
  have x3 := (e3 nx (by omega) (by omega)).trans x2
  have p3 := (e3 p (by omega) (by omega)).trans p2
  have q3 := (e3 q (by omega) (by omega)).trans q2
  try simp (disch := (first | rfl | with_reducible assumption | with_reducible solve_by_elim (maxDepth := 8) [Shape.inT, Shape.inI, Shape.inC, Shape.inK, Shape.obF, Shape.obT, Shape.arI, Arr.inF] | omega)) only [S2, Nat.reduceEqDiff, Nat.reduceAdd, iput, puts, p_fadm (l := 12) x3 rfl, lp H3 x3]
  refine den_callm (fc := (10, [])) rfl (markI_ms hm f.ob k5 p H3 n4 p3 k6 (by omega) (by omega)) ⟨_, _, _, rfl, rfl, rfl⟩ fun u H4 n6 hu => ?_
  obtain ⟨rfl, rfl, rfl⟩ := hu
  have x4 : hput H3 p (some (ints (seqI k5 f.ob.length))) nx = some (fuM f a b' p q) := (hput_ne _ _ _ _ (by omega)).trans x3
  have q4 : hput H3 p (some (ints (seqI k5 f.ob.length))) q = some (ints f.ar) := (hput_ne _ _ _ _ (by omega)).trans q3
  try simp (disch := (first | rfl | with_reducible assumption | with_reducible solve_by_elim (maxDepth := 8) [Shape.inT, Shape.inI, Shape.inC, Shape.inK, Shape.obF, Shape.obT, Shape.arI, Arr.inF] | omega)) only [S2, Nat.reduceEqDiff, Nat.reduceAdd, iput, puts, p_fadm (l := 12) x4 rfl, lq _ x4]
  refine den_callm (fc := (10, [])) rfl (markI_ms hm f.ar (k5 + f.ob.length) q _ n6 q4 (by omega) (by omega) (by omega)) ⟨_, _, _, rfl, rfl, rfl⟩ fun u H5 n7 hu => ?_
  obtain ⟨rfl, rfl, rfl⟩ := hu
  refine ⟨_, rfl, _, fun _ _ h => h, k5 + f.ob.length + f.ar.length, rfl, by omega, by omega, by omega, fun o h1 h2 => ?_⟩
  rw [hput_ne _ _ _ _ (by omega), hput_ne _ _ _ _ (by omega), e3 o (by omega) (by omega), e2 o (by omega) (by omega)]
  exact y1 o h2
end Go.Av
