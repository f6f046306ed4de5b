/-
  Monoidal categories of the call's own: memory, marks, comparison.
-/
import Derived.Test.YtbalggpkmaabmaaAvR3
namespace Go.Av
open Classical
set_option linter.unusedSimpArgs false
set_option linter.unusedVariables false
variable {P : Program} {ν : Nat → FuncId}

structure Mon where
  on : Cat
  u : Int
  ob : List (List Int)
  ar : List (List Int)
def Mon.cells (x : Mon) : List AV := [int x.on.o, islice x.on.f, islice x.on.t, islice x.on.i, .sl (rows x.on.c) x.on.c.length, int x.u, .sl (rows x.ob) x.ob.length, .sl (rows x.ar) x.ar.length]
structure OwnMC (x : Mon) (a b d e g h : AV) (H : Hp) (lo hi : Nat) : Prop where
  ex : ∃ p1 p2, lo ≤ p1 ∧ p1 ≤ p2 ∧ p2 ≤ hi ∧ OwnKC x.on a b d e H lo p1 ∧ OwnD x.ob g H p1 p2 ∧ OwnD x.ar h H p2 hi
def OwnM (x : Mon) (v : AV) (H : Hp) (lo hi : Nat) : Prop := ∃ a b d e g h, v = .agg [int x.on.o, a, b, d, e, int x.u, g, h] ∧ OwnMC x a b d e g h H lo hi
theorem OwnMC.mono {x : Mon} {a b d e g h : AV} {H H' : Hp} {lo hi hi' : Nat} (o : OwnMC x a b d e g h H lo hi) (hh : hi ≤ hi') (hH : ∀ k, lo ≤ k → k < hi → H' k = H k) : OwnMC x a b d e g h H' lo hi' := by
  obtain ⟨p1, p2, l1, l2, l3, q1, q2, q3⟩ := o.ex
  exact ⟨p1, p2, l1, l2, by omega, q1.mono (Nat.le_refl _) fun k h1 h2 => hH k h1 (by omega), q2.mono (Nat.le_refl _) fun k h1 h2 => hH k (by omega) (by omega), q3.mono hh fun k h1 h2 => hH k (by omega) h2⟩
theorem OwnM.mono {x : Mon} {v : AV} {H H' : Hp} {lo hi hi' : Nat} (o : OwnM x v H lo hi) (hh : hi ≤ hi') (hH : ∀ k, lo ≤ k → k < hi → H' k = H k) : OwnM x v H' lo hi' := by
  obtain ⟨a, b, d, e, g, h, rfl, o⟩ := o
  exact ⟨a, b, d, e, g, h, rfl, o.mono hh hH⟩
theorem OwnM.weak {x : Mon} {v : AV} {H : Hp} {lo lo' hi : Nat} (o : OwnM x v H lo hi) (hh : lo' ≤ lo) : OwnM x v H lo' hi := by
  obtain ⟨a, b, d, e, g, h, rfl, ⟨p1, p2, l1, l2, l3, q1, q2, q3⟩⟩ := o
  exact ⟨a, b, d, e, g, h, rfl, ⟨p1, p2, by omega, l2, l3, q1.weak hh, q2, q3⟩⟩
theorem OwnD.keep2 {R : List (List Int)} {v : AV} {H : Hp} {m lo hi : Nat} (hm : m ≤ lo) (h : OwnD R v H lo hi) : OwnD R v (keepH m H) lo hi := by
  rcases h with h | ⟨o, cells, h1, h2, h3, h4, h5, h6, h7⟩
  · exact .inl h
  · refine .inr ⟨o, cells, h1, h2, h3, keepH_at (by omega) h4 (List.all_eq_true.2 fun a ha => ?_), h5, fun k a hk => ?_, h7⟩
    · obtain ⟨k, hk⟩ := List.getElem?_of_mem ha
      rcases h6 k a hk with ⟨_, rfl⟩ | ⟨o', rfl, q2, _⟩
      · rfl
      · simp [Av.cln]; omega
    · rcases h6 k a hk with q | ⟨o', q1, q2, q3, q4, q5⟩
      · exact .inl q
      · exact .inr ⟨o', q1, q2, q3, q4, keepH_at (by omega) q5 (ints_cln _ _)⟩
theorem OwnM.keep {x : Mon} {v : AV} {H : Hp} {lo hi : Nat} (o : OwnM x v H lo hi) : OwnM x v (keepH lo H) lo hi := by
  obtain ⟨a, b, d, e, g, h, rfl, ⟨p1, p2, l1, l2, l3, q1, q2, q3⟩⟩ := o
  exact ⟨a, b, d, e, g, h, rfl, ⟨p1, p2, l1, l2, l3, q1.keep, q2.keep2 l1, q3.keep2 (by omega)⟩⟩
theorem OwnM.cln {x : Mon} {v : AV} {H : Hp} {lo hi : Nat} (o : OwnM x v H lo hi) (k : Nat) : Av.cln lo (k + 1) v = true := by
  obtain ⟨a, b, d, e, g, h, rfl, ⟨p1, p2, l1, l2, l3, q1, q2, q3⟩⟩ := o
  have hi : Av.cln lo k (int x.on.o) = true := by cases k <;> rfl
  have hu : Av.cln lo k (int x.u) = true := by cases k <;> rfl
  simp [Av.cln, q1.f.cln k, q1.t.cln k, q1.i.cln k, q1.c.cln k, hi, hu, (q2.weak' l1).cln k, (q3.weak' (show lo ≤ p2 by omega)).cln k]
theorem OwnM.frz {x : Mon} {v : AV} {H : Hp} {lo hi : Nat} (o : OwnM x v H lo hi) (k : Nat) : Av.frz H (k + 1 + 1 + 1) v = some (.agg x.cells) := by
  obtain ⟨a, b, d, e, g, h, rfl, ⟨p1, p2, l1, l2, l3, q1, q2, q3⟩⟩ := o
  show ([int x.on.o, a, b, d, e, int x.u, g, h].mapM (Av.frz H (k + 1 + 1))).map AV.agg = _
  simp only [List.mapM_cons, List.mapM_nil, frz_int, q1.f.frzk, q1.t.frzk, q1.i.frzk, q1.c.frz k, q2.frz k, q3.frz k]
  rfl
theorem OwnM.frzL {x : Mon} {v : AV} {H : Hp} {lo hi : Nat} (h : OwnM x v H lo hi) (t : List AV) : frzL H (v :: t) = (Av.frzL H t).map (.agg x.cells :: ·) := by
  simp only [Av.frzL, List.mapM_cons, show Av.frz H fuel v = _ from h.frz 3]; cases List.mapM (Av.frz H fuel) t <;> rfl
theorem OwnM.one8 {x : Mon} {a b d e g h : AV} {H : Hp} {lo hi : Nat} (o : OwnM x (.agg [int x.on.o, a, b, d, e, int x.u, g, h]) H lo hi) : [int x.on.o, a, b, d, e, int x.u, g, h].all AV.one = true := by
  obtain ⟨a', b', d', e', g', h', q, ⟨p1, p2, l1, l2, l3, q1, q2, q3⟩⟩ := o
  cases q
  simp only [List.all_cons, List.all_nil, q1.f.one', q1.t.one', q1.i.one', q1.c.one, q2.one, q3.one, Bool.and_true]
  rfl
theorem OwnM.ex (x : Mon) (nx : Nat) : ∃ v H' nx', nx ≤ nx' ∧ OwnM x v H' nx nx' := by
  obtain ⟨v, H1, n1, l1, a, b, d, e, rfl, q1⟩ := OwnK.ex x.on nx
  obtain ⟨g, H2, n2, l2, q2, k2⟩ := OwnD.some x.ob H1 n1
  obtain ⟨h, H3, n3, l3, q3, k3⟩ := OwnD.some x.ar H2 n2
  exact ⟨_, H3, n3, by omega, a, b, d, e, g, h, rfl, ⟨n1, n2, l1, l2, l3, q1.mono (Nat.le_refl _) fun k h1 h2 => by rw [k3 k (by omega), k2 k h2], q2.mono (Nat.le_refl _) fun k h1 h2 => k3 k h2, q3⟩⟩
def IsM (x : Mon) (k : Int) (nx : Nat) (r : AV) (H' : Hp) (nx' : Nat) : Prop := ∃ r0, r = .tup [r0, int k] ∧ nx ≤ nx' ∧ OwnM x r0 H' nx nx' ∧ clnH nx H'
theorem IsM.some (x : Mon) (k : Int) (nx : Nat) : ∃ u H' nx', IsM x k nx u H' nx' := by
  obtain ⟨v, H', nx', h1, h2⟩ := OwnM.ex x nx
  exact ⟨_, keepH nx H', nx', v, rfl, h1, h2.keep, keepH_cln _ _⟩
theorem IsM.own {x : Mon} {k : Int} {nx : Nat} {r : AV} {H' : Hp} {nx' : Nat} (h : IsM x k nx r H' nx') (H : Hp) :
    cln nx fuel r = true ∧ clnH nx H' ∧ nx ≤ nx' ∧ ∃ r0, r = .tup [r0, int k] ∧ OwnM x r0 (hmerge nx H H') nx nx' := by
  obtain ⟨r0, rfl, h0, hO, hc⟩ := h
  refine ⟨by simp [fuel, Av.cln, hO.cln, int], hc, h0, r0, rfl, hO.mono (Nat.le_refl _) fun o h1 h2 => ?_⟩
  simp only [hmerge]; rw [if_neg (by omega)]
theorem OwnM.back {x : Mon} {v : AV} {k : Int} {H : Hp} {nx lo nx' : Nat} (h : OwnM x v H lo nx') (h1 : nx ≤ lo) (h2 : nx ≤ nx') : ∃ H', Sub H' H ∧ IsM x k nx (.tup [v, int k]) H' nx' := ⟨keepH nx H, keepH_sub _ _, v, rfl, h2, (h.weak h1).keep, keepH_cln _ _⟩

structure SmallM (x : Mon) : Prop where
  on : Small2 x.on
  ob : SmallII x.ob
  ar : SmallII x.ar
def totM (x : Mon) : Nat := totC x.on + tot x.ob + tot x.ar
def seqM (k : Int) (x : Mon) : Mon := ⟨seqC k x.on, x.u, seqR (k + totC x.on) x.ob, seqR (k + totC x.on + tot x.ob) x.ar⟩
theorem totII_le {R : List (List Int)} (b : SmallII R) : tot R ≤ 1099511627776 := by
  have := tot_le b.row
  have : R.length * 1048576 ≤ 1048576 * 1048576 := Nat.mul_le_mul_right _ b.len
  omega
theorem totM_le {x : Mon} (b : SmallM x) : totM x ≤ 3298538029056 := by
  have h1 := totC_le b.on
  have h2 := totII_le b.ob
  have h3 := totII_le b.ar
  unfold totM
  omega
section
variable {x : Mon} {H : Hp}
theorem mon_box : pvf H .box [.agg x.cells] = some (.ptr x.cells 0) := p_box rfl rfl
theorem mon_ld5 : pvf H (.ld (some 5)) [.ptr x.cells 0] = some (.agg x.on.cells) := rfl
theorem mon5 : x.cells[5]? = some (int x.u) := rfl
theorem mon6 : x.cells[6]? = some (.sl (rows x.ob) x.ob.length) := rfl
theorem mon7 : x.cells[7]? = some (.sl (rows x.ar) x.ar.length) := rfl
theorem frzL_mon {l : List AV} (x : Mon) : frzL H (.agg x.cells :: l) = (frzL H l).map (.agg x.cells :: ·) := frzL_agg rfl
end
def V_laws_eqMonoidal : Vc :=
  .op true (.p .box [.t 0]) <|
  .op true (.p .box [.t 1]) <|
  .op true (.p (.fad 0) [.t 2]) <|
  .op true (.p (.ld (some 5)) [.t 4]) <|
  .op true (.p (.fad 0) [.t 3]) <|
  .op true (.p (.ld (some 5)) [.t 6]) <|
  .op true (.call (.f 8) [.t 5, .t 7]) <|
  .op true (.p .bnot [.t 8]) <|
  .br 9
   (.ret [(.c (bool false), none)])
   (.op true (.p (.fad 5) [.t 2]) <|
   .op true (.p (.ld none) [.t 10]) <|
   .op true (.p (.fad 5) [.t 3]) <|
   .op true (.p (.ld none) [.t 12]) <|
   .op true (.p (.bin .neq) [.t 11, .t 13]) <|
   .br 14
    (.ret [(.c (bool false), none)])
    (.op true (.p (.fad 6) [.t 2]) <|
    .op true (.p (.ld none) [.t 15]) <|
    .op true (.p (.fad 6) [.t 3]) <|
    .op true (.p (.ld none) [.t 17]) <|
    .op true (.call (.f 20) [.t 16, .t 18]) <|
    .op true (.p .bnot [.t 19]) <|
    .br 20
     (.ret [(.c (bool false), none)])
     (.op true (.p (.fad 7) [.t 2]) <|
     .op true (.p (.ld none) [.t 21]) <|
     .op true (.p (.fad 7) [.t 3]) <|
     .op true (.p (.ld none) [.t 23]) <|
     .op true (.call (.f 20) [.t 22, .t 24]) <|
     .op true (.p .bnot [.t 25]) <|
     .br 26
      (.ret [(.c (bool false), none)])
      (.ret [(.c (bool true), none)]))))
set_option maxHeartbeats 1000000 in
theorem eqMon_same (L : HLaw P ν) (h : Has P ν 219 2 V_laws_eqMonoidal) (x : Mon) (b : SmallM x) : Fz (OkM P ν) 219 [.agg x.cells, .agg x.cells] (bool true) := by
  refine Fn.fzb fun H nx => h _ _ _ _ rfl fun hwf => ?_
  unfold V_laws_eqMonoidal
  have e1 := eqCat_same (P := P) (ν := ν) L x.on b.on
  have e2 := eqII_same (P := P) (ν := ν) L.eqI L.eqII x.ob b.ob.len b.ob.row
  have e3 := eqII_same (P := P) (ν := ν) L.eqI L.eqII x.ar b.ar.len b.ar.row
  simp only [SS, Nat.reduceEqDiff, Nat.reduceAdd, iput, puts, mon_box, mon_ld5]
  refine den_call (fc := (8, [])) rfl (by first | (simp only [SS, Nat.reduceEqDiff, Nat.reduceAdd, iput, puts, FF, frzL_cat]; done) | (simp only [SS, Nat.reduceEqDiff, Nat.reduceAdd, iput, puts, FF, frzL_cat]; rfl)) (e1) ?_
  simp only [SS, Nat.reduceEqDiff, Nat.reduceAdd, iput, puts, mon5, neSelf, mon6]
  refine den_call (fc := (20, [])) rfl (by first | (simp only [SS, Nat.reduceEqDiff, Nat.reduceAdd, iput, puts, FF, frzL_cat]; done) | (simp only [SS, Nat.reduceEqDiff, Nat.reduceAdd, iput, puts, FF, frzL_cat]; rfl)) (e2) ?_
  simp only [SS, Nat.reduceEqDiff, Nat.reduceAdd, iput, puts, mon7]
  refine den_call (fc := (20, [])) rfl (by first | (simp only [SS, Nat.reduceEqDiff, Nat.reduceAdd, iput, puts, FF, frzL_cat]; done) | (simp only [SS, Nat.reduceEqDiff, Nat.reduceAdd, iput, puts, FF, frzL_cat]; rfl)) (e3) ?_
  simp only [SS, Nat.reduceEqDiff, Nat.reduceAdd, iput, puts]
  exact ⟨_, rfl, H, fun _ _ h => h, rfl, rfl, Nat.le_refl _⟩
def V_laws_heldMonoidal : Vc :=
  .op true (.p .box [.t 0]) <|
  .op true (.p (.fad 0) [.t 2]) <|
  .op true (.p (.ld (some 5)) [.t 3]) <|
  .op true (.call (.f 111) [.t 4, .t 1]) <|
  .op true (.p (.bin .lss) [.t 5, .c (int 0)]) <|
  .br 6
   (.ret [(.c (int (-1)), none)])
   (.op true (.p (.fad 6) [.t 2]) <|
   .op true (.p (.ld none) [.t 7]) <|
   .op true (.call (.f 150) [.t 8, .t 5]) <|
   .op true (.p (.bin .lss) [.t 9, .c (int 0)]) <|
   .br 10
    (.ret [(.c (int (-1)), none)])
    (.op true (.p (.fad 7) [.t 2]) <|
    .op true (.p (.ld none) [.t 11]) <|
    .op true (.call (.f 150) [.t 12, .t 9]) <|
    .op true (.p (.bin .lss) [.t 13, .c (int 0)]) <|
    .br 14
     (.ret [(.c (int (-1)), none)])
     (.ret [(.t 13, none)])))
set_option maxHeartbeats 1000000 in
theorem heldM_ok (h1 : Has P ν 11 2 V_laws_heldInt64S) (h2 : Has P ν 150 2 V_laws_heldInt64SS) (hc : Has P ν 111 2 V_laws_heldCategory) (h : Has P ν 221 2 V_laws_heldMonoidal) (x : Mon) (b : SmallM x) (k : Int) (k0 : 0 ≤ k) (kl : k ≤ 1048576) : Fn P ν 221 [.agg (seqM k x).cells, int k] (int (k + totM x)) := by
  intro H nx
  refine h _ _ _ _ rfl fun hwf => ?_
  unfold V_laws_heldMonoidal
  have t1 := totC_le b.on
  have t2 := totII_le b.ob
  have t3 := totII_le b.ar
  have a1 := (heldK_ok h1 h2 hc x.on b.on k k0 (by omega)).fzi
  have a2 := (heldII_ok h1 h2 x.ob (k + totC x.on) (by omega) (by omega) b.ob.len b.ob.row t2).fzi
  have a3 := (heldII_ok h1 h2 x.ar (k + totC x.on + tot x.ob) (by omega) (by omega) b.ar.len b.ar.row t3).fzi
  have c5 : ∀ H : Hp, pvf H (.ld (some 5)) [.ptr (seqM k x).cells 0] = some (.agg (seqC k x.on).cells) := fun _ => rfl
  have c6 : (seqM k x).cells[6]? = some (.sl (rows (seqR (k + totC x.on) x.ob)) x.ob.length) := by
    show some (AV.sl (rows (seqR _ x.ob)) (seqR _ x.ob).length) = _
    rw [seqR_len]
  have c7 : (seqM k x).cells[7]? = some (.sl (rows (seqR (k + totC x.on + tot x.ob) x.ar)) x.ar.length) := by
    show some (AV.sl (rows (seqR _ x.ar)) (seqR _ x.ar).length) = _
    rw [seqR_len]
  have k1 : ¬ k + (totC x.on : Int) < 0 := by omega
  have k2 : ¬ k + (totC x.on : Int) + (tot x.ob : Int) < 0 := by omega
  have k3 : ¬ k + (totC x.on : Int) + (tot x.ob : Int) + (tot x.ar : Int) < 0 := by omega
  simp only [SS, Nat.reduceEqDiff, Nat.reduceAdd, iput, puts, mon_box, c5]
  refine den_call (fc := (111, [])) rfl (by first | (simp only [SS, Nat.reduceEqDiff, Nat.reduceAdd, iput, puts, FF, frzL_cat]; done) | (simp only [SS, Nat.reduceEqDiff, Nat.reduceAdd, iput, puts, FF, frzL_cat]; rfl)) (a1) ?_
  simp only [SS, Nat.reduceEqDiff, Nat.reduceAdd, iput, puts, k1, c6]
  refine den_call (fc := (150, [])) rfl (by first | (simp only [SS, Nat.reduceEqDiff, Nat.reduceAdd, iput, puts, FF, frzL_cat]; done) | (simp only [SS, Nat.reduceEqDiff, Nat.reduceAdd, iput, puts, FF, frzL_cat]; rfl)) (a2) ?_
  simp only [SS, Nat.reduceEqDiff, Nat.reduceAdd, iput, puts, k2, c7]
  refine den_call (fc := (150, [])) rfl (by first | (simp only [SS, Nat.reduceEqDiff, Nat.reduceAdd, iput, puts, FF, frzL_cat]; done) | (simp only [SS, Nat.reduceEqDiff, Nat.reduceAdd, iput, puts, FF, frzL_cat]; rfl)) (a3) ?_
  simp only [SS, Nat.reduceEqDiff, Nat.reduceAdd, iput, puts, k3]
  refine ⟨_, rfl, H, fun _ _ h => h, ?_, rfl, Nat.le_refl _⟩
  show int _ = int _
  congr 1
  unfold totM
  push_cast
  omega
theorem OwnM.marked {x : Mon} {r : AV} {M : Hp} {lo hi : Nat} (o : OwnM x r M lo hi) (k : Int) (nx : Nat) : ∃ u H' nx', u = int (k + totM x) ∧ nx ≤ nx' ∧ OwnM (seqM k x) r H' lo hi ∧ ∀ o, o < lo ∨ hi ≤ o → o < nx → H' o = M o := by
  obtain ⟨a, b, d, e, g, h, rfl, ⟨p1, p2, l1, l2, l3, q1, q2, q3⟩⟩ := o
  obtain ⟨_, H1, n1, _, _, m1, y1⟩ := (show OwnK x.on (.agg [int x.on.o, a, b, d, e]) M lo p1 from ⟨a, b, d, e, rfl, q1⟩).marked k hi
  have q2 := q2.mono (H' := H1) (Nat.le_refl _) fun o h1 h2 => y1 o (by omega) (by omega)
  have q3 := q3.mono (H' := H1) (Nat.le_refl _) fun o h1 h2 => y1 o (by omega) (by omega)
  obtain ⟨_, H2, n2, _, _, m2, y2⟩ := q2.marked (k + totC x.on) hi
  have q3 := q3.mono (H' := H2) (Nat.le_refl _) fun o h1 h2 => y2 o (by omega)
  have m1 := m1.mono (H' := H2) (Nat.le_refl _) fun o h1 h2 => y2 o (by omega)
  obtain ⟨_, H3, n3, _, _, m3, y3⟩ := q3.marked (k + totC x.on + tot x.ob) hi
  have m1 := m1.mono (H' := H3) (Nat.le_refl _) fun o h1 h2 => y3 o (by omega)
  have m2 := m2.mono (H' := H3) (Nat.le_refl _) fun o h1 h2 => y3 o (by omega)
  obtain ⟨a', b', d', e', w, m1⟩ := m1
  cases w
  refine ⟨_, fun o => if o < lo ∨ hi ≤ o then M o else H3 o, nx, rfl, Nat.le_refl _, ⟨a, b, d, e, g, h, rfl, ⟨p1, p2, l1, l2, l3, m1.mono (Nat.le_refl _) fun o h1 h2 => ?_, m2.mono (Nat.le_refl _) fun o h1 h2 => ?_, m3.mono (Nat.le_refl _) fun o h1 h2 => ?_⟩⟩, fun o ho _ => ?_⟩
  · show (if _ then _ else _) = _; rw [if_neg (by omega)]
  · show (if _ then _ else _) = _; rw [if_neg (by omega)]
  · show (if _ then _ else _) = _; rw [if_neg (by omega)]
  · show (if _ then _ else _) = _; rw [if_pos ho]
def V_laws_markMonoidal : Vc :=
  .op true (.boxm (.t 0)) <|
  .op true (.p (.fad 0) [.t 2]) <|
  .op true (.p (.ld (some 5)) [.t 3]) <|
  .op true (.callm (.f 9) [.t 4, .t 1]) <|
  .op true (.p (.fad 6) [.t 2]) <|
  .op true (.p (.ld none) [.t 6]) <|
  .op true (.callm (.f 21) [.t 7, .t 5]) <|
  .op true (.p (.fad 7) [.t 2]) <|
  .op true (.p (.ld none) [.t 9]) <|
  .op true (.callm (.f 21) [.t 10, .t 8]) <|
  .ret [(.t 11, none)]
set_option maxHeartbeats 1000000 in
theorem markM_own (M : HMark P ν) (h : Has P ν 220 2 V_laws_markMonoidal) (x : Mon) (b : SmallM x) (k : Int) (r0 : AV) (H : Hp) (lo hi nx : Nat) (ho : OwnM x r0 H lo hi) (hl : lo ≤ nx) (hn : hi ≤ nx) (k0 : 0 ≤ k) (kl : k ≤ 1048576) :
    OkM P ν 220 [r0, int k] H nx (fun r H' nx' => r = int (k + totM x) ∧ nx ≤ nx' ∧ OwnM (seqM k x) r0 H' lo hi ∧ ∀ o, o < lo ∨ hi ≤ o → o < nx → H' o = H o) := by
  obtain ⟨va, vb, vd, ve, vg, vh, rfl, oM⟩ := ho
  have one := OwnM.one8 ⟨va, vb, vd, ve, vg, vh, rfl, oM⟩
  obtain ⟨p1, p2, l1, l2, l3, q1, q2, q3⟩ := oM.ex
  refine h _ _ _ _ rfl fun hwf => ?_
  unfold V_laws_markMonoidal
  have t1 := totC_le b.on
  have t2 := totII_le b.ob
  have t3 := totII_le b.ar
  refine den_boxm one ?_
  generalize hH1 : hput H nx (some (ev (env0 [.agg [int x.on.o, va, vb, vd, ve, int x.u, vg, vh], int k]) (.t 0)).cells) = H1
  have x1 : H1 nx = some [int x.on.o, va, vb, vd, ve, int x.u, vg, vh] := by rw [← hH1]; exact hput_eq _ _ _
  have y1 : ∀ o, o < nx → H1 o = H o := fun o ho => by rw [← hH1]; exact hput_ne _ _ _ _ (by omega)
  have q1 : OwnK x.on (.agg [int x.on.o, va, vb, vd, ve]) H1 lo p1 := ⟨va, vb, vd, ve, rfl, q1.mono (Nat.le_refl _) fun o _ ho => y1 o (by omega)⟩
  have q2 := q2.mono (H' := H1) (Nat.le_refl _) fun o _ ho => y1 o (by omega)
  have q3 := q3.mono (H' := H1) (Nat.le_refl _) fun o _ ho => y1 o (by omega)
  have ln : (ev (env0 [.agg [int x.on.o, va, vb, vd, ve, int x.u, vg, vh], int k]) (.t 0)).cells.length = 8 := rfl
  rw [ln]
  have ld5 : pvf H1 (.ld (some 5)) [.mp nx 0 8] = some (.agg [int x.on.o, va, vb, vd, ve]) := by simp [pvf, pLd, x1]
  simp only [SS, Nat.reduceEqDiff, Nat.reduceAdd, iput, puts, p_fadm (l := 8) x1 rfl, ld5]
  refine den_callm (fc := (9, [])) rfl (markK_own M x.on b.on k _ _ _ _ _ q1 (by omega) (by omega) k0 (by omega)) (q1.marked _ _) fun u H2 n2 hu => ?_
  obtain ⟨rfl, le2, m1, y2⟩ := hu
  have x2 := (y2 nx (by omega) (by omega)).trans x1
  have q2 := q2.mono (H' := H2) (Nat.le_refl _) fun o h1 h2 => y2 o (by omega) (by omega)
  have q3 := q3.mono (H' := H2) (Nat.le_refl _) fun o h1 h2 => y2 o (by omega) (by omega)
  refine den_fget (o := nx) (m := 8) rfl x2 rfl rfl ?_
  refine den_callm (fc := (21, [])) rfl (markII_own M.mI M.mII x.ob (k + totC x.on) _ _ _ _ _ q2 (by omega) (by omega) b.ob.len b.ob.row t2) (q2.marked _ _) fun u H3 n3 hu => ?_
  obtain ⟨rfl, rfl, m2, y3⟩ := hu
  have x3 := (y3 nx (by omega)).trans x2
  have m1 := m1.mono (H' := H3) (Nat.le_refl _) fun o h1 h2 => y3 o (by omega)
  have q3 := q3.mono (H' := H3) (Nat.le_refl _) fun o h1 h2 => y3 o (by omega)
  refine den_fget (o := nx) (m := 8) rfl x3 rfl rfl ?_
  refine den_callm (fc := (21, [])) rfl (markII_own M.mI M.mII x.ar (k + totC x.on + tot x.ob) _ _ _ _ _ q3 (by omega) (by omega) b.ar.len b.ar.row t3) (q3.marked _ _) fun u H4 n4 hu => ?_
  obtain ⟨rfl, rfl, m3, y4⟩ := hu
  have m1 := m1.mono (H' := H4) (Nat.le_refl _) fun o h1 h2 => y4 o (by omega)
  have m2 := m2.mono (H' := H4) (Nat.le_refl _) fun o h1 h2 => y4 o (by omega)
  obtain ⟨a', b', d', e', w, m1⟩ := m1
  cases w
  refine ⟨_, rfl, H4, fun _ _ h => h, ?_, by omega, ⟨va, vb, vd, ve, vg, vh, rfl, ⟨p1, p2, l1, l2, l3, m1, m2, m3⟩⟩, fun o ho hon => ?_⟩
  · show int _ = int _
    congr 1
    unfold totM
    push_cast
    omega
  · rw [y4 o (by omega), y3 o (by omega), y2 o (by omega) (by omega)]
    exact y1 o hon
theorem szR_tot : ∀ (m : List (List Int)) (left : Int), 0 ≤ left → 0 ≤ szR m left → (tot m : Int) ≤ left
  | [], left, h0, _ => by simpa [tot] using h0
  | l :: m, left, h0, h => by
    unfold szR at h
    split at h
    · omega
    · rename_i h1
      have e : szS l left = left - l.length := by unfold szS at h1 ⊢; split at h1 <;> split <;> omega
      have := szR_tot m (szS l left) (by omega) h
      rw [tot_cons]
      omega
theorem szSS_tot {m : List (List Int)} {left : Int} (h0 : 0 ≤ left) (h : 0 ≤ szSS m left) : (tot m : Int) ≤ left := by
  unfold szSS at h
  split at h
  · omega
  · have := szR_tot m (left - m.length) (by omega) h
    omega
/-- Both sides answer alike: a monoidal category and a code. -/
def BothM (P : Program) (ν : Nat → FuncId) (i j : Nat) (ys : List AV) : Prop :=
  ∃ (l : Mon) (k : Int), SmallM l ∧ (∀ nx, OkM P ν i ys hempty nx (IsM l k nx)) ∧ Fi (OkM P ν) j ys (.tup [.agg l.cells, int k])
end Go.Av
