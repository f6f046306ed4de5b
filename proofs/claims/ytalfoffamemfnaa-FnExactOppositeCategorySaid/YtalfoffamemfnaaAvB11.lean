/-
  Lists of lists of the call's own; the opposite category; arrows that are epi together.
-/
import Derived.Test.YtalfoffamemfnaaAvB10
import Derived.Test.YtalfoffamemfnaaAvAA
import Derived.Test.YtalfoffamemfnaaAvK0
namespace Go.Av
open Classical
set_option linter.unusedSimpArgs false
set_option linter.unusedVariables false
variable {P : Program} {ν : Nat → FuncId}

/-- A cell that holds a list: nothing, or an object other than o. -/
def RowC (H : Hp) (lo hi o : Nat) (a : AV) (l : List Int) : Prop := (l = [] ∧ a = .nil) ∨ ∃ o', a = .ms o' 0 l.length 1 ∧ lo ≤ o' ∧ o' < hi ∧ o' ≠ o ∧ H o' = some (ints l)
/-- A list of lists in objects between lo and hi. -/
def Own2 (R : List (List Int)) (v : AV) (H : Hp) (lo hi : Nat) : Prop :=
  (R = [] ∧ v = .nil) ∨ ∃ o cells, v = .ms o 0 R.length 1 ∧ lo ≤ o ∧ o < hi ∧ H o = some cells ∧ cells.length = R.length ∧ ∀ k a, cells[k]? = some a → RowC H lo hi o a (R.getD k [])
theorem RowC.mono {H H' : Hp} {lo hi hi' o : Nat} {a : AV} {l : List Int} (h : RowC H lo hi o a l) (hh : hi ≤ hi') (hH : ∀ k, lo ≤ k → k < hi → k ≠ o → H' k = H k) : RowC H' lo hi' o a l := by
  rcases h with h | ⟨o', h1, h2, h3, h4, h5⟩
  · exact .inl h
  · exact .inr ⟨o', h1, h2, by omega, h4, (hH o' h2 h3 h4).trans h5⟩
theorem Own2.mono {R : List (List Int)} {v : AV} {H H' : Hp} {lo hi hi' : Nat} (h : Own2 R v H lo hi) (hh : hi ≤ hi') (hH : ∀ k, lo ≤ k → k < hi → H' k = H k) : Own2 R v H' lo hi' := by
  rcases h with h | ⟨o, cells, h1, h2, h3, h4, h5, h6⟩
  · exact .inl h
  · exact .inr ⟨o, cells, h1, h2, by omega, (hH o h2 h3).trans h4, h5, fun k a hk => (h6 k a hk).mono hh fun k h1 h2 _ => hH k h1 h2⟩
theorem Own2.one {R : List (List Int)} {v : AV} {H : Hp} {lo hi : Nat} (h : Own2 R v H lo hi) : v.one = true := by
  rcases h with ⟨_, rfl⟩ | ⟨o, cells, rfl, _⟩ <;> rfl
theorem RowC.frz {H : Hp} {lo hi o : Nat} {a : AV} {l : List Int} (h : RowC H lo hi o a l) (k : Nat) : frz H (k + 1) a = some (islice l) := by
  rcases h with ⟨rfl, rfl⟩ | ⟨o', rfl, _, _, _, ho⟩
  · rfl
  · have : (ints l).mapM (Av.frz H k) = some (ints l) := frz_stills (by simp [ints, AV.still, int])
    simp only [Av.frz, ho, ints_length, Nat.zero_add, Nat.mul_one, if_true, this]
    simp [islice]
theorem Own2.frz {R : List (List Int)} {v : AV} {H : Hp} {lo hi : Nat} (h : Own2 R v H lo hi) (k : Nat) : frz H (k + 1 + 1) v = some (.sl (rows R) R.length) := by
  rcases h with ⟨rfl, rfl⟩ | ⟨o, cells, rfl, _, _, ho, hl, hc⟩
  · rfl
  · have : cells.mapM (Av.frz H (k + 1)) = some (rows R) := by
      have e : cells = (List.range R.length).map fun j => cells.getD j .nil := by
        refine List.ext_getElem (by simp [hl]) fun j h1 h2 => ?_
        simp [List.getD, h1]
      rw [e]
      refine mapM_outer fun j hj => ?_
      have : cells[j]? = some (cells.getD j .nil) := by simp [List.getD, show j < cells.length by omega]
      exact (hc j _ this).frz k
    simp only [Av.frz, ho, hl, Nat.zero_add, Nat.mul_one, if_true, this]
    simp
theorem Own2.some (R : List (List Int)) (H : Hp) (nx : Nat) : ∃ v H' nx', nx ≤ nx' ∧ Own2 R v H' nx nx' ∧ ∀ o, o < nx → H' o = H o := by
  refine ⟨.ms nx 0 R.length 1, rowsH H nx R R.length, nx + 1 + R.length, by omega, .inr ⟨nx, outer R nx R.length, rfl, Nat.le_refl _, by omega, by simp [rowsH], outer_len _ _ _, fun k a hk => ?_⟩, fun o ho => rowsH_lo _ _ _ _ _ ho⟩
  have hk' : k < R.length := by
    have := List.getElem?_eq_some_iff.1 hk
    obtain ⟨h1, _⟩ := this
    simpa [outer_len] using h1
  rw [outer_full, outerC_get hk'] at hk
  cases hk
  refine .inr ⟨nx + 1 + k, rfl, by omega, by omega, by omega, ?_⟩
  simp only [rowsH]
  rw [if_neg (by omega), if_pos (by omega), show nx + 1 + k - nx - 1 = k by omega]

section
variable {C : Ct} {Φ : AV → Hp → Nat → Prop} {n : Nat} {vars : Nat → AV} {H : Hp} {nx : Nat} {Is : Nat → Inv} {r : Vc}
/-- A row appended to a list of lists. -/
theorem den_row {v w : Opd} {R : List (List Int)} {l : List Int} {lo : Nat} (h : Own2 R (ev vars v) H lo nx) (hv : ∀ u, ev (put vars n u) v = ev vars v) (hlo : lo ≤ nx) (hR : R.length ≤ 1048576)
    (hw : (l = [] ∧ ev vars w = .nil) ∨ ∃ o', ev vars w = .ms o' 0 l.length 1 ∧ lo ≤ o' ∧ o' < nx ∧ H o' = some (ints l) ∧ ∀ o m, ev vars v = .ms o 0 m 1 → o' ≠ o)
    (hk : ∀ v2 H' nx', Own2 (R ++ [l]) v2 H' lo nx' → nx ≤ nx' → (∀ o, o < lo → H' o = H o) → den C Φ r (n + 2) (put (put vars n (.ms nx 0 1 1)) (n + 1) v2) H' nx' Is) :
    den C Φ (.op true (.mslm 1 1 [.nil] [(0, 1)] [w]) (.op true (.app 1 v (.t n)) r)) n vars H nx Is := by
  have h1 : (ev vars w).one = true := by rcases hw with ⟨_, e⟩ | ⟨o', e, _⟩ <;> rw [e] <;> rfl
  have hc : (ev vars w).cells = [ev vars w] := by rcases hw with ⟨_, e⟩ | ⟨o', e, _⟩ <;> rw [e] <;> rfl
  have hm : mslTo ⟨vars, H, nx⟩ 1 1 [.nil] [(0, 1)] [ev vars w] = some (.ms nx 0 1 1, hput H nx (some [ev vars w]), nx + 1) := by
    simp [mslTo, lay, hc, h1]
  refine den_mslm hm ?_
  have hy : appCells (hput H nx (some [ev vars w])) 1 (ev (put vars n (.ms nx 0 1 1)) (.t n)) = some ([ev vars w], 1) := by
    simp [ev, put, appCells, hput_eq]
  have old : ∀ o, o < nx → hput H nx (some [ev vars w]) o = H o := fun o ho => hput_ne _ _ _ _ (by omega)
  have row : ∀ (H' : Hp) (hi o : Nat), nx ≤ hi → (∀ k, k < nx → k ≠ o → H' k = H k) → (∀ o', ev vars w = .ms o' 0 l.length 1 → o' < nx → o' ≠ o) → RowC H' lo hi o (ev vars w) l := fun H' hi o hhi hH' hne => by
    rcases hw with ⟨e1, e2⟩ | ⟨o', e1, e2, e3, e4, _⟩
    · exact .inl ⟨e1, e2⟩
    · exact .inr ⟨o', e1, e2, by omega, hne o' e1 e3, (hH' o' e3 (hne o' e1 e3)).trans e4⟩
  rcases h with ⟨rfl, h2⟩ | ⟨o, cells, h2, h3, h4, h5, h6, h7⟩
  · refine den_app (q := (.ms (nx + 1) 0 1 1, hput (hput H nx (some [ev vars w])) (nx + 1) (some [ev vars w]), nx + 2)) hy (by simp [h1]) ?_ (hk (.ms (nx + 1) 0 1 1) (hput (hput H nx (some [ev vars w])) (nx + 1) (some [ev vars w])) (nx + 2) ?_ (by omega) fun o ho => ?_)
    · rw [hv, h2]; simp [appTo, appMax]
    · refine .inr ⟨nx + 1, [ev vars w], by simp, by omega, by omega, hput_eq _ _ _, by simp, fun k a hk => ?_⟩
      cases k with
      | zero =>
        simp only [List.getElem?_cons_zero, Option.some.injEq] at hk
        subst hk
        exact row _ _ _ (by omega) (fun k hk _ => by rw [hput_ne _ _ _ _ (by omega)]; exact old k hk) fun o' _ ho' => by omega
      | succ k => simp at hk
    · rw [hput_ne _ _ _ _ (by omega)]; exact old o (by omega)
  · refine den_app (q := (.ms o 0 (R.length + 1) 1, hput (hput H nx (some [ev vars w])) o (some (cells ++ [ev vars w])), nx + 1)) hy (by simp [h1]) ?_ (hk (.ms o 0 (R.length + 1) 1) (hput (hput H nx (some [ev vars w])) o (some (cells ++ [ev vars w]))) (nx + 1) ?_ (by omega) fun o' ho' => ?_)
    · rw [hv, h2]
      simp only [appTo, if_true, old o h4, h5, Nat.mul_one, h6]
      rw [if_pos ⟨trivial, by simp [appMax]; omega⟩]
    · refine .inr ⟨o, cells ++ [ev vars w], by simp, h3, by omega, hput_eq _ _ _, by simp [h6], fun k a hk => ?_⟩
      by_cases e : k < cells.length
      · rw [List.getElem?_append_left e] at hk
        have := (h7 k a hk).mono (H' := hput (hput H nx (some [ev vars w])) o (some (cells ++ [ev vars w]))) (hi' := nx + 1) (by omega) fun k' q1 q2 q3 => by rw [hput_ne _ _ _ _ q3]; exact old k' q2
        rwa [show (R ++ [l]).getD k [] = R.getD k [] from by simp [List.getD, List.getElem?_append_left (show k < R.length by omega)]]
      · have ek : k = cells.length := by
          have := (List.getElem?_eq_some_iff.1 hk).1
          simp at this; omega
        subst ek
        simp only [List.getElem?_append_right (Nat.le_refl _), Nat.sub_self, List.getElem?_cons_zero, Option.some.injEq] at hk
        subst hk
        rw [show (R ++ [l]).getD cells.length [] = l from by rw [h6]; simp [List.getD]]
        refine row _ _ _ (by omega) (fun k hk hk' => by rw [hput_ne _ _ _ _ hk']; exact old k hk) fun o' q1 q2 => ?_
        rcases hw with ⟨_, e2⟩ | ⟨o2, e1, _, _, _, e5⟩
        · rw [e2] at q1; cases q1
        · rw [e1] at q1; cases q1; exact e5 o _ h2
    · rw [hput_ne _ _ _ _ (by omega)]; exact old o' (by omega)
end

/-- The opposite category. -/
def opC (c : Cat) : Cat := ⟨c.o, c.t, c.f, c.i, (List.range c.f.length).map fun (f : Nat) => (List.range c.f.length).map fun (g : Nat) => c.K g f⟩
theorem opC_row {c : Cat} {f : Nat} (hf : f < c.f.length) : (opC c).c.getD f [] = (List.range c.f.length).map fun (g : Nat) => c.K g f := by simp [opC, List.getD, hf]
theorem opC_K {c : Cat} {f g : Nat} (hf : f < c.f.length) (hg : g < c.f.length) : (opC c).K f g = c.K g f := by
  rw [Cat.K, Int.toNat_natCast, Int.toNat_natCast, opC_row hf]
  simp [List.getD, hg]
theorem opC_shape {c : Cat} (s : Shape c) : Shape (opC c) := by
  have tl := s.tl
  refine ⟨s.o0, s.o8, by show c.t.length ≤ 40; have := s.n40; omega, by show c.f.length = c.t.length; omega, s.tw, s.fw, s.il, ?_, by simp [opC]; omega, fun x hx => ?_, fun a ha => ?_⟩
  · have := s.iw; show Wn c.i c.t.length; rw [tl]; exact this
  · have := s.id x hx; exact ⟨this.2, this.1⟩
  · have ha' : a < c.f.length := by show a < c.f.length; rw [← tl]; exact ha
    refine ⟨by rw [opC_row ha']; simp [opC]; omega, fun b hb => ?_⟩
    have hb' : b < c.f.length := by rw [← tl]; exact hb
    have := (s.row b hb').2 a ha'
    unfold Cell at this ⊢
    rw [opC_K ha' hb']
    show if c.f.getD a 0 = c.t.getD b 0 then _ else _
    by_cases e : c.f.getD a 0 = c.t.getD b 0
    · rw [if_pos e.symm] at this
      rw [if_pos e]
      exact ⟨this.1, by show c.K b a < (c.t.length : Int); omega, this.2.2.2, this.2.2.1⟩
    · rw [if_neg (fun h => e h.symm)] at this
      rw [if_neg e]
      exact this

/-- What makes the opposite category leaves. -/
def IsOp (c : Cat) (H : Hp) (nx : Nat) (r : AV) (H' : Hp) (nx' : Nat) : Prop := ∃ v, r = .agg [int c.o, islice c.t, islice c.f, islice c.i, v] ∧ nx ≤ nx' ∧ Own2 (opC c).c v H' nx nx' ∧ ∀ o, o < nx → H' o = H o
theorem IsOp.some (c : Cat) (H : Hp) (nx : Nat) : ∃ u H' nx', IsOp c H nx u H' nx' := by
  obtain ⟨v, H', nx', h1, h2, h3⟩ := Own2.some (opC c).c H nx
  exact ⟨_, H', nx', v, rfl, h1, h2, h3⟩
theorem IsOp.frzL {c : Cat} {H : Hp} {nx : Nat} {r : AV} {H' : Hp} {nx' : Nat} (h : IsOp c H nx r H' nx') (t : List AV) : frzL H' (r :: t) = (Av.frzL H' t).map (.agg (opC c).cells :: ·) := by
  obtain ⟨v, rfl, _, h2, _⟩ := h
  have : frz H' fuel (.agg [int c.o, islice c.t, islice c.f, islice c.i, v]) = Option.some (.agg (opC c).cells) := by
    show ([int c.o, islice c.t, islice c.f, islice c.i, v].mapM (Av.frz H' 5)).map AV.agg = _
    simp only [List.mapM_cons, List.mapM_nil, h2.frz 3]
    rfl
  simp only [Av.frzL, List.mapM_cons, this]; cases List.mapM (Av.frz H' fuel) t <;> rfl

theorem l01Own_fz (h : Has P ν 259 1 V_spec_l01Own) (l : List Int) (hl : l.length ≤ 1099511627776) : Fz (OkM P ν) 259 [islice l] (islice l) :=
  OkM.fz (fun H nx => l01Own_ok h l hl H nx) fun _ _ _ hh => hh.frz _
theorem clone_fz (h : Has P ν 261 1 V_clone) (l : List Int) (hl : l.length ≤ 1099511627776) : Fz (OkM P ν) 261 [islice l] (islice l) :=
  OkM.fz (fun H nx => clone_ok h l hl H nx) fun _ _ _ hh => hh.frz _
theorem p_mka5 {H : Hp} {a : Int} {x y z : List Int} : pvf H (.mka [int 0, .nil, .nil, .nil, .nil] [(0, 1), (1, 1), (2, 1), (3, 1), (4, 1)]) [int a, islice x, islice y, islice z, .nil] = some (.agg [int a, islice x, islice y, islice z, .nil]) := rfl
theorem p_mka4 {H : Hp} {a : Int} {x y z : List Int} : pvf H (.mka [int 0, .nil, .nil, .nil, .nil] [(0, 1), (1, 1), (2, 1), (3, 1)]) [int a, islice x, islice y, islice z] = some (.agg [int a, islice x, islice y, islice z, .nil]) := rfl
def V_spec_l03Op : Vc :=
  .op true (.p .box [.t 0]) <|
  .op true (.new [int 0, .nil, .nil, .nil, .nil]) <|
  .op true (.p (.fad 0) [.t 1]) <|
  .op true (.p (.ld none) [.t 3]) <|
  .op true (.p (.fad 2) [.t 1]) <|
  .op true (.p (.ld none) [.t 5]) <|
  .op true (.call (.f 259) [.t 6]) <|
  .op true (.p (.fad 1) [.t 1]) <|
  .op true (.p (.ld none) [.t 8]) <|
  .op true (.call (.f 259) [.t 9]) <|
  .op true (.p (.fad 3) [.t 1]) <|
  .op true (.p (.ld none) [.t 11]) <|
  .op true (.call (.f 259) [.t 12]) <|
  .op true (.p (.msl 0 [] []) []) <|
  .op true (.p (.mka [int 0, .nil, .nil, .nil, .nil] [(0, 1), (1, 1), (2, 1), (3, 1), (4, 1)]) [.t 4, .t 7, .t 10, .t 13, .t 14]) <|
  .op true (.new [int 0, .nil, .nil, .nil, .nil]) <|
  .op true (.st 5 (.t 16) (.t 15)) <|
  .loop 0 [.c (int 0)] <|
  .op true (.p (.fad 1) [.t 1]) <|
  .op true (.p (.ld none) [.t 19]) <|
  .op true (.p .len [.t 20]) <|
  .op true (.p (.bin .lss) [.t 18, .t 21]) <|
  .br 22
   (.op true (.p (.msl 0 [] []) []) <|
   .loop 1 [.t 23, .c (int 0)] <|
   .op true (.p (.fad 1) [.t 1]) <|
   .op true (.p (.ld none) [.t 26]) <|
   .op true (.p .len [.t 27]) <|
   .op true (.p (.bin .lss) [.t 25, .t 28]) <|
   .br 29
    (.op true (.p (.fad 4) [.t 1]) <|
    .op true (.p (.ld none) [.t 30]) <|
    .op true (.p (.iad 1) [.t 31, .t 25]) <|
    .op true (.p (.ld none) [.t 32]) <|
    .op true (.p (.iad 1) [.t 33, .t 18]) <|
    .op true (.p (.ld none) [.t 34]) <|
    .op true (.p (.msl 1 [int 0] [(0, 1)]) [.t 35]) <|
    .op true (.app 1 (.t 24) (.t 36)) <|
    .op true (.p (.bin .add) [.t 25, .c (int 1)]) <|
    .again 1 [.t 37, .t 38])
    (.op true (.p (.fad 4) [.t 16]) <|
    .op true (.p (.ld none) [.t 30]) <|
    .op true (.mslm 1 1 [.nil] [(0, 1)] [.t 24]) <|
    .op true (.app 1 (.t 31) (.t 32)) <|
    .op true (.p (.fad 4) [.t 16]) <|
    .op true (.st 1 (.t 34) (.t 33)) <|
    .op true (.p (.bin .add) [.t 18, .c (int 1)]) <|
    .again 0 [.t 36]))
   (.op true (.p (.ld (some 5)) [.t 16]) <|
   .op true (.st 5 (.t 2) (.t 23)) <|
   .ret [(.t 2, some (some 5))])
set_option maxHeartbeats 2000000 in
theorem l03Op_ok (ho : Has P ν 259 1 V_spec_l01Own) (h : Has P ν 251 1 V_spec_l03Op) (c : Cat) (s : Shape c) (H : Hp) (nx : Nat) : OkM P ν 251 [.agg c.cells] H nx (IsOp c H nx) := by
  refine h _ _ _ _ rfl fun hwf => ?_
  unfold V_spec_l03Op
  have n40 := s.n40
  have tl := s.tl
  have il := s.il
  have o8 := s.o8
  have cl := s.cl
  have rl : (opC c).c.length = c.f.length := by simp [opC]
  simp only [SS, Nat.reduceEqDiff, Nat.reduceAdd, iput, puts, p_boxc]
  refine den_new ?_
  simp only [SS, Nat.reduceEqDiff, Nat.reduceAdd, iput, puts, cat0, cat1, cat2, cat3]
  refine den_call (fc := (259, [])) rfl (by first | (simp only [SS, Nat.reduceEqDiff, Nat.reduceAdd, iput, puts, FF, frzL_cat]; done) | (simp only [SS, Nat.reduceEqDiff, Nat.reduceAdd, iput, puts, FF, frzL_cat]; rfl)) (l01Own_fz ho c.t (by omega)) ?_
  simp only [SS, Nat.reduceEqDiff, Nat.reduceAdd, iput, puts, cat1, cat3]
  refine den_call (fc := (259, [])) rfl (by first | (simp only [SS, Nat.reduceEqDiff, Nat.reduceAdd, iput, puts, FF, frzL_cat]; done) | (simp only [SS, Nat.reduceEqDiff, Nat.reduceAdd, iput, puts, FF, frzL_cat]; rfl)) (l01Own_fz ho c.f (by omega)) ?_
  simp only [SS, Nat.reduceEqDiff, Nat.reduceAdd, iput, puts, cat3]
  refine den_call (fc := (259, [])) rfl (by first | (simp only [SS, Nat.reduceEqDiff, Nat.reduceAdd, iput, puts, FF, frzL_cat]; done) | (simp only [SS, Nat.reduceEqDiff, Nat.reduceAdd, iput, puts, FF, frzL_cat]; rfl)) (l01Own_fz ho c.i (by omega)) ?_
  simp only [SS, Nat.reduceEqDiff, Nat.reduceAdd, iput, puts, p_mka5]
  refine den_new ?_
  refine den_stA (o := nx + 1) (m := 5) rfl rfl (hput_eq _ _ _) rfl rfl rfl ?_
  rw [hput_hput]
  refine den_loop (α := Nat × AV) (fun a => [int a.1]) (fun a H' nx' => a.1 ≤ c.f.length ∧ Own2 ((opC c).c.take a.1) a.2 H' (nx + 2) nx' ∧ H' (nx + 1) = some [int c.o, islice c.t, islice c.f, islice c.i, a.2] ∧ H' nx = some [int 0, .nil, .nil, .nil, .nil] ∧ (∀ o, o < nx → H' o = H o) ∧ nx + 2 ≤ nx') (fun a => c.f.length - a.1) (0, .nil) rfl ⟨Nat.zero_le _, .inl ⟨rfl, rfl⟩, hput_eq _ _ _, by rw [hput_ne _ _ _ _ (by omega)]; exact hput_eq _ _ _, fun o ho => by rw [hput_ne _ _ _ _ (by omega), hput_ne _ _ _ _ (by omega)], by omega⟩ ?_
  rintro ⟨f, v⟩ H1 n1 ⟨hf, hO, k1, k0, hold, hn⟩
  simp only at hf hO k1 hn
  by_cases hlf : f < c.f.length
  · simp only [SS, Nat.reduceEqDiff, Nat.reduceAdd, iput, puts, cat1, hlf]
    have rowl : ((List.range c.f.length).map fun (g : Nat) => c.K g f).length = c.f.length := by simp
    refine den_loop (α := Nat × AV) (fun a => [a.2, int a.1]) (fun a H' nx' => a.1 ≤ c.f.length ∧ IsI (((List.range c.f.length).map fun (g : Nat) => c.K g f).take a.1) H1 n1 a.2 H' nx') (fun a => c.f.length - a.1) (0, .nil) rfl ⟨Nat.zero_le _, Nat.le_refl _, .inl ⟨rfl, rfl, rfl⟩⟩ ?_
    rintro ⟨g, w⟩ H2 n2 ⟨hg, hI⟩
    simp only at hg hI
    by_cases hlg : g < c.f.length
    · have r1 := s.rowLen (a := g) (by omega) (by omega)
      simp only [Int.toNat_natCast] at r1
      simp only [SS, Nat.reduceEqDiff, Nat.reduceAdd, iput, puts, cat1, cat4, cl, hlf, hlg, r1]
      refine den_appI (m := [(c.c.getD g []).getD f 0]) (H0 := H1) (nx0 := n1) hI rfl (by simp) (by simp; omega) fun v2 H3 n3 hI2 => ?_
      simp only [SS, Nat.reduceEqDiff, Nat.reduceAdd, iput, puts, wrap_succ (show g < 9223372036854775807 by omega)]
      refine ⟨(g + 1, v2), rfl, ⟨by simp only; omega, ?_⟩, by simp only; omega⟩
      simp only
      rw [take_succ_at (by rw [rowl]; exact hlg), show ((List.range c.f.length).map fun (g : Nat) => c.K g f).getD g 0 = (c.c.getD g []).getD f 0 from by simp [List.getD, hlg, Cat.K]]
      exact hI2
    · have hg' : g = c.f.length := by omega
      subst hg'
      rw [List.take_of_length_le (by omega)] at hI
      have k1' : H2 (nx + 1) = some [int c.o, islice c.t, islice c.f, islice c.i, v] := (hI.old (by omega)).trans k1
      have k0' := (hI.old (show nx < n1 by omega)).trans k0
      have hO' : Own2 ((opC c).c.take f) v H2 (nx + 2) n2 := hO.mono hI.1 fun k _ hk => hI.old hk
      simp only [SS, Nat.reduceEqDiff, Nat.reduceAdd, iput, puts, cat1, hlg, p_fadm (l := 5) k1' rfl, p_ldm (n := 5) k1' rfl]
      refine den_row (R := (opC c).c.take f) (l := (List.range c.f.length).map fun (g : Nat) => c.K g f) (lo := nx + 2) hO' (fun u => rfl) (by have := hI.1; omega) (by simp; omega) ?_ fun v2 H3 n3 hO3 hn3 hlo => ?_
      · obtain ⟨h0, ⟨e1, e2, _⟩ | ⟨o', e1, e2, e3, rfl⟩⟩ := hI
        · exact .inl ⟨e1, e2⟩
        · refine .inr ⟨o', e3, by omega, e2, hput_eq _ _ _, fun o m hv => ?_⟩
          rcases hO with ⟨_, q⟩ | ⟨o2, cells, q, _, q3, _⟩
          · have : v = .ms o 0 m 1 := hv
            rw [q] at this; cases this
          · have : v = .ms o 0 m 1 := hv
            rw [q] at this; cases this; omega
      have k1'' : H3 (nx + 1) = some [int c.o, islice c.t, islice c.f, islice c.i, v] := (hlo _ (by omega)).trans k1'
      simp only [SS, Nat.reduceEqDiff, Nat.reduceAdd, iput, puts, p_fadm (l := 5) k1'' rfl]
      refine den_st1 (o := nx + 1) (p := 4) (m := 5) (u := v2) rfl rfl k1'' rfl (by omega) hO3.one ?_
      simp only [SS, Nat.reduceEqDiff, Nat.reduceAdd, iput, puts, wrap_succ (show f < 9223372036854775807 by omega), List.set_cons_zero, List.set_cons_succ]
      refine ⟨(f + 1, v2), rfl, ⟨by simp only; omega, ?_, hput_eq _ _ _, ?_, fun o ho => ?_, ?_⟩, by simp only; omega⟩
      · simp only
        rw [take_succ_rows (by omega), opC_row hlf]
        exact hO3.mono (Nat.le_refl _) fun k hk _ => hput_ne _ _ _ _ (by omega)
      · rw [hput_ne _ _ _ _ (by omega), hlo _ (by omega)]; exact k0'
      · rw [hput_ne _ _ _ _ (by omega), hlo _ (by omega), hI.old (by omega)]; exact hold o ho
      · have := hI.1; omega
  · have hf' : f = c.f.length := by omega
    subst hf'
    rw [List.take_of_length_le (by omega)] at hO
    simp only [SS, Nat.reduceEqDiff, Nat.reduceAdd, iput, puts, cat1, hlf, p_ldsm (l := 5) k1 rfl]
    refine den_stA (o := nx) (m := 5) (c := [int 0, .nil, .nil, .nil, .nil]) rfl rfl k0 rfl rfl (by show (true && (true && (true && (true && (v.one && true))))) = true; rw [hO.one]; rfl) ?_
    refine ⟨.agg [int c.o, islice c.t, islice c.f, islice c.i, v], ?_, _, fun _ _ h => h, v, rfl, by omega, ?_, fun o ho => ?_⟩
    · simp only [retOf, rets, SS, Nat.reduceEqDiff, Nat.reduceAdd, iput, puts, pLd, hput_eq]
      rfl
    · refine (hO.mono (H' := hput H1 nx (some [int c.o, islice c.t, islice c.f, islice c.i, v])) (Nat.le_refl _) fun k hk _ => hput_ne _ _ _ _ (by omega)).imp id ?_
      rintro ⟨o, cells, h1, h2, h3, h4, h5, h6⟩
      refine ⟨o, cells, h1, by omega, h3, h4, h5, fun k a hk => ?_⟩
      rcases h6 k a hk with q | ⟨o', q1, q2, q3, q4, q5⟩
      · exact .inl q
      · exact .inr ⟨o', q1, by omega, q3, q4, q5⟩
    · rw [hput_ne _ _ _ _ (by omega)]; exact hold o ho

theorem JEpi_iff {c : Cat} (s : Shape c) (as : List Int) (hw : Wn as c.f.length) : JEpi c (c.T (as.getD 0 0)) as ↔ JS (opC c) as := by
  rw [← JMono_iff (opC_shape s)]
  have tl := s.tl
  refine forall_congr' fun y => forall_congr' fun hy => ?_
  have e : homL (opC c) y ((opC c).F (as.getD 0 0)) = homL c (c.T (as.getD 0 0)) y := by
    show selL c.t.length _ = selL c.f.length _
    rw [tl]
    refine selL_congr fun k hk => ?_
    show (c.T k == (y : Int) && c.F k == c.T (as.getD 0 0)) = _
    rw [Bool.and_comm]
  rw [e, homL, Canc_sel, Canc_sel]
  refine forall_congr' fun g => forall_congr' fun h => forall_congr' fun h1 => forall_congr' fun h2 => forall_congr' fun _ => forall_congr' fun _ => not_congr (forall_congr' fun w => forall_congr' fun hw' => ?_)
  obtain ⟨w0, w1⟩ := hw w hw'
  have k1 := opC_K (c := c) (f := g) (g := (as.getD w 0).toNat) (by omega) (by omega)
  have k2 := opC_K (c := c) (f := h) (g := (as.getD w 0).toNat) (by omega) (by omega)
  rw [Int.toNat_of_nonneg w0] at k1 k2
  rw [k1, k2]

def V_IsJointlyEpi : Vc :=
  .op true (.p .box [.t 0]) <|
  .op true (.call (.f 18) [.t 2, .t 1]) <|
  .op true (.p (.bin .neq) [.t 3, .c (int 0)]) <|
  .br 4
   (.ret [(.c (bool false), none), (.t 3, none)])
   (.op true (.p .len [.t 1]) <|
   .loop 0 [.c (int 0)] <|
   .op true (.p (.bin .lss) [.t 6, .t 5]) <|
   .br 7
    (.op true (.p (.iad 1) [.t 1, .t 6]) <|
    .op true (.p (.ld none) [.t 8]) <|
    .op true (.p (.fad 2) [.t 2]) <|
    .op true (.p (.ld none) [.t 10]) <|
    .op true (.p (.iad 1) [.t 11, .t 9]) <|
    .op true (.p (.ld none) [.t 12]) <|
    .op true (.p (.fad 2) [.t 2]) <|
    .op true (.p (.ld none) [.t 14]) <|
    .op true (.p (.iad 1) [.t 1, .c (int 0)]) <|
    .op true (.p (.ld none) [.t 16]) <|
    .op true (.p (.iad 1) [.t 15, .t 17]) <|
    .op true (.p (.ld none) [.t 18]) <|
    .op true (.p (.bin .neq) [.t 13, .t 19]) <|
    .br 20
     (.ret [(.c (bool false), none), (.c (int 5), none)])
     (.op true (.p (.bin .add) [.t 6, .c (int 1)]) <|
     .again 0 [.t 21]))
    (.op true (.p .len [.t 1]) <|
    .op true (.p (.bin .eql) [.t 8, .c (int 0)]) <|
    .br 9
     (.ret [(.c (bool false), none), (.c (int 5), none)])
     (.op true (.p (.fad 2) [.t 2]) <|
     .op true (.p (.ld none) [.t 10]) <|
     .op true (.p (.iad 1) [.t 1, .c (int 0)]) <|
     .op true (.p (.ld none) [.t 12]) <|
     .op true (.p (.iad 1) [.t 11, .t 13]) <|
     .op true (.p (.ld none) [.t 14]) <|
     .op true (.call (.f 266) [.t 2, .t 15, .t 1]) <|
     .ret [(.t 16, none), (.c (int 0), none)])))
def V_spec_IsJointlyEpi : Vc :=
  .op true (.p .box [.t 0]) <|
  .op true (.p (.ld (some 5)) [.t 2]) <|
  .op true (.call (.f 241) [.t 3, .t 1]) <|
  .op true (.p (.bin .neq) [.t 4, .c (int 0)]) <|
  .br 5
   (.ret [(.c (bool false), none), (.t 4, none)])
   (.op true (.p (.fad 2) [.t 2]) <|
   .op true (.p (.ld none) [.t 6]) <|
   .op true (.call (.f 242) [.t 7, .t 1]) <|
   .op true (.p .bnot [.t 8]) <|
   .br 9
    (.ret [(.c (bool false), none), (.c (int 5), none)])
    (.op true (.p (.ld (some 5)) [.t 2]) <|
    .op true (.callm (.f 251) [.t 10]) <|
    .op true (.call (.f 243) [.t 11, .t 1]) <|
    .ret [(.t 12, none), (.c (int 0), none)]))
set_option maxHeartbeats 1000000 in
theorem IsJointlyEpi_both (K : HCat P ν) (A : HArr P ν) (hca : Has P ν 373 3 V_cancels) (hj1 : Has P ν 381 4 V_Category_jointlyEpi_1) (hj : Has P ν 266 3 V_Category_jointlyEpi) (h : Has P ν 126 2 V_IsJointlyEpi) (KS : HSpec P ν) (hli : Has P ν 241 2 V_spec_l05List) (hen : Has P ν 242 2 V_spec_l05Ends) (hjo : Has P ν 243 2 V_spec_l05Joint) (how : Has P ν 259 1 V_spec_l01Own) (hop : Has P ν 251 1 V_spec_l03Op) (hs : Has P ν 125 2 V_spec_IsJointlyEpi) (c : Cat) (b : Small c) (as : List Int) (hl : as.length ≤ 1048576) :
    ∃ (x : Bool) (k : Int), BothS P ν 126 125 [.agg c.cells, islice as] (.tup [bool x, int k]) := by
  by_cases h0 : code (IsCat c) (Wn as c.f.length) = 0
  · obtain ⟨hc, hw⟩ := code_zero.1 h0
    have s := hc.1
    have tl := s.tl
    have so := opC_shape s
    have hwo : Wn as (opC c).f.length := by show Wn as c.t.length; rw [tl]; exact hw
    by_cases hS : 0 < as.length ∧ ∀ k, k < as.length → c.t.getD (as.getD k 0).toNat 0 = c.t.getD (as.getD 0 0).toNat 0
    · obtain ⟨hne, hE⟩ := hS
      obtain ⟨z0, z1⟩ := hw 0 hne
      have z2 : (as.getD 0 0).toNat < c.f.length := by omega
      have z3 : (0 : Int) < as.length := by omega
      have z6 : 0 < as.length := by omega
      have z4 : ¬ (as.length : Int) = 0 := by omega
      refine ⟨decide (JS (opC c) as), 0, fun H nx => h _ _ _ _ rfl fun hwf => ?_, fun H nx => hs _ _ _ _ rfl fun hwf => ?_⟩
      · unfold V_IsJointlyEpi
        simp only [SS, Nat.reduceEqDiff, Nat.reduceAdd, iput, puts, p_boxc]
        refine den_call (fc := (18, [])) rfl (by first | (simp only [SS, Nat.reduceEqDiff, Nat.reduceAdd, iput, puts, FF, frzL_cat]; done) | (simp only [SS, Nat.reduceEqDiff, Nat.reduceAdd, iput, puts, FF, frzL_cat]; rfl)) (arrowCode_fz K A.code c b as hl Iff.rfl) ?_
        simp only [SS, Nat.reduceEqDiff, Nat.reduceAdd, iput, puts, h0]
        refine den_for as.length (fun _ => True) trivial fun i hi _ => ?_
        by_cases hlt : i < as.length
        · obtain ⟨w0, w1⟩ := hw i hlt
          have w2 : (as.getD i 0).toNat < c.f.length := by omega
          simp only [SS, Nat.reduceEqDiff, Nat.reduceAdd, iput, puts, cat2, tl, hlt, z0, z1, z2, z3, z6, w0, w1, w2, Int.toNat_zero, Int.le_refl, hE i hlt, wrap_succ (show i < 9223372036854775807 by omega)]
          exact up rfl hlt trivial
        · simp only [SS, Nat.reduceEqDiff, Nat.reduceAdd, iput, puts, cat2, tl, hlt, z0, z1, z2, z3, z6, z4, Int.toNat_zero, Int.le_refl]
          refine den_call (fc := (266, [])) rfl (by first | (simp only [SS, Nat.reduceEqDiff, Nat.reduceAdd, iput, puts, FF, frzL_cat]; done) | (simp only [SS, Nat.reduceEqDiff, Nat.reduceAdd, iput, puts, FF, frzL_cat]; rfl)) ((jointlyEpi_ok A.hom K.thn hca hj1 hj c s (c.T (as.getD 0 0)) as hl hw).fzb) ?_
          simp only [SS, Nat.reduceEqDiff, Nat.reduceAdd, iput, puts]
          refine ⟨_, rfl, H, fun _ _ h => h, ?_, rfl, Nat.le_refl _⟩
          simp only [SS, Nat.reduceEqDiff, Nat.reduceAdd, iput, puts, JEpi_iff s as hw]
      · unfold V_spec_IsJointlyEpi
        simp only [SS, Nat.reduceEqDiff, Nat.reduceAdd, iput, puts, p_boxc, p_ldc]
        refine den_call (fc := (241, [])) rfl (by first | (simp only [SS, Nat.reduceEqDiff, Nat.reduceAdd, iput, puts, FF, frzL_cat]; done) | (simp only [SS, Nat.reduceEqDiff, Nat.reduceAdd, iput, puts, FF, frzL_cat]; rfl)) (l05List_fz KS hli c b as hl) ?_
        simp only [SS, Nat.reduceEqDiff, Nat.reduceAdd, iput, puts, h0, hne, cat2, tl]
        refine den_call (fc := (242, [])) rfl (by first | (simp only [SS, Nat.reduceEqDiff, Nat.reduceAdd, iput, puts, FF, frzL_cat]; done) | (simp only [SS, Nat.reduceEqDiff, Nat.reduceAdd, iput, puts, FF, frzL_cat]; rfl)) ((l05Ends_ok hen c.t as hl (by rw [tl]; exact hw) hne).fzb) ?_
        simp only [SS, Nat.reduceEqDiff, Nat.reduceAdd, iput, puts, p_ldc, decide_eq_true hE]
        refine den_callm (fc := (251, [])) rfl (l03Op_ok how hop c s H nx) (IsOp.some _ _ _) fun u H' nx' hu => ?_
        refine den_call (fc := (243, [])) (ys := [.agg (opC c).cells, islice as]) rfl (by simp only [SS, Nat.reduceEqDiff, Nat.reduceAdd, iput, puts, FF, frzL_cat, hu.frzL]) ((l05Joint_ok hjo (opC c) so as hl hwo hne).fzb) ?_
        obtain ⟨_, _, q1, _, q2⟩ := hu
        refine ⟨_, rfl, H, fun o d hd => ?_, rfl, rfl, q1⟩
        by_cases e : o < nx
        · rw [q2 o e]; exact hd
        · rw [hwf o (by omega)] at hd; cases hd
    · refine ⟨false, 5, fun H nx => h _ _ _ _ rfl fun hwf => ?_, fun H nx => hs _ _ _ _ rfl fun hwf => ?_⟩
      · unfold V_IsJointlyEpi
        simp only [SS, Nat.reduceEqDiff, Nat.reduceAdd, iput, puts, p_boxc]
        refine den_call (fc := (18, [])) rfl (by first | (simp only [SS, Nat.reduceEqDiff, Nat.reduceAdd, iput, puts, FF, frzL_cat]; done) | (simp only [SS, Nat.reduceEqDiff, Nat.reduceAdd, iput, puts, FF, frzL_cat]; rfl)) (arrowCode_fz K A.code c b as hl Iff.rfl) ?_
        simp only [SS, Nat.reduceEqDiff, Nat.reduceAdd, iput, puts, h0]
        refine den_for as.length (fun i => ∀ k, k < i → c.t.getD (as.getD k 0).toNat 0 = c.t.getD (as.getD 0 0).toNat 0) (fun k hk => by omega) fun i hi pi => ?_
        by_cases hlt : i < as.length
        · obtain ⟨z0, z1⟩ := hw 0 (by omega)
          have z2 : (as.getD 0 0).toNat < c.f.length := by omega
          have z3 : (0 : Int) < as.length := by omega
          have z6 : 0 < as.length := by omega
          obtain ⟨w0, w1⟩ := hw i hlt
          have w2 : (as.getD i 0).toNat < c.f.length := by omega
          simp only [SS, Nat.reduceEqDiff, Nat.reduceAdd, iput, puts, cat2, tl, hlt, z0, z1, z2, z3, z6, w0, w1, w2, Int.toNat_zero, Int.le_refl, wrap_succ (show i < 9223372036854775807 by omega)]
          exact ⟨fun h1 => ⟨_, rfl, H, fun _ _ h => h, rfl, rfl, Nat.le_refl _⟩, fun h1 => up rfl hlt (nextP pi h1)⟩
        · have z4 : (as.length : Int) = 0 := by
            apply Classical.byContradiction
            intro hne
            exact hS ⟨by omega, fun k hk => pi k (by omega)⟩
          simp only [SS, Nat.reduceEqDiff, Nat.reduceAdd, iput, puts, hlt]
          exact ⟨fun _ => ⟨_, rfl, H, fun _ _ h => h, rfl, rfl, Nat.le_refl _⟩, fun h9 => absurd z4 h9⟩
      · unfold V_spec_IsJointlyEpi
        simp only [SS, Nat.reduceEqDiff, Nat.reduceAdd, iput, puts, p_boxc, p_ldc]
        refine den_call (fc := (241, [])) rfl (by first | (simp only [SS, Nat.reduceEqDiff, Nat.reduceAdd, iput, puts, FF, frzL_cat]; done) | (simp only [SS, Nat.reduceEqDiff, Nat.reduceAdd, iput, puts, FF, frzL_cat]; rfl)) (l05List_fz KS hli c b as hl) ?_
        by_cases hne : 0 < as.length
        · simp only [SS, Nat.reduceEqDiff, Nat.reduceAdd, iput, puts, h0, hne, cat2, tl]
          refine den_call (fc := (242, [])) rfl (by first | (simp only [SS, Nat.reduceEqDiff, Nat.reduceAdd, iput, puts, FF, frzL_cat]; done) | (simp only [SS, Nat.reduceEqDiff, Nat.reduceAdd, iput, puts, FF, frzL_cat]; rfl)) ((l05Ends_ok hen c.t as hl (by rw [tl]; exact hw) hne).fzb) ?_
          simp only [SS, Nat.reduceEqDiff, Nat.reduceAdd, iput, puts, p_ldc, decide_eq_false fun hE => hS ⟨hne, hE⟩]
          exact ⟨_, rfl, H, fun _ _ h => h, rfl, rfl, Nat.le_refl _⟩
        · simp only [SS, Nat.reduceEqDiff, Nat.reduceAdd, iput, puts, h0, hne, show ¬ (5 : Int) = 0 by omega]
          exact ⟨_, rfl, H, fun _ _ h => h, rfl, rfl, Nat.le_refl _⟩
  · refine ⟨false, code (IsCat c) (Wn as c.f.length), fun H nx => h _ _ _ _ rfl fun hwf => ?_, fun H nx => hs _ _ _ _ rfl fun hwf => ?_⟩
    · unfold V_IsJointlyEpi
      simp only [SS, Nat.reduceEqDiff, Nat.reduceAdd, iput, puts, p_boxc]
      refine den_call (fc := (18, [])) rfl (by first | (simp only [SS, Nat.reduceEqDiff, Nat.reduceAdd, iput, puts, FF, frzL_cat]; done) | (simp only [SS, Nat.reduceEqDiff, Nat.reduceAdd, iput, puts, FF, frzL_cat]; rfl)) (arrowCode_fz K A.code c b as hl Iff.rfl) ?_
      simp only [SS, Nat.reduceEqDiff, Nat.reduceAdd, iput, puts, h0]
      exact ⟨_, rfl, H, fun _ _ h => h, rfl, rfl, Nat.le_refl _⟩
    · unfold V_spec_IsJointlyEpi
      simp only [SS, Nat.reduceEqDiff, Nat.reduceAdd, iput, puts, p_boxc, p_ldc]
      refine den_call (fc := (241, [])) rfl (by first | (simp only [SS, Nat.reduceEqDiff, Nat.reduceAdd, iput, puts, FF, frzL_cat]; done) | (simp only [SS, Nat.reduceEqDiff, Nat.reduceAdd, iput, puts, FF, frzL_cat]; rfl)) (l05List_fz KS hli c b as hl) ?_
      simp only [SS, Nat.reduceEqDiff, Nat.reduceAdd, iput, puts, h0]
      exact ⟨_, rfl, H, fun _ _ h => h, rfl, rfl, Nat.le_refl _⟩
end Go.Av
