/-
  The category of a preorder: pairs, the search, the closure, what is kept while the program gathers.
-/
import Derived.Test.YtbalggpkmaabmaaAvX1M
import Derived.Test.YtbalggpkmaabmaaAvW2
namespace Go.Av
open Classical
set_option linter.unusedSimpArgs false
set_option linter.unusedVariables false
variable {P : Program} {ν : Nat → FuncId}

abbrev Pr := Int × Int
def pr0 : Pr := (0, 0)
def idxP (L : List Pr) (x : Pr) : Int := match L.findIdx? (fun y => decide (y = x)) with | some i => (i : Nat) | none => -1
theorem idxP_at {L : List Pr} {x : Pr} {i : Nat} (hi : i < L.length) (h : L[i] = x) (hj : ∀ j (hj : j < i), L[j]'(by omega) ≠ x) : idxP L x = i := by
  have : L.findIdx? (fun y => decide (y = x)) = some i := List.findIdx?_eq_some_iff_getElem.2 ⟨hi, by simpa using h, fun j hj' => by simpa using hj j hj'⟩
  unfold idxP
  rw [this]
theorem idxP_none {L : List Pr} {x : Pr} (h : x ∉ L) : idxP L x = -1 := by
  have : L.findIdx? (fun y => decide (y = x)) = none := List.findIdx?_eq_none_iff.2 fun y hy => by
    have : y ≠ x := fun e => h (e ▸ hy)
    simpa using this
  unfold idxP
  rw [this]
def pr2c (t : Pr) : List AV := [int t.1, int t.2]
def prCells (L : List Pr) : List AV := L.flatMap pr2c
theorem prCells_len (L : List Pr) : (prCells L).length = L.length * 2 := by
  induction L with
  | nil => rfl
  | cons t L ih => unfold prCells at ih ⊢; rw [List.flatMap_cons, List.length_append, ih, List.length_cons]; show 2 + _ = _; omega
theorem prCells_at {L : List Pr} {k : Nat} (h : k < L.length) : ((prCells L).drop (k * 2)).take 2 = pr2c (L.getD k pr0) := by
  induction L generalizing k with
  | nil => simp at h
  | cons t L ih =>
    cases k with
    | zero => simp [prCells, pr2c]
    | succ k =>
      have := ih (k := k) (by simpa using h)
      unfold prCells at this ⊢
      rw [List.flatMap_cons, show (k + 1) * 2 = 2 + k * 2 by omega, ← List.drop_drop, show (pr2c t ++ List.flatMap pr2c L).drop 2 = List.flatMap pr2c L from rfl, this]
      rfl
theorem prCells_frz (H : Hp) (k : Nat) (L : List Pr) : (prCells L).mapM (frz H k) = some (prCells L) := by
  induction L with
  | nil => rfl
  | cons t L ih =>
    have e : prCells (t :: L) = int t.1 :: int t.2 :: prCells L := rfl
    have q : ∀ i : Int, frz H k (int i) = some (int i) := fun i => by cases k <;> rfl
    rw [e]
    simp only [List.mapM_cons, q, ih]
    rfl
section
variable {H : Hp} {L : List Pr} {k : Nat}
theorem pr_iad (h : k < L.length) : pvf H (.iad 2) [.sl (prCells L) L.length, int (k : Int)] = some (.ptr (prCells L) (k * 2)) := by
  rw [p_iad, if_pos ⟨by omega, by omega⟩]; rfl
theorem pr_ld (h : k < L.length) : pvf H (.ld (some 2)) [.ptr (prCells L) (k * 2)] = some (.agg (pr2c (L.getD k pr0))) := by
  have := prCells_len L
  show (if k * 2 + 2 ≤ (prCells L).length then some (AV.agg (((prCells L).drop (k * 2)).take 2)) else none) = _
  rw [if_pos (by omega), prCells_at h]
theorem pr_box {t : Pr} : pvf H .box [.agg (pr2c t)] = some (.ptr (pr2c t) 0) := p_box rfl rfl
theorem pr_ld0 {t : Pr} : pvf H (.ld (some 2)) [.ptr (pr2c t) 0] = some (.agg (pr2c t)) := p_lda rfl
theorem pr_eq {a b : Pr} : pvf H (.eqs false 2) [.agg (pr2c a), .agg (pr2c b)] = some (bool (decide (a = b))) := by
  obtain ⟨a1, a2⟩ := a
  obtain ⟨b1, b2⟩ := b
  simp [pvf, pEqs, avI, int, bool, pr2c]
  by_cases e1 : a1 = b1 <;> by_cases e2 : a2 = b2 <;> simp [e1, e2]
theorem pr_mka {a b : Int} : pvf H (.mka [int 0, int 0] [(0, 1), (1, 1)]) [int a, int b] = some (.agg (pr2c (a, b))) := rfl
theorem pr_msl {t : Pr} : pvf H (.msl 1 [int 0, int 0] [(0, 2)]) [.agg (pr2c t)] = some (.sl (pr2c t) 1) := rfl
end
def V_slices_Index_pair_int64_pair_int64 : Vc :=
  .op true (.p .box [.t 1]) <|
  .op true (.p .len [.t 0]) <|
  .loop 0 [.c (int 0)] <|
  .op true (.p (.bin .lss) [.t 4, .t 3]) <|
  .br 5
   (.op true (.p (.ld (some 2)) [.t 2]) <|
   .op true (.p (.iad 2) [.t 0, .t 4]) <|
   .op true (.p (.ld (some 2)) [.t 7]) <|
   .op true (.p (.eqs false 2) [.t 6, .t 8]) <|
   .br 9
    (.ret [(.t 4, none)])
    (.op true (.p (.bin .add) [.t 4, .c (int 1)]) <|
    .again 0 [.t 10]))
   (.ret [(.c (int (-1)), none)])
theorem sliceIndexP_fz (h : Has P ν 430 2 V_slices_Index_pair_int64_pair_int64) (L : List Pr) (x : Pr) (hl : L.length ≤ 1099511627776) : Fz (OkM P ν) 430 [.sl (prCells L) L.length, .agg (pr2c x)] (int (idxP L x)) := by
  refine Fn.fzi fun H nx => h _ _ _ _ rfl fun hwf => ?_
  unfold V_slices_Index_pair_int64_pair_int64
  try simp (disch := (first | rfl | with_reducible assumption | with_reducible solve_by_elim (maxDepth := 8) [Shape.inT, Shape.inI, Shape.inC, Shape.inK, Shape.obF, Shape.obT, Shape.arI, Arr.inF] | omega)) only [S2, Nat.reduceEqDiff, Nat.reduceAdd, iput, puts, pr_box]
  refine den_loop (α := Nat) (fun a => [int a]) (fun a H' nx' => a ≤ L.length ∧ (∀ j, j < a → L.getD j pr0 ≠ x) ∧ H' = H ∧ nx' = nx) (fun a => L.length - a) 0 rfl ⟨Nat.zero_le _, fun x hx => by omega, rfl, rfl⟩ ?_
  rintro k H2 n2 ⟨hk, hall, rfl, rfl⟩
  have gd : ∀ j (hj : j < L.length), L.getD j pr0 = L[j] := fun j hj => by simp [List.getD, hj]
  by_cases hlk : k < L.length
  · try simp (disch := (first | rfl | with_reducible assumption | with_reducible solve_by_elim (maxDepth := 8) [Shape.inT, Shape.inI, Shape.inC, Shape.inK, Shape.obF, Shape.obT, Shape.arI, Arr.inF] | omega)) only [S2, Nat.reduceEqDiff, Nat.reduceAdd, iput, puts, hlk, pr_ld0, pr_iad hlk, pr_ld hlk, pr_eq]
    refine ⟨fun e => ?_, fun e => ?_⟩
    · refine ⟨_, rfl, _, fun _ _ h => h, ?_, rfl, Nat.le_refl _⟩
      have : idxP L x = (k : Int) := idxP_at hlk (by rw [← gd k hlk]; exact e.symm) fun j hj => by rw [← gd j (by omega)]; exact hall j hj
      rw [this]
      rfl
    · try simp (disch := (first | rfl | with_reducible assumption | with_reducible solve_by_elim (maxDepth := 8) [Shape.inT, Shape.inI, Shape.inC, Shape.inK, Shape.obF, Shape.obT, Shape.arI, Arr.inF] | omega)) only [S2, Nat.reduceEqDiff, Nat.reduceAdd, iput, puts]
      refine ⟨k + 1, rfl, ⟨by omega, fun y hy => ?_⟩, by omega⟩
      by_cases ey : y = k
      · rw [ey]; exact fun q => e q.symm
      · exact hall y (by omega)
  · try simp (disch := (first | rfl | with_reducible assumption | with_reducible solve_by_elim (maxDepth := 8) [Shape.inT, Shape.inI, Shape.inC, Shape.inK, Shape.obF, Shape.obT, Shape.arI, Arr.inF] | omega)) only [S2, Nat.reduceEqDiff, Nat.reduceAdd, iput, puts, hlk]
    refine ⟨_, rfl, _, fun _ _ h => h, ?_, rfl, Nat.le_refl _⟩
    rw [idxP_none]
    · rfl
    · intro hm
      obtain ⟨j, hj, e⟩ := List.mem_iff_getElem.1 hm
      exact hall j (by omega) (by rw [gd j hj]; exact e)
def V_index_pair_int64 : Vc :=
  .op true (.p .box [.t 1]) <|
  .op true (.p (.ld (some 2)) [.t 2]) <|
  .op true (.call (.f 430) [.t 0, .t 3]) <|
  .ret [(.t 4, none)]
theorem indexP_fz (hs : Has P ν 430 2 V_slices_Index_pair_int64_pair_int64) (h : Has P ν 421 2 V_index_pair_int64) (L : List Pr) (x : Pr) (hl : L.length ≤ 1099511627776) : Fz (OkM P ν) 421 [.sl (prCells L) L.length, .agg (pr2c x)] (int (idxP L x)) := by
  refine Fn.fzi fun H nx => h _ _ _ _ rfl fun hwf => ?_
  unfold V_index_pair_int64
  repeat (first | simp (disch := (first | rfl | with_reducible assumption | with_reducible solve_by_elim (maxDepth := 8) [Shape.inT, Shape.inI, Shape.inC, Shape.inK, Shape.obF, Shape.obT, Shape.arI, Arr.inF] | omega)) only [S2, Nat.reduceEqDiff, Nat.reduceAdd, iput, puts, pr_box, pr_ld0] | (refine den_call rfl (by first | (simp only [SS, Nat.reduceEqDiff, Nat.reduceAdd, iput, puts, FF, frzL_cat]; done) | (simp only [SS, Nat.reduceEqDiff, Nat.reduceAdd, iput, puts, FF, frzL_cat]; rfl)) (by first | exact sliceIndexP_fz hs L x hl) ?_) | (refine den_calli rfl (by first | (simp only [SS, Nat.reduceEqDiff, Nat.reduceAdd, iput, puts, FF, frzL_cat]; done) | (simp only [SS, Nat.reduceEqDiff, Nat.reduceAdd, iput, puts, FF, frzL_cat]; rfl)) (by first | exact sliceIndexP_fz hs L x hl) ?_))
  exact ⟨_, rfl, H, fun _ _ h => h, rfl, rfl, Nat.le_refl _⟩
def V_PreorderCategory_1 : Vc :=
  .op true (.p (.ld none) [.t 2]) <|
  .op true (.p (.fad 1) [.t 3]) <|
  .op true (.p (.ld none) [.t 5]) <|
  .op true (.p (.iad 1) [.t 6, .t 0]) <|
  .op true (.p (.ld none) [.t 7]) <|
  .op true (.p (.fad 2) [.t 3]) <|
  .op true (.p (.ld none) [.t 9]) <|
  .op true (.p (.iad 1) [.t 10, .t 1]) <|
  .op true (.p (.ld none) [.t 11]) <|
  .op true (.p (.mka [int 0, int 0] [(0, 1), (1, 1)]) [.t 8, .t 12]) <|
  .op true (.call (.f 421) [.t 4, .t 13]) <|
  .ret [(.t 14, none)]
set_option maxHeartbeats 1000000 in
theorem pre1_fz (hs : Has P ν 430 2 V_slices_Index_pair_int64_pair_int64) (hi : Has P ν 421 2 V_index_pair_int64) (h : Has P ν 420 4 V_PreorderCategory_1) (ob : Int) (L : List Pr) (F T I : List Int) (w : AV) (hl : L.length ≤ 1099511627776) (a b : Nat) (ha : a < F.length) (hb : b < T.length) :
    Fz (OkM P ν) 420 [int a, int b, .ptr [.sl (prCells L) L.length] 0, .ptr [int ob, islice F, islice T, islice I, w] 0] (int (idxP L (F.getD a 0, T.getD b 0))) := by
  refine Fn.fzi fun H nx => h _ _ _ _ rfl fun hwf => ?_
  unfold V_PreorderCategory_1
  have ld5a : ∀ H : Hp, pvf H (.fad 1) [.ptr [int ob, islice F, islice T, islice I, w] 0] = some (.ptr [int ob, islice F, islice T, islice I, w] 1) := fun _ => rfl
  have ld5b : ∀ H : Hp, pvf H (.ld none) [.ptr [int ob, islice F, islice T, islice I, w] 1] = some (islice F) := fun _ => rfl
  have ld5c : ∀ H : Hp, pvf H (.fad 2) [.ptr [int ob, islice F, islice T, islice I, w] 0] = some (.ptr [int ob, islice F, islice T, islice I, w] 2) := fun _ => rfl
  have ld5d : ∀ H : Hp, pvf H (.ld none) [.ptr [int ob, islice F, islice T, islice I, w] 2] = some (islice T) := fun _ => rfl
  have iF : In F a := In.nat ha
  have iT : In T b := In.nat hb
  have gF : gI F a = F.getD a 0 := rfl
  have gT : gI T b = T.getD b 0 := rfl
  repeat (first | simp (disch := (first | rfl | with_reducible assumption | with_reducible solve_by_elim (maxDepth := 8) [Shape.inT, Shape.inI, Shape.inC, Shape.inK, Shape.obF, Shape.obT, Shape.arI, Arr.inF] | omega)) only [S2, Nat.reduceEqDiff, Nat.reduceAdd, iput, puts, p_ld0, ld5a, ld5b, ld5c, ld5d, gF, gT, pr_mka] | (refine den_call rfl (by first | (simp only [SS, Nat.reduceEqDiff, Nat.reduceAdd, iput, puts, FF, frzL_cat]; done) | (simp only [SS, Nat.reduceEqDiff, Nat.reduceAdd, iput, puts, FF, frzL_cat]; rfl)) (by first | exact indexP_fz hs hi L (F.getD a 0, T.getD b 0) hl) ?_) | (refine den_calli rfl (by first | (simp only [SS, Nat.reduceEqDiff, Nat.reduceAdd, iput, puts, FF, frzL_cat]; done) | (simp only [SS, Nat.reduceEqDiff, Nat.reduceAdd, iput, puts, FF, frzL_cat]; rfl)) (by first | exact indexP_fz hs hi L (F.getD a 0, T.getD b 0) hl) ?_))
  exact ⟨_, rfl, H, fun _ _ h => h, rfl, rfl, Nat.le_refl _⟩
/-- A growing list of pairs. -/
def GrP (s : Option Nat) (L : List Pr) (v : AV) (H : Hp) : Prop := match s with | none => L = [] ∧ v = .nil | some o => v = .ms o 0 L.length 2 ∧ H o = some (prCells L)
theorem GrP.kept {s : Option Nat} {L : List Pr} {v : AV} {H H' : Hp} (h : GrP s L v H) (hh : ∀ o, s = some o → H' o = H o) : GrP s L v H' := by
  cases s with
  | none => exact h
  | some o => exact ⟨h.1, (hh o rfl).trans h.2⟩
theorem GrP.one {s : Option Nat} {L : List Pr} {v : AV} {H : Hp} (h : GrP s L v H) : v.one = true := by
  cases s with
  | none => rw [h.2]; rfl
  | some o => rw [h.1]; rfl
theorem GrP.len {s : Option Nat} {L : List Pr} {v : AV} {H : Hp} (h : GrP s L v H) : pvf H .len [v] = some (int L.length) := by
  cases s with
  | none => obtain ⟨rfl, rfl⟩ := h; rfl
  | some o =>
    obtain ⟨rfl, h2⟩ := h
    have := prCells_len L
    simp [pvf, pLen, h2, int, this]
theorem GrP.frz {s : Option Nat} {L : List Pr} {v : AV} {H : Hp} (h : GrP s L v H) (k : Nat) : Av.frz H (k + 1) v = some (.sl (prCells L) L.length) := by
  cases s with
  | none => obtain ⟨rfl, rfl⟩ := h; rfl
  | some o =>
    obtain ⟨rfl, h2⟩ := h
    have := prCells_len L
    simp only [Av.frz, h2, prCells_frz, this, Nat.zero_add, if_true, Option.map_some, List.drop_zero]
section
variable {C : Ct} {Φ : AV → Hp → Nat → Prop} {n : Nat} {vars : Nat → AV} {H : Hp} {nx : Nat} {Is : Nat → Inv} {r : Vc}
theorem den_appP {x y : Opd} {s : Option Nat} {L : List Pr} {t : Pr} (h : GrP s L (ev vars x) H) (hy : ev vars y = .sl (pr2c t) 1) (hlen : L.length + 1 ≤ 1099511627776)
    (hk : ∀ v H2 nx2, GrP (some (s.getD nx)) (L ++ [t]) v H2 → (∀ j, j ≠ s.getD nx → H2 j = H j) → nx2 = (if s.isSome then nx else nx + 1) → den C Φ r (n + 1) (put vars n v) H2 nx2 Is) : den C Φ (.op true (.app 2 x y) r) n vars H nx Is := by
  have hc : appCells H 2 (ev vars y) = some (pr2c t, 1) := by rw [hy]; rfl
  have h1 : (pr2c t).all AV.one = true := rfl
  have hsn : prCells (L ++ [t]) = prCells L ++ pr2c t := by simp [prCells, List.flatMap_append]
  cases s with
  | none =>
    obtain ⟨rfl, h2⟩ := h
    refine den_app (q := (.ms nx 0 1 2, hput H nx (some (pr2c t)), nx + 1)) hc h1 ?_ ?_
    · rw [h2]
      simp [appTo, appMax]
    · exact hk _ _ _ ⟨by simp, (hput_eq H nx (some (pr2c t))).trans (by rw [hsn]; rfl)⟩ (fun j hj => hput_ne _ _ _ _ hj) rfl
  | some o =>
    obtain ⟨h2, h3⟩ := h
    have := prCells_len L
    refine den_app (q := (.ms o 0 (L.length + 1) 2, hput H o (some (prCells L ++ pr2c t)), nx)) hc h1 ?_ ?_
    · rw [h2]
      have hl2 : L.length + 1 ≤ appMax := by unfold appMax; simpa using hlen
      simp [appTo, h3, this, hl2]
    · exact hk _ _ _ ⟨by simp, by rw [hsn]; exact hput_eq _ _ _⟩ (fun j hj => hput_ne _ _ _ _ hj) rfl
end

/-- The memory while the pairs are gathered. -/
structure PrS (nx : Nat) (ob : Int) (L : List Pr) (F T I : List Int) (v va vb vd : AV) (sL s1 s2 s3 : Option Nat) (H : Hp) (hi : Nat) : Prop where
  out : Out3 (nx + 1) ob F T I [] va vb vd .nil s1 s2 s3 H (nx + 1) hi
  lst : GrP sL L v H
  box : H (nx + 2) = some [v]
  res : H nx = some [int 0, .nil, .nil, .nil, .nil]
  hb : nx + 3 ≤ hi
  rL : ∀ o, sL = some o → nx + 3 ≤ o ∧ o < hi ∧ s1 ≠ some o ∧ s2 ≠ some o ∧ s3 ≠ some o
  r1 : ∀ o, s1 = some o → nx + 3 ≤ o
  r2 : ∀ o, s2 = some o → nx + 3 ≤ o
  r3 : ∀ o, s3 = some o → nx + 3 ≤ o
section
variable {nx : Nat} {ob : Int} {L : List Pr} {F T I : List Int} {v va vb vd : AV} {sL s1 s2 s3 : Option Nat} {H : Hp} {hi : Nat}
theorem PrS.top (h : PrS nx ob L F T I v va vb vd sL s1 s2 s3 H hi) : nx + 3 ≤ sL.getD hi ∧ (sL.getD hi = hi ∨ sL = some (sL.getD hi)) := by
  have := h.hb
  cases hs : sL with
  | none => simp; omega
  | some o => have := h.rL o hs; simp; omega
theorem PrS.app (h : PrS nx ob L F T I v va vb vd sL s1 s2 s3 H hi) {L' : List Pr} {v2 : AV} {H2 H3 : Hp} {nx2 : Nat} (hG : GrP (some (sL.getD hi)) L' v2 H2) (e2 : ∀ j, j ≠ sL.getD hi → H2 j = H j) (hn : nx2 = (if sL.isSome then hi else hi + 1)) (b : H3 (nx + 2) = some [v2]) (e3 : ∀ j, j ≠ nx + 2 → H3 j = H2 j) :
    PrS nx ob L' F T I v2 va vb vd (some (sL.getD hi)) s1 s2 s3 H3 nx2 := by
  obtain ⟨t1, t2⟩ := h.top
  have hb := h.hb
  have hle : hi ≤ nx2 := by rw [hn]; split <;> omega
  have hlt : sL.getD hi < nx2 := by
    cases hs : sL with
    | none => rw [hs] at hn; simp at hn; simp; omega
    | some o => have := h.rL o hs; simp; omega
  have kp : ∀ t, t ≠ nx + 2 → t ≠ sL.getD hi → H3 t = H t := fun t h1 h2 => (e3 t h1).trans (e2 t h2)
  have n1 : ∀ o, s1 = some o → o ≠ sL.getD hi := fun o ho e => by
    rcases t2 with q | q
    · have := h.out.r1 o ho; omega
    · exact (h.rL _ q).2.2.1 (by rw [← e]; exact ho)
  have n2 : ∀ o, s2 = some o → o ≠ sL.getD hi := fun o ho e => by
    rcases t2 with q | q
    · have := h.out.r2 o ho; omega
    · exact (h.rL _ q).2.2.2.1 (by rw [← e]; exact ho)
  have n3 : ∀ o, s3 = some o → o ≠ sL.getD hi := fun o ho e => by
    rcases t2 with q | q
    · have := h.out.r3 o ho; omega
    · exact (h.rL _ q).2.2.2.2 (by rw [← e]; exact ho)
  refine ⟨h.out.apart hle fun t ht => ?_, hG.kept fun o ho => by cases ho; exact e3 _ (by omega), b, (kp nx (by omega) (by omega)).trans h.res, by omega, fun o ho => ?_, h.r1, h.r2, h.r3⟩
  · rcases ht with rfl | ht | ht | ht | ⟨o, m, cells, e, _⟩
    · exact kp _ (by omega) (by omega)
    · exact kp _ (by have := h.r1 t ht; omega) (n1 t ht)
    · exact kp _ (by have := h.r2 t ht; omega) (n2 t ht)
    · exact kp _ (by have := h.r3 t ht; omega) (n3 t ht)
    · cases e
  · cases ho
    exact ⟨t1, hlt, fun e => n1 _ e rfl, fun e => n2 _ e rfl, fun e => n3 _ e rfl⟩
theorem PrS.out1 (h : PrS nx ob L F T I v va vb vd sL s1 s2 s3 H hi) {F' : List Int} {v6 : AV} {H6 : Hp} {n6 : Nat} (o6 : Out3 (nx + 1) ob F' T I [] v6 vb vd .nil (some (s1.getD hi)) s2 s3 H6 (nx + 1) n6) (hn : hi ≤ n6) (keep : ∀ t, t < hi → t ≠ nx + 1 → s1 ≠ some t → H6 t = H t) :
    PrS nx ob L F' T I v v6 vb vd sL (some (s1.getD hi)) s2 s3 H6 n6 := by
  have hb := h.hb
  have t1 : nx + 3 ≤ s1.getD hi ∧ (s1.getD hi = hi ∨ s1 = some (s1.getD hi)) := by
    cases hs : s1 with
    | none => simp; omega
    | some o => have := h.r1 o hs; simp; omega
  refine ⟨o6, h.lst.kept fun o ho => ?_, (keep _ (by omega) (by omega) fun e => by have := h.r1 _ e; omega).trans h.box, (keep _ (by omega) (by omega) fun e => by have := h.r1 _ e; omega).trans h.res, by omega, fun o ho => ?_, fun o ho => by cases ho; exact t1.1, h.r2, h.r3⟩
  · have := h.rL o ho
    exact keep o this.2.1 (by omega) this.2.2.1
  · have := h.rL o ho
    refine ⟨this.1, by omega, fun e => ?_, this.2.2.2.1, this.2.2.2.2⟩
    rcases t1.2 with q | q
    · cases e; omega
    · rw [← q] at e; exact this.2.2.1 e
theorem PrS.out2 (h : PrS nx ob L F T I v va vb vd sL s1 s2 s3 H hi) {T' : List Int} {v6 : AV} {H6 : Hp} {n6 : Nat} (o6 : Out3 (nx + 1) ob F T' I [] va v6 vd .nil s1 (some (s2.getD hi)) s3 H6 (nx + 1) n6) (hn : hi ≤ n6) (keep : ∀ t, t < hi → t ≠ nx + 1 → s2 ≠ some t → H6 t = H t) :
    PrS nx ob L F T' I v va v6 vd sL s1 (some (s2.getD hi)) s3 H6 n6 := by
  have hb := h.hb
  have t1 : nx + 3 ≤ s2.getD hi ∧ (s2.getD hi = hi ∨ s2 = some (s2.getD hi)) := by
    cases hs : s2 with
    | none => simp; omega
    | some o => have := h.r2 o hs; simp; omega
  refine ⟨o6, h.lst.kept fun o ho => ?_, (keep _ (by omega) (by omega) fun e => by have := h.r2 _ e; omega).trans h.box, (keep _ (by omega) (by omega) fun e => by have := h.r2 _ e; omega).trans h.res, by omega, fun o ho => ?_, h.r1, fun o ho => by cases ho; exact t1.1, h.r3⟩
  · have := h.rL o ho
    exact keep o this.2.1 (by omega) this.2.2.2.1
  · have := h.rL o ho
    refine ⟨this.1, by omega, this.2.2.1, fun e => ?_, this.2.2.2.2⟩
    rcases t1.2 with q | q
    · cases e; omega
    · rw [← q] at e; exact this.2.2.2.1 e
theorem PrS.out3 (h : PrS nx ob L F T I v va vb vd sL s1 s2 s3 H hi) {I' : List Int} {v6 : AV} {H6 : Hp} {n6 : Nat} (o6 : Out3 (nx + 1) ob F T I' [] va vb v6 .nil s1 s2 (some (s3.getD hi)) H6 (nx + 1) n6) (hn : hi ≤ n6) (keep : ∀ t, t < hi → t ≠ nx + 1 → s3 ≠ some t → H6 t = H t) :
    PrS nx ob L F T I' v va vb v6 sL s1 s2 (some (s3.getD hi)) H6 n6 := by
  have hb := h.hb
  have t1 : nx + 3 ≤ s3.getD hi ∧ (s3.getD hi = hi ∨ s3 = some (s3.getD hi)) := by
    cases hs : s3 with
    | none => simp; omega
    | some o => have := h.r3 o hs; simp; omega
  refine ⟨o6, h.lst.kept fun o ho => ?_, (keep _ (by omega) (by omega) fun e => by have := h.r3 _ e; omega).trans h.box, (keep _ (by omega) (by omega) fun e => by have := h.r3 _ e; omega).trans h.res, by omega, fun o ho => ?_, h.r1, h.r2, fun o ho => by cases ho; exact t1.1⟩
  · have := h.rL o ho
    exact keep o this.2.1 (by omega) this.2.2.2.2
  · have := h.rL o ho
    refine ⟨this.1, by omega, this.2.2.1, this.2.2.2.1, fun e => ?_⟩
    rcases t1.2 with q | q
    · cases e; omega
    · rw [← q] at e; exact this.2.2.2.2 e
end
end Go.Av
