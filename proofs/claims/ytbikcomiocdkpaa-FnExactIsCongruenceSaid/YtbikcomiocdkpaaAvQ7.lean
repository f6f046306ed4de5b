/-
  Congruences, tested: labels of any kind, the plain side.
-/
import Derived.Test.YtbikcomiocdkpaaAvQ6
import Derived.Test.YtbikcomiocdkpaaAvN0
namespace Go.Av
open Classical
set_option linter.unusedSimpArgs false
set_option linter.unusedVariables false
variable {P : Program} {ν : Nat → FuncId}

/-- f tells which entries of l are alike. -/
def Pat (l : List Int) (f : Nat → Nat) : Prop := ∀ i j, i < l.length → j < l.length → (f i = f j ↔ l.getD i 0 = l.getD j 0)
def seenG (l : List Int) (f : Nat → Nat) (i : Nat) : List Int := (fsts f i).map fun j => l.getD j 0
theorem seenG_len {l : List Int} {f : Nat → Nat} {i : Nat} : (seenG l f i).length = (fsts f i).length := by simp [seenG]
theorem seenG_at {l : List Int} {f : Nat → Nat} {i p : Nat} (h : p < (fsts f i).length) : (seenG l f i).getD p 0 = l.getD ((fsts f i)[p]) 0 := by simp [seenG, List.getD, h]
theorem seenG_new {l : List Int} {f : Nat → Nat} (hf : Pat l f) {i : Nat} (hi : i < l.length) (h : isFst f i = true) : idxI (seenG l f i) (l.getD i 0) = -1 := by
  refine idxI_none fun p hp e => ?_
  rw [seenG_len] at hp
  rw [seenG_at hp] at e
  have h1 := fsts_lt (List.getElem_mem hp)
  exact of_decide_eq_true h _ h1 ((hf _ _ (by omega) hi).2 e)
theorem seenG_old {l : List Int} {f : Nat → Nat} (hf : Pat l f) {i : Nat} (hi : i < l.length) (h : isFst f i = false) : idxI (seenG l f i) (l.getD i 0) = numOf f i := by
  obtain ⟨j, hj, hjf, hje, hnum⟩ := numOf_old h
  obtain ⟨t, ht⟩ := fsts_split hjf hj
  rw [hnum]
  have hl : (fsts f j).length < (fsts f i).length := by rw [ht]; simp
  refine idxI_at (by rw [seenG_len]; exact hl) ?_ fun p hp e => ?_
  · rw [seenG_at hl]
    have : (fsts f i)[(fsts f j).length] = j := by simp [ht]
    rw [this]; exact (hf _ _ (by omega) hi).1 hje
  · rw [seenG_at (by omega)] at e
    have h1 : (fsts f i)[p] = (fsts f j)[p] := by simp [ht, List.getElem_append_left hp]
    rw [h1] at e
    have h2 := fsts_lt (List.getElem_mem hp)
    exact of_decide_eq_true hjf _ h2 (((hf _ _ (by omega) hi).2 e).trans hje.symm)
set_option maxHeartbeats 1000000 in
theorem l01ClassesG_ok (hi : Has P ν 376 2 V_spec_l01Index) (h : Has P ν 393 1 V_spec_l01Classes) (l : List Int) (f : Nat → Nat) (hf : Pat l f) (n : Nat) (ln : l.length = n) (hn : n ≤ 1048576) (H : Hp) (nx : Nat) : OkM P ν 393 [islice l] H nx (IsI (nrm f n) H nx) := by
  refine h _ _ _ _ rfl fun hwf => ?_
  unfold V_spec_l01Classes
  try simp (disch := (first | rfl | with_reducible assumption | with_reducible solve_by_elim (maxDepth := 8) [Shape.inT, Shape.inI, Shape.inC, Shape.inK, Shape.obF, Shape.obT, Shape.arI, Arr.inF] | omega)) only [S2, Nat.reduceEqDiff, Nat.reduceAdd, iput, puts]
  refine den_loop (α := (Nat × AV × AV) × Option Nat × Option Nat) (fun a => [a.1.2.1, a.1.2.2, int a.1.1]) (fun a H' nx' => a.1.1 ≤ n ∧ nx ≤ nx' ∧ Gr a.2.1 (seenG l f a.1.1) a.1.2.1 H' ∧ Gr a.2.2 ((nrm f n).take a.1.1) a.1.2.2 H' ∧ (∀ o, a.2.1 = some o → nx ≤ o ∧ o < nx' ∧ a.2.2 ≠ some o) ∧ (∀ o, a.2.2 = some o → nx ≤ o ∧ o < nx') ∧ ∀ j, j < nx → H' j = H j) (fun a => n - a.1.1) ((0, .nil, .nil), none, none) rfl ⟨Nat.zero_le _, Nat.le_refl _, ⟨rfl, rfl⟩, ⟨by simp, rfl⟩, (fun o h => by cases h), (fun o h => by cases h), fun _ _ => rfl⟩ ?_
  rintro ⟨⟨i, v, w⟩, s, t⟩ H1 n1 ⟨hi', hle, hS, hT, h1, h2, low⟩
  simp only at hi' hS hT h1 h2
  have fl := fsts_len f i
  have sl := seenG_len (l := l) (f := f) (i := i)
  by_cases hlt : i < n
  · have i1 : In l (i : Int) := In.nat (by rw [ln]; exact hlt)
    have g1 : gI l (i : Int) = l.getD i 0 := gI_nat l i
    have tk : (nrm f n).take (i + 1) = (nrm f n).take i ++ [(numOf f i : Int)] := by rw [take_succ_at (by rw [nrm_len]; exact hlt), nrm_at hlt]
    have tl : ((nrm f n).take i).length ≤ i := by simp; omega
    try simp (disch := (first | rfl | with_reducible assumption | with_reducible solve_by_elim (maxDepth := 8) [Shape.inT, Shape.inI, Shape.inC, Shape.inK, Shape.obF, Shape.obT, Shape.arI, Arr.inF] | omega)) only [S2, Nat.reduceEqDiff, Nat.reduceAdd, iput, puts, hlt, ln, g1]
    refine den_call (fc := (376, [])) (ys := [islice (seenG l f i), int (l.getD i 0)]) rfl (by simp only [SS, Nat.reduceEqDiff, Nat.reduceAdd, iput, puts, frzL, List.mapM_cons, List.mapM_nil, List.append_nil, hS.frz]; rfl) (l01Index_fz hi (seenG l f i) (l.getD i 0) (by omega)) ?_
    cases hfi : isFst f i with
    | true =>
      have lenS : pvf H1 .len [v] = some (int (seenG l f i).length) := by
        cases s with
        | none => obtain ⟨e, rfl⟩ := hS; rw [e]; rfl
        | some o => obtain ⟨rfl, e⟩ := hS; exact p_lenN e rfl
      rw [seenG_new hf (by omega) hfi]
      have neg : (-1 : Int) < 0 := by decide
      try simp (disch := (first | rfl | with_reducible assumption | with_reducible solve_by_elim (maxDepth := 8) [Shape.inT, Shape.inI, Shape.inC, Shape.inK, Shape.obF, Shape.obT, Shape.arI, Arr.inF] | omega)) only [S2, Nat.reduceEqDiff, Nat.reduceAdd, iput, puts, neg, lenS, g1]
      refine den_appW (m := [l.getD i 0]) hS rfl (by simp) (by simp only [List.length_cons, List.length_nil]; omega) fun v2 H2 n2 hS2 e2 hn2 => ?_
      have hT2 : Gr t ((nrm f n).take i) w H2 := hT.kept fun o ho => e2 o fun e => by
        cases s with
        | none => have := (h2 o ho).2; simp at e; omega
        | some o' => simp at e; subst e; exact (h1 o rfl).2.2 ho
      try simp (disch := (first | rfl | with_reducible assumption | with_reducible solve_by_elim (maxDepth := 8) [Shape.inT, Shape.inI, Shape.inC, Shape.inK, Shape.obF, Shape.obT, Shape.arI, Arr.inF] | omega)) only [S2, Nat.reduceEqDiff, Nat.reduceAdd, iput, puts]
      refine den_appW (m := [((seenG l f i).length : Int)]) hT2 rfl (by simp) (by simp only [List.length_cons, List.length_nil]; omega) fun w2 H3 n3 hT3 e3 hn3 => ?_
      try simp (disch := (first | rfl | with_reducible assumption | with_reducible solve_by_elim (maxDepth := 8) [Shape.inT, Shape.inI, Shape.inC, Shape.inK, Shape.obF, Shape.obT, Shape.arI, Arr.inF] | omega)) only [S2, Nat.reduceEqDiff, Nat.reduceAdd, iput, puts]
      have sg : s.getD n1 ≠ t.getD n2 := by
        cases s with
        | none =>
          cases t with
          | none => simp at hn2; simp; omega
          | some o => have := (h2 o rfl).2; simp; omega
        | some o' =>
          cases t with
          | none => have := (h1 o' rfl).2.1; simp at hn2; simp; omega
          | some o => have := (h1 o' rfl).2.2; intro e; exact this (by simp at e; rw [e])
      have s1 : nx ≤ s.getD n1 ∧ s.getD n1 < n2 ∧ n1 ≤ n2 := by
        cases s with
        | none => simp at hn2; simp; omega
        | some o => have := h1 o rfl; simp at hn2; simp; omega
      have t1 : nx ≤ t.getD n2 ∧ t.getD n2 < n3 ∧ n2 ≤ n3 := by
        cases t with
        | none => simp at hn3; simp; omega
        | some o => have := h2 o rfl; simp at hn3; simp; omega
      refine ⟨((i + 1, v2, w2), some (s.getD n1), some (t.getD n2)), rfl, ⟨by simp only; omega, by omega, ?_, ?_, fun o ho => ?_, fun o ho => ?_, fun j hj => by rw [e3 j (by omega), e2 j (by omega)]; exact low j hj⟩, by simp only; omega⟩
      · simp only
        have : seenG l f (i + 1) = seenG l f i ++ [l.getD i 0] := by unfold seenG; rw [fsts_succ, if_pos hfi]; simp
        rw [this]
        exact hS2.kept fun o ho => e3 o fun e => by cases ho; exact sg e
      · simp only
        rw [tk, numOf_new hfi, ← sl]
        exact hT3
      · cases ho
        exact ⟨s1.1, by omega, fun e => sg (Option.some.inj e).symm⟩
      · cases ho
        exact ⟨t1.1, t1.2.1⟩
    | false =>
      rw [seenG_old hf (by omega) hfi]
      have neg : ¬ (numOf f i : Int) < 0 := by omega
      try simp (disch := (first | rfl | with_reducible assumption | with_reducible solve_by_elim (maxDepth := 8) [Shape.inT, Shape.inI, Shape.inC, Shape.inK, Shape.obF, Shape.obT, Shape.arI, Arr.inF] | omega)) only [S2, Nat.reduceEqDiff, Nat.reduceAdd, iput, puts, neg]
      refine den_appW (m := [(numOf f i : Int)]) hT rfl (by simp) (by simp only [List.length_cons, List.length_nil]; omega) fun w2 H3 n3 hT3 e3 hn3 => ?_
      try simp (disch := (first | rfl | with_reducible assumption | with_reducible solve_by_elim (maxDepth := 8) [Shape.inT, Shape.inI, Shape.inC, Shape.inK, Shape.obF, Shape.obT, Shape.arI, Arr.inF] | omega)) only [S2, Nat.reduceEqDiff, Nat.reduceAdd, iput, puts]
      have t1 : nx ≤ t.getD n1 ∧ t.getD n1 < n3 ∧ n1 ≤ n3 := by
        cases t with
        | none => simp at hn3; simp; omega
        | some o => have := h2 o rfl; simp at hn3; simp; omega
      have sg : ∀ o, s = some o → o ≠ t.getD n1 := fun o ho e => by
        cases t with
        | none => have := (h1 o ho).2.1; simp at e; omega
        | some o' => simp at e; subst e; exact (h1 o ho).2.2 rfl
      refine ⟨((i + 1, v, w2), s, some (t.getD n1)), rfl, ⟨by simp only; omega, by omega, ?_, ?_, fun o ho => ?_, fun o ho => ?_, fun j hj => by rw [e3 j (by omega)]; exact low j hj⟩, by simp only; omega⟩
      · simp only
        have : seenG l f (i + 1) = seenG l f i := by unfold seenG; rw [fsts_succ, if_neg (by rw [hfi]; decide)]; simp
        rw [this]
        exact hS.kept fun o ho => e3 o (sg o ho)
      · simp only
        rw [tk]
        exact hT3
      · exact ⟨(h1 o ho).1, by have := (h1 o ho).2.1; omega, fun e => sg o ho (Option.some.inj e).symm⟩
      · cases ho
        exact ⟨t1.1, t1.2.1⟩
  · try simp (disch := (first | rfl | with_reducible assumption | with_reducible solve_by_elim (maxDepth := 8) [Shape.inT, Shape.inI, Shape.inC, Shape.inK, Shape.obF, Shape.obT, Shape.arI, Arr.inF] | omega)) only [S2, Nat.reduceEqDiff, Nat.reduceAdd, iput, puts, hlt, ln]
    have : i = n := by omega
    subst this
    rw [List.take_of_length_le (by rw [nrm_len]; omega)] at hT
    have own : Own1 (nrm f i) w H1 nx n1 := by
      cases t with
      | none => exact .inl hT
      | some o => exact .inr ⟨o, (h2 o rfl).1, (h2 o rfl).2, hT.1, hT.2⟩
    obtain ⟨H3, s3, i3⟩ := own.back hle hwf low
    exact ⟨_, rfl, H3, s3, i3⟩

/-- A number for each integer. -/
def enc (z : Int) : Nat := if 0 ≤ z then 2 * z.toNat else 2 * (-z).toNat + 1
theorem enc_inj {a b : Int} : enc a = enc b ↔ a = b := by
  unfold enc
  constructor
  · intro h; split at h <;> split at h <;> omega
  · rintro rfl; rfl
def encP (p : List Int) (i : Nat) : Nat := enc (p.getD i 0)
theorem encP_pat (p : List Int) : Pat p (encP p) := fun i j _ _ => enc_inj
theorem encP_eq {p : List Int} {i j : Nat} : encP p i = encP p j ↔ p.getD i 0 = p.getD j 0 := enc_inj

/-- The first bearer of i's label. -/
noncomputable def fb (f : Nat → Nat) (i : Nat) : Nat := ((List.range (i + 1)).find? fun j => decide (f j = f i)).getD 0
theorem fb_ok (f : Nat → Nat) (i : Nat) : fb f i ≤ i ∧ isFst f (fb f i) = true ∧ f (fb f i) = f i := by
  have num : numOf f i = (fsts f (fb f i)).length := rfl
  cases h : isFst f i with
  | true =>
    have h' := of_decide_eq_true h
    have : fb f i = i := by
      unfold fb
      have : (List.range (i + 1)).find? (fun j => decide (f j = f i)) = some i := by
        rw [List.range_succ, List.find?_append]
        have : (List.range i).find? (fun j => decide (f j = f i)) = none := by
          rw [List.find?_eq_none]
          intro j hj
          have := h' j (List.mem_range.1 hj)
          simpa using this
        rw [this]
        simp
      rw [this]; rfl
    rw [this]
    exact ⟨Nat.le_refl _, h, rfl⟩
  | false =>
    have hne : ((List.range (i + 1)).find? fun j => decide (f j = f i)).isSome := by
      rw [List.find?_isSome]
      exact ⟨i, by simp, by simp⟩
    obtain ⟨j, hj⟩ := Option.isSome_iff_exists.1 hne
    have e : fb f i = j := by unfold fb; rw [hj]; rfl
    have h1 : f j = f i := of_decide_eq_true (by have := List.find?_some hj; exact this)
    have hj2 : j < i + 1 := List.mem_range.1 (List.mem_of_find?_eq_some hj)
    rw [e]
    refine ⟨by omega, decide_eq_true fun k hk hf => ?_, h1⟩
    obtain ⟨_, as, bs, e2, h3⟩ := List.find?_eq_some_iff_append.1 hj
    have la : as.length = j := by
      have : (List.range (i + 1))[as.length]? = some j := by rw [e2]; simp
      rw [List.getElem?_range (by
        have := congrArg List.length e2
        simp at this
        omega)] at this
      simpa using this
    have : k ∈ as := by
      have : (List.range (i + 1))[k]? = some k := List.getElem?_range (by omega)
      rw [e2, List.getElem?_append_left (by omega)] at this
      exact List.mem_of_getElem? this
    have := h3 k this
    simp [hf, h1] at this
theorem fst_uniq {f : Nat → Nat} {i j : Nat} (hi : isFst f i = true) (hj : isFst f j = true) (e : f i = f j) : i = j := by
  have h1 := of_decide_eq_true hi
  have h2 := of_decide_eq_true hj
  rcases Nat.lt_trichotomy i j with h | h | h
  · exact absurd e (h2 i h)
  · exact h
  · exact absurd e.symm (h1 j h)
theorem fb_eq {f : Nat → Nat} {i j : Nat} (e : f i = f j) : fb f i = fb f j := by
  obtain ⟨_, b1, c1⟩ := fb_ok f i
  obtain ⟨_, b2, c2⟩ := fb_ok f j
  exact fst_uniq b1 b2 (by rw [c1, c2, e])
theorem numOf_inj {f : Nat → Nat} {i j : Nat} (e : numOf f i = numOf f j) : f i = f j := by
  obtain ⟨_, b1, c1⟩ := fb_ok f i
  obtain ⟨_, b2, c2⟩ := fb_ok f j
  have e : (fsts f (fb f i)).length = (fsts f (fb f j)).length := e
  have : fb f i = fb f j := by
    rcases Nat.lt_trichotomy (fb f i) (fb f j) with h | h | h
    · obtain ⟨t, ht⟩ := fsts_split b1 h
      rw [ht] at e; simp at e
    · exact h
    · obtain ⟨t, ht⟩ := fsts_split b2 h
      rw [ht] at e; simp at e
  rw [← c1, ← c2, this]
theorem numOf_eq {f : Nat → Nat} {i j : Nat} (e : f i = f j) : numOf f i = numOf f j := by
  show (fsts f (fb f i)).length = (fsts f (fb f j)).length
  rw [fb_eq e]
theorem fsts_cong2 {f g : Nat → Nat} {n : Nat} (h : ∀ u v, u < n → v < n → (f u = f v ↔ g u = g v)) : ∀ i, i ≤ n → fsts f i = fsts g i := by
  intro i
  induction i with
  | zero => intro _; rfl
  | succ i ih =>
    intro hi
    rw [fsts_succ, fsts_succ, ih (by omega)]
    have : isFst f i = isFst g i := by
      unfold isFst
      rw [Bool.eq_iff_iff]
      simp only [decide_eq_true_iff]
      exact ⟨fun q j hj e => q j hj ((h j i (by omega) (by omega)).2 e), fun q j hj e => q j hj ((h j i (by omega) (by omega)).1 e)⟩
    rw [this]
theorem nrm_cong2 {f g : Nat → Nat} {n : Nat} (h : ∀ u v, u < n → v < n → (f u = f v ↔ g u = g v)) : nrm f n = nrm g n := by
  unfold nrm
  refine List.map_congr_left fun i hi => ?_
  have hi := List.mem_range.1 hi
  show ((fsts f (fb f i)).length : Int) = (fsts g (fb g i)).length
  obtain ⟨a1, b1, c1⟩ := fb_ok f i
  obtain ⟨a2, b2, c2⟩ := fb_ok g i
  have : fb f i = fb g i := by
    have h1 := of_decide_eq_true b1
    have h2 := of_decide_eq_true b2
    rcases Nat.lt_trichotomy (fb f i) (fb g i) with q | q | q
    · exact absurd (((h _ _ (by omega) hi).1 c1).trans c2.symm) (h2 _ q)
    · exact q
    · exact absurd (((h _ _ (by omega) hi).2 c2).trans c1.symm) (h1 _ q)
  rw [this, fsts_cong2 h _ (by omega)]
/-- In normal form. -/
def Nrm (p : List Int) : Prop := p = nrm (encP p) p.length
theorem Nrm_iff (p : List Int) : Nrm p ↔ ∀ i, i < p.length → p.getD i 0 = numOf (encP p) i := by
  unfold Nrm
  constructor
  · intro h i hi
    have : p.getD i 0 = (nrm (encP p) p.length).getD i 0 := by rw [← h]
    rw [this, nrm_at hi]
  · intro h
    refine List.ext_getElem (by rw [nrm_len]) fun i h1 h2 => ?_
    have a := h i h1
    have b : (nrm (encP p) p.length).getD i 0 = numOf (encP p) i := nrm_at h1
    simp only [List.getD, List.getElem?_eq_getElem h1, List.getElem?_eq_getElem h2, Option.getD_some] at a b
    rw [a, b]
/-- The pairs of a partition. -/
noncomputable def prP (p : List Int) : List (Nat × Nat) := (List.range p.length).map fun i => (fb (encP p) i, i)
theorem prP_mem {p : List Int} {x y : Nat} : (x, y) ∈ prP p ↔ y < p.length ∧ x = fb (encP p) y := by
  unfold prP
  simp only [List.mem_map, List.mem_range, Prod.mk.injEq]
  constructor
  · rintro ⟨i, hi, rfl, rfl⟩; exact ⟨hi, rfl⟩
  · rintro ⟨hy, rfl⟩; exact ⟨y, hy, rfl, rfl⟩
def ParP (c : Cat) (p : List Int) : Prop := ∀ i, i < p.length → c.F (fb (encP p) i) = c.F i ∧ c.T (fb (encP p) i) = c.T i
def ClP (c : Cat) (p : List Int) : Prop := ∀ f, f < c.f.length → ∀ g, g < c.f.length → c.T f = c.F g → p.getD (kN c f g) 0 = p.getD (kN c (fb (encP p) f) (fb (encP p) g)) 0
theorem prP_par {c : Cat} {p : List Int} (hl : p.length = c.f.length) (hP : ParP c p) : ∀ q ∈ prP p, Par c q.1 q.2 := by
  rintro ⟨x, y⟩ hq
  obtain ⟨hy, rfl⟩ := prP_mem.1 hq
  have := (fb_ok (encP p) y).1
  exact ⟨by simp only; omega, by simp only; omega, (hP y hy).1, (hP y hy).2⟩
/-- The two forms of being closed say the same. -/
theorem closed_iff {c : Cat} (k : IsCat c) {p : List Int} (hl : p.length = c.f.length) (hN : Nrm p) (hP : ParP c p) : ClP c p ↔ p = nrm (lab (sprP c (prP p))) c.f.length := by
  have hL := prP_par hl hP
  have lt : ∀ i, i < c.f.length → fb (encP p) i < c.f.length := fun i hi => by have := (fb_ok (encP p) i).1; omega
  have pfb : ∀ i, p.getD (fb (encP p) i) 0 = p.getD i 0 := fun i => encP_eq.1 (fb_ok (encP p) i).2.2
  have fbp : ∀ i j, p.getD i 0 = p.getD j 0 → fb (encP p) i = fb (encP p) j := fun i j e => fb_eq (encP_eq.2 e)
  -- the pairs' closure lies in the classes just if each pair does
  have key : p = nrm (lab (sprP c (prP p))) c.f.length ↔ ∀ x y, (x, y) ∈ sprP c (prP p) → p.getD x 0 = p.getD y 0 := by
    constructor
    · intro h x y hxy
      have pr := spr_par k hL hxy
      have e1 : p.getD x 0 = (numOf (lab (sprP c (prP p))) x : Int) := by
        have := nrm_at (f := lab (sprP c (prP p))) pr.a
        rw [← h] at this; exact this
      have e2 : p.getD y 0 = (numOf (lab (sprP c (prP p))) y : Int) := by
        have := nrm_at (f := lab (sprP c (prP p))) pr.b
        rw [← h] at this; exact this
      rw [e1, e2, numOf_eq ((lab_tells _ x y).2 (.step hxy))]
    · intro h
      have all : ∀ u v, Gen (inP (sprP c (prP p))) u v → p.getD u 0 = p.getD v 0 := fun u v g => by
        induction g with
        | refl => rfl
        | step a => exact h _ _ a
        | symm _ ih => exact ih.symm
        | trans _ _ i1 i2 => exact i1.trans i2
      have mem : ∀ i, i < c.f.length → Gen (inP (sprP c (prP p))) (fb (encP p) i) i := fun i hi => .step (List.mem_append.2 (.inl (prP_mem.2 ⟨by omega, rfl⟩)))
      refine Eq.trans hN ?_
      rw [hl]
      -- the same classes below the length
      have pat : ∀ u v, u < c.f.length → v < c.f.length → (encP p u = encP p v ↔ lab (sprP c (prP p)) u = lab (sprP c (prP p)) v) := fun u v hu hv => by
        rw [encP_eq, lab_tells _ u v]
        refine ⟨fun e => ?_, all u v⟩
        have := mem u hu
        rw [fbp u v e] at this
        exact this.symm.trans (mem v hv)
      exact nrm_cong2 pat
  rw [key]
  constructor
  · intro h x y hxy
    rcases List.mem_append.1 hxy with q | q
    · obtain ⟨hy, rfl⟩ := prP_mem.1 q
      exact pfb y
    · obtain ⟨⟨a, b⟩, hp, q⟩ := List.mem_flatMap.1 q
      obtain ⟨f, g, hf, hg, e1, e2, rfl, rfl⟩ := spr_mem.1 q
      have pp := hL _ hp
      obtain ⟨hb, ea⟩ := prP_mem.1 hp
      have hA := pp.a
      have hB := pp.b
      have pF := pp.F
      have pT := pp.T
      simp only at hA hB pF pT e1 e2 ⊢
      have e1' : c.T f = c.F b := by rw [e1, pF]
      have eab : fb (encP p) a = fb (encP p) b := fbp a b (by rw [ea]; exact pfb b)
      obtain ⟨a1, a2, a3, a4⟩ := kN_ok k hf hA e1
      obtain ⟨b1, b2, b3, b4⟩ := kN_ok k hf hB e1'
      have s1 : p.getD (kN c f a) 0 = p.getD (kN c f b) 0 := by rw [h f hf a hA e1, h f hf b hB e1', eab]
      rw [h _ a1 g hg (by rw [a4, e2]), h _ b1 g hg (by rw [b4, ← pT, e2]), fbp _ _ s1]
  · intro h f hf g hg e
    have hf' := lt f hf
    have hg' := lt g hg
    have pf := hP f (by omega)
    have pg := hP g (by omega)
    have mf : (fb (encP p) f, f) ∈ prP p := prP_mem.2 ⟨by omega, rfl⟩
    have mg : (fb (encP p) g, g) ∈ prP p := prP_mem.2 ⟨by omega, rfl⟩
    have G1 : Gen (inP (sprP c (prP p))) (kN c f (fb (encP p) g)) (kN c f g) := gen_mulL k hL (.step (List.mem_append.2 (.inl mg))) hg' hf (by rw [e, pg.1])
    have G2 : Gen (inP (sprP c (prP p))) (kN c (fb (encP p) f) (fb (encP p) g)) (kN c f (fb (encP p) g)) := gen_mulR k hL (.step (List.mem_append.2 (.inl mf))) hf' hg' (by rw [pf.2, e, pg.1])
    have all : ∀ u v, Gen (inP (sprP c (prP p))) u v → p.getD u 0 = p.getD v 0 := fun u v g => by
      induction g with
      | refl => rfl
      | step a => exact h _ _ a
      | symm _ ih => exact ih.symm
      | trans _ _ i1 i2 => exact i1.trans i2
    exact (all _ _ (G2.trans G1)).symm
end Go.Av
