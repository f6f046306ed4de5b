/-
  Connected objects: both sides.
-/
import Derived.Test.YtalfoffamemfnaaAvJ1
namespace Go.Av
open Classical
set_option linter.unusedSimpArgs false
set_option linter.unusedVariables false
variable {P : Program} {ν : Nat → FuncId}

/-- The labels that a list of pairs makes. -/
def joinL (f : Nat → Nat) (p : Nat × Nat) : Nat → Nat := fun u => if f u = f p.2 then f p.1 else f u
def lab (l : List (Nat × Nat)) : Nat → Nat := l.foldl joinL id
theorem lab_snoc (l : List (Nat × Nat)) (p : Nat × Nat) : lab (l ++ [p]) = joinL (lab l) p := by simp [lab]
theorem lab_tells (l : List (Nat × Nat)) : Tells (lab l) (inP l) := by
  suffices ∀ (m : List (Nat × Nat)) (k : List (Nat × Nat)) (f : Nat → Nat), Tells f (inP k) → Tells (m.foldl joinL f) (inP (k ++ m)) by
    have := this l [] id (tells_id (by simp [inP]))
    simpa [lab] using this
  intro m
  induction m with
  | nil => intro k f h; simpa using h
  | cons p m ih =>
    intro k f h
    have := ih (k ++ [p]) (joinL f p) (Tells.snoc (h.join p.1 p.2 fun u v => label_join p.1 p.2 u v))
    rw [List.append_assoc] at this
    exact this
theorem lab_lt {n : Nat} (l : List (Nat × Nat)) (hl : ∀ p ∈ l, p.1 < n ∧ p.2 < n) {u : Nat} (hu : u < n) : lab l u < n := by
  suffices ∀ (m : List (Nat × Nat)) (f : Nat → Nat), (∀ p ∈ m, p.1 < n ∧ p.2 < n) → (∀ u, u < n → f u < n) → ∀ u, u < n → m.foldl joinL f u < n from this l id hl (fun u h => h) u hu
  intro m
  induction m with
  | nil => intro f _ h; exact h
  | cons p m ih =>
    intro f hm h
    refine ih _ (fun q hq => hm q (by simp [hq])) fun u hu => ?_
    unfold joinL
    split
    · exact h _ (hm p (by simp)).1
    · exact h _ hu
theorem tells_nrm {f : Nat → Nat} {l : List (Nat × Nat)} (h : Tells f (inP l)) (n : Nat) : nrm f n = nrm (lab l) n :=
  nrm_congr (h.same (lab_tells l) (fun _ _ a => .step a) fun _ _ a => .step a) n
/-- What a callee's own slice becomes in a function that keeps nothing else. -/
theorem IsI.back {l : List Int} {H H1 : Hp} {nx n1 : Nat} {u : AV} {H' : Hp} {nx' : Nat} (h : IsI l hempty n1 u H' nx') (hw : Wf H nx) (hn : nx ≤ n1) (low : ∀ j, j < nx → H1 j = H j) : ∃ H2 : Hp, (∀ q d, H2 q = Option.some d → hmerge n1 H1 H' q = Option.some d) ∧ IsI l H nx u H2 nx' := by
  obtain ⟨_, _, q3, own⟩ := h.own H1
  rcases own with ⟨e, rfl⟩ | ⟨o, o1, o2, rfl, e⟩
  · refine ⟨H, fun q d hq => ?_, by omega, .inl ⟨e, rfl, rfl⟩⟩
    have : q < nx := by
      by_cases e : q < nx
      · exact e
      · rw [hw q (by omega)] at hq; cases hq
    rw [hmerge_lo (by omega), low q this]; exact hq
  · exact isI_of hw (by omega) o2 e fun j hj => by rw [hmerge_lo (by omega)]; exact low j hj
theorem Own1.back {l : List Int} {H : Hp} {nx : Nat} {u : AV} {H' : Hp} {nx' : Nat} (own : Own1 l u H' nx nx') (hn : nx ≤ nx') (hw : Wf H nx) (low : ∀ j, j < nx → H' j = H j) : ∃ H2 : Hp, (∀ q d, H2 q = Option.some d → H' q = Option.some d) ∧ IsI l H nx u H2 nx' := by
  rcases own with ⟨e, rfl⟩ | ⟨o, o1, o2, rfl, e⟩
  · refine ⟨H, fun q d hq => ?_, by omega, .inl ⟨e, rfl, rfl⟩⟩
    have : q < nx := by
      by_cases e : q < nx
      · exact e
      · rw [hw q (by omega)] at hq; cases hq
    rw [low q this]; exact hq
  · exact isI_of hw o1 o2 e low

/-- The pairs of ends. -/
def ends (c : Cat) : List (Nat × Nat) := (List.range c.f.length).map fun (i : Nat) => ((c.F i).toNat, (c.T i).toNat)
theorem ends_len {c : Cat} : (ends c).length = c.f.length := by simp [ends]
theorem ends_take {c : Cat} {i : Nat} (h : i < c.f.length) : (ends c).take (i + 1) = (ends c).take i ++ [((c.F i).toNat, (c.T i).toNat)] := by
  rw [List.take_succ_eq_append_getElem (by rw [ends_len]; exact h)]
  simp [ends]
theorem JAt.joinSome {H : Hp} {o n : Nat} {R : Nat → Nat} {x y nx : Nat} (hJ : JAt H o n R) (hx : x < n) (hy : y < n) : ∃ u H' nx', JoinP o n R x y H nx u H' nx' := by
  obtain ⟨J, hz, hl, F⟩ := hJ.ex
  have ra := (F.root x (by omega)).1
  have rb := (F.root y (by omega)).1
  have FJ := F.join (a := R x) (b := R y) (by omega) (by omega) (F.idem (by omega)) (F.idem (by omega))
  exact ⟨_, hput H o (Option.some (ints (J.set (max (R x) (R y)) ((min (R x) (R y) : Nat) : Int)))), _, rfl, rfl, ⟨_, hput_eq _ _ _, by rw [List.length_set]; exact hl, FJ⟩, fun j hj => hput_ne _ _ _ _ hj⟩
/-- What the joiner calls. -/
structure HJoin (P : Program) (ν : Nat → FuncId) : Prop where
  numbers : Has P ν 425 1 V_numbers
  joinerOf : Has P ν 394 1 V_joinerOf
  root : Has P ν 414 2 V_joiner_root
  join : Has P ν 395 3 V_joiner_join
  normal : Has P ν 365 1 V_normal
  partition : Has P ν 396 1 V_joiner_partition
theorem start_tells : Tells id (inP []) := tells_id (by simp [inP])
theorem NewL.joiner {n : Nat} {H : Hp} {nx : Nat} {r : AV} {H' : Hp} {nx' : Nat} (h : NewL (upto n) H nx r H' nx') : r = .ms nx 0 n 1 ∧ nx' = nx + 1 ∧ JAt H' nx n id ∧ ∀ j, j ≠ nx → H' j = H j := by
  obtain ⟨h1, h2, h3, h4⟩ := h
  rw [upto_len] at h1
  exact ⟨h1, h2, ⟨_, h3, upto_len, Forest.start n⟩, h4⟩
def V_Category_connected : Vc :=
  .op true (.p .nck [.t 0]) <|
  .op true (.p (.fad 0) [.t 1]) <|
  .op true (.p (.ld none) [.t 2]) <|
  .op true (.callm (.f 394) [.t 3]) <|
  .op true (.p .nck [.t 0]) <|
  .op true (.p (.fad 1) [.t 5]) <|
  .op true (.p (.ld none) [.t 6]) <|
  .op true (.p .len [.t 7]) <|
  .loop 0 [.c (int 0)] <|
  .op true (.p (.bin .lss) [.t 9, .t 8]) <|
  .br 10
   (.op true (.p .nck [.t 0]) <|
   .op true (.p (.fad 1) [.t 11]) <|
   .op true (.p (.ld none) [.t 12]) <|
   .op true (.p (.iad 1) [.t 13, .t 9]) <|
   .op true (.p (.ld none) [.t 14]) <|
   .op true (.p .nck [.t 0]) <|
   .op true (.p (.fad 2) [.t 16]) <|
   .op true (.p (.ld none) [.t 17]) <|
   .op true (.p (.iad 1) [.t 18, .t 9]) <|
   .op true (.p (.ld none) [.t 19]) <|
   .op true (.callm (.f 395) [.t 4, .t 15, .t 20]) <|
   .op true (.p (.bin .add) [.t 9, .c (int 1)]) <|
   .again 0 [.t 22])
   (.op true (.callm (.f 396) [.t 4]) <|
   .ret [(.t 11, none)])
set_option maxHeartbeats 1000000 in
theorem connected_ok (K : HJoin P ν) (h : Has P ν 292 1 V_Category_connected) (c : Cat) (s : Shape c) (H : Hp) (nx : Nat) : OkM P ν 292 [.ptr c.cells 0] H nx (IsI (nrm (lab (ends c)) c.o.toNat) H nx) := by
  refine h _ _ _ _ rfl fun hwf => ?_
  unfold V_Category_connected
  have n40 := s.n40
  have tl := s.tl
  have o0 := s.o0
  have o8 := s.o8
  obtain ⟨n, hn⟩ : ∃ n : Nat, c.o = n := ⟨c.o.toNat, by omega⟩
  have hn' : c.o.toNat = n := by omega
  rw [hn']
  have jo := joinerOf_ok K.numbers K.joinerOf n (by omega) H nx
  rw [← hn] at jo
  try simp (disch := (first | rfl | with_reducible assumption | with_reducible solve_by_elim (maxDepth := 8) [Shape.inT, Shape.inI, Shape.inC, Shape.inK, Shape.obF, Shape.obT, Shape.arI, Arr.inF] | omega)) only [S2, Nat.reduceEqDiff, Nat.reduceAdd, iput, puts]
  refine den_callm (fc := (394, [])) rfl jo (NewL.some _ _ _) fun u H1 n1 hu => ?_
  obtain ⟨rfl, rfl, hJ, low⟩ := hu.joiner
  try simp (disch := (first | rfl | with_reducible assumption | with_reducible solve_by_elim (maxDepth := 8) [Shape.inT, Shape.inI, Shape.inC, Shape.inK, Shape.obF, Shape.obT, Shape.arI, Arr.inF] | omega)) only [S2, Nat.reduceEqDiff, Nat.reduceAdd, iput, puts]
  refine den_loop (α := Nat × (Nat → Nat)) (fun a => [int a.1]) (fun a H' nx' => a.1 ≤ c.f.length ∧ Tells a.2 (inP ((ends c).take a.1)) ∧ JAt H' nx n a.2 ∧ (∀ j, j ≠ nx → H' j = H j) ∧ nx' = nx + 1) (fun a => c.f.length - a.1) (0, id) rfl ⟨Nat.zero_le _, start_tells, hJ, low, rfl⟩ ?_
  clear hJ low hu H1
  rintro ⟨i, R⟩ H1 n1 ⟨hi, hR, hJ, low, rfl⟩
  simp only at hi hR hJ
  by_cases hlt : i < c.f.length
  · have i1 : In c.f (i : Int) := In.nat hlt
    have i2 : In c.t (i : Int) := In.nat (by omega)
    have a : Arr c i := ⟨by omega, by omega⟩
    obtain ⟨f0, f1⟩ := s.obF a
    obtain ⟨t0, t1⟩ := s.obT a
    have ex : gI c.f (i : Int) = ((c.F i).toNat : Int) := by show c.F i = _; omega
    have ey : gI c.t (i : Int) = ((c.T i).toNat : Int) := by show c.T i = _; omega
    try simp (disch := (first | rfl | with_reducible assumption | with_reducible solve_by_elim (maxDepth := 8) [Shape.inT, Shape.inI, Shape.inC, Shape.inK, Shape.obF, Shape.obT, Shape.arI, Arr.inF] | omega)) only [S2, Nat.reduceEqDiff, Nat.reduceAdd, iput, puts, hlt]
    refine den_callm (fc := (395, [])) rfl (join_ok K.root K.join nx n R H1 (nx + 1) hJ _ _ (c.F i).toNat (c.T i).toNat ex ey (by omega) (by omega)) (hJ.joinSome (by omega) (by omega)) fun u H2 n2 hu => ?_
    obtain ⟨rfl, rfl, hJ2, low2⟩ := hu
    try simp (disch := (first | rfl | with_reducible assumption | with_reducible solve_by_elim (maxDepth := 8) [Shape.inT, Shape.inI, Shape.inC, Shape.inK, Shape.obF, Shape.obT, Shape.arI, Arr.inF] | omega)) only [S2, Nat.reduceEqDiff, Nat.reduceAdd, iput, puts]
    refine ⟨(i + 1, joinR R (c.F i).toNat (c.T i).toNat), rfl, ⟨by simp only; omega, ?_, hJ2, fun j hj => by rw [low2 j hj]; exact low j hj⟩, by simp only; omega⟩
    simp only
    rw [ends_take hlt]
    exact joinR_tells hR _ _
  · try simp (disch := (first | rfl | with_reducible assumption | with_reducible solve_by_elim (maxDepth := 8) [Shape.inT, Shape.inI, Shape.inC, Shape.inK, Shape.obF, Shape.obT, Shape.arI, Arr.inF] | omega)) only [S2, Nat.reduceEqDiff, Nat.reduceAdd, iput, puts, hlt]
    have : i = (ends c).length := by rw [ends_len]; omega
    subst this
    rw [List.take_length] at hR
    refine den_callm (fc := (396, [])) rfl (partition_ok K.root K.normal K.partition nx n (by omega) R H1 (nx + 1) hJ (by omega)) PartP.some fun u H2 n2 hu => ?_
    obtain ⟨h1, own, low2⟩ := hu
    rw [tells_nrm hR] at own
    have own2 : Own1 (nrm (lab (ends c)) n) u H2 nx n2 := by
      rcases own with ⟨e, rfl⟩ | ⟨o, o1, o2, rfl, e⟩
      · exact .inl ⟨e, rfl⟩
      · exact .inr ⟨o, by omega, o2, rfl, e⟩
    obtain ⟨H3, s3, i3⟩ := own2.back (by omega) hwf fun j hj => by rw [low2 j (by omega) (by omega)]; exact low j (by omega)
    exact ⟨_, rfl, H3, s3, i3⟩

/-- The first place of a number. -/
noncomputable def idxI (l : List Int) (k : Int) : Int := match (List.range l.length).findSome? (fun i => if l.getD i 0 = k then some i else none) with | some i => (i : Nat) | none => -1
theorem idxI_at {l : List Int} {k : Int} {i : Nat} (hi : i < l.length) (h : l.getD i 0 = k) (hlt : ∀ j, j < i → l.getD j 0 ≠ k) : idxI l k = i := by
  unfold idxI
  rw [findSome_at (r := i) hi (by rw [if_pos h]) fun j hj => by rw [if_neg (hlt j hj)]]
theorem idxI_none {l : List Int} {k : Int} (h : ∀ j, j < l.length → l.getD j 0 ≠ k) : idxI l k = -1 := by
  unfold idxI
  rw [List.findSome?_eq_none_iff.2 fun j hj => by rw [if_neg (h j (List.mem_range.1 hj))]]
def V_spec_l01Index : Vc :=
  .loop 0 [.c (int 0)] <|
  .op true (.p .len [.t 0]) <|
  .op true (.p (.bin .lss) [.t 2, .t 3]) <|
  .br 4
   (.op true (.p (.iad 1) [.t 0, .t 2]) <|
   .op true (.p (.ld none) [.t 5]) <|
   .op true (.p (.bin .eql) [.t 6, .t 1]) <|
   .br 7
    (.ret [(.t 2, none)])
    (.op true (.p (.bin .add) [.t 2, .c (int 1)]) <|
    .again 0 [.t 8]))
   (.ret [(.c (int (-1)), none)])
theorem l01Index_fz (h : Has P ν 376 2 V_spec_l01Index) (l : List Int) (k : Int) (hl : l.length ≤ 1048576) : Fz (OkM P ν) 376 [islice l, int k] (int (idxI l k)) := by
  refine Fn.fzi fun H nx => h _ _ _ _ rfl fun hwf => ?_
  unfold V_spec_l01Index
  refine den_for l.length (fun i => ∀ j, j < i → l.getD j 0 ≠ k) (fun j hj => by omega) fun i hi hp => ?_
  by_cases hlt : i < l.length
  · have i1 : In l (i : Int) := In.nat hlt
    try simp (disch := (first | rfl | with_reducible assumption | with_reducible solve_by_elim (maxDepth := 8) [Shape.inT, Shape.inI, Shape.inC, Shape.inK, Shape.obF, Shape.obT, Shape.arI, Arr.inF] | omega)) only [S2, Nat.reduceEqDiff, Nat.reduceAdd, iput, puts, hlt, gI_nat]
    refine ⟨fun e => ?_, fun e => ?_⟩
    · exact ⟨_, rfl, H, fun _ _ h => h, by rw [idxI_at hlt e hp]; rfl, rfl, Nat.le_refl _⟩
    · try simp (disch := (first | rfl | with_reducible assumption | with_reducible solve_by_elim (maxDepth := 8) [Shape.inT, Shape.inI, Shape.inC, Shape.inK, Shape.obF, Shape.obT, Shape.arI, Arr.inF] | omega)) only [S2, Nat.reduceEqDiff, Nat.reduceAdd, iput, puts]
      refine up rfl hlt fun j hj => ?_
      by_cases ej : j = i
      · rw [ej]; exact e
      · exact hp j (by omega)
  · try simp (disch := (first | rfl | with_reducible assumption | with_reducible solve_by_elim (maxDepth := 8) [Shape.inT, Shape.inI, Shape.inC, Shape.inK, Shape.obF, Shape.obT, Shape.arI, Arr.inF] | omega)) only [S2, Nat.reduceEqDiff, Nat.reduceAdd, iput, puts, hlt]
    exact ⟨_, rfl, H, fun _ _ h => h, by rw [idxI_none fun j hj => hp j (by omega)]; rfl, rfl, Nat.le_refl _⟩
def seenL (f : Nat → Nat) (i : Nat) : List Int := (fsts f i).map fun j => (f j : Int)
theorem seenL_len {f : Nat → Nat} {i : Nat} : (seenL f i).length = (fsts f i).length := by simp [seenL]
theorem seenL_at {f : Nat → Nat} {i p : Nat} (h : p < (fsts f i).length) : (seenL f i).getD p 0 = f ((fsts f i)[p]) := by simp [seenL, List.getD, h]
theorem seen_new {f : Nat → Nat} {i : Nat} (h : isFst f i = true) : idxI (seenL f i) (f i) = -1 := by
  refine idxI_none fun p hp e => ?_
  rw [seenL_len] at hp
  rw [seenL_at hp] at e
  have := fsts_lt (List.getElem_mem hp)
  exact of_decide_eq_true h _ this (by omega)
theorem fsts_split {f : Nat → Nat} {j : Nat} (hj : isFst f j = true) : ∀ {i : Nat}, j < i → ∃ t, fsts f i = fsts f j ++ j :: t := by
  intro i
  induction i with
  | zero => intro h; omega
  | succ i ih =>
    intro h
    rw [fsts_succ]
    by_cases e : j = i
    · subst e
      rw [if_pos hj]
      exact ⟨[], rfl⟩
    · obtain ⟨t, ht⟩ := ih (by omega)
      rw [ht]
      exact ⟨t ++ (if isFst f i then [i] else []), by simp⟩
theorem seen_old {f : Nat → Nat} {i : Nat} (h : isFst f i = false) : idxI (seenL f i) (f i) = numOf f i := by
  obtain ⟨j, hj, hjf, hje, hnum⟩ := numOf_old h
  obtain ⟨t, ht⟩ := fsts_split hjf hj
  rw [hnum]
  have hl : (fsts f j).length < (fsts f i).length := by rw [ht]; simp
  refine idxI_at (by rw [seenL_len]; exact hl) ?_ fun p hp e => ?_
  · rw [seenL_at hl]
    have : (fsts f i)[(fsts f j).length] = j := by simp [ht]
    rw [this, hje]
  · rw [seenL_at (by omega)] at e
    have h1 : (fsts f i)[p] = (fsts f j)[p] := by simp [ht, List.getElem_append_left hp]
    rw [h1] at e
    have h2 := fsts_lt (List.getElem_mem hp)
    exact of_decide_eq_true hjf _ h2 (by omega)

/-- A slice that grows in its own object. -/
def Gr (s : Option Nat) (l : List Int) (v : AV) (H : Hp) : Prop := match s with | none => l = [] ∧ v = .nil | some o => v = .ms o 0 l.length 1 ∧ H o = some (ints l)
theorem Gr.kept {s : Option Nat} {l : List Int} {v : AV} {H H' : Hp} (h : Gr s l v H) (hh : ∀ o, s = some o → H' o = H o) : Gr s l v H' := by
  cases s with
  | none => exact h
  | some o => exact ⟨h.1, (hh o rfl).trans h.2⟩
theorem Gr.frz {s : Option Nat} {l : List Int} {v : AV} {H : Hp} (h : Gr s l v H) : Av.frz H fuel v = some (islice l) := by
  cases s with
  | none => obtain ⟨rfl, rfl⟩ := h; rfl
  | some o => obtain ⟨rfl, h2⟩ := h; exact frzN_frz _ _ _ (frzN_ms h2 5)
section
variable {C : Ct} {Φ : AV → Hp → Nat → Prop} {n : Nat} {vars : Nat → AV} {H : Hp} {nx : Nat} {Is : Nat → Inv} {r : Vc}
theorem den_appW {x y : Opd} {s : Option Nat} {l m : List Int} (h : Gr s l (ev vars x) H) (hy : ev vars y = islice m) (hm : m.length ≠ 0) (hlen : l.length + m.length ≤ 1099511627776)
    (hk : ∀ v H2 nx2, Gr (some (s.getD nx)) (l ++ m) v H2 → (∀ j, j ≠ s.getD nx → H2 j = H j) → nx2 = (if s.isSome then nx else nx + 1) → den C Φ r (n + 1) (put vars n v) H2 nx2 Is) : den C Φ (.op true (.app 1 x y) r) n vars H nx Is := by
  have hlen' : m.length ≤ appMax := by unfold appMax; omega
  have hc : appCells H 1 (ev vars y) = some (ints m, m.length) := by rw [hy]; simp [islice, appCells, ints_length]
  have h1 : (ints m).all AV.one = true := List.all_eq_true.2 fun x hx => by obtain ⟨a, _, rfl⟩ := List.mem_map.1 hx; rfl
  cases s with
  | none =>
    obtain ⟨rfl, h2⟩ := h
    refine den_app (q := (.ms nx 0 m.length 1, hput H nx (some (ints m)), nx + 1)) hc h1 ?_ ?_
    · rw [h2]
      simp only [appTo, hm, if_false, hlen', if_true]
    · exact hk _ _ _ ⟨by simp, by simpa using hput_eq _ _ _⟩ (fun j hj => hput_ne _ _ _ _ hj) rfl
  | some o =>
    obtain ⟨h2, h3⟩ := h
    refine den_app (q := (.ms o 0 (l.length + m.length) 1, hput H o (some (ints (l ++ m))), nx)) hc h1 ?_ ?_
    · rw [h2]
      have hl2 : l.length + m.length ≤ appMax := by unfold appMax; simpa using hlen
      simp [appTo, h3, ints_length, hl2]
      simp [ints]
    · exact hk _ _ _ ⟨by simp, hput_eq _ _ _⟩ (fun j hj => hput_ne _ _ _ _ hj) rfl
end
def V_spec_l01Classes : Vc :=
  .op true (.p (.msl 0 [] []) []) <|
  .op true (.p (.msl 0 [] []) []) <|
  .loop 0 [.t 2, .t 1, .c (int 0)] <|
  .op true (.p .len [.t 0]) <|
  .op true (.p (.bin .lss) [.t 5, .t 6]) <|
  .br 7
   (.op true (.p (.iad 1) [.t 0, .t 5]) <|
   .op true (.p (.ld none) [.t 8]) <|
   .op true (.call (.f 376) [.t 3, .t 9]) <|
   .op true (.p (.bin .lss) [.t 10, .c (int 0)]) <|
   .br 11
    (.op true (.p .len [.t 3]) <|
    .op true (.p (.iad 1) [.t 0, .t 5]) <|
    .op true (.p (.ld none) [.t 13]) <|
    .op true (.p (.msl 1 [int 0] [(0, 1)]) [.t 14]) <|
    .op true (.app 1 (.t 3) (.t 15)) <|
    .op true (.p (.msl 1 [int 0] [(0, 1)]) [.t 12]) <|
    .op true (.app 1 (.t 4) (.t 17)) <|
    .op true (.p (.bin .add) [.t 5, .c (int 1)]) <|
    .again 0 [.t 16, .t 18, .t 19])
    (.op true (.p (.msl 1 [int 0] [(0, 1)]) [.t 10]) <|
    .op true (.app 1 (.t 4) (.t 12)) <|
    .op true (.p (.bin .add) [.t 5, .c (int 1)]) <|
    .again 0 [.t 3, .t 13, .t 14]))
   (.ret [(.t 4, none)])
set_option maxHeartbeats 1000000 in
theorem l01Classes_ok (hi : Has P ν 376 2 V_spec_l01Index) (h : Has P ν 393 1 V_spec_l01Classes) (f : Nat → Nat) (n : Nat) (hn : n ≤ 1048576) (H : Hp) (nx : Nat) : OkM P ν 393 [islice (labs f n)] H nx (IsI (nrm f n) H nx) := by
  refine h _ _ _ _ rfl fun hwf => ?_
  unfold V_spec_l01Classes
  have ln := labs_len (f := f) (n := n)
  try simp (disch := (first | rfl | with_reducible assumption | with_reducible solve_by_elim (maxDepth := 8) [Shape.inT, Shape.inI, Shape.inC, Shape.inK, Shape.obF, Shape.obT, Shape.arI, Arr.inF] | omega)) only [S2, Nat.reduceEqDiff, Nat.reduceAdd, iput, puts]
  refine den_loop (α := (Nat × AV × AV) × Option Nat × Option Nat) (fun a => [a.1.2.1, a.1.2.2, int a.1.1]) (fun a H' nx' => a.1.1 ≤ n ∧ nx ≤ nx' ∧ Gr a.2.1 (seenL f a.1.1) a.1.2.1 H' ∧ Gr a.2.2 ((nrm f n).take a.1.1) a.1.2.2 H' ∧ (∀ o, a.2.1 = some o → nx ≤ o ∧ o < nx' ∧ a.2.2 ≠ some o) ∧ (∀ o, a.2.2 = some o → nx ≤ o ∧ o < nx') ∧ ∀ j, j < nx → H' j = H j) (fun a => n - a.1.1) ((0, .nil, .nil), none, none) rfl ⟨Nat.zero_le _, Nat.le_refl _, ⟨rfl, rfl⟩, ⟨by simp, rfl⟩, (fun o h => by cases h), (fun o h => by cases h), fun _ _ => rfl⟩ ?_
  rintro ⟨⟨i, v, w⟩, s, t⟩ H1 n1 ⟨hi', hle, hS, hT, h1, h2, low⟩
  simp only at hi' hS hT h1 h2
  have fl := fsts_len f i
  have sl := seenL_len (f := f) (i := i)
  by_cases hlt : i < n
  · have i1 : In (labs f n) (i : Int) := In.nat (by rw [ln]; exact hlt)
    have g1 : gI (labs f n) (i : Int) = (f i : Int) := by rw [gI_nat]; exact labs_at hlt
    have tk : (nrm f n).take (i + 1) = (nrm f n).take i ++ [(numOf f i : Int)] := by rw [take_succ_at (by rw [nrm_len]; exact hlt), nrm_at hlt]
    have tl : ((nrm f n).take i).length ≤ i := by simp; omega
    try simp (disch := (first | rfl | with_reducible assumption | with_reducible solve_by_elim (maxDepth := 8) [Shape.inT, Shape.inI, Shape.inC, Shape.inK, Shape.obF, Shape.obT, Shape.arI, Arr.inF] | omega)) only [S2, Nat.reduceEqDiff, Nat.reduceAdd, iput, puts, hlt, ln, g1]
    refine den_call (fc := (376, [])) (ys := [islice (seenL f i), int (f i : Int)]) rfl (by simp only [SS, Nat.reduceEqDiff, Nat.reduceAdd, iput, puts, frzL, List.mapM_cons, List.mapM_nil, List.append_nil, hS.frz]; rfl) (l01Index_fz hi (seenL f i) (f i) (by omega)) ?_
    cases hf : isFst f i with
    | true =>
      have lenS : pvf H1 .len [v] = some (int (seenL f i).length) := by
        cases s with
        | none => obtain ⟨e, rfl⟩ := hS; rw [e]; rfl
        | some o => obtain ⟨rfl, e⟩ := hS; exact p_lenN e rfl
      rw [seen_new hf]
      have neg : (-1 : Int) < 0 := by decide
      try simp (disch := (first | rfl | with_reducible assumption | with_reducible solve_by_elim (maxDepth := 8) [Shape.inT, Shape.inI, Shape.inC, Shape.inK, Shape.obF, Shape.obT, Shape.arI, Arr.inF] | omega)) only [S2, Nat.reduceEqDiff, Nat.reduceAdd, iput, puts, neg, lenS, g1]
      refine den_appW (m := [(f i : Int)]) hS rfl (by simp) (by simp only [List.length_cons, List.length_nil]; omega) fun v2 H2 n2 hS2 e2 hn2 => ?_
      have hT2 : Gr t ((nrm f n).take i) w H2 := hT.kept fun o ho => e2 o fun e => by
        cases s with
        | none => have := (h2 o ho).2; simp at e; omega
        | some o' => simp at e; subst e; exact (h1 o rfl).2.2 ho
      try simp (disch := (first | rfl | with_reducible assumption | with_reducible solve_by_elim (maxDepth := 8) [Shape.inT, Shape.inI, Shape.inC, Shape.inK, Shape.obF, Shape.obT, Shape.arI, Arr.inF] | omega)) only [S2, Nat.reduceEqDiff, Nat.reduceAdd, iput, puts]
      refine den_appW (m := [((seenL f i).length : Int)]) hT2 rfl (by simp) (by simp only [List.length_cons, List.length_nil]; omega) fun w2 H3 n3 hT3 e3 hn3 => ?_
      try simp (disch := (first | rfl | with_reducible assumption | with_reducible solve_by_elim (maxDepth := 8) [Shape.inT, Shape.inI, Shape.inC, Shape.inK, Shape.obF, Shape.obT, Shape.arI, Arr.inF] | omega)) only [S2, Nat.reduceEqDiff, Nat.reduceAdd, iput, puts]
      have sg : s.getD n1 ≠ t.getD n2 := by
        cases s with
        | none =>
          cases t with
          | none => simp at hn2; simp; omega
          | some o => have := (h2 o rfl).2; simp; omega
        | some o' =>
          cases t with
          | none => have := (h1 o' rfl).2.1; simp at hn2; simp; omega
          | some o => have := (h1 o' rfl).2.2; intro e; exact this (by simp at e; rw [e])
      have s1 : nx ≤ s.getD n1 ∧ s.getD n1 < n2 ∧ n1 ≤ n2 := by
        cases s with
        | none => simp at hn2; simp; omega
        | some o => have := h1 o rfl; simp at hn2; simp; omega
      have t1 : nx ≤ t.getD n2 ∧ t.getD n2 < n3 ∧ n2 ≤ n3 := by
        cases t with
        | none => simp at hn3; simp; omega
        | some o => have := h2 o rfl; simp at hn3; simp; omega
      refine ⟨((i + 1, v2, w2), some (s.getD n1), some (t.getD n2)), rfl, ⟨by simp only; omega, by omega, ?_, ?_, fun o ho => ?_, fun o ho => ?_, fun j hj => by rw [e3 j (by omega), e2 j (by omega)]; exact low j hj⟩, by simp only; omega⟩
      · simp only
        have : seenL f (i + 1) = seenL f i ++ [(f i : Int)] := by unfold seenL; rw [fsts_succ, if_pos hf]; simp
        rw [this]
        exact hS2.kept fun o ho => e3 o fun e => by cases ho; exact sg e
      · simp only
        rw [tk, numOf_new hf, ← sl]
        exact hT3
      · cases ho
        exact ⟨s1.1, by omega, fun e => sg (Option.some.inj e).symm⟩
      · cases ho
        exact ⟨t1.1, t1.2.1⟩
    | false =>
      rw [seen_old hf]
      have neg : ¬ (numOf f i : Int) < 0 := by omega
      try simp (disch := (first | rfl | with_reducible assumption | with_reducible solve_by_elim (maxDepth := 8) [Shape.inT, Shape.inI, Shape.inC, Shape.inK, Shape.obF, Shape.obT, Shape.arI, Arr.inF] | omega)) only [S2, Nat.reduceEqDiff, Nat.reduceAdd, iput, puts, neg]
      refine den_appW (m := [(numOf f i : Int)]) hT rfl (by simp) (by simp only [List.length_cons, List.length_nil]; omega) fun w2 H3 n3 hT3 e3 hn3 => ?_
      try simp (disch := (first | rfl | with_reducible assumption | with_reducible solve_by_elim (maxDepth := 8) [Shape.inT, Shape.inI, Shape.inC, Shape.inK, Shape.obF, Shape.obT, Shape.arI, Arr.inF] | omega)) only [S2, Nat.reduceEqDiff, Nat.reduceAdd, iput, puts]
      have t1 : nx ≤ t.getD n1 ∧ t.getD n1 < n3 ∧ n1 ≤ n3 := by
        cases t with
        | none => simp at hn3; simp; omega
        | some o => have := h2 o rfl; simp at hn3; simp; omega
      have sg : ∀ o, s = some o → o ≠ t.getD n1 := fun o ho e => by
        cases t with
        | none => have := (h1 o ho).2.1; simp at e; omega
        | some o' => simp at e; subst e; exact (h1 o ho).2.2 rfl
      refine ⟨((i + 1, v, w2), s, some (t.getD n1)), rfl, ⟨by simp only; omega, by omega, ?_, ?_, fun o ho => ?_, fun o ho => ?_, fun j hj => by rw [e3 j (by omega)]; exact low j hj⟩, by simp only; omega⟩
      · simp only
        have : seenL f (i + 1) = seenL f i := by unfold seenL; rw [fsts_succ, if_neg (by rw [hf]; decide)]; simp
        rw [this]
        exact hS.kept fun o ho => e3 o (sg o ho)
      · simp only
        rw [tk]
        exact hT3
      · exact ⟨(h1 o ho).1, by have := (h1 o ho).2.1; omega, fun e => sg o ho (Option.some.inj e).symm⟩
      · cases ho
        exact ⟨t1.1, t1.2.1⟩
  · try simp (disch := (first | rfl | with_reducible assumption | with_reducible solve_by_elim (maxDepth := 8) [Shape.inT, Shape.inI, Shape.inC, Shape.inK, Shape.obF, Shape.obT, Shape.arI, Arr.inF] | omega)) only [S2, Nat.reduceEqDiff, Nat.reduceAdd, iput, puts, hlt, ln]
    have : i = n := by omega
    subst this
    rw [List.take_of_length_le (by rw [nrm_len]; omega)] at hT
    have own : Own1 (nrm f i) w H1 nx n1 := by
      cases t with
      | none => exact .inl hT
      | some o => exact .inr ⟨o, (h2 o rfl).1, (h2 o rfl).2, hT.1, hT.2⟩
    obtain ⟨H3, s3, i3⟩ := own.back hle hwf low
    exact ⟨_, rfl, H3, s3, i3⟩
end Go.Av
