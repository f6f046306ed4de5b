/-
  Joining on the reference's side; connected objects.
-/
import Derived.Test.YtbikcomiocdkpaaAvJ2
namespace Go.Av
open Classical
set_option linter.unusedSimpArgs false
set_option linter.unusedVariables false
variable {P : Program} {ν : Nat → FuncId}

/-- Pairs as rows. -/
def prM (l : List (Nat × Nat)) : List (List Int) := l.map fun p => [(p.1 : Int), (p.2 : Int)]
theorem prM_len {l : List (Nat × Nat)} : (prM l).length = l.length := by simp [prM]
theorem prM_at {l : List (Nat × Nat)} {k : Nat} (h : k < l.length) : (prM l).getD k [] = [((l[k]).1 : Int), ((l[k]).2 : Int)] := by simp [prM, List.getD, h]
theorem upto_take {n i : Nat} (h : i < n) : (upto n).take (i + 1) = (upto n).take i ++ [(i : Int)] := by rw [take_succ_at (by rw [upto_len]; exact h), upto_at h]
def midF (f g : Nat → Nat) (i : Nat) : Nat → Nat := fun u => if u < i then g u else f u
theorem mid_set {f g : Nat → Nat} {n i : Nat} (h : i < n) : (labs (midF f g i) n).set i (g i : Int) = labs (midF f g (i + 1)) n := by
  refine list_eq_of (by rw [List.length_set, labs_len, labs_len]) fun k hk => ?_
  rw [List.length_set, labs_len] at hk
  rw [getD_set, labs_at hk, labs_at hk, labs_len]
  by_cases e : i = k
  · subst e; rw [if_pos ⟨rfl, hk⟩]; unfold midF; rw [if_pos (by omega)]
  · rw [if_neg fun q => e q.1]
    unfold midF
    by_cases e2 : k < i
    · rw [if_pos e2, if_pos (by omega)]
    · rw [if_neg e2, if_neg (by omega)]
theorem mid_same {f g : Nat → Nat} {n i : Nat} (h : g i = f i) : labs (midF f g i) n = labs (midF f g (i + 1)) n := by
  unfold labs
  refine List.map_congr_left fun u _ => ?_
  unfold midF
  by_cases e : u = i
  · subst e; rw [if_neg (by omega), if_pos (by omega), h]
  · by_cases e2 : u < i
    · rw [if_pos e2, if_pos (by omega)]
    · rw [if_neg e2, if_neg (by omega)]
theorem mid_zero {f g : Nat → Nat} {n : Nat} : labs (midF f g 0) n = labs f n := by
  unfold labs
  refine List.map_congr_left fun u _ => ?_
  unfold midF
  rw [if_neg (by omega)]
theorem mid_end {f g : Nat → Nat} {n : Nat} : labs (midF f g n) n = labs g n := by
  unfold labs
  refine List.map_congr_left fun u hu => ?_
  have := List.mem_range.1 hu
  unfold midF
  rw [if_pos this]
theorem mid_all {f g : Nat → Nat} (h : ∀ u, g u = f u) {n i : Nat} : labs (midF f g i) n = labs g n := by
  unfold labs
  refine List.map_congr_left fun u _ => ?_
  unfold midF
  split
  · rfl
  · rw [h]
def V_spec_l01Join : Vc :=
  .op true (.p (.msl 0 [] []) []) <|
  .loop 0 [.t 2, .c (int 0)] <|
  .op true (.p (.bin .lss) [.t 4, .t 0]) <|
  .br 5
   (.op true (.p (.msl 1 [int 0] [(0, 1)]) [.t 4]) <|
   .op true (.app 1 (.t 3) (.t 6)) <|
   .op true (.p (.bin .add) [.t 4, .c (int 1)]) <|
   .again 0 [.t 7, .t 8])
   (.loop 0 [.c (int 0)] <|
   .op true (.p .len [.t 1]) <|
   .op true (.p (.bin .lss) [.t 6, .t 7]) <|
   .br 8
    (.op true (.p (.iad 1) [.t 1, .t 6]) <|
    .op true (.p (.ld none) [.t 9]) <|
    .op true (.p (.iad 1) [.t 10, .c (int 0)]) <|
    .op true (.p (.ld none) [.t 11]) <|
    .op true (.p (.iad 1) [.t 3, .t 12]) <|
    .op true (.p (.ld none) [.t 13]) <|
    .op true (.p (.iad 1) [.t 1, .t 6]) <|
    .op true (.p (.ld none) [.t 15]) <|
    .op true (.p (.iad 1) [.t 16, .c (int 1)]) <|
    .op true (.p (.ld none) [.t 17]) <|
    .op true (.p (.iad 1) [.t 3, .t 18]) <|
    .op true (.p (.ld none) [.t 19]) <|
    .loop 1 [.c (int 0)] <|
    .op true (.p .len [.t 3]) <|
    .op true (.p (.bin .lss) [.t 21, .t 22]) <|
    .br 23
     (.op true (.p (.bin .neq) [.t 14, .t 20]) <|
     .br 24
      (.op true (.p (.iad 1) [.t 3, .t 21]) <|
      .op true (.p (.ld none) [.t 25]) <|
      .op true (.p (.bin .eql) [.t 26, .t 20]) <|
      .br 27
       (.op true (.p (.iad 1) [.t 3, .t 21]) <|
       .op true (.st 1 (.t 28) (.t 14)) <|
       .op true (.p (.bin .add) [.t 21, .c (int 1)]) <|
       .again 1 [.t 30])
       (.op true (.p (.bin .add) [.t 21, .c (int 1)]) <|
       .again 1 [.t 28]))
      (.op true (.p (.bin .add) [.t 6, .c (int 1)]) <|
      .again 0 [.t 25]))
     (.op true (.p (.bin .add) [.t 6, .c (int 1)]) <|
     .again 0 [.t 24]))
    (.op true (.callo (.f 393) [.t 3]) <|
    .ret [(.t 9, none)]))
set_option maxHeartbeats 2000000 in
theorem l01Join_ok (hi : Has P ν 376 2 V_spec_l01Index) (hcl : Has P ν 393 1 V_spec_l01Classes) (h : Has P ν 291 2 V_spec_l01Join) (n : Nat) (hn : n ≤ 1048576) (l : List (Nat × Nat)) (hl : ∀ p ∈ l, p.1 < n ∧ p.2 < n) (hll : l.length ≤ 1099511627776) (o : Int) (ho : o = n) (H : Hp) (nx : Nat) : OkM P ν 291 [int o, .sl (rows (prM l)) (prM l).length] H nx (IsI (nrm (lab l) n) H nx) := by
  subst ho
  refine h _ _ _ _ rfl fun hwf => ?_
  unfold V_spec_l01Join
  try simp (disch := (first | rfl | with_reducible assumption | with_reducible solve_by_elim (maxDepth := 8) [Shape.inT, Shape.inI, Shape.inC, Shape.inK, Shape.obF, Shape.obT, Shape.arI, Arr.inF] | omega)) only [S2, Nat.reduceEqDiff, Nat.reduceAdd, iput, puts]
  refine den_loop (α := Nat × AV) (fun a => [a.2, int a.1]) (fun a H' nx' => a.1 ≤ n ∧ IsI ((upto n).take a.1) H nx a.2 H' nx') (fun a => n - a.1) (0, .nil) rfl ⟨Nat.zero_le _, Nat.le_refl _, .inl ⟨by simp, rfl, rfl⟩⟩ ?_
  rintro ⟨i, v⟩ H1 n1 ⟨hi', hI⟩
  simp only at hi' hI
  have tl : ((upto n).take i).length ≤ i := by simp; omega
  by_cases hlt : i < n
  · have hlt' : (i : Int) < n := by omega
    try simp (disch := (first | rfl | with_reducible assumption | with_reducible solve_by_elim (maxDepth := 8) [Shape.inT, Shape.inI, Shape.inC, Shape.inK, Shape.obF, Shape.obT, Shape.arI, Arr.inF] | omega)) only [S2, Nat.reduceEqDiff, Nat.reduceAdd, iput, puts, hlt']
    refine den_appI (m := [(i : Int)]) (H0 := H) (nx0 := nx) hI rfl (by simp) (by simp only [List.length_cons, List.length_nil]; omega) fun v2 H3 n3 hI2 => ?_
    try simp (disch := (first | rfl | with_reducible assumption | with_reducible solve_by_elim (maxDepth := 8) [Shape.inT, Shape.inI, Shape.inC, Shape.inK, Shape.obF, Shape.obT, Shape.arI, Arr.inF] | omega)) only [S2, Nat.reduceEqDiff, Nat.reduceAdd, iput, puts]
    refine ⟨(i + 1, v2), rfl, ⟨hlt, ?_⟩, by simp only; omega⟩
    simp only
    rw [upto_take hlt]
    exact hI2
  · have hlt' : ¬ (i : Int) < n := by omega
    have : i = n := by omega
    subst this
    try simp (disch := (first | rfl | with_reducible assumption | with_reducible solve_by_elim (maxDepth := 8) [Shape.inT, Shape.inI, Shape.inC, Shape.inK, Shape.obF, Shape.obT, Shape.arI, Arr.inF] | omega)) only [S2, Nat.reduceEqDiff, Nat.reduceAdd, iput, puts, hlt']
    rw [List.take_of_length_le (by rw [upto_len]; omega)] at hI
    have lid : labs (lab (l.take 0)) i = upto i := by simp [labs, lab, upto]
    rw [← lid] at hI
    have pl := prM_len (l := l)
    refine den_loop (α := Nat × Hp) (fun a => [int a.1]) (fun a H' nx' => a.1 ≤ l.length ∧ IsI (labs (lab (l.take a.1)) i) H nx v H' nx' ∧ H' = a.2 ∧ nx' = n1) (fun a => l.length - a.1) (0, H1) rfl ⟨Nat.zero_le _, hI, rfl, rfl⟩ ?_
    clear lid hI tl hlt hlt' hi'
    rintro ⟨k, _⟩ H2 n2 ⟨hk, hI, rfl, rfl⟩
    simp only at hk hI
    by_cases hlk : k < l.length
    · have kR : InR (prM l) (k : Int) := InR.nat (by rw [pl]; exact hlk)
      obtain ⟨x, y, hxy⟩ : ∃ x y, l[k] = (x, y) := ⟨_, _, rfl⟩
      have row : gR (prM l) (k : Int) = [(x : Int), (y : Int)] := by show (prM l).getD k [] = _; rw [prM_at hlk, hxy]
      obtain ⟨hx, hy⟩ := hl _ (List.getElem_mem hlk)
      rw [hxy] at hx hy
      simp only at hx hy
      have r0 : In [(x : Int), (y : Int)] 0 := ⟨by omega, by simp⟩
      have r1 : In [(x : Int), (y : Int)] 1 := ⟨by omega, by simp⟩
      have g0 : gI [(x : Int), (y : Int)] 0 = x := rfl
      have g1 : gI [(x : Int), (y : Int)] 1 = y := rfl
      have tk : lab (l.take (k + 1)) = joinL (lab (l.take k)) (x, y) := by rw [List.take_succ_eq_append_getElem hlk, lab_snoc, hxy]
      generalize lab (l.take k) = f at hI tk
      generalize hg : joinL f (x, y) = g at tk
      obtain ⟨hle, ⟨e1, _⟩ | ⟨o, o1, o2, rfl, rfl⟩⟩ := hI
      · have := labs_len (f := f) (n := i); rw [e1] at this; simp at this; omega
      have z0 : hput H o (some (ints (labs f i))) o = some (ints (labs f i)) := hput_eq _ _ _
      have ll : (labs f i).length = i := labs_len
      have fx : pvf (hput H o (some (ints (labs f i)))) (.ld none) [.mp o x i] = some (int (f x : Int)) := by rw [p_ldN z0 ll hx, labs_at hx]
      have fy : pvf (hput H o (some (ints (labs f i)))) (.ld none) [.mp o y i] = some (int (f y : Int)) := by rw [p_ldN z0 ll hy, labs_at hy]
      rw [ll]
      have hlk' : k < (prM l).length := by rw [pl]; exact hlk
      try simp (disch := (first | rfl | with_reducible assumption | with_reducible solve_by_elim (maxDepth := 8) [Shape.inT, Shape.inI, Shape.inC, Shape.inK, Shape.obF, Shape.obT, Shape.arI, Arr.inF] | omega)) only [S2, Nat.reduceEqDiff, Nat.reduceAdd, iput, puts, hlk', row, g0, g1, p_iadN z0 ll hx, fx, p_iadN z0 ll hy, fy]
      refine den_loop (α := Nat) (fun a => [int a]) (fun a H' nx' => a ≤ i ∧ H' = hput H o (some (ints (labs (midF f g a) i))) ∧ nx' = n2) (fun a => i - a) 0 rfl ⟨Nat.zero_le _, by rw [mid_zero], rfl⟩ ?_
      rintro j H3 n3 ⟨hj, rfl, rfl⟩
      have z3 : hput H o (some (ints (labs (midF f g j) i))) o = some (ints (labs (midF f g j) i)) := hput_eq _ _ _
      have ll3 : (labs (midF f g j) i).length = i := labs_len
      have gu : ∀ u, g u = if f u = f y then f x else f u := fun u => by rw [← hg]; rfl
      have fin : ∀ H' : Hp, H' = hput H o (some (ints (labs g i))) → IsI (labs (lab (l.take (k + 1))) i) H nx (.ms o 0 i 1) H' n3 := fun H' e => by
        rw [tk]
        exact ⟨hle, .inr ⟨o, o1, o2, by rw [labs_len], e⟩⟩
      by_cases hlj : j < i
      · have mj : midF f g j j = f j := by unfold midF; rw [if_neg (by omega)]
        have rj : pvf (hput H o (some (ints (labs (midF f g j) i)))) (.ld none) [.mp o j i] = some (int (f j : Int)) := by rw [p_ldN z3 ll3 hlj, labs_at hlj, mj]
        try simp (disch := (first | rfl | with_reducible assumption | with_reducible solve_by_elim (maxDepth := 8) [Shape.inT, Shape.inI, Shape.inC, Shape.inK, Shape.obF, Shape.obT, Shape.arI, Arr.inF] | omega)) only [S2, Nat.reduceEqDiff, Nat.reduceAdd, iput, puts, hlj, p_lenN z3 ll3]
        refine ⟨fun e => ?_, fun e => ?_⟩
        · try simp (disch := (first | rfl | with_reducible assumption | with_reducible solve_by_elim (maxDepth := 8) [Shape.inT, Shape.inI, Shape.inC, Shape.inK, Shape.obF, Shape.obT, Shape.arI, Arr.inF] | omega)) only [S2, Nat.reduceEqDiff, Nat.reduceAdd, iput, puts, p_iadN z3 ll3 hlj, rj]
          refine ⟨fun e2 => ?_, fun e2 => ?_⟩
          · have e2' : f j = f y := by omega
            try simp (disch := (first | rfl | with_reducible assumption | with_reducible solve_by_elim (maxDepth := 8) [Shape.inT, Shape.inI, Shape.inC, Shape.inK, Shape.obF, Shape.obT, Shape.arI, Arr.inF] | omega)) only [S2, Nat.reduceEqDiff, Nat.reduceAdd, iput, puts, p_iadN z3 ll3 hlj]
            refine den_st1G (o := o) (p := j) (m := i) (u := int (f x : Int)) rfl rfl z3 (by rw [ints_length]; exact ll3) hlj rfl fun H4 z4 e4 => ?_
            rw [ints_set] at z4
            have gj : g j = f x := by rw [gu, if_pos e2']
            rw [← gj, mid_set hlj] at z4
            try simp (disch := (first | rfl | with_reducible assumption | with_reducible solve_by_elim (maxDepth := 8) [Shape.inT, Shape.inI, Shape.inC, Shape.inK, Shape.obF, Shape.obT, Shape.arI, Arr.inF] | omega)) only [S2, Nat.reduceEqDiff, Nat.reduceAdd, iput, puts]
            refine ⟨j + 1, rfl, ⟨by omega, ?_⟩, by omega⟩
            funext q
            by_cases eq : q = o
            · subst eq; rw [z4, hput_eq]
            · rw [e4 q eq, hput_ne _ _ _ _ eq, hput_ne _ _ _ _ eq]
          · have e2' : ¬ f j = f y := by omega
            have gj : g j = f j := by rw [gu, if_neg e2']
            try simp (disch := (first | rfl | with_reducible assumption | with_reducible solve_by_elim (maxDepth := 8) [Shape.inT, Shape.inI, Shape.inC, Shape.inK, Shape.obF, Shape.obT, Shape.arI, Arr.inF] | omega)) only [S2, Nat.reduceEqDiff, Nat.reduceAdd, iput, puts]
            exact ⟨j + 1, rfl, ⟨by omega, by rw [mid_same gj]⟩, by omega⟩
        · have e' : f x = f y := by omega
          have same : ∀ u, g u = f u := fun u => by
            rw [gu]; split
            · rename_i q; rw [q, e']
            · rfl
          try simp (disch := (first | rfl | with_reducible assumption | with_reducible solve_by_elim (maxDepth := 8) [Shape.inT, Shape.inI, Shape.inC, Shape.inK, Shape.obF, Shape.obT, Shape.arI, Arr.inF] | omega)) only [S2, Nat.reduceEqDiff, Nat.reduceAdd, iput, puts]
          exact ⟨(k + 1, hput H o (some (ints (labs (midF f g j) i)))), rfl, ⟨by simp only; omega, fin _ (by rw [mid_all same]), rfl⟩, by simp only; omega⟩
      · have : j = i := by omega
        subst this
        try simp (disch := (first | rfl | with_reducible assumption | with_reducible solve_by_elim (maxDepth := 8) [Shape.inT, Shape.inI, Shape.inC, Shape.inK, Shape.obF, Shape.obT, Shape.arI, Arr.inF] | omega)) only [S2, Nat.reduceEqDiff, Nat.reduceAdd, iput, puts, hlj, p_lenN z3 ll3]
        exact ⟨(k + 1, hput H o (some (ints (labs (midF f g j) j)))), rfl, ⟨by simp only; omega, fin _ (by rw [mid_end]), rfl⟩, by simp only; omega⟩
    · have hlk' : ¬ k < (prM l).length := by rw [pl]; exact hlk
      try simp (disch := (first | rfl | with_reducible assumption | with_reducible solve_by_elim (maxDepth := 8) [Shape.inT, Shape.inI, Shape.inC, Shape.inK, Shape.obF, Shape.obT, Shape.arI, Arr.inF] | omega)) only [S2, Nat.reduceEqDiff, Nat.reduceAdd, iput, puts, hlk']
      have : k = l.length := by omega
      subst this
      rw [List.take_length] at hI
      have fz : frz H2 fuel v = some (islice (labs (lab l) i)) := frzN_frz _ _ _ (hI.frz 5)
      refine den_callo (fc := (393, [])) (ys := [islice (labs (lab l) i)]) rfl (by simp only [SS, Nat.reduceEqDiff, Nat.reduceAdd, iput, puts, frzL, List.mapM_cons, List.mapM_nil, List.append_nil, fz]; rfl) (l01Classes_ok hi hcl (lab l) i hn hempty n2) (IsI.some _ _ _) fun u H' nx' hu => ?_
      obtain ⟨q1, q2, _, _⟩ := hu.own H2
      obtain ⟨H4, s4, i4⟩ := hu.back (H1 := H2) hwf hI.1 fun j hj => hI.old hj
      exact ⟨q1, q2, _, rfl, H4, s4, i4⟩

/-- What the reference's joining calls. -/
structure HLab (P : Program) (ν : Nat → FuncId) : Prop where
  index : Has P ν 376 2 V_spec_l01Index
  classes : Has P ν 393 1 V_spec_l01Classes
  join : Has P ν 291 2 V_spec_l01Join
theorem ends_at {c : Cat} {i : Nat} (h : i < c.f.length) : (ends c)[i]? = some ((c.F i).toNat, (c.T i).toNat) := by simp [ends, h]
theorem prM_append (l m : List (Nat × Nat)) : prM (l ++ m) = prM l ++ prM m := by simp [prM]
theorem ends_lt {c : Cat} (s : Shape c) : ∀ p ∈ ends c, p.1 < c.o.toNat ∧ p.2 < c.o.toNat := fun p hp => by
  obtain ⟨i, hi, rfl⟩ := List.mem_map.1 hp
  have hi := List.mem_range.1 hi
  have a : Arr c i := ⟨by omega, by omega⟩
  obtain ⟨f0, f1⟩ := s.obF a
  obtain ⟨t0, t1⟩ := s.obT a
  exact ⟨by simp only; omega, by simp only; omega⟩
def V_ConnectedObjects : Vc :=
  .op true (.p .box [.t 0]) <|
  .op true (.call (.f 24) [.t 1]) <|
  .op true (.p .bnot [.t 2]) <|
  .br 3
   (.ret [(.c (.nil), none), (.c (int 1), none)])
   (.op true (.callm (.f 292) [.t 1]) <|
   .ret [(.t 4, none), (.c (int 0), none)])
def V_spec_ConnectedObjects : Vc :=
  .op true (.p .box [.t 0]) <|
  .op true (.p (.ld (some 5)) [.t 1]) <|
  .op true (.call (.f 22) [.t 2]) <|
  .op true (.p .bnot [.t 3]) <|
  .br 4
   (.ret [(.c (.nil), none), (.c (int 1), none)])
   (.op true (.p (.msl 0 [] []) []) <|
   .loop 0 [.t 5, .c (int 0)] <|
   .op true (.p (.fad 1) [.t 1]) <|
   .op true (.p (.ld none) [.t 8]) <|
   .op true (.p .len [.t 9]) <|
   .op true (.p (.bin .lss) [.t 7, .t 10]) <|
   .br 11
    (.op true (.p (.fad 1) [.t 1]) <|
    .op true (.p (.ld none) [.t 12]) <|
    .op true (.p (.iad 1) [.t 13, .t 7]) <|
    .op true (.p (.ld none) [.t 14]) <|
    .op true (.p (.fad 2) [.t 1]) <|
    .op true (.p (.ld none) [.t 16]) <|
    .op true (.p (.iad 1) [.t 17, .t 7]) <|
    .op true (.p (.ld none) [.t 18]) <|
    .op true (.p (.msl 2 [int 0, int 0] [(0, 1), (1, 1)]) [.t 15, .t 19]) <|
    .op true (.p (.msl 1 [.nil] [(0, 1)]) [.t 20]) <|
    .op true (.app 1 (.t 6) (.t 21)) <|
    .op true (.p (.bin .add) [.t 7, .c (int 1)]) <|
    .again 0 [.t 22, .t 23])
    (.op true (.p (.fad 0) [.t 1]) <|
    .op true (.p (.ld none) [.t 12]) <|
    .op true (.callo (.f 291) [.t 13, .t 6]) <|
    .ret [(.t 14, none), (.c (int 0), none)]))
set_option maxHeartbeats 1000000 in
theorem ConnectedObjects_both (K : HCat P ν) (J : HJoin P ν) (hco : Has P ν 292 1 V_Category_connected) (h : Has P ν 154 1 V_ConnectedObjects) (KS : HSpec P ν) (L : HLab P ν) (hs : Has P ν 153 1 V_spec_ConnectedObjects) (c : Cat) (b : Small c) :
    BothP P ν 154 153 [.agg c.cells] := by
  by_cases hc : IsCat c
  · have s := hc.1
    have n40 := s.n40
    have tl := s.tl
    have o0 := s.o0
    have o8 := s.o8
    refine ⟨nrm (lab (ends c)) c.o.toNat, 0, by rw [nrm_len]; omega, fun H nx => h _ _ _ _ rfl fun hwf => ?_, fun H nx => hs _ _ _ _ rfl fun hwf => ?_⟩
    · unfold V_ConnectedObjects
      repeat (first | simp (disch := (first | rfl | with_reducible assumption | with_reducible solve_by_elim (maxDepth := 8) [Shape.inT, Shape.inI, Shape.inC, Shape.inK, Shape.obF, Shape.obT, Shape.arI, Arr.inF] | omega)) only [S2, Nat.reduceEqDiff, Nat.reduceAdd, iput, puts, hc] | (refine den_call rfl (by first | (simp only [SS, Nat.reduceEqDiff, Nat.reduceAdd, iput, puts, FF, frzL_cat]; done) | (simp only [SS, Nat.reduceEqDiff, Nat.reduceAdd, iput, puts, FF, frzL_cat]; rfl)) (by first | exact (isCategory_ok K c b).fzb) ?_) | (refine den_calli rfl (by first | (simp only [SS, Nat.reduceEqDiff, Nat.reduceAdd, iput, puts, FF, frzL_cat]; done) | (simp only [SS, Nat.reduceEqDiff, Nat.reduceAdd, iput, puts, FF, frzL_cat]; rfl)) (by first | exact (isCategory_ok K c b).fzb) ?_))
      refine den_callm (fc := (292, [])) rfl (connected_ok J hco c s H nx) (IsI.some _ _ _) fun u H' nx' hu => ?_
      exact ⟨_, rfl, H', fun _ _ h => h, u, rfl, hu⟩
    · unfold V_spec_ConnectedObjects
      repeat (first | simp (disch := (first | rfl | with_reducible assumption | with_reducible solve_by_elim (maxDepth := 8) [Shape.inT, Shape.inI, Shape.inC, Shape.inK, Shape.obF, Shape.obT, Shape.arI, Arr.inF] | omega)) only [S2, Nat.reduceEqDiff, Nat.reduceAdd, iput, puts, hc] | (refine den_call rfl (by first | (simp only [SS, Nat.reduceEqDiff, Nat.reduceAdd, iput, puts, FF, frzL_cat]; done) | (simp only [SS, Nat.reduceEqDiff, Nat.reduceAdd, iput, puts, FF, frzL_cat]; rfl)) (by first | exact (l02Is_ok KS c b).fzb) ?_) | (refine den_calli rfl (by first | (simp only [SS, Nat.reduceEqDiff, Nat.reduceAdd, iput, puts, FF, frzL_cat]; done) | (simp only [SS, Nat.reduceEqDiff, Nat.reduceAdd, iput, puts, FF, frzL_cat]; rfl)) (by first | exact (l02Is_ok KS c b).fzb) ?_))
      refine den_loop (α := Nat × AV) (fun a => [a.2, int a.1]) (fun a H' nx' => a.1 ≤ c.f.length ∧ IsC (rows (prM ((ends c).take a.1))) (prM ((ends c).take a.1)).length 1 H nx a.2 H' nx') (fun a => c.f.length - a.1) (0, .nil) rfl ⟨Nat.zero_le _, IsC.nil⟩ ?_
      rintro ⟨i, v⟩ H1 n1 ⟨hi, hI⟩
      simp only at hi hI
      have pl : (prM ((ends c).take i)).length ≤ i := by rw [prM_len]; simp; omega
      by_cases hlt : i < c.f.length
      · have i1 : In c.f (i : Int) := In.nat hlt
        have i2 : In c.t (i : Int) := In.nat (by omega)
        have a : Arr c i := ⟨by omega, by omega⟩
        obtain ⟨f0, f1⟩ := s.obF a
        obtain ⟨t0, t1⟩ := s.obT a
        have ex : gI c.f (i : Int) = ((c.F i).toNat : Int) := by show c.F i = _; omega
        have ey : gI c.t (i : Int) = ((c.T i).toNat : Int) := by show c.T i = _; omega
        try simp (disch := (first | rfl | with_reducible assumption | with_reducible solve_by_elim (maxDepth := 8) [Shape.inT, Shape.inI, Shape.inC, Shape.inK, Shape.obF, Shape.obT, Shape.arI, Arr.inF] | omega)) only [S2, Nat.reduceEqDiff, Nat.reduceAdd, iput, puts, hlt, ex, ey, p_msl2, p_msl1R]
        refine den_appC (m := 1) hI rfl (by simp) rfl rfl (by omega) fun v3 H4 n4 hI2 => ?_
        try simp (disch := (first | rfl | with_reducible assumption | with_reducible solve_by_elim (maxDepth := 8) [Shape.inT, Shape.inI, Shape.inC, Shape.inK, Shape.obF, Shape.obT, Shape.arI, Arr.inF] | omega)) only [S2, Nat.reduceEqDiff, Nat.reduceAdd, iput, puts]
        refine ⟨(i + 1, v3), rfl, ⟨hlt, ?_⟩, by simp only; omega⟩
        simp only
        rw [ends_take hlt, prM_append, rows_append, List.length_append]
        exact hI2
      · try simp (disch := (first | rfl | with_reducible assumption | with_reducible solve_by_elim (maxDepth := 8) [Shape.inT, Shape.inI, Shape.inC, Shape.inK, Shape.obF, Shape.obT, Shape.arI, Arr.inF] | omega)) only [S2, Nat.reduceEqDiff, Nat.reduceAdd, iput, puts, hlt]
        have : i = (ends c).length := by rw [ends_len]; omega
        subst this
        rw [List.take_length] at hI
        refine den_callo (fc := (291, [])) (ys := [int c.o, .sl (rows (prM (ends c))) (prM (ends c)).length]) rfl (by simp only [SS, Nat.reduceEqDiff, Nat.reduceAdd, iput, puts, frzL, List.mapM_cons, List.mapM_nil, List.append_nil, hI.rows]; rfl) (l01Join_ok L.index L.classes L.join c.o.toNat (by omega) (ends c) (ends_lt s) (by rw [ends_len]; omega) c.o (by omega) hempty n1) (IsI.some _ _ _) fun u H' nx' hu => ?_
        obtain ⟨q1, q2, _, _⟩ := hu.own H1
        obtain ⟨H4, s4, i4⟩ := hu.back (H1 := H1) hwf hI.1 fun j hj => hI.old hj
        exact ⟨q1, q2, _, rfl, H4, s4, u, rfl, i4⟩
  · refine ⟨[], 1, by simp, fun H nx => h _ _ _ _ rfl fun hwf => ?_, fun H nx => hs _ _ _ _ rfl fun hwf => ?_⟩
    · unfold V_ConnectedObjects
      repeat (first | simp (disch := (first | rfl | with_reducible assumption | with_reducible solve_by_elim (maxDepth := 8) [Shape.inT, Shape.inI, Shape.inC, Shape.inK, Shape.obF, Shape.obT, Shape.arI, Arr.inF] | omega)) only [S2, Nat.reduceEqDiff, Nat.reduceAdd, iput, puts, hc] | (refine den_call rfl (by first | (simp only [SS, Nat.reduceEqDiff, Nat.reduceAdd, iput, puts, FF, frzL_cat]; done) | (simp only [SS, Nat.reduceEqDiff, Nat.reduceAdd, iput, puts, FF, frzL_cat]; rfl)) (by first | exact (isCategory_ok K c b).fzb) ?_) | (refine den_calli rfl (by first | (simp only [SS, Nat.reduceEqDiff, Nat.reduceAdd, iput, puts, FF, frzL_cat]; done) | (simp only [SS, Nat.reduceEqDiff, Nat.reduceAdd, iput, puts, FF, frzL_cat]; rfl)) (by first | exact (isCategory_ok K c b).fzb) ?_))
      exact ⟨_, rfl, H, fun _ _ h => h, .nil, rfl, IsI.nil _ _⟩
    · unfold V_spec_ConnectedObjects
      repeat (first | simp (disch := (first | rfl | with_reducible assumption | with_reducible solve_by_elim (maxDepth := 8) [Shape.inT, Shape.inI, Shape.inC, Shape.inK, Shape.obF, Shape.obT, Shape.arI, Arr.inF] | omega)) only [S2, Nat.reduceEqDiff, Nat.reduceAdd, iput, puts, hc] | (refine den_call rfl (by first | (simp only [SS, Nat.reduceEqDiff, Nat.reduceAdd, iput, puts, FF, frzL_cat]; done) | (simp only [SS, Nat.reduceEqDiff, Nat.reduceAdd, iput, puts, FF, frzL_cat]; rfl)) (by first | exact (l02Is_ok KS c b).fzb) ?_) | (refine den_calli rfl (by first | (simp only [SS, Nat.reduceEqDiff, Nat.reduceAdd, iput, puts, FF, frzL_cat]; done) | (simp only [SS, Nat.reduceEqDiff, Nat.reduceAdd, iput, puts, FF, frzL_cat]; rfl)) (by first | exact (l02Is_ok KS c b).fzb) ?_))
      exact ⟨_, rfl, H, fun _ _ h => h, .nil, rfl, IsI.nil _ _⟩
end Go.Av
