/-
  Kinds of arrows: both sides.
-/
import Derived.Test.YtmjafiohiippoaaAvI1
import Derived.Test.YtmjafiohiippoaaAvD3
namespace Go.Av
open Classical
set_option linter.unusedSimpArgs false
set_option linter.unusedVariables false
variable {P : Program} {ν : Nat → FuncId}

def bit (b : Bool) (n : Int) : Int := if b then n else 0
noncomputable def kB (c : Cat) (f : Int) : List Bool := [decide (Mono c f), decide (Epi c f), decide (0 < (retL c f).length), decide (0 < (secL c f).length), decide (0 ≤ inv c f)]
noncomputable def kindOf (c : Cat) (f : Int) : Int := bit (decide (Mono c f)) 1 + bit (decide (Epi c f)) 2 + bit (decide (0 < (retL c f).length)) 4 + bit (decide (0 < (secL c f).length)) 8 + bit (decide (0 ≤ inv c f)) 16
noncomputable def kindL (c : Cat) (n : Nat) : List Int := (List.range n).map fun (i : Nat) => kindOf c i
theorem kindL_len {c : Cat} {n : Nat} : (kindL c n).length = n := by simp [kindL]
theorem kindL_at {c : Cat} {n i : Nat} (h : i < n) : (kindL c n).getD i 0 = kindOf c i := by simp [kindL, List.getD, h]
theorem kindL_succ {c : Cat} {n : Nat} : kindL c (n + 1) = kindL c n ++ [kindOf c n] := by unfold kindL; rw [List.range_succ, List.map_append]; rfl
def accB (bs : List Bool) : Nat → Int
  | 0 => 0
  | k + 1 => accB bs k + bit (bs.getD k false) (2 ^ k)
theorem acc_five (c : Cat) (f : Int) : accB (kB c f) 5 = kindOf c f := by
  unfold kindOf
  simp [accB, kB]
theorem bit_range {b : Bool} {n : Int} (h : 0 ≤ n) : 0 ≤ bit b n ∧ bit b n ≤ n := by unfold bit; split <;> omega
theorem acc_range (bs : List Bool) : ∀ k, k ≤ 5 → 0 ≤ accB bs k ∧ accB bs k ≤ 2 ^ k := by
  intro k
  induction k with
  | zero => intro _; simp [accB]
  | succ k ih =>
    intro h
    have := ih (by omega)
    have b := bit_range (b := bs.getD k false) (n := 2 ^ k) (Int.pow_nonneg (by decide))
    rw [accB, Int.pow_succ]
    omega
theorem p_idx5 {H : Hp} {b0 b1 b2 b3 b4 : Bool} {k : Nat} (h : k < 5) : pvf H (.idx 5 1 none) [.agg [bool b0, bool b1, bool b2, bool b3, bool b4], int (k : Int)] = some (bool ([b0, b1, b2, b3, b4].getD k false)) := by
  match k, h with
  | 0, _ => rfl
  | 1, _ => rfl
  | 2, _ => rfl
  | 3, _ => rfl
  | 4, _ => rfl
theorem p_shl1 {H : Hp} {k : Nat} (h : k < 5) : pvf H (.bin .shl) [int 1, int (k : Int)] = some (int (2 ^ k)) := by
  match k, h with
  | 0, _ => rfl
  | 1, _ => rfl
  | 2, _ => rfl
  | 3, _ => rfl
  | 4, _ => rfl
theorem p_mkaB {H : Hp} {b0 b1 b2 b3 b4 : Bool} : pvf H (.mka [bool false, bool false, bool false, bool false, bool false] [(0, 1), (1, 1), (2, 1), (3, 1), (4, 1)]) [bool b0, bool b1, bool b2, bool b3, bool b4] = some (.agg [bool b0, bool b1, bool b2, bool b3, bool b4]) := rfl
theorem Shape.retFz {c : Cat} (s : Shape c) (hh : Has P ν 33 3 V_Category_hom) (ht : Has P ν 34 3 V_Category_then) (he : Has P ν 236 3 V_Category_extensions) (h : Has P ν 238 2 V_Category_retractions) {f : Int} (a : Arr c f) : Fz (OkM P ν) 238 [.ptr c.cells 0, int f] (islice (retL c f)) := OkM.fz (fun H nx => retractions_ok hh ht he h c s f a.1 a.2 H nx) fun _ _ _ hh => hh.frz _
theorem Shape.secFz {c : Cat} (s : Shape c) (hh : Has P ν 33 3 V_Category_hom) (ht : Has P ν 34 3 V_Category_then) (hl : Has P ν 27 3 V_Category_lifts) (h : Has P ν 19 2 V_Category_sections) {f : Int} (a : Arr c f) : Fz (OkM P ν) 19 [.ptr c.cells 0, int f] (islice (secL c f)) := OkM.fz (fun H nx => sections_ok hh ht hl h c s f a.1 a.2 H nx) fun _ _ _ hh => hh.frz _
theorem Shape.sRetFz {c : Cat} (s : Shape c) (h : Has P ν 237 2 V_spec_l05Retractions) {f : Int} (a : Arr c f) : Fz (OkM P ν) 237 [.agg c.cells, int f] (islice (retL c f)) := OkM.fz (fun H nx => l05Retractions_ok h c s f a.1 a.2 H nx) fun _ _ _ hh => hh.frz _
theorem Shape.sSecFz {c : Cat} (s : Shape c) (h : Has P ν 15 2 V_spec_l05Sections) {f : Int} (a : Arr c f) : Fz (OkM P ν) 15 [.agg c.cells, int f] (islice (secL c f)) := OkM.fz (fun H nx => l05Sections_ok h c s f a.1 a.2 H nx) fun _ _ _ hh => hh.frz _
theorem retL_le {c : Cat} {f : Int} (s : Shape c) : (retL c f).length ≤ 40 := Nat.le_trans (List.length_filter_le _ _) (homL_len s _ _)
theorem secL_le {c : Cat} {f : Int} (s : Shape c) : (secL c f).length ≤ 40 := Nat.le_trans (List.length_filter_le _ _) (homL_len s _ _)
/-- What the program's kinds call. -/
structure HKinds (P : Program) (ν : Nat → FuncId) : Prop where
  hom : Has P ν 33 3 V_Category_hom
  lifts : Has P ν 27 3 V_Category_lifts
  ext : Has P ν 236 3 V_Category_extensions
  ret : Has P ν 238 2 V_Category_retractions
  sec : Has P ν 19 2 V_Category_sections
  inv : Has P ν 240 2 V_Category_inverse
/-- What the reference's kinds call. -/
structure HKindsS (P : Program) (ν : Nat → FuncId) : Prop where
  mono : Has P ν 287 2 V_spec_l05Mono
  epi : Has P ν 288 2 V_spec_l05Epi
  ret : Has P ν 237 2 V_spec_l05Retractions
  sec : Has P ν 15 2 V_spec_l05Sections
  has : Has P ν 262 2 V_spec_l01Has
  inv : Has P ν 239 2 V_spec_l05Inverse
def V_ArrowKinds : Vc :=
  .op true (.p .box [.t 0]) <|
  .op true (.call (.f 24) [.t 1]) <|
  .op true (.p .bnot [.t 2]) <|
  .br 3
   (.ret [(.c (.nil), none), (.c (int 1), none)])
   (.op true (.call (.f 26) [.t 1]) <|
   .op true (.mks [int 0] (.t 4) (.t 4)) <|
   .op true (.p .len [.t 5]) <|
   .loop 0 [.c (int 0)] <|
   .op true (.p (.bin .lss) [.t 7, .t 6]) <|
   .br 8
    (.op true (.call (.f 289) [.t 1, .t 7]) <|
    .op true (.call (.f 290) [.t 1, .t 7]) <|
    .op true (.call (.f 238) [.t 1, .t 7]) <|
    .op true (.p .len [.t 11]) <|
    .op true (.p (.bin .gtr) [.t 12, .c (int 0)]) <|
    .op true (.call (.f 19) [.t 1, .t 7]) <|
    .op true (.p .len [.t 14]) <|
    .op true (.p (.bin .gtr) [.t 15, .c (int 0)]) <|
    .op true (.call (.f 240) [.t 1, .t 7]) <|
    .op true (.p (.bin .geq) [.t 17, .c (int 0)]) <|
    .op true (.p (.mka [bool false, bool false, bool false, bool false, bool false] [(0, 1), (1, 1), (2, 1), (3, 1), (4, 1)]) [.t 9, .t 10, .t 13, .t 16, .t 18]) <|
    .op true (.new [bool false, bool false, bool false, bool false, bool false]) <|
    .op true (.st 5 (.t 20) (.t 19)) <|
    .op true (.p (.ld (some 5)) [.t 20]) <|
    .loop 1 [.c (int 0)] <|
    .op true (.p (.bin .lss) [.t 23, .c (int 5)]) <|
    .br 24
     (.op true (.p (.idx 5 1 none) [.t 22, .t 23]) <|
     .br 25
      (.op true (.p (.iad 1) [.t 5, .t 7]) <|
      .op true (.p (.ld none) [.t 26]) <|
      .op true (.p (.bin .shl) [.c (int 1), .t 23]) <|
      .op true (.p (.bin .add) [.t 27, .t 28]) <|
      .op true (.p (.iad 1) [.t 5, .t 7]) <|
      .op true (.st 1 (.t 30) (.t 29)) <|
      .op true (.p (.bin .add) [.t 23, .c (int 1)]) <|
      .again 1 [.t 32])
      (.op true (.p (.bin .add) [.t 23, .c (int 1)]) <|
      .again 1 [.t 26]))
     (.op true (.p (.bin .add) [.t 7, .c (int 1)]) <|
     .again 0 [.t 25]))
    (.ret [(.t 5, none), (.c (int 0), none)]))
set_option maxHeartbeats 2000000 in
theorem ArrowKinds_ok (K : HCat P ν) (M : HMono P ν) (Q : HKinds P ν) (h : Has P ν 205 1 V_ArrowKinds) (c : Cat) (b : Small c) (hc : IsCat c) (H : Hp) (nx : Nat) : OkM P ν 205 [.agg c.cells] H nx (IsP (kindL c c.f.length) 0 H nx) := by
  refine h _ _ _ _ rfl fun hwf => ?_
  unfold V_ArrowKinds
  have s := hc.1
  have n40 := s.n40
  have tl := s.tl
  repeat (first | simp (disch := (first | rfl | with_reducible assumption | with_reducible solve_by_elim (maxDepth := 8) [Shape.inT, Shape.inI, Shape.inC, Shape.inK, Shape.obF, Shape.obT, Shape.arI, Arr.inF] | omega)) only [S2, Nat.reduceEqDiff, Nat.reduceAdd, iput, puts, hc] | (refine den_call rfl (by first | (simp only [SS, Nat.reduceEqDiff, Nat.reduceAdd, iput, puts, FF, frzL_cat]; done) | (simp only [SS, Nat.reduceEqDiff, Nat.reduceAdd, iput, puts, FF, frzL_cat]; rfl)) (by first | exact (isCategory_ok K c b).fzb | exact (arrows_ok K.arrows c).fzi) ?_) | (refine den_calli rfl (by first | (simp only [SS, Nat.reduceEqDiff, Nat.reduceAdd, iput, puts, FF, frzL_cat]; done) | (simp only [SS, Nat.reduceEqDiff, Nat.reduceAdd, iput, puts, FF, frzL_cat]; rfl)) (by first | exact (isCategory_ok K c b).fzb | exact (arrows_ok K.arrows c).fzi) ?_))
  refine den_mksG (m := c.f.length) (z := int 0) rfl rfl (by omega) fun H1 z1 e1 => ?_
  rw [rep_int] at z1
  have zl : (List.replicate c.f.length (0 : Int)).length = c.f.length := List.length_replicate
  try simp (disch := (first | rfl | with_reducible assumption | with_reducible solve_by_elim (maxDepth := 8) [Shape.inT, Shape.inI, Shape.inC, Shape.inK, Shape.obF, Shape.obT, Shape.arI, Arr.inF] | omega)) only [S2, Nat.reduceEqDiff, Nat.reduceAdd, iput, puts, p_lenN z1 zl]
  refine den_loop (α := Nat) (fun a => [int a]) (fun a H' nx' => a ≤ c.f.length ∧ nx < nx' ∧ H' nx = some (ints ((kindL c c.f.length).take a ++ List.replicate ((kindL c c.f.length).length - a) 0)) ∧ ∀ j, j < nx → H' j = H j) (fun a => c.f.length - a) 0 rfl ⟨Nat.zero_le _, by omega, by rw [kindL_len]; simpa using z1, fun j hj => e1 j (by omega)⟩ ?_
  clear z1 e1
  rintro i H2 n2 ⟨hi, hn2, z2, low⟩
  have ll : ((kindL c c.f.length).take i ++ List.replicate ((kindL c c.f.length).length - i) 0).length = c.f.length := by simp [kindL_len]; omega
  by_cases hlt : i < c.f.length
  · have a : Arr c i := ⟨by omega, by omega⟩
    have rl := retL_le (f := (i : Int)) s
    have sl := secL_le (f := (i : Int)) s
    have m1 := s.isMono_fz Q.hom K.thn M (i : Int) a.1 a.2
    have m2 := s.isEpi_fz Q.hom K.thn M (i : Int) a.1 a.2
    have m3 := s.retFz Q.hom K.thn Q.ext Q.ret a
    have m4 := s.secFz Q.hom K.thn Q.lifts Q.sec a
    have m5 := s.invFz Q.hom K.thn Q.inv a
    have kb : kB c i = [decide (Mono c i), decide (Epi c i), decide (0 < (retL c i).length), decide (0 < (secL c i).length), decide (0 ≤ inv c i)] := rfl
    have d3 : decide (((retL c i).length : Int) > 0) = decide (0 < (retL c i).length) := by rw [Bool.eq_iff_iff]; simp
    have d4 : decide (((secL c i).length : Int) > 0) = decide (0 < (secL c i).length) := by rw [Bool.eq_iff_iff]; simp
    obtain ⟨b4, hb4⟩ : ∃ b, b = decide (0 ≤ inv c i) := ⟨_, rfl⟩
    have d5 : decide (inv c i ≥ 0) = b4 := hb4.symm
    rw [← hb4] at kb
    have fill := fill_succ (l := kindL c c.f.length) (i := i) (by rw [kindL_len]; exact hlt)
    rw [kindL_at hlt, ← acc_five] at fill
    generalize decide (Mono c i) = b0 at m1 kb
    generalize decide (Epi c i) = b1 at m2 kb
    generalize decide (0 < (retL c i).length) = b2 at d3 kb
    generalize decide (0 < (secL c i).length) = b3 at d4 kb
    generalize hks : kB c i = ks at kb fill
    subst kb
    repeat (first | simp (disch := (first | rfl | with_reducible assumption | with_reducible solve_by_elim (maxDepth := 8) [Shape.inT, Shape.inI, Shape.inC, Shape.inK, Shape.obF, Shape.obT, Shape.arI, Arr.inF] | omega)) only [S2, Nat.reduceEqDiff, Nat.reduceAdd, iput, puts, hlt] | (refine den_call rfl (by first | (simp only [SS, Nat.reduceEqDiff, Nat.reduceAdd, iput, puts, FF, frzL_cat]; done) | (simp only [SS, Nat.reduceEqDiff, Nat.reduceAdd, iput, puts, FF, frzL_cat]; rfl)) (by first | exact m1 | exact m2 | exact m3 | exact m4 | exact m5) ?_) | (refine den_calli rfl (by first | (simp only [SS, Nat.reduceEqDiff, Nat.reduceAdd, iput, puts, FF, frzL_cat]; done) | (simp only [SS, Nat.reduceEqDiff, Nat.reduceAdd, iput, puts, FF, frzL_cat]; rfl)) (by first | exact m1 | exact m2 | exact m3 | exact m4 | exact m5) ?_))
    rw [d3, d4, d5]
    refine den_newG fun H3 z3 e3 => ?_
    refine den_stG (o := n2) (p := 0) (k := 5) (m := 5) (c' := [bool b0, bool b1, bool b2, bool b3, bool b4]) (by rfl) (by rfl) z3 (by rfl) (by rfl) (show 0 + 5 ≤ 5 by omega) (by rfl) (by rfl) fun H4 z4 e4 => ?_
    have z5 : H4 nx = some (ints ((kindL c c.f.length).take i ++ List.replicate ((kindL c c.f.length).length - i) 0)) := by rw [e4 nx (by omega), e3 nx (by omega)]; exact z2
    generalize hA : (kindL c c.f.length).take i ++ List.replicate ((kindL c c.f.length).length - i) 0 = A at z5 ll fill
    have Ai : A.set i 0 = A := by
      refine list_eq_of (by rw [List.length_set]) fun k hk => ?_
      rw [List.length_set] at hk
      rw [getD_set]
      split
      · rename_i q
        obtain ⟨rfl, _⟩ := q
        rw [← hA]
        have l1 : ((kindL c c.f.length).take i).length = i := by simp [kindL_len]; omega
        simp [List.getD, List.getElem?_append_right, l1, kindL_len, show 0 < c.f.length - i by omega]
      · rfl
    try simp (disch := (first | rfl | with_reducible assumption | with_reducible solve_by_elim (maxDepth := 8) [Shape.inT, Shape.inI, Shape.inC, Shape.inK, Shape.obF, Shape.obT, Shape.arI, Arr.inF] | omega)) only [S2, Nat.reduceEqDiff, Nat.reduceAdd, iput, puts, p_ldsm (l := 5) z4 rfl]
    refine den_loop (α := Nat) (fun a => [int a]) (fun a H' nx' => a ≤ 5 ∧ nx' = n2 + 1 ∧ H' nx = some (ints (A.set i (accB [b0, b1, b2, b3, b4] a))) ∧ ∀ j, j < nx → H' j = H j) (fun a => 5 - a) 0 rfl ⟨Nat.zero_le _, rfl, by rw [z5]; show _ = some (ints (A.set i 0)); rw [Ai], fun j hj => by rw [e4 j (by omega), e3 j (by omega)]; exact low j hj⟩ ?_
    clear z5 z4 z3 e4 e3
    rintro k H5 n5 ⟨hk, rfl, z6, low6⟩
    have ll2 : (A.set i (accB [b0, b1, b2, b3, b4] k)).length = c.f.length := by rw [List.length_set]; exact ll
    by_cases hk5 : k < 5
    · have hk' : (k : Int) < 5 := by omega
      try simp (disch := (first | rfl | with_reducible assumption | with_reducible solve_by_elim (maxDepth := 8) [Shape.inT, Shape.inI, Shape.inC, Shape.inK, Shape.obF, Shape.obT, Shape.arI, Arr.inF] | omega)) only [S2, Nat.reduceEqDiff, Nat.reduceAdd, iput, puts, hk', p_idx5 hk5]
      have acc := acc_range [b0, b1, b2, b3, b4] k (by omega)
      have pw : (2 : Int) ^ k ≤ 16 := by
        match k, hk5 with
        | 0, _ => decide
        | 1, _ => decide
        | 2, _ => decide
        | 3, _ => decide
        | 4, _ => decide
      have pw0 : (0 : Int) ≤ 2 ^ k := Int.pow_nonneg (by decide)
      refine ⟨fun e => ?_, fun e => ?_⟩
      · have gA : (A.set i (accB [b0, b1, b2, b3, b4] k)).getD i 0 = accB [b0, b1, b2, b3, b4] k := by rw [getD_set, if_pos ⟨rfl, by omega⟩]
        have r1 : pvf H5 (.ld none) [.mp nx i c.f.length] = some (int (accB [b0, b1, b2, b3, b4] k)) := by rw [p_ldN z6 ll2 hlt, gA]
        have wr : IntKind.i64.wrap (accB [b0, b1, b2, b3, b4] k + 2 ^ k) = accB [b0, b1, b2, b3, b4] k + 2 ^ k := wrap_id (by omega) (by omega)
        try simp (disch := (first | rfl | with_reducible assumption | with_reducible solve_by_elim (maxDepth := 8) [Shape.inT, Shape.inI, Shape.inC, Shape.inK, Shape.obF, Shape.obT, Shape.arI, Arr.inF] | omega)) only [S2, Nat.reduceEqDiff, Nat.reduceAdd, iput, puts, p_iadN z6 ll2 hlt, r1, p_shl1 hk5, wr]
        refine den_st1G (o := nx) (p := i) (m := c.f.length) (u := int (accB [b0, b1, b2, b3, b4] k + 2 ^ k)) rfl rfl z6 (by rw [ints_length]; exact ll2) hlt rfl fun H6 z7 e7 => ?_
        rw [ints_set, List.set_set] at z7
        try simp (disch := (first | rfl | with_reducible assumption | with_reducible solve_by_elim (maxDepth := 8) [Shape.inT, Shape.inI, Shape.inC, Shape.inK, Shape.obF, Shape.obT, Shape.arI, Arr.inF] | omega)) only [S2, Nat.reduceEqDiff, Nat.reduceAdd, iput, puts]
        refine ⟨k + 1, rfl, ⟨by omega, ?_, fun j hj => by rw [e7 j (by omega)]; exact low6 j hj⟩, by omega⟩
        rw [z7, accB, e]
        rfl
      · try simp (disch := (first | rfl | with_reducible assumption | with_reducible solve_by_elim (maxDepth := 8) [Shape.inT, Shape.inI, Shape.inC, Shape.inK, Shape.obF, Shape.obT, Shape.arI, Arr.inF] | omega)) only [S2, Nat.reduceEqDiff, Nat.reduceAdd, iput, puts]
        refine ⟨k + 1, rfl, ⟨by omega, ?_, low6⟩, by omega⟩
        rw [z6, accB, e]
        show _ = some (ints (A.set i (_ + 0)))
        rw [Int.add_zero]
    · have hk' : ¬ (k : Int) < 5 := by omega
      have : k = 5 := by omega
      subst this
      try simp (disch := (first | rfl | with_reducible assumption | with_reducible solve_by_elim (maxDepth := 8) [Shape.inT, Shape.inI, Shape.inC, Shape.inK, Shape.obF, Shape.obT, Shape.arI, Arr.inF] | omega)) only [S2, Nat.reduceEqDiff, Nat.reduceAdd, iput, puts, hk']
      refine ⟨i + 1, rfl, ⟨by omega, by omega, ?_, low6⟩, by omega⟩
      rw [z6, fill]
  · try simp (disch := (first | rfl | with_reducible assumption | with_reducible solve_by_elim (maxDepth := 8) [Shape.inT, Shape.inI, Shape.inC, Shape.inK, Shape.obF, Shape.obT, Shape.arI, Arr.inF] | omega)) only [S2, Nat.reduceEqDiff, Nat.reduceAdd, iput, puts, hlt]
    have : i = c.f.length := by omega
    subst this
    rw [List.take_of_length_le (by rw [kindL_len]; omega), kindL_len] at z2
    simp only [Nat.sub_self, List.replicate_zero, List.append_nil] at z2
    obtain ⟨H4, s4, i4⟩ := isI_of (l := kindL c c.f.length) hwf (Nat.le_refl nx) hn2 z2 low
    rw [kindL_len] at i4
    exact ⟨_, rfl, H4, s4, _, rfl, i4⟩
def V_spec_ArrowKinds : Vc :=
  .op true (.p .box [.t 0]) <|
  .op true (.p (.ld (some 5)) [.t 1]) <|
  .op true (.call (.f 22) [.t 2]) <|
  .op true (.p .bnot [.t 3]) <|
  .br 4
   (.ret [(.c (.nil), none), (.c (int 1), none)])
   (.op true (.p (.msl 0 [] []) []) <|
   .loop 0 [.t 5, .c (int 0)] <|
   .op true (.p (.fad 1) [.t 1]) <|
   .op true (.p (.ld none) [.t 8]) <|
   .op true (.p .len [.t 9]) <|
   .op true (.p (.bin .lss) [.t 7, .t 10]) <|
   .br 11
    (.op true (.p (.ld (some 5)) [.t 1]) <|
    .op true (.call (.f 287) [.t 12, .t 7]) <|
    .br 13
     (.op true (.p (.bin .add) [.c (int 0), .c (int 1)]) <|
     .op true (.p (.ld (some 5)) [.t 1]) <|
     .op true (.call (.f 288) [.t 15, .t 7]) <|
     .br 16
      (.op true (.p (.bin .add) [.t 14, .c (int 2)]) <|
      .op true (.p (.ld (some 5)) [.t 1]) <|
      .op true (.call (.f 237) [.t 18, .t 7]) <|
      .op true (.p .len [.t 19]) <|
      .op true (.p (.bin .gtr) [.t 20, .c (int 0)]) <|
      .br 21
       (.op true (.p (.bin .add) [.t 17, .c (int 4)]) <|
       .op true (.p (.ld (some 5)) [.t 1]) <|
       .op true (.call (.f 15) [.t 23, .t 7]) <|
       .op true (.p .len [.t 24]) <|
       .op true (.p (.bin .gtr) [.t 25, .c (int 0)]) <|
       .br 26
        (.op true (.p (.bin .add) [.t 22, .c (int 8)]) <|
        .op true (.p (.ld (some 5)) [.t 1]) <|
        .op true (.call (.f 239) [.t 28, .t 7]) <|
        .op true (.p (.bin .geq) [.t 29, .c (int 0)]) <|
        .br 30
         (.op true (.p (.bin .add) [.t 27, .c (int 16)]) <|
         .op true (.p (.msl 1 [int 0] [(0, 1)]) [.t 31]) <|
         .op true (.app 1 (.t 6) (.t 32)) <|
         .op true (.p (.bin .add) [.t 7, .c (int 1)]) <|
         .again 0 [.t 33, .t 34])
         (.op true (.p (.msl 1 [int 0] [(0, 1)]) [.t 27]) <|
         .op true (.app 1 (.t 6) (.t 31)) <|
         .op true (.p (.bin .add) [.t 7, .c (int 1)]) <|
         .again 0 [.t 32, .t 33]))
        (.op true (.p (.ld (some 5)) [.t 1]) <|
        .op true (.call (.f 239) [.t 27, .t 7]) <|
        .op true (.p (.bin .geq) [.t 28, .c (int 0)]) <|
        .br 29
         (.op true (.p (.bin .add) [.t 22, .c (int 16)]) <|
         .op true (.p (.msl 1 [int 0] [(0, 1)]) [.t 30]) <|
         .op true (.app 1 (.t 6) (.t 31)) <|
         .op true (.p (.bin .add) [.t 7, .c (int 1)]) <|
         .again 0 [.t 32, .t 33])
         (.op true (.p (.msl 1 [int 0] [(0, 1)]) [.t 22]) <|
         .op true (.app 1 (.t 6) (.t 30)) <|
         .op true (.p (.bin .add) [.t 7, .c (int 1)]) <|
         .again 0 [.t 31, .t 32])))
       (.op true (.p (.ld (some 5)) [.t 1]) <|
       .op true (.call (.f 15) [.t 22, .t 7]) <|
       .op true (.p .len [.t 23]) <|
       .op true (.p (.bin .gtr) [.t 24, .c (int 0)]) <|
       .br 25
        (.op true (.p (.bin .add) [.t 17, .c (int 8)]) <|
        .op true (.p (.ld (some 5)) [.t 1]) <|
        .op true (.call (.f 239) [.t 27, .t 7]) <|
        .op true (.p (.bin .geq) [.t 28, .c (int 0)]) <|
        .br 29
         (.op true (.p (.bin .add) [.t 26, .c (int 16)]) <|
         .op true (.p (.msl 1 [int 0] [(0, 1)]) [.t 30]) <|
         .op true (.app 1 (.t 6) (.t 31)) <|
         .op true (.p (.bin .add) [.t 7, .c (int 1)]) <|
         .again 0 [.t 32, .t 33])
         (.op true (.p (.msl 1 [int 0] [(0, 1)]) [.t 26]) <|
         .op true (.app 1 (.t 6) (.t 30)) <|
         .op true (.p (.bin .add) [.t 7, .c (int 1)]) <|
         .again 0 [.t 31, .t 32]))
        (.op true (.p (.ld (some 5)) [.t 1]) <|
        .op true (.call (.f 239) [.t 26, .t 7]) <|
        .op true (.p (.bin .geq) [.t 27, .c (int 0)]) <|
        .br 28
         (.op true (.p (.bin .add) [.t 17, .c (int 16)]) <|
         .op true (.p (.msl 1 [int 0] [(0, 1)]) [.t 29]) <|
         .op true (.app 1 (.t 6) (.t 30)) <|
         .op true (.p (.bin .add) [.t 7, .c (int 1)]) <|
         .again 0 [.t 31, .t 32])
         (.op true (.p (.msl 1 [int 0] [(0, 1)]) [.t 17]) <|
         .op true (.app 1 (.t 6) (.t 29)) <|
         .op true (.p (.bin .add) [.t 7, .c (int 1)]) <|
         .again 0 [.t 30, .t 31]))))
      (.op true (.p (.ld (some 5)) [.t 1]) <|
      .op true (.call (.f 237) [.t 17, .t 7]) <|
      .op true (.p .len [.t 18]) <|
      .op true (.p (.bin .gtr) [.t 19, .c (int 0)]) <|
      .br 20
       (.op true (.p (.bin .add) [.t 14, .c (int 4)]) <|
       .op true (.p (.ld (some 5)) [.t 1]) <|
       .op true (.call (.f 15) [.t 22, .t 7]) <|
       .op true (.p .len [.t 23]) <|
       .op true (.p (.bin .gtr) [.t 24, .c (int 0)]) <|
       .br 25
        (.op true (.p (.bin .add) [.t 21, .c (int 8)]) <|
        .op true (.p (.ld (some 5)) [.t 1]) <|
        .op true (.call (.f 239) [.t 27, .t 7]) <|
        .op true (.p (.bin .geq) [.t 28, .c (int 0)]) <|
        .br 29
         (.op true (.p (.bin .add) [.t 26, .c (int 16)]) <|
         .op true (.p (.msl 1 [int 0] [(0, 1)]) [.t 30]) <|
         .op true (.app 1 (.t 6) (.t 31)) <|
         .op true (.p (.bin .add) [.t 7, .c (int 1)]) <|
         .again 0 [.t 32, .t 33])
         (.op true (.p (.msl 1 [int 0] [(0, 1)]) [.t 26]) <|
         .op true (.app 1 (.t 6) (.t 30)) <|
         .op true (.p (.bin .add) [.t 7, .c (int 1)]) <|
         .again 0 [.t 31, .t 32]))
        (.op true (.p (.ld (some 5)) [.t 1]) <|
        .op true (.call (.f 239) [.t 26, .t 7]) <|
        .op true (.p (.bin .geq) [.t 27, .c (int 0)]) <|
        .br 28
         (.op true (.p (.bin .add) [.t 21, .c (int 16)]) <|
         .op true (.p (.msl 1 [int 0] [(0, 1)]) [.t 29]) <|
         .op true (.app 1 (.t 6) (.t 30)) <|
         .op true (.p (.bin .add) [.t 7, .c (int 1)]) <|
         .again 0 [.t 31, .t 32])
         (.op true (.p (.msl 1 [int 0] [(0, 1)]) [.t 21]) <|
         .op true (.app 1 (.t 6) (.t 29)) <|
         .op true (.p (.bin .add) [.t 7, .c (int 1)]) <|
         .again 0 [.t 30, .t 31])))
       (.op true (.p (.ld (some 5)) [.t 1]) <|
       .op true (.call (.f 15) [.t 21, .t 7]) <|
       .op true (.p .len [.t 22]) <|
       .op true (.p (.bin .gtr) [.t 23, .c (int 0)]) <|
       .br 24
        (.op true (.p (.bin .add) [.t 14, .c (int 8)]) <|
        .op true (.p (.ld (some 5)) [.t 1]) <|
        .op true (.call (.f 239) [.t 26, .t 7]) <|
        .op true (.p (.bin .geq) [.t 27, .c (int 0)]) <|
        .br 28
         (.op true (.p (.bin .add) [.t 25, .c (int 16)]) <|
         .op true (.p (.msl 1 [int 0] [(0, 1)]) [.t 29]) <|
         .op true (.app 1 (.t 6) (.t 30)) <|
         .op true (.p (.bin .add) [.t 7, .c (int 1)]) <|
         .again 0 [.t 31, .t 32])
         (.op true (.p (.msl 1 [int 0] [(0, 1)]) [.t 25]) <|
         .op true (.app 1 (.t 6) (.t 29)) <|
         .op true (.p (.bin .add) [.t 7, .c (int 1)]) <|
         .again 0 [.t 30, .t 31]))
        (.op true (.p (.ld (some 5)) [.t 1]) <|
        .op true (.call (.f 239) [.t 25, .t 7]) <|
        .op true (.p (.bin .geq) [.t 26, .c (int 0)]) <|
        .br 27
         (.op true (.p (.bin .add) [.t 14, .c (int 16)]) <|
         .op true (.p (.msl 1 [int 0] [(0, 1)]) [.t 28]) <|
         .op true (.app 1 (.t 6) (.t 29)) <|
         .op true (.p (.bin .add) [.t 7, .c (int 1)]) <|
         .again 0 [.t 30, .t 31])
         (.op true (.p (.msl 1 [int 0] [(0, 1)]) [.t 14]) <|
         .op true (.app 1 (.t 6) (.t 28)) <|
         .op true (.p (.bin .add) [.t 7, .c (int 1)]) <|
         .again 0 [.t 29, .t 30])))))
     (.op true (.p (.ld (some 5)) [.t 1]) <|
     .op true (.call (.f 288) [.t 14, .t 7]) <|
     .br 15
      (.op true (.p (.bin .add) [.c (int 0), .c (int 2)]) <|
      .op true (.p (.ld (some 5)) [.t 1]) <|
      .op true (.call (.f 237) [.t 17, .t 7]) <|
      .op true (.p .len [.t 18]) <|
      .op true (.p (.bin .gtr) [.t 19, .c (int 0)]) <|
      .br 20
       (.op true (.p (.bin .add) [.t 16, .c (int 4)]) <|
       .op true (.p (.ld (some 5)) [.t 1]) <|
       .op true (.call (.f 15) [.t 22, .t 7]) <|
       .op true (.p .len [.t 23]) <|
       .op true (.p (.bin .gtr) [.t 24, .c (int 0)]) <|
       .br 25
        (.op true (.p (.bin .add) [.t 21, .c (int 8)]) <|
        .op true (.p (.ld (some 5)) [.t 1]) <|
        .op true (.call (.f 239) [.t 27, .t 7]) <|
        .op true (.p (.bin .geq) [.t 28, .c (int 0)]) <|
        .br 29
         (.op true (.p (.bin .add) [.t 26, .c (int 16)]) <|
         .op true (.p (.msl 1 [int 0] [(0, 1)]) [.t 30]) <|
         .op true (.app 1 (.t 6) (.t 31)) <|
         .op true (.p (.bin .add) [.t 7, .c (int 1)]) <|
         .again 0 [.t 32, .t 33])
         (.op true (.p (.msl 1 [int 0] [(0, 1)]) [.t 26]) <|
         .op true (.app 1 (.t 6) (.t 30)) <|
         .op true (.p (.bin .add) [.t 7, .c (int 1)]) <|
         .again 0 [.t 31, .t 32]))
        (.op true (.p (.ld (some 5)) [.t 1]) <|
        .op true (.call (.f 239) [.t 26, .t 7]) <|
        .op true (.p (.bin .geq) [.t 27, .c (int 0)]) <|
        .br 28
         (.op true (.p (.bin .add) [.t 21, .c (int 16)]) <|
         .op true (.p (.msl 1 [int 0] [(0, 1)]) [.t 29]) <|
         .op true (.app 1 (.t 6) (.t 30)) <|
         .op true (.p (.bin .add) [.t 7, .c (int 1)]) <|
         .again 0 [.t 31, .t 32])
         (.op true (.p (.msl 1 [int 0] [(0, 1)]) [.t 21]) <|
         .op true (.app 1 (.t 6) (.t 29)) <|
         .op true (.p (.bin .add) [.t 7, .c (int 1)]) <|
         .again 0 [.t 30, .t 31])))
       (.op true (.p (.ld (some 5)) [.t 1]) <|
       .op true (.call (.f 15) [.t 21, .t 7]) <|
       .op true (.p .len [.t 22]) <|
       .op true (.p (.bin .gtr) [.t 23, .c (int 0)]) <|
       .br 24
        (.op true (.p (.bin .add) [.t 16, .c (int 8)]) <|
        .op true (.p (.ld (some 5)) [.t 1]) <|
        .op true (.call (.f 239) [.t 26, .t 7]) <|
        .op true (.p (.bin .geq) [.t 27, .c (int 0)]) <|
        .br 28
         (.op true (.p (.bin .add) [.t 25, .c (int 16)]) <|
         .op true (.p (.msl 1 [int 0] [(0, 1)]) [.t 29]) <|
         .op true (.app 1 (.t 6) (.t 30)) <|
         .op true (.p (.bin .add) [.t 7, .c (int 1)]) <|
         .again 0 [.t 31, .t 32])
         (.op true (.p (.msl 1 [int 0] [(0, 1)]) [.t 25]) <|
         .op true (.app 1 (.t 6) (.t 29)) <|
         .op true (.p (.bin .add) [.t 7, .c (int 1)]) <|
         .again 0 [.t 30, .t 31]))
        (.op true (.p (.ld (some 5)) [.t 1]) <|
        .op true (.call (.f 239) [.t 25, .t 7]) <|
        .op true (.p (.bin .geq) [.t 26, .c (int 0)]) <|
        .br 27
         (.op true (.p (.bin .add) [.t 16, .c (int 16)]) <|
         .op true (.p (.msl 1 [int 0] [(0, 1)]) [.t 28]) <|
         .op true (.app 1 (.t 6) (.t 29)) <|
         .op true (.p (.bin .add) [.t 7, .c (int 1)]) <|
         .again 0 [.t 30, .t 31])
         (.op true (.p (.msl 1 [int 0] [(0, 1)]) [.t 16]) <|
         .op true (.app 1 (.t 6) (.t 28)) <|
         .op true (.p (.bin .add) [.t 7, .c (int 1)]) <|
         .again 0 [.t 29, .t 30]))))
      (.op true (.p (.ld (some 5)) [.t 1]) <|
      .op true (.call (.f 237) [.t 16, .t 7]) <|
      .op true (.p .len [.t 17]) <|
      .op true (.p (.bin .gtr) [.t 18, .c (int 0)]) <|
      .br 19
       (.op true (.p (.bin .add) [.c (int 0), .c (int 4)]) <|
       .op true (.p (.ld (some 5)) [.t 1]) <|
       .op true (.call (.f 15) [.t 21, .t 7]) <|
       .op true (.p .len [.t 22]) <|
       .op true (.p (.bin .gtr) [.t 23, .c (int 0)]) <|
       .br 24
        (.op true (.p (.bin .add) [.t 20, .c (int 8)]) <|
        .op true (.p (.ld (some 5)) [.t 1]) <|
        .op true (.call (.f 239) [.t 26, .t 7]) <|
        .op true (.p (.bin .geq) [.t 27, .c (int 0)]) <|
        .br 28
         (.op true (.p (.bin .add) [.t 25, .c (int 16)]) <|
         .op true (.p (.msl 1 [int 0] [(0, 1)]) [.t 29]) <|
         .op true (.app 1 (.t 6) (.t 30)) <|
         .op true (.p (.bin .add) [.t 7, .c (int 1)]) <|
         .again 0 [.t 31, .t 32])
         (.op true (.p (.msl 1 [int 0] [(0, 1)]) [.t 25]) <|
         .op true (.app 1 (.t 6) (.t 29)) <|
         .op true (.p (.bin .add) [.t 7, .c (int 1)]) <|
         .again 0 [.t 30, .t 31]))
        (.op true (.p (.ld (some 5)) [.t 1]) <|
        .op true (.call (.f 239) [.t 25, .t 7]) <|
        .op true (.p (.bin .geq) [.t 26, .c (int 0)]) <|
        .br 27
         (.op true (.p (.bin .add) [.t 20, .c (int 16)]) <|
         .op true (.p (.msl 1 [int 0] [(0, 1)]) [.t 28]) <|
         .op true (.app 1 (.t 6) (.t 29)) <|
         .op true (.p (.bin .add) [.t 7, .c (int 1)]) <|
         .again 0 [.t 30, .t 31])
         (.op true (.p (.msl 1 [int 0] [(0, 1)]) [.t 20]) <|
         .op true (.app 1 (.t 6) (.t 28)) <|
         .op true (.p (.bin .add) [.t 7, .c (int 1)]) <|
         .again 0 [.t 29, .t 30])))
       (.op true (.p (.ld (some 5)) [.t 1]) <|
       .op true (.call (.f 15) [.t 20, .t 7]) <|
       .op true (.p .len [.t 21]) <|
       .op true (.p (.bin .gtr) [.t 22, .c (int 0)]) <|
       .br 23
        (.op true (.p (.bin .add) [.c (int 0), .c (int 8)]) <|
        .op true (.p (.ld (some 5)) [.t 1]) <|
        .op true (.call (.f 239) [.t 25, .t 7]) <|
        .op true (.p (.bin .geq) [.t 26, .c (int 0)]) <|
        .br 27
         (.op true (.p (.bin .add) [.t 24, .c (int 16)]) <|
         .op true (.p (.msl 1 [int 0] [(0, 1)]) [.t 28]) <|
         .op true (.app 1 (.t 6) (.t 29)) <|
         .op true (.p (.bin .add) [.t 7, .c (int 1)]) <|
         .again 0 [.t 30, .t 31])
         (.op true (.p (.msl 1 [int 0] [(0, 1)]) [.t 24]) <|
         .op true (.app 1 (.t 6) (.t 28)) <|
         .op true (.p (.bin .add) [.t 7, .c (int 1)]) <|
         .again 0 [.t 29, .t 30]))
        (.op true (.p (.ld (some 5)) [.t 1]) <|
        .op true (.call (.f 239) [.t 24, .t 7]) <|
        .op true (.p (.bin .geq) [.t 25, .c (int 0)]) <|
        .br 26
         (.op true (.p (.bin .add) [.c (int 0), .c (int 16)]) <|
         .op true (.p (.msl 1 [int 0] [(0, 1)]) [.t 27]) <|
         .op true (.app 1 (.t 6) (.t 28)) <|
         .op true (.p (.bin .add) [.t 7, .c (int 1)]) <|
         .again 0 [.t 29, .t 30])
         (.op true (.p (.msl 1 [int 0] [(0, 1)]) [.c (int 0)]) <|
         .op true (.app 1 (.t 6) (.t 27)) <|
         .op true (.p (.bin .add) [.t 7, .c (int 1)]) <|
         .again 0 [.t 28, .t 29]))))))
    (.ret [(.t 6, none), (.c (int 0), none)]))
set_option maxHeartbeats 8000000 in
theorem sArrowKinds_ok (KS : HSpec P ν) (Q : HKindsS P ν) (hs : Has P ν 204 1 V_spec_ArrowKinds) (c : Cat) (b : Small c) (hc : IsCat c) (H : Hp) (nx : Nat) : OkM P ν 204 [.agg c.cells] H nx (IsP (kindL c c.f.length) 0 H nx) := by
  refine hs _ _ _ _ rfl fun hwf => ?_
  unfold V_spec_ArrowKinds
  have s := hc.1
  have n40 := s.n40
  have tl := s.tl
  repeat (first | simp (disch := (first | rfl | with_reducible assumption | with_reducible solve_by_elim (maxDepth := 8) [Shape.inT, Shape.inI, Shape.inC, Shape.inK, Shape.obF, Shape.obT, Shape.arI, Arr.inF] | omega)) only [S2, Nat.reduceEqDiff, Nat.reduceAdd, iput, puts, hc] | (refine den_call rfl (by first | (simp only [SS, Nat.reduceEqDiff, Nat.reduceAdd, iput, puts, FF, frzL_cat]; done) | (simp only [SS, Nat.reduceEqDiff, Nat.reduceAdd, iput, puts, FF, frzL_cat]; rfl)) (by first | exact (l02Is_ok KS c b).fzb) ?_) | (refine den_calli rfl (by first | (simp only [SS, Nat.reduceEqDiff, Nat.reduceAdd, iput, puts, FF, frzL_cat]; done) | (simp only [SS, Nat.reduceEqDiff, Nat.reduceAdd, iput, puts, FF, frzL_cat]; rfl)) (by first | exact (l02Is_ok KS c b).fzb) ?_))
  refine den_loop (α := Nat × AV) (fun a => [a.2, int a.1]) (fun a H' nx' => a.1 ≤ c.f.length ∧ IsI (kindL c a.1) H nx a.2 H' nx') (fun a => c.f.length - a.1) (0, .nil) rfl ⟨Nat.zero_le _, Nat.le_refl _, .inl ⟨rfl, rfl, rfl⟩⟩ ?_
  rintro ⟨i, v⟩ H1 n1 ⟨hi, hI⟩
  simp only at hi hI
  have kl := kindL_len (c := c) (n := i)
  by_cases hlt : i < c.f.length
  · have a : Arr c i := ⟨by omega, by omega⟩
    have rl := retL_le (f := (i : Int)) s
    have sl := secL_le (f := (i : Int)) s
    have w1 : IntKind.i64.wrap 1 = 1 := rfl
    have m1 := s.l05Mono_fz Q.mono (i : Int) a.1 a.2
    have m2 := s.l05Epi_fz Q.epi (i : Int) a.1 a.2
    have m3 := s.sRetFz Q.ret a
    have m4 := s.sSecFz Q.sec a
    have m5 := (l05Inverse_ok Q.ret Q.sec Q.has Q.inv c s i a.1 a.2).fzi
    repeat (first | simp (disch := (first | rfl | with_reducible assumption | with_reducible solve_by_elim (maxDepth := 8) [Shape.inT, Shape.inI, Shape.inC, Shape.inK, Shape.obF, Shape.obT, Shape.arI, Arr.inF] | omega)) only [S2, Nat.reduceEqDiff, Nat.reduceAdd, iput, puts, hlt] | (refine den_call rfl (by first | (simp only [SS, Nat.reduceEqDiff, Nat.reduceAdd, iput, puts, FF, frzL_cat]; done) | (simp only [SS, Nat.reduceEqDiff, Nat.reduceAdd, iput, puts, FF, frzL_cat]; rfl)) (by first | exact m1) ?_) | (refine den_calli rfl (by first | (simp only [SS, Nat.reduceEqDiff, Nat.reduceAdd, iput, puts, FF, frzL_cat]; done) | (simp only [SS, Nat.reduceEqDiff, Nat.reduceAdd, iput, puts, FF, frzL_cat]; rfl)) (by first | exact m1) ?_))
    refine ⟨fun e1 => ?_, fun e1 => ?_⟩
    all_goals
      repeat (first | simp (disch := (first | rfl | with_reducible assumption | with_reducible solve_by_elim (maxDepth := 8) [Shape.inT, Shape.inI, Shape.inC, Shape.inK, Shape.obF, Shape.obT, Shape.arI, Arr.inF] | omega)) only [S2, Nat.reduceEqDiff, Nat.reduceAdd, iput, puts] | (refine den_call rfl (by first | (simp only [SS, Nat.reduceEqDiff, Nat.reduceAdd, iput, puts, FF, frzL_cat]; done) | (simp only [SS, Nat.reduceEqDiff, Nat.reduceAdd, iput, puts, FF, frzL_cat]; rfl)) (by first | exact m1 | exact m2 | exact m3 | exact m4 | exact m5) ?_) | (refine den_calli rfl (by first | (simp only [SS, Nat.reduceEqDiff, Nat.reduceAdd, iput, puts, FF, frzL_cat]; done) | (simp only [SS, Nat.reduceEqDiff, Nat.reduceAdd, iput, puts, FF, frzL_cat]; rfl)) (by first | exact m1 | exact m2 | exact m3 | exact m4 | exact m5) ?_))
    all_goals refine ⟨fun e2 => ?_, fun e2 => ?_⟩
    all_goals
      repeat (first | simp (disch := (first | rfl | with_reducible assumption | with_reducible solve_by_elim (maxDepth := 8) [Shape.inT, Shape.inI, Shape.inC, Shape.inK, Shape.obF, Shape.obT, Shape.arI, Arr.inF] | omega)) only [S2, Nat.reduceEqDiff, Nat.reduceAdd, iput, puts] | (refine den_call rfl (by first | (simp only [SS, Nat.reduceEqDiff, Nat.reduceAdd, iput, puts, FF, frzL_cat]; done) | (simp only [SS, Nat.reduceEqDiff, Nat.reduceAdd, iput, puts, FF, frzL_cat]; rfl)) (by first | exact m1 | exact m2 | exact m3 | exact m4 | exact m5) ?_) | (refine den_calli rfl (by first | (simp only [SS, Nat.reduceEqDiff, Nat.reduceAdd, iput, puts, FF, frzL_cat]; done) | (simp only [SS, Nat.reduceEqDiff, Nat.reduceAdd, iput, puts, FF, frzL_cat]; rfl)) (by first | exact m1 | exact m2 | exact m3 | exact m4 | exact m5) ?_))
    all_goals refine ⟨fun e3 => ?_, fun e3 => ?_⟩
    all_goals
      repeat (first | simp (disch := (first | rfl | with_reducible assumption | with_reducible solve_by_elim (maxDepth := 8) [Shape.inT, Shape.inI, Shape.inC, Shape.inK, Shape.obF, Shape.obT, Shape.arI, Arr.inF] | omega)) only [S2, Nat.reduceEqDiff, Nat.reduceAdd, iput, puts] | (refine den_call rfl (by first | (simp only [SS, Nat.reduceEqDiff, Nat.reduceAdd, iput, puts, FF, frzL_cat]; done) | (simp only [SS, Nat.reduceEqDiff, Nat.reduceAdd, iput, puts, FF, frzL_cat]; rfl)) (by first | exact m1 | exact m2 | exact m3 | exact m4 | exact m5) ?_) | (refine den_calli rfl (by first | (simp only [SS, Nat.reduceEqDiff, Nat.reduceAdd, iput, puts, FF, frzL_cat]; done) | (simp only [SS, Nat.reduceEqDiff, Nat.reduceAdd, iput, puts, FF, frzL_cat]; rfl)) (by first | exact m1 | exact m2 | exact m3 | exact m4 | exact m5) ?_))
    all_goals refine ⟨fun e4 => ?_, fun e4 => ?_⟩
    all_goals
      repeat (first | simp (disch := (first | rfl | with_reducible assumption | with_reducible solve_by_elim (maxDepth := 8) [Shape.inT, Shape.inI, Shape.inC, Shape.inK, Shape.obF, Shape.obT, Shape.arI, Arr.inF] | omega)) only [S2, Nat.reduceEqDiff, Nat.reduceAdd, iput, puts] | (refine den_call rfl (by first | (simp only [SS, Nat.reduceEqDiff, Nat.reduceAdd, iput, puts, FF, frzL_cat]; done) | (simp only [SS, Nat.reduceEqDiff, Nat.reduceAdd, iput, puts, FF, frzL_cat]; rfl)) (by first | exact m1 | exact m2 | exact m3 | exact m4 | exact m5) ?_) | (refine den_calli rfl (by first | (simp only [SS, Nat.reduceEqDiff, Nat.reduceAdd, iput, puts, FF, frzL_cat]; done) | (simp only [SS, Nat.reduceEqDiff, Nat.reduceAdd, iput, puts, FF, frzL_cat]; rfl)) (by first | exact m1 | exact m2 | exact m3 | exact m4 | exact m5) ?_))
    all_goals refine ⟨fun e5 => ?_, fun e5 => ?_⟩
    all_goals
      try simp (disch := (first | rfl | with_reducible assumption | with_reducible solve_by_elim (maxDepth := 8) [Shape.inT, Shape.inI, Shape.inC, Shape.inK, Shape.obF, Shape.obT, Shape.arI, Arr.inF] | omega)) only [S2, Nat.reduceEqDiff, Nat.reduceAdd, iput, puts]
    all_goals (first | have f1 : decide (Mono c i) = true := decide_eq_true e1 | have f1 : decide (Mono c i) = false := decide_eq_false e1)
    all_goals (first | have f2 : decide (Epi c i) = true := decide_eq_true e2 | have f2 : decide (Epi c i) = false := decide_eq_false e2)
    all_goals (first | have f3 : decide (0 < (retL c i).length) = true := decide_eq_true (by omega) | have f3 : decide (0 < (retL c i).length) = false := decide_eq_false (by omega))
    all_goals (first | have f4 : decide (0 < (secL c i).length) = true := decide_eq_true (by omega) | have f4 : decide (0 < (secL c i).length) = false := decide_eq_false (by omega))
    all_goals (first | have f5 : decide (0 ≤ inv c i) = true := decide_eq_true (by omega) | have f5 : decide (0 ≤ inv c i) = false := decide_eq_false (by omega))
    all_goals (refine den_appI (m := [kindOf c i]) (H0 := H) (nx0 := nx) hI (by unfold kindOf; rw [f1, f2, f3, f4, f5]; rfl) (by simp) (by simp only [List.length_cons, List.length_nil]; omega) fun v2 H3 n3 hI2 => ?_)
    all_goals
      try simp (disch := (first | rfl | with_reducible assumption | with_reducible solve_by_elim (maxDepth := 8) [Shape.inT, Shape.inI, Shape.inC, Shape.inK, Shape.obF, Shape.obT, Shape.arI, Arr.inF] | omega)) only [S2, Nat.reduceEqDiff, Nat.reduceAdd, iput, puts]
    all_goals (refine ⟨(i + 1, v2), rfl, ⟨by simp only; omega, ?_⟩, by simp only; omega⟩)
    all_goals (simp only; rw [kindL_succ]; exact hI2)
  · try simp (disch := (first | rfl | with_reducible assumption | with_reducible solve_by_elim (maxDepth := 8) [Shape.inT, Shape.inI, Shape.inC, Shape.inK, Shape.obF, Shape.obT, Shape.arI, Arr.inF] | omega)) only [S2, Nat.reduceEqDiff, Nat.reduceAdd, iput, puts, hlt]
    have : i = c.f.length := by omega
    subst this
    exact ⟨_, rfl, H1, fun _ _ h => h, v, rfl, hI⟩
theorem ArrowKinds_both (K : HCat P ν) (M : HMono P ν) (Q : HKinds P ν) (h : Has P ν 205 1 V_ArrowKinds) (KS : HSpec P ν) (QS : HKindsS P ν) (hs : Has P ν 204 1 V_spec_ArrowKinds) (c : Cat) (b : Small c) :
    BothP P ν 205 204 [.agg c.cells] := by
  by_cases hc : IsCat c
  · have n40 := hc.1.n40
    exact ⟨kindL c c.f.length, 0, by rw [kindL_len]; omega, fun H nx => ArrowKinds_ok K M Q h c b hc H nx, fun H nx => sArrowKinds_ok KS QS hs c b hc H nx⟩
  · refine ⟨[], 1, by simp, fun H nx => h _ _ _ _ rfl fun hwf => ?_, fun H nx => hs _ _ _ _ rfl fun hwf => ?_⟩
    · unfold V_ArrowKinds
      repeat (first | simp (disch := (first | rfl | with_reducible assumption | with_reducible solve_by_elim (maxDepth := 8) [Shape.inT, Shape.inI, Shape.inC, Shape.inK, Shape.obF, Shape.obT, Shape.arI, Arr.inF] | omega)) only [S2, Nat.reduceEqDiff, Nat.reduceAdd, iput, puts, hc] | (refine den_call rfl (by first | (simp only [SS, Nat.reduceEqDiff, Nat.reduceAdd, iput, puts, FF, frzL_cat]; done) | (simp only [SS, Nat.reduceEqDiff, Nat.reduceAdd, iput, puts, FF, frzL_cat]; rfl)) (by first | exact (isCategory_ok K c b).fzb) ?_) | (refine den_calli rfl (by first | (simp only [SS, Nat.reduceEqDiff, Nat.reduceAdd, iput, puts, FF, frzL_cat]; done) | (simp only [SS, Nat.reduceEqDiff, Nat.reduceAdd, iput, puts, FF, frzL_cat]; rfl)) (by first | exact (isCategory_ok K c b).fzb) ?_))
      exact ⟨_, rfl, H, fun _ _ h => h, .nil, rfl, IsI.nil _ _⟩
    · unfold V_spec_ArrowKinds
      repeat (first | simp (disch := (first | rfl | with_reducible assumption | with_reducible solve_by_elim (maxDepth := 8) [Shape.inT, Shape.inI, Shape.inC, Shape.inK, Shape.obF, Shape.obT, Shape.arI, Arr.inF] | omega)) only [S2, Nat.reduceEqDiff, Nat.reduceAdd, iput, puts, hc] | (refine den_call rfl (by first | (simp only [SS, Nat.reduceEqDiff, Nat.reduceAdd, iput, puts, FF, frzL_cat]; done) | (simp only [SS, Nat.reduceEqDiff, Nat.reduceAdd, iput, puts, FF, frzL_cat]; rfl)) (by first | exact (l02Is_ok KS c b).fzb) ?_) | (refine den_calli rfl (by first | (simp only [SS, Nat.reduceEqDiff, Nat.reduceAdd, iput, puts, FF, frzL_cat]; done) | (simp only [SS, Nat.reduceEqDiff, Nat.reduceAdd, iput, puts, FF, frzL_cat]; rfl)) (by first | exact (l02Is_ok KS c b).fzb) ?_))
      exact ⟨_, rfl, H, fun _ _ h => h, .nil, rfl, IsI.nil _ _⟩
end Go.Av
