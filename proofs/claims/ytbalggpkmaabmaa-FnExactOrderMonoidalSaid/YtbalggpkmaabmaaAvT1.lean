/-
  A category's table, filled by a rule for composites.
-/
import Derived.Test.YtbalggpkmaabmaaAvD3
import Derived.Test.YtbalggpkmaabmaaAvM3
namespace Go.Av
open Classical
set_option linter.unusedSimpArgs false
set_option linter.unusedVariables false
variable {P : Program} {ν : Nat → FuncId}

/-- A slice of integers, in memory that is only read or an object whose number meets lim. -/
inductive Rd (H : Hp) (lim : Nat → Prop) : AV → List Int → Prop
  | sl (l : List Int) : Rd H lim (islice l) l
  | ms (o : Nat) (l : List Int) (h : H o = some (ints l)) (hl : lim o) : Rd H lim (.ms o 0 l.length 1) l
  | nil : Rd H lim .nil []
section
variable {H H' : Hp} {lim lim' : Nat → Prop} {v : AV} {l : List Int}
theorem Rd.kept (h : Rd H lim v l) (hh : ∀ k, lim k → H' k = H k) : Rd H' lim v l := by
  cases h with
  | sl => exact .sl _
  | ms o _ h hl => exact .ms o _ ((hh o hl).trans h) hl
  | nil => exact .nil
theorem Rd.weak (h : Rd H lim v l) (hh : ∀ k, lim k → lim' k) : Rd H lim' v l := by
  cases h with
  | sl => exact .sl _
  | ms o _ h hl => exact .ms o _ h (hh o hl)
  | nil => exact .nil
theorem Rd.one (h : Rd H lim v l) : v.one = true := by cases h <;> rfl
theorem Rd.frz (h : Rd H lim v l) (k : Nat) : Av.frz H (k + 1) v = some (islice l) := by
  cases h with
  | sl => rfl
  | ms o _ h hl => exact frzN_frz _ _ _ (frzN_ms h k)
  | nil => rfl
theorem Rd.len (h : Rd H lim v l) : pvf H .len [v] = some (int l.length) := by
  cases h with
  | sl => rfl
  | ms o _ h hl => exact p_lenm h (ints_length _)
  | nil => rfl
theorem Rd.rd (h : Rd H lim v l) {i : Int} (hi : In l i) : ∃ p, pvf H (.iad 1) [v, int i] = some p ∧ pvf H (.ld none) [p] = some (int (gI l i)) := by
  cases h with
  | sl => exact ⟨_, q_iad hi, q_get hi⟩
  | ms o _ h hl =>
    refine ⟨.mp o i.toNat l.length, ?_, ?_⟩
    · rw [p_iadm h (ints_length _), if_pos ⟨hi.1, hi.2⟩]
    · rw [p_ldm h (ints_length _)]; exact q_get hi
  | nil => have := hi.1; have := hi.2; simp at this; omega
end
/-- Rows that the call made, or none yet. -/
theorem frz_rows {H : Hp} {o : Nat} {cs : List AV} (h : H o = some cs) (hc : ∀ c ∈ cs, c = .nil ∨ ∃ (q : Nat) (l : List Int), c = .ms q 0 l.length 1 ∧ H q = some (ints l)) : ∃ ds, ∀ k, frz H (k + 3) (.ms o 0 cs.length 1) = some (.sl ds cs.length) := by
  have : ∃ ds, ∀ k, cs.mapM (frz H (k + 2)) = some ds := by
    clear h
    induction cs with
    | nil => exact ⟨[], fun _ => rfl⟩
    | cons c cs ih =>
      obtain ⟨ds, hd⟩ := ih fun c hc' => hc c (List.mem_cons_of_mem _ hc')
      have : ∃ d, ∀ k, frz H (k + 2) c = some d := by
        rcases hc c (List.mem_cons_self ..) with rfl | ⟨q, l, rfl, hq⟩
        · exact ⟨_, fun _ => rfl⟩
        · exact ⟨_, fun k => frzN_frz _ _ _ (frzN_ms hq (k + 1))⟩
      obtain ⟨d, hd'⟩ := this
      exact ⟨d :: ds, fun k => by simp only [List.mapM_cons, hd', hd]; rfl⟩
  obtain ⟨ds, hd⟩ := this
  refine ⟨ds, fun k => ?_⟩
  simp only [frz, h, hd k]
  simp

/-- The table. -/
def tblAt (k : Nat → Nat → Int) (F T : List Int) (a b : Nat) : Int := if T.getD a 0 = F.getD b 0 then k a b else -1
def tblRow (k : Nat → Nat → Int) (F T : List Int) (a : Nat) : List Int := (List.range F.length).map (tblAt k F T a)
def tbl (k : Nat → Nat → Int) (F T : List Int) : List (List Int) := (List.range F.length).map (tblRow k F T)
section
variable {k : Nat → Nat → Int} {F T : List Int} {a b : Nat}
theorem tblRow_len : (tblRow k F T a).length = F.length := by simp [tblRow]
theorem tbl_len : (tbl k F T).length = F.length := by simp [tbl]
theorem tbl_row (h : a < F.length) : (tbl k F T).getD a [] = tblRow k F T a := by simp [tbl, h]
theorem tbl_at (h : b < F.length) : (tblRow k F T a).getD b 0 = tblAt k F T a b := by simp [tblRow, h]
end
/-- What is kept while the table is filled. -/
def MidT (H : Hp) (nx o : Nat) (cells : List AV) (n : Nat) (H' : Hp) : Prop := (∀ q, q < nx → q ≠ o → H' q = H q) ∧ H' o = some (cells ++ [.ms nx 0 n 1]) ∧ ∃ ds, ∀ j, frz H' (j + 3) (.ms nx 0 n 1) = some (.sl ds n)
structure TblAt (H : Hp) (nx o : Nat) (cells : List AV) (M : List (List Int)) (H' : Hp) : Prop where
  low : ∀ q, q < nx → q ≠ o → H' q = H q
  obj : H' o = some (cells ++ [.ms nx 0 M.length 1])
  tab : H' nx = some (outer M nx M.length)
  row : ∀ j, j < M.length → H' (nx + 1 + j) = some (ints (M.getD j []))
def IsTbl (H : Hp) (nx o : Nat) (cells : List AV) (M : List (List Int)) (r : AV) (H' : Hp) (nx' : Nat) : Prop := r = .tup [] ∧ nx' = nx + 1 + M.length ∧ TblAt H nx o cells M H'

theorem fill_at {L : List Int} {n g : Nat} (hL : L.length = n) (hg : g < n) (x y : Int) (hx : L.getD g 0 = x) : ((L.take g ++ List.replicate (n - g) 0).set g y).set g x = L.take (g + 1) ++ List.replicate (n - (g + 1)) 0 := by
  rw [List.set_set, ← hx, ← hL, fill_succ (by omega)]

def V_Category_table : Vc :=
  .op true (.call (.f 26) [.t 0]) <|
  .op true (.mks [.nil] (.t 2) (.t 2)) <|
  .op true (.p .nck [.t 0]) <|
  .op true (.p (.fad 4) [.t 4]) <|
  .op true (.st 1 (.t 5) (.t 3)) <|
  .op true (.p .nck [.t 0]) <|
  .op true (.p (.fad 4) [.t 7]) <|
  .op true (.p (.ld none) [.t 8]) <|
  .op true (.p .len [.t 9]) <|
  .loop 0 [.c (int 0)] <|
  .op true (.p (.bin .lss) [.t 11, .t 10]) <|
  .br 12
   (.op true (.p .nck [.t 0]) <|
   .op true (.p (.fad 4) [.t 13]) <|
   .op true (.p (.ld none) [.t 14]) <|
   .op true (.mks [int 0] (.t 2) (.t 2)) <|
   .op true (.p (.iad 1) [.t 15, .t 11]) <|
   .op true (.st 1 (.t 17) (.t 16)) <|
   .op true (.p .nck [.t 0]) <|
   .op true (.p (.fad 4) [.t 19]) <|
   .op true (.p (.ld none) [.t 20]) <|
   .op true (.p (.iad 1) [.t 21, .t 11]) <|
   .op true (.p (.ld none) [.t 22]) <|
   .op true (.p .len [.t 23]) <|
   .loop 1 [.c (int 0)] <|
   .op true (.p (.bin .lss) [.t 25, .t 24]) <|
   .br 26
    (.op true (.p .nck [.t 0]) <|
    .op true (.p (.fad 4) [.t 27]) <|
    .op true (.p (.ld none) [.t 28]) <|
    .op true (.p (.iad 1) [.t 29, .t 11]) <|
    .op true (.p (.ld none) [.t 30]) <|
    .op true (.p (.iad 1) [.t 31, .t 25]) <|
    .op true (.st 1 (.t 32) (.c (int (-1)))) <|
    .op true (.p .nck [.t 0]) <|
    .op true (.p (.fad 2) [.t 34]) <|
    .op true (.p (.ld none) [.t 35]) <|
    .op true (.p (.iad 1) [.t 36, .t 11]) <|
    .op true (.p (.ld none) [.t 37]) <|
    .op true (.p .nck [.t 0]) <|
    .op true (.p (.fad 1) [.t 39]) <|
    .op true (.p (.ld none) [.t 40]) <|
    .op true (.p (.iad 1) [.t 41, .t 25]) <|
    .op true (.p (.ld none) [.t 42]) <|
    .op true (.p (.bin .eql) [.t 38, .t 43]) <|
    .br 44
     (.op true (.p .nck [.t 0]) <|
     .op true (.p (.fad 4) [.t 45]) <|
     .op true (.p (.ld none) [.t 46]) <|
     .op true (.p (.iad 1) [.t 47, .t 11]) <|
     .op true (.p (.ld none) [.t 48]) <|
     .op true (.call (.t 1) [.t 11, .t 25]) <|
     .op true (.p (.iad 1) [.t 49, .t 25]) <|
     .op true (.st 1 (.t 51) (.t 50)) <|
     .op true (.p (.bin .add) [.t 25, .c (int 1)]) <|
     .again 1 [.t 53])
     (.op true (.p (.bin .add) [.t 25, .c (int 1)]) <|
     .again 1 [.t 45]))
    (.op true (.p (.bin .add) [.t 11, .c (int 1)]) <|
    .again 0 [.t 27]))
   (.ret [])
set_option maxHeartbeats 4000000 in
theorem table_ok (ha : Has P ν 26 1 V_Category_arrows) (h : Has P ν 353 2 V_Category_table) (k : Nat → Nat → Int) (ob : Int) (f t i : AV) (F T I : List Int) (id : Nat) (caps : List AV) (o : Nat) (H : Hp) (nx : Nat) (ho : H o = some [int ob, f, t, i, .nil]) (hon : o < nx)
    (hF : Rd H (fun q => q < nx ∧ q ≠ o) f F) (hT : Rd H (fun q => q < nx ∧ q ≠ o) t T) (hI : Rd H (fun q => q < nx ∧ q ≠ o) i I) (hFT : T.length = F.length) (hn : F.length ≤ 1048576)
    (hc : ∀ (a b : Nat) (H' : Hp), a < F.length → b < F.length → T.getD a 0 = F.getD b 0 → MidT H nx o [int ob, f, t, i] F.length H' → ∃ ys, frzL H' caps = some ys ∧ Fz (OkM P ν) id ([int a, int b] ++ ys) (int (k a b))) :
    OkM P ν 353 [.mp o 0 5, .fn id caps] H nx (IsTbl H nx o [int ob, f, t, i] (tbl k F T)) := by
  refine h _ _ _ _ rfl fun hwf => ?_
  unfold V_Category_table
  have hML : (tbl k F T).length = F.length := tbl_len
  try simp (disch := (first | rfl | with_reducible assumption | with_reducible solve_by_elim (maxDepth := 8) [Shape.inT, Shape.inI, Shape.inC, Shape.inK, Shape.obF, Shape.obT, Shape.arI, Arr.inF] | omega)) only [S2, Nat.reduceEqDiff, Nat.reduceAdd, iput, puts]
  refine den_call (fc := (26, [])) (ys := [.ptr (Cat.mk ob F T I []).cells 0]) rfl ?_ (arrows_ok ha ⟨ob, F, T, I, []⟩).fzi ?_
  · have e1 : frz H fuel (.mp o 0 5) = some (.ptr (Cat.mk ob F T I []).cells 0) := by
      simp only [fuel, frz, ho]
      simp only [List.length_cons, List.length_nil, Nat.zero_add, Nat.reduceAdd, if_true, List.mapM_cons, List.mapM_nil, hF.frz, hT.frz, hI.frz]
      rfl
    simp only [SS, Nat.reduceEqDiff, Nat.reduceAdd, iput, puts, Av.frzL, List.mapM_cons, List.mapM_nil, List.append_nil, e1]
    rfl
  try simp (disch := (first | rfl | with_reducible assumption | with_reducible solve_by_elim (maxDepth := 8) [Shape.inT, Shape.inI, Shape.inC, Shape.inK, Shape.obF, Shape.obT, Shape.arI, Arr.inF] | omega)) only [S2, Nat.reduceEqDiff, Nat.reduceAdd, iput, puts]
  refine den_mksG (m := F.length) (z := .nil) rfl rfl (by omega) fun H1 z1 e1 => ?_
  have o1 := (e1 o (by omega)).trans ho
  try simp (disch := (first | rfl | with_reducible assumption | with_reducible solve_by_elim (maxDepth := 8) [Shape.inT, Shape.inI, Shape.inC, Shape.inK, Shape.obF, Shape.obT, Shape.arI, Arr.inF] | omega)) only [S2, Nat.reduceEqDiff, Nat.reduceAdd, iput, puts, p_nckm (l := 5) o1 rfl, p_fadm (l := 5) o1 rfl]
  refine den_st1G (o := o) (p := 4) (m := 5) (u := .ms nx 0 F.length 1) rfl rfl o1 rfl (by omega) rfl fun H2 o2a e2 => ?_
  have z2 := (e2 nx (by omega)).trans z1
  have o2 : H2 o = some [int ob, f, t, i, .ms nx 0 F.length 1] := o2a
  try simp (disch := (first | rfl | with_reducible assumption | with_reducible solve_by_elim (maxDepth := 8) [Shape.inT, Shape.inI, Shape.inC, Shape.inK, Shape.obF, Shape.obT, Shape.arI, Arr.inF] | omega)) only [S2, Nat.reduceEqDiff, Nat.reduceAdd, iput, puts, p_nckm (l := 5) o2 rfl, p_fadm (l := 5) o2 rfl, p_ldm (n := 5) o2 rfl, p_lenm (n := F.length) z2 (by simp)]
  refine den_loop (α := Nat) (fun a => [int a]) (fun a H' nx' => a ≤ F.length ∧ nx' = nx + 1 + a ∧ (∀ q, q < nx → q ≠ o → H' q = H q) ∧ H' o = some [int ob, f, t, i, .ms nx 0 F.length 1] ∧ H' nx = some (outer (tbl k F T) nx a) ∧ ∀ j, j < a → H' (nx + 1 + j) = some (ints ((tbl k F T).getD j []))) (fun a => F.length - a) 0 rfl ⟨Nat.zero_le _, rfl, fun q h1 h2 => by rw [e2 q h2, e1 q (by omega)], o2, ?_, fun j hj => by omega⟩ ?_
  · rw [z2]
    congr 1
    refine List.ext_getElem (by simp [outer, hML]) fun j h1 h2 => ?_
    simp [outer]
  clear z1 e1 o1 z2 e2 o2 o2a H2 H1
  rintro a H1 n1 ⟨hal, rfl, low, o1, z1, rows⟩
  by_cases hlt : a < F.length
  · have zl : (outer (tbl k F T) nx a).length = F.length := (outer_len _ _ _).trans hML
    try simp (disch := (first | rfl | with_reducible assumption | with_reducible solve_by_elim (maxDepth := 8) [Shape.inT, Shape.inI, Shape.inC, Shape.inK, Shape.obF, Shape.obT, Shape.arI, Arr.inF] | omega)) only [S2, Nat.reduceEqDiff, Nat.reduceAdd, iput, puts, hlt, p_nckm (l := 5) o1 rfl, p_fadm (l := 5) o1 rfl, p_ldm (n := 5) o1 rfl]
    refine den_mksG (m := F.length) (z := int 0) rfl rfl (by omega) fun H2 r2 e2 => ?_
    have z2 := (e2 nx (by omega)).trans z1
    have h0 : (0 : Int) ≤ a := by omega
    try simp (disch := (first | rfl | with_reducible assumption | with_reducible solve_by_elim (maxDepth := 8) [Shape.inT, Shape.inI, Shape.inC, Shape.inK, Shape.obF, Shape.obT, Shape.arI, Arr.inF] | omega)) only [S2, Nat.reduceEqDiff, Nat.reduceAdd, iput, puts, p_iadm z2 zl, h0, hlt, true_and, if_true, Int.ofNat_lt, and_self]
    refine den_st1G (o := nx) (p := a) (m := F.length) (u := .ms (nx + 1 + a) 0 F.length 1) rfl rfl z2 zl hlt rfl fun H3 z3a e3 => ?_
    have hrl : ((tbl k F T).getD a []).length = F.length := by rw [tbl_row hlt, tblRow_len]
    have z3 : H3 nx = some (outer (tbl k F T) nx (a + 1)) := by
      rw [z3a, ← outer_set (by omega), hrl]
    have zl3 : (outer (tbl k F T) nx (a + 1)).length = F.length := (outer_len _ _ _).trans hML
    have o3 : H3 o = some [int ob, f, t, i, .ms nx 0 F.length 1] := by rw [e3 _ (by omega), e2 _ (by omega)]; exact o1
    have r3 : H3 (nx + 1 + a) = some (ints (List.replicate F.length 0)) := by rw [e3 _ (by omega), r2, rep_int]
    have low3 : ∀ q, q < nx → q ≠ o → H3 q = H q := fun q h1 h2 => by rw [e3 _ (by omega), e2 _ (by omega)]; exact low q h1 h2
    have rows3 : ∀ j, j < a → H3 (nx + 1 + j) = some (ints ((tbl k F T).getD j [])) := fun j hj => by rw [e3 _ (by omega), e2 _ (by omega)]; exact rows j hj
    have at3 : (outer (tbl k F T) nx (a + 1))[a]? = some (.ms (nx + 1 + a) 0 F.length 1) := by
      simp only [outer, List.getElem?_map, List.getElem?_range (show a < (tbl k F T).length by omega), Option.map_some]
      rw [if_pos (by omega), hrl]
    try simp (disch := (first | rfl | with_reducible assumption | with_reducible solve_by_elim (maxDepth := 8) [Shape.inT, Shape.inI, Shape.inC, Shape.inK, Shape.obF, Shape.obT, Shape.arI, Arr.inF] | omega)) only [S2, Nat.reduceEqDiff, Nat.reduceAdd, iput, puts, p_nckm (l := 5) o3 rfl, p_fadm (l := 5) o3 rfl, p_ldm (n := 5) o3 rfl, p_iadm z3 zl3, p_ldm z3 zl3, at3, p_lenm (n := F.length) r3 (by simp [ints]), h0, hlt, true_and, if_true, Int.ofNat_lt, and_self, Int.toNat_natCast]
    clear r2 e2 z2 e3 o1 z1 low rows z3a H2 H1
    refine den_loop (α := Nat) (fun g => [int g]) (fun g H' nx' => g ≤ F.length ∧ nx' = nx + 1 + a + 1 ∧ (∀ q, q < nx → q ≠ o → H' q = H q) ∧ H' o = some [int ob, f, t, i, .ms nx 0 F.length 1] ∧ H' nx = some (outer (tbl k F T) nx (a + 1)) ∧ (∀ j, j < a → H' (nx + 1 + j) = some (ints ((tbl k F T).getD j []))) ∧ H' (nx + 1 + a) = some (ints ((tblRow k F T a).take g ++ List.replicate (F.length - g) 0))) (fun g => F.length - g) 0 rfl ⟨Nat.zero_le _, rfl, low3, o3, z3, rows3, by simpa using r3⟩ ?_
    clear low3 o3 z3 rows3 r3 H3
    rintro g H1 n1 ⟨hgl, rfl, low, o1, z1, rows, r1⟩
    have llen : ∀ (y : List Int), y.length = F.length → (ints y).length = F.length := fun y hy => by simp [ints, hy]
    have ll0 : ((tblRow k F T a).take g ++ List.replicate (F.length - g) 0).length = F.length := by simp [tblRow_len]; omega
    by_cases hlg : g < F.length
    · have h0g : (0 : Int) ≤ g := by omega
      have r1l := llen _ ll0
      try simp (disch := (first | rfl | with_reducible assumption | with_reducible solve_by_elim (maxDepth := 8) [Shape.inT, Shape.inI, Shape.inC, Shape.inK, Shape.obF, Shape.obT, Shape.arI, Arr.inF] | omega)) only [S2, Nat.reduceEqDiff, Nat.reduceAdd, iput, puts, hlg, p_nckm (l := 5) o1 rfl, p_fadm (l := 5) o1 rfl, p_ldm (n := 5) o1 rfl, p_iadm z1 zl3, p_ldm z1 zl3, at3, p_iadm r1 r1l, h0, h0g, hlt, true_and, if_true, Int.ofNat_lt, and_self, Int.toNat_natCast, not_true_eq_false, false_implies, true_implies, and_true]
      refine den_st1G (o := nx + 1 + a) (p := g) (m := F.length) (u := int (-1)) rfl rfl r1 r1l hlg rfl fun H2 r2 e2 => ?_
      rw [ints_set] at r2
      have ll2 : (((tblRow k F T a).take g ++ List.replicate (F.length - g) 0).set g (-1)).length = F.length := by rw [List.length_set, ll0]
      have o2 : H2 o = some [int ob, f, t, i, .ms nx 0 F.length 1] := (e2 _ (by omega)).trans o1
      have z2 := (e2 nx (by omega)).trans z1
      have low2 : ∀ q, q < nx → q ≠ o → H2 q = H q := fun q h1 h2 => by rw [e2 _ (by omega)]; exact low q h1 h2
      have rows2 : ∀ j, j < a → H2 (nx + 1 + j) = some (ints ((tbl k F T).getD j [])) := fun j hj => by rw [e2 _ (by omega)]; exact rows j hj
      have kp : ∀ q, (q < nx ∧ q ≠ o) → H2 q = H q := fun q hq => low2 q hq.1 hq.2
      obtain ⟨pt, t1, t2⟩ := (hT.kept kp).rd (i := (a : Int)) ⟨by omega, by omega⟩
      obtain ⟨pf, f1, f2⟩ := (hF.kept kp).rd (i := (g : Int)) ⟨by omega, by omega⟩
      have row_at : (tblRow k F T a).getD g 0 = if T.getD a 0 = F.getD g 0 then k a g else -1 := tbl_at hlg
      try simp (disch := (first | rfl | with_reducible assumption | with_reducible solve_by_elim (maxDepth := 8) [Shape.inT, Shape.inI, Shape.inC, Shape.inK, Shape.obF, Shape.obT, Shape.arI, Arr.inF] | omega)) only [S2, Nat.reduceEqDiff, Nat.reduceAdd, iput, puts, p_nckm (l := 5) o2 rfl, p_fadm (l := 5) o2 rfl, p_ldm (n := 5) o2 rfl, t1, t2, f1, f2, gI_nat]
      refine ⟨fun he => ?_, fun he => ?_⟩
      · rw [if_pos he] at row_at
        try simp (disch := (first | rfl | with_reducible assumption | with_reducible solve_by_elim (maxDepth := 8) [Shape.inT, Shape.inI, Shape.inC, Shape.inK, Shape.obF, Shape.obT, Shape.arI, Arr.inF] | omega)) only [S2, Nat.reduceEqDiff, Nat.reduceAdd, iput, puts, p_nckm (l := 5) o2 rfl, p_fadm (l := 5) o2 rfl, p_ldm (n := 5) o2 rfl]
        try simp (disch := (first | rfl | with_reducible assumption | with_reducible solve_by_elim (maxDepth := 8) [Shape.inT, Shape.inI, Shape.inC, Shape.inK, Shape.obF, Shape.obT, Shape.arI, Arr.inF] | omega)) only [S2, Nat.reduceEqDiff, Nat.reduceAdd, iput, puts, p_iadm z2 zl3, p_ldm z2 zl3, at3, h0, hlt, true_and, if_true, Int.ofNat_lt, and_self, Int.toNat_natCast]
        have mid : MidT H nx o [int ob, f, t, i] F.length H2 := by
          refine ⟨low2, o2, ?_⟩
          have := frz_rows z2 fun c hc' => ?_
          · rw [zl3] at this; exact this
          · simp only [outer, List.mem_map, List.mem_range] at hc'
            obtain ⟨j, hj, rfl⟩ := hc'
            by_cases hja : j < a + 1
            · rw [if_pos hja]
              by_cases e : j = a
              · subst e
                exact .inr ⟨_, _, by rw [hrl, ll2], r2⟩
              · exact .inr ⟨_, _, rfl, rows2 j (by omega)⟩
            · rw [if_neg hja]; exact .inl rfl
        obtain ⟨ys, hys, hfz⟩ := hc a g H2 hlt hlg he mid
        refine den_call (fc := (id, caps)) (ys := [int a, int g] ++ ys) rfl (by simp only [SS, Nat.reduceEqDiff, Nat.reduceAdd, iput, puts, FF, frzL_cat, hys]) hfz ?_
        have r2l := llen _ ll2
        try simp (disch := (first | rfl | with_reducible assumption | with_reducible solve_by_elim (maxDepth := 8) [Shape.inT, Shape.inI, Shape.inC, Shape.inK, Shape.obF, Shape.obT, Shape.arI, Arr.inF] | omega)) only [S2, Nat.reduceEqDiff, Nat.reduceAdd, iput, puts, p_iadm r2 r2l, h0g, hlg, true_and, if_true, Int.ofNat_lt, and_self, Int.toNat_natCast]
        refine den_st1G (o := nx + 1 + a) (p := g) (m := F.length) (u := int (k a g)) rfl rfl r2 r2l hlg rfl fun H3 r3 e3 => ?_
        rw [ints_set, fill_at tblRow_len hlg _ _ row_at] at r3
        try simp (disch := (first | rfl | with_reducible assumption | with_reducible solve_by_elim (maxDepth := 8) [Shape.inT, Shape.inI, Shape.inC, Shape.inK, Shape.obF, Shape.obT, Shape.arI, Arr.inF] | omega)) only [S2, Nat.reduceEqDiff, Nat.reduceAdd, iput, puts]
        exact ⟨g + 1, rfl, ⟨by omega, fun q h1 h2 => by rw [e3 _ (by omega)]; exact low2 q h1 h2, by rw [e3 _ (by omega)]; exact o2, by rw [e3 _ (by omega)]; exact z2, fun j hj => by rw [e3 _ (by omega)]; exact rows2 j hj, r3⟩, by omega⟩
      · rw [if_neg he] at row_at
        have : ((tblRow k F T a).take g ++ List.replicate (F.length - g) 0).set g (-1) = (tblRow k F T a).take (g + 1) ++ List.replicate (F.length - (g + 1)) 0 := by
          have := fill_at tblRow_len hlg (-1) (-1) row_at
          rw [List.set_set] at this
          exact this
        rw [this] at r2
        try simp (disch := (first | rfl | with_reducible assumption | with_reducible solve_by_elim (maxDepth := 8) [Shape.inT, Shape.inI, Shape.inC, Shape.inK, Shape.obF, Shape.obT, Shape.arI, Arr.inF] | omega)) only [S2, Nat.reduceEqDiff, Nat.reduceAdd, iput, puts]
        exact ⟨g + 1, rfl, ⟨by omega, low2, o2, z2, rows2, r2⟩, by omega⟩
    · try simp (disch := (first | rfl | with_reducible assumption | with_reducible solve_by_elim (maxDepth := 8) [Shape.inT, Shape.inI, Shape.inC, Shape.inK, Shape.obF, Shape.obT, Shape.arI, Arr.inF] | omega)) only [S2, Nat.reduceEqDiff, Nat.reduceAdd, iput, puts, hlg]
      have hge : g = F.length := by omega
      subst hge
      refine ⟨a + 1, rfl, ⟨by omega, by omega, low, o1, z1, fun j hj => ?_⟩, by omega⟩
      by_cases e : j = a
      · subst e
        rw [r1, tbl_row hlt]
        congr 1
        rw [List.take_of_length_le (by rw [tblRow_len]; exact Nat.le_refl _)]
        simp
      · exact rows j (by omega)
  · try simp (disch := (first | rfl | with_reducible assumption | with_reducible solve_by_elim (maxDepth := 8) [Shape.inT, Shape.inI, Shape.inC, Shape.inK, Shape.obF, Shape.obT, Shape.arI, Arr.inF] | omega)) only [S2, Nat.reduceEqDiff, Nat.reduceAdd, iput, puts, hlt]
    have hae : a = F.length := by omega
    subst hae
    refine ⟨_, rfl, H1, fun _ _ h => h, rfl, by rw [hML], low, by rw [hML]; exact o1, by rw [hML]; exact z1, fun j hj => rows j (by omega)⟩
theorem IsTbl.some' {H : Hp} {nx o : Nat} {cells : List AV} {M : List (List Int)} (hon : o < nx) : ∃ r H' nx', IsTbl H nx o cells M r H' nx' := by
  refine ⟨_, fun q => if q < nx then (if q = o then some (cells ++ [.ms nx 0 M.length 1]) else H q) else if q = nx then some (outer M nx M.length) else some (ints (M.getD (q - nx - 1) [])), _, rfl, rfl, fun q h1 h2 => ?_, ?_, ?_, fun j hj => ?_⟩
  · show (if q < nx then (if q = o then _ else H q) else _) = _; rw [if_pos h1, if_neg h2]
  · show (if o < nx then (if o = o then _ else H o) else _) = _; rw [if_pos hon, if_pos rfl]
  · show (if nx < nx then _ else if nx = nx then _ else _) = _; rw [if_neg (by omega), if_pos rfl]
  · show (if nx + 1 + j < nx then _ else if nx + 1 + j = nx then _ else _) = _; rw [if_neg (by omega), if_neg (by omega)]; congr 3; omega
end Go.Av
