/-
  The category of a preorder: the program's.
-/
import Derived.Test.YtbalggpkmaabmaaAvW3
namespace Go.Av
open Classical
set_option linter.unusedSimpArgs false
set_option linter.unusedVariables false
variable {P : Program} {ν : Nat → FuncId}

/-- The related pairs among the first k places, row by row. -/
noncomputable def prL (R : List (List Int)) (k : Nat) : List Pr := ((List.range k).filter fun p => decide (E R (p / R.length) (p % R.length) = 1)).map fun p => (((p / R.length : Nat) : Int), ((p % R.length : Nat) : Int))
noncomputable def iPr (R : List (List Int)) (k : Nat) : List Int := (List.range k).map fun x => ((prL R (x * R.length + x)).length : Int)
noncomputable def prF (R : List (List Int)) (k : Nat) : List Int := (prL R k).map (·.1)
noncomputable def prT (R : List (List Int)) (k : Nat) : List Int := (prL R k).map (·.2)
noncomputable def poK (R : List (List Int)) : Cat :=
  ⟨R.length, prF R (R.length * R.length), prT R (R.length * R.length), iPr R R.length, tbl (fun a b => idxP (prL R (R.length * R.length)) ((prF R (R.length * R.length)).getD a 0, (prT R (R.length * R.length)).getD b 0)) (prF R (R.length * R.length)) (prT R (R.length * R.length))⟩
theorem jyd {a b m : Nat} (h : b < m) : (a * m + b) / m = a := by rw [Nat.add_comm, Nat.add_mul_div_right _ _ (by omega), Nat.div_eq_of_lt h, Nat.zero_add]
theorem jym {a b m : Nat} (h : b < m) : (a * m + b) % m = b := by rw [Nat.add_comm, Nat.add_mul_mod_self_right, Nat.mod_eq_of_lt h]
theorem jylt {a b n m : Nat} (ha : a < n) (h : b < m) : a * m + b < n * m := by
  have : (a + 1) * m ≤ n * m := Nat.mul_le_mul_right _ ha
  rw [Nat.succ_mul] at this
  omega
theorem jys {a m : Nat} : a * m + m = (a + 1) * m := by rw [Nat.succ_mul]
section
variable {R : List (List Int)}
theorem prL_succ {i j : Nat} (h : j < R.length) : prL R (i * R.length + j + 1) = prL R (i * R.length + j) ++ (if E R i j = 1 then [((i : Int), (j : Int))] else []) := by
  have h1 : (i * R.length + j) / R.length = i := jyd h
  have h2 : (i * R.length + j) % R.length = j := jym h
  unfold prL
  rw [List.range_succ, List.filter_append, List.map_append]
  congr 1
  by_cases e : E R i j = 1
  · have h3 : List.filter (fun p => decide (E R (p / R.length) (p % R.length) = 1)) [i * R.length + j] = [i * R.length + j] := by simp [h1, h2, e]
    rw [if_pos e, h3, List.map_cons, List.map_nil, h1, h2]
  · have h3 : List.filter (fun p => decide (E R (p / R.length) (p % R.length) = 1)) [i * R.length + j] = [] := by simp [h1, h2, e]
    rw [if_neg e, h3]; rfl
theorem prL_le (k : Nat) : (prL R k).length ≤ k := by
  unfold prL
  rw [List.length_map]
  have := List.length_filter_le (fun p => decide (E R (p / R.length) (p % R.length) = 1)) (List.range k)
  rw [List.length_range] at this
  exact this
theorem iPr_succ {k : Nat} : iPr R (k + 1) = iPr R k ++ [((prL R (k * R.length + k)).length : Int)] := by simp [iPr, List.range_succ]
theorem iPr_len {k : Nat} : (iPr R k).length = k := by simp [iPr]
theorem prF_len {k : Nat} : (prF R k).length = (prL R k).length := by simp [prF]
theorem prT_len {k : Nat} : (prT R k).length = (prL R k).length := by simp [prT]
end
noncomputable def poC (R : List (List Int)) : Int := if R.length ≤ 8 then if (prL R (R.length * R.length)).length ≤ 40 then 0 else 3 else 2
noncomputable def poR (R : List (List Int)) : Cat := if poC R = 0 then poK R else zeroK
theorem poC_fit {R : List (List Int)} : poC R = 0 ↔ FitX (poK R) := by
  have e : FitX (poK R) ↔ (R.length : Int) ≤ 8 ∧ (prL R (R.length * R.length)).length ≤ 40 := by
    unfold FitX
    show (R.length : Int) ≤ 8 ∧ (prF R _).length ≤ 40 ↔ _
    rw [prF_len]
  rw [e]
  unfold poC
  constructor
  · intro h
    by_cases h1 : R.length ≤ 8
    · rw [if_pos h1] at h
      by_cases h2 : (prL R (R.length * R.length)).length ≤ 40
      · exact ⟨by omega, h2⟩
      · rw [if_neg h2] at h; omega
    · rw [if_neg h1] at h; omega
  · rintro ⟨h1, h2⟩
    rw [if_pos (by omega), if_pos h2]
abbrev St8 := (AV × AV × AV × AV) × Option Nat × Option Nat × Option Nat × Option Nat
def PrI (R : List (List Int)) (nx : Nat) (k z : Nat) (st : St8) (H : Hp) (hi : Nat) : Prop := PrS nx R.length (prL R k) (prF R k) (prT R k) (iPr R z) st.1.1 st.1.2.1 st.1.2.2.1 st.1.2.2.2 st.2.1 st.2.2.1 st.2.2.2.1 st.2.2.2.2 H hi
def V_PreorderCategory : Vc :=
  .op true (.new [int 0, .nil, .nil, .nil, .nil]) <|
  .op true (.call (.f 361) [.t 0]) <|
  .op true (.p .bnot [.t 2]) <|
  .br 3
   (.op true (.p (.mka [int 0, .nil, .nil, .nil, .nil] []) []) <|
   .op true (.st 5 (.t 1) (.t 4)) <|
   .ret [(.t 1, some (some 5)), (.c (int 1), none)])
   (.op true (.p .len [.t 0]) <|
   .op true (.p (.bin .gtr) [.t 4, .c (int 8)]) <|
   .br 5
    (.op true (.p (.mka [int 0, .nil, .nil, .nil, .nil] []) []) <|
    .op true (.st 5 (.t 1) (.t 6)) <|
    .ret [(.t 1, some (some 5)), (.c (int 2), none)])
    (.op true (.p (.mka [int 0, .nil, .nil, .nil, .nil] [(0, 1)]) [.t 4]) <|
    .op true (.new [int 0, .nil, .nil, .nil, .nil]) <|
    .op true (.st 5 (.t 7) (.t 6)) <|
    .op true (.p (.msl 0 [] []) []) <|
    .op true (.new [.nil]) <|
    .op true (.st 1 (.t 10) (.t 9)) <|
    .loop 0 [.c (int 0)] <|
    .op true (.p (.bin .lss) [.t 12, .t 4]) <|
    .br 13
     (.loop 1 [.c (int 0)] <|
     .op true (.p (.bin .lss) [.t 14, .t 4]) <|
     .br 15
      (.op true (.p (.iad 1) [.t 0, .t 12]) <|
      .op true (.p (.ld none) [.t 16]) <|
      .op true (.p (.iad 1) [.t 17, .t 14]) <|
      .op true (.p (.ld none) [.t 18]) <|
      .op true (.p (.bin .eql) [.t 19, .c (int 0)]) <|
      .br 20
       (.op true (.p (.bin .add) [.t 14, .c (int 1)]) <|
       .again 1 [.t 21])
       (.op true (.p (.bin .eql) [.t 12, .t 14]) <|
       .br 21
        (.op true (.p (.fad 3) [.t 7]) <|
        .op true (.p (.ld none) [.t 22]) <|
        .op true (.p (.ld none) [.t 10]) <|
        .op true (.p .len [.t 24]) <|
        .op true (.p (.msl 1 [int 0] [(0, 1)]) [.t 25]) <|
        .op true (.app 1 (.t 23) (.t 26)) <|
        .op true (.p (.fad 3) [.t 7]) <|
        .op true (.st 1 (.t 28) (.t 27)) <|
        .op true (.p (.ld none) [.t 10]) <|
        .op true (.p (.mka [int 0, int 0] [(0, 1), (1, 1)]) [.t 12, .t 14]) <|
        .op true (.p (.msl 1 [int 0, int 0] [(0, 2)]) [.t 31]) <|
        .op true (.app 2 (.t 30) (.t 32)) <|
        .op true (.st 1 (.t 10) (.t 33)) <|
        .op true (.p (.fad 1) [.t 7]) <|
        .op true (.p (.ld none) [.t 35]) <|
        .op true (.p (.msl 1 [int 0] [(0, 1)]) [.t 12]) <|
        .op true (.app 1 (.t 36) (.t 37)) <|
        .op true (.p (.fad 1) [.t 7]) <|
        .op true (.st 1 (.t 39) (.t 38)) <|
        .op true (.p (.fad 2) [.t 7]) <|
        .op true (.p (.ld none) [.t 41]) <|
        .op true (.p (.msl 1 [int 0] [(0, 1)]) [.t 14]) <|
        .op true (.app 1 (.t 42) (.t 43)) <|
        .op true (.p (.fad 2) [.t 7]) <|
        .op true (.st 1 (.t 45) (.t 44)) <|
        .op true (.p (.bin .add) [.t 14, .c (int 1)]) <|
        .again 1 [.t 47])
        (.op true (.p (.ld none) [.t 10]) <|
        .op true (.p (.mka [int 0, int 0] [(0, 1), (1, 1)]) [.t 12, .t 14]) <|
        .op true (.p (.msl 1 [int 0, int 0] [(0, 2)]) [.t 23]) <|
        .op true (.app 2 (.t 22) (.t 24)) <|
        .op true (.st 1 (.t 10) (.t 25)) <|
        .op true (.p (.fad 1) [.t 7]) <|
        .op true (.p (.ld none) [.t 27]) <|
        .op true (.p (.msl 1 [int 0] [(0, 1)]) [.t 12]) <|
        .op true (.app 1 (.t 28) (.t 29)) <|
        .op true (.p (.fad 1) [.t 7]) <|
        .op true (.st 1 (.t 31) (.t 30)) <|
        .op true (.p (.fad 2) [.t 7]) <|
        .op true (.p (.ld none) [.t 33]) <|
        .op true (.p (.msl 1 [int 0] [(0, 1)]) [.t 14]) <|
        .op true (.app 1 (.t 34) (.t 35)) <|
        .op true (.p (.fad 2) [.t 7]) <|
        .op true (.st 1 (.t 37) (.t 36)) <|
        .op true (.p (.bin .add) [.t 14, .c (int 1)]) <|
        .again 1 [.t 39])))
      (.op true (.p (.bin .add) [.t 12, .c (int 1)]) <|
      .again 0 [.t 16]))
     (.op true (.p (.ld none) [.t 10]) <|
     .op true (.p .len [.t 14]) <|
     .op true (.p (.bin .gtr) [.t 15, .c (int 40)]) <|
     .br 16
      (.op true (.p (.mka [int 0, .nil, .nil, .nil, .nil] []) []) <|
      .op true (.st 5 (.t 1) (.t 17)) <|
      .ret [(.t 1, some (some 5)), (.c (int 3), none)])
      (.op true (.p (.mkf 420) [.t 10, .t 7]) <|
      .op true (.callm (.f 353) [.t 7, .t 17]) <|
      .op true (.p (.ld (some 5)) [.t 7]) <|
      .op true (.st 5 (.t 1) (.t 19)) <|
      .ret [(.t 1, some (some 5)), (.c (int 0), none)]))))
set_option maxHeartbeats 16000000 in
theorem PreorderCategory_ok (har : Has P ν 26 1 V_Category_arrows) (hta : Has P ν 353 2 V_Category_table) (hsi : Has P ν 430 2 V_slices_Index_pair_int64_pair_int64) (hix : Has P ν 421 2 V_index_pair_int64) (hq1 : Has P ν 420 4 V_PreorderCategory_1) (hpr : Has P ν 361 1 V_isPreorder) (h : Has P ν 363 1 V_PreorderCategory) (R : List (List Int)) (hl : R.length ≤ 1048576) (hr : ∀ i, i < R.length → (R.getD i []).length ≤ 1048576) (rg : ∀ i j, i < R.length → j < (R.getD i []).length → in64 ((R.getD i []).getD j 0)) (p : IsPre R) (nx : Nat) :
    OkM P ν 363 [.sl (rows R) R.length] hempty nx (IsK (poR R) (poC R) nx) := by
  refine h _ _ _ _ rfl fun hwf => ?_
  unfold V_PreorderCategory
  have bad : ∀ (k : Int) (H : Hp) (n1 : Nat), poC R = k → k ≠ 0 → nx ≤ n1 → ∃ H', Sub H' H ∧ IsK (poR R) (poC R) nx (.tup [.agg [int 0, .nil, .nil, .nil, .nil], int k]) H' n1 := fun k H n1 e hk hn => by
    rw [poR, e, if_neg hk]
    exact (zeroK_own (H := H) (lo := nx) (hi := n1)).back (Nat.le_refl _) hn
  have hp := isPreorder_fz (P := P) (ν := ν) hpr R hl hr rg
  rw [decide_eq_true p] at hp
  refine den_newG fun H0 y0 e0 => ?_
  repeat (first | simp (disch := (first | rfl | with_reducible assumption | with_reducible solve_by_elim (maxDepth := 8) [Shape.inT, Shape.inI, Shape.inC, Shape.inK, Shape.obF, Shape.obT, Shape.arI, Arr.inF] | omega)) only [S2, Nat.reduceEqDiff, Nat.reduceAdd, iput, puts] | (refine den_call rfl (by first | (simp only [SS, Nat.reduceEqDiff, Nat.reduceAdd, iput, puts, FF, frzL_cat]; done) | (simp only [SS, Nat.reduceEqDiff, Nat.reduceAdd, iput, puts, FF, frzL_cat]; rfl)) (by first | exact hp) ?_) | (refine den_calli rfl (by first | (simp only [SS, Nat.reduceEqDiff, Nat.reduceAdd, iput, puts, FF, frzL_cat]; done) | (simp only [SS, Nat.reduceEqDiff, Nat.reduceAdd, iput, puts, FF, frzL_cat]; rfl)) (by first | exact hp) ?_))
  refine ⟨fun h2 => ?_, fun h2 => ?_⟩
  · try simp (disch := (first | rfl | with_reducible assumption | with_reducible solve_by_elim (maxDepth := 8) [Shape.inT, Shape.inI, Shape.inC, Shape.inK, Shape.obF, Shape.obT, Shape.arI, Arr.inF] | omega)) only [S2, Nat.reduceEqDiff, Nat.reduceAdd, iput, puts, mkZ]
    refine den_stR (o := nx) (m := 5) (d := [int 0, .nil, .nil, .nil, .nil]) rfl rfl y0 rfl rfl rfl fun H1 y1 e1 => ?_
    obtain ⟨H', q1, q2⟩ := bad 2 H1 (nx + 1) (by unfold poC; rw [if_neg (by omega)]) (by decide) (by omega)
    refine ⟨.tup [.agg [int 0, .nil, .nil, .nil, .nil], int 2], ?_, H', q1, q2⟩
    simp only [retOf, rets, SS, Nat.reduceEqDiff, Nat.reduceAdd, iput, puts, pLd, y1]
    rfl
  have n8 : R.length ≤ 8 := by omega
  have n64 : R.length * R.length ≤ 8 * 8 := Nat.mul_le_mul n8 n8
  have mk : ∀ (H : Hp) (k : Int), pvf H (.mka [int 0, .nil, .nil, .nil, .nil] [(0, 1)]) [int k] = some (.agg [int k, .nil, .nil, .nil, .nil]) := fun _ k => rfl
  try simp (disch := (first | rfl | with_reducible assumption | with_reducible solve_by_elim (maxDepth := 8) [Shape.inT, Shape.inI, Shape.inC, Shape.inK, Shape.obF, Shape.obT, Shape.arI, Arr.inF] | omega)) only [S2, Nat.reduceEqDiff, Nat.reduceAdd, iput, puts, mk]
  refine den_newG fun H2 x2 e2 => ?_
  refine den_stR (o := nx + 1) (m := 5) (d := [int (R.length : Int), .nil, .nil, .nil, .nil]) rfl rfl x2 rfl rfl rfl fun H3 x3 e3 => ?_
  try simp (disch := (first | rfl | with_reducible assumption | with_reducible solve_by_elim (maxDepth := 8) [Shape.inT, Shape.inI, Shape.inC, Shape.inK, Shape.obF, Shape.obT, Shape.arI, Arr.inF] | omega)) only [S2, Nat.reduceEqDiff, Nat.reduceAdd, iput, puts]
  refine den_newG fun H4 p4 e4 => ?_
  refine den_st1G (o := nx + 1 + 1) (p := 0) (m := 1) (u := .nil) rfl rfl p4 rfl (by omega) rfl fun H5 p5 e5 => ?_
  have S : PrI R nx (0 * R.length) 0 ((.nil, .nil, .nil, .nil), none, none, none, none) H5 (nx + 3) := by
    have k : ∀ t, t ≠ nx + 2 → H5 t = H3 t := fun t ht => (e5 t (by omega)).trans (e4 t (by omega))
    have o1 : H5 (nx + 1) = some [int (R.length : Int), .nil, .nil, .nil, .nil] := (k _ (by omega)).trans x3
    have o := Out3.start (lo := nx + 1) o1 (Nat.le_refl _)
    rw [Nat.zero_mul]
    exact ⟨o.mono (by omega) fun _ _ _ => rfl, ⟨rfl, rfl⟩, p5, ((k _ (by omega)).trans ((e3 _ (by omega)).trans (e2 _ (by omega)))).trans y0, Nat.le_refl _, (fun o h => by cases h), (fun o h => by cases h), (fun o h => by cases h), (fun o h => by cases h)⟩
  try simp (disch := (first | rfl | with_reducible assumption | with_reducible solve_by_elim (maxDepth := 8) [Shape.inT, Shape.inI, Shape.inC, Shape.inK, Shape.obF, Shape.obT, Shape.arI, Arr.inF] | omega)) only [S2, Nat.reduceEqDiff, Nat.reduceAdd, iput, puts]
  refine den_loop (α := Nat × St8) (fun a => [int a.1]) (fun a H' nx' => a.1 ≤ R.length ∧ PrI R nx (a.1 * R.length) a.1 a.2 H' nx') (fun a => R.length - a.1) (0, (.nil, .nil, .nil, .nil), none, none, none, none) rfl ⟨Nat.zero_le _, S⟩ ?_
  clear S
  rintro ⟨i, ⟨v, va, vb, vd⟩, sL, s1, s2, s3⟩ H1 n1 ⟨hi, S⟩
  simp only at hi S
  by_cases hli : i < R.length
  · have gl := p.len i hli
    try simp (disch := (first | rfl | with_reducible assumption | with_reducible solve_by_elim (maxDepth := 8) [Shape.inT, Shape.inI, Shape.inC, Shape.inK, Shape.obF, Shape.obT, Shape.arI, Arr.inF] | omega)) only [S2, Nat.reduceEqDiff, Nat.reduceAdd, iput, puts, hli]
    refine den_loop (α := Nat × St8) (fun b => [int b.1]) (fun b H' nx' => b.1 ≤ R.length ∧ PrI R nx (i * R.length + b.1) (if i < b.1 then i + 1 else i) b.2 H' nx') (fun b => R.length - b.1) (0, (v, va, vb, vd), sL, s1, s2, s3) rfl ⟨Nat.zero_le _, by simpa using S⟩ ?_
    clear S
    rintro ⟨j, ⟨v, va, vb, vd⟩, sL, s1, s2, s3⟩ H1 n1 ⟨hj, S⟩
    simp only at hj S
    by_cases hlj : j < R.length
    · have iR : InR R (i : Int) := InR.nat hli
      have iI : In (gR R (i : Int)) (j : Int) := ⟨by omega, by omega⟩
      have fold : gI (gR R (i : Int)) (j : Int) = E R i j := rfl
      have lt := jylt hli hlj
      have ps := prL_succ (R := R) (i := i) hlj
      have pl := prL_le (R := R) (i * R.length + j)
      have bit := p.bit i j hli hlj
      try simp (disch := (first | rfl | with_reducible assumption | with_reducible solve_by_elim (maxDepth := 8) [Shape.inT, Shape.inI, Shape.inC, Shape.inK, Shape.obF, Shape.obT, Shape.arI, Arr.inF] | omega)) only [S2, Nat.reduceEqDiff, Nat.reduceAdd, iput, puts, hlj, fold]
      refine ⟨fun g1 => ?_, fun g1 => ?_⟩
      · have g1 : E R i j = 0 := by simpa using g1
        have ij : i ≠ j := fun e => by subst e; have := p.rf i hli; omega
        rw [if_neg (by omega), List.append_nil] at ps
        try simp (disch := (first | rfl | with_reducible assumption | with_reducible solve_by_elim (maxDepth := 8) [Shape.inT, Shape.inI, Shape.inC, Shape.inK, Shape.obF, Shape.obT, Shape.arI, Arr.inF] | omega)) only [S2, Nat.reduceEqDiff, Nat.reduceAdd, iput, puts]
        refine ⟨(j + 1, (v, va, vb, vd), sL, s1, s2, s3), rfl, ⟨hlj, ?_⟩, by simp only; omega⟩
        simp only
        have z : (if i < j + 1 then i + 1 else i) = (if i < j then i + 1 else i) := by split <;> split <;> omega
        rw [z, ← Nat.add_assoc]
        unfold PrI at S ⊢
        unfold prF prT at S ⊢
        rw [ps]
        exact S
      · have g1 : E R i j = 1 := by
          have : ¬ E R i j = 0 := by simpa using g1
          omega
        rw [if_pos g1] at ps
        have pf : prF R (i * R.length + j + 1) = prF R (i * R.length + j) ++ [(i : Int)] := by unfold prF; rw [ps, List.map_append]; rfl
        have pt : prT R (i * R.length + j + 1) = prT R (i * R.length + j) ++ [(j : Int)] := by unfold prT; rw [ps, List.map_append]; rfl
        have fl := prF_len (R := R) (k := i * R.length + j)
        have tl := prT_len (R := R) (k := i * R.length + j)
        unfold PrI at S
        simp only at S
        have fin : ∀ (z : Nat) v va vb vd sL s1 s2 s3 H hi, z = (if i < j + 1 then i + 1 else i) → PrS nx R.length (prL R (i * R.length + j) ++ [((i : Int), (j : Int))]) (prF R (i * R.length + j) ++ [(i : Int)]) (prT R (i * R.length + j) ++ [(j : Int)]) (iPr R z) v va vb vd sL s1 s2 s3 H hi → PrI R nx (i * R.length + (j + 1)) (if i < j + 1 then i + 1 else i) ((v, va, vb, vd), sL, s1, s2, s3) H hi := fun z v va vb vd sL s1 s2 s3 H hi hz q => by
          unfold PrI
          rw [← hz, ← Nat.add_assoc, ps, pf, pt]
          exact q
        have hb3 := S.hb
        try simp (disch := (first | rfl | with_reducible assumption | with_reducible solve_by_elim (maxDepth := 8) [Shape.inT, Shape.inI, Shape.inC, Shape.inK, Shape.obF, Shape.obT, Shape.arI, Arr.inF] | omega)) only [S2, Nat.reduceEqDiff, Nat.reduceAdd, iput, puts]
        refine ⟨fun g2 => ?_, fun g2 => ?_⟩
        · have g2 : i = j := by
            have : (i : Int) = (j : Int) := by first | exact g2 | simpa using g2
            omega
          rw [if_neg (by omega)] at S
          have is := iPr_succ (R := R) (k := i)
          rw [show prL R (i * R.length + i) = prL R (i * R.length + j) by rw [← g2]] at is
          have il := iPr_len (R := R) (k := i)
          try simp (disch := (first | rfl | with_reducible assumption | with_reducible solve_by_elim (maxDepth := 8) [Shape.inT, Shape.inI, Shape.inC, Shape.inK, Shape.obF, Shape.obT, Shape.arI, Arr.inF] | omega)) only [S2, Nat.reduceEqDiff, Nat.reduceAdd, iput, puts, p_fadm (l := 5) S.out.obj rfl, p_ldm (n := 5) S.out.obj rfl, p_ldm (n := 1) S.box rfl, S.lst.len]
          refine den_out3 (m := [((prL R (i * R.length + j)).length : Int)]) S.out (Nat.le_refl _) rfl rfl rfl (by omega) rfl rfl (by simp) (by simp only [List.length_cons, List.length_nil]; omega) fun a6 H6 n6 out6 hn6 keep6 => ?_
          have S := S.out3 out6 hn6 keep6
          rw [← is] at S
          try simp (disch := (first | rfl | with_reducible assumption | with_reducible solve_by_elim (maxDepth := 8) [Shape.inT, Shape.inI, Shape.inC, Shape.inK, Shape.obF, Shape.obT, Shape.arI, Arr.inF] | omega)) only [S2, Nat.reduceEqDiff, Nat.reduceAdd, iput, puts, p_ldm (n := 1) S.box rfl, pr_mka, pr_msl]
          refine den_appP (t := ((i : Int), (j : Int))) S.lst rfl (by omega) fun v2 H2 nx2 hG e2 hn2 => ?_
          have b2 : H2 (nx + 2) = some [v] := (e2 _ (by have := S.top.1; omega)).trans S.box
          refine den_st1G (o := nx + 2) (p := 0) (m := 1) (u := v2) rfl rfl b2 rfl (by omega) hG.one fun H3 b3 e3 => ?_
          have S := S.app hG e2 hn2 b3 e3
          try simp (disch := (first | rfl | with_reducible assumption | with_reducible solve_by_elim (maxDepth := 8) [Shape.inT, Shape.inI, Shape.inC, Shape.inK, Shape.obF, Shape.obT, Shape.arI, Arr.inF] | omega)) only [S2, Nat.reduceEqDiff, Nat.reduceAdd, iput, puts, p_fadm (l := 5) S.out.obj rfl, p_ldm (n := 5) S.out.obj rfl]
          refine den_out1 (m := [(i : Int)]) S.out (Nat.le_refl _) rfl rfl rfl (by omega) rfl rfl (by simp) (by simp only [List.length_cons, List.length_nil]; omega) fun a7 H7 n7 out7 hn7 keep7 => ?_
          have S := S.out1 out7 hn7 keep7
          try simp (disch := (first | rfl | with_reducible assumption | with_reducible solve_by_elim (maxDepth := 8) [Shape.inT, Shape.inI, Shape.inC, Shape.inK, Shape.obF, Shape.obT, Shape.arI, Arr.inF] | omega)) only [S2, Nat.reduceEqDiff, Nat.reduceAdd, iput, puts, p_fadm (l := 5) S.out.obj rfl, p_ldm (n := 5) S.out.obj rfl]
          refine den_out2 (m := [(j : Int)]) S.out (Nat.le_refl _) rfl rfl rfl (by omega) rfl rfl (by simp) (by simp only [List.length_cons, List.length_nil]; omega) fun b7 H8 n8 out8 hn8 keep8 => ?_
          have S := S.out2 out8 hn8 keep8
          try simp (disch := (first | rfl | with_reducible assumption | with_reducible solve_by_elim (maxDepth := 8) [Shape.inT, Shape.inI, Shape.inC, Shape.inK, Shape.obF, Shape.obT, Shape.arI, Arr.inF] | omega)) only [S2, Nat.reduceEqDiff, Nat.reduceAdd, iput, puts]
          exact ⟨(j + 1, (v2, a7, b7, a6), _, _, _, _), rfl, ⟨hlj, fin (i + 1) _ _ _ _ _ _ _ _ _ _ (by rw [if_pos (by omega)]) S⟩, by simp only; omega⟩
        · have g2 : i ≠ j := fun e => by subst e; exact absurd rfl (by first | exact g2 | simpa using g2)
          have z : (if i < j then i + 1 else i) = (if i < j + 1 then i + 1 else i) := by split <;> split <;> omega
          try simp (disch := (first | rfl | with_reducible assumption | with_reducible solve_by_elim (maxDepth := 8) [Shape.inT, Shape.inI, Shape.inC, Shape.inK, Shape.obF, Shape.obT, Shape.arI, Arr.inF] | omega)) only [S2, Nat.reduceEqDiff, Nat.reduceAdd, iput, puts, p_ldm (n := 1) S.box rfl, pr_mka, pr_msl]
          refine den_appP (t := ((i : Int), (j : Int))) S.lst rfl (by omega) fun v2 H2 nx2 hG e2 hn2 => ?_
          have b2 : H2 (nx + 2) = some [v] := (e2 _ (by have := S.top.1; omega)).trans S.box
          refine den_st1G (o := nx + 2) (p := 0) (m := 1) (u := v2) rfl rfl b2 rfl (by omega) hG.one fun H3 b3 e3 => ?_
          have S := S.app hG e2 hn2 b3 e3
          try simp (disch := (first | rfl | with_reducible assumption | with_reducible solve_by_elim (maxDepth := 8) [Shape.inT, Shape.inI, Shape.inC, Shape.inK, Shape.obF, Shape.obT, Shape.arI, Arr.inF] | omega)) only [S2, Nat.reduceEqDiff, Nat.reduceAdd, iput, puts, p_fadm (l := 5) S.out.obj rfl, p_ldm (n := 5) S.out.obj rfl]
          refine den_out1 (m := [(i : Int)]) S.out (Nat.le_refl _) rfl rfl rfl (by omega) rfl rfl (by simp) (by simp only [List.length_cons, List.length_nil]; omega) fun a7 H7 n7 out7 hn7 keep7 => ?_
          have S := S.out1 out7 hn7 keep7
          try simp (disch := (first | rfl | with_reducible assumption | with_reducible solve_by_elim (maxDepth := 8) [Shape.inT, Shape.inI, Shape.inC, Shape.inK, Shape.obF, Shape.obT, Shape.arI, Arr.inF] | omega)) only [S2, Nat.reduceEqDiff, Nat.reduceAdd, iput, puts, p_fadm (l := 5) S.out.obj rfl, p_ldm (n := 5) S.out.obj rfl]
          refine den_out2 (m := [(j : Int)]) S.out (Nat.le_refl _) rfl rfl rfl (by omega) rfl rfl (by simp) (by simp only [List.length_cons, List.length_nil]; omega) fun b7 H8 n8 out8 hn8 keep8 => ?_
          have S := S.out2 out8 hn8 keep8
          try simp (disch := (first | rfl | with_reducible assumption | with_reducible solve_by_elim (maxDepth := 8) [Shape.inT, Shape.inI, Shape.inC, Shape.inK, Shape.obF, Shape.obT, Shape.arI, Arr.inF] | omega)) only [S2, Nat.reduceEqDiff, Nat.reduceAdd, iput, puts]
          exact ⟨(j + 1, (v2, a7, b7, vd), _, _, _, _), rfl, ⟨hlj, fin _ _ _ _ _ _ _ _ _ _ _ z S⟩, by simp only; omega⟩
    · have hje : j = R.length := by omega
      subst hje
      rw [jys, if_pos hli] at S
      try simp (disch := (first | rfl | with_reducible assumption | with_reducible solve_by_elim (maxDepth := 8) [Shape.inT, Shape.inI, Shape.inC, Shape.inK, Shape.obF, Shape.obT, Shape.arI, Arr.inF] | omega)) only [S2, Nat.reduceEqDiff, Nat.reduceAdd, iput, puts, hlj]
      exact ⟨(i + 1, (v, va, vb, vd), sL, s1, s2, s3), rfl, ⟨hli, S⟩, by simp only; omega⟩
  have hie : i = R.length := by omega
  subst hie
  unfold PrI at S
  simp only at S
  have hb3 := S.hb
  try simp (disch := (first | rfl | with_reducible assumption | with_reducible solve_by_elim (maxDepth := 8) [Shape.inT, Shape.inI, Shape.inC, Shape.inK, Shape.obF, Shape.obT, Shape.arI, Arr.inF] | omega)) only [S2, Nat.reduceEqDiff, Nat.reduceAdd, iput, puts, hli, p_ldm (n := 1) S.box rfl, S.lst.len]
  refine ⟨fun g1 => ?_, fun g1 => ?_⟩
  · try simp (disch := (first | rfl | with_reducible assumption | with_reducible solve_by_elim (maxDepth := 8) [Shape.inT, Shape.inI, Shape.inC, Shape.inK, Shape.obF, Shape.obT, Shape.arI, Arr.inF] | omega)) only [S2, Nat.reduceEqDiff, Nat.reduceAdd, iput, puts, mkZ]
    refine den_stR (o := nx) (m := 5) (d := [int 0, .nil, .nil, .nil, .nil]) rfl rfl S.res rfl rfl rfl fun H2 y2 e2 => ?_
    obtain ⟨H', q1, q2⟩ := bad 3 H2 n1 (by unfold poC; rw [if_pos n8, if_neg (by omega)]) (by decide) (by omega)
    refine ⟨.tup [.agg [int 0, .nil, .nil, .nil, .nil], int 3], ?_, H', q1, q2⟩
    simp only [retOf, rets, SS, Nat.reduceEqDiff, Nat.reduceAdd, iput, puts, pLd, y2]
    rfl
  have l40 : (prL R (R.length * R.length)).length ≤ 40 := by omega
  have e00 : poC R = 0 := by unfold poC; rw [if_pos n8, if_pos l40]
  have mf : ∀ H : Hp, pvf H (.mkf 420) [.mp (nx + 2) 0 1, .mp (nx + 1) 0 5] = some (.fn 420 [.mp (nx + 2) 0 1, .mp (nx + 1) 0 5]) := fun _ => rfl
  have fl := prF_len (R := R) (k := R.length * R.length)
  have tl2 := prT_len (R := R) (k := R.length * R.length)
  have qh := S.out.qh
  try simp (disch := (first | rfl | with_reducible assumption | with_reducible solve_by_elim (maxDepth := 8) [Shape.inT, Shape.inI, Shape.inC, Shape.inK, Shape.obF, Shape.obT, Shape.arI, Arr.inF] | omega)) only [S2, Nat.reduceEqDiff, Nat.reduceAdd, iput, puts, mf]
  refine den_callm (fc := (353, [])) rfl (table_ok har hta (fun a b => idxP (prL R (R.length * R.length)) ((prF R (R.length * R.length)).getD a 0, (prT R (R.length * R.length)).getD b 0)) R.length va vb vd (prF R (R.length * R.length)) (prT R (R.length * R.length)) (iPr R R.length) 420 [.mp (nx + 2) 0 1, .mp (nx + 1) 0 5] (nx + 1) H1 n1 S.out.obj S.out.qh (S.out.g1.rd fun o ho => (S.out.r1 o ho).2) (S.out.g2.rd fun o ho => (S.out.r2 o ho).2) (S.out.g3.rd fun o ho => (S.out.r3 o ho).2) (by rw [fl, tl2]) (by rw [fl]; omega) fun a b H' ha hb he mid => ?_) (IsTbl.some' S.out.qh) fun u H3 n3 hu => ?_
  · obtain ⟨m1, m2, ds, m3⟩ := mid
    have e3 := (m1 (nx + 2) (by omega) (by omega)).trans S.box
    have ls := (S.lst.kept (H' := H') fun o ho => m1 o (S.rL o ho).2.1 (by have := (S.rL o ho).1; omega)).frz 4
    have r1 := (S.out.g1.kept (H' := H') fun o ho => m1 o (S.out.r1 o ho).2.1 (S.out.r1 o ho).2.2).rd (lim := fun _ => True) fun _ _ => trivial
    have r2 := (S.out.g2.kept (H' := H') fun o ho => m1 o (S.out.r2 o ho).2.1 (S.out.r2 o ho).2.2).rd (lim := fun _ => True) fun _ _ => trivial
    have r3 := (S.out.g3.kept (H' := H') fun o ho => m1 o (S.out.r3 o ho).2.1 (S.out.r3 o ho).2.2).rd (lim := fun _ => True) fun _ _ => trivial
    have m3 := m3 2
    have x1 : frz H' fuel (.mp (nx + 1) 0 5) = some (.ptr [int (R.length : Int), islice (prF R (R.length * R.length)), islice (prT R (R.length * R.length)), islice (iPr R R.length), .sl ds (prF R (R.length * R.length)).length] 0) := by
      simp only [fuel, frz, m2]
      simp only [List.cons_append, List.nil_append, List.length_cons, List.length_nil, Nat.zero_add, Nat.reduceAdd, if_true, List.mapM_cons, List.mapM_nil, r1.frz, r2.frz, r3.frz, m3]
      rfl
    have x2 : frz H' fuel (.mp (nx + 2) 0 1) = some (.ptr [.sl (prCells (prL R (R.length * R.length))) (prL R (R.length * R.length)).length] 0) := by
      simp only [fuel, frz, e3, List.mapM_cons, List.mapM_nil, ls]
      rfl
    refine ⟨[.ptr [.sl (prCells (prL R (R.length * R.length))) (prL R (R.length * R.length)).length] 0, .ptr [int (R.length : Int), islice (prF R (R.length * R.length)), islice (prT R (R.length * R.length)), islice (iPr R R.length), .sl ds (prF R (R.length * R.length)).length] 0], ?_, ?_⟩
    · simp only [frzL, List.mapM_cons, List.mapM_nil, x1, x2]
      rfl
    · exact pre1_fz hsi hix hq1 R.length _ _ _ _ _ (by omega) a b ha (by omega)
  obtain ⟨rfl, rfl, hT⟩ := hu
  have out3 := S.out.table hT
  have y3 := (hT.low nx (by omega) (by omega)).trans S.res
  try simp (disch := (first | rfl | with_reducible assumption | with_reducible solve_by_elim (maxDepth := 8) [Shape.inT, Shape.inI, Shape.inC, Shape.inK, Shape.obF, Shape.obT, Shape.arI, Arr.inF] | omega)) only [S2, Nat.reduceEqDiff, Nat.reduceAdd, iput, puts, p_ldsm (l := 5) out3.obj rfl]
  refine den_stR (o := nx) (m := 5) rfl rfl y3 rfl rfl out3.ones fun H4 y4 e4 => ?_
  have out4 := out3.mono (H' := H4) (Nat.le_refl _) fun t h1 _ => e4 t (by omega)
  obtain ⟨H5, q4, q5⟩ := out4.own.back (w := int 0) (nx := nx) (by omega) (by omega)
  have e1 : poR R = poK R := by rw [poR, if_pos e00]
  exact ⟨_, (by simp only [retOf, rets, SS, Nat.reduceEqDiff, Nat.reduceAdd, iput, puts, pLd, y4]; rfl), H5, q4, (by rw [e1, e00]; exact q5)⟩
end Go.Av
