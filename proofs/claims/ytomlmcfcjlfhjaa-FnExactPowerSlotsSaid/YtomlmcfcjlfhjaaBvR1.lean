/-
  Marks on lists of lists of the call's own.
-/
import Derived.Test.YtomlmcfcjlfhjaaBvR0
namespace Go.Av
set_option linter.unusedSectionVars false
set_option linter.unusedSimpArgs false
set_option linter.unusedVariables false
variable [md : Md]
open Classical
set_option linter.unusedSimpArgs false
set_option linter.unusedVariables false
variable {P : Program} {ν : Nat → FuncId}

def tot (R : List (List Int)) : Nat := (R.map List.length).sum
def seqR (k : Int) : List (List Int) → List (List Int)
  | [] => []
  | l :: R => seqI k l.length :: seqR (k + l.length) R
theorem tot_cons (l : List Int) (R : List (List Int)) : tot (l :: R) = l.length + tot R := by simp [tot]
theorem seqR_len : ∀ (R : List (List Int)) (k : Int), (seqR k R).length = R.length
  | [], _ => rfl
  | l :: R, k => by simp [seqR, seqR_len R]
theorem tot_take {R : List (List Int)} {i : Nat} (h : i < R.length) : tot (R.take (i + 1)) = tot (R.take i) + (R.getD i []).length := by
  rw [take_succ_rows h]; simp [tot]
theorem tot_take_le (R : List (List Int)) (i : Nat) : tot (R.take i) ≤ tot R := by
  induction R generalizing i with
  | nil => simp [tot]
  | cons l R ih =>
    cases i with
    | zero => simp [tot]
    | succ i => simp only [List.take_succ_cons, tot_cons]; have := ih i; omega
theorem seqR_getD : ∀ (R : List (List Int)) (k : Int) (i : Nat), i < R.length → (seqR k R).getD i [] = seqI (k + (tot (R.take i) : Int)) (R.getD i []).length
  | [], _, i, h => by simp at h
  | l :: R, k, 0, _ => by simp [seqR, tot]
  | l :: R, k, i + 1, h => by
    simp only [seqR, List.getD_cons_succ, List.take_succ_cons, tot_cons]
    rw [seqR_getD R _ i (by simpa using h)]
    congr 1
    omega
theorem seqR_row (R : List (List Int)) (k : Int) (i : Nat) : ((seqR k R).getD i []).length = (R.getD i []).length := by
  by_cases h : i < R.length
  · rw [seqR_getD R k i h, seqI_len]
  · simp [List.getD, List.getElem?_eq_none (show (seqR k R).length ≤ i by rw [seqR_len]; omega), List.getElem?_eq_none (show R.length ≤ i by omega)]

def V_laws_heldInt64SS : Vc :=
  .loop 0 [.t 1, .c (int 0)] <|
  .op true (.p .len [.t 0]) <|
  .op true (.p (.bin .lss) [.t 3, .t 4]) <|
  .br 5
   (.op true (.p (.iad 1) [.t 0, .t 3]) <|
   .op true (.p (.ld none) [.t 6]) <|
   .op true (.call (.f 11) [.t 7, .t 2]) <|
   .op true (.p (.bin .lss) [.t 8, .c (int 0)]) <|
   .br 9
    (.ret [(.c (int (-1)), none)])
    (.op true (.p (.bin .add) [.t 3, .c (int 1)]) <|
    .again 0 [.t 8, .t 10]))
   (.ret [(.t 2, none)])
set_option maxHeartbeats 1000000 in
theorem heldII_ok (h1 : Has P ν 11 2 V_laws_heldInt64S) (h : Has P ν 150 2 V_laws_heldInt64SS) (R : List (List Int)) (k : Int) (k0 : 0 ≤ k) (kl : k ≤ 9895604649984) (hl : R.length ≤ 1048576) (hr : ∀ i, i < R.length → (R.getD i []).length ≤ 1048576) (ht : tot R ≤ 1099511627776) :
    Fn P ν 150 [.sl (rows (seqR k R)) R.length, int k] (int (k + tot R)) := by
  intro H nx
  refine h _ _ _ _ rfl fun hwf => ?_
  unfold V_laws_heldInt64SS
  have sl := seqR_len R k
  refine den_loop (α := Nat) (fun i => [int (k + (tot (R.take i) : Int)), int i]) (fun i H' nx' => i ≤ R.length ∧ H' = H ∧ nx' = nx) (fun i => R.length - i) 0 ?_ ⟨Nat.zero_le _, rfl, rfl⟩ ?_
  · simp [ev_t, ev_c, env0_def, tot]
  · rintro i H' nx' ⟨hi, rfl, rfl⟩
    by_cases hlt : i < R.length
    · have hb := hr i hlt
      have hlt' : i < (seqR k R).length := by omega
      have t1 := tot_take_le R i
      have hh := (heldI_ok h1 (k + (tot (R.take i) : Int)) (R.getD i []).length (by omega) (by omega) (by omega)).fzi
      rw [← seqR_getD R k i hlt] at hh
      have w := wrap_succ (show i < 9223372036854775807 by omega)
      simp only [SS, Nat.reduceEqDiff, Nat.reduceAdd, iput, puts, hlt, hlt', sl]
      refine den_call (fc := (11, [])) rfl (by first | (simp only [SS, Nat.reduceEqDiff, Nat.reduceAdd, iput, puts, FF, frzL_cat]; done) | (simp only [SS, Nat.reduceEqDiff, Nat.reduceAdd, iput, puts, FF, frzL_cat]; rfl)) (hh) ?_
      have k6 : ¬ k + (tot (R.take i) : Int) + ((R.getD i []).length : Int) < 0 := by omega
      simp only [SS, Nat.reduceEqDiff, Nat.reduceAdd, iput, puts, k6, w]
      refine ⟨i + 1, ?_, by omega, by omega⟩
      rw [tot_take hlt]
      congr 2
      push_cast
      omega
    · have : i = R.length := by omega
      subst this
      simp only [SS, Nat.reduceEqDiff, Nat.reduceAdd, iput, puts, hlt, sl, List.take_length]
      exact ⟨_, rfl, _, fun _ _ h => h, rfl, rfl, Nat.le_refl _⟩

set_option maxHeartbeats 1000000 in
theorem markII_fr (hm : Has P ν 10 2 V_laws_markInt64S) (h : Has P ν 21 2 V_laws_markInt64SS) (R : List (List Int)) (k : Int) (r0 : AV) (M : Hp) (lo hi nx : Nat) (ho : OwnD R r0 M lo hi) (k0 : 0 ≤ k) (kl : k ≤ 9895604649984) (hl : R.length ≤ 1048576) (hr : ∀ i, i < R.length → (R.getD i []).length ≤ 1048576) (ht : tot R ≤ 1099511627776) :
    OkM P ν 21 [r0, int k] M nx (fun r H' nx' => r = int (k + tot R) ∧ nx' = nx ∧ OwnD (seqR k R) r0 H' lo hi ∧ ∀ t, (¬ ∃ (o m : Nat) (cells : List AV) (j n : Nat), r0 = AV.ms o 0 m 1 ∧ M o = some cells ∧ cells[j]? = some (AV.ms t 0 n 1)) → H' t = M t) := by
  refine h _ _ _ _ rfl fun hwf => ?_
  unfold V_laws_markInt64SS
  rcases ho with ⟨rfl, rfl⟩ | ⟨o, cells, rfl, g1, g2, g3, g4, g5, g6⟩
  · refine den_loop (α := Unit) (fun _ => [int k, int 0]) (fun _ H' nx' => H' = M ∧ nx' = nx) (fun _ => 0) () ?_ ⟨rfl, rfl⟩ ?_
    · simp [ev_t, ev_c, env0_def]
    · rintro _ H' nx' ⟨rfl, rfl⟩
      have : ¬ (0 : Int) < 0 := by omega
      simp only [SS, Nat.reduceEqDiff, Nat.reduceAdd, iput, puts, this, not_false_eq_true]
      exact ⟨_, rfl, _, fun _ _ h => h, by show int k = _; simp [tot], rfl, .inl ⟨rfl, rfl⟩, fun _ _ => rfl⟩
  refine den_loop (α := Nat) (fun i => [int (k + (tot (R.take i) : Int)), int i]) (fun i H' nx' => i ≤ R.length ∧ nx' = nx ∧ H' o = some cells ∧ (∀ j a, cells[j]? = some a → RowC H' lo hi o a (if j < i then (seqR k R).getD j [] else R.getD j [])) ∧ ∀ t, (∀ (j n : Nat), cells[j]? ≠ some (AV.ms t 0 n 1)) → H' t = M t) (fun i => R.length - i) 0 ?_ ⟨Nat.zero_le _, rfl, g3, fun j a ha => by rw [if_neg (by omega)]; exact g5 j a ha, fun _ _ => rfl⟩ ?_
  · simp [ev_t, ev_c, env0_def, tot]
  rintro i H' nx' ⟨hir, rfl, x1, x2, x3⟩
  by_cases hlt : i < R.length
  · have hb := hr i hlt
    have t1 := tot_take_le R i
    have w := wrap_succ (show i < 9223372036854775807 by omega)
    obtain ⟨a, ha⟩ : ∃ a, cells[i]? = some a := ⟨cells[i]'(by omega), by simp⟩
    have row := x2 i a ha
    rw [if_neg (by omega)] at row
    simp only [SS, Nat.reduceEqDiff, Nat.reduceAdd, iput, puts, hlt, p_lenm x1 g4, p_iadm x1 g4, p_ldm x1 g4, ha]
    have own : Own1 (R.getD i []) a H' lo hi := by
      rcases row with e | ⟨o', e1, e2, e3, e4, e5⟩
      · exact .inl e
      · exact .inr ⟨o', e2, e3, e1, e5⟩
    refine den_callm (fc := (10, [])) (Ψ := fun r H2 n2 => r = int (k + (tot (R.take i) : Int) + ((R.getD i []).length : Int)) ∧ n2 = nx' ∧ RowC H2 lo hi o a (seqI (k + (tot (R.take i) : Int)) (R.getD i []).length) ∧ (∀ t, (∀ n, a ≠ AV.ms t 0 n 1) → H2 t = H' t)) rfl ?_ ?_ fun u H2 n2 hu => ?_
    · rcases row with ⟨e, rfl⟩ | ⟨o', e1, e2, e3, e4, e5⟩
      · refine (markI_nil hm _ H' nx').mono ?_
        rintro r H2 n2 ⟨rfl, rfl, rfl⟩
        refine ⟨by rw [e]; simp, rfl, .inl ⟨by rw [e]; rfl, rfl⟩, fun _ _ => rfl⟩
      · subst e1
        refine (markI_ms hm _ _ o' H' nx' e5 (by omega) (by omega) (by omega)).mono ?_
        rintro r H2 n2 ⟨rfl, rfl, rfl⟩
        exact ⟨rfl, rfl, .inr ⟨o', by rw [seqI_len], e2, e3, e4, hput_eq _ _ _⟩, fun t ht => hput_ne _ _ _ _ fun e => ht _ (congrArg (fun t => AV.ms t 0 (R.getD i []).length 1) e.symm)⟩
    · rcases row with ⟨e, rfl⟩ | ⟨o', e1, e2, e3, e4, e5⟩
      · exact ⟨_, H', nx', rfl, rfl, .inl ⟨by rw [e]; rfl, rfl⟩, fun _ _ => rfl⟩
      · subst e1
        exact ⟨_, hput H' o' (some (ints (seqI (k + (tot (R.take i) : Int)) (R.getD i []).length))), nx', rfl, rfl, .inr ⟨o', by rw [seqI_len], e2, e3, e4, hput_eq _ _ _⟩, fun t ht => hput_ne _ _ _ _ fun e => ht _ (congrArg (fun t => AV.ms t 0 (R.getD i []).length 1) e.symm)⟩
    obtain ⟨rfl, rfl, q1, q2⟩ := hu
    simp only [SS, Nat.reduceEqDiff, Nat.reduceAdd, iput, puts, w]
    refine ⟨i + 1, ?_, ⟨by omega, ?_, fun j b hb2 => ?_, fun t ht => ?_⟩, by omega⟩
    · rw [tot_take hlt]
      congr 2
      push_cast
      omega
    · rw [q2 o fun n e => ?_]
      · exact x1
      · rcases row with ⟨_, e1⟩ | ⟨o', e1, e2, e3, e4, e5⟩
        · rw [e1] at e; cases e
        · rw [e1] at e; cases e; exact e4 rfl
    · by_cases ej : j = i
      · subst ej
        rw [if_pos (by omega), seqR_getD R k j hlt]
        rw [ha] at hb2
        cases hb2
        exact q1
      · have old := x2 j b hb2
        have e2 : (if j < i + 1 then (seqR k R).getD j [] else R.getD j []) = (if j < i then (seqR k R).getD j [] else R.getD j []) := by
          by_cases h1 : j < i
          · rw [if_pos h1, if_pos (by omega)]
          · rw [if_neg h1, if_neg (by omega)]
        rw [e2]
        rcases old with e | ⟨o', e1, e3, e4, e5, e6⟩
        · exact .inl e
        · refine .inr ⟨o', e1, e3, e4, e5, (q2 o' fun n e => ?_).trans e6⟩
          subst e1
          exact ej (g6 j i o' _ n hb2 (by rw [ha, e]))
    · rw [q2 t fun n e => ht i n (by rw [ha, e])]
      exact x3 t ht
  · have : i = R.length := by omega
    subst this
    simp only [SS, Nat.reduceEqDiff, Nat.reduceAdd, iput, puts, hlt, p_lenm x1 g4, List.take_length]
    refine ⟨_, rfl, _, fun _ _ h => h, rfl, rfl, .inr ⟨o, cells, by rw [seqR_len], g1, g2, x1, by rw [seqR_len]; exact g4, fun j a ha => ?_, g6⟩, fun t ht => x3 t fun j n e => ht ⟨o, _, cells, j, n, rfl, g3, e⟩⟩
    have hj : j < R.length := by have := (List.getElem?_eq_some_iff.1 ha).1; omega
    have := x2 j a ha
    rwa [if_pos hj] at this
theorem markII_own (hm : Has P ν 10 2 V_laws_markInt64S) (h : Has P ν 21 2 V_laws_markInt64SS) (R : List (List Int)) (k : Int) (r0 : AV) (M : Hp) (lo hi nx : Nat) (ho : OwnD R r0 M lo hi) (k0 : 0 ≤ k) (kl : k ≤ 9895604649984) (hl : R.length ≤ 1048576) (hr : ∀ i, i < R.length → (R.getD i []).length ≤ 1048576) (ht : tot R ≤ 1099511627776) :
    OkM P ν 21 [r0, int k] M nx (fun r H' nx' => r = int (k + tot R) ∧ nx' = nx ∧ OwnD (seqR k R) r0 H' lo hi ∧ ∀ o, o < lo ∨ hi ≤ o → H' o = M o) :=
  (markII_fr hm h R k r0 M lo hi nx ho k0 kl hl hr ht).mono fun r H' nx' ⟨h1, h2, h3, h4⟩ => ⟨h1, h2, h3, fun t ht => h4 t fun ⟨o, m, cells, j, n, e1, e2, e3⟩ => by
    rcases ho with ⟨_, rfl⟩ | ⟨o', cells', rfl, g1, g2, g3, g4, g5, g6⟩
    · cases e1
    · cases e1
      rw [g3] at e2; cases e2
      rcases g5 j _ e3 with ⟨_, q⟩ | ⟨o2, q, q2, q3, _⟩
      · cases q
      · cases q; omega⟩
theorem OwnD.marked {R : List (List Int)} {r : AV} {M : Hp} {lo hi : Nat} (h : OwnD R r M lo hi) (k : Int) (nx : Nat) : ∃ u H' nx', u = int (k + tot R) ∧ nx' = nx ∧ OwnD (seqR k R) r H' lo hi ∧ ∀ o, o < lo ∨ hi ≤ o → H' o = M o := by
  rcases h with ⟨rfl, rfl⟩ | ⟨o, cells, rfl, g1, g2, g3, g4, g5, g6⟩
  · exact ⟨_, M, nx, rfl, rfl, .inl ⟨rfl, rfl⟩, fun _ _ => rfl⟩
  · refine ⟨_, fun t => if t < lo ∨ hi ≤ t then M t else if t = o then Option.some cells else (match (List.range R.length).find? (fun j => decide (∃ n, cells[j]? = Option.some (AV.ms t 0 n 1))) with | Option.some j => Option.some (ints ((seqR k R).getD j [])) | none => M t), nx, rfl, rfl, .inr ⟨o, cells, by rw [seqR_len], g1, g2, ?_, by rw [seqR_len]; exact g4, fun j a ha => ?_, g6⟩, fun t ht => if_pos ht⟩
    · dsimp only; rw [if_neg (by omega), if_pos rfl]
    · have hj : j < R.length := by have := (List.getElem?_eq_some_iff.1 ha).1; omega
      rcases g5 j a ha with ⟨e1, e2⟩ | ⟨o', e1, e2, e3, e4, e5⟩
      · exact .inl ⟨List.eq_nil_of_length_eq_zero (by rw [seqR_row, e1]; rfl), e2⟩
      · refine .inr ⟨o', by rw [seqR_row]; exact e1, e2, e3, e4, ?_⟩
        subst e1
        dsimp only; rw [if_neg (by omega), if_neg e4]
        have hf : (List.range R.length).find? (fun j => decide (∃ n, cells[j]? = Option.some (AV.ms o' 0 n 1))) = Option.some j := by
          rw [List.find?_range_eq_some]
          refine ⟨by simpa using ⟨_, ha⟩, by simpa using hj, fun i hi => ?_⟩
          simp only [Bool.not_eq_true', decide_eq_false_iff_not]
          rintro ⟨n, hn⟩
          have := g6 i j o' _ _ hn ha
          omega
        rw [hf]
theorem eqII_same (h1 : Has P ν 7 2 V_laws_eqInt64S) (h : Has P ν 20 2 V_laws_eqInt64SS) (R : List (List Int)) (hl : R.length ≤ 1048576) (hr : ∀ i, i < R.length → (R.getD i []).length ≤ 1048576) : Fz (OkM P ν) 20 [.sl (rows R) R.length, .sl (rows R) R.length] (bool true) := by
  have := (eqII_ok h1 h R R (by omega) (fun k hk => by have := hr k hk; omega)).fzb
  rwa [decide_eq_true rfl] at this
end Go.Av
