/-
  Union and find over a slice; numbering of classes: the program's.
-/
import Derived.Test.YtalfoffamemfnaaAvJ0
import Derived.Test.YtalfoffamemfnaaAvK0
import Derived.Test.YtalfoffamemfnaaAvD0
namespace Go.Av
open Classical
set_option linter.unusedSimpArgs false
set_option linter.unusedVariables false
variable {P : Program} {ν : Nat → FuncId}

theorem p_iadN {H : Hp} {o n : Nat} {l : List Int} (h : H o = some (ints l)) (hl : l.length = n) {i : Nat} (hi : i < n) : pvf H (.iad 1) [.ms o 0 n 1, int (i : Int)] = some (.mp o i n) := by
  rw [p_iadm h (by simp [ints, hl]), if_pos ⟨by omega, by omega⟩]; simp
theorem p_ldN {H : Hp} {o n : Nat} {l : List Int} (h : H o = some (ints l)) (hl : l.length = n) {i : Nat} (hi : i < n) : pvf H (.ld none) [.mp o i n] = some (int (l.getD i 0)) := by
  rw [p_ldm h (by simp [ints, hl])]
  have : i < l.length := by omega
  simp [ints, List.getD, this]
theorem p_lenN {H : Hp} {o n : Nat} {l : List Int} (h : H o = some (ints l)) (hl : l.length = n) : pvf H .len [.ms o 0 n 1] = some (int n) := p_lenm h (by rw [ints_length, hl])
theorem isI_of {l : List Int} {H : Hp} {nx : Nat} {H' : Hp} {nx' o : Nat} (hw : Wf H nx) (h0 : nx ≤ o) (h1 : o < nx') (ho : H' o = some (ints l)) (low : ∀ j, j < nx → H' j = H j) : ∃ H2 : Hp, (∀ q d, H2 q = some d → H' q = some d) ∧ IsI l H nx (.ms o 0 l.length 1) H2 nx' := by
  refine ⟨hput H o (some (ints l)), fun q d hq => ?_, by omega, .inr ⟨o, h0, h1, rfl, rfl⟩⟩
  by_cases eq : q = o
  · subst eq; rw [hput_eq] at hq; rw [ho]; exact hq
  · rw [hput_ne _ _ _ _ eq] at hq
    have : q < nx := by
      by_cases e : q < nx
      · exact e
      · rw [hw q (by omega)] at hq; cases hq
    rw [low q this]; exact hq
def upto (n : Nat) : List Int := (List.range n).map fun (i : Nat) => (i : Int)
theorem upto_len {n : Nat} : (upto n).length = n := by simp [upto]
theorem upto_at {n i : Nat} (h : i < n) : (upto n).getD i 0 = i := by simp [upto, List.getD, h]
/-- A new slice. -/
def NewL (l : List Int) (H : Hp) (nx : Nat) (r : AV) (H' : Hp) (nx' : Nat) : Prop := r = .ms nx 0 l.length 1 ∧ nx' = nx + 1 ∧ H' nx = some (ints l) ∧ ∀ j, j ≠ nx → H' j = H j
theorem NewL.some (l : List Int) (H : Hp) (nx : Nat) : ∃ u H' nx', NewL l H nx u H' nx' := ⟨_, hput H nx (Option.some (ints l)), _, rfl, rfl, hput_eq _ _ _, fun j hj => hput_ne _ _ _ _ hj⟩
def V_numbers : Vc :=
  .op true (.mks [int 0] (.t 0) (.t 0)) <|
  .op true (.p .len [.t 1]) <|
  .loop 0 [.c (int 0)] <|
  .op true (.p (.bin .lss) [.t 3, .t 2]) <|
  .br 4
   (.op true (.p (.iad 1) [.t 1, .t 3]) <|
   .op true (.st 1 (.t 5) (.t 3)) <|
   .op true (.p (.bin .add) [.t 3, .c (int 1)]) <|
   .again 0 [.t 7])
   (.ret [(.t 1, none)])
theorem numbers_ok (h : Has P ν 425 1 V_numbers) (n : Nat) (hn : n ≤ 1048576) (H : Hp) (nx : Nat) : OkM P ν 425 [int n] H nx (NewL (upto n) H nx) := by
  refine h _ _ _ _ rfl fun hwf => ?_
  unfold V_numbers
  refine den_mksG (m := n) (z := int 0) rfl rfl (by omega) fun H1 z1 e1 => ?_
  rw [rep_int] at z1
  have zl : (List.replicate n (0 : Int)).length = n := List.length_replicate
  try simp (disch := (first | rfl | with_reducible assumption | with_reducible solve_by_elim (maxDepth := 8) [Shape.inT, Shape.inI, Shape.inC, Shape.inK, Shape.obF, Shape.obT, Shape.arI, Arr.inF] | omega)) only [S2, Nat.reduceEqDiff, Nat.reduceAdd, iput, puts, p_lenN z1 zl]
  refine den_loop (α := Nat) (fun a => [int a]) (fun a H' nx' => a ≤ n ∧ nx' = nx + 1 ∧ H' nx = some (ints ((upto n).take a ++ List.replicate ((upto n).length - a) 0)) ∧ ∀ j, j ≠ nx → H' j = H j) (fun a => n - a) 0 rfl ⟨Nat.zero_le _, rfl, by rw [upto_len]; simpa using z1, e1⟩ ?_
  rintro i H2 n2 ⟨hi, rfl, z2, e2⟩
  have ll : ((upto n).take i ++ List.replicate ((upto n).length - i) 0).length = n := by simp [upto_len]; omega
  by_cases hlt : i < n
  · try simp (disch := (first | rfl | with_reducible assumption | with_reducible solve_by_elim (maxDepth := 8) [Shape.inT, Shape.inI, Shape.inC, Shape.inK, Shape.obF, Shape.obT, Shape.arI, Arr.inF] | omega)) only [S2, Nat.reduceEqDiff, Nat.reduceAdd, iput, puts, hlt, p_iadN z2 ll hlt]
    refine den_st1G (o := nx) (p := i) (m := n) (u := int i) rfl rfl z2 (by rw [ints_length]; exact ll) hlt rfl fun H3 z3 e3 => ?_
    rw [ints_set] at z3
    try simp (disch := (first | rfl | with_reducible assumption | with_reducible solve_by_elim (maxDepth := 8) [Shape.inT, Shape.inI, Shape.inC, Shape.inK, Shape.obF, Shape.obT, Shape.arI, Arr.inF] | omega)) only [S2, Nat.reduceEqDiff, Nat.reduceAdd, iput, puts]
    refine ⟨i + 1, rfl, ⟨by omega, ?_, fun j hj => by rw [e3 j hj]; exact e2 j hj⟩, by omega⟩
    have := fill_succ (l := upto n) (i := i) (by rw [upto_len]; exact hlt)
    rw [upto_at hlt] at this
    rw [z3, this]
  · try simp (disch := (first | rfl | with_reducible assumption | with_reducible solve_by_elim (maxDepth := 8) [Shape.inT, Shape.inI, Shape.inC, Shape.inK, Shape.obF, Shape.obT, Shape.arI, Arr.inF] | omega)) only [S2, Nat.reduceEqDiff, Nat.reduceAdd, iput, puts, hlt]
    have : i = n := by omega
    subst this
    refine ⟨_, rfl, H2, fun _ _ h => h, by rw [upto_len]; rfl, rfl, ?_, e2⟩
    rw [z2, List.take_of_length_le (by rw [upto_len]; omega), upto_len]
    simp
def V_joinerOf : Vc :=
  .op true (.callm (.f 425) [.t 0]) <|
  .ret [(.t 1, none)]
theorem joinerOf_ok (h1 : Has P ν 425 1 V_numbers) (h : Has P ν 394 1 V_joinerOf) (n : Nat) (hn : n ≤ 1048576) (H : Hp) (nx : Nat) : OkM P ν 394 [int n] H nx (NewL (upto n) H nx) := by
  refine h _ _ _ _ rfl fun hwf => ?_
  unfold V_joinerOf
  refine den_callm (fc := (425, [])) rfl (numbers_ok h1 n hn H nx) (NewL.some _ _ _) fun u H1 n1 hu => ?_
  exact ⟨_, rfl, H1, fun _ _ h => h, hu⟩

/-- The joiner in object o. -/
structure JAt (H : Hp) (o n : Nat) (R : Nat → Nat) : Prop where
  ex : ∃ J, H o = some (ints J) ∧ J.length = n ∧ Forest J R
def RootP (o n : Nat) (R : Nat → Nat) (x : Nat) (H : Hp) (nx : Nat) (r : AV) (H' : Hp) (nx' : Nat) : Prop := r = int (R x) ∧ nx' = nx ∧ JAt H' o n R ∧ ∀ j, j ≠ o → H' j = H j
def V_joiner_root : Vc :=
  .loop 0 [.t 1] <|
  .op true (.p (.iad 1) [.t 0, .t 2]) <|
  .op true (.p (.ld none) [.t 3]) <|
  .op true (.p (.bin .neq) [.t 4, .t 2]) <|
  .br 5
   (.op true (.p (.iad 1) [.t 0, .t 2]) <|
   .op true (.p (.ld none) [.t 6]) <|
   .op true (.p (.iad 1) [.t 0, .t 7]) <|
   .op true (.p (.ld none) [.t 8]) <|
   .op true (.p (.iad 1) [.t 0, .t 2]) <|
   .op true (.st 1 (.t 10) (.t 9)) <|
   .op true (.p (.iad 1) [.t 0, .t 2]) <|
   .op true (.p (.ld none) [.t 12]) <|
   .again 0 [.t 13])
   (.ret [(.t 2, none)])
theorem root_ok (h : Has P ν 414 2 V_joiner_root) (o n : Nat) (R : Nat → Nat) (H : Hp) (nx : Nat) (hJ : JAt H o n R) (x : Int) (xn : Nat) (hx : x = xn) (hlt : xn < n) : OkM P ν 414 [.ms o 0 n 1, int x] H nx (RootP o n R xn H nx) := by
  subst hx
  obtain ⟨J, hJ, hn, F⟩ := hJ.ex
  refine h _ _ _ _ rfl fun hwf => ?_
  unfold V_joiner_root
  refine den_loop (α := Nat × List Int) (fun a => [int a.1]) (fun a H' nx' => a.1 < n ∧ R a.1 = R xn ∧ H' o = some (ints a.2) ∧ a.2.length = n ∧ Forest a.2 R ∧ (∀ j, j ≠ o → H' j = H j) ∧ nx' = nx) (fun a => a.1) (xn, J) rfl ⟨hlt, rfl, hJ, hn, F, fun _ _ => rfl, rfl⟩ ?_
  clear hJ hn F J
  rintro ⟨y, K⟩ H1 n1 ⟨hy, hR, hK, hl, F, low, rfl⟩
  simp only at hy hR hK hl F
  have yk : y < K.length := by omega
  have lo := F.lo y yk
  have le := F.le y yk
  obtain ⟨v, hv⟩ : ∃ v : Nat, K.getD y 0 = v := ⟨(K.getD y 0).toNat, by omega⟩
  have hvn : v < n := by omega
  have lo2 := F.lo v (by omega)
  have le2 := F.le v (by omega)
  obtain ⟨w, hw⟩ : ∃ w : Nat, K.getD v 0 = w := ⟨(K.getD v 0).toNat, by omega⟩
  have r1 : pvf H1 (.ld none) [.mp o y n] = some (int (v : Int)) := by rw [p_ldN hK hl hy, hv]
  have r2 : pvf H1 (.ld none) [.mp o v n] = some (int (w : Int)) := by rw [p_ldN hK hl hvn, hw]
  try simp (disch := (first | rfl | with_reducible assumption | with_reducible solve_by_elim (maxDepth := 8) [Shape.inT, Shape.inI, Shape.inC, Shape.inK, Shape.obF, Shape.obT, Shape.arI, Arr.inF] | omega)) only [S2, Nat.reduceEqDiff, Nat.reduceAdd, iput, puts, p_iadN hK hl hy, r1]
  refine ⟨fun h1 => ?_, fun h1 => ?_⟩
  · try simp (disch := (first | rfl | with_reducible assumption | with_reducible solve_by_elim (maxDepth := 8) [Shape.inT, Shape.inI, Shape.inC, Shape.inK, Shape.obF, Shape.obT, Shape.arI, Arr.inF] | omega)) only [S2, Nat.reduceEqDiff, Nat.reduceAdd, iput, puts, p_iadN hK hl hy, r1, p_iadN hK hl hvn, r2]
    refine den_st1G (o := o) (p := y) (m := n) (u := int w) rfl rfl hK (by rw [ints_length]; exact hl) hy rfl fun H2 z2 e2 => ?_
    rw [ints_set] at z2
    have hl2 : (K.set y (w : Int)).length = n := by rw [List.length_set]; exact hl
    have r3 : pvf H2 (.ld none) [.mp o y n] = some (int (w : Int)) := by rw [p_ldN z2 hl2 hy, getD_set, if_pos ⟨rfl, yk⟩]
    try simp (disch := (first | rfl | with_reducible assumption | with_reducible solve_by_elim (maxDepth := 8) [Shape.inT, Shape.inI, Shape.inC, Shape.inK, Shape.obF, Shape.obT, Shape.arI, Arr.inF] | omega)) only [S2, Nat.reduceEqDiff, Nat.reduceAdd, iput, puts, p_iadN z2 hl2 hy, r3]
    have hne : K.getD y 0 ≠ y := by rw [hv]; omega
    have FH := F.halve yk hne
    rw [hv, Int.toNat_natCast, hw] at FH
    have vy : v < y := by omega
    have eR : R w = R y := by
      rw [F.up y yk hne, hv, Int.toNat_natCast]
      by_cases e3 : K.getD v 0 = (v : Int)
      · have : w = v := by omega
        rw [this]
      · rw [F.up v (by omega) e3, hw, Int.toNat_natCast]
    refine ⟨(w, K.set y (w : Int)), rfl, ⟨by simp only; omega, by simp only; rw [eR]; exact hR, z2, hl2, FH, fun j hj => by rw [e2 j hj]; exact low j hj⟩, by simp only; omega⟩
  · try simp (disch := (first | rfl | with_reducible assumption | with_reducible solve_by_elim (maxDepth := 8) [Shape.inT, Shape.inI, Shape.inC, Shape.inK, Shape.obF, Shape.obT, Shape.arI, Arr.inF] | omega)) only [S2, Nat.reduceEqDiff, Nat.reduceAdd, iput, puts]
    have e : K.getD y 0 = y := by rw [hv]; omega
    refine ⟨_, rfl, H1, fun _ _ h => h, ?_, rfl, ⟨K, hK, hl, F⟩, low⟩
    rw [← hR, F.top y yk e]
    rfl
def joinR (R : Nat → Nat) (x y : Nat) : Nat → Nat := fun i => if R i = max (R x) (R y) then min (R x) (R y) else R i
def JoinP (o n : Nat) (R : Nat → Nat) (x y : Nat) (H : Hp) (nx : Nat) (r : AV) (H' : Hp) (nx' : Nat) : Prop := r = bool (decide (R x ≠ R y)) ∧ nx' = nx ∧ JAt H' o n (joinR R x y) ∧ ∀ j, j ≠ o → H' j = H j
theorem JAt.some {H : Hp} {o n : Nat} {R : Nat → Nat} (hJ : JAt H o n R) {x : Nat} {nx : Nat} : ∃ u H' nx', RootP o n R x H nx u H' nx' := ⟨_, H, nx, rfl, rfl, hJ, fun _ _ => rfl⟩
theorem p_max {H : Hp} {a b : Nat} : pvf H (.mmx true) [int (a : Int), int (b : Int)] = some (int ((max a b : Nat) : Int)) := by
  have : (max (a : Int) (b : Int)) = ((max a b : Nat) : Int) := by omega
  rw [← this]; rfl
theorem p_min {H : Hp} {a b : Nat} : pvf H (.mmx false) [int (a : Int), int (b : Int)] = some (int ((min a b : Nat) : Int)) := by
  have : (min (a : Int) (b : Int)) = ((min a b : Nat) : Int) := by omega
  rw [← this]; rfl
def V_joiner_join : Vc :=
  .op true (.callm (.f 414) [.t 0, .t 1]) <|
  .op true (.callm (.f 414) [.t 0, .t 2]) <|
  .op true (.p (.mmx true) [.t 3, .t 4]) <|
  .op true (.p (.mmx false) [.t 3, .t 4]) <|
  .op true (.p (.iad 1) [.t 0, .t 5]) <|
  .op true (.st 1 (.t 7) (.t 6)) <|
  .op true (.p (.bin .neq) [.t 3, .t 4]) <|
  .ret [(.t 9, none)]
theorem join_ok (hr : Has P ν 414 2 V_joiner_root) (h : Has P ν 395 3 V_joiner_join) (o n : Nat) (R : Nat → Nat) (H : Hp) (nx : Nat) (hJ : JAt H o n R) (x y : Int) (xn yn : Nat) (hx : x = xn) (hy : y = yn) (hxn : xn < n) (hyn : yn < n) : OkM P ν 395 [.ms o 0 n 1, int x, int y] H nx (JoinP o n R xn yn H nx) := by
  refine h _ _ _ _ rfl fun hwf => ?_
  unfold V_joiner_join
  refine den_callm (fc := (414, [])) rfl (root_ok hr o n R H nx hJ x xn hx hxn) hJ.some fun u H1 n1 hu => ?_
  obtain ⟨rfl, rfl, hJ1, low1⟩ := hu
  refine den_callm (fc := (414, [])) rfl (root_ok hr o n R H1 _ hJ1 y yn hy hyn) hJ1.some fun u H2 n2 hu => ?_
  obtain ⟨rfl, rfl, hJ2, low2⟩ := hu
  obtain ⟨J, hz, hl, F⟩ := hJ2.ex
  have ra := (F.root xn (by omega)).1
  have rb := (F.root yn (by omega)).1
  have hM : max (R xn) (R yn) < n := by omega
  try simp (disch := (first | rfl | with_reducible assumption | with_reducible solve_by_elim (maxDepth := 8) [Shape.inT, Shape.inI, Shape.inC, Shape.inK, Shape.obF, Shape.obT, Shape.arI, Arr.inF] | omega)) only [S2, Nat.reduceEqDiff, Nat.reduceAdd, iput, puts, p_max, p_min, p_iadN hz hl hM]
  refine den_st1G (o := o) (p := max (R xn) (R yn)) (m := n) (u := int ((min (R xn) (R yn) : Nat) : Int)) rfl rfl hz (by rw [ints_length]; exact hl) hM rfl fun H3 z3 e3 => ?_
  rw [ints_set] at z3
  try simp (disch := (first | rfl | with_reducible assumption | with_reducible solve_by_elim (maxDepth := 8) [Shape.inT, Shape.inI, Shape.inC, Shape.inK, Shape.obF, Shape.obT, Shape.arI, Arr.inF] | omega)) only [S2, Nat.reduceEqDiff, Nat.reduceAdd, iput, puts]
  have FJ := F.join (a := R xn) (b := R yn) (by omega) (by omega) (F.idem (by omega)) (F.idem (by omega))
  refine ⟨_, rfl, H3, fun _ _ h => h, ?_, rfl, ⟨_, z3, by rw [List.length_set]; exact hl, FJ⟩, fun j hj => by rw [e3 j hj, low2 j hj, low1 j hj]⟩
  show bool _ = bool _
  congr 1
  rw [Bool.eq_iff_iff]
  simp
  omega
theorem joinR_tells {R : Nat → Nat} {l : List (Nat × Nat)} (h : Tells R (inP l)) (x y : Nat) : Tells (joinR R x y) (inP (l ++ [(x, y)])) :=
  Tells.snoc (h.join x y fun u v => min_join x y u v)

/-- The labels by a function. -/
def labs (f : Nat → Nat) (n : Nat) : List Int := (List.range n).map fun i => (f i : Int)
theorem labs_len {f : Nat → Nat} {n : Nat} : (labs f n).length = n := by simp [labs]
theorem labs_at {f : Nat → Nat} {n i : Nat} (h : i < n) : (labs f n).getD i 0 = f i := by simp [labs, List.getD, h]
theorem nrm_len {f : Nat → Nat} {n : Nat} : (nrm f n).length = n := by simp [nrm]
theorem nrm_at {f : Nat → Nat} {n i : Nat} (h : i < n) : (nrm f n).getD i 0 = numOf f i := by simp [nrm, List.getD, h]
def numL (f : Nat → Nat) : Nat → List (List Int × AV)
  | 0 => []
  | i + 1 => numL f i ++ if isFst f i then [([(f i : Int)], int ((fsts f i).length : Nat))] else []
theorem numL_len (f : Nat → Nat) (n : Nat) : (numL f n).length = (fsts f n).length := by
  induction n with
  | zero => rfl
  | succ n ih =>
    rw [numL, fsts_succ, List.length_append, List.length_append, ih]
    split <;> rfl
theorem mfind_append (a b : List (List Int × AV)) (k : List Int) : mfind (a ++ b) k = (mfind a k).or (mfind b k) := by
  unfold mfind
  rw [List.find?_append]
  cases a.find? (·.1 == k) <;> rfl
theorem numL_none {f : Nat → Nat} {k : Nat} : ∀ {i : Nat}, (∀ j, j < i → f j ≠ k) → mfind (numL f i) [(k : Int)] = none := by
  intro i
  induction i with
  | zero => intro _; rfl
  | succ i ih =>
    intro h
    rw [numL, mfind_append, ih fun j hj => h j (by omega)]
    have hk := h i (by omega)
    split
    · have hk' : ¬ (f i : Int) = k := by omega
      simp [mfind, hk']
    · rfl
theorem numL_some {f : Nat → Nat} {j : Nat} (hj : isFst f j = true) : ∀ {i : Nat}, j < i → mfind (numL f i) [(f j : Int)] = some (int ((fsts f j).length : Nat)) := by
  intro i
  induction i with
  | zero => intro h; omega
  | succ i ih =>
    intro h
    rw [numL, mfind_append]
    by_cases e : j = i
    · subst e
      rw [numL_none (of_decide_eq_true hj), if_pos hj]
      simp [mfind]
    · rw [ih (by omega)]
      rfl
theorem mput_new {l : List (List Int × AV)} {k : List Int} {x : AV} (h : mfind l k = none) : mput l k x = l ++ [(k, x)] := by
  unfold mfind at h
  rw [Option.map_eq_none_iff, List.find?_eq_none] at h
  induction l with
  | nil => rfl
  | cons e l ih =>
    have h1 := h e (by simp)
    simp only [mput, List.cons_append]
    rw [if_neg h1, ih fun y hy => h y (by simp [hy])]
def V_normal : Vc :=
  .op true .mkm <|
  .op true (.p .len [.t 0]) <|
  .op true (.mks [int 0] (.t 2) (.t 2)) <|
  .op true (.p .len [.t 0]) <|
  .loop 0 [.c (int 0)] <|
  .op true (.p (.bin .lss) [.t 5, .t 4]) <|
  .br 6
   (.op true (.p (.iad 1) [.t 0, .t 5]) <|
   .op true (.p (.ld none) [.t 7]) <|
   .op true (.p (.mget none true (int 0)) [.t 1, .t 8]) <|
   .op true (.p (.ext 0) [.t 9]) <|
   .op true (.p (.ext 1) [.t 9]) <|
   .op true (.p .bnot [.t 11]) <|
   .br 12
    (.op true (.p .mlen [.t 1]) <|
    .op true (.mset none (.t 1) (.t 8) (.t 13)) <|
    .op true (.p (.iad 1) [.t 3, .t 5]) <|
    .op true (.st 1 (.t 15) (.t 13)) <|
    .op true (.p (.bin .add) [.t 5, .c (int 1)]) <|
    .again 0 [.t 17])
    (.op true (.p (.iad 1) [.t 3, .t 5]) <|
    .op true (.st 1 (.t 13) (.t 10)) <|
    .op true (.p (.bin .add) [.t 5, .c (int 1)]) <|
    .again 0 [.t 15]))
   (.ret [(.t 3, none)])
set_option maxHeartbeats 1000000 in
theorem normal_ok (h : Has P ν 365 1 V_normal) (f : Nat → Nat) (n : Nat) (hn : n ≤ 1048576) (H : Hp) (nx : Nat) : OkM P ν 365 [islice (labs f n)] H nx (IsI (nrm f n) H nx) := by
  refine h _ _ _ _ rfl fun hwf => ?_
  unfold V_normal
  refine den_mkm (kd := none) fun H1 m1 e1 => ?_
  have ln := labs_len (f := f) (n := n)
  try simp (disch := (first | rfl | with_reducible assumption | with_reducible solve_by_elim (maxDepth := 8) [Shape.inT, Shape.inI, Shape.inC, Shape.inK, Shape.obF, Shape.obT, Shape.arI, Arr.inF] | omega)) only [S2, Nat.reduceEqDiff, Nat.reduceAdd, iput, puts, ln]
  refine den_mksG (m := n) (z := int 0) rfl rfl (by omega) fun H2 z2 e2 => ?_
  rw [rep_int] at z2
  have m2 : MapAt H2 nx none [] := m1.kept (e2 nx (by omega))
  try simp (disch := (first | rfl | with_reducible assumption | with_reducible solve_by_elim (maxDepth := 8) [Shape.inT, Shape.inI, Shape.inC, Shape.inK, Shape.obF, Shape.obT, Shape.arI, Arr.inF] | omega)) only [S2, Nat.reduceEqDiff, Nat.reduceAdd, iput, puts, ln]
  refine den_loop (α := Nat) (fun a => [int a]) (fun a H' nx' => a ≤ n ∧ nx' = nx + 1 + 1 ∧ MapAt H' nx none (numL f a) ∧ H' (nx + 1) = some (ints ((nrm f n).take a ++ List.replicate ((nrm f n).length - a) 0)) ∧ ∀ j, j < nx → H' j = H j) (fun a => n - a) 0 rfl ⟨Nat.zero_le _, rfl, m2, by rw [nrm_len]; simpa using z2, fun j hj => by rw [e2 j (by omega), e1 j (by omega)]⟩ ?_
  clear m2 z2 e2 m1 e1
  rintro i H3 n3 ⟨hi, rfl, m3, z3, low⟩
  have ll : ((nrm f n).take i ++ List.replicate ((nrm f n).length - i) 0).length = n := by simp [nrm_len]; omega
  by_cases hlt : i < n
  · have i1 : In (labs f n) (i : Int) := In.nat (by rw [ln]; exact hlt)
    have g1 : gI (labs f n) (i : Int) = (f i : Int) := by rw [gI_nat]; exact labs_at hlt
    have fill := fill_succ (l := nrm f n) (i := i) (by rw [nrm_len]; exact hlt)
    rw [nrm_at hlt] at fill
    have fl := fsts_len f i
    cases hf : isFst f i with
    | true =>
      have nf := numL_none (f := f) (k := f i) (of_decide_eq_true hf)
      have g2 : pvf H3 (.mget none true (int 0)) [.mm nx, int (f i : Int)] = some (.tup [int 0, bool false]) := by
        have := (m3.get (mkey_int (f i : Int)) (int 0)).1
        rw [nf] at this
        exact this
      try simp (disch := (first | rfl | with_reducible assumption | with_reducible solve_by_elim (maxDepth := 8) [Shape.inT, Shape.inI, Shape.inC, Shape.inK, Shape.obF, Shape.obT, Shape.arI, Arr.inF] | omega)) only [S2, Nat.reduceEqDiff, Nat.reduceAdd, iput, puts, hlt, ln, g1, g2]
      have len := m3.len
      rw [numL_len] at len
      try simp (disch := (first | rfl | with_reducible assumption | with_reducible solve_by_elim (maxDepth := 8) [Shape.inT, Shape.inI, Shape.inC, Shape.inK, Shape.obF, Shape.obT, Shape.arI, Arr.inF] | omega)) only [S2, Nat.reduceEqDiff, Nat.reduceAdd, iput, puts, len]
      refine den_mset (o := nx) (kl := [(f i : Int)]) (x := int ((fsts f i).length : Nat)) rfl m3 rfl rfl rfl fun H4 m4 e4 => ?_
      rw [mput_new nf] at m4
      have z4 := (e4 (nx + 1) (by omega)).trans z3
      try simp (disch := (first | rfl | with_reducible assumption | with_reducible solve_by_elim (maxDepth := 8) [Shape.inT, Shape.inI, Shape.inC, Shape.inK, Shape.obF, Shape.obT, Shape.arI, Arr.inF] | omega)) only [S2, Nat.reduceEqDiff, Nat.reduceAdd, iput, puts, p_iadN z4 ll hlt]
      refine den_st1G (o := nx + 1) (p := i) (m := n) (u := int ((fsts f i).length : Nat)) rfl rfl z4 (by rw [ints_length]; exact ll) hlt rfl fun H5 z5 e5 => ?_
      rw [ints_set] at z5
      try simp (disch := (first | rfl | with_reducible assumption | with_reducible solve_by_elim (maxDepth := 8) [Shape.inT, Shape.inI, Shape.inC, Shape.inK, Shape.obF, Shape.obT, Shape.arI, Arr.inF] | omega)) only [S2, Nat.reduceEqDiff, Nat.reduceAdd, iput, puts]
      refine ⟨i + 1, rfl, ⟨by omega, ?_, ?_, fun j hj => by rw [e5 j (by omega), e4 j (by omega)]; exact low j hj⟩, by omega⟩
      · rw [numL, if_pos hf]
        exact m4.kept (e5 nx (by omega))
      · rw [z5, ← numOf_new hf, fill]
    | false =>
      obtain ⟨j, hj, hjf, hje, hnum⟩ := numOf_old hf
      have nf := numL_some hjf hj
      rw [hje] at nf
      have g2 : pvf H3 (.mget none true (int 0)) [.mm nx, int (f i : Int)] = some (.tup [int ((fsts f j).length : Nat), bool true]) := by
        have := (m3.get (mkey_int (f i : Int)) (int 0)).1
        rw [nf] at this
        exact this
      try simp (disch := (first | rfl | with_reducible assumption | with_reducible solve_by_elim (maxDepth := 8) [Shape.inT, Shape.inI, Shape.inC, Shape.inK, Shape.obF, Shape.obT, Shape.arI, Arr.inF] | omega)) only [S2, Nat.reduceEqDiff, Nat.reduceAdd, iput, puts, hlt, ln, g1, g2, p_iadN z3 ll hlt]
      refine den_st1G (o := nx + 1) (p := i) (m := n) (u := int ((fsts f j).length : Nat)) rfl rfl z3 (by rw [ints_length]; exact ll) hlt rfl fun H5 z5 e5 => ?_
      rw [ints_set] at z5
      try simp (disch := (first | rfl | with_reducible assumption | with_reducible solve_by_elim (maxDepth := 8) [Shape.inT, Shape.inI, Shape.inC, Shape.inK, Shape.obF, Shape.obT, Shape.arI, Arr.inF] | omega)) only [S2, Nat.reduceEqDiff, Nat.reduceAdd, iput, puts]
      refine ⟨i + 1, rfl, ⟨by omega, ?_, ?_, fun j hj => by rw [e5 j (by omega)]; exact low j hj⟩, by omega⟩
      · rw [numL, if_neg (by rw [hf]; decide), List.append_nil]
        exact m3.kept (e5 nx (by omega))
      · rw [z5, ← hnum, fill]
  · try simp (disch := (first | rfl | with_reducible assumption | with_reducible solve_by_elim (maxDepth := 8) [Shape.inT, Shape.inI, Shape.inC, Shape.inK, Shape.obF, Shape.obT, Shape.arI, Arr.inF] | omega)) only [S2, Nat.reduceEqDiff, Nat.reduceAdd, iput, puts, hlt, ln]
    have : i = n := by omega
    subst this
    rw [List.take_of_length_le (by rw [nrm_len]; omega), nrm_len] at z3
    simp only [Nat.sub_self, List.replicate_zero, List.append_nil] at z3
    obtain ⟨H4, s4, i4⟩ := isI_of (l := nrm f i) hwf (show nx ≤ nx + 1 by omega) (show nx + 1 < nx + 1 + 1 by omega) z3 low
    rw [nrm_len] at i4
    exact ⟨_, rfl, H4, s4, i4⟩

/-- What a partition leaves. -/
def PartP (o n : Nat) (f : Nat → Nat) (H : Hp) (nx : Nat) (r : AV) (H' : Hp) (nx' : Nat) : Prop := nx ≤ nx' ∧ Own1 (nrm f n) r H' nx nx' ∧ ∀ j, j < nx → j ≠ o → H' j = H j
theorem PartP.some {o n : Nat} {f : Nat → Nat} {H : Hp} {nx : Nat} : ∃ u H' nx', PartP o n f H nx u H' nx' := ⟨_, hput H nx (Option.some (ints (nrm f n))), nx + 1, Nat.le_succ _, .inr ⟨nx, Nat.le_refl _, Nat.lt_succ_self _, rfl, hput_eq _ _ _⟩, fun j hj _ => hput_ne _ _ _ _ (by omega)⟩
def V_joiner_partition : Vc :=
  .op true (.p .len [.t 0]) <|
  .op true (.mks [int 0] (.t 1) (.t 1)) <|
  .op true (.p .len [.t 0]) <|
  .loop 0 [.c (int 0)] <|
  .op true (.p (.bin .lss) [.t 4, .t 3]) <|
  .br 5
   (.op true (.callm (.f 414) [.t 0, .t 4]) <|
   .op true (.p (.iad 1) [.t 2, .t 4]) <|
   .op true (.st 1 (.t 7) (.t 6)) <|
   .op true (.p (.bin .add) [.t 4, .c (int 1)]) <|
   .again 0 [.t 9])
   (.op true (.callo (.f 365) [.t 2]) <|
   .ret [(.t 6, none)])
set_option maxHeartbeats 1000000 in
theorem partition_ok (hr : Has P ν 414 2 V_joiner_root) (hno : Has P ν 365 1 V_normal) (h : Has P ν 396 1 V_joiner_partition) (o n : Nat) (hn : n ≤ 1048576) (R : Nat → Nat) (H : Hp) (nx : Nat) (hJ : JAt H o n R) (hon : o < nx) : OkM P ν 396 [.ms o 0 n 1] H nx (PartP o n R H nx) := by
  refine h _ _ _ _ rfl fun hwf => ?_
  unfold V_joiner_partition
  obtain ⟨J, z0, hl, F⟩ := hJ.ex
  try simp (disch := (first | rfl | with_reducible assumption | with_reducible solve_by_elim (maxDepth := 8) [Shape.inT, Shape.inI, Shape.inC, Shape.inK, Shape.obF, Shape.obT, Shape.arI, Arr.inF] | omega)) only [S2, Nat.reduceEqDiff, Nat.reduceAdd, iput, puts, p_lenN z0 hl]
  refine den_mksG (m := n) (z := int 0) rfl rfl (by omega) fun H1 z1 e1 => ?_
  rw [rep_int] at z1
  have z01 := (e1 o (by omega)).trans z0
  try simp (disch := (first | rfl | with_reducible assumption | with_reducible solve_by_elim (maxDepth := 8) [Shape.inT, Shape.inI, Shape.inC, Shape.inK, Shape.obF, Shape.obT, Shape.arI, Arr.inF] | omega)) only [S2, Nat.reduceEqDiff, Nat.reduceAdd, iput, puts, p_lenN z01 hl]
  refine den_loop (α := Nat) (fun a => [int a]) (fun a H' nx' => a ≤ n ∧ nx' = nx + 1 ∧ JAt H' o n R ∧ H' nx = some (ints ((labs R n).take a ++ List.replicate ((labs R n).length - a) 0)) ∧ ∀ j, j < nx → j ≠ o → H' j = H j) (fun a => n - a) 0 rfl ⟨Nat.zero_le _, rfl, ⟨J, z01, hl, F⟩, by rw [labs_len]; simpa using z1, fun j hj _ => e1 j (by omega)⟩ ?_
  clear z01 z1 e1 F hl z0 J
  rintro i H2 n2 ⟨hi, rfl, hJ2, z2, low⟩
  have ll : ((labs R n).take i ++ List.replicate ((labs R n).length - i) 0).length = n := by simp [labs_len]; omega
  by_cases hlt : i < n
  · try simp (disch := (first | rfl | with_reducible assumption | with_reducible solve_by_elim (maxDepth := 8) [Shape.inT, Shape.inI, Shape.inC, Shape.inK, Shape.obF, Shape.obT, Shape.arI, Arr.inF] | omega)) only [S2, Nat.reduceEqDiff, Nat.reduceAdd, iput, puts, hlt]
    refine den_callm (fc := (414, [])) rfl (root_ok hr o n R H2 _ hJ2 i i rfl hlt) hJ2.some fun u H3 n3 hu => ?_
    obtain ⟨rfl, rfl, hJ3, low3⟩ := hu
    have z3 := (low3 nx (by omega)).trans z2
    try simp (disch := (first | rfl | with_reducible assumption | with_reducible solve_by_elim (maxDepth := 8) [Shape.inT, Shape.inI, Shape.inC, Shape.inK, Shape.obF, Shape.obT, Shape.arI, Arr.inF] | omega)) only [S2, Nat.reduceEqDiff, Nat.reduceAdd, iput, puts, p_iadN z3 ll hlt]
    refine den_st1G (o := nx) (p := i) (m := n) (u := int (R i)) rfl rfl z3 (by rw [ints_length]; exact ll) hlt rfl fun H4 z4 e4 => ?_
    rw [ints_set] at z4
    try simp (disch := (first | rfl | with_reducible assumption | with_reducible solve_by_elim (maxDepth := 8) [Shape.inT, Shape.inI, Shape.inC, Shape.inK, Shape.obF, Shape.obT, Shape.arI, Arr.inF] | omega)) only [S2, Nat.reduceEqDiff, Nat.reduceAdd, iput, puts]
    have fill := fill_succ (l := labs R n) (i := i) (by rw [labs_len]; exact hlt)
    rw [labs_at hlt] at fill
    obtain ⟨J, z0, hl, F⟩ := hJ3.ex
    exact ⟨i + 1, rfl, ⟨by omega, ⟨J, (e4 o (by omega)).trans z0, hl, F⟩, by rw [z4, fill], fun j hj hjo => by rw [e4 j (by omega), low3 j hjo]; exact low j hj hjo⟩, by omega⟩
  · try simp (disch := (first | rfl | with_reducible assumption | with_reducible solve_by_elim (maxDepth := 8) [Shape.inT, Shape.inI, Shape.inC, Shape.inK, Shape.obF, Shape.obT, Shape.arI, Arr.inF] | omega)) only [S2, Nat.reduceEqDiff, Nat.reduceAdd, iput, puts, hlt]
    have : i = n := by omega
    subst this
    rw [List.take_of_length_le (by rw [labs_len]; omega), labs_len] at z2
    simp only [Nat.sub_self, List.replicate_zero, List.append_nil] at z2
    refine den_callo (fc := (365, [])) (ys := [islice (labs R i)]) rfl ?_ (normal_ok hno R i hn hempty (nx + 1)) (IsI.some _ _ _) fun u H' nx' hu => ?_
    · have : frz H2 fuel (.ms nx 0 i 1) = some (islice (labs R i)) := by
        have := frzN_frz _ _ _ (frzN_ms z2 5)
        rw [labs_len] at this
        exact this
      simp only [SS, Nat.reduceEqDiff, Nat.reduceAdd, iput, puts, frzL, List.mapM_cons, List.mapM_nil, List.append_nil, this]
      rfl
    obtain ⟨q1, q2, q3, own⟩ := hu.own H2
    refine ⟨q1, q2, _, rfl, _, fun _ _ h => h, ?_⟩
    refine ⟨by omega, ?_, fun j hj hjo => by rw [hmerge_lo (by omega)]; exact low j hj hjo⟩
    rcases own with ⟨e, rfl⟩ | ⟨o', o1, o2, rfl, e⟩
    · exact .inl ⟨e, rfl⟩
    · exact .inr ⟨o', by omega, o2, rfl, e⟩
end Go.Av
