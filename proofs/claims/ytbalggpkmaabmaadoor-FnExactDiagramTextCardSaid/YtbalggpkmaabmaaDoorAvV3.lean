/-
  Diagrams: copies, comparisons, checks of the program and the reference.
-/
import Derived.Test.YtbalggpkmaabmaaDoorAvV2
namespace Go.Av
open Classical
set_option linter.unusedSimpArgs false
set_option linter.unusedVariables false
variable {P : Program} {ν : Nat → FuncId}

theorem nd_of {L : List Pr} {k : Nat} : L.getD k pr0 = nd L k := rfl
theorem pr_get {L : List Pr} {k : Nat} (h : k < L.length) : (prCells L)[k * 2]? = some (int (nd L k).1) := by
  have e := prCells_at h
  have z := prCells_len L
  have : (((prCells L).drop (k * 2)).take 2)[0]? = some (int (nd L k).1) := by rw [e]; rfl
  simpa using this
section
variable {H : Hp} {L : List Pr} {k : Nat} {t : Pr}
theorem pr_ldA : (pr2c t)[0]? = some (int t.1) := rfl
theorem pr_ldB : (pr2c t)[1]? = some (int t.2) := rfl
end
theorem Low.newst {H H1 H3 H4 : Hp} {a b : Nat} (h : Low H a H1 b) (e3 : ∀ j, j ≠ b → H3 j = H1 j) (e4 : ∀ j, j ≠ b → H4 j = H3 j) : Low H a H4 (b + 1) := h.new (fun j hj => (e4 j hj).trans (e3 j hj)) (by omega)

def V_laws_szDiagramNodeS : Vc :=
  .op true (.p .len [.t 0]) <|
  .op true (.p (.bin .sub) [.t 1, .t 2]) <|
  .op true (.p (.bin .lss) [.t 3, .c (int 0)]) <|
  .br 4
   (.ret [(.c (int (-1)), none)])
   (.ret [(.t 3, none)])
theorem szDN_ok (h : Has P ν 131 2 V_laws_szDiagramNodeS) (L : List Pr) (left : Int) (h0 : 0 ≤ left) (h1 : left ≤ 1048576) (hl : L.length ≤ 9223372036854775807) : Fn P ν 131 [.sl (prCells L) L.length, int left] (int (if left - L.length < 0 then -1 else left - L.length)) := by
  intro H nx
  refine h _ _ _ _ rfl fun hwf => ?_
  unfold V_laws_szDiagramNodeS
  simp only [SS, Nat.reduceEqDiff, Nat.reduceAdd, iput, puts, wrap_id (show -9223372036854775808 ≤ left - (L.length : Int) by omega) (show left - (L.length : Int) ≤ 9223372036854775807 by omega)]
  refine ⟨fun h2 => ?_, fun h2 => ?_⟩
  · exact ⟨_, rfl, H, fun _ _ h => h, by rw [if_pos h2]; rfl, rfl, Nat.le_refl _⟩
  · exact ⟨_, rfl, H, fun _ _ h => h, by rw [if_neg h2]; rfl, rfl, Nat.le_refl _⟩

def V_laws_toDiagramNode : Vc :=
  .op true (.p .box [.t 0]) <|
  .op true (.new [int 0, int 0]) <|
  .op true (.new [int 0, int 0]) <|
  .op true (.p (.fad 0) [.t 1]) <|
  .op true (.p (.ld none) [.t 4]) <|
  .op true (.p (.fad 0) [.t 3]) <|
  .op true (.st 1 (.t 6) (.t 5)) <|
  .op true (.p (.fad 1) [.t 1]) <|
  .op true (.p (.ld none) [.t 8]) <|
  .op true (.p (.fad 1) [.t 3]) <|
  .op true (.st 1 (.t 10) (.t 9)) <|
  .op true (.p (.ld (some 2)) [.t 3]) <|
  .op true (.st 2 (.t 2) (.t 12)) <|
  .ret [(.t 2, some (some 2))]
theorem toDN_ok (h : Has P ν 271 1 V_laws_toDiagramNode) (t : Pr) (H : Hp) (nx : Nat) : OkM P ν 271 [.agg (pr2c t)] H nx (fun r H' nx' => r = .agg (pr2c t) ∧ Low H nx H' nx') := by
  refine h _ _ _ _ rfl fun hwf => ?_
  unfold V_laws_toDiagramNode
  try simp (disch := (first | rfl | with_reducible assumption | with_reducible solve_by_elim (maxDepth := 8) [Shape.inT, Shape.inI, Shape.inC, Shape.inK, Shape.obF, Shape.obT, Shape.arI, Arr.inF] | omega)) only [S2, Nat.reduceEqDiff, Nat.reduceAdd, iput, puts, pr_box]
  refine den_newG fun H1 z1 e1 => den_newG fun H2 z2 e2 => ?_
  have z1 := (e2 nx (by omega)).trans z1
  try simp (disch := (first | rfl | with_reducible assumption | with_reducible solve_by_elim (maxDepth := 8) [Shape.inT, Shape.inI, Shape.inC, Shape.inK, Shape.obF, Shape.obT, Shape.arI, Arr.inF] | omega)) only [S2, Nat.reduceEqDiff, Nat.reduceAdd, iput, puts, pr_ldA, p_fadm (l := 2) z2 rfl]
  refine den_stG (p := 0) (k := 1) (m := 2) (c' := [int t.1, int 0]) (by rfl) (by rfl) z2 (by rfl) (by rfl) (show 0 + 1 ≤ 2 by omega) (by rfl) (by rfl) fun H4 z4 e4 => ?_
  try simp (disch := (first | rfl | with_reducible assumption | with_reducible solve_by_elim (maxDepth := 8) [Shape.inT, Shape.inI, Shape.inC, Shape.inK, Shape.obF, Shape.obT, Shape.arI, Arr.inF] | omega)) only [S2, Nat.reduceEqDiff, Nat.reduceAdd, iput, puts, pr_ldB, p_fadm (l := 2) z4 rfl]
  refine den_stG (p := 1) (k := 1) (m := 2) (c' := pr2c t) (by rfl) (by rfl) z4 (by rfl) (by rfl) (show 1 + 1 ≤ 2 by omega) (by rfl) (by rfl) fun H8 z8 e8 => ?_
  try simp (disch := (first | rfl | with_reducible assumption | with_reducible solve_by_elim (maxDepth := 8) [Shape.inT, Shape.inI, Shape.inC, Shape.inK, Shape.obF, Shape.obT, Shape.arI, Arr.inF] | omega)) only [S2, Nat.reduceEqDiff, Nat.reduceAdd, iput, puts, p_ldsm (l := 2) z8 rfl]
  have k1 : H8 nx = H2 nx := by rw [e8 _ (by omega), e4 _ (by omega)]
  refine den_stG (p := 0) (k := 2) (m := 2) (o := nx) (c' := pr2c t) (by rfl) (by rfl) (k1.trans z1) (by rfl) (by rfl) (show 0 + 2 ≤ 2 by omega) (by rfl) (by rfl) fun H11 z11 e11 => ?_
  refine ⟨.agg (pr2c t), ?_, H11, fun _ _ h => h, rfl, by omega, fun o ho => ?_⟩
  · simp only [retOf, rets, SS, Nat.reduceEqDiff, Nat.reduceAdd, iput, puts, pLd, z11]
    rfl
  · rw [e11 _ (by omega), e8 _ (by omega), e4 _ (by omega), e2 _ (by omega), e1 _ (by omega)]

def prFill (L : List Pr) (i : Nat) : List Pr := L.take i ++ List.replicate (L.length - i) pr0
theorem prFill_len {L : List Pr} {i : Nat} (h : i ≤ L.length) : (prFill L i).length = L.length := by simp [prFill]; omega
theorem pr_rep (n : Nat) : (List.replicate n [int 0, int 0]).flatten = prCells (List.replicate n pr0) := by
  induction n with
  | zero => rfl
  | succ n ih => simp only [List.replicate_succ, List.flatten_cons, ih]; rfl
theorem prCells_app (a b : List Pr) : prCells (a ++ b) = prCells a ++ prCells b := by simp [prCells, List.flatMap_append]
theorem prFill_step {L : List Pr} {i : Nat} (h : i < L.length) : (prCells (prFill L i)).take (i * 2) ++ pr2c (nd L i) ++ (prCells (prFill L i)).drop (i * 2 + 2) = prCells (prFill L (i + 1)) := by
  have e1 : L.take (i + 1) = L.take i ++ [nd L i] := by rw [List.take_succ_eq_append_getElem h]; simp [nd, h]
  have e2 : L.length - i = (L.length - (i + 1)) + 1 := by omega
  have z := prCells_len (L.take i)
  have zl : (L.take i).length = i := by simp; omega
  unfold prFill
  rw [e1, e2, List.replicate_succ, prCells_app, prCells_app, prCells_app]
  rw [zl] at z
  rw [List.take_left' z, show i * 2 + 2 = (prCells (L.take i)).length + 2 by omega, List.drop_append]
  have q : prCells (pr0 :: List.replicate (L.length - (i + 1)) pr0) = int 0 :: int 0 :: prCells (List.replicate (L.length - (i + 1)) pr0) := rfl
  have q1 : prCells [nd L i] = pr2c (nd L i) := rfl
  rw [q, q1]
  simp
def V_laws_toDiagramNodeS : Vc :=
  .op true (.p .len [.t 0]) <|
  .op true (.mks [int 0, int 0] (.t 1) (.t 1)) <|
  .loop 0 [.c (int 0)] <|
  .op true (.p .len [.t 0]) <|
  .op true (.p (.bin .lss) [.t 3, .t 4]) <|
  .br 5
   (.op true (.p (.iad 2) [.t 0, .t 3]) <|
   .op true (.p (.ld (some 2)) [.t 6]) <|
   .op true (.callm (.f 271) [.t 7]) <|
   .op true (.p (.iad 2) [.t 2, .t 3]) <|
   .op true (.st 2 (.t 9) (.t 8)) <|
   .op true (.p (.bin .add) [.t 3, .c (int 1)]) <|
   .again 0 [.t 11])
   (.ret [(.t 2, none)])
theorem toDNS_fz (ht : Has P ν 271 1 V_laws_toDiagramNode) (h : Has P ν 133 1 V_laws_toDiagramNodeS) (L : List Pr) (hl : L.length ≤ 1048576) : Fz (OkM P ν) 133 [.sl (prCells L) L.length] (.sl (prCells L) L.length) := by
  refine OkM.fz (Ψ := fun H nx r H' nx' => frzN H' fuel r = some (.sl (prCells L) L.length)) (fun H nx => h _ _ _ _ rfl fun hwf => ?_) fun _ _ _ hh => hh
  unfold V_laws_toDiagramNodeS
  simp only [SS, Nat.reduceEqDiff, Nat.reduceAdd, iput, puts]
  refine den_mks (q := (.ms nx 0 L.length 2, hput H nx (some (prCells (prFill L 0))), nx + 1)) ?_ ?_
  · simp only [SS, Nat.reduceEqDiff, Nat.reduceAdd, iput, puts, mkTo, int]
    rw [if_pos (by omega)]
    have := pr_rep L.length
    simp only [int] at this
    simp [prFill, this]
  have z0 : hput H nx (some (prCells (prFill L 0))) nx = some (prCells (prFill L 0)) := hput_eq _ _ _
  generalize hput H nx (some (prCells (prFill L 0))) = H1 at z0
  refine den_loop (α := Nat) (fun i => [int i]) (fun i H' nx' => i ≤ L.length ∧ H' nx = some (prCells (prFill L i)) ∧ nx + 1 ≤ nx') (fun i => L.length - i) 0 rfl ⟨Nat.zero_le _, z0, Nat.le_refl _⟩ ?_
  rintro i H' nx' ⟨hi, z, le⟩
  have fl := prFill_len hi
  have cl := prCells_len (prFill L i)
  rw [fl] at cl
  by_cases hlt : i < L.length
  · try simp (disch := (first | rfl | with_reducible assumption | with_reducible solve_by_elim (maxDepth := 8) [Shape.inT, Shape.inI, Shape.inC, Shape.inK, Shape.obF, Shape.obT, Shape.arI, Arr.inF] | omega)) only [S2, Nat.reduceEqDiff, Nat.reduceAdd, iput, puts, hlt, pr_iad hlt, pr_ld hlt]
    refine den_callm (fc := (271, [])) rfl (toDN_ok ht (nd L i) H' nx') ⟨_, H', nx', rfl, Low.refl _ _⟩ fun u H6 n6 hu => ?_
    obtain ⟨rfl, lo⟩ := hu
    have z6 := (lo.eq nx (by omega)).trans z
    have le6 := lo.le
    have pi : pvf H6 (.iad 2) [.ms nx 0 L.length 2, int (i : Int)] = some (.mp nx (i * 2) (L.length * 2)) := by
      simp [pvf, pIad, z6, int, cl, hlt]
    try simp (disch := (first | rfl | with_reducible assumption | with_reducible solve_by_elim (maxDepth := 8) [Shape.inT, Shape.inI, Shape.inC, Shape.inK, Shape.obF, Shape.obT, Shape.arI, Arr.inF] | omega)) only [S2, Nat.reduceEqDiff, Nat.reduceAdd, iput, puts, pi]
    refine den_stG (o := nx) (p := i * 2) (k := 2) (m := L.length * 2) (c' := prCells (prFill L (i + 1))) (by rfl) (by rfl) z6 cl (by rfl) (by omega) (by rfl) (prFill_step hlt) fun H8 z8 e8 => ?_
    try simp (disch := (first | rfl | with_reducible assumption | with_reducible solve_by_elim (maxDepth := 8) [Shape.inT, Shape.inI, Shape.inC, Shape.inK, Shape.obF, Shape.obT, Shape.arI, Arr.inF] | omega)) only [S2, Nat.reduceEqDiff, Nat.reduceAdd, iput, puts, wrap_succ (show i < 9223372036854775807 by omega)]
    exact ⟨i + 1, rfl, ⟨by omega, z8, by omega⟩, by omega⟩
  · try simp (disch := (first | rfl | with_reducible assumption | with_reducible solve_by_elim (maxDepth := 8) [Shape.inT, Shape.inI, Shape.inC, Shape.inK, Shape.obF, Shape.obT, Shape.arI, Arr.inF] | omega)) only [S2, Nat.reduceEqDiff, Nat.reduceAdd, iput, puts, hlt]
    have : i = L.length := by omega
    subst this
    have ee : prFill L L.length = L := by simp [prFill]
    rw [ee] at z
    refine ⟨.ms nx 0 L.length 2, rfl, H', fun _ _ h => h, ?_⟩
    have zl := prCells_len L
    have mm : ∀ k (M : List Pr), (prCells M).mapM (frzN H' k) = some (prCells M) := fun k M => by
      induction M with
      | nil => rfl
      | cons t M ih =>
        have e : prCells (t :: M) = int t.1 :: int t.2 :: prCells M := rfl
        rw [e]
        simp only [List.mapM_cons, frzN_int, ih]
        rfl
    show frzN H' (_ + 1) _ = _
    simp only [frzN, z, mm, zl, Nat.zero_add, if_true, Option.map_some, List.drop_zero]
end Go.Av
