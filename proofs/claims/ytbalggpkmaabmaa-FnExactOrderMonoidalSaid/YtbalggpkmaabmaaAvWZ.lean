/-
  Several texts in one: AvW7, AvW8a, AvW8, AvW9.
-/
import Derived.Test.YtbalggpkmaabmaaAvW6
import Derived.Test.YtbalggpkmaabmaaAvW0
import Derived.Test.YtbalggpkmaabmaaAvY2
import Derived.Test.YtbalggpkmaabmaaAvT5
import Derived.Test.YtbalggpkmaabmaaAvW6b
import Derived.Test.YtbalggpkmaabmaaAvW2b
/-
  Monoidal categories of ordered monoids: what both sides make.
-/
namespace Go.Av
open Classical
set_option linter.unusedSimpArgs false
set_option linter.unusedVariables false
variable {P : Program} {ν : Nat → FuncId}

def V_clones : Vc :=
  .op true (.p .len [.t 0]) <|
  .op true (.mks [.nil] (.c (int 0)) (.t 1)) <|
  .op true (.p .len [.t 0]) <|
  .loop 0 [.t 2, .c (int 0)] <|
  .op true (.p (.bin .lss) [.t 5, .t 3]) <|
  .br 6
   (.op true (.p (.iad 1) [.t 0, .t 5]) <|
   .op true (.p (.ld none) [.t 7]) <|
   .op true (.callo (.f 261) [.t 8]) <|
   .op true (.mslm 1 1 [.nil] [(0, 1)] [.t 9]) <|
   .op true (.app 1 (.t 4) (.t 10)) <|
   .op true (.p (.bin .add) [.t 5, .c (int 1)]) <|
   .again 0 [.t 11, .t 12])
   (.ret [(.t 4, none)])
theorem clones_own (hcl : Has P ν 261 1 V_clone) (h : Has P ν 364 1 V_clones) (R : List (List Int)) (hl : R.length ≤ 1048576) (hr : ∀ i, i < R.length → (R.getD i []).length ≤ 1048576) (nx : Nat) : OkM P ν 364 [.sl (rows R) R.length] hempty nx (IsD R nx) := by
  refine h _ _ _ _ rfl fun hwf => ?_
  unfold V_clones
  try simp (disch := (first | rfl | with_reducible assumption | with_reducible solve_by_elim (maxDepth := 8) [Shape.inT, Shape.inI, Shape.inC, Shape.inK, Shape.obF, Shape.obT, Shape.arI, Arr.inF] | omega)) only [S2, Nat.reduceEqDiff, Nat.reduceAdd, iput, puts]
  refine den_mks (q := (.ms nx 0 0 1, hput hempty nx (some []), nx + 1)) (by
    have : mkTo ⟨put (env0 [.sl (rows R) R.length]) 1 (int (R.length : Int)), hempty, nx⟩ [.nil] (int 0) (int (R.length : Int)) = some (.ms nx 0 0 1, hput hempty nx (some []), nx + 1) := by
      simp only [mkTo, int]
      rw [if_pos ⟨by omega, by omega, by omega⟩]
      rfl
    exact this) ?_
  have d0 : OwnD (R.take 0) (.ms nx 0 0 1) (hput hempty nx (some [])) nx (nx + 1) := .inr ⟨nx, [], rfl, Nat.le_refl _, by omega, hput_eq _ _ _, rfl, (fun k a hk => by simp at hk), (fun j k x n1 n2 hj hk => by simp at hj)⟩
  generalize hput hempty nx (some []) = H0 at d0
  try simp (disch := (first | rfl | with_reducible assumption | with_reducible solve_by_elim (maxDepth := 8) [Shape.inT, Shape.inI, Shape.inC, Shape.inK, Shape.obF, Shape.obT, Shape.arI, Arr.inF] | omega)) only [S2, Nat.reduceEqDiff, Nat.reduceAdd, iput, puts]
  refine den_loop (α := Nat × AV) (fun a => [a.2, int a.1]) (fun a H' nx' => a.1 ≤ R.length ∧ nx ≤ nx' ∧ OwnD (R.take a.1) a.2 H' nx nx') (fun a => R.length - a.1) (0, .ms nx 0 0 1) rfl ⟨Nat.zero_le _, by omega, d0⟩ ?_
  rintro ⟨i, v⟩ H1 n1 ⟨hi, h0, hI⟩
  simp only at hi h0 hI
  by_cases hlt : i < R.length
  · have iR : InR R (i : Int) := InR.nat hlt
    have bi := hr i hlt
    have tk : R.take (i + 1) = R.take i ++ [gR R i] := by
      rw [List.take_succ_eq_append_getElem hlt]
      congr 2
      show R[i] = R.getD i []
      simp [List.getD, hlt]
    try simp (disch := (first | rfl | with_reducible assumption | with_reducible solve_by_elim (maxDepth := 8) [Shape.inT, Shape.inI, Shape.inC, Shape.inK, Shape.obF, Shape.obT, Shape.arI, Arr.inF] | omega)) only [S2, Nat.reduceEqDiff, Nat.reduceAdd, iput, puts, hlt]
    refine den_clone hcl (gR R i) rfl (by show (R.getD i []).length ≤ _; omega) fun w s H2 n2 g2 r2 l2 k2 => ?_
    have hI2 := hI.mono (H' := H2) (Nat.le_refl _) fun t _ ht => k2 t ht
    refine den_rowF (l := gR R i) hI2 l2 (fun _ => rfl) h0 (by rw [List.length_take]; omega) (g2.own r2) fun v3 H4 n4 hI4 l4 _ _ _ => ?_
    try simp (disch := (first | rfl | with_reducible assumption | with_reducible solve_by_elim (maxDepth := 8) [Shape.inT, Shape.inI, Shape.inC, Shape.inK, Shape.obF, Shape.obT, Shape.arI, Arr.inF] | omega)) only [S2, Nat.reduceEqDiff, Nat.reduceAdd, iput, puts]
    refine ⟨(i + 1, v3), rfl, ⟨hlt, by omega, ?_⟩, by simp only; omega⟩
    simp only
    rw [tk]
    exact hI4
  · try simp (disch := (first | rfl | with_reducible assumption | with_reducible solve_by_elim (maxDepth := 8) [Shape.inT, Shape.inI, Shape.inC, Shape.inK, Shape.obF, Shape.obT, Shape.arI, Arr.inF] | omega)) only [S2, Nat.reduceEqDiff, Nat.reduceAdd, iput, puts, hlt]
    have : i = R.length := by omega
    subst this
    rw [List.take_length] at hI
    exact ⟨_, rfl, keepH nx H1, keepH_sub _ _, h0, hI.keep, keepH_cln _ _⟩

/-- The order fits the composition. -/
def MonoP (r t : List (List Int)) : Prop := ∀ i j k, i < r.length → j < r.length → k < r.length → E r i j = 1 → gI (gR r (E t i k)) (E t j k) = 1 ∧ gI (gR r (E t k i)) (E t k j) = 1
def OmP (r t : List (List Int)) : Prop := IsPre r ∧ IsMon t ∧ r.length = t.length
/-- The hom set that an arrow of the product is taken from. -/
noncomputable def omH (r t : List (List Int)) (f g : Nat) : List Int := homL (poK r) (gI (gR t ((prF r (r.length * r.length)).getD f 0)) ((prF r (r.length * r.length)).getD g 0)) (gI (gR t ((prT r (r.length * r.length)).getD f 0)) ((prT r (r.length * r.length)).getD g 0))
noncomputable def omRow (r t : List (List Int)) (f : Nat) : List Int := (List.range (prL r (r.length * r.length)).length).map fun g => (omH r t f g).getD 0 0
noncomputable def omT (r t : List (List Int)) (k : Nat) : List (List Int) := (List.range k).map (omRow r t)
noncomputable def moK (r t : List (List Int)) : Mon := ⟨poK r, 0, t, omT r t (prL r (r.length * r.length)).length⟩
def zeroM : Mon := ⟨zeroK, 0, [], []⟩
noncomputable def omC (r t : List (List Int)) : Int := if OmP r t then if MonoP r t then if FitX (poK r) then 0 else 3 else 5 else 1
noncomputable def omR (r t : List (List Int)) : Mon := if omC r t = 0 then moK r t else zeroM
section
variable {r t : List (List Int)}
theorem omRow_len {f : Nat} : (omRow r t f).length = (prL r (r.length * r.length)).length := by simp [omRow]
theorem omRow_at {f g : Nat} (h : g < (prL r (r.length * r.length)).length) : (omRow r t f).getD g 0 = (omH r t f g).getD 0 0 := by simp [omRow, List.getD, h]
theorem omT_len {k : Nat} : (omT r t k).length = k := by simp [omT]
theorem omT_succ {k : Nat} : omT r t (k + 1) = omT r t k ++ [omRow r t k] := by simp [omT, List.range_succ]
theorem poK_len : (poK r).f.length = (prL r (r.length * r.length)).length := prF_len
theorem poK_tlen : (poK r).t.length = (prL r (r.length * r.length)).length := prT_len
/-- A related pair is an arrow. -/
theorem hom_of {x y : Nat} (hx : x < r.length) (hy : y < r.length) (e : E r x y = 1) : 0 < (homL (poK r) x y).length := by
  have lt := jylt hx hy
  obtain ⟨rest, hr⟩ := prL_pre (R := r) (show x * r.length + y + 1 ≤ r.length * r.length from lt)
  rw [prL_succ hy, if_pos e] at hr
  have hk : (prL r (x * r.length + y)).length < (prL r (r.length * r.length)).length := by rw [hr]; simp
  have hF : (poK r).F ((prL r (x * r.length + y)).length : Int) = x := by
    show (prF r (r.length * r.length)).getD (prL r (x * r.length + y)).length 0 = x
    unfold prF
    rw [hr]
    simp [List.getD]
  have hT : (poK r).T ((prL r (x * r.length + y)).length : Int) = y := by
    show (prT r (r.length * r.length)).getD (prL r (x * r.length + y)).length 0 = y
    unfold prT
    rw [hr]
    simp [List.getD]
  have hm : ((prL r (x * r.length + y)).length : Int) ∈ homL (poK r) x y := by
    unfold homL selL
    refine List.mem_map.2 ⟨_, List.mem_filter.2 ⟨List.mem_range.2 (by rw [poK_len]; exact hk), ?_⟩, rfl⟩
    simp [hF, hT]
  exact List.length_pos_of_mem hm
theorem omH_pos (q : OmP r t) (mo : MonoP r t) {f g : Nat} (hf : f < (prL r (r.length * r.length)).length) (hg : g < (prL r (r.length * r.length)).length) : 0 < (omH r t f g).length := by
  obtain ⟨p, m, en⟩ := q
  obtain ⟨a, b, ha, hb, ea, eb, e1⟩ := prFT hf
  obtain ⟨a', b', ha', hb', ea', eb', e1'⟩ := prFT hg
  unfold omH
  rw [ea, eb, ea', eb']
  have x1 := m.rg a a' (by omega) (by omega)
  have x2 := m.rg b a' (by omega) (by omega)
  have x3 := m.rg b b' (by omega) (by omega)
  have h1 := (mo a b a' ha hb ha' e1).1
  have h2 := (mo a' b' b ha' hb' hb e1').2
  have c1 : ((E t a a').toNat : Int) = E t a a' := Int.toNat_of_nonneg x1.1
  have c2 : ((E t b a').toNat : Int) = E t b a' := Int.toNat_of_nonneg x2.1
  have c3 : ((E t b b').toNat : Int) = E t b b' := Int.toNat_of_nonneg x3.1
  have n1 : (E t a a').toNat < r.length := by omega
  have n2 : (E t b a').toNat < r.length := by omega
  have n3 : (E t b b').toNat < r.length := by omega
  have g1 : E r (E t a a').toNat (E t b a').toNat = 1 := by unfold E at c1 c2 ⊢; rw [c1, c2]; exact h1
  have g2 : E r (E t b a').toNat (E t b b').toNat = 1 := by unfold E at c2 c3 ⊢; rw [c2, c3]; exact h2
  have := hom_of n1 n3 (p.tr _ _ _ n1 n2 n3 g1 g2)
  rw [c1, c3] at this
  exact this
theorem zeroM_small : SmallM zeroM := ⟨zeroK_small, ⟨by simp [zeroM], fun k hk => by simp [zeroM] at hk⟩, ⟨by simp [zeroM], fun k hk => by simp [zeroM] at hk⟩⟩
theorem omR_small (b : SmallII t) : SmallM (omR r t) := by
  unfold omR
  split
  · rename_i e
    have fit : FitX (poK r) := by
      unfold omC at e
      by_cases h1 : OmP r t
      · rw [if_pos h1] at e
        by_cases h2 : MonoP r t
        · rw [if_pos h2] at e
          by_cases h3 : FitX (poK r)
          · exact h3
          · rw [if_neg h3] at e; omega
        · rw [if_neg h2] at e; omega
      · rw [if_neg h1] at e; omega
    have l40 : (prL r (r.length * r.length)).length ≤ 40 := by have := fit.2; rwa [poK_len] at this
    have n8 : (r.length : Int) ≤ 8 := fit.1
    refine ⟨⟨⟨?_, ?_, ?_, ?_⟩, fun k hk => ?_⟩, b, ⟨?_, fun k hk => ?_⟩⟩
    · show (poK r).f.length ≤ _; rw [poK_len]; omega
    · show (poK r).t.length ≤ _; rw [poK_tlen]; omega
    · show (iPr r r.length).length ≤ _; rw [iPr_len]; omega
    · show (tbl _ _ _).length ≤ _; rw [tbl_len, prF_len]; omega
    · have hk' : k < (prF r (r.length * r.length)).length := by
        have : (poK r).c.length = (prF r (r.length * r.length)).length := tbl_len
        have hk2 : k < (poK r).c.length := hk
        omega
      show ((tbl _ _ _).getD k []).length ≤ _
      rw [tbl_row hk', tblRow_len, prF_len]
      omega
    · show (omT r t _).length ≤ _; rw [omT_len]; omega
    · have hk' : k < (prL r (r.length * r.length)).length := by
        have : (moK r t).ar.length = (prL r (r.length * r.length)).length := omT_len
        omega
      have : (moK r t).ar.getD k [] = omRow r t k := by simp [moK, omT, List.getD, hk']
      rw [this, omRow_len]
      omega
  · exact zeroM_small
end
theorem zeroM_own {H : Hp} {lo hi : Nat} (h : lo ≤ hi) : OwnM zeroM (.agg [int 0, .nil, .nil, .nil, .nil, int 0, .nil, .nil]) H lo hi := by
  obtain ⟨a, b, d, e, q, o⟩ := zeroK_own (H := H) (lo := lo) (hi := lo)
  cases q
  exact ⟨.nil, .nil, .nil, .nil, .nil, .nil, rfl, ⟨lo, lo, Nat.le_refl _, Nat.le_refl _, h, o, OwnD.nil, OwnD.nil⟩⟩
theorem mkM {H : Hp} : pvf H (.mka [int 0, .nil, .nil, .nil, .nil, int 0, .nil, .nil] []) [] = some (.agg [int 0, .nil, .nil, .nil, .nil, int 0, .nil, .nil]) := rfl
/-- A category's struct in a box, frozen. -/
theorem OwnKC.box {x : Cat} {a b d e : AV} {H : Hp} {lo hi q : Nat} (h : OwnKC x a b d e H lo hi) (hq : H q = some [int x.o, a, b, d, e]) (l : List AV) : frzL H (.mp q 0 5 :: l) = (frzL H l).map (.ptr x.cells 0 :: ·) := by
  have e1 : frz H fuel (.mp q 0 5) = some (.ptr x.cells 0) := by
    simp only [fuel, frz, hq]
    simp only [List.length_cons, List.length_nil, Nat.zero_add, Nat.reduceAdd, if_true, List.mapM_cons, List.mapM_nil, h.f.frzk, h.t.frzk, h.i.frzk, h.c.frz 3, frz_int]
    rfl
  simp only [frzL, List.mapM_cons, e1]
  cases List.mapM (frz H fuel) l <;> rfl
end Go.Av

/-
  OrderMonoidal: the program's walk.
-/
namespace Go.Av
open Classical
set_option linter.unusedSimpArgs false
set_option linter.unusedVariables false
variable {P : Program} {ν : Nat → FuncId}

theorem p_mkaM {H : Hp} {k : Int} {a b d e g : AV} (h1 : a.one = true) (h2 : b.one = true) (h3 : d.one = true) (h4 : e.one = true) (h5 : g.one = true) :
    pvf H (.mka [int 0, .nil, .nil, .nil, .nil, int 0, .nil, .nil] [(0, 5), (6, 1)]) [.agg [int k, a, b, d, e], g] = some (.agg [int k, a, b, d, e, int 0, g, .nil]) := by
  have h0 : (AV.agg [int k, a, b, d, e]).cells = [int k, a, b, d, e] := rfl
  have h6 : (int k).one = true := rfl
  simp [pvf, pMka, lay, h0, h1, h2, h3, h4, h5, h6, AV.one_cells h5]
theorem Own1.rdY {l : List Int} {v : AV} {H : Hp} {lo hi : Nat} (h : Own1 l v H lo hi) : Rd H (fun _ => True) v l := by
  rcases h with ⟨rfl, rfl⟩ | ⟨o, h1, h2, rfl, h4⟩
  · exact .nil
  · exact .ms o l h4 trivial
def V_omT (dq : Nat) : Vc :=
  .op true (.p (.fad 1) [.t 16]) <|
  .op true (.p (.ld none) [.t 24]) <|
  .op true (.p .len [.t 25]) <|
  .loop 0 [.c (int 0)] <|
  .op true (.p (.bin .lss) [.t 27, .t 26]) <|
  .br 28
  (.op true (.p (.msl 0 [] []) []) <|
  .op true (.p (.fad 1) [.t 16]) <|
  .op true (.p (.ld none) [.t 30]) <|
  .op true (.p .len [.t 31]) <|
  .loop 1 [.t 29, .c (int 0)] <|
  .op true (.p (.bin .lss) [.t 34, .t 32]) <|
  .br 35
  (.op true (.p (.fad 1) [.t 16]) <|
  .op true (.p (.ld none) [.t 36]) <|
  .op true (.p (.iad 1) [.t 37, .t 27]) <|
  .op true (.p (.ld none) [.t 38]) <|
  .op true (.p (.iad 1) [.t 1, .t 39]) <|
  .op true (.p (.ld none) [.t 40]) <|
  .op true (.p (.fad 1) [.t 16]) <|
  .op true (.p (.ld none) [.t 42]) <|
  .op true (.p (.iad 1) [.t 43, .t 34]) <|
  .op true (.p (.ld none) [.t 44]) <|
  .op true (.p (.iad 1) [.t 41, .t 45]) <|
  .op true (.p (.ld none) [.t 46]) <|
  .op true (.p (.fad 2) [.t 16]) <|
  .op true (.p (.ld none) [.t 48]) <|
  .op true (.p (.iad 1) [.t 49, .t 27]) <|
  .op true (.p (.ld none) [.t 50]) <|
  .op true (.p (.iad 1) [.t 1, .t 51]) <|
  .op true (.p (.ld none) [.t 52]) <|
  .op true (.p (.fad 2) [.t 16]) <|
  .op true (.p (.ld none) [.t 54]) <|
  .op true (.p (.iad 1) [.t 55, .t 34]) <|
  .op true (.p (.ld none) [.t 56]) <|
  .op true (.p (.iad 1) [.t 53, .t 57]) <|
  .op true (.p (.ld none) [.t 58]) <|
  .op true (.call (.f 33) [.t 16, .t 47, .t 59]) <|
  .op true (.p (.iad 1) [.t 60, .c (int 0)]) <|
  .op true (.p (.ld none) [.t 61]) <|
  .op true (.p (.msl 1 [int 0] [(0, 1)]) [.t 62]) <|
  .op true (.app 1 (.t 33) (.t 63)) <|
  .op true (.p (.bin .add) [.t 34, .c (int 1)]) <|
  .again 1 [.t 64, .t 65])
  (.op true (.p (.fad 7) [.t dq]) <|
  .op true (.p (.ld none) [.t 36]) <|
  .op true (.mslm 1 1 [.nil] [(0, 1)] [.t 33]) <|
  .op true (.app 1 (.t 37) (.t 38)) <|
  .op true (.p (.fad 7) [.t dq]) <|
  .op true (.st 1 (.t 40) (.t 39)) <|
  .op true (.p (.bin .add) [.t 27, .c (int 1)]) <|
  .again 0 [.t 42]))
  (.op true (.p (.ld (some 8)) [.t dq]) <|
  .op true (.st 8 (.t 2) (.t 29)) <|
  .ret [(.t 2, some (some 8)), (.c (int 0), none)])
set_option maxHeartbeats 8000000 in
theorem omT_ok (hho : Has P ν 33 3 V_Category_hom) {r t : List (List Int)} (bt : SmallII t) (q : OmP r t) (mo : MonoP r t) (fit : FitX (poK r)) {vars : Nat → AV} {H : Hp} {nx hi lo p1 g1 g2 qc qs dq : Nat} {va vb vd ve vg : AV} {Is : Nat → Inv} (hdq : dq < 24)
    (v1 : vars 1 = .sl (rows t) t.length) (v2 : vars 2 = .mp nx 0 8) (v16 : vars 16 = .mp qc 0 5) (vq : vars dq = .mp qs 0 8)
    (y0 : H nx = some [int 0, .nil, .nil, .nil, .nil, int 0, .nil, .nil]) (c0 : H qc = some [int (poK r).o, va, vb, vd, ve]) (s0 : H qs = some [int (poK r).o, va, vb, vd, ve, int 0, vg, .nil])
    (oC : OwnKC (poK r) va vb vd ve H lo p1) (oG : OwnD t vg H g1 g2) (l1 : nx < lo) (l2 : lo ≤ p1) (l3 : p1 ≤ g1) (l4 : g1 ≤ g2) (l5 : g2 ≤ hi) (m1 : p1 ≤ qc ∧ qc < hi) (m2 : p1 ≤ qs ∧ qs < hi) (m3 : ¬ (g1 ≤ qs ∧ qs < g2)) (m4 : qc ≠ qs) :
    den (OkM P ν) (IsM (moK r t) 0 nx) (V_omT dq) 24 vars H hi Is := by
  unfold V_omT
  obtain ⟨p, m, en⟩ := q
  have l40 : (prL r (r.length * r.length)).length ≤ 40 := by have := fit.2; rwa [poK_len] at this
  have dqp : ∀ (e : Nat → AV) (k : Nat) (u : AV), put e (k + 24) u dq = e dq := fun e k u => by simp only [put]; rw [if_neg (by omega)]
  have pl : ∀ {H' : Hp}, (∀ t, t < hi → t ≠ qs → H' t = H t) → OwnKC (poK r) va vb vd ve H' lo p1 := fun e => oC.mono (Nat.le_refl _) fun k h1 h2 => e k (by omega) (by omega)
  have len : ∀ {H' : Hp}, OwnKC (poK r) va vb vd ve H' lo p1 → pvf H' .len [va] = some (int ((prL r (r.length * r.length)).length : Int)) := fun o => by rw [o.f.rdY.len, poK_len]
  have ln0 := len oC
  try simp (disch := (first | rfl | with_reducible assumption | with_reducible solve_by_elim (maxDepth := 8) [Shape.inT, Shape.inI, Shape.inC, Shape.inK, Shape.obF, Shape.obT, Shape.arI, Arr.inF] | omega)) only [S2, Nat.reduceEqDiff, Nat.reduceAdd, iput, puts, v16, p_fadm (l := 5) c0 rfl, p_ldm (n := 5) c0 rfl, ln0]
  refine den_loop (α := Nat × AV) (fun a => [int a.1]) (fun a H' nx' => a.1 ≤ (prL r (r.length * r.length)).length ∧ hi ≤ nx' ∧ H' qs = some [int (poK r).o, va, vb, vd, ve, int 0, vg, a.2] ∧ OwnD (omT r t a.1) a.2 H' hi nx' ∧ ∀ t, t < hi → t ≠ qs → H' t = H t) (fun a => (prL r (r.length * r.length)).length - a.1) (0, .nil) rfl ⟨Nat.zero_le _, Nat.le_refl _, s0, OwnD.nil, fun _ _ _ => rfl⟩ ?_
  rintro ⟨f, vh⟩ H7 n7 ⟨hf, h7, s7, o7, k7⟩
  simp only at hf s7 o7
  have oC7 := pl k7
  have c7 := (k7 qc (by omega) m4).trans c0
  by_cases hlf : f < (prL r (r.length * r.length)).length
  · obtain ⟨a, b, ha, hb, ea, eb, e1⟩ := prFT hlf
    have ln7 := len oC7
    try simp (disch := (first | rfl | with_reducible assumption | with_reducible solve_by_elim (maxDepth := 8) [Shape.inT, Shape.inI, Shape.inC, Shape.inK, Shape.obF, Shape.obT, Shape.arI, Arr.inF] | omega)) only [S2, Nat.reduceEqDiff, Nat.reduceAdd, iput, puts, hlf, v16, p_fadm (l := 5) c7 rfl, p_ldm (n := 5) c7 rfl, ln7]
    refine den_loop (α := Nat × AV) (fun b => [b.2, int b.1]) (fun b H' nx' => b.1 ≤ (prL r (r.length * r.length)).length ∧ IsI ((omRow r t f).take b.1) H7 n7 b.2 H' nx') (fun b => (prL r (r.length * r.length)).length - b.1) (0, .nil) rfl ⟨Nat.zero_le _, IsI.nil H7 n7⟩ ?_
    rintro ⟨g, v8⟩ H8 n8 ⟨hg, hI⟩
    simp only at hg hI
    have k8 : ∀ t, t < hi → t ≠ qs → H8 t = H t := fun t h1 h2 => (hI.old (by omega)).trans (k7 t h1 h2)
    have oC8 := pl k8
    have c8 := (k8 qc (by omega) m4).trans c0
    by_cases hlg : g < (prL r (r.length * r.length)).length
    · obtain ⟨a', b', ha', hb', ea', eb', e1'⟩ := prFT hlg
      have rF := oC8.f.rdY
      have rT := oC8.t.rdY
      have fl := poK_len (r := r)
      have tl := poK_tlen (r := r)
      have gF : gI (poK r).f (f : Int) = a := ea
      have gF' : gI (poK r).f (g : Int) = a' := ea'
      have gT : gI (poK r).t (f : Int) = b := eb
      have gT' : gI (poK r).t (g : Int) = b' := eb'
      obtain ⟨q1, a1, a2⟩ := rF.rd (i := (f : Int)) (In.nat (by omega))
      obtain ⟨q2, a3, a4⟩ := rF.rd (i := (g : Int)) (In.nat (by omega))
      obtain ⟨q3, a5, a6⟩ := rT.rd (i := (f : Int)) (In.nat (by omega))
      obtain ⟨q4, a7, a8⟩ := rT.rd (i := (g : Int)) (In.nat (by omega))
      rw [gF] at a2
      rw [gF'] at a4
      rw [gT] at a6
      rw [gT'] at a8
      have i1 : InR t (a : Int) := InR.nat (by omega)
      have i2 : InR t (b : Int) := InR.nat (by omega)
      have i3 : In (gR t (a : Int)) (a' : Int) := ⟨by omega, by have := m.len a (by omega); omega⟩
      have i4 : In (gR t (b : Int)) (b' : Int) := ⟨by omega, by have := m.len b (by omega); omega⟩
      have hp := omH_pos ⟨p, m, en⟩ mo hlf hlg
      have eH : omH r t f g = homL (poK r) (gI (gR t (a : Int)) (a' : Int)) (gI (gR t (b : Int)) (b' : Int)) := by unfold omH; rw [ea, eb, ea', eb']
      rw [eH] at hp
      have lj : g < (omRow r t f).length := by rw [omRow_len]; exact hlg
      have en := omRow_at (t := t) (f := f) hlg
      rw [eH] at en
      have hc : Fz (OkM P ν) 33 [.ptr (poK r).cells 0, int (gI (gR t (a : Int)) (a' : Int)), int (gI (gR t (b : Int)) (b' : Int))] (islice (homL (poK r) (gI (gR t (a : Int)) (a' : Int)) (gI (gR t (b : Int)) (b' : Int)))) := hom_fz hho (poK r) _ _ (by omega) (by omega)
      have bx : ∀ x y : Int, frzL H8 [.mp qc 0 5, int x, int y] = some [.ptr (poK r).cells 0, int x, int y] := fun x y => by rw [oC8.box c8]; rfl
      generalize homL (poK r) (gI (gR t (a : Int)) (a' : Int)) (gI (gR t (b : Int)) (b' : Int)) = lH at hp en hc
      generalize (.ptr (poK r).cells 0 : AV) = cB at hc bx
      have hp : 0 < lH.length := hp
      have i5 : In lH 0 := ⟨by omega, by omega⟩
      have sn := take_snoc lj en
      have hz : gI lH 0 = lH.getD 0 0 := rfl
      have c8a : pvf H8 (.fad 1) [.mp qc 0 5] = some (.mp qc 1 5) := p_fadm (l := 5) c8 rfl
      have c8b : pvf H8 (.fad 2) [.mp qc 0 5] = some (.mp qc 2 5) := p_fadm (l := 5) c8 rfl
      have c8c : pvf H8 (.ld none) [.mp qc 1 5] = some va := p_ldm (n := 5) c8 rfl
      have c8d : pvf H8 (.ld none) [.mp qc 2 5] = some vb := p_ldm (n := 5) c8 rfl
      clear oC8 c8 rF rT oC7 c7 k8 eH e1 e1' ea eb ea' eb' gF gF' gT gT' fl tl
      try simp (disch := (first | rfl | with_reducible assumption | with_reducible solve_by_elim (maxDepth := 8) [Shape.inT, Shape.inI, Shape.inC, Shape.inK, Shape.obF, Shape.obT, Shape.arI, Arr.inF] | omega)) only [S2, Nat.reduceEqDiff, Nat.reduceAdd, iput, puts, hlg, v1, v16, c8a, c8b, c8c, c8d, a1, a2, a3, a4, a5, a6, a7, a8]
      refine den_call (fc := (33, [])) (ys := [cB, int (gI (gR t (a : Int)) (a' : Int)), int (gI (gR t (b : Int)) (b' : Int))]) rfl ?_ hc ?_
      · simp only [List.map_cons, List.map_nil, ev_t, SS, Nat.reduceEqDiff, Nat.reduceAdd, iput, puts, v16, List.nil_append, List.append_nil, List.cons_append]
        exact bx _ _
      try simp (disch := (first | rfl | with_reducible assumption | with_reducible solve_by_elim (maxDepth := 8) [Shape.inT, Shape.inI, Shape.inC, Shape.inK, Shape.obF, Shape.obT, Shape.arI, Arr.inF] | omega)) only [S2, Nat.reduceEqDiff, Nat.reduceAdd, iput, puts, hz]
      refine den_appI (m := [lH.getD 0 0]) hI (by simp only [SS, Nat.reduceEqDiff, Nat.reduceAdd, iput, puts]; try rfl) (by simp) (by rw [List.length_take, omRow_len]; simp only [List.length_cons, List.length_nil]; omega) fun v9 H9 n9 hI9 => ?_
      rw [sn] at hI9
      try simp (disch := (first | rfl | with_reducible assumption | with_reducible solve_by_elim (maxDepth := 8) [Shape.inT, Shape.inI, Shape.inC, Shape.inK, Shape.obF, Shape.obT, Shape.arI, Arr.inF] | omega)) only [S2, Nat.reduceEqDiff, Nat.reduceAdd, iput, puts]
      exact ⟨(g + 1, v9), rfl, ⟨hlg, hI9⟩, by simp only; omega⟩
    have hge : g = (prL r (r.length * r.length)).length := by omega
    subst hge
    rw [List.take_of_length_le (by rw [omRow_len]; exact Nat.le_refl _)] at hI
    have hn8 := hI.1
    have ow : Own1 (omRow r t f) v8 H8 n7 n8 := by
      obtain ⟨_, ⟨q1, q2, _⟩ | ⟨o, q1, q2, q3, q4⟩⟩ := hI
      · exact .inl ⟨q1, q2⟩
      · exact .inr ⟨o, q1, q2, q3, by rw [q4]; exact hput_eq _ _ _⟩
    have s8 := (hI.old (show qs < n7 by omega)).trans s7
    have o8 := o7.mono (H' := H8) (Nat.le_refl _) fun t _ h2 => hI.old h2
    try simp (disch := (first | rfl | with_reducible assumption | with_reducible solve_by_elim (maxDepth := 8) [Shape.inT, Shape.inI, Shape.inC, Shape.inK, Shape.obF, Shape.obT, Shape.arI, Arr.inF] | omega)) only [S2, Nat.reduceEqDiff, Nat.reduceAdd, iput, puts, hlg, dqp, vq, p_fadm (l := 8) s8 rfl, p_ldm (n := 8) s8 rfl]
    refine den_rowF (l := omRow r t f) o8 hn8 (fun _ => rfl) h7 (by rw [omT_len]; omega) ow fun v3 H4 n4 hD4 hn4 low4 keep4 _ => ?_
    have s4 := (low4 qs (by omega)).trans s8
    have hD1 := hD4.one
    try simp (disch := (first | rfl | with_reducible assumption | with_reducible solve_by_elim (maxDepth := 8) [Shape.inT, Shape.inI, Shape.inC, Shape.inK, Shape.obF, Shape.obT, Shape.arI, Arr.inF] | omega)) only [S2, Nat.reduceEqDiff, Nat.reduceAdd, iput, puts, dqp, vq, p_fadm (l := 8) s4 rfl]
    refine den_st1G (o := qs) (p := 7) (m := 8) (u := v3) (by simp only [SS, Nat.reduceEqDiff, Nat.reduceAdd, iput, puts]; try rfl) (by simp only [SS, Nat.reduceEqDiff, Nat.reduceAdd, iput, puts]; try rfl) s4 rfl (by omega) hD1 fun H5 x5 e5 => ?_
    have hD5 := hD4.mono (H' := H5) (Nat.le_refl _) fun t h1 _ => e5 t (by omega)
    rw [← omT_succ] at hD5
    try simp (disch := (first | rfl | with_reducible assumption | with_reducible solve_by_elim (maxDepth := 8) [Shape.inT, Shape.inI, Shape.inC, Shape.inK, Shape.obF, Shape.obT, Shape.arI, Arr.inF] | omega)) only [S2, Nat.reduceEqDiff, Nat.reduceAdd, iput, puts]
    exact ⟨(f + 1, v3), rfl, ⟨hlf, by omega, x5, hD5, fun t h1 h2 => (e5 t h2).trans ((low4 t h1).trans (k8 t h1 h2))⟩, by simp only; omega⟩
  have hfe : f = (prL r (r.length * r.length)).length := by omega
  subst hfe
  have y7 := (k7 nx (by omega) (by omega)).trans y0
  have oG7 := oG.mono (H' := H7) (Nat.le_refl _) fun k h1 h2 => k7 k (by omega) (by omega)
  have own : OwnM (moK r t) (.agg [int (moK r t).on.o, va, vb, vd, ve, int (moK r t).u, vg, vh]) H7 lo n7 :=
    ⟨va, vb, vd, ve, vg, vh, rfl, ⟨p1, hi, by omega, by omega, h7, oC7, (oG7.weak' l3).mono l5 fun _ _ _ => rfl, o7⟩⟩
  have ld8 : pvf H7 (.ld (some 8)) [.mp qs 0 8] = some (.agg [int (moK r t).on.o, va, vb, vd, ve, int (moK r t).u, vg, vh]) := p_ldsm (l := 8) s7 rfl
  try simp (disch := (first | rfl | with_reducible assumption | with_reducible solve_by_elim (maxDepth := 8) [Shape.inT, Shape.inI, Shape.inC, Shape.inK, Shape.obF, Shape.obT, Shape.arI, Arr.inF] | omega)) only [S2, Nat.reduceEqDiff, Nat.reduceAdd, iput, puts, hlf, dqp, vq, ld8]
  refine den_stR (o := nx) (m := 8) (d := [int (moK r t).on.o, va, vb, vd, ve, int (moK r t).u, vg, vh]) (by simp only [SS, Nat.reduceEqDiff, Nat.reduceAdd, iput, puts, v2]) (by simp only [SS, Nat.reduceEqDiff, Nat.reduceAdd, iput, puts]; try rfl) y7 rfl rfl own.one8 fun H9 y9 e9 => ?_
  have own9 := own.mono (H' := H9) (Nat.le_refl _) fun k h1 _ => e9 k (by omega)
  obtain ⟨H10, q4, q5⟩ := own9.back (k := 0) (nx := nx) (by omega) (by omega)
  refine ⟨.tup [.agg [int (moK r t).on.o, va, vb, vd, ve, int (moK r t).u, vg, vh], int 0], ?_, H10, q4, q5⟩
  simp only [retOf, rets, SS, Nat.reduceEqDiff, Nat.reduceAdd, iput, puts, v2, pLd, y9]
  rfl
end Go.Av

/-
  OrderMonoidal: the program's walk.
-/
namespace Go.Av
open Classical
set_option linter.unusedSimpArgs false
set_option linter.unusedVariables false
variable {P : Program} {ν : Nat → FuncId}

def V_OrderMonoidal : Vc :=
  .op true (.new [int 0, .nil, .nil, .nil, .nil, int 0, .nil, .nil]) <|
  .op true (.call (.f 361) [.t 0]) <|
  .op true (.p .bnot [.t 3]) <|
  .br 4
   (.op true (.p (.mka [int 0, .nil, .nil, .nil, .nil, int 0, .nil, .nil] []) []) <|
   .op true (.st 8 (.t 2) (.t 5)) <|
   .ret [(.t 2, some (some 8)), (.c (int 1), none)])
   (.op true (.call (.f 362) [.t 1]) <|
   .op true (.p .bnot [.t 5]) <|
   .br 6
    (.op true (.p (.mka [int 0, .nil, .nil, .nil, .nil, int 0, .nil, .nil] []) []) <|
    .op true (.st 8 (.t 2) (.t 7)) <|
    .ret [(.t 2, some (some 8)), (.c (int 1), none)])
    (.op true (.p .len [.t 0]) <|
    .op true (.p .len [.t 1]) <|
    .op true (.p (.bin .neq) [.t 7, .t 8]) <|
    .br 9
     (.op true (.p (.mka [int 0, .nil, .nil, .nil, .nil, int 0, .nil, .nil] []) []) <|
     .op true (.st 8 (.t 2) (.t 10)) <|
     .ret [(.t 2, some (some 8)), (.c (int 1), none)])
     (.op true (.p .len [.t 0]) <|
     .loop 0 [.c (int 0)] <|
     .op true (.p (.bin .lss) [.t 11, .t 10]) <|
     .br 12
      (.op true (.p (.iad 1) [.t 0, .t 11]) <|
      .op true (.p (.ld none) [.t 13]) <|
      .op true (.p .len [.t 14]) <|
      .loop 1 [.c (int 0)] <|
      .op true (.p (.bin .lss) [.t 16, .t 15]) <|
      .br 17
       (.op true (.p (.iad 1) [.t 14, .t 16]) <|
       .op true (.p (.ld none) [.t 18]) <|
       .op true (.p .len [.t 0]) <|
       .loop 2 [.c (int 0)] <|
       .op true (.p (.bin .lss) [.t 21, .t 20]) <|
       .br 22
        (.op true (.p (.bin .eql) [.t 19, .c (int 1)]) <|
        .br 23
         (.op true (.p (.iad 1) [.t 1, .t 11]) <|
         .op true (.p (.ld none) [.t 24]) <|
         .op true (.p (.iad 1) [.t 25, .t 21]) <|
         .op true (.p (.ld none) [.t 26]) <|
         .op true (.p (.iad 1) [.t 0, .t 27]) <|
         .op true (.p (.ld none) [.t 28]) <|
         .op true (.p (.iad 1) [.t 1, .t 16]) <|
         .op true (.p (.ld none) [.t 30]) <|
         .op true (.p (.iad 1) [.t 31, .t 21]) <|
         .op true (.p (.ld none) [.t 32]) <|
         .op true (.p (.iad 1) [.t 29, .t 33]) <|
         .op true (.p (.ld none) [.t 34]) <|
         .op true (.p (.bin .eql) [.t 35, .c (int 0)]) <|
         .br 36
          (.op true (.p (.mka [int 0, .nil, .nil, .nil, .nil, int 0, .nil, .nil] []) []) <|
          .op true (.st 8 (.t 2) (.t 37)) <|
          .ret [(.t 2, some (some 8)), (.c (int 5), none)])
          (.op true (.p (.iad 1) [.t 1, .t 21]) <|
          .op true (.p (.ld none) [.t 37]) <|
          .op true (.p (.iad 1) [.t 38, .t 11]) <|
          .op true (.p (.ld none) [.t 39]) <|
          .op true (.p (.iad 1) [.t 0, .t 40]) <|
          .op true (.p (.ld none) [.t 41]) <|
          .op true (.p (.iad 1) [.t 1, .t 21]) <|
          .op true (.p (.ld none) [.t 43]) <|
          .op true (.p (.iad 1) [.t 44, .t 16]) <|
          .op true (.p (.ld none) [.t 45]) <|
          .op true (.p (.iad 1) [.t 42, .t 46]) <|
          .op true (.p (.ld none) [.t 47]) <|
          .op true (.p (.bin .eql) [.t 48, .c (int 0)]) <|
          .br 49
           (.op true (.p (.mka [int 0, .nil, .nil, .nil, .nil, int 0, .nil, .nil] []) []) <|
           .op true (.st 8 (.t 2) (.t 50)) <|
           .ret [(.t 2, some (some 8)), (.c (int 5), none)])
           (.op true (.p (.bin .add) [.t 21, .c (int 1)]) <|
           .again 2 [.t 50])))
         (.op true (.p (.bin .add) [.t 21, .c (int 1)]) <|
         .again 2 [.t 24]))
        (.op true (.p (.bin .add) [.t 16, .c (int 1)]) <|
        .again 1 [.t 23]))
       (.op true (.p (.bin .add) [.t 11, .c (int 1)]) <|
       .again 0 [.t 18]))
      (.op true (.callo (.f 363) [.t 0]) <|
      .op true (.p (.ext 0) [.t 13]) <|
      .op true (.p (.ext 1) [.t 13]) <|
      .op true (.new [int 0, .nil, .nil, .nil, .nil]) <|
      .op true (.st 5 (.t 16) (.t 14)) <|
      .op true (.p (.bin .neq) [.t 15, .c (int 0)]) <|
      .br 18
       (.op true (.p (.mka [int 0, .nil, .nil, .nil, .nil, int 0, .nil, .nil] []) []) <|
       .op true (.st 8 (.t 2) (.t 19)) <|
       .ret [(.t 2, some (some 8)), (.c (int 3), none)])
       (.op true (.p (.ld (some 5)) [.t 16]) <|
       .both
        (.op true (.callo (.f 364) [.t 1]) <|
        .op true (.new [int 0, .nil, .nil, .nil, .nil, int 0, .nil, .nil]) <|
        .op false (.p (.mka [int 0, .nil, .nil, .nil, .nil, int 0, .nil, .nil] [(0, 5), (6, 1)]) [.t 19, .t 20]) <|
        .op true (.st 8 (.t 21) (.t 22)) <|
        V_omT 21)
        (.op true (.new [int 0, .nil, .nil, .nil, .nil, int 0, .nil, .nil]) <|
        .op true (.callo (.f 364) [.t 1]) <|
        .op false (.p (.mka [int 0, .nil, .nil, .nil, .nil, int 0, .nil, .nil] [(0, 5), (6, 1)]) [.t 19, .t 21]) <|
        .op true (.st 8 (.t 20) (.t 22)) <|
        V_omT 20))))))
set_option maxHeartbeats 8000000 in
theorem OrderMonoidal_ok (K : HCat P ν) (hho : Has P ν 33 3 V_Category_hom) (hta : Has P ν 353 2 V_Category_table) (hsi : Has P ν 430 2 V_slices_Index_pair_int64_pair_int64) (hix : Has P ν 421 2 V_index_pair_int64) (hq1 : Has P ν 420 4 V_PreorderCategory_1) (hpr : Has P ν 361 1 V_isPreorder) (hmo : Has P ν 362 1 V_isMonoid) (hpc : Has P ν 363 1 V_PreorderCategory) (hcl : Has P ν 261 1 V_clone) (hcs : Has P ν 364 1 V_clones) (h : Has P ν 218 2 V_OrderMonoidal) (r t : List (List Int)) (br : SmallII r) (bt : SmallII t) (rg : ∀ i j, i < r.length → j < (r.getD i []).length → in64 ((r.getD i []).getD j 0)) (nx : Nat) :
    OkM P ν 218 [.sl (rows r) r.length, .sl (rows t) t.length] hempty nx (IsM (omR r t) (omC r t) nx) := by
  refine h _ _ _ _ rfl fun hwf => ?_
  unfold V_OrderMonoidal
  have bad : ∀ (k : Int) (H : Hp) (n1 : Nat), omC r t = k → k ≠ 0 → nx ≤ n1 → ∃ H', Sub H' H ∧ IsM (omR r t) (omC r t) nx (.tup [.agg [int 0, .nil, .nil, .nil, .nil, int 0, .nil, .nil], int k]) H' n1 := fun k H n1 e hk hn => by
    rw [omR, e, if_neg hk]
    exact (zeroM_own (H := H) hn).back (Nat.le_refl _) hn
  have rl := br.len
  have tl := bt.len
  have e1 := isPreorder_fz (P := P) (ν := ν) hpr r br.len br.row rg
  have e2 := isMonoid_fz (P := P) (ν := ν) K.inRange K.within hmo t bt.len bt.row
  refine den_newR fun H0 y0 e0 => ?_
  repeat (first | simp (disch := (first | rfl | with_reducible assumption | with_reducible solve_by_elim (maxDepth := 8) [Shape.inT, Shape.inI, Shape.inC, Shape.inK, Shape.obF, Shape.obT, Shape.arI, Arr.inF] | omega)) only [S2, Nat.reduceEqDiff, Nat.reduceAdd, iput, puts] | (refine den_call rfl (by first | (simp only [SS, Nat.reduceEqDiff, Nat.reduceAdd, iput, puts, FF, frzL_cat]; done) | (simp only [SS, Nat.reduceEqDiff, Nat.reduceAdd, iput, puts, FF, frzL_cat]; rfl)) (by first | exact e1) ?_) | (refine den_calli rfl (by first | (simp only [SS, Nat.reduceEqDiff, Nat.reduceAdd, iput, puts, FF, frzL_cat]; done) | (simp only [SS, Nat.reduceEqDiff, Nat.reduceAdd, iput, puts, FF, frzL_cat]; rfl)) (by first | exact e1) ?_))
  refine ⟨fun h1 => ?_, fun h1 => ?_⟩
  · try simp (disch := (first | rfl | with_reducible assumption | with_reducible solve_by_elim (maxDepth := 8) [Shape.inT, Shape.inI, Shape.inC, Shape.inK, Shape.obF, Shape.obT, Shape.arI, Arr.inF] | omega)) only [S2, Nat.reduceEqDiff, Nat.reduceAdd, iput, puts, mkM]
    refine den_stR (o := nx) (m := 8) (d := [int 0, .nil, .nil, .nil, .nil, int 0, .nil, .nil]) rfl rfl y0 rfl rfl rfl fun HB yB eB => ?_
    obtain ⟨H', q1, q2⟩ := bad 1 HB (nx + 1) (by unfold omC; rw [if_neg fun w => absurd w.1 (by simpa using h1)]) (by decide) (by omega)
    refine ⟨.tup [.agg [int 0, .nil, .nil, .nil, .nil, int 0, .nil, .nil], int 1], ?_, H', q1, q2⟩
    simp only [retOf, rets, SS, Nat.reduceEqDiff, Nat.reduceAdd, iput, puts, pLd, yB]
    rfl
  have p : IsPre r := by simpa using h1
  repeat (first | simp (disch := (first | rfl | with_reducible assumption | with_reducible solve_by_elim (maxDepth := 8) [Shape.inT, Shape.inI, Shape.inC, Shape.inK, Shape.obF, Shape.obT, Shape.arI, Arr.inF] | omega)) only [S2, Nat.reduceEqDiff, Nat.reduceAdd, iput, puts] | (refine den_call rfl (by first | (simp only [SS, Nat.reduceEqDiff, Nat.reduceAdd, iput, puts, FF, frzL_cat]; done) | (simp only [SS, Nat.reduceEqDiff, Nat.reduceAdd, iput, puts, FF, frzL_cat]; rfl)) (by first | exact e2) ?_) | (refine den_calli rfl (by first | (simp only [SS, Nat.reduceEqDiff, Nat.reduceAdd, iput, puts, FF, frzL_cat]; done) | (simp only [SS, Nat.reduceEqDiff, Nat.reduceAdd, iput, puts, FF, frzL_cat]; rfl)) (by first | exact e2) ?_))
  refine ⟨fun h2 => ?_, fun h2 => ?_⟩
  · try simp (disch := (first | rfl | with_reducible assumption | with_reducible solve_by_elim (maxDepth := 8) [Shape.inT, Shape.inI, Shape.inC, Shape.inK, Shape.obF, Shape.obT, Shape.arI, Arr.inF] | omega)) only [S2, Nat.reduceEqDiff, Nat.reduceAdd, iput, puts, mkM]
    refine den_stR (o := nx) (m := 8) (d := [int 0, .nil, .nil, .nil, .nil, int 0, .nil, .nil]) rfl rfl y0 rfl rfl rfl fun HB yB eB => ?_
    obtain ⟨H', q1, q2⟩ := bad 1 HB (nx + 1) (by unfold omC; rw [if_neg fun w => absurd w.2.1 (by simpa using h2)]) (by decide) (by omega)
    refine ⟨.tup [.agg [int 0, .nil, .nil, .nil, .nil, int 0, .nil, .nil], int 1], ?_, H', q1, q2⟩
    simp only [retOf, rets, SS, Nat.reduceEqDiff, Nat.reduceAdd, iput, puts, pLd, yB]
    rfl
  have m : IsMon t := by simpa using h2
  try simp (disch := (first | rfl | with_reducible assumption | with_reducible solve_by_elim (maxDepth := 8) [Shape.inT, Shape.inI, Shape.inC, Shape.inK, Shape.obF, Shape.obT, Shape.arI, Arr.inF] | omega)) only [S2, Nat.reduceEqDiff, Nat.reduceAdd, iput, puts]
  refine ⟨fun h3 => ?_, fun h3 => ?_⟩
  · try simp (disch := (first | rfl | with_reducible assumption | with_reducible solve_by_elim (maxDepth := 8) [Shape.inT, Shape.inI, Shape.inC, Shape.inK, Shape.obF, Shape.obT, Shape.arI, Arr.inF] | omega)) only [S2, Nat.reduceEqDiff, Nat.reduceAdd, iput, puts, mkM]
    refine den_stR (o := nx) (m := 8) (d := [int 0, .nil, .nil, .nil, .nil, int 0, .nil, .nil]) rfl rfl y0 rfl rfl rfl fun HB yB eB => ?_
    obtain ⟨H', q1, q2⟩ := bad 1 HB (nx + 1) (by unfold omC; rw [if_neg fun w => by have := w.2.2; omega]) (by decide) (by omega)
    refine ⟨.tup [.agg [int 0, .nil, .nil, .nil, .nil, int 0, .nil, .nil], int 1], ?_, H', q1, q2⟩
    simp only [retOf, rets, SS, Nat.reduceEqDiff, Nat.reduceAdd, iput, puts, pLd, yB]
    rfl
  have en : r.length = t.length := by omega
  have q : OmP r t := ⟨p, m, en⟩
  have inT : ∀ {i k : Nat}, i < r.length → k < r.length → In (gR t (i : Int)) (k : Int) := fun {i k} hi hk => ⟨by omega, by have := m.len i (by omega); omega⟩
  have inE : ∀ {i k : Nat}, i < r.length → k < r.length → InR r (gI (gR t (i : Int)) (k : Int)) := fun {i k} hi hk => by have := m.rg i k (by omega) (by omega); exact ⟨this.1, by have := this.2; unfold E at this; omega⟩
  have gl : ∀ {i k : Nat}, i < r.length → k < r.length → (gR r (gI (gR t (i : Int)) (k : Int))).length = r.length := fun {i k} hi hk => by
    have x := m.rg i k (by omega) (by omega)
    unfold E at x
    have := p.len (gI (gR t (i : Int)) (k : Int)).toNat (by omega)
    rwa [Int.toNat_of_nonneg x.1] at this
  have bt2 : ∀ {i j k l : Nat}, i < r.length → k < r.length → j < r.length → l < r.length → gI (gR r (gI (gR t (i : Int)) (k : Int))) (gI (gR t (j : Int)) (l : Int)) = 0 ∨ gI (gR r (gI (gR t (i : Int)) (k : Int))) (gI (gR t (j : Int)) (l : Int)) = 1 := fun {i j k l} hi hk hj hl => by
    have x := m.rg i k (by omega) (by omega)
    have y := m.rg j l (by omega) (by omega)
    have := p.bit (E t i k).toNat (E t j l).toNat (by omega) (by omega)
    unfold E at this x y
    rw [Int.toNat_of_nonneg x.1, Int.toNat_of_nonneg y.1] at this
    exact this
  try simp (disch := (first | rfl | with_reducible assumption | with_reducible solve_by_elim (maxDepth := 8) [Shape.inT, Shape.inI, Shape.inC, Shape.inK, Shape.obF, Shape.obT, Shape.arI, Arr.inF] | omega)) only [S2, Nat.reduceEqDiff, Nat.reduceAdd, iput, puts]
  refine den_for r.length (fun i => ∀ i', i' < i → ∀ j k, j < r.length → k < r.length → E r i' j = 1 → gI (gR r (E t i' k)) (E t j k) = 1 ∧ gI (gR r (E t k i')) (E t k j) = 1) (fun k hk => by omega) fun i hi pi => ?_
  by_cases hli : i < r.length
  · have iR : InR r (i : Int) := InR.nat hli
    have iT : InR t (i : Int) := InR.nat (by omega)
    have gr := p.len i hli
    try simp (disch := (first | rfl | with_reducible assumption | with_reducible solve_by_elim (maxDepth := 8) [Shape.inT, Shape.inI, Shape.inC, Shape.inK, Shape.obF, Shape.obT, Shape.arI, Arr.inF] | omega)) only [S2, Nat.reduceEqDiff, Nat.reduceAdd, iput, puts, hli, gr]
    refine den_for r.length (fun j => ∀ j', j' < j → ∀ k, k < r.length → E r i j' = 1 → gI (gR r (E t i k)) (E t j' k) = 1 ∧ gI (gR r (E t k i)) (E t k j') = 1) (fun k hk => by omega) fun j hj pj => ?_
    by_cases hlj : j < r.length
    · have iI : In (gR r (i : Int)) (j : Int) := ⟨by omega, by omega⟩
      have jT : InR t (j : Int) := InR.nat (by omega)
      have fold : gI (gR r (i : Int)) (j : Int) = E r i j := rfl
      try simp (disch := (first | rfl | with_reducible assumption | with_reducible solve_by_elim (maxDepth := 8) [Shape.inT, Shape.inI, Shape.inC, Shape.inK, Shape.obF, Shape.obT, Shape.arI, Arr.inF] | omega)) only [S2, Nat.reduceEqDiff, Nat.reduceAdd, iput, puts, hlj, fold]
      refine den_for r.length (fun k => ∀ k', k' < k → E r i j = 1 → gI (gR r (E t i k')) (E t j k') = 1 ∧ gI (gR r (E t k' i)) (E t k' j) = 1) (fun k hk => by omega) fun k hk pk => ?_
      by_cases hlk : k < r.length
      · have kT : InR t (k : Int) := InR.nat (by omega)
        have nxt : (E r i j = 1 → gI (gR r (E t i k)) (E t j k) = 1 ∧ gI (gR r (E t k i)) (E t k j) = 1) → ∀ k', k' < k + 1 → E r i j = 1 → gI (gR r (E t i k')) (E t j k') = 1 ∧ gI (gR r (E t k' i)) (E t k' j) = 1 := fun qq k' hk' q1 => by
          by_cases ee : k' = k
          · subst ee; exact qq q1
          · exact pk k' (by omega) q1
        try simp (disch := (first | rfl | with_reducible assumption | with_reducible solve_by_elim (maxDepth := 8) [Shape.inT, Shape.inI, Shape.inC, Shape.inK, Shape.obF, Shape.obT, Shape.arI, Arr.inF] | omega)) only [S2, Nat.reduceEqDiff, Nat.reduceAdd, iput, puts, hlk]
        refine ⟨fun g1 => ?_, fun g1 => ?_⟩
        · have g1 : E r i j = 1 := by simpa using g1
          have c1 := inT hli hlk
          have c2 := inT hlj hlk
          have c3 := inT hlk hli
          have c4 := inT hlk hlj
          have d1 := inE hli hlk
          have d2 := inE hlk hli
          have d3 : In (gR r (gI (gR t (i : Int)) (k : Int))) (gI (gR t (j : Int)) (k : Int)) := ⟨(inE hlj hlk).1, by rw [gl hli hlk]; exact (inE hlj hlk).2⟩
          have d4 : In (gR r (gI (gR t (k : Int)) (i : Int))) (gI (gR t (k : Int)) (j : Int)) := ⟨(inE hlk hlj).1, by rw [gl hlk hli]; exact (inE hlk hlj).2⟩
          have b1 := bt2 hli hlk hlj hlk
          have b2 := bt2 hlk hli hlk hlj
          try simp (disch := (first | rfl | with_reducible assumption | with_reducible solve_by_elim (maxDepth := 8) [Shape.inT, Shape.inI, Shape.inC, Shape.inK, Shape.obF, Shape.obT, Shape.arI, Arr.inF] | omega)) only [S2, Nat.reduceEqDiff, Nat.reduceAdd, iput, puts]
          refine ⟨fun g2 => ?_, fun g2 => ?_⟩
          · have g2 : gI (gR r (gI (gR t (i : Int)) (k : Int))) (gI (gR t (j : Int)) (k : Int)) = 0 := by simpa using g2
            try simp (disch := (first | rfl | with_reducible assumption | with_reducible solve_by_elim (maxDepth := 8) [Shape.inT, Shape.inI, Shape.inC, Shape.inK, Shape.obF, Shape.obT, Shape.arI, Arr.inF] | omega)) only [S2, Nat.reduceEqDiff, Nat.reduceAdd, iput, puts, mkM]
            refine den_stR (o := nx) (m := 8) (d := [int 0, .nil, .nil, .nil, .nil, int 0, .nil, .nil]) rfl rfl y0 rfl rfl rfl fun HB yB eB => ?_
            obtain ⟨H', q1, q2⟩ := bad 5 HB (nx + 1) (by unfold omC; rw [if_pos q, if_neg fun w => by have := (w i j k hli hlj hlk g1).1; unfold E at this; omega]) (by decide) (by omega)
            refine ⟨.tup [.agg [int 0, .nil, .nil, .nil, .nil, int 0, .nil, .nil], int 5], ?_, H', q1, q2⟩
            simp only [retOf, rets, SS, Nat.reduceEqDiff, Nat.reduceAdd, iput, puts, pLd, yB]
            rfl
          have g2 : gI (gR r (gI (gR t (i : Int)) (k : Int))) (gI (gR t (j : Int)) (k : Int)) = 1 := by
            have : ¬ gI (gR r (gI (gR t (i : Int)) (k : Int))) (gI (gR t (j : Int)) (k : Int)) = 0 := by simpa using g2
            omega
          try simp (disch := (first | rfl | with_reducible assumption | with_reducible solve_by_elim (maxDepth := 8) [Shape.inT, Shape.inI, Shape.inC, Shape.inK, Shape.obF, Shape.obT, Shape.arI, Arr.inF] | omega)) only [S2, Nat.reduceEqDiff, Nat.reduceAdd, iput, puts]
          refine ⟨fun g3 => ?_, fun g3 => ?_⟩
          · have g3 : gI (gR r (gI (gR t (k : Int)) (i : Int))) (gI (gR t (k : Int)) (j : Int)) = 0 := by simpa using g3
            try simp (disch := (first | rfl | with_reducible assumption | with_reducible solve_by_elim (maxDepth := 8) [Shape.inT, Shape.inI, Shape.inC, Shape.inK, Shape.obF, Shape.obT, Shape.arI, Arr.inF] | omega)) only [S2, Nat.reduceEqDiff, Nat.reduceAdd, iput, puts, mkM]
            refine den_stR (o := nx) (m := 8) (d := [int 0, .nil, .nil, .nil, .nil, int 0, .nil, .nil]) rfl rfl y0 rfl rfl rfl fun HB yB eB => ?_
            obtain ⟨H', q1, q2⟩ := bad 5 HB (nx + 1) (by unfold omC; rw [if_pos q, if_neg fun w => by have := (w i j k hli hlj hlk g1).2; unfold E at this; omega]) (by decide) (by omega)
            refine ⟨.tup [.agg [int 0, .nil, .nil, .nil, .nil, int 0, .nil, .nil], int 5], ?_, H', q1, q2⟩
            simp only [retOf, rets, SS, Nat.reduceEqDiff, Nat.reduceAdd, iput, puts, pLd, yB]
            rfl
          have g3 : gI (gR r (gI (gR t (k : Int)) (i : Int))) (gI (gR t (k : Int)) (j : Int)) = 1 := by
            have : ¬ gI (gR r (gI (gR t (k : Int)) (i : Int))) (gI (gR t (k : Int)) (j : Int)) = 0 := by simpa using g3
            omega
          try simp (disch := (first | rfl | with_reducible assumption | with_reducible solve_by_elim (maxDepth := 8) [Shape.inT, Shape.inI, Shape.inC, Shape.inK, Shape.obF, Shape.obT, Shape.arI, Arr.inF] | omega)) only [S2, Nat.reduceEqDiff, Nat.reduceAdd, iput, puts]
          exact up rfl hlk (nxt fun _ => ⟨g2, g3⟩)
        · have g1 : ¬ E r i j = 1 := by simpa using g1
          try simp (disch := (first | rfl | with_reducible assumption | with_reducible solve_by_elim (maxDepth := 8) [Shape.inT, Shape.inI, Shape.inC, Shape.inK, Shape.obF, Shape.obT, Shape.arI, Arr.inF] | omega)) only [S2, Nat.reduceEqDiff, Nat.reduceAdd, iput, puts]
          exact up rfl hlk (nxt fun q1 => absurd q1 g1)
      · try simp (disch := (first | rfl | with_reducible assumption | with_reducible solve_by_elim (maxDepth := 8) [Shape.inT, Shape.inI, Shape.inC, Shape.inK, Shape.obF, Shape.obT, Shape.arI, Arr.inF] | omega)) only [S2, Nat.reduceEqDiff, Nat.reduceAdd, iput, puts, hlk]
        refine up rfl hlj fun j' hj' k' hk' q1 => ?_
        by_cases ee : j' = j
        · subst ee; exact pk k' (by omega) q1
        · exact pj j' (by omega) k' hk' q1
    · try simp (disch := (first | rfl | with_reducible assumption | with_reducible solve_by_elim (maxDepth := 8) [Shape.inT, Shape.inI, Shape.inC, Shape.inK, Shape.obF, Shape.obT, Shape.arI, Arr.inF] | omega)) only [S2, Nat.reduceEqDiff, Nat.reduceAdd, iput, puts, hlj]
      refine up rfl hli fun i' hi' j' k' hj' hk' q1 => ?_
      by_cases ee : i' = i
      · subst ee; exact pj j' (by omega) k' hk' q1
      · exact pi i' (by omega) j' k' hj' hk' q1
  have mo : MonoP r t := fun i j k hi hj hk => pi i (by omega) j k hj hk
  try simp (disch := (first | rfl | with_reducible assumption | with_reducible solve_by_elim (maxDepth := 8) [Shape.inT, Shape.inI, Shape.inC, Shape.inK, Shape.obF, Shape.obT, Shape.arI, Arr.inF] | omega)) only [S2, Nat.reduceEqDiff, Nat.reduceAdd, iput, puts, hli]
  refine den_callo (fc := (363, [])) (ys := [.sl (rows r) r.length]) rfl (by simp only [SS, Nat.reduceEqDiff, Nat.reduceAdd, iput, puts, FF, frzL_cat]) (PreorderCategory_ok K.arrows hta hsi hix hq1 hpr hpc r br.len br.row rg p (nx + 1)) (IsK.some _ _ _) fun u H' n1 hu => ?_
  obtain ⟨z1, z2, z3, r0, rfl, own⟩ := hu.own H0
  refine ⟨z1, z2, ?_⟩
  have y1 : hmerge (nx + 1) H0 H' nx = some [int 0, .nil, .nil, .nil, .nil, int 0, .nil, .nil] := (hmerge_lo (by omega)).trans y0
  generalize hmerge (nx + 1) H0 H' = H1 at own y1
  obtain ⟨va, vb, vd, ve, rfl, oC⟩ := own
  have one5 := OwnK.one5 (x := poR r) ⟨va, vb, vd, ve, rfl, oC⟩
  try simp (disch := (first | rfl | with_reducible assumption | with_reducible solve_by_elim (maxDepth := 8) [Shape.inT, Shape.inI, Shape.inC, Shape.inK, Shape.obF, Shape.obT, Shape.arI, Arr.inF] | omega)) only [S2, Nat.reduceEqDiff, Nat.reduceAdd, iput, puts]
  refine den_newR fun H2 x2 e2 => ?_
  refine den_stR (o := n1) (m := 5) (d := [int (poR r).o, va, vb, vd, ve]) rfl rfl x2 rfl rfl one5 fun H3 x3 e3 => ?_
  have y3 := ((e3 nx (by omega)).trans (e2 nx (by omega))).trans y1
  try simp (disch := (first | rfl | with_reducible assumption | with_reducible solve_by_elim (maxDepth := 8) [Shape.inT, Shape.inI, Shape.inC, Shape.inK, Shape.obF, Shape.obT, Shape.arI, Arr.inF] | omega)) only [S2, Nat.reduceEqDiff, Nat.reduceAdd, iput, puts]
  refine ⟨fun h5 => ?_, fun h5 => ?_⟩
  · have h5 : ¬ poC r = 0 := by simpa using h5
    try simp (disch := (first | rfl | with_reducible assumption | with_reducible solve_by_elim (maxDepth := 8) [Shape.inT, Shape.inI, Shape.inC, Shape.inK, Shape.obF, Shape.obT, Shape.arI, Arr.inF] | omega)) only [S2, Nat.reduceEqDiff, Nat.reduceAdd, iput, puts, mkM]
    refine den_stR (o := nx) (m := 8) (d := [int 0, .nil, .nil, .nil, .nil, int 0, .nil, .nil]) rfl rfl y3 rfl rfl rfl fun HB yB eB => ?_
    obtain ⟨H', q1, q2⟩ := bad 3 HB (n1 + 1) (by unfold omC; rw [if_pos q, if_pos mo, if_neg fun w => h5 (poC_fit.2 w)]) (by decide) (by omega)
    refine ⟨.tup [.agg [int 0, .nil, .nil, .nil, .nil, int 0, .nil, .nil], int 3], ?_, H', q1, q2⟩
    simp only [retOf, rets, SS, Nat.reduceEqDiff, Nat.reduceAdd, iput, puts, pLd, yB]
    rfl
  have h5 : poC r = 0 := by simpa using h5
  have fit : FitX (poK r) := poC_fit.1 h5
  have eC : omC r t = 0 := by unfold omC; rw [if_pos q, if_pos mo, if_pos fit]
  have eR : omR r t = moK r t := by unfold omR; rw [if_pos eC]
  have eK : poR r = poK r := by unfold poR; rw [if_pos h5]
  rw [eC, eR]
  rw [eK] at oC x3 one5
  have oC := oC.mono (H' := H3) (Nat.le_refl _) fun k h1 h2 => (e3 k (by omega)).trans (e2 k h2)
  have a1 := oC.f.one'
  have a2 := oC.t.one'
  have a3 := oC.i.one'
  have a4 := oC.c.one
  have ld5 : pvf H3 (.ld (some 5)) [.mp n1 0 5] = some (.agg [int (poK r).o, va, vb, vd, ve]) := p_ldsm (l := 5) x3 rfl
  try simp (disch := (first | rfl | with_reducible assumption | with_reducible solve_by_elim (maxDepth := 8) [Shape.inT, Shape.inI, Shape.inC, Shape.inK, Shape.obF, Shape.obT, Shape.arI, Arr.inF] | omega)) only [S2, Nat.reduceEqDiff, Nat.reduceAdd, iput, puts, ld5]
  refine ⟨?_, ?_⟩
  · refine den_callo (fc := (364, [])) (ys := [.sl (rows t) t.length]) rfl (by simp only [SS, Nat.reduceEqDiff, Nat.reduceAdd, iput, puts, FF, frzL_cat]) (clones_own hcl hcs t bt.len bt.row (n1 + 1)) (IsD.some _ _) fun vg H' n2 hu => ?_
    obtain ⟨z1, z2, z4, oG⟩ := hu.own H3
    refine ⟨z1, z2, ?_⟩
    have k4 : ∀ o, o < n1 + 1 → hmerge (n1 + 1) H3 H' o = H3 o := fun o ho => hmerge_lo ho
    generalize hmerge (n1 + 1) H3 H' = H4 at oG k4
    have a5 := oG.one
    refine den_newR fun H5 x5 e5 => ?_
    try simp (disch := (first | rfl | with_reducible assumption | with_reducible solve_by_elim (maxDepth := 8) [Shape.inT, Shape.inI, Shape.inC, Shape.inK, Shape.obF, Shape.obT, Shape.arI, Arr.inF] | omega)) only [S2, Nat.reduceEqDiff, Nat.reduceAdd, iput, puts, p_mkaM a1 a2 a3 a4 a5]
    refine den_stR (o := n2) (m := 8) (d := [int (poK r).o, va, vb, vd, ve, int 0, vg, .nil]) (by simp only [SS, Nat.reduceEqDiff, Nat.reduceAdd, iput, puts]; try rfl) (by simp only [SS, Nat.reduceEqDiff, Nat.reduceAdd, iput, puts]; try rfl) x5 rfl rfl (by simp only [List.all_cons, List.all_nil, a1, a2, a3, a4, a5, Bool.and_true]; rfl) fun H6 x6 e6 => ?_
    have kk : ∀ o, o < n1 + 1 → H6 o = H3 o := fun o ho => by rw [e6 o (by omega), e5 o (by omega), k4 o ho]
    exact omT_ok hho bt q mo fit (by omega) (by simp only [SS, Nat.reduceEqDiff, Nat.reduceAdd, iput, puts]; try rfl) (by simp only [SS, Nat.reduceEqDiff, Nat.reduceAdd, iput, puts]; try rfl) (by simp only [SS, Nat.reduceEqDiff, Nat.reduceAdd, iput, puts]; try rfl) (by simp only [SS, Nat.reduceEqDiff, Nat.reduceAdd, iput, puts]; try rfl) ((kk nx (by omega)).trans y3) ((kk n1 (by omega)).trans x3) x6 (oC.mono (Nat.le_refl _) fun k _ h2 => kk k (by omega)) (oG.mono (Nat.le_refl _) fun k _ h2 => by rw [e6 k (by omega), e5 k h2]) (by omega) (by omega) (by omega) z4 (by omega) ⟨by omega, by omega⟩ ⟨by omega, by omega⟩ (by omega) (by omega)
  · refine den_newR fun H4 x4 e4 => ?_
    refine den_callo (fc := (364, [])) (ys := [.sl (rows t) t.length]) rfl (by simp only [SS, Nat.reduceEqDiff, Nat.reduceAdd, iput, puts, FF, frzL_cat]) (clones_own hcl hcs t bt.len bt.row (n1 + 1 + 1)) (IsD.some _ _) fun vg H' n2 hu => ?_
    obtain ⟨z1, z2, z4, oG⟩ := hu.own H4
    refine ⟨z1, z2, ?_⟩
    have k4 : ∀ o, o < n1 + 1 + 1 → hmerge (n1 + 1 + 1) H4 H' o = H4 o := fun o ho => hmerge_lo ho
    generalize hmerge (n1 + 1 + 1) H4 H' = H5 at oG k4
    have a5 := oG.one
    have x5 := (k4 (n1 + 1) (by omega)).trans x4
    try simp (disch := (first | rfl | with_reducible assumption | with_reducible solve_by_elim (maxDepth := 8) [Shape.inT, Shape.inI, Shape.inC, Shape.inK, Shape.obF, Shape.obT, Shape.arI, Arr.inF] | omega)) only [S2, Nat.reduceEqDiff, Nat.reduceAdd, iput, puts, p_mkaM a1 a2 a3 a4 a5]
    refine den_stR (o := n1 + 1) (m := 8) (d := [int (poK r).o, va, vb, vd, ve, int 0, vg, .nil]) (by simp only [SS, Nat.reduceEqDiff, Nat.reduceAdd, iput, puts]; try rfl) (by simp only [SS, Nat.reduceEqDiff, Nat.reduceAdd, iput, puts]; try rfl) x5 rfl rfl (by simp only [List.all_cons, List.all_nil, a1, a2, a3, a4, a5, Bool.and_true]; rfl) fun H6 x6 e6 => ?_
    have kk : ∀ o, o < n1 + 1 → H6 o = H3 o := fun o ho => by rw [e6 o (by omega), k4 o (by omega), e4 o ho]
    exact omT_ok hho bt q mo fit (by omega) (by simp only [SS, Nat.reduceEqDiff, Nat.reduceAdd, iput, puts]; try rfl) (by simp only [SS, Nat.reduceEqDiff, Nat.reduceAdd, iput, puts]; try rfl) (by simp only [SS, Nat.reduceEqDiff, Nat.reduceAdd, iput, puts]; try rfl) (by simp only [SS, Nat.reduceEqDiff, Nat.reduceAdd, iput, puts]; try rfl) ((kk nx (by omega)).trans y3) ((kk n1 (by omega)).trans x3) x6 (oC.mono (Nat.le_refl _) fun k _ h2 => kk k (by omega)) (oG.mono (Nat.le_refl _) fun k h1 h2 => e6 k (by omega)) (by omega) (by omega) (by omega) z4 (by omega) ⟨by omega, by omega⟩ ⟨by omega, by omega⟩ (by omega) (by omega)
end Go.Av

/-
  OrderMonoidal: the reference's, and both sides.
-/
namespace Go.Av
open Classical
set_option linter.unusedSimpArgs false
set_option linter.unusedVariables false
variable {P : Program} {ν : Nat → FuncId}

theorem tot_sq {R : List (List Int)} {m : Nat} (h : ∀ i, i < R.length → (R.getD i []).length = m) : tot R = R.length * m := by
  induction R with
  | nil => simp [tot]
  | cons l R ih =>
    have h0 := h 0 (by simp)
    have h1 := ih fun i hi => h (i + 1) (by simpa using hi)
    rw [tot_cons, List.length_cons, Nat.add_mul]
    simp at h0
    omega
theorem p_mkaM3 {H : Hp} {k : Int} {a b d e g h : AV} (h1 : a.one = true) (h2 : b.one = true) (h3 : d.one = true) (h4 : e.one = true) (h5 : g.one = true) (h7 : h.one = true) :
    pvf H (.mka [int 0, .nil, .nil, .nil, .nil, int 0, .nil, .nil] [(0, 5), (6, 1), (7, 1)]) [.agg [int k, a, b, d, e], g, h] = some (.agg [int k, a, b, d, e, int 0, g, h]) := by
  have h0 : (AV.agg [int k, a, b, d, e]).cells = [int k, a, b, d, e] := rfl
  have h6 : (int k).one = true := rfl
  simp [pvf, pMka, lay, h0, h1, h2, h3, h4, h5, h6, h7, AV.one_cells h5, AV.one_cells h7]
theorem l01Own2_fi (how : Has P ν 259 1 V_spec_l01Own) (h : Has P ν 360 1 V_spec_l01Own2_o) (R : List (List Int)) (b : SmallII R) : Fi (OkM P ν) 360 [.sl (rows R) R.length] (.sl (rows R) R.length) :=
  OkM.mono (l01Own2_own how h R b.len b.row 0) fun r H' nx' ⟨_, hO, _⟩ => hO.frz 4
/-- What the reference's call ends with. -/
def OmF (r t : List (List Int)) (w : AV) (H' : Hp) : Prop :=
  (omC r t = 0 ∧ ∃ vh lo hi, w = .tup [.agg [int (poK r).o, islice (poK r).f, islice (poK r).t, islice (poK r).i, .sl (rows (poK r).c) (poK r).c.length, int 0, .sl (rows t) t.length, vh], int 0] ∧ OwnD (omT r t (prL r (r.length * r.length)).length) vh H' lo hi) ∨
  (omC r t ≠ 0 ∧ w = .tup [.agg [int 0, .nil, .nil, .nil, .nil, int 0, .nil, .nil], int (omC r t)])
theorem OmF.frz {r t : List (List Int)} {w : AV} {H' : Hp} (h : OmF r t w H') : frz H' fuel w = some (.tup [.agg (omR r t).cells, int (omC r t)]) := by
  rcases h with ⟨e, vh, lo, hi, rfl, o⟩ | ⟨e, rfl⟩
  · have eR : omR r t = moK r t := by unfold omR; rw [if_pos e]
    rw [eR, e]
    have o2 := o.frz 2
    rw [omT_len] at o2
    have ec : (moK r t).cells = [int (poK r).o, islice (poK r).f, islice (poK r).t, islice (poK r).i, .sl (rows (poK r).c) (poK r).c.length, int 0, .sl (rows t) t.length, .sl (rows (omT r t (prL r (r.length * r.length)).length)) (prL r (r.length * r.length)).length] := by
      unfold moK Mon.cells
      simp only [omT_len]
    rw [ec]
    generalize (poK r).f = a1 at *
    generalize (poK r).t = a2 at *
    generalize (poK r).i = a3 at *
    generalize (poK r).c = a4 at *
    show ([AV.agg [int _, islice a1, islice a2, islice a3, .sl (rows a4) a4.length, int 0, .sl (rows t) t.length, vh], int 0].mapM (Av.frz H' 5)).map AV.tup = _
    have f1 : Av.frz H' 5 (.agg [int (poK r).o, islice a1, islice a2, islice a3, .sl (rows a4) a4.length, int 0, .sl (rows t) t.length, vh]) = some (.agg [int (poK r).o, islice a1, islice a2, islice a3, .sl (rows a4) a4.length, int 0, .sl (rows t) t.length, .sl (rows (omT r t (prL r (r.length * r.length)).length)) (prL r (r.length * r.length)).length]) := by
      show ([int (poK r).o, islice a1, islice a2, islice a3, .sl (rows a4) a4.length, int 0, .sl (rows t) t.length, vh].mapM (Av.frz H' 4)).map AV.agg = _
      have s1 : ∀ l : List Int, Av.frz H' 4 (islice l) = some (islice l) := fun _ => rfl
      have s2 : ∀ (l : List AV) (n : Nat), Av.frz H' 4 (.sl l n) = some (.sl l n) := fun _ _ => rfl
      simp only [List.mapM_cons, List.mapM_nil, frz_int, s1, s2, o2]
      rfl
    simp only [List.mapM_cons, List.mapM_nil, f1, frz_int]
    rfl
  · have eR : omR r t = zeroM := by unfold omR; rw [if_neg e]
    rw [eR]
    generalize omC r t = k
    rfl
def V_spec_OrderMonoidal : Vc :=
  .op true (.new [int 0, .nil, .nil, .nil, .nil, int 0, .nil, .nil]) <|
  .op true (.call (.f 356) [.t 0]) <|
  .op true (.p .bnot [.t 3]) <|
  .br 4
   (.op true (.p (.mka [int 0, .nil, .nil, .nil, .nil, int 0, .nil, .nil] []) []) <|
   .op true (.st 8 (.t 2) (.t 5)) <|
   .ret [(.t 2, some (some 8)), (.c (int 1), none)])
   (.op true (.call (.f 357) [.t 1]) <|
   .op true (.p .bnot [.t 5]) <|
   .br 6
    (.op true (.p (.mka [int 0, .nil, .nil, .nil, .nil, int 0, .nil, .nil] []) []) <|
    .op true (.st 8 (.t 2) (.t 7)) <|
    .ret [(.t 2, some (some 8)), (.c (int 1), none)])
    (.op true (.p .len [.t 0]) <|
    .op true (.p .len [.t 1]) <|
    .op true (.p (.bin .neq) [.t 7, .t 8]) <|
    .br 9
     (.op true (.p (.mka [int 0, .nil, .nil, .nil, .nil, int 0, .nil, .nil] []) []) <|
     .op true (.st 8 (.t 2) (.t 10)) <|
     .ret [(.t 2, some (some 8)), (.c (int 1), none)])
     (.op true (.p .len [.t 1]) <|
     .loop 0 [.c (int 0)] <|
     .op true (.p (.bin .lss) [.t 11, .t 10]) <|
     .br 12
      (.loop 1 [.c (int 0)] <|
      .op true (.p (.bin .lss) [.t 13, .t 10]) <|
      .br 14
       (.loop 2 [.c (int 0)] <|
       .op true (.p (.bin .lss) [.t 15, .t 10]) <|
       .br 16
        (.op true (.p (.iad 1) [.t 0, .t 11]) <|
        .op true (.p (.ld none) [.t 17]) <|
        .op true (.p (.iad 1) [.t 18, .t 13]) <|
        .op true (.p (.ld none) [.t 19]) <|
        .op true (.p (.bin .eql) [.t 20, .c (int 1)]) <|
        .br 21
         (.op true (.p (.iad 1) [.t 1, .t 11]) <|
         .op true (.p (.ld none) [.t 22]) <|
         .op true (.p (.iad 1) [.t 23, .t 15]) <|
         .op true (.p (.ld none) [.t 24]) <|
         .op true (.p (.iad 1) [.t 0, .t 25]) <|
         .op true (.p (.ld none) [.t 26]) <|
         .op true (.p (.iad 1) [.t 1, .t 13]) <|
         .op true (.p (.ld none) [.t 28]) <|
         .op true (.p (.iad 1) [.t 29, .t 15]) <|
         .op true (.p (.ld none) [.t 30]) <|
         .op true (.p (.iad 1) [.t 27, .t 31]) <|
         .op true (.p (.ld none) [.t 32]) <|
         .op true (.p (.bin .neq) [.t 33, .c (int 1)]) <|
         .br 34
          (.op true (.p (.mka [int 0, .nil, .nil, .nil, .nil, int 0, .nil, .nil] []) []) <|
          .op true (.st 8 (.t 2) (.t 35)) <|
          .ret [(.t 2, some (some 8)), (.c (int 5), none)])
          (.op true (.p (.iad 1) [.t 1, .t 15]) <|
          .op true (.p (.ld none) [.t 35]) <|
          .op true (.p (.iad 1) [.t 36, .t 11]) <|
          .op true (.p (.ld none) [.t 37]) <|
          .op true (.p (.iad 1) [.t 0, .t 38]) <|
          .op true (.p (.ld none) [.t 39]) <|
          .op true (.p (.iad 1) [.t 1, .t 15]) <|
          .op true (.p (.ld none) [.t 41]) <|
          .op true (.p (.iad 1) [.t 42, .t 13]) <|
          .op true (.p (.ld none) [.t 43]) <|
          .op true (.p (.iad 1) [.t 40, .t 44]) <|
          .op true (.p (.ld none) [.t 45]) <|
          .op true (.p (.bin .neq) [.t 46, .c (int 1)]) <|
          .br 47
           (.op true (.p (.mka [int 0, .nil, .nil, .nil, .nil, int 0, .nil, .nil] []) []) <|
           .op true (.st 8 (.t 2) (.t 48)) <|
           .ret [(.t 2, some (some 8)), (.c (int 5), none)])
           (.op true (.p (.bin .add) [.t 15, .c (int 1)]) <|
           .again 2 [.t 48])))
         (.op true (.p (.bin .add) [.t 15, .c (int 1)]) <|
         .again 2 [.t 22]))
        (.op true (.p (.bin .add) [.t 13, .c (int 1)]) <|
        .again 1 [.t 17]))
       (.op true (.p (.bin .add) [.t 11, .c (int 1)]) <|
       .again 0 [.t 15]))
      (.op true (.call (.f 358) [.t 0]) <|
      .op true (.new [int 0, .nil, .nil, .nil, .nil]) <|
      .op true (.st 5 (.t 14) (.t 13)) <|
      .op true (.p (.ld (some 5)) [.t 14]) <|
      .op true (.call (.f 359) [.t 16]) <|
      .op true (.p .bnot [.t 17]) <|
      .br 18
       (.op true (.p (.mka [int 0, .nil, .nil, .nil, .nil, int 0, .nil, .nil] []) []) <|
       .op true (.st 8 (.t 2) (.t 19)) <|
       .ret [(.t 2, some (some 8)), (.c (int 3), none)])
       (.op true (.p (.msl 0 [] []) []) <|
       .loop 0 [.t 19, .c (int 0)] <|
       .op true (.p (.fad 1) [.t 14]) <|
       .op true (.p (.ld none) [.t 22]) <|
       .op true (.p .len [.t 23]) <|
       .op true (.p (.bin .lss) [.t 21, .t 24]) <|
       .br 25
        (.op true (.p (.msl 0 [] []) []) <|
        .loop 1 [.t 26, .c (int 0)] <|
        .op true (.p (.fad 1) [.t 14]) <|
        .op true (.p (.ld none) [.t 29]) <|
        .op true (.p .len [.t 30]) <|
        .op true (.p (.bin .lss) [.t 28, .t 31]) <|
        .br 32
         (.op true (.p (.ld (some 5)) [.t 14]) <|
         .op true (.p (.fad 1) [.t 14]) <|
         .op true (.p (.ld none) [.t 34]) <|
         .op true (.p (.iad 1) [.t 35, .t 21]) <|
         .op true (.p (.ld none) [.t 36]) <|
         .op true (.p (.iad 1) [.t 1, .t 37]) <|
         .op true (.p (.ld none) [.t 38]) <|
         .op true (.p (.fad 1) [.t 14]) <|
         .op true (.p (.ld none) [.t 40]) <|
         .op true (.p (.iad 1) [.t 41, .t 28]) <|
         .op true (.p (.ld none) [.t 42]) <|
         .op true (.p (.iad 1) [.t 39, .t 43]) <|
         .op true (.p (.ld none) [.t 44]) <|
         .op true (.p (.fad 2) [.t 14]) <|
         .op true (.p (.ld none) [.t 46]) <|
         .op true (.p (.iad 1) [.t 47, .t 21]) <|
         .op true (.p (.ld none) [.t 48]) <|
         .op true (.p (.iad 1) [.t 1, .t 49]) <|
         .op true (.p (.ld none) [.t 50]) <|
         .op true (.p (.fad 2) [.t 14]) <|
         .op true (.p (.ld none) [.t 52]) <|
         .op true (.p (.iad 1) [.t 53, .t 28]) <|
         .op true (.p (.ld none) [.t 54]) <|
         .op true (.p (.iad 1) [.t 51, .t 55]) <|
         .op true (.p (.ld none) [.t 56]) <|
         .op true (.call (.f 309) [.t 33, .t 45, .t 57]) <|
         .op true (.p (.iad 1) [.t 58, .c (int 0)]) <|
         .op true (.p (.ld none) [.t 59]) <|
         .op true (.p (.msl 1 [int 0] [(0, 1)]) [.t 60]) <|
         .op true (.app 1 (.t 27) (.t 61)) <|
         .op true (.p (.bin .add) [.t 28, .c (int 1)]) <|
         .again 1 [.t 62, .t 63])
         (.op true (.mslm 1 1 [.nil] [(0, 1)] [.t 27]) <|
         .op true (.app 1 (.t 20) (.t 33)) <|
         .op true (.p (.bin .add) [.t 21, .c (int 1)]) <|
         .again 0 [.t 34, .t 35]))
        (.op true (.p (.ld (some 5)) [.t 14]) <|
        .op true (.call (.f 360) [.t 1]) <|
        .op true (.p (.mka [int 0, .nil, .nil, .nil, .nil, int 0, .nil, .nil] [(0, 5), (6, 1), (7, 1)]) [.t 26, .t 27, .t 20]) <|
        .op true (.st 8 (.t 2) (.t 28)) <|
        .ret [(.t 2, some (some 8)), (.c (int 0), none)]))))))
set_option maxHeartbeats 8000000 in
theorem sOrderMonoidal_fi (hm : Has P ν 37 2 V_spec_l01Map) (hq : Has P ν 418 2 V_spec_l03Square) (hp : Has P ν 356 1 V_spec_l03Preorder) (hw : Has P ν 419 2 V_spec_l35Whole) (hmo : Has P ν 357 1 V_spec_l35Monoid) (hpo : Has P ν 358 1 V_spec_l03Poset) (hf : Has P ν 359 1 V_spec_l02Fits) (hho : Has P ν 309 3 V_spec_l02Hom) (how : Has P ν 259 1 V_spec_l01Own) (how2 : Has P ν 360 1 V_spec_l01Own2_o) (h : Has P ν 217 2 V_spec_OrderMonoidal) (r t : List (List Int)) (br : SmallII r) (zr : tot r ≤ 1048576) (bt : SmallII t) :
    Fi (OkM P ν) 217 [.sl (rows r) r.length, .sl (rows t) t.length] (.tup [.agg (omR r t).cells, int (omC r t)]) := by
  refine OkM.mono (Φ := fun w H' nx' => OmF r t w H') (h [.sl (rows r) r.length, .sl (rows t) t.length] hempty 0 _ rfl fun hwf => ?_) fun w H' nx' hh => hh.frz
  unfold V_spec_OrderMonoidal
  have rl := br.len
  have tl := bt.len
  have e1 := l03Preorder_fz (P := P) (ν := ν) hm hq hp r br.len br.row
  have e2 := l35Monoid_fz (P := P) (ν := ν) hm hq hw hmo t bt.len bt.row
  refine den_newR fun H0 y0 e0 => ?_
  repeat (first | simp (disch := (first | rfl | with_reducible assumption | with_reducible solve_by_elim (maxDepth := 8) [Shape.inT, Shape.inI, Shape.inC, Shape.inK, Shape.obF, Shape.obT, Shape.arI, Arr.inF] | omega)) only [S2, Nat.reduceEqDiff, Nat.reduceAdd, iput, puts] | (refine den_call rfl (by first | (simp only [SS, Nat.reduceEqDiff, Nat.reduceAdd, iput, puts, FF, frzL_cat]; done) | (simp only [SS, Nat.reduceEqDiff, Nat.reduceAdd, iput, puts, FF, frzL_cat]; rfl)) (by first | exact e1) ?_) | (refine den_calli rfl (by first | (simp only [SS, Nat.reduceEqDiff, Nat.reduceAdd, iput, puts, FF, frzL_cat]; done) | (simp only [SS, Nat.reduceEqDiff, Nat.reduceAdd, iput, puts, FF, frzL_cat]; rfl)) (by first | exact e1) ?_))
  refine ⟨fun h1 => ?_, fun h1 => ?_⟩
  · try simp (disch := (first | rfl | with_reducible assumption | with_reducible solve_by_elim (maxDepth := 8) [Shape.inT, Shape.inI, Shape.inC, Shape.inK, Shape.obF, Shape.obT, Shape.arI, Arr.inF] | omega)) only [S2, Nat.reduceEqDiff, Nat.reduceAdd, iput, puts, mkM]
    refine den_stR (o := 0) (m := 8) (d := [int 0, .nil, .nil, .nil, .nil, int 0, .nil, .nil]) (by simp only [SS, Nat.reduceEqDiff, Nat.reduceAdd, iput, puts]; try rfl) (by simp only [SS, Nat.reduceEqDiff, Nat.reduceAdd, iput, puts]; try rfl) y0 rfl rfl rfl fun HB yB eB => ?_
    have ec : omC r t = 1 := by unfold omC; rw [if_neg fun w => absurd w.1 (by simpa using h1)]
    refine ⟨.tup [.agg [int 0, .nil, .nil, .nil, .nil, int 0, .nil, .nil], int 1], ?_, HB, fun _ _ h => h, .inr ⟨by rw [ec]; decide, by rw [ec]⟩⟩
    simp only [retOf, rets, SS, Nat.reduceEqDiff, Nat.reduceAdd, iput, puts, pLd, yB]
    rfl
  have p : IsPre r := by simpa using h1
  repeat (first | simp (disch := (first | rfl | with_reducible assumption | with_reducible solve_by_elim (maxDepth := 8) [Shape.inT, Shape.inI, Shape.inC, Shape.inK, Shape.obF, Shape.obT, Shape.arI, Arr.inF] | omega)) only [S2, Nat.reduceEqDiff, Nat.reduceAdd, iput, puts] | (refine den_call rfl (by first | (simp only [SS, Nat.reduceEqDiff, Nat.reduceAdd, iput, puts, FF, frzL_cat]; done) | (simp only [SS, Nat.reduceEqDiff, Nat.reduceAdd, iput, puts, FF, frzL_cat]; rfl)) (by first | exact e2) ?_) | (refine den_calli rfl (by first | (simp only [SS, Nat.reduceEqDiff, Nat.reduceAdd, iput, puts, FF, frzL_cat]; done) | (simp only [SS, Nat.reduceEqDiff, Nat.reduceAdd, iput, puts, FF, frzL_cat]; rfl)) (by first | exact e2) ?_))
  refine ⟨fun h2 => ?_, fun h2 => ?_⟩
  · try simp (disch := (first | rfl | with_reducible assumption | with_reducible solve_by_elim (maxDepth := 8) [Shape.inT, Shape.inI, Shape.inC, Shape.inK, Shape.obF, Shape.obT, Shape.arI, Arr.inF] | omega)) only [S2, Nat.reduceEqDiff, Nat.reduceAdd, iput, puts, mkM]
    refine den_stR (o := 0) (m := 8) (d := [int 0, .nil, .nil, .nil, .nil, int 0, .nil, .nil]) (by simp only [SS, Nat.reduceEqDiff, Nat.reduceAdd, iput, puts]; try rfl) (by simp only [SS, Nat.reduceEqDiff, Nat.reduceAdd, iput, puts]; try rfl) y0 rfl rfl rfl fun HB yB eB => ?_
    have ec : omC r t = 1 := by unfold omC; rw [if_neg fun w => absurd w.2.1 (by simpa using h2)]
    refine ⟨.tup [.agg [int 0, .nil, .nil, .nil, .nil, int 0, .nil, .nil], int 1], ?_, HB, fun _ _ h => h, .inr ⟨by rw [ec]; decide, by rw [ec]⟩⟩
    simp only [retOf, rets, SS, Nat.reduceEqDiff, Nat.reduceAdd, iput, puts, pLd, yB]
    rfl
  have m : IsMon t := by simpa using h2
  try simp (disch := (first | rfl | with_reducible assumption | with_reducible solve_by_elim (maxDepth := 8) [Shape.inT, Shape.inI, Shape.inC, Shape.inK, Shape.obF, Shape.obT, Shape.arI, Arr.inF] | omega)) only [S2, Nat.reduceEqDiff, Nat.reduceAdd, iput, puts]
  refine ⟨fun h3 => ?_, fun h3 => ?_⟩
  · try simp (disch := (first | rfl | with_reducible assumption | with_reducible solve_by_elim (maxDepth := 8) [Shape.inT, Shape.inI, Shape.inC, Shape.inK, Shape.obF, Shape.obT, Shape.arI, Arr.inF] | omega)) only [S2, Nat.reduceEqDiff, Nat.reduceAdd, iput, puts, mkM]
    refine den_stR (o := 0) (m := 8) (d := [int 0, .nil, .nil, .nil, .nil, int 0, .nil, .nil]) (by simp only [SS, Nat.reduceEqDiff, Nat.reduceAdd, iput, puts]; try rfl) (by simp only [SS, Nat.reduceEqDiff, Nat.reduceAdd, iput, puts]; try rfl) y0 rfl rfl rfl fun HB yB eB => ?_
    have ec : omC r t = 1 := by unfold omC; rw [if_neg fun w => by have := w.2.2; omega]
    refine ⟨.tup [.agg [int 0, .nil, .nil, .nil, .nil, int 0, .nil, .nil], int 1], ?_, HB, fun _ _ h => h, .inr ⟨by rw [ec]; decide, by rw [ec]⟩⟩
    simp only [retOf, rets, SS, Nat.reduceEqDiff, Nat.reduceAdd, iput, puts, pLd, yB]
    rfl
  have en : r.length = t.length := by omega
  have q : OmP r t := ⟨p, m, en⟩
  have inT : ∀ {i k : Nat}, i < t.length → k < t.length → In (gR t (i : Int)) (k : Int) := fun {i k} hi hk => ⟨by omega, by have := m.len i (by omega); omega⟩
  have inE : ∀ {i k : Nat}, i < t.length → k < t.length → InR r (gI (gR t (i : Int)) (k : Int)) := fun {i k} hi hk => by have := m.rg i k (by omega) (by omega); exact ⟨this.1, by have := this.2; unfold E at this; omega⟩
  have gl : ∀ {i k : Nat}, i < t.length → k < t.length → (gR r (gI (gR t (i : Int)) (k : Int))).length = t.length := fun {i k} hi hk => by
    have x := m.rg i k (by omega) (by omega)
    unfold E at x
    have := p.len (gI (gR t (i : Int)) (k : Int)).toNat (by omega)
    rw [Int.toNat_of_nonneg x.1] at this
    omega
  try simp (disch := (first | rfl | with_reducible assumption | with_reducible solve_by_elim (maxDepth := 8) [Shape.inT, Shape.inI, Shape.inC, Shape.inK, Shape.obF, Shape.obT, Shape.arI, Arr.inF] | omega)) only [S2, Nat.reduceEqDiff, Nat.reduceAdd, iput, puts]
  refine den_for t.length (fun i => ∀ i', i' < i → ∀ j k, j < t.length → k < t.length → E r i' j = 1 → gI (gR r (E t i' k)) (E t j k) = 1 ∧ gI (gR r (E t k i')) (E t k j) = 1) (fun k hk => by omega) fun i hi pi => ?_
  by_cases hli : i < t.length
  · have iR : InR r (i : Int) := InR.nat (by omega)
    have iT : InR t (i : Int) := InR.nat (by omega)
    have gr := p.len i (by omega)
    try simp (disch := (first | rfl | with_reducible assumption | with_reducible solve_by_elim (maxDepth := 8) [Shape.inT, Shape.inI, Shape.inC, Shape.inK, Shape.obF, Shape.obT, Shape.arI, Arr.inF] | omega)) only [S2, Nat.reduceEqDiff, Nat.reduceAdd, iput, puts, hli]
    refine den_for t.length (fun j => ∀ j', j' < j → ∀ k, k < t.length → E r i j' = 1 → gI (gR r (E t i k)) (E t j' k) = 1 ∧ gI (gR r (E t k i)) (E t k j') = 1) (fun k hk => by omega) fun j hj pj => ?_
    by_cases hlj : j < t.length
    · have iI : In (gR r (i : Int)) (j : Int) := ⟨by omega, by omega⟩
      have jT : InR t (j : Int) := InR.nat (by omega)
      have fold : gI (gR r (i : Int)) (j : Int) = E r i j := rfl
      try simp (disch := (first | rfl | with_reducible assumption | with_reducible solve_by_elim (maxDepth := 8) [Shape.inT, Shape.inI, Shape.inC, Shape.inK, Shape.obF, Shape.obT, Shape.arI, Arr.inF] | omega)) only [S2, Nat.reduceEqDiff, Nat.reduceAdd, iput, puts, hlj]
      refine den_for t.length (fun k => ∀ k', k' < k → E r i j = 1 → gI (gR r (E t i k')) (E t j k') = 1 ∧ gI (gR r (E t k' i)) (E t k' j) = 1) (fun k hk => by omega) fun k hk pk => ?_
      by_cases hlk : k < t.length
      · have kT : InR t (k : Int) := InR.nat (by omega)
        have nxt : (E r i j = 1 → gI (gR r (E t i k)) (E t j k) = 1 ∧ gI (gR r (E t k i)) (E t k j) = 1) → ∀ k', k' < k + 1 → E r i j = 1 → gI (gR r (E t i k')) (E t j k') = 1 ∧ gI (gR r (E t k' i)) (E t k' j) = 1 := fun qq k' hk' q1 => by
          by_cases ee : k' = k
          · subst ee; exact qq q1
          · exact pk k' (by omega) q1
        try simp (disch := (first | rfl | with_reducible assumption | with_reducible solve_by_elim (maxDepth := 8) [Shape.inT, Shape.inI, Shape.inC, Shape.inK, Shape.obF, Shape.obT, Shape.arI, Arr.inF] | omega)) only [S2, Nat.reduceEqDiff, Nat.reduceAdd, iput, puts, hlk, fold]
        refine ⟨fun g1 => ?_, fun g1 => ?_⟩
        · have g1 : E r i j = 1 := by simpa using g1
          have c1 := inT hli hlk
          have c2 := inT hlj hlk
          have c3 := inT hlk hli
          have c4 := inT hlk hlj
          have d1 := inE hli hlk
          have d2 := inE hlk hli
          have d3 : In (gR r (gI (gR t (i : Int)) (k : Int))) (gI (gR t (j : Int)) (k : Int)) := ⟨(inE hlj hlk).1, by rw [gl hli hlk]; have := (inE hlj hlk).2; omega⟩
          have d4 : In (gR r (gI (gR t (k : Int)) (i : Int))) (gI (gR t (k : Int)) (j : Int)) := ⟨(inE hlk hlj).1, by rw [gl hlk hli]; have := (inE hlk hlj).2; omega⟩
          try simp (disch := (first | rfl | with_reducible assumption | with_reducible solve_by_elim (maxDepth := 8) [Shape.inT, Shape.inI, Shape.inC, Shape.inK, Shape.obF, Shape.obT, Shape.arI, Arr.inF] | omega)) only [S2, Nat.reduceEqDiff, Nat.reduceAdd, iput, puts]
          refine ⟨fun g2 => ?_, fun g2 => ?_⟩
          · have g2 : ¬ gI (gR r (gI (gR t (i : Int)) (k : Int))) (gI (gR t (j : Int)) (k : Int)) = 1 := by simpa using g2
            try simp (disch := (first | rfl | with_reducible assumption | with_reducible solve_by_elim (maxDepth := 8) [Shape.inT, Shape.inI, Shape.inC, Shape.inK, Shape.obF, Shape.obT, Shape.arI, Arr.inF] | omega)) only [S2, Nat.reduceEqDiff, Nat.reduceAdd, iput, puts, mkM]
            refine den_stR (o := 0) (m := 8) (d := [int 0, .nil, .nil, .nil, .nil, int 0, .nil, .nil]) (by simp only [SS, Nat.reduceEqDiff, Nat.reduceAdd, iput, puts]; try rfl) (by simp only [SS, Nat.reduceEqDiff, Nat.reduceAdd, iput, puts]; try rfl) y0 rfl rfl rfl fun HB yB eB => ?_
            have ec : omC r t = 5 := by unfold omC; rw [if_pos q, if_neg fun w => g2 (w i j k (by omega) (by omega) (by omega) g1).1]
            refine ⟨.tup [.agg [int 0, .nil, .nil, .nil, .nil, int 0, .nil, .nil], int 5], ?_, HB, fun _ _ h => h, .inr ⟨by rw [ec]; decide, by rw [ec]⟩⟩
            simp only [retOf, rets, SS, Nat.reduceEqDiff, Nat.reduceAdd, iput, puts, pLd, yB]
            rfl
          have g2 : gI (gR r (gI (gR t (i : Int)) (k : Int))) (gI (gR t (j : Int)) (k : Int)) = 1 := by simpa using g2
          try simp (disch := (first | rfl | with_reducible assumption | with_reducible solve_by_elim (maxDepth := 8) [Shape.inT, Shape.inI, Shape.inC, Shape.inK, Shape.obF, Shape.obT, Shape.arI, Arr.inF] | omega)) only [S2, Nat.reduceEqDiff, Nat.reduceAdd, iput, puts]
          refine ⟨fun g3 => ?_, fun g3 => ?_⟩
          · have g3 : ¬ gI (gR r (gI (gR t (k : Int)) (i : Int))) (gI (gR t (k : Int)) (j : Int)) = 1 := by simpa using g3
            try simp (disch := (first | rfl | with_reducible assumption | with_reducible solve_by_elim (maxDepth := 8) [Shape.inT, Shape.inI, Shape.inC, Shape.inK, Shape.obF, Shape.obT, Shape.arI, Arr.inF] | omega)) only [S2, Nat.reduceEqDiff, Nat.reduceAdd, iput, puts, mkM]
            refine den_stR (o := 0) (m := 8) (d := [int 0, .nil, .nil, .nil, .nil, int 0, .nil, .nil]) (by simp only [SS, Nat.reduceEqDiff, Nat.reduceAdd, iput, puts]; try rfl) (by simp only [SS, Nat.reduceEqDiff, Nat.reduceAdd, iput, puts]; try rfl) y0 rfl rfl rfl fun HB yB eB => ?_
            have ec : omC r t = 5 := by unfold omC; rw [if_pos q, if_neg fun w => g3 (w i j k (by omega) (by omega) (by omega) g1).2]
            refine ⟨.tup [.agg [int 0, .nil, .nil, .nil, .nil, int 0, .nil, .nil], int 5], ?_, HB, fun _ _ h => h, .inr ⟨by rw [ec]; decide, by rw [ec]⟩⟩
            simp only [retOf, rets, SS, Nat.reduceEqDiff, Nat.reduceAdd, iput, puts, pLd, yB]
            rfl
          have g3 : gI (gR r (gI (gR t (k : Int)) (i : Int))) (gI (gR t (k : Int)) (j : Int)) = 1 := by simpa using g3
          try simp (disch := (first | rfl | with_reducible assumption | with_reducible solve_by_elim (maxDepth := 8) [Shape.inT, Shape.inI, Shape.inC, Shape.inK, Shape.obF, Shape.obT, Shape.arI, Arr.inF] | omega)) only [S2, Nat.reduceEqDiff, Nat.reduceAdd, iput, puts]
          exact up rfl hlk (nxt fun _ => ⟨g2, g3⟩)
        · have g1 : ¬ E r i j = 1 := by simpa using g1
          try simp (disch := (first | rfl | with_reducible assumption | with_reducible solve_by_elim (maxDepth := 8) [Shape.inT, Shape.inI, Shape.inC, Shape.inK, Shape.obF, Shape.obT, Shape.arI, Arr.inF] | omega)) only [S2, Nat.reduceEqDiff, Nat.reduceAdd, iput, puts]
          exact up rfl hlk (nxt fun q1 => absurd q1 g1)
      · try simp (disch := (first | rfl | with_reducible assumption | with_reducible solve_by_elim (maxDepth := 8) [Shape.inT, Shape.inI, Shape.inC, Shape.inK, Shape.obF, Shape.obT, Shape.arI, Arr.inF] | omega)) only [S2, Nat.reduceEqDiff, Nat.reduceAdd, iput, puts, hlk]
        refine up rfl hlj fun j' hj' k' hk' q1 => ?_
        by_cases ee : j' = j
        · subst ee; exact pk k' (by omega) q1
        · exact pj j' (by omega) k' hk' q1
    · try simp (disch := (first | rfl | with_reducible assumption | with_reducible solve_by_elim (maxDepth := 8) [Shape.inT, Shape.inI, Shape.inC, Shape.inK, Shape.obF, Shape.obT, Shape.arI, Arr.inF] | omega)) only [S2, Nat.reduceEqDiff, Nat.reduceAdd, iput, puts, hlj]
      refine up rfl hli fun i' hi' j' k' hj' hk' q1 => ?_
      by_cases ee : i' = i
      · subst ee; exact pj j' (by omega) k' hk' q1
      · exact pi i' (by omega) j' k' hj' hk' q1
  have mo : MonoP r t := fun i j k hi hj hk => pi i (by omega) j k (by omega) (by omega)
  have hnn : r.length * r.length ≤ 1048576 := by
    have := tot_sq (R := r) (m := r.length) fun i hi => p.len i hi
    omega
  have e3 := l03Poset_fi (P := P) (ν := ν) hpo r p hnn br.len
  have ll := prL_le (R := r) (r.length * r.length)
  have fl := poK_len (r := r)
  have tl3 := poK_tlen (r := r)
  have e4 := l02Fits_fz (P := P) (ν := ν) hf (poK r) (by omega)
  repeat (first | simp (disch := (first | rfl | with_reducible assumption | with_reducible solve_by_elim (maxDepth := 8) [Shape.inT, Shape.inI, Shape.inC, Shape.inK, Shape.obF, Shape.obT, Shape.arI, Arr.inF] | omega)) only [S2, Nat.reduceEqDiff, Nat.reduceAdd, iput, puts, hli] | (refine den_call rfl (by first | (simp only [SS, Nat.reduceEqDiff, Nat.reduceAdd, iput, puts, FF, frzL_cat]; done) | (simp only [SS, Nat.reduceEqDiff, Nat.reduceAdd, iput, puts, FF, frzL_cat]; rfl)) (by first | exact e3) ?_) | (refine den_calli rfl (by first | (simp only [SS, Nat.reduceEqDiff, Nat.reduceAdd, iput, puts, FF, frzL_cat]; done) | (simp only [SS, Nat.reduceEqDiff, Nat.reduceAdd, iput, puts, FF, frzL_cat]; rfl)) (by first | exact e3) ?_))
  refine den_newR fun H1 x1 k1 => ?_
  refine den_stR (o := 0 + 1) (m := 5) (d := (poK r).cells) (by simp only [SS, Nat.reduceEqDiff, Nat.reduceAdd, iput, puts]; try rfl) (by simp only [SS, Nat.reduceEqDiff, Nat.reduceAdd, iput, puts]; try rfl) x1 rfl rfl rfl fun H2 x2 k2 => ?_
  have y2 := ((k2 0 (by omega)).trans (k1 0 (by omega))).trans y0
  have ldc : pvf H2 (.ld (some 5)) [.mp (0 + 1) 0 5] = some (.agg (poK r).cells) := p_ldsm (l := 5) x2 rfl
  repeat (first | simp (disch := (first | rfl | with_reducible assumption | with_reducible solve_by_elim (maxDepth := 8) [Shape.inT, Shape.inI, Shape.inC, Shape.inK, Shape.obF, Shape.obT, Shape.arI, Arr.inF] | omega)) only [S2, Nat.reduceEqDiff, Nat.reduceAdd, iput, puts, ldc] | (refine den_call rfl (by first | (simp only [SS, Nat.reduceEqDiff, Nat.reduceAdd, iput, puts, FF, frzL_cat]; done) | (simp only [SS, Nat.reduceEqDiff, Nat.reduceAdd, iput, puts, FF, frzL_cat]; rfl)) (by first | exact e4) ?_) | (refine den_calli rfl (by first | (simp only [SS, Nat.reduceEqDiff, Nat.reduceAdd, iput, puts, FF, frzL_cat]; done) | (simp only [SS, Nat.reduceEqDiff, Nat.reduceAdd, iput, puts, FF, frzL_cat]; rfl)) (by first | exact e4) ?_))
  refine ⟨fun h5 => ?_, fun h5 => ?_⟩
  · have h5 : ¬ FitX (poK r) := by simpa using h5
    try simp (disch := (first | rfl | with_reducible assumption | with_reducible solve_by_elim (maxDepth := 8) [Shape.inT, Shape.inI, Shape.inC, Shape.inK, Shape.obF, Shape.obT, Shape.arI, Arr.inF] | omega)) only [S2, Nat.reduceEqDiff, Nat.reduceAdd, iput, puts, mkM]
    refine den_stR (o := 0) (m := 8) (d := [int 0, .nil, .nil, .nil, .nil, int 0, .nil, .nil]) (by simp only [SS, Nat.reduceEqDiff, Nat.reduceAdd, iput, puts]; try rfl) (by simp only [SS, Nat.reduceEqDiff, Nat.reduceAdd, iput, puts]; try rfl) y2 rfl rfl rfl fun HB yB eB => ?_
    have ec : omC r t = 3 := by unfold omC; rw [if_pos q, if_pos mo, if_neg h5]
    refine ⟨.tup [.agg [int 0, .nil, .nil, .nil, .nil, int 0, .nil, .nil], int 3], ?_, HB, fun _ _ h => h, .inr ⟨by rw [ec]; decide, by rw [ec]⟩⟩
    simp only [retOf, rets, SS, Nat.reduceEqDiff, Nat.reduceAdd, iput, puts, pLd, yB]
    rfl
  have fit : FitX (poK r) := by simpa using h5
  have eC : omC r t = 0 := by unfold omC; rw [if_pos q, if_pos mo, if_pos fit]
  have l40 : (prL r (r.length * r.length)).length ≤ 40 := by have := fit.2; rwa [poK_len] at this
  -- what the box of the category holds
  have bxs : ∀ H : Hp, H (0 + 1) = H2 (0 + 1) → (pvf H (.fad 1) [.mp (0 + 1) 0 5] = some (.mp (0 + 1) 1 5) ∧ pvf H (.fad 2) [.mp (0 + 1) 0 5] = some (.mp (0 + 1) 2 5)) ∧ (pvf H (.ld none) [.mp (0 + 1) 1 5] = some (islice (prF r (r.length * r.length))) ∧ pvf H (.ld none) [.mp (0 + 1) 2 5] = some (islice (prT r (r.length * r.length)))) ∧ pvf H (.ld (some 5)) [.mp (0 + 1) 0 5] = some (.agg (poK r).cells) := fun H e => by
    have x3 := e.trans x2
    exact ⟨⟨p_fadm (l := 5) x3 rfl, p_fadm (l := 5) x3 rfl⟩, ⟨p_ldm (n := 5) x3 rfl, p_ldm (n := 5) x3 rfl⟩, p_ldsm (l := 5) x3 rfl⟩
  have hc : ∀ x y : Int, Fz (OkM P ν) 309 [.agg (poK r).cells, int x, int y] (islice (homL (poK r) x y)) := fun x y => l02Hom_fz hho (poK r) x y (by omega) (by omega)
  have bx : ∀ (H : Hp) (x y : Int), frzL H [.agg (poK r).cells, int x, int y] = some [.agg (poK r).cells, int x, int y] := fun H x y => by rw [frzL_cat]; rfl
  have mkf : ∀ (H : Hp) (vh : AV), vh.one = true → pvf H (.mka [int 0, .nil, .nil, .nil, .nil, int 0, .nil, .nil] [(0, 5), (6, 1), (7, 1)]) [.agg (poK r).cells, .sl (rows t) t.length, vh] = some (.agg [int (poK r).o, islice (poK r).f, islice (poK r).t, islice (poK r).i, .sl (rows (poK r).c) (poK r).c.length, int 0, .sl (rows t) t.length, vh]) := fun H vh hv => p_mkaM3 rfl rfl rfl rfl rfl hv
  have e5 := l01Own2_fi (P := P) (ν := ν) how how2 t bt
  clear e3 e4 e1 e2 ldc x2 x1 k1
  generalize (.agg (poK r).cells : AV) = cB at bxs hc bx mkf
  have pln : ∀ H : Hp, pvf H .len [islice (prF r (r.length * r.length))] = some (int ((prL r (r.length * r.length)).length : Int)) := fun H => by rw [← prF_len]; rfl
  try simp (disch := (first | rfl | with_reducible assumption | with_reducible solve_by_elim (maxDepth := 8) [Shape.inT, Shape.inI, Shape.inC, Shape.inK, Shape.obF, Shape.obT, Shape.arI, Arr.inF] | omega)) only [S2, Nat.reduceEqDiff, Nat.reduceAdd, iput, puts]
  refine den_loop (α := Nat × AV) (fun a => [a.2, int a.1]) (fun a H' nx' => a.1 ≤ (prL r (r.length * r.length)).length ∧ 2 ≤ nx' ∧ OwnD (omT r t a.1) a.2 H' 2 nx' ∧ ∀ t, t < 2 → H' t = H2 t) (fun a => (prL r (r.length * r.length)).length - a.1) (0, .nil) rfl ⟨Nat.zero_le _, Nat.le_refl _, OwnD.nil, fun _ _ => rfl⟩ ?_
  rintro ⟨f, vh⟩ H7 n7 ⟨hf, h7, o7, k7⟩
  simp only at hf o7
  obtain ⟨⟨b1, b2⟩, ⟨b3, b4⟩, b5⟩ := bxs H7 (k7 _ (by omega))
  have pl7 := pln H7
  by_cases hlf : f < (prL r (r.length * r.length)).length
  · obtain ⟨a, b, ha, hb, ea, eb, e1⟩ := prFT hlf
    try simp (disch := (first | rfl | with_reducible assumption | with_reducible solve_by_elim (maxDepth := 8) [Shape.inT, Shape.inI, Shape.inC, Shape.inK, Shape.obF, Shape.obT, Shape.arI, Arr.inF] | omega)) only [S2, Nat.reduceEqDiff, Nat.reduceAdd, iput, puts, hlf, b1, b3, pl7]
    refine den_loop (α := Nat × AV) (fun b => [b.2, int b.1]) (fun b H' nx' => b.1 ≤ (prL r (r.length * r.length)).length ∧ IsI ((omRow r t f).take b.1) H7 n7 b.2 H' nx') (fun b => (prL r (r.length * r.length)).length - b.1) (0, .nil) rfl ⟨Nat.zero_le _, IsI.nil H7 n7⟩ ?_
    rintro ⟨g, v8⟩ H8 n8 ⟨hg, hI⟩
    simp only at hg hI
    obtain ⟨⟨d1, d2⟩, ⟨d3, d4⟩, d5⟩ := bxs H8 ((hI.old (by omega)).trans (k7 _ (by omega)))
    have pl8 := pln H8
    by_cases hlg : g < (prL r (r.length * r.length)).length
    · obtain ⟨a', b', ha', hb', ea', eb', e1'⟩ := prFT hlg
      have gF : gI (prF r (r.length * r.length)) (f : Int) = a := ea
      have gF' : gI (prF r (r.length * r.length)) (g : Int) = a' := ea'
      have gT : gI (prT r (r.length * r.length)) (f : Int) = b := eb
      have gT' : gI (prT r (r.length * r.length)) (g : Int) = b' := eb'
      have j1 : In (prF r (r.length * r.length)) (f : Int) := In.nat (by rw [prF_len]; exact hlf)
      have j2 : In (prF r (r.length * r.length)) (g : Int) := In.nat (by rw [prF_len]; exact hlg)
      have j3 : In (prT r (r.length * r.length)) (f : Int) := In.nat (by rw [prT_len]; exact hlf)
      have j4 : In (prT r (r.length * r.length)) (g : Int) := In.nat (by rw [prT_len]; exact hlg)
      have i1 : InR t (a : Int) := InR.nat (by omega)
      have i2 : InR t (b : Int) := InR.nat (by omega)
      have i3 : In (gR t (a : Int)) (a' : Int) := inT (by omega) (by omega)
      have i4 : In (gR t (b : Int)) (b' : Int) := inT (by omega) (by omega)
      have hps := omH_pos q mo hlf hlg
      have eH : omH r t f g = homL (poK r) (gI (gR t (a : Int)) (a' : Int)) (gI (gR t (b : Int)) (b' : Int)) := by unfold omH; rw [ea, eb, ea', eb']
      rw [eH] at hps
      have lj : g < (omRow r t f).length := by rw [omRow_len]; exact hlg
      have enn := omRow_at (t := t) (f := f) hlg
      rw [eH] at enn
      have hc8 := hc (gI (gR t (a : Int)) (a' : Int)) (gI (gR t (b : Int)) (b' : Int))
      generalize homL (poK r) (gI (gR t (a : Int)) (a' : Int)) (gI (gR t (b : Int)) (b' : Int)) = lH at hps enn hc8
      have hps : 0 < lH.length := hps
      have i5 : In lH 0 := ⟨by omega, by omega⟩
      have sn := take_snoc lj enn
      have hz : gI lH 0 = lH.getD 0 0 := rfl
      have lnr : ((omRow r t f).take g).length ≤ 40 := by rw [List.length_take, omRow_len]; omega
      generalize prF r (r.length * r.length) = Fl at d3 pl8 gF gF' j1 j2
      generalize prT r (r.length * r.length) = Tl at d4 gT gT' j3 j4
      clear b1 b2 b3 b4 b5 pl7 eH e1 e1' ea eb ea' eb' fl tl3 hc inT inE gl bxs pln
      try simp (disch := (first | rfl | with_reducible assumption | with_reducible solve_by_elim (maxDepth := 8) [Shape.inT, Shape.inI, Shape.inC, Shape.inK, Shape.obF, Shape.obT, Shape.arI, Arr.inF] | omega)) only [S2, Nat.reduceEqDiff, Nat.reduceAdd, iput, puts, hlg, d1, d2, d3, d4, d5, pl8, gF, gF', gT, gT']
      refine den_call (fc := (309, [])) (ys := [cB, int (gI (gR t (a : Int)) (a' : Int)), int (gI (gR t (b : Int)) (b' : Int))]) rfl ?_ hc8 ?_
      · simp only [List.map_cons, List.map_nil, ev_t, SS, Nat.reduceEqDiff, Nat.reduceAdd, iput, puts, List.nil_append, List.append_nil, List.cons_append]
        exact bx _ _ _
      try simp (disch := (first | rfl | with_reducible assumption | with_reducible solve_by_elim (maxDepth := 8) [Shape.inT, Shape.inI, Shape.inC, Shape.inK, Shape.obF, Shape.obT, Shape.arI, Arr.inF] | omega)) only [S2, Nat.reduceEqDiff, Nat.reduceAdd, iput, puts, hz]
      refine den_appI (m := [lH.getD 0 0]) hI (by simp only [SS, Nat.reduceEqDiff, Nat.reduceAdd, iput, puts]; try rfl) (by simp) (by simp only [List.length_cons, List.length_nil]; omega) fun v9 H9 n9 hI9 => ?_
      rw [sn] at hI9
      try simp (disch := (first | rfl | with_reducible assumption | with_reducible solve_by_elim (maxDepth := 8) [Shape.inT, Shape.inI, Shape.inC, Shape.inK, Shape.obF, Shape.obT, Shape.arI, Arr.inF] | omega)) only [S2, Nat.reduceEqDiff, Nat.reduceAdd, iput, puts]
      exact ⟨(g + 1, v9), rfl, ⟨hlg, hI9⟩, by simp only; omega⟩
    have hge : g = (prL r (r.length * r.length)).length := by omega
    subst hge
    rw [List.take_of_length_le (by rw [omRow_len]; exact Nat.le_refl _)] at hI
    have hn8 := hI.1
    have ow : Own1 (omRow r t f) v8 H8 n7 n8 := by
      obtain ⟨_, ⟨q1, q2, _⟩ | ⟨o, q1, q2, q3, q4⟩⟩ := hI
      · exact .inl ⟨q1, q2⟩
      · exact .inr ⟨o, q1, q2, q3, by rw [q4]; exact hput_eq _ _ _⟩
    have o8 := o7.mono (H' := H8) (Nat.le_refl _) fun t _ h2 => hI.old h2
    have k8 : ∀ t, t < 2 → H8 t = H2 t := fun t ht => (hI.old (by omega)).trans (k7 t ht)
    try simp (disch := (first | rfl | with_reducible assumption | with_reducible solve_by_elim (maxDepth := 8) [Shape.inT, Shape.inI, Shape.inC, Shape.inK, Shape.obF, Shape.obT, Shape.arI, Arr.inF] | omega)) only [S2, Nat.reduceEqDiff, Nat.reduceAdd, iput, puts, hlg, d1, d3, pl8]
    refine den_rowF (l := omRow r t f) o8 hn8 (fun _ => rfl) h7 (by rw [omT_len]; omega) ow fun v3 H4 n4 hD4 hn4 low4 keep4 _ => ?_
    rw [← omT_succ] at hD4
    try simp (disch := (first | rfl | with_reducible assumption | with_reducible solve_by_elim (maxDepth := 8) [Shape.inT, Shape.inI, Shape.inC, Shape.inK, Shape.obF, Shape.obT, Shape.arI, Arr.inF] | omega)) only [S2, Nat.reduceEqDiff, Nat.reduceAdd, iput, puts]
    exact ⟨(f + 1, v3), rfl, ⟨hlf, by omega, hD4, fun t ht => (low4 t ht).trans (k8 t ht)⟩, by simp only; omega⟩
  have hfe : f = (prL r (r.length * r.length)).length := by omega
  subst hfe
  have y7 := (k7 0 (by omega)).trans y2
  have mk7 := mkf H7 vh o7.one
  repeat (first | simp (disch := (first | rfl | with_reducible assumption | with_reducible solve_by_elim (maxDepth := 8) [Shape.inT, Shape.inI, Shape.inC, Shape.inK, Shape.obF, Shape.obT, Shape.arI, Arr.inF] | omega)) only [S2, Nat.reduceEqDiff, Nat.reduceAdd, iput, puts, hlf, b1, b3, b5, pl7] | (refine den_call rfl (by first | (simp only [SS, Nat.reduceEqDiff, Nat.reduceAdd, iput, puts, FF, frzL_cat]; done) | (simp only [SS, Nat.reduceEqDiff, Nat.reduceAdd, iput, puts, FF, frzL_cat]; rfl)) (by first | exact e5) ?_) | (refine den_calli rfl (by first | (simp only [SS, Nat.reduceEqDiff, Nat.reduceAdd, iput, puts, FF, frzL_cat]; done) | (simp only [SS, Nat.reduceEqDiff, Nat.reduceAdd, iput, puts, FF, frzL_cat]; rfl)) (by first | exact e5) ?_))
  try simp (disch := (first | rfl | with_reducible assumption | with_reducible solve_by_elim (maxDepth := 8) [Shape.inT, Shape.inI, Shape.inC, Shape.inK, Shape.obF, Shape.obT, Shape.arI, Arr.inF] | omega)) only [S2, Nat.reduceEqDiff, Nat.reduceAdd, iput, puts, mk7]
  refine den_stR (o := 0) (m := 8) (d := [int (poK r).o, islice (poK r).f, islice (poK r).t, islice (poK r).i, .sl (rows (poK r).c) (poK r).c.length, int 0, .sl (rows t) t.length, vh]) (by simp only [SS, Nat.reduceEqDiff, Nat.reduceAdd, iput, puts]; try rfl) (by simp only [SS, Nat.reduceEqDiff, Nat.reduceAdd, iput, puts]; try rfl) y7 rfl rfl (by simp only [List.all_cons, List.all_nil, o7.one, Bool.and_true]; rfl) fun H9 y9 e9 => ?_
  refine ⟨.tup [.agg [int (poK r).o, islice (poK r).f, islice (poK r).t, islice (poK r).i, .sl (rows (poK r).c) (poK r).c.length, int 0, .sl (rows t) t.length, vh], int 0], ?_, H9, fun _ _ h => h, .inl ⟨eC, vh, 2, n7, rfl, o7.mono (Nat.le_refl _) fun t h1 _ => e9 t (by omega)⟩⟩
  simp only [retOf, rets, SS, Nat.reduceEqDiff, Nat.reduceAdd, iput, puts, pLd, y9]
  rfl
theorem OrderMonoidal_both (K : HCat P ν) (hho : Has P ν 33 3 V_Category_hom) (hta : Has P ν 353 2 V_Category_table) (hsi : Has P ν 430 2 V_slices_Index_pair_int64_pair_int64) (hix : Has P ν 421 2 V_index_pair_int64) (hq1 : Has P ν 420 4 V_PreorderCategory_1) (hpr : Has P ν 361 1 V_isPreorder) (hmo : Has P ν 362 1 V_isMonoid) (hpc : Has P ν 363 1 V_PreorderCategory) (hcl : Has P ν 261 1 V_clone) (hcs : Has P ν 364 1 V_clones) (h : Has P ν 218 2 V_OrderMonoidal) (hm : Has P ν 37 2 V_spec_l01Map) (hq : Has P ν 418 2 V_spec_l03Square) (hp : Has P ν 356 1 V_spec_l03Preorder) (hw : Has P ν 419 2 V_spec_l35Whole) (hmo' : Has P ν 357 1 V_spec_l35Monoid) (hpo : Has P ν 358 1 V_spec_l03Poset) (hf : Has P ν 359 1 V_spec_l02Fits) (hho' : Has P ν 309 3 V_spec_l02Hom) (how : Has P ν 259 1 V_spec_l01Own) (how2 : Has P ν 360 1 V_spec_l01Own2_o) (h' : Has P ν 217 2 V_spec_OrderMonoidal) (r t : List (List Int)) (rg : ∀ i j, i < r.length → j < (r.getD i []).length → in64 ((r.getD i []).getD j 0)) (br : SmallII r) (zr : tot r ≤ 1048576) (bt : SmallII t) :
    BothM P ν 218 217 [.sl (rows r) r.length, .sl (rows t) t.length] :=
  ⟨omR r t, omC r t, omR_small bt, fun nx => OrderMonoidal_ok K hho hta hsi hix hq1 hpr hmo hpc hcl hcs h r t br bt rg nx, sOrderMonoidal_fi hm hq hp hw hmo' hpo hf hho' how how2 h' r t br zr bt⟩
end Go.Av
