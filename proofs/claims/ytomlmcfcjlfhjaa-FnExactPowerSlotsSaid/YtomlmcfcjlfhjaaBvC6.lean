/-
  Set functors in objects: copies, marks.
-/
import Derived.Test.YtomlmcfcjlfhjaaBvC5
import Derived.Test.YtomlmcfcjlfhjaaBvR2U
import Derived.Test.YtomlmcfcjlfhjaaBvU0
namespace Go.Av
set_option linter.unusedSectionVars false
set_option linter.unusedSimpArgs false
set_option linter.unusedVariables false
variable [md : Md]
open Classical
set_option linter.unusedSimpArgs false
set_option linter.unusedVariables false
variable {P : Program} {ν : Nat → FuncId}

def sfM (f : SF) (n0 : Nat) : List AV := [int f.c.o, .ms n0 0 f.c.f.length 1, .ms (n0 + 1) 0 f.c.t.length 1, .ms (n0 + 2) 0 f.c.i.length 1, .ms (n0 + 3) 0 f.c.c.length 1, .ms (n0 + 4 + f.c.c.length) 0 f.z.length 1, .ms (n0 + 4 + f.c.c.length + 1) 0 f.a.length 1]
/-- A set functor whose cells lie in objects from n0 on. -/
structure FAt (H : Hp) (f : SF) (n0 : Nat) : Prop where
  c : CatAt H n0 f.c
  z : H (n0 + 4 + f.c.c.length) = some (ints f.z)
  a : H (n0 + 4 + f.c.c.length + 1) = some (outerC f.a.length (fun j => n0 + 4 + f.c.c.length + 1 + 1 + j) fun j => (f.a.getD j []).length)
  row : ∀ j, j < f.a.length → H (n0 + 4 + f.c.c.length + 1 + 1 + j) = some (ints (f.a.getD j []))
theorem FAt.mono {H H' : Hp} {f : SF} {n0 : Nat} (h : FAt H f n0) (hh : ∀ o, n0 ≤ o → o < n0 + 4 + f.c.c.length + 2 + f.a.length → H' o = H o) : FAt H' f n0 :=
  ⟨h.c.mono fun o h1 h2 => hh o h1 (by omega), (hh _ (by omega) (by omega)).trans h.z, (hh _ (by omega) (by omega)).trans h.a, fun j hj => (hh _ (by omega) (by omega)).trans (h.row j hj)⟩
theorem FAt.frzN {H : Hp} {f : SF} {n0 : Nat} (h : FAt H f n0) : Av.frzN H fuel (.agg (sfM f n0)) = some (.agg f.cells) := by
  show ((sfM f n0).mapM (Av.frzN H 5)).map AV.agg = _
  simp only [sfM, List.mapM_cons, List.mapM_nil, frzN_int, frzN_ms h.c.f 4, frzN_ms h.c.t 4, frzN_ms h.c.i 4, frzN_rows h.c.c h.c.row 3, frzN_ms h.z 4, frzN_rows h.a h.row 3]
  rfl
def IsMkF (f : SF) (H : Hp) (nx : Nat) (r : AV) (H' : Hp) (nx' : Nat) : Prop := ∃ n0, nx ≤ n0 ∧ r = .agg (sfM f n0) ∧ FAt H' f n0 ∧ n0 + 4 + f.c.c.length + 2 + f.a.length ≤ nx' ∧ ∀ o, o < nx → H' o = H o

set_option maxHeartbeats 1000000 in
theorem toF_ok (L : HLaw P ν) (h : Has P ν 142 1 V_laws_toSetFunctor) (f : SF) (b : SmallF f) (H : Hp) (nx : Nat) : OkM P ν 142 [.agg f.cells] H nx (IsMkF f H nx) := by
  refine h _ _ _ _ rfl fun hwf => ?_
  unfold V_laws_toSetFunctor
  simp only [SS, Nat.reduceEqDiff, Nat.reduceAdd, iput, puts, p_boxs]
  refine den_new ?_
  refine den_new ?_
  have k0 : hput (hput H nx (some zero7)) (nx + 1) (some zero7) nx = some zero7 := by rw [hput_ne _ _ _ _ (by omega)]; exact hput_eq _ _ _
  have k1 : hput (hput H nx (some zero7)) (nx + 1) (some zero7) (nx + 1) = some zero7 := hput_eq _ _ _
  show den _ _ _ _ _ (hput (hput H nx (some zero7)) (nx + 1) (some zero7)) _ _
  have lo : ∀ o, o < nx → hput (hput H nx (some zero7)) (nx + 1) (some zero7) o = H o := fun o ho => by rw [hput_ne _ _ _ _ (by omega), hput_ne _ _ _ _ (by omega)]
  generalize hput (hput H nx (some zero7)) (nx + 1) (some zero7) = H1 at k0 k1 lo
  simp only [SS, Nat.reduceEqDiff, Nat.reduceAdd, iput, puts, p_lds5]
  refine den_callm (fc := (5, [])) rfl (toCat_ok L.toI L.toII L.toC f.c b.c _ _) (IsMkC.some _ _ _) fun u H2 n2 hu => ?_
  obtain ⟨n0, e0, rfl, rfl, rfl⟩ := hu
  have k0 := (catH_lo H1 n0 f.c nx (by omega)).trans k0
  have k1 := (catH_lo H1 n0 f.c (nx + 1) (by omega)).trans k1
  have cA := catH_at H1 n0 f.c
  have lo : ∀ o, o < nx → catH H1 n0 f.c o = H o := fun o ho => (catH_lo H1 n0 f.c o (by omega)).trans (lo o ho)
  generalize catH H1 n0 f.c = H2 at k0 k1 cA lo
  simp only [SS, Nat.reduceEqDiff, Nat.reduceAdd, iput, puts, p_fadm (l := 7) k1 rfl]
  refine den_st (h := hput H2 (nx + 1) (some [int f.c.o, .ms n0 0 f.c.f.length 1, .ms (n0 + 1) 0 f.c.t.length 1, .ms (n0 + 2) 0 f.c.i.length 1, .ms (n0 + 3) 0 f.c.c.length 1, .nil, .nil])) ?_ ?_
  · simp only [SS, Nat.reduceEqDiff, Nat.reduceAdd, iput, puts]
    simp only [stTo, k1, catM, AV.cells, zero7]
    rfl
  have k0 : hput H2 (nx + 1) (some [int f.c.o, .ms n0 0 f.c.f.length 1, .ms (n0 + 1) 0 f.c.t.length 1, .ms (n0 + 2) 0 f.c.i.length 1, .ms (n0 + 3) 0 f.c.c.length 1, .nil, .nil]) nx = some zero7 := (hput_ne _ _ _ _ (by omega)).trans k0
  have k1 := hput_eq H2 (nx + 1) (some [int f.c.o, .ms n0 0 f.c.f.length 1, .ms (n0 + 1) 0 f.c.t.length 1, .ms (n0 + 2) 0 f.c.i.length 1, .ms (n0 + 3) 0 f.c.c.length 1, .nil, .nil])
  have cA := cA.mono (H' := hput H2 (nx + 1) (some [int f.c.o, .ms n0 0 f.c.f.length 1, .ms (n0 + 1) 0 f.c.t.length 1, .ms (n0 + 2) 0 f.c.i.length 1, .ms (n0 + 3) 0 f.c.c.length 1, .nil, .nil])) fun o _ _ => hput_ne _ _ _ _ (by omega)
  have lo : ∀ o, o < nx → hput H2 (nx + 1) (some [int f.c.o, .ms n0 0 f.c.f.length 1, .ms (n0 + 1) 0 f.c.t.length 1, .ms (n0 + 2) 0 f.c.i.length 1, .ms (n0 + 3) 0 f.c.c.length 1, .nil, .nil]) o = H o := fun o ho => (hput_ne _ _ _ _ (by omega)).trans (lo o ho)
  generalize hput H2 (nx + 1) (some [int f.c.o, .ms n0 0 f.c.f.length 1, .ms (n0 + 1) 0 f.c.t.length 1, .ms (n0 + 2) 0 f.c.i.length 1, .ms (n0 + 3) 0 f.c.c.length 1, .nil, .nil]) = H3 at k0 k1 cA lo
  simp only [SS, Nat.reduceEqDiff, Nat.reduceAdd, iput, puts, sf5]
  refine den_callm (fc := (16, [])) rfl (toI_ok L.toI f.z b.z _ _) (IsMk.some _ _ _) fun u H4 n4 hu => ?_
  obtain ⟨rfl, rfl, rfl⟩ := hu
  have k0 : hput H3 (n0 + 4 + f.c.c.length) (some (ints f.z)) nx = some zero7 := (hput_ne _ _ _ _ (by omega)).trans k0
  have k1 := (hput_ne H3 (n0 + 4 + f.c.c.length) (nx + 1) (some (ints f.z)) (by omega)).trans k1
  have zA := hput_eq H3 (n0 + 4 + f.c.c.length) (some (ints f.z))
  have cA := cA.mono (H' := hput H3 (n0 + 4 + f.c.c.length) (some (ints f.z))) fun o _ _ => hput_ne _ _ _ _ (by omega)
  have lo : ∀ o, o < nx → hput H3 (n0 + 4 + f.c.c.length) (some (ints f.z)) o = H o := fun o ho => (hput_ne _ _ _ _ (by omega)).trans (lo o ho)
  generalize hput H3 (n0 + 4 + f.c.c.length) (some (ints f.z)) = H4 at k0 k1 cA zA lo
  refine den_fset (o := nx + 1) (m := 7) (u := .ms (n0 + 4 + f.c.c.length) 0 f.z.length 1) rfl rfl k1 rfl (by omega) rfl ?_
  simp only [List.set_cons_zero, List.set_cons_succ]
  have k0 : hput H4 (nx + 1) (some [int f.c.o, .ms n0 0 f.c.f.length 1, .ms (n0 + 1) 0 f.c.t.length 1, .ms (n0 + 2) 0 f.c.i.length 1, .ms (n0 + 3) 0 f.c.c.length 1, .ms (n0 + 4 + f.c.c.length) 0 f.z.length 1, .nil]) nx = some zero7 := (hput_ne _ _ _ _ (by omega)).trans k0
  have k1 := hput_eq H4 (nx + 1) (some [int f.c.o, .ms n0 0 f.c.f.length 1, .ms (n0 + 1) 0 f.c.t.length 1, .ms (n0 + 2) 0 f.c.i.length 1, .ms (n0 + 3) 0 f.c.c.length 1, .ms (n0 + 4 + f.c.c.length) 0 f.z.length 1, .nil])
  have zA := (hput_ne H4 (nx + 1) (n0 + 4 + f.c.c.length) (some [int f.c.o, .ms n0 0 f.c.f.length 1, .ms (n0 + 1) 0 f.c.t.length 1, .ms (n0 + 2) 0 f.c.i.length 1, .ms (n0 + 3) 0 f.c.c.length 1, .ms (n0 + 4 + f.c.c.length) 0 f.z.length 1, .nil]) (by omega)).trans zA
  have cA := cA.mono (H' := hput H4 (nx + 1) (some [int f.c.o, .ms n0 0 f.c.f.length 1, .ms (n0 + 1) 0 f.c.t.length 1, .ms (n0 + 2) 0 f.c.i.length 1, .ms (n0 + 3) 0 f.c.c.length 1, .ms (n0 + 4 + f.c.c.length) 0 f.z.length 1, .nil])) fun o _ _ => hput_ne _ _ _ _ (by omega)
  have lo : ∀ o, o < nx → hput H4 (nx + 1) (some [int f.c.o, .ms n0 0 f.c.f.length 1, .ms (n0 + 1) 0 f.c.t.length 1, .ms (n0 + 2) 0 f.c.i.length 1, .ms (n0 + 3) 0 f.c.c.length 1, .ms (n0 + 4 + f.c.c.length) 0 f.z.length 1, .nil]) o = H o := fun o ho => (hput_ne _ _ _ _ (by omega)).trans (lo o ho)
  generalize hput H4 (nx + 1) (some [int f.c.o, .ms n0 0 f.c.f.length 1, .ms (n0 + 1) 0 f.c.t.length 1, .ms (n0 + 2) 0 f.c.i.length 1, .ms (n0 + 3) 0 f.c.c.length 1, .ms (n0 + 4 + f.c.c.length) 0 f.z.length 1, .nil]) = H5 at k0 k1 cA zA lo
  simp only [SS, Nat.reduceEqDiff, Nat.reduceAdd, iput, puts, sf6]
  refine den_callm (fc := (17, [])) rfl (toII_ok L.toI L.toII f.a b.a b.row _ _) (IsMk2.some _ _ _) fun u H6 n6 hu => ?_
  obtain ⟨rfl, rfl, rfl⟩ := hu
  have k0 := (rowsH_lo H5 (n0 + 4 + f.c.c.length + 1) f.a f.a.length nx (by omega)).trans k0
  have k1 := (rowsH_lo H5 (n0 + 4 + f.c.c.length + 1) f.a f.a.length (nx + 1) (by omega)).trans k1
  have zA := (rowsH_lo H5 (n0 + 4 + f.c.c.length + 1) f.a f.a.length (n0 + 4 + f.c.c.length) (by omega)).trans zA
  have cA := cA.mono (H' := rowsH H5 (n0 + 4 + f.c.c.length + 1) f.a f.a.length) fun o _ _ => rowsH_lo _ _ _ _ _ (by omega)
  have aA := rowsH_at H5 (n0 + 4 + f.c.c.length + 1) f.a
  have lo : ∀ o, o < nx → rowsH H5 (n0 + 4 + f.c.c.length + 1) f.a f.a.length o = H o := fun o ho => (rowsH_lo _ _ _ _ _ (by omega)).trans (lo o ho)
  generalize rowsH H5 (n0 + 4 + f.c.c.length + 1) f.a f.a.length = H6 at k0 k1 cA zA aA lo
  refine den_fset (o := nx + 1) (m := 7) (u := .ms (n0 + 4 + f.c.c.length + 1) 0 f.a.length 1) rfl rfl k1 rfl (by omega) rfl ?_
  simp only [List.set_cons_zero, List.set_cons_succ]
  refine den_lda (o := nx + 1) (m := 7) rfl (hput_eq _ _ _) rfl ?_
  refine den_stA (o := nx) (m := 7) (c := zero7) rfl rfl ((hput_ne _ _ _ _ (by omega)).trans k0) rfl rfl rfl ?_
  have keep : ∀ (d e : Option (List AV)) (o : Nat), nx + 2 ≤ o → hput (hput H6 (nx + 1) d) nx e o = H6 o := fun d e o ho => by rw [hput_ne _ _ _ _ (by omega), hput_ne _ _ _ _ (by omega)]
  refine ⟨.agg [int f.c.o, .ms n0 0 f.c.f.length 1, .ms (n0 + 1) 0 f.c.t.length 1, .ms (n0 + 2) 0 f.c.i.length 1, .ms (n0 + 3) 0 f.c.c.length 1, .ms (n0 + 4 + f.c.c.length) 0 f.z.length 1, .ms (n0 + 4 + f.c.c.length + 1) 0 f.a.length 1], ?_, _, fun _ _ h => h, ?_⟩
  · simp only [retOf, rets, SS, Nat.reduceEqDiff, Nat.reduceAdd, iput, puts, pLd, hput_eq]
    rfl
  · have cB := cA.mono (H' := hput (hput H6 (nx + 1) (some [int f.c.o, .ms n0 0 f.c.f.length 1, .ms (n0 + 1) 0 f.c.t.length 1, .ms (n0 + 2) 0 f.c.i.length 1, .ms (n0 + 3) 0 f.c.c.length 1, .ms (n0 + 4 + f.c.c.length) 0 f.z.length 1, .ms (n0 + 4 + f.c.c.length + 1) 0 f.a.length 1])) nx (some [int f.c.o, .ms n0 0 f.c.f.length 1, .ms (n0 + 1) 0 f.c.t.length 1, .ms (n0 + 2) 0 f.c.i.length 1, .ms (n0 + 3) 0 f.c.c.length 1, .ms (n0 + 4 + f.c.c.length) 0 f.z.length 1, .ms (n0 + 4 + f.c.c.length + 1) 0 f.a.length 1])) fun o h1 _ => keep (some [int f.c.o, .ms n0 0 f.c.f.length 1, .ms (n0 + 1) 0 f.c.t.length 1, .ms (n0 + 2) 0 f.c.i.length 1, .ms (n0 + 3) 0 f.c.c.length 1, .ms (n0 + 4 + f.c.c.length) 0 f.z.length 1, .ms (n0 + 4 + f.c.c.length + 1) 0 f.a.length 1]) (some [int f.c.o, .ms n0 0 f.c.f.length 1, .ms (n0 + 1) 0 f.c.t.length 1, .ms (n0 + 2) 0 f.c.i.length 1, .ms (n0 + 3) 0 f.c.c.length 1, .ms (n0 + 4 + f.c.c.length) 0 f.z.length 1, .ms (n0 + 4 + f.c.c.length + 1) 0 f.a.length 1]) o (by omega)
    have zB := (keep (some [int f.c.o, .ms n0 0 f.c.f.length 1, .ms (n0 + 1) 0 f.c.t.length 1, .ms (n0 + 2) 0 f.c.i.length 1, .ms (n0 + 3) 0 f.c.c.length 1, .ms (n0 + 4 + f.c.c.length) 0 f.z.length 1, .ms (n0 + 4 + f.c.c.length + 1) 0 f.a.length 1]) (some [int f.c.o, .ms n0 0 f.c.f.length 1, .ms (n0 + 1) 0 f.c.t.length 1, .ms (n0 + 2) 0 f.c.i.length 1, .ms (n0 + 3) 0 f.c.c.length 1, .ms (n0 + 4 + f.c.c.length) 0 f.z.length 1, .ms (n0 + 4 + f.c.c.length + 1) 0 f.a.length 1]) (n0 + 4 + f.c.c.length) (by omega)).trans zA
    have aB := (keep (some [int f.c.o, .ms n0 0 f.c.f.length 1, .ms (n0 + 1) 0 f.c.t.length 1, .ms (n0 + 2) 0 f.c.i.length 1, .ms (n0 + 3) 0 f.c.c.length 1, .ms (n0 + 4 + f.c.c.length) 0 f.z.length 1, .ms (n0 + 4 + f.c.c.length + 1) 0 f.a.length 1]) (some [int f.c.o, .ms n0 0 f.c.f.length 1, .ms (n0 + 1) 0 f.c.t.length 1, .ms (n0 + 2) 0 f.c.i.length 1, .ms (n0 + 3) 0 f.c.c.length 1, .ms (n0 + 4 + f.c.c.length) 0 f.z.length 1, .ms (n0 + 4 + f.c.c.length + 1) 0 f.a.length 1]) (n0 + 4 + f.c.c.length + 1) (by omega)).trans aA.1
    have rB := fun j hj => (keep (some [int f.c.o, .ms n0 0 f.c.f.length 1, .ms (n0 + 1) 0 f.c.t.length 1, .ms (n0 + 2) 0 f.c.i.length 1, .ms (n0 + 3) 0 f.c.c.length 1, .ms (n0 + 4 + f.c.c.length) 0 f.z.length 1, .ms (n0 + 4 + f.c.c.length + 1) 0 f.a.length 1]) (some [int f.c.o, .ms n0 0 f.c.f.length 1, .ms (n0 + 1) 0 f.c.t.length 1, .ms (n0 + 2) 0 f.c.i.length 1, .ms (n0 + 3) 0 f.c.c.length 1, .ms (n0 + 4 + f.c.c.length) 0 f.z.length 1, .ms (n0 + 4 + f.c.c.length + 1) 0 f.a.length 1]) (n0 + 4 + f.c.c.length + 1 + 1 + j) (by omega)).trans (aA.2 j hj)
    exact ⟨n0, by omega, rfl, ⟨cB, zB, aB, rB⟩, by omega, fun o ho => by rw [hput_ne _ _ _ _ (by omega), hput_ne _ _ _ _ (by omega)]; exact lo o ho⟩

theorem IsMkF.some (L : HLaw P ν) (f : SF) (H : Hp) (nx : Nat) : ∃ u H' nx', IsMkF f H nx u H' nx' := by
  refine ⟨.agg (sfM f nx), fun o => if o < nx then H o else rowsH (hput (catH H nx f.c) (nx + 4 + f.c.c.length) (Option.some (ints f.z))) (nx + 4 + f.c.c.length + 1) f.a f.a.length o, nx + 4 + f.c.c.length + 2 + f.a.length, nx, Nat.le_refl _, rfl, ?_, Nat.le_refl _, fun o ho => if_pos ho⟩
  have q : FAt (rowsH (hput (catH H nx f.c) (nx + 4 + f.c.c.length) (Option.some (ints f.z))) (nx + 4 + f.c.c.length + 1) f.a f.a.length) f nx :=
    ⟨((catH_at H nx f.c).mono fun o _ _ => hput_ne _ _ _ _ (by omega)).mono fun o _ _ => rowsH_lo _ _ _ _ _ (by omega), (rowsH_lo _ _ _ _ _ (by omega)).trans (hput_eq _ _ _), (rowsH_at _ _ _).1, (rowsH_at _ _ _).2⟩
  exact q.mono fun o h1 _ => if_neg (by omega)

def V_laws_markSetFunctor : Vc :=
  .op true (.boxm (.t 0)) <|
  .op true (.p (.fad 0) [.t 2]) <|
  .op true (.p (.ld (some 5)) [.t 3]) <|
  .op true (.callm (.f 9) [.t 4, .t 1]) <|
  .op true (.p (.fad 5) [.t 2]) <|
  .op true (.p (.ld none) [.t 6]) <|
  .op true (.callm (.f 10) [.t 7, .t 5]) <|
  .op true (.p (.fad 6) [.t 2]) <|
  .op true (.p (.ld none) [.t 9]) <|
  .op true (.callm (.f 21) [.t 10, .t 8]) <|
  .ret [(.t 11, none)]
theorem markF_ok (hm : Has P ν 10 2 V_laws_markInt64S) (hm2 : Has P ν 21 2 V_laws_markInt64SS) (hc : Has P ν 9 2 V_laws_markCategory) (h : Has P ν 149 2 V_laws_markSetFunctor) (f : SF) (b : SmallF f) (n0 : Nat) (k : Int) (H : Hp) (nx : Nat) (hf : FAt H f n0) (hn : n0 + 4 + f.c.c.length + 2 + f.a.length ≤ nx) (k0 : 0 ≤ k) (kl : k ≤ 1048576) :
    OkM P ν 149 [.agg (sfM f n0), int k] H nx (fun r H' nx' => ∃ k' : Int, r = int k' ∧ 0 ≤ k' ∧ k' ≤ 4398046511104 ∧ nx ≤ nx' ∧ ∀ o, o < n0 ∨ n0 + 4 + f.c.c.length + 2 + f.a.length ≤ o → o < nx → H' o = H o) := by
  refine h _ _ _ _ rfl fun hwf => ?_
  unfold V_laws_markSetFunctor
  have bz := b.z
  have ba := b.a
  refine den_boxm rfl ?_
  show den _ _ _ _ (put _ _ (.mp nx 0 7)) (hput H nx (some (sfM f n0))) _ _
  have x1 : hput H nx (some (sfM f n0)) nx = some (sfM f n0) := hput_eq _ _ _
  have y1 : ∀ o, o < nx → hput H nx (some (sfM f n0)) o = H o := fun o ho => hput_ne _ _ _ _ (by omega)
  generalize hput H nx (some (sfM f n0)) = H1 at x1 y1
  have f1 : FAt H1 f n0 := hf.mono fun o h1 h2 => y1 o (by omega)
  have l0 : ∀ H2 : Hp, H2 nx = some (sfM f n0) → pvf H2 (.ld (some 5)) [.mp nx 0 7] = some (catM f.c n0) := fun H2 h => by simp only [pvf, pLd, h]; rfl
  have lz : ∀ H2 : Hp, H2 nx = some (sfM f n0) → pvf H2 (.ld none) [.mp nx 5 7] = some (.ms (n0 + 4 + f.c.c.length) 0 f.z.length 1) := fun H2 h => by simp only [pvf, pLd, h]; rfl
  have la : ∀ H2 : Hp, H2 nx = some (sfM f n0) → pvf H2 (.ld none) [.mp nx 6 7] = some (.ms (n0 + 4 + f.c.c.length + 1) 0 f.a.length 1) := fun H2 h => by simp only [pvf, pLd, h]; rfl
  try simp (disch := (first | rfl | with_reducible assumption | with_reducible solve_by_elim (maxDepth := 8) [Shape.inT, Shape.inI, Shape.inC, Shape.inK, Shape.obF, Shape.obT, Shape.arI, Arr.inF] | omega)) only [S2, Nat.reduceEqDiff, Nat.reduceAdd, iput, puts, p_fadm (l := 7) x1 rfl, l0 H1 x1]
  refine den_callm (fc := (9, [])) rfl (markCat_okB hm hm2 hc f.c b.c n0 k H1 (nx + 1) f1.c (by omega) k0 (by omega)) ⟨int 0, H1, nx + 1, 0, rfl, by omega, by omega, Nat.le_refl _, fun _ _ _ => rfl⟩ fun u H2 n2 hu => ?_
  obtain ⟨k2, rfl, k3, k4, n3, e2⟩ := hu
  have x2 := (e2 nx (by omega) (by omega)).trans x1
  have z2 := (e2 _ (by omega) (by omega)).trans f1.z
  have a2 := (e2 _ (by omega) (by omega)).trans f1.a
  have r2 := fun j hj => (e2 _ (by omega) (by omega)).trans (f1.row j hj)
  try simp (disch := (first | rfl | with_reducible assumption | with_reducible solve_by_elim (maxDepth := 8) [Shape.inT, Shape.inI, Shape.inC, Shape.inK, Shape.obF, Shape.obT, Shape.arI, Arr.inF] | omega)) only [S2, Nat.reduceEqDiff, Nat.reduceAdd, iput, puts, p_fadm (l := 7) x2 rfl, lz H2 x2]
  refine den_callm (fc := (10, [])) rfl (markI_ms hm f.z k2 _ H2 n2 z2 k3 (by omega) (by omega)) ⟨_, _, _, rfl, rfl, rfl⟩ fun u H4 n6 hu => ?_
  obtain ⟨rfl, rfl, rfl⟩ := hu
  have x4 : hput H2 (n0 + 4 + f.c.c.length) (some (ints (seqI k2 f.z.length))) nx = some (sfM f n0) := (hput_ne _ _ _ _ (by omega)).trans x2
  have a4 : hput H2 (n0 + 4 + f.c.c.length) (some (ints (seqI k2 f.z.length))) (n0 + 4 + f.c.c.length + 1) = _ := (hput_ne _ _ _ _ (by omega)).trans a2
  have r4 : ∀ j, j < f.a.length → hput H2 (n0 + 4 + f.c.c.length) (some (ints (seqI k2 f.z.length))) (n0 + 4 + f.c.c.length + 1 + 1 + j) = some (ints (f.a.getD j [])) := fun j hj => (hput_ne _ _ _ _ (by omega)).trans (r2 j hj)
  have y4 : ∀ o, o < n0 ∨ n0 + 4 + f.c.c.length + 2 + f.a.length ≤ o → o < nx → hput H2 (n0 + 4 + f.c.c.length) (some (ints (seqI k2 f.z.length))) o = H o := fun o h1 h2 => ((hput_ne _ _ _ _ (by omega)).trans (e2 o (by omega) (by omega))).trans (y1 o h2)
  generalize hput H2 (n0 + 4 + f.c.c.length) (some (ints (seqI k2 f.z.length))) = H4 at x4 a4 r4 y4
  try simp (disch := (first | rfl | with_reducible assumption | with_reducible solve_by_elim (maxDepth := 8) [Shape.inT, Shape.inI, Shape.inC, Shape.inK, Shape.obF, Shape.obT, Shape.arI, Arr.inF] | omega)) only [S2, Nat.reduceEqDiff, Nat.reduceAdd, iput, puts, p_fadm (l := 7) x4 rfl, la _ x4]
  refine den_callm (fc := (21, [])) rfl (markII_ok hm hm2 (n0 + 4 + f.c.c.length + 1) f.a.length (fun j => n0 + 4 + f.c.c.length + 1 + 1 + j) (fun j => (f.a.getD j []).length) (k2 + f.z.length) H4 n6 a4 (fun j hj => ⟨_, r4 j hj, rfl⟩) (fun j hj => by omega) b.row ba (by omega) (by omega)) ⟨int 0, H4, n6, 0, rfl, by omega, by omega, rfl, fun _ _ => rfl⟩ fun u H5 n7 hu => ?_
  obtain ⟨k5, rfl, q1, q2, rfl, q4⟩ := hu
  refine ⟨_, rfl, _, fun _ _ h => h, k5, rfl, q1, by omega, by omega, fun o h1 h2 => ?_⟩
  rw [q4 o (fun j hj => by show o ≠ n0 + 4 + f.c.c.length + 1 + 1 + j; omega)]
  exact y4 o h1 h2
end Go.Av
