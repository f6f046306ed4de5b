/-
  Copies of set functors.
-/
import Derived.Test.YtomlmcfcjlfhjaaBvC4
import Derived.Test.YtomlmcfcjlfhjaaBvK0
namespace Go.Av
set_option linter.unusedSectionVars false
set_option linter.unusedSimpArgs false
set_option linter.unusedVariables false
variable [md : Md]
open Classical
set_option linter.unusedSimpArgs false
set_option linter.unusedVariables false
variable {P : Program} {ν : Nat → FuncId}

theorem frzN_rows {H : Hp} {o : Nat} {m : List (List Int)} {id : Nat → Nat} (h : H o = some (outerC m.length id fun j => (m.getD j []).length)) (hr : ∀ j, j < m.length → H (id j) = some (ints (m.getD j []))) (k : Nat) : frzN H (k + 1 + 1) (.ms o 0 m.length 1) = some (.sl (rows m) m.length) := by
  have hl : (outerC m.length id fun j => (m.getD j []).length).length = m.length := by simp [outerC]
  simp only [frzN, h, hl, Nat.zero_add, Nat.mul_one, if_true]
  rw [show outerC m.length id (fun j => (m.getD j []).length) = (List.range m.length).map fun j => .ms (id j) 0 (m.getD j []).length 1 from rfl, mapM_outer fun j hj => frzN_ms (hr j hj) k]
  simp
theorem rowsH_at (H : Hp) (nx : Nat) (m : List (List Int)) : rowsH H nx m m.length nx = some (outerC m.length (fun j => nx + 1 + j) fun j => (m.getD j []).length) ∧ ∀ j, j < m.length → rowsH H nx m m.length (nx + 1 + j) = some (ints (m.getD j [])) := by
  refine ⟨by simp only [rowsH]; rw [if_pos trivial, outer_full], fun j hj => ?_⟩
  simp only [rowsH]; rw [if_neg (by omega), if_pos (by omega), show nx + 1 + j - nx - 1 = j by omega]

def zero7 : List AV := [int 0, .nil, .nil, .nil, .nil, .nil, .nil]
set_option maxHeartbeats 1000000 in
theorem toF_fz (L : HLaw P ν) (h : Has P ν 142 1 V_laws_toSetFunctor) (f : SF) (b : SmallF f) : Fz (OkM P ν) 142 [.agg f.cells] (.agg f.cells) := by
  refine OkM.fz (Ψ := fun H nx r H' nx' => frzN H' fuel r = some (.agg f.cells)) (fun H nx => h _ _ _ _ rfl fun hwf => ?_) fun _ _ _ hh => hh
  unfold V_laws_toSetFunctor
  simp only [SS, Nat.reduceEqDiff, Nat.reduceAdd, iput, puts, p_boxs]
  refine den_new ?_
  refine den_new ?_
  have k0 : hput (hput H nx (some zero7)) (nx + 1) (some zero7) nx = some zero7 := by rw [hput_ne _ _ _ _ (by omega)]; exact hput_eq _ _ _
  have k1 : hput (hput H nx (some zero7)) (nx + 1) (some zero7) (nx + 1) = some zero7 := hput_eq _ _ _
  show den _ _ _ _ _ (hput (hput H nx (some zero7)) (nx + 1) (some zero7)) _ _
  generalize hput (hput H nx (some zero7)) (nx + 1) (some zero7) = H1 at k0 k1
  simp only [SS, Nat.reduceEqDiff, Nat.reduceAdd, iput, puts, p_lds5]
  refine den_callm (fc := (5, [])) rfl (toCat_ok L.toI L.toII L.toC f.c b.c _ _) (IsMkC.some _ _ _) fun u H2 n2 hu => ?_
  obtain ⟨n0, e0, rfl, rfl, rfl⟩ := hu
  have k0 := (catH_lo H1 n0 f.c nx (by omega)).trans k0
  have k1 := (catH_lo H1 n0 f.c (nx + 1) (by omega)).trans k1
  have cA := catH_at H1 n0 f.c
  generalize catH H1 n0 f.c = H2 at k0 k1 cA
  simp only [SS, Nat.reduceEqDiff, Nat.reduceAdd, iput, puts, p_fadm (l := 7) k1 rfl]
  refine den_st (h := hput H2 (nx + 1) (some [int f.c.o, .ms n0 0 f.c.f.length 1, .ms (n0 + 1) 0 f.c.t.length 1, .ms (n0 + 2) 0 f.c.i.length 1, .ms (n0 + 3) 0 f.c.c.length 1, .nil, .nil])) ?_ ?_
  · simp only [SS, Nat.reduceEqDiff, Nat.reduceAdd, iput, puts]
    simp only [stTo, k1, catM, AV.cells, zero7]
    rfl
  have k0 : hput H2 (nx + 1) (some [int f.c.o, .ms n0 0 f.c.f.length 1, .ms (n0 + 1) 0 f.c.t.length 1, .ms (n0 + 2) 0 f.c.i.length 1, .ms (n0 + 3) 0 f.c.c.length 1, .nil, .nil]) nx = some zero7 := (hput_ne _ _ _ _ (by omega)).trans k0
  have k1 := hput_eq H2 (nx + 1) (some [int f.c.o, .ms n0 0 f.c.f.length 1, .ms (n0 + 1) 0 f.c.t.length 1, .ms (n0 + 2) 0 f.c.i.length 1, .ms (n0 + 3) 0 f.c.c.length 1, .nil, .nil])
  have cA := cA.mono (H' := hput H2 (nx + 1) (some [int f.c.o, .ms n0 0 f.c.f.length 1, .ms (n0 + 1) 0 f.c.t.length 1, .ms (n0 + 2) 0 f.c.i.length 1, .ms (n0 + 3) 0 f.c.c.length 1, .nil, .nil])) fun o _ _ => hput_ne _ _ _ _ (by omega)
  generalize hput H2 (nx + 1) (some [int f.c.o, .ms n0 0 f.c.f.length 1, .ms (n0 + 1) 0 f.c.t.length 1, .ms (n0 + 2) 0 f.c.i.length 1, .ms (n0 + 3) 0 f.c.c.length 1, .nil, .nil]) = H3 at k0 k1 cA
  simp only [SS, Nat.reduceEqDiff, Nat.reduceAdd, iput, puts, sf5]
  refine den_callm (fc := (16, [])) rfl (toI_ok L.toI f.z b.z _ _) (IsMk.some _ _ _) fun u H4 n4 hu => ?_
  obtain ⟨rfl, rfl, rfl⟩ := hu
  have k0 : hput H3 (n0 + 4 + f.c.c.length) (some (ints f.z)) nx = some zero7 := (hput_ne _ _ _ _ (by omega)).trans k0
  have k1 := (hput_ne H3 (n0 + 4 + f.c.c.length) (nx + 1) (some (ints f.z)) (by omega)).trans k1
  have zA := hput_eq H3 (n0 + 4 + f.c.c.length) (some (ints f.z))
  have cA := cA.mono (H' := hput H3 (n0 + 4 + f.c.c.length) (some (ints f.z))) fun o _ _ => hput_ne _ _ _ _ (by omega)
  generalize hput H3 (n0 + 4 + f.c.c.length) (some (ints f.z)) = H4 at k0 k1 cA zA
  refine den_fset (o := nx + 1) (m := 7) (u := .ms (n0 + 4 + f.c.c.length) 0 f.z.length 1) rfl rfl k1 rfl (by omega) rfl ?_
  simp only [List.set_cons_zero, List.set_cons_succ]
  have k0 : hput H4 (nx + 1) (some [int f.c.o, .ms n0 0 f.c.f.length 1, .ms (n0 + 1) 0 f.c.t.length 1, .ms (n0 + 2) 0 f.c.i.length 1, .ms (n0 + 3) 0 f.c.c.length 1, .ms (n0 + 4 + f.c.c.length) 0 f.z.length 1, .nil]) nx = some zero7 := (hput_ne _ _ _ _ (by omega)).trans k0
  have k1 := hput_eq H4 (nx + 1) (some [int f.c.o, .ms n0 0 f.c.f.length 1, .ms (n0 + 1) 0 f.c.t.length 1, .ms (n0 + 2) 0 f.c.i.length 1, .ms (n0 + 3) 0 f.c.c.length 1, .ms (n0 + 4 + f.c.c.length) 0 f.z.length 1, .nil])
  have zA := (hput_ne H4 (nx + 1) (n0 + 4 + f.c.c.length) (some [int f.c.o, .ms n0 0 f.c.f.length 1, .ms (n0 + 1) 0 f.c.t.length 1, .ms (n0 + 2) 0 f.c.i.length 1, .ms (n0 + 3) 0 f.c.c.length 1, .ms (n0 + 4 + f.c.c.length) 0 f.z.length 1, .nil]) (by omega)).trans zA
  have cA := cA.mono (H' := hput H4 (nx + 1) (some [int f.c.o, .ms n0 0 f.c.f.length 1, .ms (n0 + 1) 0 f.c.t.length 1, .ms (n0 + 2) 0 f.c.i.length 1, .ms (n0 + 3) 0 f.c.c.length 1, .ms (n0 + 4 + f.c.c.length) 0 f.z.length 1, .nil])) fun o _ _ => hput_ne _ _ _ _ (by omega)
  generalize hput H4 (nx + 1) (some [int f.c.o, .ms n0 0 f.c.f.length 1, .ms (n0 + 1) 0 f.c.t.length 1, .ms (n0 + 2) 0 f.c.i.length 1, .ms (n0 + 3) 0 f.c.c.length 1, .ms (n0 + 4 + f.c.c.length) 0 f.z.length 1, .nil]) = H5 at k0 k1 cA zA
  simp only [SS, Nat.reduceEqDiff, Nat.reduceAdd, iput, puts, sf6]
  refine den_callm (fc := (17, [])) rfl (toII_ok L.toI L.toII f.a b.a b.row _ _) (IsMk2.some _ _ _) fun u H6 n6 hu => ?_
  obtain ⟨rfl, rfl, rfl⟩ := hu
  have k0 := (rowsH_lo H5 (n0 + 4 + f.c.c.length + 1) f.a f.a.length nx (by omega)).trans k0
  have k1 := (rowsH_lo H5 (n0 + 4 + f.c.c.length + 1) f.a f.a.length (nx + 1) (by omega)).trans k1
  have zA := (rowsH_lo H5 (n0 + 4 + f.c.c.length + 1) f.a f.a.length (n0 + 4 + f.c.c.length) (by omega)).trans zA
  have cA := cA.mono (H' := rowsH H5 (n0 + 4 + f.c.c.length + 1) f.a f.a.length) fun o _ _ => rowsH_lo _ _ _ _ _ (by omega)
  have aA := rowsH_at H5 (n0 + 4 + f.c.c.length + 1) f.a
  generalize rowsH H5 (n0 + 4 + f.c.c.length + 1) f.a f.a.length = H6 at k0 k1 cA zA aA
  refine den_fset (o := nx + 1) (m := 7) (u := .ms (n0 + 4 + f.c.c.length + 1) 0 f.a.length 1) rfl rfl k1 rfl (by omega) rfl ?_
  simp only [List.set_cons_zero, List.set_cons_succ]
  refine den_lda (o := nx + 1) (m := 7) rfl (hput_eq _ _ _) rfl ?_
  refine den_stA (o := nx) (m := 7) (c := zero7) rfl rfl ((hput_ne _ _ _ _ (by omega)).trans k0) rfl rfl rfl ?_
  have keep : ∀ (d e : Option (List AV)) (o : Nat), nx + 2 ≤ o → hput (hput H6 (nx + 1) d) nx e o = H6 o := fun d e o ho => by rw [hput_ne _ _ _ _ (by omega), hput_ne _ _ _ _ (by omega)]
  refine ⟨.agg [int f.c.o, .ms n0 0 f.c.f.length 1, .ms (n0 + 1) 0 f.c.t.length 1, .ms (n0 + 2) 0 f.c.i.length 1, .ms (n0 + 3) 0 f.c.c.length 1, .ms (n0 + 4 + f.c.c.length) 0 f.z.length 1, .ms (n0 + 4 + f.c.c.length + 1) 0 f.a.length 1], ?_, _, fun _ _ h => h, ?_⟩
  · simp only [retOf, rets, SS, Nat.reduceEqDiff, Nat.reduceAdd, iput, puts, pLd, hput_eq]
    rfl
  · have cB := cA.mono (H' := hput (hput H6 (nx + 1) (some [int f.c.o, .ms n0 0 f.c.f.length 1, .ms (n0 + 1) 0 f.c.t.length 1, .ms (n0 + 2) 0 f.c.i.length 1, .ms (n0 + 3) 0 f.c.c.length 1, .ms (n0 + 4 + f.c.c.length) 0 f.z.length 1, .ms (n0 + 4 + f.c.c.length + 1) 0 f.a.length 1])) nx (some [int f.c.o, .ms n0 0 f.c.f.length 1, .ms (n0 + 1) 0 f.c.t.length 1, .ms (n0 + 2) 0 f.c.i.length 1, .ms (n0 + 3) 0 f.c.c.length 1, .ms (n0 + 4 + f.c.c.length) 0 f.z.length 1, .ms (n0 + 4 + f.c.c.length + 1) 0 f.a.length 1])) fun o h1 _ => keep (some [int f.c.o, .ms n0 0 f.c.f.length 1, .ms (n0 + 1) 0 f.c.t.length 1, .ms (n0 + 2) 0 f.c.i.length 1, .ms (n0 + 3) 0 f.c.c.length 1, .ms (n0 + 4 + f.c.c.length) 0 f.z.length 1, .ms (n0 + 4 + f.c.c.length + 1) 0 f.a.length 1]) (some [int f.c.o, .ms n0 0 f.c.f.length 1, .ms (n0 + 1) 0 f.c.t.length 1, .ms (n0 + 2) 0 f.c.i.length 1, .ms (n0 + 3) 0 f.c.c.length 1, .ms (n0 + 4 + f.c.c.length) 0 f.z.length 1, .ms (n0 + 4 + f.c.c.length + 1) 0 f.a.length 1]) o (by omega)
    have zB := (keep (some [int f.c.o, .ms n0 0 f.c.f.length 1, .ms (n0 + 1) 0 f.c.t.length 1, .ms (n0 + 2) 0 f.c.i.length 1, .ms (n0 + 3) 0 f.c.c.length 1, .ms (n0 + 4 + f.c.c.length) 0 f.z.length 1, .ms (n0 + 4 + f.c.c.length + 1) 0 f.a.length 1]) (some [int f.c.o, .ms n0 0 f.c.f.length 1, .ms (n0 + 1) 0 f.c.t.length 1, .ms (n0 + 2) 0 f.c.i.length 1, .ms (n0 + 3) 0 f.c.c.length 1, .ms (n0 + 4 + f.c.c.length) 0 f.z.length 1, .ms (n0 + 4 + f.c.c.length + 1) 0 f.a.length 1]) (n0 + 4 + f.c.c.length) (by omega)).trans zA
    have aB := (keep (some [int f.c.o, .ms n0 0 f.c.f.length 1, .ms (n0 + 1) 0 f.c.t.length 1, .ms (n0 + 2) 0 f.c.i.length 1, .ms (n0 + 3) 0 f.c.c.length 1, .ms (n0 + 4 + f.c.c.length) 0 f.z.length 1, .ms (n0 + 4 + f.c.c.length + 1) 0 f.a.length 1]) (some [int f.c.o, .ms n0 0 f.c.f.length 1, .ms (n0 + 1) 0 f.c.t.length 1, .ms (n0 + 2) 0 f.c.i.length 1, .ms (n0 + 3) 0 f.c.c.length 1, .ms (n0 + 4 + f.c.c.length) 0 f.z.length 1, .ms (n0 + 4 + f.c.c.length + 1) 0 f.a.length 1]) (n0 + 4 + f.c.c.length + 1) (by omega)).trans aA.1
    have rB := fun j hj => (keep (some [int f.c.o, .ms n0 0 f.c.f.length 1, .ms (n0 + 1) 0 f.c.t.length 1, .ms (n0 + 2) 0 f.c.i.length 1, .ms (n0 + 3) 0 f.c.c.length 1, .ms (n0 + 4 + f.c.c.length) 0 f.z.length 1, .ms (n0 + 4 + f.c.c.length + 1) 0 f.a.length 1]) (some [int f.c.o, .ms n0 0 f.c.f.length 1, .ms (n0 + 1) 0 f.c.t.length 1, .ms (n0 + 2) 0 f.c.i.length 1, .ms (n0 + 3) 0 f.c.c.length 1, .ms (n0 + 4 + f.c.c.length) 0 f.z.length 1, .ms (n0 + 4 + f.c.c.length + 1) 0 f.a.length 1]) (n0 + 4 + f.c.c.length + 1 + 1 + j) (by omega)).trans (aA.2 j hj)
    show ([int f.c.o, AV.ms n0 0 f.c.f.length 1, .ms (n0 + 1) 0 f.c.t.length 1, .ms (n0 + 2) 0 f.c.i.length 1, .ms (n0 + 3) 0 f.c.c.length 1, .ms (n0 + 4 + f.c.c.length) 0 f.z.length 1, .ms (n0 + 4 + f.c.c.length + 1) 0 f.a.length 1].mapM (frzN _ 5)).map AV.agg = _
    simp only [List.mapM_cons, List.mapM_nil, frzN_int, frzN_ms cB.f 4, frzN_ms cB.t 4, frzN_ms cB.i 4, frzN_rows cB.c cB.row 3, frzN_ms zB 4, frzN_rows aB rB 3]
    rfl
end Go.Av
