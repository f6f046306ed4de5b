/-
  SetFunctor.slots as the statement asks for it.
-/
import Derived.Test.YtomlmcfcjlfhjaaBvSL
import Derived.Test.YtomlmcfcjlfhjaaBvC7
namespace Go.Av
set_option linter.unusedSectionVars false
set_option linter.unusedSimpArgs false
set_option linter.unusedVariables false
open Classical
local instance b7Md : Md := beside

theorem rV_eq (y h : Int) : ∀ m i, rV y h i m = (List.range' i m).map fun (v : Nat) => [y, h, (v : Int)]
  | 0, _ => rfl
  | m + 1, i => by simp [rV, List.range'_succ, rV_eq y h m]
theorem rH_eq (y : Int) (N : Nat) : ∀ l, rH y N l = slotH y N l
  | [] => rfl
  | h :: r => by
    have := rH_eq y N r
    simp only [rH, this, rV_eq, slotH, List.flatMap_cons, slotV, List.range_eq_range']
theorem rY_eq (f : SF) (x : Int) : ∀ m y, rY f.z (fun y => homL f.c x y) y m = (List.range' y m).flatMap (slotY f x)
  | 0, _ => rfl
  | m + 1, y => by simp only [rY, rY_eq f x m, rH_eq, List.range'_succ, List.flatMap_cons]; rfl
theorem rY_slot (f : SF) (x : Int) : rY f.z (fun y => homL f.c x y) 0 f.c.o.toNat = slotL f x := by rw [rY_eq, slotL, List.range_eq_range']

theorem Out.own {R : List (List Int)} (h3 : ∀ q ∈ R, q.length = 3) {nx nx' : Nat} {r : AV} {H' : Hp} (h : Out R nx r H' nx') : nx ≤ nx' ∧ OwnD R r H' nx nx' ∧ clnH nx H' := by
  rcases h with ⟨rfl, rfl, rfl, rfl⟩ | ⟨hR, rfl, rfl, rfl⟩
  · exact ⟨Nat.le_refl _, .nil, fun o c hc => by cases hc⟩
  · have e0 : outH R nx nx = some (outC R nx) := by simp [outH]
    have e1 : ∀ i, i < R.length → outH R nx (nx + 1 + i) = some (ints (R.getD i [])) := fun i hi => by
      have a1 : nx + 1 + i ≠ nx := by omega
      have a2 : nx + 1 + i - nx - 1 = i := by omega
      have a3 : nx < nx + 1 + i ∧ nx + 1 + i ≤ nx + R.length := by omega
      simp only [outH, if_neg a1, if_pos a3, a2]
    have get : ∀ k a, (outC R nx)[k]? = some a → k < R.length ∧ a = .ms (nx + 1 + k) 0 3 1 := fun k a hk => by
      have hk' : k < R.length := by
        have := (List.getElem?_eq_some_iff.1 hk).1
        simpa [outC] using this
      refine ⟨hk', ?_⟩
      simp [outC, hk'] at hk
      exact hk.symm
    refine ⟨by omega, .inr ⟨nx, outC R nx, rfl, Nat.le_refl _, by omega, e0, by simp [outC], fun k a hk => ?_, fun j k q n1 n2 hj hk => ?_⟩, fun o c hc => ?_⟩
    · obtain ⟨hk', rfl⟩ := get k a hk
      have : (R.getD k []).length = 3 := by
        have : R.getD k [] = R[k] := by simp [hk']
        rw [this]; exact h3 _ (List.getElem_mem hk')
      exact .inr ⟨nx + 1 + k, by rw [this], by omega, by omega, by omega, e1 k hk'⟩
    · obtain ⟨_, e2⟩ := get j _ hj
      obtain ⟨_, e3⟩ := get k _ hk
      injection e2 with e2 _ _ _
      injection e3 with e3 _ _ _
      omega
    · by_cases h : o = nx
      · subst h
        rw [e0] at hc
        cases hc
        refine List.all_eq_true.2 fun a ha => ?_
        obtain ⟨k, hk⟩ := List.getElem?_of_mem ha
        obtain ⟨_, rfl⟩ := get k a hk
        simp [cln]; omega
      · simp only [outH, if_neg h] at hc
        split at hc
        · cases hc; exact ints_cln _ _
        · cases hc

theorem slots_fine {P : Program} {ν : Nat → FuncId} {num : FuncId → Option Nat} {hint hintc : List (Nat × Nat)} {p : MnP} {pc : ChP} (hF : SlF P ν num hint hintc p pc) (hh : Has (md := free false) P ν 33 3 V_Category_hom)
    (f : SF) (x : Int) (hs : SFun f) : SlotsOk (md := beside) P ν f x := by
  intro nx
  have s := hs.1
  have st := s.cat.1
  have n40 := st.n40
  have o8 := st.o8
  have o0 := st.o0
  have zl := s.zl
  have hC : FcOk ν P f.cells x f.c.o.toNat f.z (fun y => homL f.c x y) := by
    refine ⟨?_, sf5 f, fun y hy => ?_, by omega, by omega, fun y hy => ?_, fun z hz => ?_⟩
    · rw [sf0]; congr 2; omega
    · exact Fz.win (md := free false) (n := 5) (hom_fz (md := free false) hh f.c x y (by have := st.tl; omega) (by omega))
    · have := homL_len st x (y : Int)
      omega
    · obtain ⟨k, hk, rfl⟩ := List.getElem_of_mem hz
      have := s.zw k hk
      simp [List.getD, hk] at this
      omega
  have hL : (rY f.z (fun y => homL f.c x y) 0 f.c.o.toNat).length < 1099511627776 := by
    rw [rY_slot]
    have := slot_take s x f.c.o.toNat (by omega)
    unfold slotL
    omega
  refine OkM.mono (md := beside) (slots_ok hF hC hL nx) fun r H' nx' h => ?_
  have := Out.own (fun q hq => rY3 _ _ _ _ q hq) h
  rwa [rY_slot] at this
end Go.Av
