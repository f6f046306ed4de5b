/-
  Marks on a functor.
-/
import Derived.Test.YtomlmcfcjlfhjaaBvD3
namespace Go.Av
set_option linter.unusedSectionVars false
set_option linter.unusedSimpArgs false
set_option linter.unusedVariables false
variable [md : Md]
open Classical
set_option linter.unusedSimpArgs false
set_option linter.unusedVariables false
variable {P : Program} {ν : Nat → FuncId}

theorem IsMkU.some (f : Fu) (H : Hp) (nx : Nat) : ∃ u H' nx', IsMkU f H nx u H' nx' := by
  obtain ⟨_, H1, _, a, _, ha, rfl, c1, e1⟩ := toCat_someG f.s H nx
  obtain ⟨_, H2, _, b, _, hb, rfl, c2, e2⟩ := toCat_someG f.t H1 (a + 4 + f.s.c.length)
  generalize hn : b + 4 + f.t.c.length = n
  have k : ∀ o, o < n → hput (hput H2 n (Option.some (ints f.ob))) (n + 1) (Option.some (ints f.ar)) o = H2 o := fun o ho => by rw [hput_ne _ _ _ _ (by omega), hput_ne _ _ _ _ (by omega)]
  refine ⟨.agg (fuM f a b n (n + 1)), hput (hput H2 n (Option.some (ints f.ob))) (n + 1) (Option.some (ints f.ar)), n + 2, a, b, n, n + 1, rfl, ⟨ha, hb, by omega, by omega, by omega⟩, ⟨c1.mono fun o _ _ => ?_, c2.mono fun o _ _ => k o (by omega), ?_, hput_eq _ _ _⟩, fun o ho => ?_⟩
  · rw [k o (by omega), e2 o (by omega)]
  · rw [hput_ne _ _ _ _ (by omega)]; exact hput_eq _ _ _
  · rw [k o (by omega), e2 o (by omega), e1 o ho]
/-- As markCat_ok, from a larger mark. -/
theorem markCat_okB (hm : Has P ν 10 2 V_laws_markInt64S) (hm2 : Has P ν 21 2 V_laws_markInt64SS) (h : Has P ν 9 2 V_laws_markCategory) (c : Cat) (b : Small2 c) (n0 : Nat) (k : Int) (H : Hp) (nx : Nat) (hc : CatAt H n0 c) (hn : n0 + 4 + c.c.length ≤ nx) (k0 : 0 ≤ k) (kl : k ≤ 2199023255552) :
    OkM P ν 9 [catM c n0, int k] H nx (fun r H' nx' => ∃ k' : Int, r = int k' ∧ 0 ≤ k' ∧ k' ≤ k + 1099514773504 ∧ nx ≤ nx' ∧ ∀ o, o < n0 ∨ n0 + 4 + c.c.length ≤ o → o < nx → H' o = H o) := by
  refine h _ _ _ _ rfl fun hwf => ?_
  unfold V_laws_markCategory
  have b1 := b.f
  have b2 := b.t
  have b3 := b.i
  have b4 := b.c
  refine den_boxm rfl ?_
  refine den_fget (o := nx) (m := 5) rfl (hput_eq _ _ _) rfl rfl ?_
  generalize hH1 : hput H nx (some (ev (env0 [catM c n0, int k]) (.t 0)).cells) = H1
  have x1 : H1 nx = some [int c.o, .ms n0 0 c.f.length 1, .ms (n0 + 1) 0 c.t.length 1, .ms (n0 + 2) 0 c.i.length 1, .ms (n0 + 3) 0 c.c.length 1] := by rw [← hH1]; exact hput_eq _ _ _
  have y1 : ∀ o, o < nx → H1 o = H o := fun o ho => by rw [← hH1]; exact hput_ne _ _ _ _ (by omega)
  have c1 : CatAt H1 n0 c := hc.mono fun o _ ho => y1 o (by omega)
  refine den_callm (fc := (10, [])) rfl (markI_ms hm c.f k n0 _ _ c1.f k0 (by omega) (by omega)) ⟨_, _, _, rfl, rfl, rfl⟩ fun u H' nx' hu => ?_
  obtain ⟨rfl, rfl, rfl⟩ := hu
  refine den_fget (o := nx) (m := 5) rfl (hp2 (by omega) x1) rfl rfl ?_
  have c2 : hput H1 n0 (some (ints (seqI k c.f.length))) (n0 + 1) = some (ints c.t) := hp2 (by omega) c1.t
  refine den_callm (fc := (10, [])) rfl (markI_ms hm c.t (k + c.f.length) (n0 + 1) _ _ c2 (by omega) (by omega) (by omega)) ⟨_, _, _, rfl, rfl, rfl⟩ fun u H' nx' hu => ?_
  obtain ⟨rfl, rfl, rfl⟩ := hu
  refine den_fget (o := nx) (m := 5) rfl (hp2 (by omega) (hp2 (by omega) x1)) rfl rfl ?_
  have c3 : hput (hput H1 n0 (some (ints (seqI k c.f.length)))) (n0 + 1) (some (ints (seqI (k + c.f.length) c.t.length))) (n0 + 2) = some (ints c.i) := hp2 (by omega) (hp2 (by omega) c1.i)
  refine den_callm (fc := (10, [])) rfl (markI_ms hm c.i (k + c.f.length + c.t.length) (n0 + 2) _ _ c3 (by omega) (by omega) (by omega)) ⟨_, _, _, rfl, rfl, rfl⟩ fun u H' nx' hu => ?_
  obtain ⟨rfl, rfl, rfl⟩ := hu
  refine den_fget (o := nx) (m := 5) rfl (hp2 (by omega) (hp2 (by omega) (hp2 (by omega) x1))) rfl rfl ?_
  refine den_callm (fc := (21, [])) rfl (markII_ok hm hm2 (n0 + 3) c.c.length (fun j => n0 + 4 + j) (fun j => (c.c.getD j []).length) (k + c.f.length + c.t.length + c.i.length) _ _ ?_ ?_ (fun j _ => by omega) b.row (by omega) (by omega) (by omega)) ⟨int 0, _, _, 0, rfl, by omega, by omega, rfl, fun _ _ => rfl⟩ fun u H' nx' hu => ?_
  · exact hp2 (by omega) (hp2 (by omega) (hp2 (by omega) c1.c))
  · intro j hj; exact ⟨c.c.getD j [], hp2 (by show n0 + 4 + j ≠ n0 + 2; omega) (hp2 (by show n0 + 4 + j ≠ n0 + 1; omega) (hp2 (by show n0 + 4 + j ≠ n0; omega) (c1.row j hj))), rfl⟩
  · obtain ⟨k', rfl, q1, q2, rfl, q4⟩ := hu
    refine ⟨_, rfl, H', fun _ _ h => h, k', rfl, q1, by omega, Nat.le_succ _, fun o h1 h2 => ?_⟩
    rw [q4 o (fun j hj => by show o ≠ n0 + 4 + j; omega), hput_ne _ _ _ _ (by omega), hput_ne _ _ _ _ (by omega), hput_ne _ _ _ _ (by omega)]
    exact y1 o h2
end Go.Av
