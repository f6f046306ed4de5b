/-
  From a call beside leavers to one good run.
-/
import Derived.Test.YtomlmcfcjlfhjaaBvPH
import Derived.Conc.LeavingOf
namespace Go.Av
set_option linter.unusedSectionVars false
set_option linter.unusedSimpArgs false
set_option linter.unusedVariables false
open Go.Conc (G crowd solo Deaf Past AtEnd AtRel Leavers beside_ends Goes)

theorem stepG_done {P : Program} {fr : Frame} {w : World} {v : Value} {fn : Func} (h1 : fr.mode = .returning) (h2 : fr.defers = []) (h3 : fr.kind = .normal) (hf : P.funcs[fr.fn]? = some fn) (hr : (results fn fr.tmps).run P w = .ok v w) (hi : P.inits.idxOf? fr.fn = none) :
    stepG P true (G fr []) w = .ended (.done v) w (seen P fr.fn ((results fn fr.tmps).events P w #[])) := by
  obtain ⟨f1, t1, td, d1, m1, k1, _⟩ := fr
  simp only at h1 h2 h3 hf hr hi
  subst h1; subst h2; subst h3
  simp [G, stepG, unwind, doReturn, hf, hr, hi, GStep.after]

local instance o2Md : Md := beside
/-- One good run. -/
theorem good_of_calls {P : Program} {f : FuncId} {args : Array Value} {W : World} {R : Ending → World → Prop} {Post : Value → World → Prop} (h : Calls P f args W R) (hp : ∀ v w d, R (.returned v) w → Post v (w.at d)) (hi : P.inits.idxOf? f = none) :
    ∃ M last o w' t', runNT P (M + 1) (solo (G (Frame.enter P f args .normal) []) W) #[] = (.ended o w', t') ∧ runN P M (solo (G (Frame.enter P f args .normal) []) W) = .next last ∧ step P last = .ended o w' ∧ Go.Conc.Good P Post last o w' t' := by
  have hb := h (BR P fun g w => ∃ v fr w1 d, g = G fr [] ∧ w = w1.at d ∧ Leav P fr w1 v ∧ R (.returned v) w1 ∧ fr.fn = f) [] ⟨_, rfl⟩ fun v w' fr hR hfr hl => BR.stop fun d => ⟨v, fr, w', d, rfl, rfl, hl, hR, hfr⟩
  have hF0 : Fr P #[G (Frame.enter P f args .normal) []] #[] (fun _ => 0) (G (Frame.enter P f args .normal) []) W := by
    refine ⟨rfl, ⟨fun i g hi hg => ?_, fun j _ => rfl⟩, ⟨fun said hr => ?_, fun i a ha _ => ?_, fun i g hg _ _ => ?_, rfl, fun op hop => (by simp at hop)⟩⟩
    · have : i ≠ 0 := hi
      rw [Array.getElem?_eq_none (by simp; omega)] at hg
      cases hg
    · obtain ⟨i, j, _, ⟨a, b, ha, _⟩, _⟩ := hr
      simp [Trace.act?] at ha
    · simp [Go.Conc.touchAt, Trace.act?] at ha
    · simp [Trace.g?] at hg
  obtain ⟨N, gs, g, w, sl, T, q, r1, F, v, fr, w1, d, rfl, rfl, hl, hR, hfr⟩ := hb #[G (Frame.enter P f args .normal) []] none #[] (fun _ => 0) W.drawn hF0
  obtain ⟨fn, hf, hres⟩ := hl.res
  have hL : Leavers P T gs q := ⟨fun i g hi hg => F.lv.old i g (by show ¬ i = 0; omega) hg, F.lv.above⟩
  obtain ⟨M, last, o, w', t', e1, e2, e3, e4⟩ := beside_ends (P := P) (Shun := Noone) (B := w1.heap.size) (D := fun _ _ _ => False) (Post := Post) (sl := sl) (w := w1.at d) (n := 0) (fun _ _ _ h => h.elim) F.zero hL F.past (fun w2 ⟨d2, hw2⟩ => by
    subst hw2
    have hq := hres ((w1.at d).at d2) ⟨d2, rfl⟩
    exact ⟨rfl, v, _, stepG_done hl.mode hl.defers hl.kind hf hq.one.1 (by rw [hfr]; exact hi), fun e he => hq.one.2 e (Go.Conc.mem_seen he), hp v w1 d2 hR⟩)
  refine ⟨N + M, last, o, w', t', ?_, ?_, e3, e4⟩
  · rw [Go.Conc.solo_eq_crowd, Nat.add_assoc, runNT_add]
    rw [at_self] at r1
    rw [r1]
    exact e1
  · rw [Go.Conc.solo_eq_crowd]
    rw [at_self] at r1
    have : runN P N (crowd #[G (Frame.enter P f args .normal) []] W none) = .next (crowd gs (w1.at d) sl) := by
      rw [← runNT_fst P N _ #[], r1]
    rw [runN_add, this]
    exact e2

theorem keptBut_at {w w' : World} {may : MemPlace → Prop} (d : Nat) (h : w.keptBut w' may) : w.keptBut (w'.at d) may := h
theorem post_at {H : Type} {enc : TypeId × Value → H} {P : Program} {f : Func} {s : ChangeSpec} {apart fresh handsOn : Bool} {W W' : World} {args : Array Value} {v : Value} (d : Nat)
    (h : s.post enc P f apart fresh handsOn false W args v W') : s.post enc P f apart fresh handsOn false W args v (W'.at d) := by
  obtain ⟨ds, gs, before, pr, pa, pv, h1, h2, h3, h4, h5, h6⟩ := h
  exact ⟨ds, gs, before, pr, pa, pv, h1, h2.of_heap (by rfl), h3.of_heap (by rfl), h4.of_heap (by rfl), keptBut_at d h5, fun ha => by cases ha⟩
end Go.Av
