/-
  Several texts in one: AvEff, AvStep, AvStep2, AvStepM, AvStep3, AvStepA, AvStep4, AvReg, AvRun, AvRun2, AvRun3, AvFn, AvKit, AvSimp, AvWin.
-/
import Derived.Test.YtbalggpkmaabmaaDoorAvP
import Derived.Laws.MakeOwn
import Derived.Scope
/-
  Contracts, and the operations that call, make objects and write them.
-/
namespace Go.Av
open Go.RowKit (Below)

def AV.isV : AV → Bool
  | .v _ => true
  | _ => false

/-- The function is one of the program's own, with a body. -/
def Enters (P : Program) (f : FuncId) : Prop := ∃ fn, P.funcs[f]? = some fn ∧ fn.body.isSome = true ∧ (fn.name == "runtime.NumGoroutine") = false

def ArgsOk (ν : Nat → FuncId) (w : World) (args : List AV) (vs : Array Value) : Prop :=
  vs.size = args.length ∧ ∀ i (h : i < args.length), RepP ν w (fun b => b < w.heap.size) args[i] (vs.getD i undef)

/-- The call of f with these arguments over these objects. -/
def OkM (P : Program) (ν : Nat → FuncId) : Ct := fun f args H nx Φ =>
  Enters P (ν f) ∧ ∀ (w0 : World) (S : Nat → Prop) (β : Nat → Nat) (w : World) (vs : Array Value), Objs ν w0.heap.size ⟨β, H, nx, w, S⟩ → Below w0.heap.size w0 w →
    vs.size = args.length → (∀ i (h : i < args.length), Rep ν ⟨β, H, nx, w, S⟩ args[i] (vs.getD i undef)) →
    Calls P (ν f) vs w fun e w' => ∃ v r H' nx' β', e = .returned v ∧ Φ r H' nx' ∧ Rep ν ⟨β', H', nx', w', S⟩ r v ∧ Objs ν w0.heap.size ⟨β', H', nx', w', S⟩ ∧ Ext ⟨β, H, nx, w, S⟩ ⟨β', H', nx', w', S⟩ ∧ Below w0.heap.size w0 w'

theorem OkM.mono {P : Program} {ν : Nat → FuncId} {f : Nat} {args : List AV} {H : Hp} {nx : Nat} {Φ Φ' : AV → Hp → Nat → Prop} (h : OkM P ν f args H nx Φ) (hΦ : ∀ r H' nx', Φ r H' nx' → Φ' r H' nx') : OkM P ν f args H nx Φ' :=
  ⟨h.1, fun w0 S β w vs h1 h2 h3 h4 => (h.2 w0 S β w vs h1 h2 h3 h4).mono fun _ _ ⟨v, r, H', nx', β', e1, e2, e3⟩ => ⟨v, r, H', nx', β', e1, hΦ _ _ _ e2, e3⟩⟩

section
variable {ν : Nat → FuncId} {N : Nat} {w0 : World} {S : Nat → Prop} {X0 : Cx} {s : St} {a : Act} {w : World} {β : Nat → Nat}

theorem Sim.put (h : Sim ν N w0 S X0 s a w β) {u : AV} {v : Value} (hr : Rep ν ⟨β, s.heap, s.next, w, S⟩ u v) {d : Option Nat} (hd : ∀ k, d = some k → k < N) : Sim ν N w0 S X0 (s.put d u) (a.put d v) w β := by
  cases d with
  | none => exact h
  | some k =>
    have hk := hd k rfl
    refine ⟨fun t => ?_, by simp [Act.put, h.size], by simpa [Act.put] using h.defers, h.objs, h.below, h.ext⟩
    show Rep ν ⟨β, s.heap, s.next, w, S⟩ (_root_.Go.Av.put s.env k u t) ((a.tmps.setIfInBounds k v).getD t undef)
    unfold _root_.Go.Av.put
    by_cases e : t = k
    · subst e
      have : t < a.tmps.size := by rw [h.size]; exact hk
      simpa [this] using hr
    · have := h.env t
      rw [if_neg e]
      simpa [Array.getElem?_setIfInBounds_ne (Ne.symm e)] using this

/-- The next number is free. -/
theorem Sim.fresh (h : Sim ν N w0 S X0 s a w β) : s.heap s.next = none := by
  cases hc : s.heap s.next with
  | none => rfl
  | some c => have := (h.objs.obj s.next c hc).1; simp only at this; omega

theorem Sim.lt (h : Sim ν N w0 S X0 s a w β) : ∀ k c, s.heap k = some c → β k < w.heap.size := h.objs.lt

theorem below_alloc {B : Nat} {w0 w : World} (h : Below B w0 w) (hB : B ≤ w.heap.size) (o : Obj) : Below B w0 (w.alloc o) := h.alloc hB o

theorem Sim.le (h : Sim ν N w0 S X0 s a w β) : w0.heap.size ≤ w.heap.size := h.below.size

theorem Sim.alloc (h : Sim ν N w0 S X0 s a w β) (o : Obj) : Sim ν N w0 S X0 s a (w.alloc o) β :=
  ⟨fun t => (h.env t).mono (Ext.alloc ⟨β, s.heap, s.next, w, S⟩ o h.objs.lt), h.size, h.defers, h.objs.alloc o, h.below.alloc h.le o, h.ext.trans (Ext.alloc ⟨β, s.heap, s.next, w, S⟩ o h.objs.lt)⟩

/-- The world has moved on; nothing that was there has turned. -/
theorem Ext.later {X : Cx} {w' : World} (hb : Below X.w.heap.size X.w w') (hlt : ∀ k c, X.H k = some c → X.β k < X.w.heap.size) : Ext X { X with w := w' } :=
  ⟨Nat.le_refl _, fun _ hb' => ⟨⟨Nat.lt_of_lt_of_le hb'.1.1 hb.size, hb'.1.2⟩, hb'.2⟩, fun b hb' => hb.block b hb'.1.1,
   fun k c' _ hc' => ⟨c', hc', .inr ⟨rfl, rfl, fun r e f hr => ⟨r, e, f, (hb.block _ (hlt k c' hc')).trans hr, rfl⟩⟩⟩,
   fun k c' _ hc' es q hr => ⟨rfl, es, q, (hb.block _ (hlt k c' hc')).trans hr⟩⟩

theorem Sim.later (h : Sim ν N w0 S X0 s a w β) {w' : World} (hb : Below w.heap.size w w') : Sim ν N w0 S X0 s a w' β := by
  have hx := Ext.later (X := ⟨β, s.heap, s.next, w, S⟩) hb h.objs.lt
  refine ⟨fun t => (h.env t).mono hx, h.size, h.defers, ⟨fun o c hc => ?_, h.objs.inj, Nat.le_trans h.objs.le hb.size, h.objs.new⟩, h.below.trans (hb.mono h.le), h.ext.trans hx⟩
  obtain ⟨h1, h2, ob, hr, hrep⟩ := h.objs.obj o c hc
  exact ⟨h1, h2, ob, (hb.block _ (h.objs.lt o c hc)).trans hr, hrep.mono hx⟩

/-- A new object, a row or a map. -/
theorem Sim.newBlk (h : Sim ν N w0 S X0 s a w β) (cells : List AV) (ob : Obj) (hr : ∀ X', Ext ⟨β, s.heap, s.next, w, S⟩ X' → Blk ν X' cells ob) :
    Sim ν N w0 S X0 { s with heap := hput s.heap s.next (some cells), next := s.next + 1 } a (w.alloc ob) (fun k => if k = s.next then w.heap.size else β k) ∧
    Ext ⟨β, s.heap, s.next, w, S⟩ ⟨fun k => if k = s.next then w.heap.size else β k, hput s.heap s.next (some cells), s.next + 1, w.alloc ob, S⟩ := by
  have hsz : (w.alloc ob).heap.size = w.heap.size + 1 := by show (w.heap.push _).size = _; simp
  have hx : Ext ⟨β, s.heap, s.next, w, S⟩ ⟨fun k => if k = s.next then w.heap.size else β k, hput s.heap s.next (some cells), s.next + 1, w.alloc ob, S⟩ := by
    refine ⟨Nat.le_succ _, fun b hb => ⟨⟨by simp only [hsz]; exact Nat.lt_succ_of_lt hb.1.1, hb.1.2⟩, fun k c hk => ?_⟩, fun b hb => heap_alloc_old _ _ _ hb.1.1, fun k c' hk hc' => ?_, fun k c' hk hc' es q hm => ?_⟩
    · simp only
      by_cases e1 : k = s.next
      · rw [if_pos e1]; have := hb.1.1; simp only at this; omega
      · rw [if_neg e1]
        simp only [hput, if_neg e1] at hk
        exact hb.2 k c hk
    · simp only at hk
      have e1 : k ≠ s.next := by omega
      simp only [hput, if_neg e1] at hc'
      exact ⟨c', hc', .inr ⟨rfl, by simp only [if_neg e1], fun r' e' f' hr' => ⟨r', e', f', by rw [heap_alloc_old _ _ _ (h.objs.lt k c' hc')]; exact hr', rfl⟩⟩⟩
    · simp only at hk
      have e1 : k ≠ s.next := by omega
      simp only [hput, if_neg e1] at hc'
      exact ⟨by simp only [if_neg e1], es, q, by rw [heap_alloc_old _ _ _ (h.objs.lt k c' hc')]; exact hm⟩
  refine ⟨⟨fun t => (h.env t).mono hx, h.size, h.defers, ⟨fun k c hk => ?_, fun k k' c c' hk hk' he => ?_, Nat.le_trans h.objs.le (by simp), h.objs.new⟩, h.below.alloc h.le _, h.ext.trans hx⟩, hx⟩
  · simp only at hk ⊢
    by_cases e1 : k = s.next
    · subst e1
      simp only [hput, if_true, Option.some.injEq] at hk
      subst hk
      refine ⟨Nat.lt_succ_self _, by rw [if_pos rfl]; exact h.le, ob, by rw [if_pos rfl]; exact heap_alloc_new _ _, hr _ hx⟩
    · simp only [hput, if_neg e1] at hk
      obtain ⟨h1, h2, ob', hr', hrep⟩ := h.objs.obj k c hk
      simp only at h1 h2 hr'
      refine ⟨by omega, by rw [if_neg e1]; exact h2, ob', by rw [if_neg e1, heap_alloc_old _ _ _ (h.objs.lt k c hk)]; exact hr', hrep.mono hx⟩
  · simp only at hk hk' he
    by_cases e1 : k = s.next
    · by_cases e2 : k' = s.next
      · omega
      · simp only [hput, if_neg e2] at hk'
        rw [if_pos e1, if_neg e2] at he
        have := h.objs.lt k' c' hk'
        simp only at this
        omega
    · by_cases e2 : k' = s.next
      · simp only [hput, if_neg e1] at hk
        rw [if_neg e1, if_pos e2] at he
        have := h.objs.lt k c hk
        simp only at this
        omega
      · simp only [hput, if_neg e1] at hk
        simp only [hput, if_neg e2] at hk'
        rw [if_neg e1, if_neg e2] at he
        exact h.objs.inj k k' c c' hk hk' he
/-- A new object. -/
theorem Sim.newObj (h : Sim ν N w0 S X0 s a w β) (cells : List AV) (r : Array Value) (e : TypeId) (hl : cells.length ≤ r.size) (hr : ∀ i (hi : i < cells.length), Rep ν ⟨β, s.heap, s.next, w, S⟩ cells[i] (r.getD i undef)) :
    Sim ν N w0 S X0 { s with heap := hput s.heap s.next (some cells), next := s.next + 1 } a (w.alloc (.cells r e)) (fun k => if k = s.next then w.heap.size else β k) ∧
    Ext ⟨β, s.heap, s.next, w, S⟩ ⟨fun k => if k = s.next then w.heap.size else β k, hput s.heap s.next (some cells), s.next + 1, w.alloc (.cells r e), S⟩ :=
  h.newBlk cells (.cells r e) fun _ hX' => ⟨rfl, hl, fun i hi => (hr i hi).mono hX'⟩

/-- An object's block turns, in its own place or in another one of its own; its length does not shrink; a map stays in its place. -/
theorem Sim.turnB (h : Sim ν N w0 S X0 s a w β) {o : Nat} {c c' : List AV} (ho : s.heap o = some c) {w' : World} {b' : Nat} {ob' : Obj}
    (hw : w'.heap[b']? = some ob') (hb' : b' = β o ∨ w.heap.size ≤ b')
    (hbl : ∀ k, k ≠ β o → k < w.heap.size → w'.heap[k]? = w.heap[k]?) (hrest : w'.os = w.os ∧ w'.tape = w.tape ∧ w'.output = w.output ∧ w.heap.size ≤ w'.heap.size)
    (hlen : c.length < c'.length ∨ (c.length = c'.length ∧ b' = β o ∧ ∀ r e f, w.heap[β o]? = some (.cells r e f) → ∃ r' e' f', ob' = .cells r' e' f' ∧ r'.size = r.size))
    (hmap : ∀ es q, w.heap[β o]? = some (.map es q) → b' = β o ∧ ∃ es' q', ob' = .map es' q')
    (hr : ∀ X', Ext ⟨β, s.heap, s.next, w, S⟩ X' → X'.w = w' → Blk ν X' c' ob') :
    Sim ν N w0 S X0 { s with heap := hput s.heap o (some c') } a w' (fun k => if k = o then b' else β k) ∧
    Ext ⟨β, s.heap, s.next, w, S⟩ ⟨fun k => if k = o then b' else β k, hput s.heap o (some c'), s.next, w', S⟩ := by
  obtain ⟨h1, h2, ob0, hr0, _⟩ := h.objs.obj o c ho
  simp only at h1 h2 hr0
  have hlt := h.objs.lt
  simp only at hlt
  have hbo : b' < w'.heap.size := (Array.getElem?_eq_some_iff.1 hw).1
  have hx : Ext ⟨β, s.heap, s.next, w, S⟩ ⟨fun k => if k = o then b' else β k, hput s.heap o (some c'), s.next, w', S⟩ := by
    refine ⟨Nat.le_refl _, fun b hb => ⟨⟨Nat.lt_of_lt_of_le hb.1.1 hrest.2.2.2, hb.1.2⟩, fun k c2 hk => ?_⟩, fun b hb => hbl b (fun e => hb.2 o c ho e.symm) hb.1.1, fun k c2 hk hc2 => ?_, fun k c2 hk hc2 es q hm => ?_⟩
    · simp only
      by_cases e1 : k = o
      · rw [if_pos e1]
        rcases hb' with e2 | e2
        · rw [e2]; exact hb.2 o c ho
        · have := hb.1.1; simp only at this; omega
      · rw [if_neg e1]
        simp only [hput, if_neg e1] at hk
        exact hb.2 k c2 hk
    · by_cases e1 : k = o
      · subst e1
        simp only [hput, if_true, Option.some.injEq] at hc2
        subst hc2
        refine ⟨c, ho, ?_⟩
        rcases hlen with hlen | ⟨hlen, hbb, hrr⟩
        · exact .inl hlen
        · refine .inr ⟨hlen, by simp only [if_true]; exact hbb, fun r e f hre => ?_⟩
          obtain ⟨r', e', f', e2, e3⟩ := hrr r e f hre
          exact ⟨r', e', f', by show w'.heap[β k]? = _; rw [← hbb, ← e2]; exact hw, e3⟩
      · simp only [hput, if_neg e1] at hc2
        have hne : β k ≠ β o := fun e => e1 (h.objs.inj k o c2 c hc2 ho e)
        exact ⟨c2, hc2, .inr ⟨rfl, by simp only [if_neg e1], fun r e f hre => ⟨r, e, f, by rw [hbl _ hne (hlt k c2 hc2)]; exact hre, rfl⟩⟩⟩
    · by_cases e1 : k = o
      · subst e1
        obtain ⟨e2, es', q', e3⟩ := hmap es q hm
        exact ⟨by simp only [if_true]; exact e2, es', q', by show w'.heap[β k]? = _; rw [← e2, ← e3]; exact hw⟩
      · simp only [hput, if_neg e1] at hc2
        have hne : β k ≠ β o := fun e => e1 (h.objs.inj k o c2 c hc2 ho e)
        exact ⟨by simp only [if_neg e1], es, q, by show w'.heap[β k]? = _; rw [hbl _ hne (hlt k c2 hc2)]; exact hm⟩
  refine ⟨⟨fun t => (h.env t).mono hx, h.size, h.defers, ⟨fun k c2 hk => ?_, fun k k' c2 c2' hk hk' he => ?_, Nat.le_trans h.objs.le hrest.2.2.2, h.objs.new⟩, ?_, h.ext.trans hx⟩, hx⟩
  · simp only at hk ⊢
    by_cases e1 : k = o
    · subst e1
      simp only [hput, if_true, Option.some.injEq] at hk
      subst hk
      refine ⟨h1, ?_, ob', by rw [if_pos rfl]; exact hw, hr _ hx rfl⟩
      rw [if_pos rfl]
      have := h.le
      rcases hb' with e2 | e2 <;> omega
    · simp only [hput, if_neg e1] at hk
      obtain ⟨g1, g2, ob2, hr2, hrep⟩ := h.objs.obj k c2 hk
      simp only at g1 g2 hr2
      have hne : β k ≠ β o := fun e => e1 (h.objs.inj k o c2 c hk ho e)
      exact ⟨g1, by rw [if_neg e1]; exact g2, ob2, by rw [if_neg e1, hbl _ hne (hlt k c2 hk)]; exact hr2, hrep.mono hx⟩
  · simp only at hk hk' he
    by_cases e1 : k = o
    · by_cases e2 : k' = o
      · omega
      · simp only [hput, if_neg e2] at hk'
        rw [if_pos e1, if_neg e2] at he
        rcases hb' with e3 | e3
        · rw [e3] at he; exact absurd (h.objs.inj o k' c c2' ho hk' he).symm e2
        · have := hlt k' c2' hk'; omega
    · by_cases e2 : k' = o
      · simp only [hput, if_neg e1] at hk
        rw [if_neg e1, if_pos e2] at he
        rcases hb' with e3 | e3
        · rw [e3] at he; exact absurd (h.objs.inj k o c2 c hk ho he) e1
        · have := hlt k c2 hk; omega
      · simp only [hput, if_neg e1] at hk
        simp only [hput, if_neg e2] at hk'
        rw [if_neg e1, if_neg e2] at he
        exact h.objs.inj k k' c2 c2' hk hk' he
  · refine h.below.trans ⟨hrest.1, hrest.2.1, hrest.2.2.1, hrest.2.2.2, fun k hk => hbl k ?_ ?_⟩
    · omega
    · have := h.le; omega

/-- An object's cells turn. -/
theorem Sim.turn (h : Sim ν N w0 S X0 s a w β) {o : Nat} {c c' : List AV} (ho : s.heap o = some c) (hrow : ∃ r e f, w.heap[β o]? = some (.cells r e f)) {w' : World} {b' : Nat} {r' : Array Value} {e' : TypeId}
    (hw : w'.heap[b']? = some (.cells r' e' (0, 0))) (hl : c'.length ≤ r'.size) (hb' : b' = β o ∨ w.heap.size ≤ b')
    (hbl : ∀ k, k ≠ β o → k < w.heap.size → w'.heap[k]? = w.heap[k]?) (hrest : w'.os = w.os ∧ w'.tape = w.tape ∧ w'.output = w.output ∧ w.heap.size ≤ w'.heap.size)
    (hlen : c.length < c'.length ∨ (c.length = c'.length ∧ b' = β o ∧ ∀ r e f, w.heap[β o]? = some (.cells r e f) → r'.size = r.size))
    (hr : ∀ X', Ext ⟨β, s.heap, s.next, w, S⟩ X' → X'.w = w' → ∀ i (hi : i < c'.length), Rep ν X' c'[i] (r'.getD i undef)) :
    Sim ν N w0 S X0 { s with heap := hput s.heap o (some c') } a w' (fun k => if k = o then b' else β k) ∧
    Ext ⟨β, s.heap, s.next, w, S⟩ ⟨fun k => if k = o then b' else β k, hput s.heap o (some c'), s.next, w', S⟩ := by
  refine h.turnB ho hw hb' hbl hrest (hlen.imp_right fun ⟨e1, e2, e3⟩ => ⟨e1, e2, fun r e f hr => ⟨r', e', (0, 0), rfl, e3 r e f hr⟩⟩) (fun es q hm => ?_) fun X' hX' hw' => ⟨rfl, hl, hr X' hX' hw'⟩
  obtain ⟨r, e, f, hr0⟩ := hrow
  rw [hr0] at hm
  cases hm
end
end Go.Av

/-
  One operation of the compact code against the model's.
-/
namespace Go.Av
open Go.RowKit (Below)

/-- The operation leads to a state that the predicate holds of. -/
def Goes (ν : Nat → FuncId) (N : Nat) (w0 : World) (S : Nat → Prop) (X0 : Cx) (P : Program) (o : Oper) (a : Act) (w : World) (K : St → Prop) : Prop :=
  ∀ Q : Exit → Act → World → Prop, o.wp P a w (fun a' w' => ∃ s' β', K s' ∧ Sim ν N w0 S X0 s' a' w' β') Q

section
variable {ν : Nat → FuncId} {N : Nat} {w0 : World} {S : Nat → Prop} {X0 : Cx} {s : St} {a : Act} {w : World} {β : Nat → Nat} {P : Program} {o : Oper} {K : St → Prop}

theorem Goes.value {v : Value} {w' : World} (h : (execOp a.eval o).run P w = .ok (.value v) w') {s' : St} {β' : Nat → Nat} (hK : K s') (hs : Sim ν N w0 S X0 s' (a.put o.dst v) w' β') : Goes ν N w0 S X0 P o a w K := by
  intro Q
  unfold Oper.wp
  rw [h]
  exact ⟨s', β', hK, hs⟩
theorem Goes.skip {w' : World} (h : (execOp a.eval o).run P w = .ok .skip w') {s' : St} {β' : Nat → Nat} (hK : K s') (hs : Sim ν N w0 S X0 s' (a.put o.dst undef) w' β') : Goes ν N w0 S X0 P o a w K := by
  intro Q
  unfold Oper.wp
  rw [h]
  exact ⟨s', β', hK, hs⟩

theorem g_pure {u : AV} (h : Sim ν N w0 S X0 s a w β) (hd : ∀ k, o.dst = some k → k < N) (hg : Gives ν P ⟨β, s.heap, s.next, w, S⟩ (execOp a.eval o) u) (hK : K (s.put o.dst u)) : Goes ν N w0 S X0 P o a w K := by
  obtain ⟨v, w', hr, hw, hrep⟩ := hg
  rcases hw with rfl | ⟨ob, rfl⟩
  · exact Goes.value hr hK (h.put hrep hd)
  · exact Goes.value hr hK ((h.alloc ob).put hrep hd)

theorem g_new {t : TypeId} {T : Tr} (hP : T.P = P) {z : List AV} (ho : o.op = .alloc t) (hz : T.zero t = some z) (h : Sim ν N w0 S X0 s a w β) (hd : ∀ k, o.dst = some k → k < N)
    (hK : K (({ s with heap := hput s.heap s.next (some z), next := s.next + 1 } : St).put o.dst (.mp s.next 0 z.length))) : Goes ν N w0 S X0 P o a w K := by
  subst hP
  obtain ⟨i, zv, za, hi, hz', hza, hzc, hzl, hz1⟩ := zero_spec hz
  have hzr : Rep ν ⟨β, s.heap, s.next, w, S⟩ za zv := .pure (avOf_rep hza)
  have hzcell := hzr.cells (by rw [hzc]; exact hz1)
  rw [hzc] at hzcell
  obtain ⟨hs, hx⟩ := h.newObj z zv.cells t (by omega) hzcell.2
  refine Goes.value (v := .pointer (some ⟨w.heap.size, 0, none⟩)) ?_ hK (hs.put ?_ hd)
  · simp [execOp, ho, Instr.alloc, run_zero hi hz', newVar, newRow]
  · refine .mp (Nat.lt_succ_self _) rfl (fun c hc => ?_) (fun c hc _ => ⟨by simp, _, _, _, by simp only [if_true]; exact heap_alloc_new _ _⟩)
    simp only [hput, if_true, Option.some.injEq] at hc
    subst hc
    exact Nat.le_refl _

theorem g_boxm {t : TypeId} {x : AV} {c1 : Operand} (ho : o.op = .box t c1) (hx : Rep ν ⟨β, s.heap, s.next, w, S⟩ x (a.eval c1)) (h1 : x.cells.all AV.one = true) (h : Sim ν N w0 S X0 s a w β) (hd : ∀ k, o.dst = some k → k < N)
    (hK : K (({ s with heap := hput s.heap s.next (some x.cells), next := s.next + 1 } : St).put o.dst (.mp s.next 0 x.cells.length))) : Goes ν N w0 S X0 P o a w K := by
  obtain ⟨hc1, hc2⟩ := hx.cells h1
  obtain ⟨hs, hx'⟩ := h.newObj x.cells (a.eval c1).cells t (by omega) hc2
  refine Goes.value (v := .pointer (some ⟨w.heap.size, 0, none⟩)) ?_ hK (hs.put ?_ hd)
  · simp [execOp, ho, Instr.box, newVar, newRow]
  · refine .mp (Nat.lt_succ_self _) rfl (fun c hc => ?_) (fun c hc _ => ⟨by simp, _, _, _, by simp only [if_true]; exact heap_alloc_new _ _⟩)
    simp only [hput, if_true, Option.some.injEq] at hc
    subst hc
    exact Nat.le_refl _

theorem g_st {t : TypeId} {n : Nat} {T : Tr} (hP : T.P = P) {x y : AV} {c1 c2 : Operand} (ho : o.op = .store t c1 c2) (hn : T.sizeOf t = some n) (hx : Rep ν ⟨β, s.heap, s.next, w, S⟩ x (a.eval c1)) (hy : Rep ν ⟨β, s.heap, s.next, w, S⟩ y (a.eval c2))
    (h : Sim ν N w0 S X0 s a w β) (hd : ∀ k, o.dst = some k → k < N) {hp : Hp} (hst : stTo s n x y = some hp) (hK : K (({ s with heap := hp } : St).put o.dst (.v undef))) : Goes ν N w0 S X0 P o a w K := by
  subst hP
  obtain ⟨i, hi, hsz⟩ := size_spec hn
  unfold stTo at hst
  split at hst
  · rename_i ob p l
    cases hc : s.heap ob with
    | none => simp [hc] at hst
    | some c =>
      simp only [hc] at hst
      split at hst
      · rename_i hcond
        obtain ⟨h1, h2, h3, h4⟩ := hcond
        cases hst
        obtain ⟨hy1, hy2⟩ := hy.cells h4
        obtain ⟨_, _, _, hv⟩ := hx.inv_mp
        obtain ⟨hptr, hrow⟩ := hv c hc h1
        obtain ⟨g1, g2, r, e, hr, hl, hrep⟩ := h.objs.row hc hrow
        simp only at g1 g2 hr hptr
        have hrun := run_storeCells_at (P := T.P) (β ob) p e (a.eval c2).cells.toList 0 r w hr (by simp; omega) (fun v hv => by
          obtain ⟨j, hj, rfl⟩ := List.getElem_of_mem hv
          have hj' : j < y.cells.length := by simp at hj; omega
          have := (hy2 j hj').one (List.all_eq_true.1 h4 _ (List.getElem_mem _))
          simp only [Array.length_toList] at hj
          simpa [hj] using this)
        have hlenr : (r.toList.take (p + 0) ++ (a.eval c2).cells.toList ++ r.toList.drop (p + 0 + (a.eval c2).cells.toList.length)).length = r.size := by simp; omega
        obtain ⟨hs, hx'⟩ := h.turn (o := ob) (c := c) (c' := c.take p ++ y.cells ++ c.drop (p + n)) hc hrow (w' := w.setRow (β ob) (r.toList.take (p + 0) ++ (a.eval c2).cells.toList ++ r.toList.drop (p + 0 + (a.eval c2).cells.toList.length)).toArray)
          (b' := β ob) (e' := e) (setRow_heap w _ _ _ _ _ hr) (by simp only [List.size_toArray, hlenr]; simp; omega) (.inl rfl) (fun k hk _ => setRow_other _ _ _ _ hk) ⟨rfl, rfl, rfl, by simp [World.setRow]⟩
          (.inr ⟨by simp; omega, rfl, fun r' e' f' hr' => by rw [hr] at hr'; cases hr'; simp only [List.size_toArray, hlenr]⟩) (fun X' hX' _ j hj => by
            have hlen1 : (c.take p).length = p := by simp; omega
            have hjl : j < r.size := by simp at hj; omega
            have eR : ((r.toList.take (p + 0) ++ (a.eval c2).cells.toList ++ r.toList.drop (p + 0 + (a.eval c2).cells.toList.length)).toArray.getD j undef) = if j < p then r.getD j undef else if j < p + n then (a.eval c2).cells.getD (j - p) undef else r.getD j undef := by
              simp only [Nat.add_zero, Array.length_toList, Array.getD_eq_getD_getElem?, List.getElem?_toArray]
              by_cases d1 : j < p
              · rw [if_pos d1, List.append_assoc, List.getElem?_append_left (by simp; omega)]
                simp [d1]
              · rw [if_neg d1]
                by_cases d2 : j < p + n
                · rw [if_pos d2, List.append_assoc, List.getElem?_append_right (by simp; omega), List.getElem?_append_left (by simp; omega)]
                  simp only [List.length_take, Array.length_toList, Array.getElem?_toList]
                  rw [Nat.min_eq_left (by omega)]
                · rw [if_neg d2, List.getElem?_append_right (by simp; omega)]
                  simp only [List.length_append, List.length_take, Array.length_toList, List.getElem?_drop, Array.getElem?_toList]
                  rw [Nat.min_eq_left (by omega)]
                  congr 2
                  omega
            rw [eR]
            by_cases d1 : j < p
            · rw [if_pos d1]
              have e1 : (c.take p ++ y.cells ++ c.drop (p + n))[j] = c[j]'(by omega) := by
                rw [List.getElem_append_left (by simp; omega), List.getElem_append_left (by omega)]; simp
              rw [e1]
              exact (hrep j (by omega)).mono hX'
            · rw [if_neg d1]
              by_cases d2 : j < p + n
              · rw [if_pos d2]
                have e1 : (c.take p ++ y.cells ++ c.drop (p + n))[j] = y.cells[j - p]'(by omega) := by
                  rw [List.getElem_append_left (by simp; omega), List.getElem_append_right (by omega)]; simp [hlen1]
                rw [e1]
                exact (hy2 _ _).mono hX'
              · rw [if_neg d2]
                have hj' : j < c.length := by simp at hj; omega
                have e1 : (c.take p ++ y.cells ++ c.drop (p + n))[j] = c[j]'hj' := by
                  rw [List.getElem_append_right (by simp; omega)]
                  simp only [List.getElem_drop, List.length_append, hlen1]
                  congr 1; omega
                rw [e1]
                exact (hrep j hj').mono hX')
        refine Goes.skip ?_ hK (hs.put (.pure (.v _)) hd)
        have hcs : ¬ ((a.eval c2).cells.size ≠ i.size) := by omega
        simp only [execOp, ho, Instr.storeAt, hptr, Instr.sureAddr, Sem.run_bind, Sem.run_pure, Result.andThen_ok, storeVar, run_size hi, hcs, if_false, hrun]
      · cases hst
  · cases hst
end
end Go.Av

/-
  Makes, appends and calls.
-/
namespace Go.Av
open Go.RowKit (Below)

section
variable {ν : Nat → FuncId} {N : Nat} {w0 : World} {S : Nat → Prop} {X0 : Cx} {s : St} {a : Act} {w : World} {β : Nat → Nat} {P : Program} {o : Oper} {K : St → Prop}

theorem g_mks {t e : TypeId} {T : Tr} (hP : T.P = P) {z : List AV} {i : TypeInfo} {x y : AV} {c1 c2 : Operand} (ho : o.op = .makeSlice t c1 c2) (he : T.elem t = some e) (hi : T.P.info? e = some i) (hz : T.zero e = some z) (hzp : 0 < z.length) (hby : i.bytes ≤ 128)
    (hx : Rep ν ⟨β, s.heap, s.next, w, S⟩ x (a.eval c1)) (hy : Rep ν ⟨β, s.heap, s.next, w, S⟩ y (a.eval c2))
    (h : Sim ν N w0 S X0 s a w β) (hd : ∀ k, o.dst = some k → k < N) {r : AV × Hp × Nat} (hmk : mkTo s z x y = some r) (hK : K (({ s with heap := r.2.1, next := r.2.2 } : St).put o.dst r.1)) : Goes ν N w0 S X0 P o a w K := by
  subst hP
  unfold mkTo at hmk
  split at hmk
  · rename_i n c
    split at hmk
    · rename_i hc
      obtain ⟨h0, hle, hmax⟩ := hc
      cases hmk
      obtain ⟨n', rfl⟩ := Int.eq_ofNat_of_zero_le h0
      obtain ⟨c', rfl⟩ := Int.eq_ofNat_of_zero_le (Int.le_trans h0 hle)
      have hle' : n' ≤ c' := by omega
      obtain ⟨i', zv, za, hi', hz', hza, hzc, hzl, hz1⟩ := zero_spec hz
      rw [hi] at hi'
      cases hi'
      have hzr : Rep ν ⟨β, s.heap, s.next, w, S⟩ za zv := .pure (avOf_rep hza)
      have hzcell := hzr.cells (by rw [hzc]; exact hz1)
      rw [hzc] at hzcell
      have hbytes : (i.bytes : Int) * (c' : Int) ≤ 281474976710656 := by
        have h1 : i.bytes * c' ≤ 128 * 1099511627776 := Nat.mul_le_mul hby (by omega)
        have h2 : ((i.bytes * c' : Nat) : Int) ≤ ((128 * 1099511627776 : Nat) : Int) := by exact_mod_cast h1
        rw [Int.natCast_mul] at h2
        omega
      have hrun := run_make (P := T.P) w t e i zv (elem_spec he) hi hz' .i64 .i64 (n' : Int) (c' : Int) (by omega) (by omega) hbytes (by omega)
      have hx' := hx.inv_v
      have hy' := hy.inv_v
      have hcs : (madeCells zv.cells (c' * i.size)).size = c' * i.size := size_madeCells _ _
      have hls : n' * i.size ≤ c' * i.size := Nat.mul_le_mul_right _ hle'
      obtain ⟨hs, hxx⟩ := h.newObj ((List.replicate n' z).flatten) (madeCells zv.cells (c' * i.size)) e (by rw [flat_len, hcs, hzl]; exact hls) (fun j hj => by
        have hmod : j % z.length < z.length := Nat.mod_lt _ hzp
        rw [flat_get z n' j hj hmod]
        have hj' : j < n' * i.size := by rw [flat_len, hzl] at hj; exact hj
        have hm' : j % z.length < zv.cells.size := by omega
        have hj2 : j < c' * i.size := by omega
        have e2 : (madeCells zv.cells (c' * i.size)).getD j undef = zv.cells.getD (j % z.length) undef := by
          have e3 : zv.cells[j % z.length]! = zv.cells[j % z.length]'hm' := getElem!_pos zv.cells (j % z.length) hm'
          have e4 : zv.cells[j % z.length]? = some (zv.cells[j % z.length]'hm') := Array.getElem?_eq_getElem hm'
          simp [madeCells, hj2, hzcell.1, e3, e4]
        rw [e2]
        exact hzcell.2 _ hmod)
      simp only [Int.toNat_natCast] at hrun hs hxx hK ⊢
      refine Goes.value (v := .slice (some ⟨w.heap.size, 0, none⟩) n' c') ?_ hK (hs.put ?_ hd)
      · simp only [execOp, ho, hx', hy', Sem.run_bind, hrun, Result.andThen_ok, Sem.run_pure]
      · refine .ms (Nat.lt_succ_self _) rfl (fun c hc => ?_) (fun c hc _ => ⟨c', madeCells zv.cells (c' * i.size), e, (0, 0), by simp, hle', by simp only [if_true]; exact heap_alloc_new _ _, ?_⟩)
        · simp only [hput, if_true, Option.some.injEq] at hc
          subst hc
          rw [flat_len]; omega
        · rw [hcs, hzl]; omega
    · cases hmk
  · cases hmk

theorem g_mslm {t e : TypeId} {T : Tr} (hP : T.P = P) {sz len : Nat} {z : List AV} {parts : Array (Nat × Operand)} {xs : List AV} (ho : o.op = .buildSlice t len parts) (he : T.elem t = some e) (hsz' : T.sizeOf e = some sz) (hz : T.zero e = some z) (hb : (len + 1) * sz ≤ 256) (hs0 : 0 < sz)
    (hlen : xs.length = parts.size) (hx : ∀ i (h : i < xs.length) (h' : i < parts.size), Rep ν ⟨β, s.heap, s.next, w, S⟩ xs[i] (a.eval parts[i].2))
    (h : Sim ν N w0 S X0 s a w β) (hd : ∀ k, o.dst = some k → k < N) {r : AV × Hp × Nat} (hmk : mslTo s sz len ((List.replicate len z).flatten) (parts.toList.map fun p => (p.1 * sz, sz)) xs = some r) (hK : K (({ s with heap := r.2.1, next := r.2.2 } : St).put o.dst r.1)) : Goes ν N w0 S X0 P o a w K := by
  subst hP
  unfold mslTo at hmk
  split at hmk
  · rename_i out hl
    split at hmk
    · rename_i hc
      obtain ⟨hc1, hc2⟩ := hc
      cases hmk
      obtain ⟨i, zv, za, hi, hz', hza, hzc, hzl, hz1⟩ := zero_spec hz
      obtain ⟨i', hi', hsz⟩ := size_spec hsz'
      rw [hi] at hi'
      cases hi'
      have hu := elem_spec he
      have hzr : Rep ν ⟨β, s.heap, s.next, w, S⟩ za zv := .pure (avOf_rep hza)
      have hzcell := hzr.cells (by rw [hzc]; exact hz1)
      rw [hzc] at hzcell
      obtain ⟨cs', g1, g2, g3, g4⟩ := fill_lay (ν := ν) (X := ⟨β, s.heap, s.next, w, S⟩) (place := fun i => some (i * sz, sz)) (parts.toList.map fun p => (p.1 * sz, sz)) xs (parts.toList.map (·.1)) (parts.toList.map fun p => a.eval p.2) ((List.replicate len z).flatten)
        ((Array.range (len * sz)).map (zv.cells[· % zv.cells.size]!)) out hl (by simp [hlen]) (by simp [hlen]) (fun j h h' => by simp) (fun j h h' => by
          have := hx j h (by omega)
          simpa using this) (by rw [flat_len, hzl, hsz]; simp) (fun j hj => by
          have hj' : j < len * sz := by rw [flat_len, hzl, hsz] at hj; exact hj
          have hzs : z.length = sz := by omega
          have hmod : j % z.length < z.length := Nat.mod_lt _ (by omega)
          rw [flat_get z len j hj hmod]
          have := hzcell.2 (j % z.length) hmod
          have e1 : zv.cells.size = z.length := hzcell.1
          have e2 : ((Array.range (len * sz)).map (zv.cells[· % zv.cells.size]!)).getD j undef = zv.cells.getD (j % z.length) undef := by
            have hm' : j % z.length < zv.cells.size := by omega
            have e3 : zv.cells[j % z.length]! = zv.cells[j % z.length]'hm' := getElem!_pos zv.cells (j % z.length) hm'
            have e4 : zv.cells[j % z.length]? = some (zv.cells[j % z.length]'hm') := Array.getElem?_eq_getElem hm'
            simp [hj', e1, e3, e4]
          rw [e2]
          exact this)
      have hzip : (parts.toList.map (·.1)).zip (parts.toList.map fun p => a.eval p.2) = (parts.map fun (p : Nat × Operand) => (p.1, a.eval p.2)).toList := by
        rw [Array.toList_map, List.zip_map']
      rw [hzip] at g1
      obtain ⟨hs, hxx⟩ := h.newObj out cs' e (by omega) g4
      refine Goes.value (v := .slice (some ⟨w.heap.size, 0, none⟩) len len) ?_ hK (hs.put ?_ hd)
      · have hne : len * sz ≠ 0 := by
          intro hh
          rcases Nat.mul_eq_zero.1 hh with hh | hh <;> omega
        have hle : ¬ (len * sz > 2 ^ 24) := by
          have : len * sz ≤ (len + 1) * sz := Nat.mul_le_mul_right _ (by omega)
          omega
        simp only [execOp, ho, Instr.buildSlice, Sem.run_bind, run_underlying hu, Result.andThen_ok, run_size hi, hsz, hle, if_false, hne, run_zero hi hz', Sem.run_pure, g1, newRow, run_newObj]
        rfl
      · refine .ms (Nat.lt_succ_self _) rfl (fun c hc => ?_) (fun c hc _ => ⟨len, cs', e, (0, 0), by simp, Nat.le_refl _, by simp only [if_true]; exact heap_alloc_new _ _, by omega⟩)
        simp only [hput, if_true, Option.some.injEq] at hc
        subst hc
        omega
    · cases hmk
  · cases hmk

/-- The cells that an append takes over, in the model's memory. -/
theorem app_src {sz : Nat} {y : AV} {q : Value} {cm : List AV × Nat} (h : Sim ν N w0 S X0 s a w β) (hy : Rep ν ⟨β, s.heap, s.next, w, S⟩ y q) (hc : appCells s.heap sz y = some cm) (h1 : cm.1.all AV.one = true) (hsz : 0 < sz) :
    (∃ ad c, q = .slice ad 0 c ∧ cm = ([], 0)) ∨ ∃ (ad : Addr) (c : Nat) (news : List Value), q = .slice (some ad) cm.2 c ∧ news.length = cm.2 * sz ∧ cm.1.length = cm.2 * sz ∧
      (∀ j u, news[j]? = some u → w.cell? (ad.add j) = some u) ∧ (∀ u ∈ news, u.oneCell' = true) ∧ ∀ j (h : j < cm.1.length), Rep ν ⟨β, s.heap, s.next, w, S⟩ cm.1[j] (news.getD j undef) := by
  have build : ∀ (b off cap n : Nat) (c : List AV) (us : Nat → Value), q = .slice (some ⟨b, off, none⟩) n cap → c.length = n * sz → c.all AV.one = true → (∀ j, j < c.length → w.cell? ⟨b, off + j, none⟩ = some (us j)) → (∀ j (h : j < c.length), Rep ν ⟨β, s.heap, s.next, w, S⟩ c[j] (us j)) →
      ∃ (ad : Addr) (c' : Nat) (news : List Value), q = .slice (some ad) n c' ∧ news.length = n * sz ∧ c.length = n * sz ∧
      (∀ j u, news[j]? = some u → w.cell? (ad.add j) = some u) ∧ (∀ u ∈ news, u.oneCell' = true) ∧ ∀ j (h : j < c.length), Rep ν ⟨β, s.heap, s.next, w, S⟩ c[j] (news.getD j undef) := by
    intro b off cap n c us hq hl hone hcell hrep
    refine ⟨⟨b, off, none⟩, cap, (List.range c.length).map us, hq, by simp [hl], hl, fun j u hu => ?_, fun u hu => ?_, fun j hj => ?_⟩
    · simp only [List.getElem?_map] at hu
      cases hr : (List.range c.length)[j]? with
      | none => rw [hr] at hu; cases hu
      | some k =>
        rw [hr] at hu
        cases hu
        obtain ⟨hj, hk⟩ := List.getElem?_eq_some_iff.1 hr
        simp at hj hk
        subst hk
        rw [addr_add]
        exact hcell j hj
    · simp only [List.mem_map, List.mem_range] at hu
      obtain ⟨j, hj, rfl⟩ := hu
      exact (hrep j hj).one (List.all_eq_true.1 hone _ (List.getElem_mem _))
    · have : ((List.range c.length).map us).getD j undef = us j := by simp [hj]
      rw [this]
      exact hrep j hj
  unfold appCells at hc
  split at hc
  · cases hc
    obtain ⟨ad, rfl⟩ := hy.inv_nil
    exact .inl ⟨ad, 0, rfl, rfl⟩
  · rename_i c n
    split at hc
    · rename_i hl
      cases hc
      rcases hy.inv_sl with ⟨b, off, cap, us, hp, hn, hS, hcl, hrr⟩ | ⟨b, cap, hp, hn, hce⟩
      · exact .inr (build b off cap n c us hp hl h1 hcl (fun j hj => .pure (hrr j hj)))
      · subst hn; subst hce; exact .inl ⟨b, cap, hp, rfl⟩
    · cases hc
  · rename_i ob off n sz'
    split at hc
    · rename_i hs'
      subst hs'
      cases hh : s.heap ob with
      | none => simp [hh] at hc
      | some cells =>
        simp only [hh] at hc
        split at hc
        · rename_i hfull
          cases hc
          obtain ⟨_, _, _, hv⟩ := hy.inv_ms
          obtain ⟨cap, r, e, f, hp, hn, hblk, _⟩ := hv cells hh hfull
          obtain ⟨g1, g2, r', e', hr', hl', hrep⟩ := h.objs.row hh ⟨r, e, f, hblk⟩
          simp only at g1 g2 hr' hp
          refine .inr (build (β ob) off cap n (cells.drop off) (fun j => r'.getD (off + j) undef) hp (by simp; omega) h1 (fun j hj => ?_) (fun j hj => ?_))
          · have : off + j < r'.size := by simp at hj; omega
            rw [cell_of_row _ _ _ _ _ _ hr']
            simp [this]
          · have := hrep (off + j) (by simp at hj; omega)
            simpa using this
        · cases hc
    · cases hc
  · cases hc

theorem run_room {P : Program} (w : World) (t ty e e' : TypeId) (i : TypeInfo) (ht : P.underlying t = some (.slice e)) (hi : P.info? e = some i)
    (g sLen sCap : Nat) (cur : Array Value) (hg : w.heap[g]? = some (.cells cur e' (0, 0)))
    (a : Addr) (m c : Nat) (news : List Value) (hl : news.length = m * i.size) (hnews : ∀ j u, news[j]? = some u → w.cell? (a.add j) = some u) (h1 : ∀ u ∈ news, u.oneCell' = true)
    (hroom : sLen + m ≤ sCap) (hfit : sLen * i.size + news.length ≤ cur.size) :
    (Builtin.append_ #[t, t] ty #[.slice (some ⟨g, 0, none⟩) sLen sCap, .slice (some a) m c]).run P w =
      .ok (.slice (some ⟨g, 0, none⟩) (sLen + m) sCap) (w.setRow g (cur.toList.take (sLen * i.size) ++ news ++ cur.toList.drop (sLen * i.size + news.length)).toArray) := by
  have hf := run_firstCells_some (P := P) w i.size m a m c news hl hnews
  have hst := run_storeCells_at (P := P) g (sLen * i.size) e' news 0 cur w hg (by simpa using hfit) h1
  simp only [Nat.add_zero] at hst
  simp [Builtin.append_, run_underlying ht, Go.sizeOf, typeInfo, hi, Builtin.lenOf, hroom, hf, Addr.add_lit, hst]

theorem run_none {P : Program} (w : World) (t ty e : TypeId) (i : TypeInfo) (ht : P.underlying t = some (.slice e)) (hi : P.info? e = some i) (b : Option Addr) (sLen sCap : Nat) (hsl : sLen ≤ sCap) (ad : Option Addr) (c : Nat) :
    (Builtin.append_ #[t, t] ty #[.slice b sLen sCap, .slice ad 0 c]).run P w = .ok (.slice b sLen sCap) w := by
  have hf : (Builtin.firstCells i.size 0 (.slice ad 0 c)).run P w = .ok #[] w := by
    cases ad <;> simp [Builtin.firstCells, loadCells, loadCellsFrom]
  cases b <;> simp [Builtin.append_, run_underlying ht, Go.sizeOf, typeInfo, hi, Builtin.lenOf, hsl, hf, storeCells]

theorem g_app {t e : TypeId} {T : Tr} (hP : T.P = P) {i : TypeInfo} {z : List AV} {x y : AV} {c1 c2 : Operand} (ho : o.op = .call { callee := .builtin .append, args := #[c1, c2], argTypes := #[t, t] })
    (he : T.elem t = some e) (hi : T.P.info? e = some i) (hz : T.zero e = some z) (hsz : 0 < i.size) (hzl : z.length = i.size) (hby : i.bytes ≤ 128)
    (hx : Rep ν ⟨β, s.heap, s.next, w, S⟩ x (a.eval c1)) (hy : Rep ν ⟨β, s.heap, s.next, w, S⟩ y (a.eval c2)) (h : Sim ν N w0 S X0 s a w β) (hd : ∀ k, o.dst = some k → k < N)
    {cm : List AV × Nat} (hcm : appCells s.heap i.size y = some cm) (h1 : cm.1.all AV.one = true) {r : AV × Hp × Nat} (hap : appTo s i.size x cm.1 cm.2 = some r)
    (hK : K (({ s with heap := r.2.1, next := r.2.2 } : St).put o.dst r.1)) : Goes ν N w0 S X0 P o a w K := by
  subst hP
  obtain ⟨i', zv, za, hi', hz', hza, hzc, hzl', hz1⟩ := zero_spec hz
  rw [hi] at hi'
  cases hi'
  have hu := elem_spec he
  have hzs : zv.cells.size = i.size := by
    have hzr : Rep ν ⟨β, s.heap, s.next, w, S⟩ za zv := .pure (avOf_rep hza)
    have := (hzr.cells (by rw [hzc]; exact hz1)).1
    rw [hzc] at this
    omega
  have toRun : ∀ v w', (Builtin.append_ #[t, t] o.type #[a.eval c1, a.eval c2]).run T.P w = .ok v w' → (execOp a.eval o).run T.P w = .ok (.value v) w' := by
    intro v w' hr
    simp only [execOp, ho, resolve, invoke, builtin, Sem.run_bind, Sem.run_pure, Result.andThen_ok, List.map_toArray, List.map_cons, List.map_nil, hr]
  have small : ∀ m : Nat, m ≤ appMax → m * i.bytes ≤ 140737488355328 ∧ (m : Int) ≤ 9223372036854775807 := by
    intro m hm
    unfold appMax at hm
    have : m * i.bytes ≤ 1099511627776 * 128 := Nat.mul_le_mul hm hby
    omega
  rcases app_src h hy hcm h1 hsz with ⟨ad, c, hq, hce⟩ | ⟨ad, c, news, hq, hnl, hcl, hnews, hone, hrep⟩
  · -- nothing to append
    subst hce
    unfold appTo at hap
    split at hap
    · simp only [if_true] at hap
      cases hap
      obtain ⟨b, hp⟩ := hx.inv_nil
      rw [hp, hq] at toRun
      exact Goes.value (toRun _ _ (run_none w t o.type e i hu hi b 0 0 (Nat.le_refl _) ad c)) hK (h.put (.pure (.nil _)) hd)
    · rename_i ob n sz'
      split at hap
      · rename_i hs'
        subst hs'
        cases hh : s.heap ob with
        | none => simp [hh] at hap
        | some cells =>
          simp only [hh] at hap
          split at hap
          · rename_i hfull
            cases hap
            obtain ⟨hv1, hv2, hv3, hv⟩ := hx.inv_ms
            obtain ⟨cap, r, e', f, hp, hn, hblk, hcapr⟩ := hv cells hh (by omega)
            simp only at hp hblk
            rw [hp, hq] at toRun
            have hsame : ({ s with heap := hput s.heap ob (some (cells ++ [])), next := s.next } : St) = s := by
              have : hput s.heap ob (some (cells ++ [])) = s.heap := by
                funext k
                unfold hput
                split
                · rename_i e1; rw [e1, hh, List.append_nil]
                · rfl
              rw [this]
            simp only [Nat.add_zero] at hK ⊢
            rw [hsame] at hK
            exact Goes.value (toRun _ _ (run_none w t o.type e i hu hi _ n cap hn ad c)) hK (h.put (by rw [← hp]; exact hx) hd)
          · cases hap
      · cases hap
    · cases hap
  · unfold appTo at hap
    split at hap
    · -- onto an empty slice
      by_cases hm0 : cm.2 = 0
      · rw [if_pos hm0] at hap
        cases hap
        obtain ⟨b, hp⟩ := hx.inv_nil
        rw [hp, hq, hm0] at toRun
        exact Goes.value (toRun _ _ (run_none w t o.type e i hu hi b 0 0 (Nat.le_refl _) _ c)) hK (h.put (.pure (.nil _)) hd)
      · rw [if_neg hm0] at hap
        split at hap
        · rename_i hmax
          cases hap
          obtain ⟨hb1, hb2⟩ := small cm.2 hmax
          obtain ⟨b, hp⟩ := hx.inv_nil
          have hrun : ∃ cap r, cm.2 ≤ cap ∧ r.size = cap * i.size ∧ (∀ j, j < news.length → r.getD j undef = news.getD j undef) ∧
              (Builtin.append_ #[t, t] o.type #[a.eval c1, a.eval c2]).run T.P w = .ok (.slice (some ⟨w.heap.size, 0, none⟩) cm.2 cap) (w.drew.alloc (.cells r e)) := by
            have fit : ∀ (cap : Nat), cm.2 ≤ cap → (news.toArray ++ Builtin.zeroCells zv.cells (cap - cm.2)).size = cap * i.size ∧ ∀ j, j < news.length → (news.toArray ++ Builtin.zeroCells zv.cells (cap - cm.2)).getD j undef = news.getD j undef := by
              intro cap hcap
              refine ⟨?_, fun j hj => ?_⟩
              · rw [Array.size_append, size_zeroCells, hzs, List.size_toArray, hnl, ← Nat.add_mul]
                congr 1; omega
              · rw [Array.getD_eq_getD_getElem?, Array.getElem?_append_left (by simpa using hj)]
                simp
            cases b with
            | none =>
              have hr := run_append_nil (P := T.P) w t o.type e i zv hu hi hz' ad cm.2 c news hnl hnews (by omega) hb2 (by omega)
              obtain ⟨f1, f2⟩ := fit _ (grownCap_ge w cm.2 0 e)
              exact ⟨_, _, grownCap_ge w cm.2 0 e, f1, f2, by rw [hp, hq]; exact hr⟩
            | some b =>
              have hr := run_append_grow (P := T.P) w t o.type e i zv hu hi hz' b 0 0 [] (by simp) (fun j v hv => by simp at hv) ad cm.2 c news hnl hnews (by omega) (by simpa using hb2) (growslice_fits (by omega) (by simpa using hb1))
              simp only [Nat.zero_add, Array.empty_append] at hr
              obtain ⟨f1, f2⟩ := fit _ (grownCap_ge w cm.2 0 e)
              exact ⟨_, _, grownCap_ge w cm.2 0 e, f1, f2, by rw [hp, hq]; exact hr⟩
          obtain ⟨cap, r, hcap, hrs, hrn, hr⟩ := hrun
          have hdrew : Sim ν N w0 S X0 s a w.drew β := h.later ⟨rfl, rfl, rfl, Nat.le_refl _, fun _ _ => rfl⟩
          have hlr : cm.1.length ≤ r.size := by rw [hcl, hrs]; exact Nat.mul_le_mul_right _ hcap
          obtain ⟨hs, hxx⟩ := hdrew.newObj cm.1 r e hlr (fun j hj => by
            rw [hrn j (by omega)]
            exact (hrep j hj).mono (Ext.drew _ w.drew rfl))
          refine Goes.value (toRun _ _ hr) hK (hs.put ?_ hd)
          refine .ms (Nat.lt_succ_self _) rfl (fun c' hc' => ?_) (fun c' hc' _ => ⟨cap, r, e, (0, 0), by simp, hcap, by simp only [if_true]; exact heap_alloc_new w.drew _, by omega⟩)
          simp only [hput, if_true, Option.some.injEq] at hc'
          subst hc'
          omega
        · cases hap
    · rename_i ob n sz'
      split at hap
      · rename_i hs'
        subst hs'
        cases hh : s.heap ob with
        | none => simp [hh] at hap
        | some cells =>
          simp only [hh] at hap
          split at hap
          · rename_i hfull
            obtain ⟨hfull, hmax⟩ := hfull
            cases hap
            obtain ⟨hb1, hb2⟩ := small (n + cm.2) hmax
            obtain ⟨hv1, hv2, hv3, hv⟩ := hx.inv_ms
            obtain ⟨cap, r, e', f, hp, hn, hblk, hcapr⟩ := hv cells hh (by omega)
            have hrow : ∃ r e f, w.heap[β ob]? = some (.cells r e f) := ⟨r, e', f, hblk⟩
            obtain ⟨g1, g2, r', e2, hr', hl', hrep'⟩ := h.objs.row hh hrow
            simp only at hp hblk g1 g2 hr' hv1
            have hinj := hr'.symm.trans hblk
            simp only [Option.some.injEq, Obj.cells.injEq] at hinj
            obtain ⟨rfl, rfl, rfl⟩ := hinj
            by_cases hm0 : cm.2 = 0
            · -- no cell is appended
              have hce : cm.1 = [] := List.eq_nil_of_length_eq_zero (by rw [hcl, hm0]; simp)
              rw [hp, hq, hm0] at toRun
              have hsame : ({ s with heap := hput s.heap ob (some (cells ++ cm.1)), next := s.next } : St) = s := by
                have : hput s.heap ob (some (cells ++ cm.1)) = s.heap := by
                  funext k
                  unfold hput
                  split
                  · rename_i e1; rw [e1, hh, hce, List.append_nil]
                  · rfl
                rw [this]
              rw [hsame, hm0] at hK
              exact Goes.value (toRun _ _ (run_none w t o.type e i hu hi _ n cap hn _ c)) hK (h.put (by rw [← hp]; exact hx) hd)
            · have hlt : cells.length < (cells ++ cm.1).length := by
                have : 0 < cm.2 * i.size := Nat.mul_pos (by omega) hsz
                simp; omega
              have both : ∀ (b' cap' : Nat) (rr : Array Value) (ee : TypeId) (w' : World), (Builtin.append_ #[t, t] o.type #[a.eval c1, a.eval c2]).run T.P w = .ok (.slice (some ⟨b', 0, none⟩) (n + cm.2) cap') w' →
                  w'.heap[b']? = some (.cells rr ee (0, 0)) → n + cm.2 ≤ cap' → cap' * i.size ≤ rr.size → (b' = β ob ∨ w.heap.size ≤ b') → (∀ k, k ≠ β ob → k < w.heap.size → w'.heap[k]? = w.heap[k]?) →
                  (w'.os = w.os ∧ w'.tape = w.tape ∧ w'.output = w.output ∧ w.heap.size ≤ w'.heap.size) → (∀ j, j < cells.length → rr.getD j undef = r'.getD j undef) → (∀ j, j < cm.1.length → rr.getD (cells.length + j) undef = news.getD j undef) → Goes ν N w0 S X0 T.P o a w K := by
                intro b' cap' rr ee w' hr hw' hcap' hsize hb' hoth hrest hold hnew
                have hfit : (cells ++ cm.1).length ≤ rr.size := by
                  have : (n + cm.2) * i.size ≤ cap' * i.size := Nat.mul_le_mul_right _ hcap'
                  rw [Nat.add_mul] at this
                  simp only [List.length_append]
                  omega
                obtain ⟨hs, hxx⟩ := h.turn (o := ob) (c := cells) (c' := cells ++ cm.1) hh hrow hw' hfit hb' hoth hrest (.inl hlt) (fun X' hX' _ j hj => by
                  by_cases hj1 : j < cells.length
                  · rw [List.getElem_append_left hj1, hold j hj1]
                    exact (hrep' j hj1).mono hX'
                  · have hj2 : j - cells.length < cm.1.length := by simp at hj; omega
                    rw [List.getElem_append_right (by omega)]
                    have := hnew (j - cells.length) hj2
                    rw [show cells.length + (j - cells.length) = j from by omega] at this
                    rw [this]
                    exact (hrep _ hj2).mono hX')
                refine Goes.value (toRun _ _ hr) hK (hs.put ?_ hd)
                refine .ms hv1 rfl (fun c' hc' => ?_) (fun c' hc' _ => ⟨cap', rr, ee, (0, 0), by simp, hcap', by simp only [if_true]; exact hw', by omega⟩)
                simp only [hput, if_true, Option.some.injEq] at hc'
                subst hc'
                simp only [List.length_append, Nat.add_mul]
                omega
              by_cases hroom : n + cm.2 ≤ cap
              · have hfit : n * i.size + news.length ≤ r'.size := by
                  have : (n + cm.2) * i.size ≤ cap * i.size := Nat.mul_le_mul_right _ hroom
                  rw [Nat.add_mul] at this
                  omega
                have hr := run_room (P := T.P) w t o.type e e2 i hu hi (β ob) n cap r' hr' ad cm.2 c news hnl hnews hone hroom hfit
                refine both (β ob) cap _ e2 _ (by rw [hp, hq]; exact hr) (setRow_heap w _ _ _ _ _ hr') hroom (by simp; omega) (.inl rfl) (fun k hk _ => setRow_other _ _ _ _ hk) ⟨rfl, rfl, rfl, by simp [World.setRow]⟩ (fun j hj => ?_) (fun j hj => ?_)
                · simp only [Array.getD_eq_getD_getElem?, List.getElem?_toArray]
                  rw [List.append_assoc, List.getElem?_append_left (by simp; omega)]
                  simp [show j < n * i.size from by omega]
                · simp only [Array.getD_eq_getD_getElem?, List.getElem?_toArray]
                  rw [List.append_assoc, List.getElem?_append_right (by simp; omega), List.getElem?_append_left (by simp; omega)]
                  simp only [List.length_take, Array.length_toList]
                  rw [Nat.min_eq_left (by omega), show cells.length + j - n * i.size = j from by omega]
                  simp [List.getD]
              · have hr := run_append_grow (P := T.P) w t o.type e i zv hu hi hz' ⟨β ob, 0, none⟩ n cap (r'.toList.take (n * i.size)) (by simp; omega) (fun j v hv => by
                  rw [addr_add, Nat.zero_add, cell_of_row _ _ _ _ _ _ hr']
                  rw [List.getElem?_take] at hv
                  split at hv
                  · simpa using hv
                  · cases hv) ad cm.2 c news hnl hnews (by omega) (by omega) (growslice_fits (by omega) (by omega))
                have hge := grownCap_ge w (n + cm.2) cap e
                refine both w.heap.size _ _ e _ (by rw [hp, hq]; exact hr) (heap_alloc_new w.drew _) hge ?_ (.inr (Nat.le_refl _)) (fun k _ hk => heap_alloc_old w.drew _ _ hk) ⟨rfl, rfl, rfl, by simp⟩ (fun j hj => ?_) (fun j hj => ?_)
                · rw [Array.size_append, Array.size_append, size_zeroCells, hzs, List.size_toArray, List.size_toArray, hnl]
                  simp only [List.length_take, Array.length_toList]
                  rw [Nat.min_eq_left (by omega), ← Nat.add_mul, ← Nat.add_mul]
                  exact Nat.mul_le_mul_right _ (by omega)
                · simp only [Array.getD_eq_getD_getElem?]
                  rw [Array.append_assoc, Array.getElem?_append_left (by simp; omega)]
                  simp [show j < n * i.size from by omega]
                · simp only [Array.getD_eq_getD_getElem?]
                  rw [Array.append_assoc, Array.getElem?_append_right (by simp; omega), Array.getElem?_append_left (by simp; omega)]
                  simp only [List.size_toArray, List.length_take, Array.length_toList]
                  rw [Nat.min_eq_left (by omega), show cells.length + j - n * i.size = j from by omega]
                  simp [List.getD]
          · cases hap
      · cases hap
    · cases hap
end
end Go.Av

/-
  Maps: made and written.
-/
namespace Go.Av
open Go.RowKit (Below)

section
variable {ν : Nat → FuncId} {N : Nat} {w0 : World} {S : Nat → Prop} {X0 : Cx} {s : St} {a : Act} {w : World} {β : Nat → Nat} {P : Program} {o : Oper} {K : St → Prop}

theorem g_mkm {t : TypeId} (ho : o.op = .makeMap t none) (h : Sim ν N w0 S X0 s a w β) (hd : ∀ k, o.dst = some k → k < N)
    (hK : K (({ s with heap := hput s.heap s.next (some []), next := s.next + 1 } : St).put o.dst (.mm s.next))) : Goes ν N w0 S X0 P o a w K := by
  obtain ⟨hs, hx⟩ := h.newBlk [] (.map #[] 0) fun X' _ => ⟨rfl, fun i hi => by simp at hi⟩
  refine Goes.value (v := .map (some w.heap.size)) ?_ hK (hs.put ?_ hd)
  · simp [execOp, ho, Instr.makeMap]
  · refine .mm (Nat.lt_succ_self _) rfl (fun c hc => ⟨by simp, #[], 0, by simp only [if_true]; exact heap_alloc_new _ _⟩)

theorem mset1_spec (k x : AV) (kl : List Int) : ∀ (es : List MapEntry) (c : List AV) (l : List (List Int × AV)) (i : Nat), es.length = c.length → c.length = l.length → ∀ kd,
    (kfind kd kl es (l.map (·.1)) i = none ∧ mset1 k x kl c l = c ++ [.tup [k, x]]) ∨
    ∃ j v, kfind kd kl es (l.map (·.1)) i = some (i + j, v) ∧ j < c.length ∧ (l[j]?).map (·.1) = some kl ∧ mset1 k x kl c l = c.set j (.tup [k, x]) := by
  intro es
  induction es with
  | nil =>
    intro c l i h1 h2 kd
    have : c = [] := List.eq_nil_of_length_eq_zero (by simpa using h1.symm)
    subst this
    have : l = [] := List.eq_nil_of_length_eq_zero (by simpa using h2.symm)
    subst this
    exact .inl ⟨rfl, rfl⟩
  | cons e es ih =>
    intro c l i h1 h2 kd
    cases c with
    | nil => simp at h1
    | cons y c =>
      cases l with
      | nil => simp at h2
      | cons z l =>
        simp only [List.map_cons, kfind, mset1]
        cases hz : (z.1 == kl)
        · simp only [Bool.false_eq_true, if_false]
          rcases ih c l (i + 1) (by simpa using h1) (by simpa using h2) kd with ⟨g1, g2⟩ | ⟨j, v, g1, g2, g3, g4⟩
          · exact .inl ⟨g1, by rw [g2]; rfl⟩
          · refine .inr ⟨j + 1, v, by rw [g1]; simp; omega, by simp; omega, by simpa using g3, by rw [g4]; rfl⟩
        · simp only [if_true]
          exact .inr ⟨0, e.val, rfl, by simp, by simpa using hz, rfl⟩

theorem g_mset {t k e : TypeId} {kd : Option Nat} {T : Tr} (hP : T.P = P) {m x y : AV} {c1 c2 c3 : Operand} (ho : o.op = .mapUpdate t c1 c2 c3) (ht : T.mapT t = some (k, e)) (hk : T.keyKd k = some kd)
    (hm : Rep ν ⟨β, s.heap, s.next, w, S⟩ m (a.eval c1)) (hx : Rep ν ⟨β, s.heap, s.next, w, S⟩ x (a.eval c2)) (hy : Rep ν ⟨β, s.heap, s.next, w, S⟩ y (a.eval c3))
    (h : Sim ν N w0 S X0 s a w β) (hd : ∀ k, o.dst = some k → k < N) {hp : Hp} (hst : msetTo s.heap kd m x y = some hp) (hK : K (({ s with heap := hp } : St).put o.dst (.v undef))) : Goes ν N w0 S X0 P o a w K := by
  subst hP
  unfold msetTo at hst
  split at hst
  · rename_i ob
    cases hc : s.heap ob with
    | none => simp [hc] at hst
    | some c =>
      simp only [hc] at hst
      split at hst
      · rename_i l kl hdc hkl
        split at hst
        · rename_i hpl
          cases hst
          obtain ⟨_, _, hv⟩ := hm.inv_mm
          obtain ⟨hmv, es, clk, hblk⟩ := hv c hc
          simp only at hmv hblk
          obtain ⟨m1, m2, m3, m4⟩ := ments h.objs hc hblk hdc
          obtain ⟨g1, g2, g3, g4⟩ := h.objs.mp hc hblk
          simp only at g1 g2 g3 g4
          obtain ⟨k1, k2⟩ := mkey_val hkl hx
          have k0 := mkey_rep0 hkl hx
          have y0 := plain_rep0 hpl hy
          have hfind := run_find (w := w) hk k2 m1 m2
          have hck := run_ckey (w := w) hk k2 false
          have htu := mapT_spec ht
          have hlt : β ob < w.heap.size := h.objs.lt ob c hc
          have setb : ∀ (es' : Array MapEntry) (q' : Nat), (setObj (β ob) (.map es' q')).run T.P w = .ok () { w with heap := w.heap.setIfInBounds (β ob) (.map es' q') } := fun es' q' => MapKept.run_setObj_map _ hblk
          have fin : ∀ (es' : Array MapEntry) (q' : Nat) (c' : List AV), (Instr.mapUpdate t (a.eval c1) (a.eval c2) (a.eval c3)).run T.P w = .ok () { w with heap := w.heap.setIfInBounds (β ob) (.map es' q') } → c' = mset1 x y kl c l →
              (c.length < c'.length ∨ c.length = c'.length) → (es'.size = c'.length ∧ ∀ i (h : i < c'.length), ∃ k v e, c'[i] = .tup [k, v] ∧ es'[i]? = some e ∧ Rep0 ν k e.key ∧ Rep0 ν v e.val) → Goes ν N w0 S X0 T.P o a w K := by
            intro es' q' c' hrun hc' hl' hb'
            subst hc'
            obtain ⟨hs, _⟩ := h.turnB (o := ob) (c := c) (c' := mset1 x y kl c l) hc (w' := { w with heap := w.heap.setIfInBounds (β ob) (.map es' q') }) (b' := β ob) (ob' := .map es' q') (by simp [hlt]) (.inl rfl)
              (fun k hk _ => by simp only; rw [Array.getElem?_setIfInBounds_ne (Ne.symm hk)]) ⟨rfl, rfl, rfl, by simp⟩
              (hl'.imp_right fun e1 => ⟨e1, rfl, fun r e' f hr => by rw [hblk] at hr; cases hr⟩) (fun _ _ _ => ⟨rfl, es', q', rfl⟩) fun X' _ _ => hb'
            have hβ : (fun k => if k = ob then β ob else β k) = β := by funext k; split <;> simp_all
            rw [hβ] at hs
            refine Goes.skip (s' := ({ s with heap := hput s.heap ob (some (mset1 x y kl c l)) } : St).put o.dst (.v undef)) (β' := β) ?_ hK (hs.put (.pure (.v _)) hd)
            simp only [execOp, ho, Sem.run_bind, hrun, Result.andThen_ok, Sem.run_pure]
          rcases mset1_spec x y kl es.toList c l 0 (by simpa using g3) m3.symm kd with ⟨f1, f2⟩ | ⟨j, v, f1, f2, f3, f4⟩
          · rw [f1] at hfind
            refine fin (es.push ⟨a.eval c2, a.eval c3, clk⟩) (clk + 1) (c ++ [.tup [x, y]]) ?_ f2.symm (.inl (by simp)) ⟨by simp [g3], fun i hi => ?_⟩
            · rw [hmv]
              simp only [Instr.mapUpdate, Sem.run_bind, run_underlying htu, Result.andThen_ok, MapKept.run_getObj_map hblk]
              rw [k1]
              simp only [Result.andThen_ok, hck, hfind, setb]
            · by_cases hi' : i < c.length
              · obtain ⟨k', v', e', e1, e2, e3, e4⟩ := g4 i hi'
                refine ⟨k', v', e', by rw [List.getElem_append_left hi']; exact e1, ?_, e3, e4⟩
                rw [Array.getElem?_push_lt (by omega)]
                rw [← e2, Array.getElem?_eq_getElem (by omega)]
              · have hie : i = c.length := by simp at hi; omega
                subst hie
                refine ⟨x, y, ⟨a.eval c2, a.eval c3, clk⟩, by simp, ?_, k0, y0⟩
                rw [← g3]; simp
          · rw [f1] at hfind
            have hj : j < es.size := by omega
            have hkey : ((es[j]?).map (·.key)).getD (a.eval c2) = kval kd kl := by
              have hjl : j < l.length := by omega
              have h1 := m2 j (by simpa using hj) (by simpa using hjl)
              simp only [List.getElem_map] at h1
              rw [Array.getElem?_eq_getElem hj]
              simp only [Option.map_some, Option.getD_some]
              have h2 : es.toList[j]'(by simpa using hj) = es[j] := by simp
              rw [h2] at h1
              rw [h1.1]
              rw [List.getElem?_eq_getElem hjl] at f3
              simp only [Option.map_some, Option.some.injEq] at f3
              rw [f3]
            refine fin (es.modify j fun e => { e with key := a.eval c2, val := a.eval c3 }) clk (c.set j (.tup [x, y])) ?_ f4.symm (.inr (by simp)) ⟨by simp [g3], fun i hi => ?_⟩
            · rw [hmv]
              simp only [Instr.mapUpdate, Sem.run_bind, run_underlying htu, Result.andThen_ok, MapKept.run_getObj_map hblk]
              rw [k1] at hkey ⊢
              simp only [Result.andThen_ok, hck, hfind, Nat.zero_add, hkey]
              rw [Sem.run_bind, run_stays]
              simp only [Result.andThen_ok, setb]
            · have hi' : i < c.length := by simpa using hi
              by_cases e1 : i = j
              · subst e1
                refine ⟨x, y, { es[i] with key := a.eval c2, val := a.eval c3 }, by simp, ?_, k0, y0⟩
                rw [Array.getElem?_eq_getElem (by simpa using hj)]
                simp [Array.getElem_modify]
              · obtain ⟨k', v', e', q1, q2, q3, q4⟩ := g4 i hi'
                refine ⟨k', v', e', by rw [List.getElem_set_ne (Ne.symm e1)]; exact q1, ?_, q3, q4⟩
                rw [Array.getElem?_modify, if_neg (Ne.symm e1)]
                exact q2
        · cases hst
      · cases hst
  · cases hst
end
end Go.Av

/-
  Calls; one operation of the compact code, whichever it is.
-/
namespace Go.Av
open Go.RowKit (Below)

/-- What is read of values and objects that the call made: all in new memory. -/
theorem frzN_new {ν : Nat → FuncId} {B : Nat} {X : Cx} (hO : Objs ν B X) {H : Hp} (hH : ∀ o c, H o = some c → X.H o = some c) : ∀ (k : Nat) (x y : AV) (v : Value), frzN H k x = some y → Rep ν X x v → RepP ν X.w (fun b => B ≤ b ∧ b < X.w.heap.size) y v := by
  intro k
  induction k with
  | zero =>
    intro x y v h hx
    cases x <;> simp [frzN] at h <;> subst h <;> first | (obtain ⟨b, rfl⟩ := hx.inv_nil; exact .sl0 _ _) | (rw [hx.inv_v]; exact .v _)
  | succ k ih =>
    intro x y v h hx
    have list : ∀ (c c' : List AV) (vs : Array Value), c.mapM (frzN H k) = some c' → (∀ i (h : i < c.length), Rep ν X c[i] (vs.getD i undef)) → c'.length = c.length ∧ ∀ i (h : i < c'.length), RepP ν X.w (fun b => B ≤ b ∧ b < X.w.heap.size) c'[i] (vs.getD i undef) := by
      intro c c' vs hm hr
      obtain ⟨h1, h2⟩ := mapM_some hm
      exact ⟨h1, fun i hi => ih _ _ _ (h2 i (by omega) hi) (hr i (by omega))⟩
    cases x with
    | v x => simp [frzN] at h; subst h; rw [hx.inv_v]; exact .v _
    | nil => simp [frzN] at h; subst h; obtain ⟨b, rfl⟩ := hx.inv_nil; exact .sl0 _ _
    | sl c n => simp [frzN] at h
    | ptr c n => simp [frzN] at h
    | fn id c => simp [frzN] at h
    | mm o => simp [frzN] at h
    | ms o off n sz =>
      simp only [frzN] at h
      cases hc : H o with
      | none => simp [hc] at h
      | some c =>
        simp only [hc] at h
        split at h
        · rename_i he
          cases hm : c.mapM (frzN H k) with
          | none => rw [hm] at h; cases h
          | some c' =>
            rw [hm] at h; cases h
            obtain ⟨h1, h2, h3, h4⟩ := hx.inv_ms
            obtain ⟨cap, r, e, f, hp, hn, hblk, _⟩ := h4 c (hH _ _ hc) he
            obtain ⟨_, hB, r', e', hr', hl', hrep⟩ := hO.row (hH _ _ hc) ⟨r, e, f, hblk⟩
            obtain ⟨h5, h6⟩ := list c c' r' hm hrep
            subst hp
            refine .sl (fun i => r'.getD (off + i) undef) ⟨hB, (Array.getElem?_eq_some_iff.1 hr').1⟩ hn (fun i hi => ?_) (fun i hi => ?_)
            · have : off + i < r'.size := by simp at hi; omega
              rw [cell_of_row _ _ _ _ _ _ hr']
              simp [this]
            · have := h6 (off + i) (by simp at hi; omega)
              simpa using this
        · cases h
    | mp o off l =>
      simp only [frzN] at h
      cases hc : H o with
      | none => simp [hc] at h
      | some c =>
        simp only [hc] at h
        split at h
        · rename_i he
          cases hm : c.mapM (frzN H k) with
          | none => rw [hm] at h; cases h
          | some c' =>
            rw [hm] at h; cases h
            obtain ⟨h1, h2, h3, h4⟩ := hx.inv_mp
            obtain ⟨hp, hrow⟩ := h4 c (hH _ _ hc) he
            obtain ⟨_, hB, r', e', hr', hl', hrep⟩ := hO.row (hH _ _ hc) hrow
            obtain ⟨h5, h6⟩ := list c c' r' hm hrep
            subst hp
            have := RepP.ptr (ν := ν) (w := X.w) (S := fun b => B ≤ b ∧ b < X.w.heap.size) (cells := c') (off := off) (b := X.β o) (base := 0) (fun i => r'.getD i undef) ⟨hB, (Array.getElem?_eq_some_iff.1 hr').1⟩ (fun i hi => by
              have : i < r'.size := by omega
              rw [Nat.zero_add, cell_of_row _ _ _ _ _ _ hr']
              simp [this]) h6
            rwa [Nat.zero_add] at this
        · cases h
    | agg c =>
      simp only [frzN] at h
      cases hm : c.mapM (frzN H k) with
      | none => rw [hm] at h; cases h
      | some c' =>
        rw [hm] at h; cases h
        obtain ⟨vs, rfl, hs, hr⟩ := hx.inv_agg
        obtain ⟨h1, h2⟩ := list c c' vs hm hr
        exact .agg vs (by omega) h2
    | tup c =>
      simp only [frzN] at h
      cases hm : c.mapM (frzN H k) with
      | none => rw [hm] at h; cases h
      | some c' =>
        rw [hm] at h; cases h
        obtain ⟨vs, rfl, hs, hr⟩ := hx.inv_tup
        obtain ⟨h1, h2⟩ := list c c' vs hm hr
        exact .tup vs (by omega) h2

/-- A clean value stands for the same in every context that has the same new objects. -/
theorem cln_rep {ν : Nat → FuncId} {X Y : Cx} {nx : Nat} (hw : Y.w = X.w) (hn : X.nx ≤ Y.nx) (hH : ∀ o, nx ≤ o → Y.H o = X.H o) (hβ : ∀ o, nx ≤ o → Y.β o = X.β o) : ∀ (k : Nat) (x : AV) (v : Value), cln nx k x = true → Rep ν X x v → Rep ν Y x v := by
  have base : ∀ (x : AV) (v : Value), cln nx 0 x = true → Rep ν X x v → Rep ν Y x v := by
    intro x v h hx
    cases x with
    | v x => rw [hx.inv_v]; exact .pure (.v _)
    | nil => obtain ⟨b, rfl⟩ := hx.inv_nil; exact .pure (.nil _)
    | ms o off n sz =>
      have ho : nx ≤ o := by simpa [cln] using h
      obtain ⟨h1, h2, h3, h4⟩ := hx.inv_ms
      exact .ms (by omega) h2 (by rw [hH o ho]; exact h3) (by rw [hH o ho, hβ o ho, hw]; exact h4)
    | mp o off l =>
      have ho : nx ≤ o := by simpa [cln] using h
      obtain ⟨h1, h2, h3, h4⟩ := hx.inv_mp
      exact .mp (by omega) h2 (by rw [hH o ho]; exact h3) (by rw [hH o ho, hβ o ho, hw]; exact h4)
    | _ => simp [cln] at h
  intro k
  induction k with
  | zero => exact base
  | succ k ih =>
    intro x v h hx
    cases x with
    | agg c =>
      simp only [cln, List.all_eq_true] at h
      obtain ⟨vs, rfl, hs, hr⟩ := hx.inv_agg
      exact .agg vs hs (fun i hi => ih _ _ (h _ (List.getElem_mem _)) (hr i hi))
    | tup c =>
      simp only [cln, List.all_eq_true] at h
      obtain ⟨vs, rfl, hs, hr⟩ := hx.inv_tup
      exact .tup vs hs (fun i hi => ih _ _ (h _ (List.getElem_mem _)) (hr i hi))
    | v x => exact base _ _ rfl hx
    | nil => exact base _ _ rfl hx
    | ms o off n sz => exact base _ _ (by simpa [cln] using h) hx
    | mp o off l => exact base _ _ (by simpa [cln] using h) hx
    | _ => simp [cln] at h

section
variable {ν : Nat → FuncId} {N : Nat} {w0 : World} {S : Nat → Prop} {X0 : Cx} {s : St} {a : Act} {w : World} {β : Nat → Nat} {P : Program} {o : Oper} {K : St → Prop}

theorem run_call {f : Operand} {args : Array Operand} {tys : Array TypeId} {id : Nat} {cvs : Array Value} (ho : o.op = .call { callee := .value f, args, argTypes := tys }) (hf : a.eval f = .func (.func (ν id)) #[] cvs) (hE : Enters P (ν id)) :
    (execOp a.eval o).run P w = .ok (.enter (ν id) (args.map a.eval ++ cvs)) w := by
  obtain ⟨fn, h1, h2, h3⟩ := hE
  have h4 : fn.body ≠ none := by intro hb; rw [hb] at h2; cases h2
  have h5 : fn.name ≠ "runtime.NumGoroutine" := by simpa using h3
  simp [execOp, ho, resolve, hf, Deferred.ofValue, invoke, callFunc, h1, h5, h4]

/-- The values that a call hands over stand for the frozen readings. -/
theorem call_args {T : Tr} (hν : ∀ f id, T.num f = some id → ν id = f) (h : Sim ν N w0 S X0 s a w β) {H : Hp} (hH : ∀ o c, H o = some c → s.heap o = some c) {f : Operand} {f' : Opd} {args : Array Operand} {xs : List Opd} (hf : T.opd f = some f') (hxs : T.opds args.toList = some xs)
    {fc : Nat × List AV} (hfc : fnOf (ev s.env f') = some fc) {ys : List AV} (hys : frzL H (xs.map (ev s.env) ++ fc.2) = some ys) :
    ∃ cvs, a.eval f = .func (.func (ν fc.1)) #[] cvs ∧ ArgsOk ν w ys (args.map a.eval ++ cvs) := by
  have hr := opd_sound (T := T) hν h.env hf
  unfold fnOf at hfc
  split at hfc
  · rename_i id caps hev
    cases hfc
    rw [hev] at hr
    obtain ⟨cvs, hc1, hc2, hc3⟩ := hr.inv_fn
    refine ⟨cvs, hc1, ?_⟩
    simp only at hys
    obtain ⟨h1, h2⟩ := mapM_some hys
    obtain ⟨h3, h4⟩ := mapM_some hxs
    have hlen : (args.map a.eval ++ cvs).size = ys.length := by simp only [Array.size_append, Array.size_map, h1, List.length_append, List.length_map, h3, hc2, Array.length_toList]
    refine ⟨hlen, fun i hi => ?_⟩
    have hi' : i < (xs.map (ev s.env) ++ caps).length := by omega
    have hfz := h2 i hi' hi
    refine frz_all (X := ⟨β, s.heap, s.next, w, S⟩) h.objs hH _ _ _ _ hfz ?_
    by_cases hlt : i < xs.length
    · rw [List.getElem_append_left (by simpa using hlt)]
      have hia : i < args.size := by simp at h3; omega
      have e1 : (args.map a.eval ++ cvs).getD i undef = a.eval args[i] := by
        rw [Array.getD_eq_getD_getElem?, Array.getElem?_append_left (by simpa using hia)]
        simp [hia]
      rw [e1]
      simp only [List.getElem_map]
      have := h4 i (by simpa using hia) hlt
      exact opd_sound (T := T) hν h.env (by simpa using this)
    · rw [List.getElem_append_right (by simpa using Nat.le_of_not_lt hlt)]
      have hsz : (args.map a.eval).size = xs.length := by simp at h3; simp; omega
      have hic : i - xs.length < caps.length := by simp at hi'; omega
      have e1 : (args.map a.eval ++ cvs).getD i undef = cvs.getD (i - xs.length) undef := by
        rw [Array.getD_eq_getD_getElem?, Array.getElem?_append_right (by omega), hsz]
        simp
      rw [e1]
      have := hc3 (i - xs.length) hic
      simpa using this
  · cases hfc


/-- A context without objects, in which all that lies in memory can be read. -/
theorem objs_frozen (ν : Nat → FuncId) (β : Nat → Nat) (nx : Nat) (w : World) : Objs ν w.heap.size ⟨β, hempty, nx, w, fun _ => True⟩ :=
  ⟨(fun o c hc => by cases hc), (fun o o' c c' hc => by cases hc), Nat.le_refl _, fun _ _ => trivial⟩

theorem args_frozen {ys : List AV} {vs : Array Value} (h : ArgsOk ν w ys vs) (β : Nat → Nat) (nx : Nat) : ∀ i (hi : i < ys.length), Rep ν ⟨β, hempty, nx, w, fun _ => True⟩ ys[i] (vs.getD i undef) :=
  fun i hi => .pure ((h.2 i hi).mono (fun b hb => ⟨⟨hb, trivial⟩, (fun o c hc => by cases hc)⟩) (fun _ _ => rfl))

theorem g_call {T : Tr} (hν : ∀ f id, T.num f = some id → ν id = f) (h : Sim ν N w0 S X0 s a w β) (hd : ∀ k, o.dst = some k → k < N) {H : Hp} (hH : ∀ o c, H o = some c → s.heap o = some c) {f : Operand} {f' : Opd} {args : Array Operand} {tys : Array TypeId} {xs : List Opd}
    (ho : o.op = .call { callee := .value f, args, argTypes := tys }) (hf : T.opd f = some f') (hxs : T.opds args.toList = some xs)
    {fc : Nat × List AV} (hfc : fnOf (ev s.env f') = some fc) {ys : List AV} (hys : frzL H (xs.map (ev s.env) ++ fc.2) = some ys) {r : AV} (hc : Fz (OkM P ν) fc.1 ys r) (hK : K (s.put o.dst r)) : Goes ν N w0 S X0 P o a w K := by
  obtain ⟨cvs, hev, hargs⟩ := call_args hν h hH hf hxs hfc hys
  have hrun := run_call (P := P) (w := w) ho hev hc.1
  intro Q
  unfold Oper.wp
  rw [hrun]
  refine (hc.2 w (fun _ => True) β w _ (objs_frozen ν β 0 w) (Below.refl _ _) hargs.1 (args_frozen hargs β 0)).mono ?_
  rintro e w' ⟨v, r', H', nx', β', rfl, hfz, hrep, hobj, hext, hb⟩
  have hs := h.later hb
  have hr := frzN_new hobj (fun _ _ h => h) _ _ _ _ hfz hrep
  refine ⟨_, β, hK, hs.put (.pure (hr.mono (fun b hb' => ⟨⟨hb'.2, h.objs.new b (Nat.le_trans h.objs.le hb'.1)⟩, fun k c hk => ?_⟩) (fun _ _ => rfl))) hd⟩
  have := h.objs.lt k c hk
  simp only at this ⊢
  have h2 := hb'.1
  omega

/-- A call whose arguments hold no objects. -/
theorem g_calli {T : Tr} (hν : ∀ f id, T.num f = some id → ν id = f) (h : Sim ν N w0 S X0 s a w β) (hd : ∀ k, o.dst = some k → k < N) {f : Operand} {f' : Opd} {args : Array Operand} {tys : Array TypeId} {xs : List Opd}
    (ho : o.op = .call { callee := .value f, args, argTypes := tys }) (hf : T.opd f = some f') (hxs : T.opds args.toList = some xs)
    {fc : Nat × List AV} (hfc : fnOf (ev s.env f') = some fc) {ys : List AV} (hys : frzL hempty (xs.map (ev s.env) ++ fc.2) = some ys) {r : AV} (hc : Fi (OkM P ν) fc.1 ys r) (hK : K (s.put o.dst r)) : Goes ν N w0 S X0 P o a w K := by
  have hr := opd_sound (T := T) hν h.env hf
  unfold fnOf at hfc
  split at hfc
  · rename_i id caps hev
    cases hfc
    rw [hev] at hr
    obtain ⟨cvs, hc1, hc2, hc3⟩ := hr.inv_fn
    simp only at hys hc
    obtain ⟨h1, h2⟩ := mapM_some hys
    obtain ⟨h3, h4⟩ := mapM_some hxs
    have hlen : (args.map a.eval ++ cvs).size = ys.length := by simp only [Array.size_append, Array.size_map, h1, List.length_append, List.length_map, h3, hc2, Array.length_toList]
    have hargs : ∀ i (hi : i < ys.length), RepP ν w (Imm ⟨β, s.heap, s.next, w, S⟩) ys[i] ((args.map a.eval ++ cvs).getD i undef) := fun i hi => by
      have hi' : i < (xs.map (ev s.env) ++ caps).length := by omega
      have hfz := h2 i hi' hi
      refine frz_imm (X := ⟨β, s.heap, s.next, w, S⟩) _ _ _ _ hfz ?_
      by_cases hlt : i < xs.length
      · rw [List.getElem_append_left (by simpa using hlt)]
        have hia : i < args.size := by simp at h3; omega
        have e1 : (args.map a.eval ++ cvs).getD i undef = a.eval args[i] := by
          rw [Array.getD_eq_getD_getElem?, Array.getElem?_append_left (by simpa using hia)]
          simp [hia]
        rw [e1]
        simp only [List.getElem_map]
        have := h4 i (by simpa using hia) hlt
        exact opd_sound (T := T) hν h.env (by simpa using this)
      · rw [List.getElem_append_right (by simpa using Nat.le_of_not_lt hlt)]
        have hsz : (args.map a.eval).size = xs.length := by simp at h3; simp; omega
        have hic : i - xs.length < caps.length := by simp at hi'; omega
        have e1 : (args.map a.eval ++ cvs).getD i undef = cvs.getD (i - xs.length) undef := by
          rw [Array.getD_eq_getD_getElem?, Array.getElem?_append_right (by omega), hsz]
          simp
        rw [e1]
        have := hc3 (i - xs.length) hic
        simpa using this
    have hrun := run_call (P := P) (w := w) ho hc1 hc.1
    intro Q
    unfold Oper.wp
    rw [hrun]
    refine (hc.2 w (fun b => Imm ⟨β, s.heap, s.next, w, S⟩ b ∨ w.heap.size ≤ b) β w _ ⟨(fun o c hc => by cases hc), (fun o o' c c' hc => by cases hc), Nat.le_refl _, fun b hb => .inr hb⟩ (Below.refl _ _) hlen
      (fun i hi => .pure ((hargs i hi).mono (fun b hb => ⟨⟨hb.1.1, .inl hb⟩, (fun o c hc => by cases hc)⟩) (fun _ _ => rfl)))).mono ?_
    rintro e w' ⟨v, r', H', nx', β', rfl, hfz, hrep, hobj, hext, hb⟩
    have hs := h.later hb
    have hr := frz_allS hobj (fun _ _ h => h) _ _ _ _ hfz hrep
    refine ⟨_, β, hK, hs.put (.pure (hr.mono (fun b hb' => ?_) (fun _ _ => rfl))) hd⟩
    rcases hb'.2 with h5 | h5
    · exact ⟨⟨hb'.1, h5.1.2⟩, h5.2⟩
    · refine ⟨⟨hb'.1, h.objs.new b (Nat.le_trans h.objs.le h5)⟩, fun k c hk => ?_⟩
      have := h.objs.lt k c hk
      simp only at this ⊢
      omega
  · cases hfc

/-- The values that a call over the same objects hands over. -/
theorem call_args_m {T : Tr} (hν : ∀ f id, T.num f = some id → ν id = f) (h : Sim ν N w0 S X0 s a w β) {f : Operand} {f' : Opd} {args : Array Operand} {xs : List Opd} (hf : T.opd f = some f') (hxs : T.opds args.toList = some xs)
    {fc : Nat × List AV} (hfc : fnOf (ev s.env f') = some fc) :
    ∃ cvs, a.eval f = .func (.func (ν fc.1)) #[] cvs ∧ (args.map a.eval ++ cvs).size = (xs.map (ev s.env) ++ fc.2).length ∧ ∀ i (hi : i < (xs.map (ev s.env) ++ fc.2).length), Rep ν ⟨β, s.heap, s.next, w, S⟩ (xs.map (ev s.env) ++ fc.2)[i] ((args.map a.eval ++ cvs).getD i undef) := by
  have hr := opd_sound (T := T) hν h.env hf
  unfold fnOf at hfc
  split at hfc
  · rename_i id caps hev
    cases hfc
    rw [hev] at hr
    obtain ⟨cvs, hc1, hc2, hc3⟩ := hr.inv_fn
    refine ⟨cvs, hc1, ?_⟩
    obtain ⟨h3, h4⟩ := mapM_some hxs
    have hlen : (args.map a.eval ++ cvs).size = (xs.map (ev s.env) ++ caps).length := by simp only [Array.size_append, Array.size_map, List.length_append, List.length_map, h3, hc2, Array.length_toList]
    refine ⟨hlen, fun i hi' => ?_⟩
    simp only at hi' ⊢
    by_cases hlt : i < xs.length
    · rw [List.getElem_append_left (by simpa using hlt)]
      have hia : i < args.size := by simp at h3; omega
      have e1 : (args.map a.eval ++ cvs).getD i undef = a.eval args[i] := by
        rw [Array.getD_eq_getD_getElem?, Array.getElem?_append_left (by simpa using hia)]
        simp [hia]
      rw [e1]
      simp only [List.getElem_map]
      have := h4 i (by simpa using hia) hlt
      exact opd_sound (T := T) hν h.env (by simpa using this)
    · rw [List.getElem_append_right (by simpa using Nat.le_of_not_lt hlt)]
      have hsz : (args.map a.eval).size = xs.length := by simp at h3; simp; omega
      have hic : i - xs.length < caps.length := by simp at hi'; omega
      have e1 : (args.map a.eval ++ cvs).getD i undef = cvs.getD (i - xs.length) undef := by
        rw [Array.getD_eq_getD_getElem?, Array.getElem?_append_right (by omega), hsz]
        simp
      rw [e1]
      have := hc3 (i - xs.length) hic
      simpa using this
  · cases hfc

theorem g_callm {T : Tr} (hν : ∀ f id, T.num f = some id → ν id = f) (h : Sim ν N w0 S X0 s a w β) (hd : ∀ k, o.dst = some k → k < N) {f : Operand} {f' : Opd} {args : Array Operand} {tys : Array TypeId} {xs : List Opd}
    (ho : o.op = .call { callee := .value f, args, argTypes := tys }) (hf : T.opd f = some f') (hxs : T.opds args.toList = some xs)
    {fc : Nat × List AV} (hfc : fnOf (ev s.env f') = some fc) {Φ : AV → Hp → Nat → Prop} (hc : OkM P ν fc.1 (xs.map (ev s.env) ++ fc.2) s.heap s.next Φ) (hK : ∀ r H' nx', Φ r H' nx' → K ((⟨s.env, H', nx'⟩ : St).put o.dst r)) : Goes ν N w0 S X0 P o a w K := by
  obtain ⟨cvs, hev, hsz, hargs⟩ := call_args_m hν h hf hxs hfc
  have hrun := run_call (P := P) (w := w) ho hev hc.1
  intro Q
  unfold Oper.wp
  rw [hrun]
  refine (hc.2 w0 S β w _ h.objs h.below hsz hargs).mono ?_
  rintro e w' ⟨v, r', H', nx', β', rfl, hΦ, hrep, hobj, hext, hb⟩
  have hs : Sim ν N w0 S X0 ⟨s.env, H', nx'⟩ a w' β' := ⟨fun t => (h.env t).mono hext, h.size, h.defers, hobj, hb, h.ext.trans hext⟩
  exact ⟨_, β', hK _ _ _ hΦ, hs.put hrep hd⟩

theorem g_callo {T : Tr} (hν : ∀ f id, T.num f = some id → ν id = f) (h : Sim ν N w0 S X0 s a w β) (hd : ∀ k, o.dst = some k → k < N) {f : Operand} {f' : Opd} {args : Array Operand} {tys : Array TypeId} {xs : List Opd}
    (ho : o.op = .call { callee := .value f, args, argTypes := tys }) (hf : T.opd f = some f') (hxs : T.opds args.toList = some xs)
    {fc : Nat × List AV} (hfc : fnOf (ev s.env f') = some fc) {ys : List AV} (hys : frzL s.heap (xs.map (ev s.env) ++ fc.2) = some ys) {Φ : AV → Hp → Nat → Prop} (hc : OkM P ν fc.1 ys hempty s.next Φ)
    (hK : ∀ r H' nx', Φ r H' nx' → cln s.next fuel r = true ∧ clnH s.next H' ∧ K ((⟨s.env, hmerge s.next s.heap H', nx'⟩ : St).put o.dst r)) : Goes ν N w0 S X0 P o a w K := by
  obtain ⟨cvs, hev, hargs⟩ := call_args hν h (fun _ _ h => h) hf hxs hfc hys
  have hrun := run_call (P := P) (w := w) ho hev hc.1
  intro Q
  unfold Oper.wp
  rw [hrun]
  refine (hc.2 w (fun _ => True) β w _ (objs_frozen ν β s.next w) (Below.refl _ _) hargs.1 (args_frozen hargs β s.next)).mono ?_
  rintro e w' ⟨v, r', H', nx', β', rfl, hΦ, hrep, hobj, hext, hb⟩
  obtain ⟨hcl, hclH, hK'⟩ := hK _ _ _ hΦ
  have hnx : s.next ≤ nx' := hext.nx
  have hlive : ∀ k c, s.heap k = some c → k < s.next ∧ β k < w.heap.size := fun k c hk => ⟨(h.objs.obj k c hk).1, h.objs.lt k c hk⟩
  have hnew : ∀ k c, H' k = some c → s.next ≤ k := fun k c hk => by
    rcases Nat.lt_or_ge k s.next with hlt | hge
    · obtain ⟨c0, hc0, _⟩ := hext.obj k c hlt hk
      cases hc0
    · exact hge
  have hYH : ∀ o', s.next ≤ o' → hmerge s.next s.heap H' o' = H' o' := fun o' ho' => by simp only [hmerge]; rw [if_neg (by omega)]
  have hYL : ∀ o', o' < s.next → hmerge s.next s.heap H' o' = s.heap o' := fun o' ho' => by simp only [hmerge]; rw [if_pos ho']
  have tr : ∀ (k : Nat) (x : AV) (v : Value), cln s.next k x = true → Rep ν ⟨β', H', nx', w', fun _ => True⟩ x v → Rep ν ⟨fun k => if k < s.next then β k else β' k, hmerge s.next s.heap H', nx', w', S⟩ x v :=
    cln_rep (X := ⟨β', H', nx', w', fun _ => True⟩) (Y := ⟨fun k => if k < s.next then β k else β' k, hmerge s.next s.heap H', nx', w', S⟩) rfl (Nat.le_refl _) hYH (fun o' ho' => by simp only; rw [if_neg (by omega)])
  have hx : Ext ⟨β, s.heap, s.next, w, S⟩ ⟨fun k => if k < s.next then β k else β' k, hmerge s.next s.heap H', nx', w', S⟩ := by
    refine ⟨hnx, fun b' hb' => ⟨⟨Nat.lt_of_lt_of_le hb'.1.1 hb.size, hb'.1.2⟩, fun k c' hk => ?_⟩, fun b' hb' => hb.block b' hb'.1.1, fun k c' hk hc' => ?_, fun k c' hk hc' es q hm => ?_⟩
    · simp only at hk ⊢
      by_cases e1 : k < s.next
      · rw [hYL k e1] at hk
        rw [if_pos e1]
        exact hb'.2 k c' hk
      · rw [hYH k (by omega)] at hk
        rw [if_neg e1]
        have h1 := (hobj.obj k c' hk).2.1
        have h2 := hb'.1.1
        simp only at h1 h2
        omega
    · simp only at hk hc'
      rw [hYL k hk] at hc'
      exact ⟨c', hc', .inr ⟨rfl, by simp only [if_pos hk], fun r' e' f' hr' => ⟨r', e', f', by show w'.heap[β k]? = _; rw [hb.block _ (hlive k c' hc').2]; exact hr', rfl⟩⟩⟩
    · simp only at hk hc'
      rw [hYL k hk] at hc'
      exact ⟨by simp only [if_pos hk], es, q, by show w'.heap[β k]? = _; rw [hb.block _ (hlive k c' hc').2]; exact hm⟩
  have hsim : Sim ν N w0 S X0 ⟨s.env, hmerge s.next s.heap H', nx'⟩ a w' (fun k => if k < s.next then β k else β' k) := by
    refine ⟨fun t => (h.env t).mono hx, h.size, h.defers, ⟨fun k c' hk => ?_, fun k k' c1 c2 hk hk' he => ?_, Nat.le_trans h.objs.le hb.size, h.objs.new⟩, h.below.trans (hb.mono h.le), h.ext.trans hx⟩
    · simp only at hk ⊢
      by_cases e1 : k < s.next
      · rw [hYL k e1] at hk
        obtain ⟨h1, h2, ob2, hr2, hrep2⟩ := h.objs.obj k c' hk
        simp only at h1 h2 hr2
        exact ⟨by omega, by rw [if_pos e1]; exact h2, ob2, by rw [if_pos e1, hb.block _ (hlive k c' hk).2]; exact hr2, hrep2.mono hx⟩
      · rw [hYH k (by omega)] at hk
        obtain ⟨h1, h2, ob2, hr2, hrep2⟩ := hobj.obj k c' hk
        simp only at h1 h2 hr2
        refine ⟨h1, by rw [if_neg e1]; exact Nat.le_trans h.le h2, ob2, by rw [if_neg e1]; exact hr2, ?_⟩
        cases ob2 with
        | cells r2 e2 f2 => exact ⟨hrep2.1, hrep2.2.1, fun i hi => tr 0 _ _ (List.all_eq_true.1 (hclH k c' hk) _ (List.getElem_mem _)) (hrep2.2.2 i hi)⟩
        | map es q => exact hrep2
        | _ => exact hrep2
    · simp only at hk hk' he
      by_cases e1 : k < s.next
      · rw [hYL k e1] at hk
        have g1 := (hlive k c1 hk).2
        by_cases e2 : k' < s.next
        · rw [hYL k' e2] at hk'
          rw [if_pos e1, if_pos e2] at he
          exact h.objs.inj k k' c1 c2 hk hk' he
        · rw [hYH k' (by omega)] at hk'
          rw [if_pos e1, if_neg e2] at he
          have := (hobj.obj k' c2 hk').2.1
          simp only at this
          omega
      · rw [hYH k (by omega)] at hk
        have g1 := (hobj.obj k c1 hk).2.1
        simp only at g1
        by_cases e2 : k' < s.next
        · rw [hYL k' e2] at hk'
          rw [if_neg e1, if_pos e2] at he
          have := (hlive k' c2 hk').2
          omega
        · rw [hYH k' (by omega)] at hk'
          rw [if_neg e1, if_neg e2] at he
          exact hobj.inj k k' c1 c2 hk hk' he
  exact ⟨_, _, hK', hsim.put (tr _ _ _ hcl hrep) hd⟩
end
end Go.Av

/-
  Operations with more than one outcome, and calls after which no object is known any more.
-/
namespace Go.Av
open Go.RowKit (Below)

section
variable {ν : Nat → FuncId} {N : Nat} {w0 : World} {S : Nat → Prop} {X0 : Cx} {s : St} {a : Act} {w : World} {β : Nat → Nat} {P : Program} {o : Oper} {K : St → Prop}

/-- All objects forgotten. -/
theorem Sim.forget (h : Sim ν N w0 S X0 s a w β) : Sim ν N w0 S X0 ⟨s.env, hempty, s.next⟩ a w β := by
  have hx : Ext ⟨β, s.heap, s.next, w, S⟩ ⟨β, hempty, s.next, w, S⟩ :=
    ⟨Nat.le_refl _, fun b hb => ⟨hb.1, fun o c hc => by cases hc⟩, fun _ _ => rfl, (fun o c' _ hc' => by cases hc'), (fun o c' _ hc' => by cases hc')⟩
  exact ⟨fun t => (h.env t).mono hx, h.size, h.defers, ⟨(fun o c hc => by cases hc), (fun o o' c c' hc => by cases hc), h.objs.le, h.objs.new⟩, h.below, h.ext.trans hx⟩

theorem g_callz {T : Tr} (hν : ∀ f id, T.num f = some id → ν id = f) (h : Sim ν N w0 S X0 s a w β) (hd : ∀ k, o.dst = some k → k < N) {f : Operand} {f' : Opd} {args : Array Operand} {tys : Array TypeId} {xs : List Opd}
    (ho : o.op = .call { callee := .value f, args, argTypes := tys }) (hf : T.opd f = some f') (hxs : T.opds args.toList = some xs)
    {fc : Nat × List AV} (hfc : fnOf (ev s.env f') = some fc) {ys : List AV} (hys : frzL s.heap (xs.map (ev s.env) ++ fc.2) = some ys) {r : AV} (hc : Fi (OkM P ν) fc.1 ys r)
    (hK : K ((⟨s.env, hempty, s.next⟩ : St).put o.dst r)) : Goes ν N w0 S X0 P o a w K := by
  obtain ⟨cvs, hev, hsz, hargs⟩ := call_args_m hν h hf hxs hfc
  have hrun := run_call (P := P) (w := w) ho hev hc.1
  obtain ⟨h1, h2⟩ := mapM_some hys
  have hargs' : ∀ i (hi : i < ys.length), RepP ν w (fun b => b < w.heap.size ∧ S b) ys[i] ((args.map a.eval ++ cvs).getD i undef) := fun i hi =>
    frz_allS (X := ⟨β, s.heap, s.next, w, S⟩) h.objs (fun _ _ h => h) _ _ _ _ (h2 i (by omega) hi) (hargs i (by omega))
  intro Q
  unfold Oper.wp
  rw [hrun]
  have hz := h.forget
  refine (hc.2 w S β w _ ⟨(fun o c hc => by cases hc), (fun o o' c c' hc => by cases hc), Nat.le_refl _, fun b hb => h.objs.new b (Nat.le_trans h.objs.le hb)⟩ (Below.refl _ _) (by omega)
    (fun i hi => .pure ((hargs' i hi).mono (fun b hb => ⟨hb, (fun o c hc => by cases hc)⟩) (fun _ _ => rfl)))).mono ?_
  rintro e w' ⟨v, r', H', nx', β', rfl, hfz, hrep, hobj, hext, hb⟩
  have hr := frz_allS hobj (fun _ _ h => h) _ _ _ _ hfz hrep
  exact ⟨_, β, hK, (hz.later hb).put (.pure (hr.mono (fun b hb' => ⟨hb', (fun o c hc => by cases hc)⟩) (fun _ _ => rfl))) hd⟩

theorem run_room_at {P : Program} (w : World) (t ty e e' : TypeId) (i : TypeInfo) (ht : P.underlying t = some (.slice e)) (hi : P.info? e = some i)
    (g off sLen sCap : Nat) (cur : Array Value) (hg : w.heap[g]? = some (.cells cur e' (0, 0)))
    (a : Addr) (m c : Nat) (news : List Value) (hl : news.length = m * i.size) (hnews : ∀ j u, news[j]? = some u → w.cell? (a.add j) = some u) (h1 : ∀ u ∈ news, u.oneCell' = true)
    (hroom : sLen + m ≤ sCap) (hfit : off + sLen * i.size + news.length ≤ cur.size) :
    (Builtin.append_ #[t, t] ty #[.slice (some ⟨g, off, none⟩) sLen sCap, .slice (some a) m c]).run P w =
      .ok (.slice (some ⟨g, off, none⟩) (sLen + m) sCap) (w.setRow g (cur.toList.take (off + sLen * i.size) ++ news ++ cur.toList.drop (off + sLen * i.size + news.length)).toArray) := by
  have hf := run_firstCells_some (P := P) w i.size m a m c news hl hnews
  have hst := run_storeCells_at (P := P) g (off + sLen * i.size) e' news 0 cur w hg (by simpa using hfit) h1
  simp only [Nat.add_zero] at hst
  simp [Builtin.append_, run_underlying ht, Go.sizeOf, typeInfo, hi, Builtin.lenOf, hroom, hf, Addr.add_lit, hst]

theorem g_slm {t e : TypeId} {T : Tr} (hP : T.P = P) {sz : Nat} {x y : AV} {c1 c2 : Operand} (ho : o.op = .slice t c1 (some c2) none none) (he : T.elem t = some e) (hs : T.sizeOf e = some sz)
    (hx : Rep ν ⟨β, s.heap, s.next, w, S⟩ x (a.eval c1)) (hy : Rep ν ⟨β, s.heap, s.next, w, S⟩ y (a.eval c2)) (h : Sim ν N w0 S X0 s a w β) (hd : ∀ k, o.dst = some k → k < N)
    {l : List (AV × Hp × Nat)} (hl : altTo s (.slm sz) [x, y] = some l) (hK : ∀ q ∈ l, K (({ s with heap := q.2.1, next := q.2.2 } : St).put o.dst q.1)) : Goes ν N w0 S X0 P o a w K := by
  subst hP
  obtain ⟨i, hi', hsz⟩ := size_spec hs
  have hu := elem_spec he
  unfold altTo at hl
  split at hl
  · rename_i heq1 heq2; cases heq1
  · rename_i ob off n sz' k j heq1 heq2
    cases heq1
    cases heq2
    split at hl
    · rename_i hs'
      subst hs'
      cases hh : s.heap ob with
      | none => simp [hh] at hl
      | some cells =>
        simp only [hh] at hl
        split at hl
        · rename_i hc
          obtain ⟨hfull, h0, hle⟩ := hc
          cases hl
          obtain ⟨j', rfl⟩ := Int.eq_ofNat_of_zero_le h0
          have hle' : j' ≤ n := by omega
          obtain ⟨hv1, hv2, hv3, hv⟩ := hx.inv_ms
          obtain ⟨cap, r, e', f, hp, hn, hblk, hcapr⟩ := hv cells hh hfull
          simp only at hp hblk hv1
          have hyv := hy.inv_v
          have hrun : (execOp a.eval o).run T.P w = .ok (.value (.slice (if cap = j' then some ⟨β ob, off, none⟩ else some ⟨β ob, off + j' * sz', none⟩) (n - j') (cap - j'))) w := by
            have B : ∀ code, (Instr.sliceBound (a.eval c2) n code).run T.P w = .ok j' w := by
              intro code
              rw [hyv]
              exact run_bound (by omega) (by omega)
            by_cases hcap : cap = j'
            · simp [execOp, ho, Instr.sliceAt, run_underlying hu, Instr.slice, hp, Instr.sliceBounds, run_size hi', hsz, B, hcap]
            · simp [execOp, ho, Instr.sliceAt, run_underlying hu, Instr.slice, hp, Instr.sliceBounds, run_size hi', hsz, B, hcap, Addr.add_lit]
          have hsame : ({ s with heap := s.heap, next := s.next } : St) = s := rfl
          by_cases hcap : cap = j'
          · have hnj : j' = n := by omega
            rw [if_pos hcap] at hrun
            refine Goes.value hrun (hK (.nil, s.heap, s.next) ?_) (h.put ?_ hd)
            · simp [hnj]
            · rw [show n - j' = 0 by omega, show cap - j' = 0 by omega]; exact .pure (.nil _)
          · rw [if_neg hcap] at hrun
            refine Goes.value hrun (hK _ (List.mem_cons_self ..)) (h.put ?_ hd)
            have e1 : off + j' * sz' + (n - j') * sz' = off + n * sz' := by
              rw [Nat.add_assoc, ← Nat.add_mul]; congr 2; omega
            have e2 : off + j' * sz' + (cap - j') * sz' = off + cap * sz' := by
              rw [Nat.add_assoc, ← Nat.add_mul]; congr 2; omega
            refine .ms hv1 rfl (fun c hc => ?_) (fun c hc hcl => ?_)
            · have := hv3 c hc; simp only [Int.toNat_natCast]; omega
            · refine ⟨cap - j', r, e', f, by simp, by simp only [Int.toNat_natCast]; omega, hblk, by simp only [Int.toNat_natCast]; omega⟩
        · cases hl
    · cases hl
  · cases hl

theorem g_apd {t e : TypeId} {T : Tr} (hP : T.P = P) {i : TypeInfo} {z : List AV} {x y : AV} {c1 c2 : Operand} (ho : o.op = .call { callee := .builtin .append, args := #[c1, c2], argTypes := #[t, t] })
    (he : T.elem t = some e) (hi : T.P.info? e = some i) (hz : T.zero e = some z) (hsz : 0 < i.size) (hzl : z.length = i.size) (hby : i.bytes ≤ 128)
    (hx : Rep ν ⟨β, s.heap, s.next, w, S⟩ x (a.eval c1)) (hy : Rep ν ⟨β, s.heap, s.next, w, S⟩ y (a.eval c2)) (h : Sim ν N w0 S X0 s a w β) (hd : ∀ k, o.dst = some k → k < N)
    {l : List (AV × Hp × Nat)} (hl : altTo s (.app i.size) [x, y] = some l) (hK : ∀ q ∈ l, K (({ s with heap := q.2.1, next := q.2.2 } : St).put o.dst q.1)) : Goes ν N w0 S X0 P o a w K := by
  subst hP
  unfold altTo at hl
  simp only at hl
  cases hcm : appCells s.heap i.size y with
  | none => simp [hcm] at hl
  | some cm =>
  simp only [hcm] at hl
  split at hl
  case isFalse => cases hl
  rename_i hc
  obtain ⟨h1, hm⟩ := hc
  split at hl
  · -- onto an empty slice
    split at hl
    · rename_i hmax
      cases hl
      refine g_app rfl ho he hi hz hsz hzl hby hx hy h hd hcm h1 (r := (.ms s.next 0 cm.2 i.size, hput s.heap s.next (some cm.1), s.next + 1)) ?_ (hK _ (List.mem_cons_self ..))
      simp only [appTo, if_neg (show ¬ cm.2 = 0 by omega), if_pos hmax]
    · cases hl
  · rename_i ob off n sz'
    split at hl
    case isFalse => cases hl
    rename_i hs'
    subst hs'
    cases hh : s.heap ob with
    | none => simp [hh] at hl
    | some cells =>
    simp only [hh] at hl
    split at hl
    case isFalse => cases hl
    rename_i hfull
    obtain ⟨hfull, hmax⟩ := hfull
    cases hl
    have K1 := hK _ (List.mem_cons_self ..)
    have K2 := hK _ (List.mem_cons_of_mem _ (List.mem_cons_self ..))
    clear hK
    obtain ⟨i', zv, za, hi', hz', hza, hzc, hzl', hz1⟩ := zero_spec hz
    rw [hi] at hi'
    cases hi'
    have hu := elem_spec he
    have hzs : zv.cells.size = i.size := by
      have hzr : Rep ν ⟨β, s.heap, s.next, w, S⟩ za zv := .pure (avOf_rep hza)
      have := (hzr.cells (by rw [hzc]; exact hz1)).1
      rw [hzc] at this
      omega
    have toRun : ∀ v w', (Builtin.append_ #[t, t] o.type #[a.eval c1, a.eval c2]).run T.P w = .ok v w' → (execOp a.eval o).run T.P w = .ok (.value v) w' := by
      intro v w' hr
      simp only [execOp, ho, resolve, invoke, builtin, Sem.run_bind, Sem.run_pure, Result.andThen_ok, List.map_toArray, List.map_cons, List.map_nil, hr]
    have small : ∀ m : Nat, m ≤ appMax → m * i.bytes ≤ 140737488355328 ∧ (m : Int) ≤ 9223372036854775807 := by
      intro m hm
      unfold appMax at hm
      have : m * i.bytes ≤ 1099511627776 * 128 := Nat.mul_le_mul hm hby
      omega
    obtain ⟨hb1, hb2⟩ := small (n + cm.2) hmax
    rcases app_src h hy hcm h1 hsz with ⟨ad, c, hq, hce⟩ | ⟨ad, c, news, hq, hnl, hcl, hnews, hone, hrep⟩
    · rw [hce] at hm; exact absurd hm (Nat.lt_irrefl _)
    obtain ⟨hv1, hv2, hv3, hv⟩ := hx.inv_ms
    obtain ⟨cap, r, e', f, hp, hn, hblk, hcapr⟩ := hv cells hh hfull
    have hrow : ∃ r e f, w.heap[β ob]? = some (.cells r e f) := ⟨r, e', f, hblk⟩
    obtain ⟨g1, g2, r', e2, hr', hl', hrep'⟩ := h.objs.row hh hrow
    simp only at hp hblk g1 g2 hr' hv1
    have hinj := hr'.symm.trans hblk
    simp only [Option.some.injEq, Obj.cells.injEq] at hinj
    obtain ⟨rfl, rfl, rfl⟩ := hinj
    by_cases hroom : n + cm.2 ≤ cap
    · -- in place
      have hfit : off + n * i.size + news.length ≤ r'.size := by
        have : (n + cm.2) * i.size ≤ cap * i.size := Nat.mul_le_mul_right _ hroom
        rw [Nat.add_mul] at this
        omega
      have hr := run_room_at (P := T.P) w t o.type e e2 i hu hi (β ob) off n cap r' hr' ad cm.2 c news hnl hnews hone hroom hfit
      have hw' := setRow_heap w (β ob) _ (r'.toList.take (off + n * i.size) ++ news ++ r'.toList.drop (off + n * i.size + news.length)).toArray _ _ hr'
      obtain ⟨hs, hxx⟩ := h.turn (o := ob) (c := cells) (c' := cells ++ cm.1) hh hrow hw' (by simp; omega) (.inl rfl) (fun k hk _ => setRow_other _ _ _ _ hk) ⟨rfl, rfl, rfl, by simp [World.setRow]⟩
        (.inl (by have : 0 < cm.2 * i.size := Nat.mul_pos hm hsz; simp; omega)) (fun X' hX' _ j hj => by
        by_cases hj1 : j < cells.length
        · rw [List.getElem_append_left hj1]
          have : (r'.toList.take (off + n * i.size) ++ news ++ r'.toList.drop (off + n * i.size + news.length)).toArray.getD j undef = r'.getD j undef := by
            simp only [Array.getD_eq_getD_getElem?, List.getElem?_toArray]
            rw [List.append_assoc, List.getElem?_append_left (by simp; omega)]
            simp [show j < off + n * i.size from by omega]
          rw [this]
          exact (hrep' j hj1).mono hX'
        · have hj2 : j - cells.length < cm.1.length := by simp at hj; omega
          rw [List.getElem_append_right (by omega)]
          have : (r'.toList.take (off + n * i.size) ++ news ++ r'.toList.drop (off + n * i.size + news.length)).toArray.getD j undef = news.getD (j - cells.length) undef := by
            simp only [Array.getD_eq_getD_getElem?, List.getElem?_toArray]
            rw [List.append_assoc, List.getElem?_append_right (by simp; omega), List.getElem?_append_left (by simp; omega)]
            simp only [List.length_take, Array.length_toList]
            rw [Nat.min_eq_left (by omega), show j - (off + n * i.size) = j - cells.length from by omega]
            simp [List.getD]
          rw [this]
          exact (hrep _ hj2).mono hX')
      refine Goes.value (toRun _ _ (by rw [hp, hq]; exact hr)) K1 (hs.put ?_ hd)
      refine .ms hv1 rfl (fun c' hc' => ?_) (fun c' hc' _ => ⟨cap, _, e2, (0, 0), by simp, hroom, by simp only [if_true]; exact hw', by simp; omega⟩)
      simp only [hput, if_true, Option.some.injEq] at hc'
      subst hc'
      simp only [List.length_append, Nat.add_mul]
      omega
    · -- in a new block
      have hr := run_append_grow (P := T.P) w t o.type e i zv hu hi hz' ⟨β ob, off, none⟩ n cap ((r'.toList.drop off).take (n * i.size)) (by simp; omega) (fun j v hv => by
        rw [addr_add, cell_of_row _ _ _ _ _ _ hr']
        rw [List.getElem?_take] at hv
        split at hv
        · simpa using hv
        · cases hv) ad cm.2 c news hnl hnews (by omega) (by omega) (growslice_fits (by omega) (by omega))
      have hge := grownCap_ge w (n + cm.2) cap e
      have hdrew : Sim ν N w0 S X0 s a w.drew β := h.later ⟨rfl, rfl, rfl, Nat.le_refl _, fun _ _ => rfl⟩
      generalize hgc : grownCap w (n + cm.2) cap e = gc at hr hge
      have hsize : (n + cm.2) * i.size ≤ gc * i.size := Nat.mul_le_mul_right _ hge
      have hsz2 := Nat.add_mul n cm.2 i.size
      have hrs : (((r'.toList.drop off).take (n * i.size)).toArray ++ news.toArray ++ Builtin.zeroCells zv.cells (gc - (n + cm.2))).size = gc * i.size := by
        rw [Array.size_append, Array.size_append, size_zeroCells, hzs, List.size_toArray, List.size_toArray, hnl]
        simp only [List.length_take, List.length_drop, Array.length_toList]
        rw [Nat.min_eq_left (by omega), ← Nat.add_mul, ← Nat.add_mul]
        congr 1; omega
      obtain ⟨hs, hxx⟩ := hdrew.newObj (cells.drop off ++ cm.1) _ e (by rw [hrs]; simp; omega) (fun j hj => by
        by_cases hj1 : j < (cells.drop off).length
        · rw [List.getElem_append_left hj1]
          have hj1' : off + j < cells.length := by simp at hj1; omega
          have : (((r'.toList.drop off).take (n * i.size)).toArray ++ news.toArray ++ Builtin.zeroCells zv.cells (gc - (n + cm.2))).getD j undef = r'.getD (off + j) undef := by
            simp only [Array.getD_eq_getD_getElem?]
            rw [Array.append_assoc, Array.getElem?_append_left (by simp; omega)]
            simp [show j < n * i.size from by omega]
          rw [this]
          have := (hrep' (off + j) hj1').mono (Ext.drew _ w.drew rfl)
          simpa using this
        · have hdl : (cells.drop off).length = n * i.size := by simp; omega
          have hj2 : j - (cells.drop off).length < cm.1.length := by simp at hj; simp; omega
          rw [List.getElem_append_right (by omega)]
          have : (((r'.toList.drop off).take (n * i.size)).toArray ++ news.toArray ++ Builtin.zeroCells zv.cells (gc - (n + cm.2))).getD j undef = news.getD (j - (cells.drop off).length) undef := by
            simp only [Array.getD_eq_getD_getElem?]
            rw [Array.append_assoc, Array.getElem?_append_right (by simp; omega), Array.getElem?_append_left (by simp; omega)]
            simp only [List.size_toArray, List.length_take, List.length_drop, Array.length_toList]
            rw [Nat.min_eq_left (by omega), show j - n * i.size = j - (cells.length - off) from by omega]
            simp [List.getD]
          rw [this]
          exact (hrep _ hj2).mono (Ext.drew _ w.drew rfl))
      refine Goes.value (toRun _ _ (by rw [hp, hq]; exact hr)) K2 (hs.put ?_ hd)
      refine .ms (Nat.lt_succ_self _) rfl (fun c' hc' => ?_) (fun c' hc' _ => ⟨gc, _, e, (0, 0), by simp, hge, by simp only [if_true]; exact heap_alloc_new w.drew _, by rw [hrs]; omega⟩)
      simp only [hput, if_true, Option.some.injEq] at hc'
      subst hc'
      simp only [List.length_append, List.length_drop]
      omega
  · cases hl
end
end Go.Av

/-
  One operation of the compact code, whichever it is.
-/
namespace Go.Av
open Go.RowKit (Below)

section
variable {ν : Nat → FuncId} {N : Nat} {w0 : World} {S : Nat → Prop} {X0 : Cx} {s : St} {a : Act} {w : World} {β : Nat → Nat} {o : Oper} {K : St → Prop}

theorem pure_step {T : Tr} (hν : ∀ f id, T.num f = some id → ν id = f) (h : Sim ν N w0 S X0 s a w β) (hd : ∀ k, o.dst = some k → k < N) {q : PO × List Opd} (hq : T.pure o.op = some q) {g : Option (Nat × Bool)} {hf : Bool}
    (hs : stepK (OkM T.P ν) ⟨o.dst, g, .p q.1 q.2, hf⟩ s K) : Goes ν N w0 S X0 T.P o a w K := by
  simp only [stepK] at hs
  obtain ⟨u, hu, hK⟩ := hs
  refine g_pure h hd (pure_sound hν h.env h.objs (H := if hf = true then s.heap else hempty) ?_ hq hu) hK
  intro o c hc
  cases hf
  · simp [hempty] at hc
  · simpa using hc

theorem kind_sound {T : Tr} (hν : ∀ f id, T.num f = some id → ν id = f) (h : Sim ν N w0 S X0 s a w β) (hd : ∀ k, o.dst = some k → k < N) {k : AK} (hk : T.kind o = some k) {g : Option (Nat × Bool)} {hf : Bool}
    (hs : stepK (OkM T.P ν) ⟨o.dst, g, k, hf⟩ s K) : Goes ν N w0 S X0 T.P o a w K := by
  have R : ∀ {x : Operand} {x' : Opd}, T.opd x = some x' → Rep ν ⟨β, s.heap, s.next, w, S⟩ (ev s.env x') (a.eval x) := fun h' => opd_sound hν h.env h'
  have RL : ∀ {l : List Operand} {xs : List Opd}, T.opds l = some xs → (xs.map (ev s.env)).length = l.length ∧ ∀ i (h : i < (xs.map (ev s.env)).length) (h' : i < l.length), Rep ν ⟨β, s.heap, s.next, w, S⟩ (xs.map (ev s.env))[i] (a.eval l[i]) := by
    intro l xs hl
    obtain ⟨h1, h2⟩ := mapM_some hl
    refine ⟨by simpa using h1, fun i hi hi' => ?_⟩
    simp only [List.getElem_map]
    exact R (h2 i hi' (by simpa using hi))
  have pureCase : (T.pure o.op).map (fun p => AK.p p.1 p.2) = some k → Goes ν N w0 S X0 T.P o a w K := by
    intro hp
    obtain ⟨q, hq, rfl⟩ := map_some hp
    exact pure_step hν h hd hq hs
  unfold Tr.kind at hk
  split at hk
  · rename_i f args tys ho
    obtain ⟨f', hf', hk⟩ := bind_some hk
    obtain ⟨xs, hxs, hk⟩ := bind_some hk
    split at hk
    · cases hk
      simp only [stepK] at hs
      obtain ⟨fc, hfc, ⟨ys, hys, r, hr, hK⟩ | ⟨ys, hys, r, hr, hK⟩⟩ := hs
      · refine g_call hν h hd (H := if hf = true then s.heap else hempty) ?_ ho hf' hxs hfc hys hr hK
        intro o c hc
        cases hf
        · simp [hempty] at hc
        · simpa using hc
      · exact g_calli hν h hd ho hf' hxs hfc hys hr hK
    · cases hk
      simp only [stepK] at hs
      obtain ⟨_, fc, hfc, Φ, hC, _, hK⟩ := hs
      exact g_callm hν h hd ho hf' hxs hfc hC hK
    · cases hk
      simp only [stepK] at hs
      obtain ⟨_, fc, hfc, ys, hys, Φ, hC, _, hK⟩ := hs
      exact g_callo hν h hd ho hf' hxs hfc hys hC hK
    · cases hk
      simp only [stepK] at hs
      obtain ⟨_, fc, hfc, ys, hys, r, hC, hK⟩ := hs
      exact g_callz hν h hd ho hf' hxs hfc hys hC hK
    · cases hk
  · rename_i args tys ho
    split at hk
    · rename_i x y t t' hargs htys
      split at hk
      · rename_i htt
        subst htt
        obtain ⟨e, he, hk⟩ := bind_some hk
        split at hk
        · rename_i i z hi hz
          split at hk
          · rename_i hc
            obtain ⟨hc1, hc2, hc3⟩ := hc
            obtain ⟨x', hx', hk⟩ := bind_some hk
            obtain ⟨y', hy', hk⟩ := map_some hk
            have ha : args = #[x, y] := by rw [← Array.toList_inj]; exact hargs
            have ht : tys = #[t, t] := by rw [← Array.toList_inj]; exact htys
            subst ha; subst ht
            split at hk
            · subst hk
              simp only [stepK] at hs
              obtain ⟨_, l, hl, _, hK⟩ := hs
              exact g_apd rfl ho he hi hz hc1 hc2 hc3 (R hx') (R hy') h hd hl hK
            · subst hk
              simp only [stepK] at hs
              obtain ⟨_, cm, hcm, h1, r, hr, hK⟩ := hs
              exact g_app rfl ho he hi hz hc1 hc2 hc3 (R hx') (R hy') h hd hcm h1 hr hK
          · cases hk
        · cases hk
      · cases hk
    · cases hk
  · rename_i t x lo ho
    split at hk
    · obtain ⟨e, he, hk⟩ := bind_some hk
      obtain ⟨sz, hsz, hk⟩ := bind_some hk
      split at hk
      · obtain ⟨x', hx', hk⟩ := bind_some hk
        obtain ⟨l', hl', hk⟩ := map_some hk
        subst hk
        simp only [stepK] at hs
        obtain ⟨_, l, hl, _, hK⟩ := hs
        exact g_slm rfl ho he hsz (R hx') (R hl') h hd hl hK
      · cases hk
    · exact pureCase hk
  · rename_i t x y ho
    obtain ⟨n, hn, hk⟩ := bind_some hk
    obtain ⟨x', hx', hk⟩ := bind_some hk
    obtain ⟨y', hy', hk⟩ := map_some hk
    subst hk
    simp only [stepK] at hs
    obtain ⟨_, hp, hst, hK⟩ := hs
    exact g_st rfl ho hn (R hx') (R hy') h hd hst hK
  · rename_i t ho
    obtain ⟨z, hz, hk⟩ := map_some hk
    subst hk
    simp only [stepK] at hs
    exact g_new rfl ho hz h hd hs.2
  · rename_i t x ho
    split at hk
    · obtain ⟨n, hn, hk⟩ := bind_some hk
      obtain ⟨x', hx', hk⟩ := map_some hk
      subst hk
      simp only [stepK] at hs
      exact g_boxm ho (R hx') hs.2.1 h hd hs.2.2
    · exact pureCase hk
  · rename_i t l c ho
    obtain ⟨e, he, hk⟩ := bind_some hk
    split at hk
    · rename_i i z hi hz
      split at hk
      · rename_i hc
        obtain ⟨x', hx', hk⟩ := bind_some hk
        obtain ⟨y', hy', hk⟩ := map_some hk
        subst hk
        simp only [stepK] at hs
        obtain ⟨_, r, hr, hK⟩ := hs
        exact g_mks rfl ho he hi hz hc.1 hc.2 (R hx') (R hy') h hd hr hK
      · cases hk
    · cases hk
  · rename_i t len parts ho
    split at hk
    · obtain ⟨e, he, hk⟩ := bind_some hk
      obtain ⟨sz, hsz, hk⟩ := bind_some hk
      obtain ⟨z, hz, hk⟩ := bind_some hk
      split at hk
      · rename_i hc
        obtain ⟨xs, hx, hk⟩ := map_some hk
        subst hk
        simp only [stepK] at hs
        obtain ⟨_, r, hr, hK⟩ := hs
        obtain ⟨h1, h2⟩ := RL hx
        exact g_mslm rfl ho he hsz hz hc.1 hc.2.1 (by simpa using h1) (fun i hi hi' => by
          have := h2 i hi (by simpa using hi')
          simpa using this) h hd hr hK
      · cases hk
    · exact pureCase hk
  · rename_i t ho
    obtain ⟨ke, hke, hk⟩ := bind_some hk
    obtain ⟨kd, hkd, rfl⟩ := map_some hk
    simp only [stepK] at hs
    exact g_mkm ho h hd hs.2
  · rename_i t m x y ho
    obtain ⟨ke, hke, hk⟩ := bind_some hk
    obtain ⟨kd, hkd, hk⟩ := bind_some hk
    obtain ⟨m', hm', hk⟩ := bind_some hk
    obtain ⟨x', hx', hk⟩ := bind_some hk
    obtain ⟨y', hy', rfl⟩ := map_some hk
    simp only [stepK] at hs
    obtain ⟨_, hp, hst, hK⟩ := hs
    exact g_mset (k := ke.1) (e := ke.2) rfl ho hke hkd (R hm') (R hx') (R hy') h hd hst hK
  · exact pureCase hk
end
end Go.Av

/-
  Regions: operations in the text's order, and in whatever order their edges allow.
-/
namespace Go.Av
open Go.RowKit (Below)

section abs
variable {C : Ct} {o : Aop} {s : St} {K K' : St → Prop}

theorem OptK.mono {α : Type} {x : Option α} {K K' : α → Prop} (h : ∀ a, K a → K' a) (hh : OptK x K) : OptK x K' := by
  obtain ⟨u, hu, hk⟩ := hh
  exact ⟨u, hu, h u hk⟩

theorem stepK_mono (h : ∀ s, K s → K' s) (hh : stepK C o s K) : stepK C o s K' := by
  unfold stepK at *
  cases hk : o.k <;> simp only [hk] at hh ⊢
  case p op xs => exact hh.mono fun _ hu => h _ hu
  case call f xs => exact hh.mono fun _ hu => hu.imp (fun hu => hu.mono fun _ ⟨r, h1, h2⟩ => ⟨r, h1, h _ h2⟩) (fun hu => hu.mono fun _ ⟨r, h1, h2⟩ => ⟨r, h1, h _ h2⟩)
  case callm f xs => exact ⟨hh.1, hh.2.mono fun _ ⟨Φ, h1, h2, h3⟩ => ⟨Φ, h1, h2, fun r H' nx' hr => h _ (h3 r H' nx' hr)⟩⟩
  case callo f xs => exact ⟨hh.1, hh.2.mono fun _ hu => hu.mono fun _ ⟨Φ, h1, h2, h3⟩ => ⟨Φ, h1, h2, fun r H' nx' hr => ⟨(h3 r H' nx' hr).1, (h3 r H' nx' hr).2.1, h _ (h3 r H' nx' hr).2.2⟩⟩⟩
  case callz f xs => exact ⟨hh.1, hh.2.mono fun _ hu => hu.mono fun _ ⟨r, h1, h2⟩ => ⟨r, h1, h _ h2⟩⟩
  case alt op xs => exact ⟨hh.1, hh.2.mono fun _ hu => ⟨hu.1, fun q hq => h _ (hu.2 q hq)⟩⟩
  case app sz x y => exact ⟨hh.1, hh.2.mono fun _ hu => ⟨hu.1, hu.2.mono fun _ hv => h _ hv⟩⟩
  case st n a v => exact ⟨hh.1, hh.2.mono fun _ hu => h _ hu⟩
  case new z => exact ⟨hh.1, h _ hh.2⟩
  case boxm x => exact ⟨hh.1, hh.2.1, h _ hh.2.2⟩
  case mks z n c => exact ⟨hh.1, hh.2.mono fun _ hu => h _ hu⟩
  case mslm sz n z ps xs => exact ⟨hh.1, hh.2.mono fun _ hu => h _ hu⟩
  case mkm => exact ⟨hh.1, h _ hh.2⟩
  case mset kd m k v => exact ⟨hh.1, hh.2.mono fun _ hu => h _ hu⟩

theorem opK_mono (h : ∀ s, K s → K' s) (hh : opK C o s K) : opK C o s K' := by
  unfold opK at *
  cases hg : o.g with
  | none => simp only [hg] at hh ⊢; exact stepK_mono h hh
  | some gw =>
    obtain ⟨g, want⟩ := gw
    simp only [hg] at hh ⊢
    split at hh
    · rename_i b hb
      exact ⟨fun e => stepK_mono h (hh.1 e), fun e => h _ (hh.2 e)⟩
    · exact h _ hh
    · exact hh.elim

/-- What an operation that writes no object yields. -/
def Vv (C : Ct) (o : Aop) (s : St) (u : AV) : Prop :=
  let H := if o.h then s.heap else hempty
  match o.k with
  | .p op xs => pvf H op (xs.map (ev s.env)) = some u
  | .call f xs => OptK (fnOf (ev s.env f)) fun fc => (OptK (frzL H (xs.map (ev s.env) ++ fc.2)) fun ys => Fz C fc.1 ys u) ∨ OptK (frzL hempty (xs.map (ev s.env) ++ fc.2)) fun ys => Fi C fc.1 ys u
  | _ => False
def gst (e : Nat → AV) : Option (Nat × Bool) → Option Bool
  | none => some true
  | some (g, want) => (match e g with
    | .v (.bool b) => some (b == want)
    | .v _ => some false
    | _ => none)
theorem gst_congr {e e' : Nat → AV} {g : Option (Nat × Bool)} (h : ∀ t b, g = some (t, b) → e t = e' t) : gst e g = gst e' g := by
  cases g with
  | none => rfl
  | some gw => obtain ⟨t, b⟩ := gw; simp only [gst]; rw [h t b rfl]
theorem opK_gst : opK C o s K ↔ (match gst s.env o.g with | some true => stepK C o s K | some false => K (s.put o.dst (.v undef)) | none => False) := by
  unfold opK gst
  cases hg : o.g with
  | none => simp
  | some gw =>
    obtain ⟨g, want⟩ := gw
    simp only
    cases he : s.env g with
    | v x =>
      cases x with
      | bool b => cases b <;> cases want <;> simp
      | _ => simp
    | _ => simp
def Gv (C : Ct) (o : Aop) (s : St) (u : AV) : Prop :=
  (gst s.env o.g = some true ∧ Vv C o s u) ∨ (gst s.env o.g = some false ∧ u = .v undef)

/-- What one that writes leaves. -/
def Ve (C : Ct) (o : Aop) (s : St) (Ψ : AV → Hp → Nat → Prop) : Prop :=
  match o.k with
  | .callm f xs => o.h = true ∧ OptK (fnOf (ev s.env f)) fun fc => C fc.1 (xs.map (ev s.env) ++ fc.2) s.heap s.next Ψ ∧ ∃ r H' nx', Ψ r H' nx'
  | .callo f xs => o.h = true ∧ OptK (fnOf (ev s.env f)) fun fc => OptK (frzL s.heap (xs.map (ev s.env) ++ fc.2)) fun ys => ∃ Φ : AV → Hp → Nat → Prop, C fc.1 ys hempty s.next Φ ∧ (∃ r H' nx', Φ r H' nx') ∧
      (∀ r H' nx', Φ r H' nx' → cln s.next fuel r = true ∧ clnH s.next H') ∧ Ψ = fun r H nx' => ∃ H', Φ r H' nx' ∧ H = hmerge s.next s.heap H'
  | .callz f xs => o.h = true ∧ OptK (fnOf (ev s.env f)) fun fc => OptK (frzL s.heap (xs.map (ev s.env) ++ fc.2)) fun ys => ∃ r, Fi C fc.1 ys r ∧ Ψ = fun u h n => u = r ∧ h = hempty ∧ n = s.next
  | .alt op xs => o.h = true ∧ OptK (altTo s op (xs.map (ev s.env))) fun l => l ≠ [] ∧ Ψ = fun u h n => (u, h, n) ∈ l
  | .app sz x y => o.h = true ∧ OptK (appCells s.heap sz (ev s.env y)) fun cm => cm.1.all AV.one ∧ OptK (appTo s sz (ev s.env x) cm.1 cm.2) fun r => Ψ = fun u h n => u = r.1 ∧ h = r.2.1 ∧ n = r.2.2
  | .st n a v => o.h = true ∧ OptK (stTo s n (ev s.env a) (ev s.env v)) fun h => Ψ = fun u h' n => u = .v undef ∧ h' = h ∧ n = s.next
  | .new zero => o.h = true ∧ Ψ = fun u h n => u = .mp s.next 0 zero.length ∧ h = hput s.heap s.next (some zero) ∧ n = s.next + 1
  | .boxm x => o.h = true ∧ (ev s.env x).cells.all AV.one ∧ Ψ = fun u h n => u = .mp s.next 0 (ev s.env x).cells.length ∧ h = hput s.heap s.next (some (ev s.env x).cells) ∧ n = s.next + 1
  | .mks zero n c => o.h = true ∧ OptK (mkTo s zero (ev s.env n) (ev s.env c)) fun r => Ψ = fun u h n => u = r.1 ∧ h = r.2.1 ∧ n = r.2.2
  | .mslm sz n z ps xs => o.h = true ∧ OptK (mslTo s sz n z ps (xs.map (ev s.env))) fun r => Ψ = fun u h n => u = r.1 ∧ h = r.2.1 ∧ n = r.2.2
  | .mkm => o.h = true ∧ Ψ = fun u h n => u = .mm s.next ∧ h = hput s.heap s.next (some []) ∧ n = s.next + 1
  | .mset kd m k v => o.h = true ∧ OptK (msetTo s.heap kd (ev s.env m) (ev s.env k) (ev s.env v)) fun h => Ψ = fun u h' n => u = .v undef ∧ h' = h ∧ n = s.next
  | _ => False
def Ge (C : Ct) (o : Aop) (s : St) (Ψ : AV → Hp → Nat → Prop) : Prop :=
  (gst s.env o.g = some true ∧ Ve C o s Ψ) ∨ (gst s.env o.g = some false ∧ Ψ = fun u h n => u = .v undef ∧ h = s.heap ∧ n = s.next)

theorem stepK_v (he : Tr.eff o.k = false) : stepK C o s K ↔ ∃ u, Vv C o s u ∧ K (s.put o.dst u) := by
  unfold stepK Vv
  cases hk : o.k <;> simp [hk, Tr.eff] at he ⊢
  case p op xs => exact ⟨fun ⟨u, hu, h⟩ => ⟨u, hu, h⟩, fun ⟨u, hu, h⟩ => ⟨u, hu, h⟩⟩
  case call f xs =>
    constructor
    · rintro ⟨fc, h1, ⟨ys, h2, r, h3, h4⟩ | ⟨ys, h2, r, h3, h4⟩⟩
      · exact ⟨r, ⟨fc, h1, .inl ⟨ys, h2, h3⟩⟩, h4⟩
      · exact ⟨r, ⟨fc, h1, .inr ⟨ys, h2, h3⟩⟩, h4⟩
    · rintro ⟨r, ⟨fc, h1, ⟨ys, h2, h3⟩ | ⟨ys, h2, h3⟩⟩, h4⟩
      · exact ⟨fc, h1, .inl ⟨ys, h2, r, h3, h4⟩⟩
      · exact ⟨fc, h1, .inr ⟨ys, h2, r, h3, h4⟩⟩

theorem opK_v (he : Tr.eff o.k = false) : opK C o s K ↔ ∃ u, Gv C o s u ∧ K (s.put o.dst u) := by
  rw [opK_gst]
  unfold Gv
  cases hg : gst s.env o.g with
  | none => simp
  | some b =>
    cases b
    · simp
    · simp only [stepK_v he, true_and, Option.some.injEq, Bool.true_eq_false, false_and, or_false]

theorem stepK_e (he : Tr.eff o.k = true) : stepK C o s K ↔ ∃ Ψ : AV → Hp → Nat → Prop, Ve C o s Ψ ∧ (∃ u h n, Ψ u h n) ∧ ∀ u h n, Ψ u h n → K ((⟨s.env, h, n⟩ : St).put o.dst u) := by
  unfold stepK Ve
  cases hk : o.k <;> simp only [hk, Tr.eff, Bool.false_eq_true] at he ⊢
  case callm f xs =>
    constructor
    · rintro ⟨h0, fc, h1, Φ, h2, h3, h4⟩; exact ⟨Φ, ⟨h0, fc, h1, h2, h3⟩, h3, h4⟩
    · rintro ⟨Φ, ⟨h0, fc, h1, h2, h3⟩, _, h4⟩; exact ⟨h0, fc, h1, Φ, h2, h3, h4⟩
  case callo f xs =>
    constructor
    · rintro ⟨h0, fc, h1, ys, h2, Φ, h3, ⟨r, H', nx', h4⟩, h5⟩
      refine ⟨_, ⟨h0, fc, h1, ys, h2, Φ, h3, ⟨r, H', nx', h4⟩, fun r H' nx' h => ⟨(h5 r H' nx' h).1, (h5 r H' nx' h).2.1⟩, rfl⟩, ⟨r, _, nx', H', h4, rfl⟩, ?_⟩
      rintro u h n ⟨H', h6, rfl⟩
      exact (h5 _ _ _ h6).2.2
    · rintro ⟨Ψ, ⟨h0, fc, h1, ys, h2, Φ, h3, h4, h5, rfl⟩, _, h6⟩
      exact ⟨h0, fc, h1, ys, h2, Φ, h3, h4, fun r H' nx' h => ⟨(h5 r H' nx' h).1, (h5 r H' nx' h).2, h6 _ _ _ ⟨H', h, rfl⟩⟩⟩
  case callz f xs =>
    constructor
    · rintro ⟨h0, fc, h1, ys, h2, r, h3, h4⟩
      exact ⟨_, ⟨h0, fc, h1, ys, h2, r, h3, rfl⟩, ⟨_, _, _, rfl, rfl, rfl⟩, fun u h n ⟨e1, e2, e3⟩ => by subst e1; subst e2; subst e3; exact h4⟩
    · rintro ⟨Ψ, ⟨h0, fc, h1, ys, h2, r, h3, rfl⟩, _, h4⟩
      exact ⟨h0, fc, h1, ys, h2, r, h3, h4 _ _ _ ⟨rfl, rfl, rfl⟩⟩
  case alt op xs =>
    constructor
    · rintro ⟨h0, l, h1, h2, h3⟩
      refine ⟨_, ⟨h0, l, h1, h2, rfl⟩, ?_, fun u h n hu => h3 (u, h, n) hu⟩
      cases l with
      | nil => exact absurd rfl h2
      | cons q l => exact ⟨q.1, q.2.1, q.2.2, List.mem_cons_self ..⟩
    · rintro ⟨Ψ, ⟨h0, l, h1, h2, rfl⟩, _, h4⟩
      exact ⟨h0, l, h1, h2, fun q hq => h4 _ _ _ hq⟩
  case app sz x y =>
    constructor
    · rintro ⟨h0, cm, h1, h2, r, h3, h4⟩
      exact ⟨_, ⟨h0, cm, h1, h2, r, h3, rfl⟩, ⟨_, _, _, rfl, rfl, rfl⟩, fun u h n ⟨e1, e2, e3⟩ => by subst e1; subst e2; subst e3; exact h4⟩
    · rintro ⟨Ψ, ⟨h0, cm, h1, h2, r, h3, rfl⟩, _, h4⟩
      exact ⟨h0, cm, h1, h2, r, h3, h4 _ _ _ ⟨rfl, rfl, rfl⟩⟩
  case st n a v =>
    constructor
    · rintro ⟨h0, hp, h1, h2⟩
      exact ⟨_, ⟨h0, hp, h1, rfl⟩, ⟨_, _, _, rfl, rfl, rfl⟩, fun u h n ⟨e1, e2, e3⟩ => by subst e1; subst e2; subst e3; exact h2⟩
    · rintro ⟨Ψ, ⟨h0, hp, h1, rfl⟩, _, h4⟩
      exact ⟨h0, hp, h1, h4 _ _ _ ⟨rfl, rfl, rfl⟩⟩
  case new z =>
    constructor
    · rintro ⟨h0, h2⟩
      exact ⟨_, ⟨h0, rfl⟩, ⟨_, _, _, rfl, rfl, rfl⟩, fun u h n ⟨e1, e2, e3⟩ => by subst e1; subst e2; subst e3; exact h2⟩
    · rintro ⟨Ψ, ⟨h0, rfl⟩, _, h4⟩
      exact ⟨h0, h4 _ _ _ ⟨rfl, rfl, rfl⟩⟩
  case boxm x =>
    constructor
    · rintro ⟨h0, h1, h2⟩
      exact ⟨_, ⟨h0, h1, rfl⟩, ⟨_, _, _, rfl, rfl, rfl⟩, fun u h n ⟨e1, e2, e3⟩ => by subst e1; subst e2; subst e3; exact h2⟩
    · rintro ⟨Ψ, ⟨h0, h1, rfl⟩, _, h4⟩
      exact ⟨h0, h1, h4 _ _ _ ⟨rfl, rfl, rfl⟩⟩
  case mks z n c =>
    constructor
    · rintro ⟨h0, r, h1, h2⟩
      exact ⟨_, ⟨h0, r, h1, rfl⟩, ⟨_, _, _, rfl, rfl, rfl⟩, fun u h n ⟨e1, e2, e3⟩ => by subst e1; subst e2; subst e3; exact h2⟩
    · rintro ⟨Ψ, ⟨h0, r, h1, rfl⟩, _, h4⟩
      exact ⟨h0, r, h1, h4 _ _ _ ⟨rfl, rfl, rfl⟩⟩
  case mslm sz m z ps xs =>
    constructor
    · rintro ⟨h0, r, h1, h2⟩
      exact ⟨_, ⟨h0, r, h1, rfl⟩, ⟨_, _, _, rfl, rfl, rfl⟩, fun u h n ⟨e1, e2, e3⟩ => by subst e1; subst e2; subst e3; exact h2⟩
    · rintro ⟨Ψ, ⟨h0, r, h1, rfl⟩, _, h4⟩
      exact ⟨h0, r, h1, h4 _ _ _ ⟨rfl, rfl, rfl⟩⟩
  case mkm =>
    constructor
    · rintro ⟨h0, h2⟩
      exact ⟨_, ⟨h0, rfl⟩, ⟨_, _, _, rfl, rfl, rfl⟩, fun u h n ⟨e1, e2, e3⟩ => by subst e1; subst e2; subst e3; exact h2⟩
    · rintro ⟨Ψ, ⟨h0, rfl⟩, _, h4⟩
      exact ⟨h0, h4 _ _ _ ⟨rfl, rfl, rfl⟩⟩
  case mset kd m k v =>
    constructor
    · rintro ⟨h0, hp, h1, h2⟩
      exact ⟨_, ⟨h0, hp, h1, rfl⟩, ⟨_, _, _, rfl, rfl, rfl⟩, fun u h n ⟨e1, e2, e3⟩ => by subst e1; subst e2; subst e3; exact h2⟩
    · rintro ⟨Ψ, ⟨h0, hp, h1, rfl⟩, _, h4⟩
      exact ⟨h0, hp, h1, h4 _ _ _ ⟨rfl, rfl, rfl⟩⟩

theorem opK_e (he : Tr.eff o.k = true) : opK C o s K ↔ ∃ Ψ : AV → Hp → Nat → Prop, Ge C o s Ψ ∧ (∃ u h n, Ψ u h n) ∧ ∀ u h n, Ψ u h n → K ((⟨s.env, h, n⟩ : St).put o.dst u) := by
  have one : ∀ (Ψ : AV → Hp → Nat → Prop), (Ψ = fun u h n => u = .v undef ∧ h = s.heap ∧ n = s.next) → (K (s.put o.dst (.v undef)) ↔ (∃ u h n, Ψ u h n) ∧ ∀ u h n, Ψ u h n → K ((⟨s.env, h, n⟩ : St).put o.dst u)) := by
    rintro Ψ rfl
    constructor
    · intro h; exact ⟨⟨_, _, _, rfl, rfl, rfl⟩, fun u h' n ⟨e1, e2, e3⟩ => by subst e1; subst e2; subst e3; exact h⟩
    · intro h; exact h.2 _ _ _ ⟨rfl, rfl, rfl⟩
  rw [opK_gst]
  unfold Ge
  cases hg : gst s.env o.g with
  | none => simp
  | some b =>
    cases b
    · simp only [true_and, Option.some.injEq, Bool.false_eq_true, false_and, false_or]
      exact ⟨fun h => ⟨_, rfl, (one _ rfl).1 h⟩, fun ⟨_, e, h⟩ => (one _ e).2 h⟩
    · simp only [stepK_e he, true_and, Option.some.injEq, Bool.true_eq_false, false_and, or_false]

theorem ev_congr {e e' : Nat → AV} {x : Opd} (h : ∀ t ∈ Tr.tm x, e t = e' t) : ev e x = ev e' x := by
  cases x with
  | t n => exact h n (by simp [Tr.tm])
  | _ => rfl
theorem evs_congr {e e' : Nat → AV} {xs : List Opd} (h : ∀ t ∈ xs.flatMap Tr.tm, e t = e' t) : xs.map (ev e) = xs.map (ev e') :=
  List.map_congr_left fun x hx => ev_congr fun t ht => h t (List.mem_flatMap.2 ⟨x, hx, ht⟩)

theorem Vv_congr {s' : St} {u : AV} (he : ∀ t ∈ Tr.rdK o.k, s.env t = s'.env t) (hh : o.h = false ∨ s.heap = s'.heap) (h : Vv C o s u) : Vv C o s' u := by
  have hH : (if o.h = true then s.heap else hempty) = (if o.h = true then s'.heap else hempty) := by
    rcases hh with e | e <;> simp [e]
  unfold Vv at *
  cases hk : o.k <;> simp only [hk, Tr.rdK] at h he ⊢
  case p op xs => rw [← evs_congr he, ← hH]; exact h
  case call f xs =>
    rw [← evs_congr (fun t ht => he t (List.mem_append_right _ ht)), ← ev_congr (fun t ht => he t (List.mem_append_left _ ht)), ← hH]
    exact h

theorem gst_rd {s' : St} (he : ∀ t ∈ Tr.rd o, s.env t = s'.env t) : gst s.env o.g = gst s'.env o.g := gst_congr fun t b hg => he t (by simp [Tr.rd, hg])
theorem Gv_congr {s' : St} {u : AV} (he : ∀ t ∈ Tr.rd o, s.env t = s'.env t) (hh : o.h = false ∨ s.heap = s'.heap) (h : Gv C o s u) : Gv C o s' u := by
  unfold Gv at *
  have he1 : ∀ t ∈ Tr.rdK o.k, s.env t = s'.env t := fun t ht => he t (List.mem_append_left _ ht)
  rw [← gst_rd he]
  rcases h with ⟨e, h⟩ | h
  · exact .inl ⟨e, Vv_congr he1 hh h⟩
  · exact .inr h

theorem Ve_congr {s' : St} {Ψ : AV → Hp → Nat → Prop} (he : ∀ t ∈ Tr.rdK o.k, s.env t = s'.env t) (hh : s.heap = s'.heap) (hn : s.next = s'.next) (h : Ve C o s Ψ) : Ve C o s' Ψ := by
  unfold Ve at *
  cases hk : o.k <;> simp only [hk, Tr.rdK] at h he ⊢
  case callm f xs =>
    rw [← evs_congr (fun t ht => he t (List.mem_append_right _ ht)), ← ev_congr (fun t ht => he t (List.mem_append_left _ ht)), ← hh, ← hn]
    exact h
  case callo f xs =>
    rw [← evs_congr (fun t ht => he t (List.mem_append_right _ ht)), ← ev_congr (fun t ht => he t (List.mem_append_left _ ht)), ← hh, ← hn]
    exact h
  case callz f xs =>
    rw [← evs_congr (fun t ht => he t (List.mem_append_right _ ht)), ← ev_congr (fun t ht => he t (List.mem_append_left _ ht)), ← hh, ← hn]
    exact h
  case alt op xs =>
    have e : altTo s op (xs.map (ev s.env)) = altTo s' op (xs.map (ev s'.env)) := by
      rw [← evs_congr he]
      simp only [altTo, hh, hn]
    rw [← e]
    exact h
  case app sz x y =>
    rw [← ev_congr (x := x) (fun t ht => he t (List.mem_append_left _ ht)), ← ev_congr (x := y) (fun t ht => he t (List.mem_append_right _ ht)), ← hh]
    unfold appTo at *
    rw [← hh, ← hn]
    exact h
  case st n a v =>
    rw [← ev_congr (x := a) (fun t ht => he t (List.mem_append_left _ ht)), ← ev_congr (x := v) (fun t ht => he t (List.mem_append_right _ ht))]
    unfold stTo at *
    rw [← hh, ← hn]
    exact h
  case new z => rw [← hh, ← hn]; exact h
  case boxm x => rw [← ev_congr (x := x) he, ← hh, ← hn]; exact h
  case mks z n c =>
    rw [← ev_congr (x := n) (fun t ht => he t (List.mem_append_left _ ht)), ← ev_congr (x := c) (fun t ht => he t (List.mem_append_right _ ht))]
    unfold mkTo at *
    rw [← hh, ← hn]
    exact h
  case mslm sz n z ps xs =>
    rw [← evs_congr he]
    unfold mslTo at *
    rw [← hh, ← hn]
    exact h
  case mkm => rw [← hh, ← hn]; exact h
  case mset kd m k v =>
    rw [← ev_congr (x := m) (fun t ht => he t (List.mem_append_left _ ht)), ← ev_congr (x := k) (fun t ht => he t (List.mem_append_right _ (List.mem_append_left _ ht))), ← ev_congr (x := v) (fun t ht => he t (List.mem_append_right _ (List.mem_append_right _ ht))), ← hh, ← hn]
    exact h

theorem Ge_congr {s' : St} {Ψ : AV → Hp → Nat → Prop} (he : ∀ t ∈ Tr.rd o, s.env t = s'.env t) (hh : s.heap = s'.heap) (hn : s.next = s'.next) (h : Ge C o s Ψ) : Ge C o s' Ψ := by
  unfold Ge at *
  have he1 : ∀ t ∈ Tr.rdK o.k, s.env t = s'.env t := fun t ht => he t (List.mem_append_left _ ht)
  rw [← gst_rd he, ← hh, ← hn]
  rcases h with ⟨e, h⟩ | h
  · exact .inl ⟨e, Ve_congr he1 hh hn h⟩
  · exact .inr h

theorem Gv_unique {u u' : AV} (hc : Tr.isC o.k = false) (h : Gv C o s u) (h' : Gv C o s u') : u = u' := by
  have vv : Vv C o s u → Vv C o s u' → u = u' := by
    intro h h'
    unfold Vv at *
    cases hk : o.k <;> simp only [hk, Tr.isC, Bool.true_eq_false] at h h' hc
    case p op xs => rw [h] at h'; exact Option.some.inj h'
  unfold Gv at *
  rcases h with ⟨e, h⟩ | ⟨e, h⟩ <;> rcases h' with ⟨e', h'⟩ | ⟨e', h'⟩
  · exact vv h h'
  · rw [e] at e'; cases e'
  · rw [e] at e'; cases e'
  · rw [h, h']

theorem Ge_single {Ψ : AV → Hp → Nat → Prop} (hc : Tr.isC o.k = false) (h : Ge C o s Ψ) : ∃ u0 h0 n0, Ψ = fun u h n => u = u0 ∧ h = h0 ∧ n = n0 := by
  have vv : Ve C o s Ψ → ∃ u0 h0 n0, Ψ = fun u h n => u = u0 ∧ h = h0 ∧ n = n0 := by
    intro h
    unfold Ve at h
    cases hk : o.k <;> simp only [hk, Tr.isC, Bool.true_eq_false] at h hc
    case app sz x y => obtain ⟨_, _, _, _, _, _, h⟩ := h; exact ⟨_, _, _, h⟩
    case st n a v => obtain ⟨_, _, _, h⟩ := h; exact ⟨_, _, _, h⟩
    case new z => exact ⟨_, _, _, h.2⟩
    case boxm x => exact ⟨_, _, _, h.2.2⟩
    case mks z n c => obtain ⟨_, _, _, h⟩ := h; exact ⟨_, _, _, h⟩
    case mslm sz n z ps xs => obtain ⟨_, _, _, h⟩ := h; exact ⟨_, _, _, h⟩
    case mkm => exact ⟨_, _, _, h.2⟩
    case mset kd m k v => obtain ⟨_, _, _, h⟩ := h; exact ⟨_, _, _, h⟩
  rcases h with ⟨e, h⟩ | ⟨e, h⟩
  · exact vv h
  · exact ⟨_, _, _, h⟩

theorem put_env {s : St} {d : Option Nat} {u : AV} {t : Nat} (h : d ≠ some t) : (s.put d u).env t = s.env t := by
  cases d with
  | none => rfl
  | some k =>
    have : t ≠ k := fun e => h (by rw [e])
    simp [St.put, put, this]
theorem put_heap {s : St} {d : Option Nat} {u : AV} : (s.put d u).heap = s.heap := by cases d <;> rfl
theorem put_next {s : St} {d : Option Nat} {u : AV} : (s.put d u).next = s.next := by cases d <;> rfl
theorem put_comm {s : St} {d d' : Option Nat} {u u' : AV} (h : ∀ t, d = some t → d' ≠ some t) : (s.put d u).put d' u' = (s.put d' u').put d u := by
  cases d with
  | none => rfl
  | some k =>
    cases d' with
    | none => rfl
    | some k' =>
      have hne : k ≠ k' := fun e => h k rfl (by rw [e])
      simp only [St.put, St.mk.injEq, and_true]
      funext t
      simp only [put]
      by_cases e1 : t = k' <;> by_cases e2 : t = k <;> simp [e1, e2]
      · subst e1; exact absurd e2.symm hne
      · subst e1; intro e; exact absurd e.symm hne
      · subst e2; intro e; exact absurd e hne
theorem put_mk {s : St} {d : Option Nat} {u : AV} {h : Hp} {n : Nat} : ({ env := (s.put d u).env, heap := h, next := n } : St) = (⟨s.env, h, n⟩ : St).put d u := by cases d <;> rfl

theorem apart_spec {x y : Aop} (h : Tr.apartB x y = true) : (∀ t, x.dst = some t → t ∉ Tr.rd y) ∧ (∀ t, x.dst = some t → y.dst ≠ some t) ∧ (∀ t, y.dst = some t → t ∉ Tr.rd x) := by
  refine ⟨fun d hd => ?_, fun d hd => ?_, fun d hd => ?_⟩ <;> simp [Tr.apartB, hd] at h
  · exact h.1.1
  · exact h.1.2
  · exact h.2

theorem frz_sub {H H' : Hp} (hs : Sub H H') : ∀ (k : Nat) (a b : AV), frz H k a = some b → frz H' k a = some b := by
  intro k
  induction k with
  | zero => intro a b h; cases a <;> simp [frz] at h ⊢ <;> exact h
  | succ k ih =>
    have mm : ∀ (l l' : List AV), l.mapM (frz H k) = some l' → l.mapM (frz H' k) = some l' := by
      intro l
      induction l with
      | nil => intro l' h; exact h
      | cons x l ihl =>
        intro l' h
        simp only [List.mapM_cons, Option.pure_def, Option.bind_eq_bind] at h ⊢
        obtain ⟨y, hy, h⟩ := bind_some h
        obtain ⟨ys, hys, h⟩ := bind_some h
        rw [ih x y hy, Option.bind_some, ihl ys hys]
        exact h
    intro a b h
    cases a with
    | ms o off n sz =>
      simp only [frz] at h ⊢
      cases hc : H o with
      | none => simp [hc] at h
      | some c =>
        rw [hs o c hc]
        simp only [hc] at h ⊢
        split at h
        · rename_i e
          rw [if_pos e]
          obtain ⟨z, hz, e2⟩ := map_some h
          rw [mm _ _ hz]; exact congrArg some e2
        · cases h
    | mp o off l =>
      simp only [frz] at h ⊢
      cases hc : H o with
      | none => simp [hc] at h
      | some c =>
        rw [hs o c hc]
        simp only [hc] at h ⊢
        split at h
        · rename_i e
          rw [if_pos e]
          obtain ⟨z, hz, e2⟩ := map_some h
          rw [mm _ _ hz]; exact congrArg some e2
        · cases h
    | mm o => simp [frz] at h
    | agg c =>
      simp only [frz] at h ⊢
      obtain ⟨z, hz, e2⟩ := map_some h
      rw [mm _ _ hz]; exact congrArg some e2
    | tup c =>
      simp only [frz] at h ⊢
      obtain ⟨z, hz, e2⟩ := map_some h
      rw [mm _ _ hz]; exact congrArg some e2
    | fn i c =>
      simp only [frz] at h ⊢
      obtain ⟨z, hz, e2⟩ := map_some h
      rw [mm _ _ hz]; exact congrArg some e2
    | v x => simpa [frz] using h
    | nil => simpa [frz] using h
    | sl c n => simpa [frz] using h
    | ptr c n => simpa [frz] using h
theorem frzL_sub {H H' : Hp} (hs : Sub H H') : ∀ {l l' : List AV}, frzL H l = some l' → frzL H' l = some l' := by
  intro l
  induction l with
  | nil => intro l' h; exact h
  | cons x l ih =>
    intro l' h
    simp only [frzL, List.mapM_cons, Option.pure_def, Option.bind_eq_bind] at h ⊢
    obtain ⟨y, hy, h⟩ := bind_some h
    obtain ⟨ys, hys, h⟩ := bind_some h
    have := ih hys
    simp only [frzL] at this
    rw [frz_sub hs _ x y hy, Option.bind_some, this]
    exact h
theorem pvf_sub {H H' : Hp} (hs : Sub H H') {op : PO} {xs : List AV} {u : AV} (h : pvf H op xs = some u) : pvf H' op xs = some u := by
  cases op <;> simp only [pvf] at h ⊢ <;> try exact h
  case len =>
    unfold pLen at h ⊢
    split at h
    · exact h
    · exact h
    · rename_i o off n sz
      cases hc : H o with
      | none => simp [hc] at h
      | some c => rw [hs o c hc]; simp only [hc] at h; exact h
    · cases h
  case fad =>
    unfold pFad at h ⊢
    split at h
    · exact h
    · rename_i o p l
      cases hc : H o with
      | none => simp [hc] at h
      | some c => rw [hs o c hc]; simp only [hc] at h; exact h
    · cases h
  case iad =>
    unfold pIad at h ⊢
    split at h
    · exact h
    · rename_i o off n sz' k i
      split at h
      · rename_i e
        rw [if_pos e]
        cases hc : H o with
        | none => simp [hc] at h
        | some c => rw [hs o c hc]; simp only [hc] at h; exact h
      · cases h
    · cases h
  case ld =>
    unfold pLd at h ⊢
    split at h
    · exact h
    · rename_i o p l
      cases hc : H o with
      | none => simp [hc] at h
      | some c => rw [hs o c hc]; simp only [hc] at h; exact h
    · cases h
  case nck =>
    unfold pNck at h ⊢
    split at h
    · exact h
    · rename_i o p l
      cases hc : H o with
      | none => simp [hc] at h
      | some c => rw [hs o c hc]; simp only [hc] at h; exact h
    · exact h
    · cases h
  case mget =>
    unfold pGet at h ⊢
    split at h
    · rename_i o k
      cases hc : H o with
      | none => simp [hc] at h
      | some c => rw [hs o c hc]; simp only [hc] at h; exact h
    · cases h
  case mlen =>
    unfold pMlen at h ⊢
    split at h
    · rename_i o
      cases hc : H o with
      | none => simp [hc] at h
      | some c => rw [hs o c hc]; simp only [hc] at h; exact h
    · cases h
theorem Vv_sub {s' : St} {u : AV} (he : ∀ t ∈ Tr.rdK o.k, s.env t = s'.env t) (hh : Sub s.heap s'.heap) (h : Vv C o s u) : Vv C o s' u := by
  have hH : Sub (if o.h = true then s.heap else hempty) (if o.h = true then s'.heap else hempty) := by
    cases o.h
    · exact fun _ _ h => h
    · exact hh
  unfold Vv at *
  cases hk : o.k <;> simp only [hk, Tr.rdK] at h he ⊢
  case p op xs => rw [← evs_congr he]; exact pvf_sub hH h
  case call f xs =>
    rw [← evs_congr (fun t ht => he t (List.mem_append_right _ ht)), ← ev_congr (fun t ht => he t (List.mem_append_left _ ht))]
    obtain ⟨fc, h1, ⟨ys, h2, h3⟩ | ⟨ys, h2, h3⟩⟩ := h
    · exact ⟨fc, h1, .inl ⟨ys, frzL_sub hH h2, h3⟩⟩
    · exact ⟨fc, h1, .inr ⟨ys, h2, h3⟩⟩
theorem Gv_sub {s' : St} {u : AV} (he : ∀ t ∈ Tr.rd o, s.env t = s'.env t) (hh : Sub s.heap s'.heap) (h : Gv C o s u) : Gv C o s' u := by
  unfold Gv at *
  have he1 : ∀ t ∈ Tr.rdK o.k, s.env t = s'.env t := fun t ht => he t (List.mem_append_left _ ht)
  rw [← gst_rd he]
  rcases h with ⟨e, h⟩ | h
  · exact .inl ⟨e, Vv_sub he1 hh h⟩
  · exact .inr h
theorem Ge_alloc {Ψ : AV → Hp → Nat → Prop} (ha : Tr.isA o.k = true) (hf : s.heap s.next = none) (h : Ge C o s Ψ) {u : AV} {hp : Hp} {n : Nat} (hu : Ψ u hp n) : Sub s.heap hp := by
  have new : ∀ c, Sub s.heap (hput s.heap s.next c) := fun c k d hk => by
    have : k ≠ s.next := fun e => by rw [e, hf] at hk; cases hk
    simp only [hput]; rw [if_neg this]; exact hk
  rcases h with ⟨_, h⟩ | ⟨_, h⟩
  · unfold Ve at h
    cases hk : o.k <;> simp only [hk, Tr.isA, Bool.false_eq_true] at h ha
    case new z => rw [h.2] at hu; rw [hu.2.1]; exact new _
    case boxm x => rw [h.2.2] at hu; rw [hu.2.1]; exact new _
    case mkm => rw [h.2] at hu; rw [hu.2.1]; exact new _
    case mks z n c =>
      obtain ⟨_, r, h1, h2⟩ := h
      rw [h2] at hu
      rw [hu.2.1]
      unfold mkTo at h1
      split at h1
      · split at h1
        · cases h1; exact new _
        · cases h1
      · cases h1
    case mslm sz n z ps xs =>
      obtain ⟨_, r, h1, h2⟩ := h
      rw [h2] at hu
      rw [hu.2.1]
      unfold mslTo at h1
      split at h1
      · split at h1
        · cases h1; exact new _
        · cases h1
      · cases h1
  · rw [h] at hu; rw [hu.2.1]; exact fun _ _ h => h

theorem opK_swap {x y : Aop} (hf : Tr.isA y.k = true → s.heap s.next = none) (hm : Tr.mayB x y = true) (h : opK C x s fun s' => opK C y s' K) : opK C y s fun s' => opK C x s' K := by
  simp only [Tr.mayB, Bool.and_eq_true] at hm
  obtain ⟨ha, hc⟩ := hm
  obtain ⟨h1, h2, h3⟩ := apart_spec ha
  have ry : ∀ (s : St) (u : AV), ∀ t ∈ Tr.rd y, (s.put x.dst u).env t = s.env t := fun s u t ht => put_env (fun e => h1 t e ht)
  have rx : ∀ (s : St) (u : AV), ∀ t ∈ Tr.rd x, (s.put y.dst u).env t = s.env t := fun s u t ht => put_env (fun e => h3 t e ht)
  simp only [Tr.calmB, Bool.and_eq_true, Bool.not_eq_true', Bool.and_eq_false_iff] at hc
  cases hex : Tr.eff x.k
  · obtain ⟨u, hu, h⟩ := (opK_v hex).1 h
    cases hey : Tr.eff y.k
    · obtain ⟨v, hv, h⟩ := (opK_v hey).1 h
      refine (opK_v hey).2 ⟨v, Gv_congr (ry s u) (.inr put_heap) hv, (opK_v hex).2 ⟨u, Gv_congr (fun t ht => (rx s v t ht).symm) (.inr put_heap.symm) hu, ?_⟩⟩
      rw [← put_comm h2]
      exact h
    · obtain ⟨Ψ, hΨ, hne, h⟩ := (opK_e hey).1 h
      have hΨ' := Ge_congr (s' := s) (ry s u) put_heap put_next hΨ
      have hxh : ∀ v hp n, Ψ v hp n → Gv C x ((⟨s.env, hp, n⟩ : St).put y.dst v) u := fun v hp n hv => by
        rcases hc.1.2 with (e | e) | e
        · rw [hey] at e; cases e
        · exact Gv_congr (s := s) (fun t ht => (rx ⟨s.env, hp, n⟩ v t ht).symm) (.inl e) hu
        · have e' : Tr.isA y.k = true := by simpa using e
          exact Gv_sub (s := s) (fun t ht => (rx ⟨s.env, hp, n⟩ v t ht).symm) (by rw [put_heap]; exact Ge_alloc e' (hf e') hΨ' hv) hu
      refine (opK_e hey).2 ⟨Ψ, hΨ', hne, fun v hp n hv => (opK_v hex).2 ⟨u, hxh v hp n hv, ?_⟩⟩
      have := h v hp n hv
      rw [put_mk, put_comm h2] at this
      exact this
  · obtain ⟨Ψ, hΨ, hne, h⟩ := (opK_e hex).1 h
    have hey : Tr.eff y.k = false := by
      rcases hc.1.1.1 with e | e
      · rw [hex] at e; cases e
      · exact e
    have hyh : y.h = false := by
      rcases hc.1.1.2 with e | e
      · rw [hex] at e; cases e
      · exact e
    have back : ∀ u hp n v, Ψ u hp n → Gv C y ((⟨s.env, hp, n⟩ : St).put x.dst u) v → Gv C y s v := fun u hp n v _ hv => Gv_congr (s := (⟨s.env, hp, n⟩ : St).put x.dst u) (fun t ht => ry ⟨s.env, hp, n⟩ u t ht) (.inl hyh) hv
    have fin : ∀ v, Gv C y s v → (∀ u hp n, Ψ u hp n → K (((⟨s.env, hp, n⟩ : St).put x.dst u).put y.dst v)) → opK C y s fun s' => opK C x s' K := by
      intro v hv hK
      refine (opK_v hey).2 ⟨v, hv, (opK_e hex).2 ⟨Ψ, Ge_congr (fun t ht => (rx s v t ht).symm) put_heap.symm put_next.symm hΨ, hne, fun u hp n hu => ?_⟩⟩
      rw [put_mk, ← put_comm h2]
      exact hK u hp n hu
    obtain ⟨u0, hp0, n0, h0⟩ := hne
    obtain ⟨v0, hv0, _⟩ := (opK_v hey).1 (h u0 hp0 n0 h0)
    by_cases hcx : Tr.isC x.k = true
    · have hcy : Tr.isC y.k = false := by
        rcases hc.2 with e | e
        · rcases e with e | e
          · rw [hcx] at e; cases e
          · exact e
        · simp [hex] at e
      refine fin v0 (back _ _ _ _ h0 hv0) fun u hp n hu => ?_
      obtain ⟨v, hv, hK⟩ := (opK_v hey).1 (h u hp n hu)
      rw [Gv_unique hcy (back _ _ _ _ h0 hv0) (back _ _ _ _ hu hv)]
      exact hK
    · have hcx' : Tr.isC x.k = false := by simpa using hcx
      obtain ⟨u1, hp1, n1, e⟩ := Ge_single hcx' hΨ
      obtain ⟨v, hv, hK⟩ := (opK_v hey).1 (h u0 hp0 n0 h0)
      refine fin v (back _ _ _ _ h0 hv) fun u hp n hu => ?_
      rw [e] at hu h0
      obtain ⟨a1, a2, a3⟩ := hu
      obtain ⟨b1, b2, b3⟩ := h0
      rw [a1, a2, a3, ← b1, ← b2, ← b3]
      exact hK

theorem opsK_mono {l : List Aop} : ∀ {s : St}, (∀ s, K s → K' s) → opsK C l s K → opsK C l s K' := by
  induction l with
  | nil => intro s h hh; exact h _ hh
  | cons o r ih => intro s h hh; exact opK_mono (fun s' hs => ih h hs) hh

theorem opsK_front {y : Aop} {zs : List Aop} : ∀ {xs : List Aop} {s : St}, (Tr.isA y.k = true → s.heap s.next = none) → (∀ x ∈ xs, Tr.mayB x y = true) → opsK C (xs ++ y :: zs) s K → opsK C (y :: (xs ++ zs)) s K := by
  intro xs
  induction xs with
  | nil => intro s _ _ h; exact h
  | cons x xs ih =>
    intro s hf hm h
    have hx := hm x (List.mem_cons_self ..)
    refine opK_swap hf hx ?_
    by_cases ha : Tr.isA y.k = true
    · have hex : Tr.eff x.k = false := by
        simp only [Tr.mayB, Bool.and_eq_true, Tr.calmB, Bool.not_eq_true', Bool.and_eq_false_iff] at hx
        have hey : Tr.eff y.k = true := by
          cases hk : y.k <;> simp only [hk, Tr.isA, Bool.false_eq_true] at ha <;> rfl
        rcases hx.2.1.1.1 with e | e
        · exact e
        · rw [hey] at e; cases e
      obtain ⟨u, hu, h⟩ := (opK_v hex).1 h
      exact (opK_v hex).2 ⟨u, hu, ih (fun e => by rw [put_heap, put_next]; exact hf e) (fun x hx => hm x (List.mem_cons_of_mem _ hx)) h⟩
    · exact opK_mono (fun s' hs => ih (fun e => absurd e ha) (fun x hx => hm x (List.mem_cons_of_mem _ hx)) hs) h
end abs
end Go.Av

/-
  Regions, code and functions of the model against the compact code.
-/
namespace Go.Av
open Go.RowKit (Below)

section
variable {ν : Nat → FuncId} {w0 : World} {S : Nat → Prop} {X0 : Cx} {T : Tr} {Q : Exit → Act → World → Prop}

theorem oper_sound (hν : ∀ f id, T.num f = some id → ν id = f) {ops : Array Oper} {hf : Bool} {o : Oper} {ao : Aop} (hop : T.oper ops hf o = some ao) {s : St} {a : Act} {w : World} {β : Nat → Nat} (h : Sim ν T.nt w0 S X0 s a w β) {K : St → Prop} (hs : opK (OkM T.P ν) ao s K)
    {Kw : Act → World → Prop} (hKw : ∀ s' a' w' β', K s' → Sim ν T.nt w0 S X0 s' a' w' β' → Kw a' w') :
    if Region.wanted o (yielded ops a.tmps) then (o.wp T.P a w Kw Q ∨ (o.asks T.P a w ∧ LetsOut Q)) else Kw (a.put o.dst undef) w := by
  unfold Tr.oper at hop
  split at hop
  · rename_i k g hk hg
    by_cases hdst : Tr.dstB T.nt o.dst = true
    · rw [if_pos hdst] at hop
      cases hop
      have hd : ∀ k, o.dst = some k → k < T.nt := fun k hk => by rw [hk] at hdst; simpa [Tr.dstB] using hdst
      have yes : stepK (OkM T.P ν) ⟨o.dst, g, k, hf⟩ s K → o.wp T.P a w Kw Q := fun hst => by
        have hgo := kind_sound hν h hd hk hst Q
        exact Oper.wp_mono (fun a' w' ⟨s', β', hK, hS⟩ => hKw s' a' w' β' hK hS) hgo
      have no : K (s.put o.dst (.v undef)) → Kw (a.put o.dst undef) w := fun hK => hKw _ _ _ β hK (h.put (.pure (.v _)) hd)
      rw [opK_gst] at hs
      unfold Tr.guard at hg
      cases hgu : o.guard with
      | none =>
        rw [hgu] at hg
        cases hg
        simp only [gst] at hs
        simp only [Region.wanted, hgu, if_true]
        exact .inl (yes hs)
      | some gw =>
        obtain ⟨j, want⟩ := gw
        simp only [hgu] at hg
        cases hj : (ops[j]?).bind (·.dst) with
        | none => simp [hj] at hg
        | some d =>
          simp only [hj] at hg
          split at hg
          · rename_i hdn
            cases hg
            have hsz : d < a.tmps.size := by rw [h.size]; exact hdn
            have henv := h.env d
            have hyd : yielded ops a.tmps j = match a.tmps.getD d undef with | .bool b => some b | _ => none := by
              have e1 : a.tmps[d]? = some (a.tmps.getD d undef) := by simp [hsz]
              simp only [yielded, hj, Option.bind_some, e1]
              cases a.tmps.getD d undef <;> rfl
            simp only [gst] at hs
            simp only [Region.wanted, hgu, hyd]
            split at hs
            · rename_i hgt
              split at hgt
              · rename_i b hb
                rw [hb] at henv
                rw [henv.inv_v]
                have : b = want := by simpa using hgt
                subst this
                simp only [BEq.rfl, if_true]
                exact .inl (yes hs)
              · cases hgt
              · cases hgt
            · rename_i hgt
              split at hgt
              · rename_i b hb
                rw [hb] at henv
                rw [henv.inv_v]
                have hne : (some b == some want) = false := by simpa using hgt
                rw [hne]
                simp only [Bool.false_eq_true, if_false]
                exact no hs
              · rename_i x hnb hb
                rw [hb] at henv
                rw [henv.inv_v]
                cases x with
                | bool b => exact absurd rfl (hnb b)
                | _ => simp only [show ((none : Option Bool) == some want) = false from rfl, Bool.false_eq_true, if_false]; exact no hs
              · cases hgt
            · exact hs.elim
          · cases hg
    · rw [if_neg hdst] at hop; cases hop
  · cases hop

/-- A region in the text's order. -/
theorem list_sound (hν : ∀ f id, T.num f = some id → ν id = f) {ops : Array Oper} {K : St → Prop} (hQ : ∀ s' a' w' β', K s' → Sim ν T.nt w0 S X0 s' a' w' β' → Q .normal a' w') :
    ∀ (L : List Oper) (l : List Aop), L.mapM (T.oper ops true) = some l → ∀ (s : St) (a : Act) (w : World) (β : Nat → Nat), Sim ν T.nt w0 S X0 s a w β → opsK (OkM T.P ν) l s K → wpList T.P ops Q L a w := by
  intro L
  induction L with
  | nil => intro l hl s a w β h hs; simp at hl; subst hl; exact hQ _ _ _ _ hs h
  | cons o L ih =>
    intro l hl s a w β h hs
    simp only [List.mapM_cons, Option.pure_def, Option.bind_eq_bind] at hl
    obtain ⟨ao, hao, hl⟩ := bind_some hl
    obtain ⟨l', hl', hl⟩ := bind_some hl
    cases hl
    unfold wpList
    exact oper_sound (Kw := wpList T.P ops Q L) hν hao h hs (fun s' a' w' β' hK hS => ih l' hl' s' a' w' β' hS hK)

def rem (listed : Array Bool) : Nat → List Aop → List Aop
  | _, [] => []
  | i, x :: r => if listed.getD i true then rem listed (i + 1) r else x :: rem listed (i + 1) r

theorem rem_congr {L L' : Array Bool} : ∀ (l : List Aop) (k : Nat), (∀ j, k ≤ j → L.getD j true = L'.getD j true) → rem L k l = rem L' k l := by
  intro l
  induction l with
  | nil => intro k _; rfl
  | cons x r ih => intro k h; simp only [rem]; rw [h k (Nat.le_refl _), ih (k + 1) fun j hj => h j (by omega)]

theorem rem_split {L : Array Bool} {i : Nat} (hi : i < L.size) (hu : L.getD i true = false) : ∀ (l : List Aop) (k : Nat) (y : Aop), k ≤ i → l[i - k]? = some y →
    ∃ xs zs, rem L k l = xs ++ y :: zs ∧ rem (L.setIfInBounds i true) k l = xs ++ zs ∧ ∀ x ∈ xs, ∃ j, k ≤ j ∧ j < i ∧ L.getD j true = false ∧ l[j - k]? = some x := by
  intro l
  induction l with
  | nil => intro k y _ h; simp at h
  | cons x r ih =>
    intro k y hk hy
    by_cases e : k = i
    · subst e
      simp only [Nat.sub_self, List.getElem?_cons_zero, Option.some.injEq] at hy
      subst hy
      refine ⟨[], rem L (k + 1) r, by simp only [rem, hu, Bool.false_eq_true, if_false, List.nil_append], ?_, by simp⟩
      simp only [rem, List.nil_append]
      rw [if_pos (by simp [hi])]
      exact rem_congr r (k + 1) fun j hj => by rw [getD_set_ne true (by omega)]
    · have hlt : k < i := by omega
      have hy' : r[i - (k + 1)]? = some y := by
        have : i - k = (i - (k + 1)) + 1 := by omega
        rw [this] at hy
        simpa using hy
      obtain ⟨xs, zs, h1, h2, h3⟩ := ih (k + 1) y (by omega) hy'
      have up : ∀ x' ∈ xs, ∃ j, k ≤ j ∧ j < i ∧ L.getD j true = false ∧ (x :: r)[j - k]? = some x' := by
        intro x' hx'
        obtain ⟨j, a1, a2, a3, a4⟩ := h3 x' hx'
        refine ⟨j, by omega, a2, a3, ?_⟩
        have : j - k = (j - (k + 1)) + 1 := by omega
        rw [this]
        simpa using a4
      simp only [rem]
      rw [getD_set_ne true (Ne.symm e)]
      cases hl : L.getD k true
      · refine ⟨x :: xs, zs, by simp [h1], by simp [h2], ?_⟩
        intro x' hx'
        rcases List.mem_cons.1 hx' with rfl | hx'
        · exact ⟨k, Nat.le_refl _, hlt, hl, by simp⟩
        · exact up x' hx'
      · exact ⟨xs, zs, by simp [h1], by simp [h2], up⟩

theorem rem_nil {L : Array Bool} : ∀ (l : List Aop) (k : Nat), (∀ j, k ≤ j → j < k + l.length → L.getD j true = true) → rem L k l = [] := by
  intro l
  induction l with
  | nil => intro k _; rfl
  | cons x r ih =>
    intro k h
    simp only [rem]
    rw [if_pos (h k (Nat.le_refl _) (by simp))]
    exact ih (k + 1) fun j h1 h2 => h j (by omega) (by simp; omega)

theorem fold_bits (acc : List Nat) (i : Nat) : ∀ (l : List Edge) (m : Nat), (l.foldl (fun s e => if Region.binds .any e then s ||| (1 <<< e.on) ||| acc.getD e.on 0 else s) m).testBit i = true →
    m.testBit i = true ∨ ∃ e ∈ l, Region.binds .any e = true ∧ (e.on = i ∨ (acc.getD e.on 0).testBit i = true) := by
  intro l
  induction l with
  | nil => intro m h; exact .inl h
  | cons e l ih =>
    intro m h
    rcases ih _ h with h | ⟨e', h1, h2⟩
    · simp only at h
      by_cases hb : Region.binds .any e = true
      · rw [if_pos hb] at h
        simp only [Nat.testBit_or, Bool.or_eq_true] at h
        rcases h with (h | h) | h
        · exact .inl h
        · refine .inr ⟨e, List.mem_cons_self .., hb, .inl ?_⟩
          rw [Nat.one_shiftLeft, Nat.testBit_two_pow] at h
          simpa using h
        · exact .inr ⟨e, List.mem_cons_self .., hb, .inr h⟩
      · rw [if_neg hb] at h; exact .inl h
    · exact .inr ⟨e', List.mem_cons_of_mem _ h1, h2⟩

theorem clo_keep : ∀ (L : List Oper) (acc : List Nat) (j : Nat), j < acc.length → (Tr.clo L acc).getD j 0 = acc.getD j 0 := by
  intro L
  induction L with
  | nil => intro acc j _; rfl
  | cons o L ih =>
    intro acc j hj
    simp only [Tr.clo]
    rw [ih _ j (by simp; omega)]
    simp [List.getElem?_append_left hj]

theorem clo_spec : ∀ (L : List Oper) (acc : List Nat) (j i : Nat), acc.length ≤ j → ((Tr.clo L acc).getD j 0).testBit i = true →
    ∃ o e, L[j - acc.length]? = some o ∧ e ∈ o.after.toList ∧ Region.binds .any e = true ∧ (e.on = i ∨ (e.on < j ∧ ((Tr.clo L acc).getD e.on 0).testBit i = true)) := by
  intro L
  induction L with
  | nil => intro acc j i hj h; simp [Tr.clo, List.getElem?_eq_none hj] at h
  | cons o L ih =>
    intro acc j i hj h
    simp only [Tr.clo] at h ⊢
    by_cases e : j = acc.length
    · subst e
      rw [clo_keep _ _ _ (by simp)] at h
      simp only [List.getD_eq_getElem?_getD, List.getElem?_concat_length, Option.getD_some] at h
      simp only [← List.getD_eq_getElem?_getD] at h
      rcases fold_bits acc i _ _ h with h | ⟨e, h1, h2, h3⟩
      · simp at h
      · refine ⟨o, e, by simp, h1, h2, ?_⟩
        rcases h3 with h3 | h3
        · exact .inl h3
        · by_cases hlt : e.on < acc.length
          · refine .inr ⟨hlt, ?_⟩
            rw [clo_keep _ _ _ (by simp; omega)]
            simpa [List.getElem?_append_left hlt] using h3
          · simp [List.getElem?_eq_none (Nat.le_of_not_lt hlt)] at h3
    · obtain ⟨o', e', h1, h2, h3, h4⟩ := ih _ j i (by simp; omega) h
      refine ⟨o', e', ?_, h2, h3, h4⟩
      have : j - acc.length = (j - (acc.length + 1)) + 1 := by omega
      rw [this]
      simpa using h1

theorem pairs_spec {mask : Nat} {y : Aop} : ∀ (l : List Aop) (k : Nat), Tr.pairsB mask y k l = true → ∀ i x, l[i]? = some x → mask.testBit (k + i) = true ∨ Tr.mayB x y = true := by
  intro l
  induction l with
  | nil => intro k _ i x h; simp at h
  | cons a l ih =>
    intro k h i x hx
    simp only [Tr.pairsB, Bool.and_eq_true, Bool.or_eq_true] at h
    cases i with
    | zero => simp at hx; subst hx; exact h.1
    | succ i =>
      have := ih (k + 1) h.2 i x (by simpa using hx)
      rwa [show k + (i + 1) = k + 1 + i by omega]

theorem reg_spec {cl : List Nat} : ∀ (l : List Aop) (done : List Aop), Tr.regB cl done.length done l = true → ∀ i j x y, i < j → done.length ≤ j → (done ++ l)[i]? = some x → (done ++ l)[j]? = some y → (cl.getD j 0).testBit i = true ∨ Tr.mayB x y = true := by
  intro l
  induction l with
  | nil => intro done _ i j x y _ hj _ hy; simp [List.getElem?_eq_none hj] at hy
  | cons a l ih =>
    intro done h i j x y hij hj hx hy
    simp only [Tr.regB, Bool.and_eq_true] at h
    by_cases e : j = done.length
    · subst e
      have hy' : a = y := by simpa using hy
      subst hy'
      have := pairs_spec done 0 h.1 i x (by rwa [List.getElem?_append_left hij] at hx)
      simpa using this
    · have := ih (done ++ [a]) (by simpa using h.2) i j x y hij (by simp; omega) (by simpa using hx) (by simpa using hy)
      exact this

theorem back_spec : ∀ (L : List Oper) (k : Nat), Tr.backB k L = true → ∀ i o, L[i]? = some o → ∀ e ∈ o.after.toList, Region.binds .any e = true → e.on < k + i := by
  intro L
  induction L with
  | nil => intro k _ i o h; simp at h
  | cons a L ih =>
    intro k h i o ho e he hb
    simp only [Tr.backB, Bool.and_eq_true, List.all_eq_true, Bool.or_eq_true, Bool.not_eq_true', decide_eq_true_eq] at h
    cases i with
    | zero =>
      simp at ho
      subst ho
      rcases h.1 e he with h1 | h1
      · rw [hb] at h1; cases h1
      · exact h1
    | succ i =>
      have := ih (k + 1) h.2 i o (by simpa using ho) e he hb
      omega

theorem zip_spec {cl effs als : List Nat} {ops : Array Oper} : ∀ (L : List Oper) (k : Nat) (l : List Aop), T.zipH cl effs als ops k L = some l → l.length = L.length ∧ ∀ (i : Nat) (o : Oper), L[i]? = some o → ∃ ao, l[i]? = some ao ∧ ∃ hf, T.oper ops hf o = some ao := by
  intro L
  induction L with
  | nil => intro k l h; simp [Tr.zipH] at h; subst h; exact ⟨rfl, fun i o h => by simp at h⟩
  | cons a L ih =>
    intro k l h
    simp only [Tr.zipH] at h
    split at h
    · rename_i ao l' h1 h2
      cases h
      obtain ⟨g1, g2⟩ := ih _ _ h2
      refine ⟨by simp [g1], fun i o ho => ?_⟩
      cases i with
      | zero => simp at ho; subst ho; exact ⟨ao, rfl, _, h1⟩
      | succ i => exact g2 i o (by simpa using ho)
    · cases h

theorem any_sound (hν : ∀ f id, T.num f = some id → ν id = f) {ops : Array Oper} {l : List Aop} {cl effs als : List Nat} (hcl : cl = Tr.clo ops.toList []) (hz : T.zipH cl effs als ops 0 ops.toList = some l) (hback : Tr.backB 0 ops.toList = true) (hreg : Tr.regB cl 0 [] l = true)
    {K : St → Prop} (hQ : ∀ s' a' w' β', K s' → Sim ν T.nt w0 S X0 s' a' w' β' → Q .normal a' w') :
    ∀ (fuel : Nat) (listed : Array Bool), listed.size = ops.size → (rem listed 0 l).length ≤ fuel →
      (∀ j o, ops[j]? = some o → listed.getD j true = true → ∀ e ∈ o.after, Region.binds .any e = true → listed.getD e.on false = true) →
      ∀ (s : St) (a : Act) (w : World) (β : Nat → Nat), Sim ν T.nt w0 S X0 s a w β → opsK (OkM T.P ν) (rem listed 0 l) s K → wpAny T.P .any ops Q fuel listed a w := by
  obtain ⟨hlen, hops⟩ := zip_spec _ _ _ hz
  simp only [Array.length_toList] at hlen
  have hdone : ∀ listed : Array Bool, listed.size = ops.size → Region.ready .any ops listed = [] → rem listed 0 l = [] := by
    intro listed hsz hr
    refine rem_nil l 0 fun j _ hj => ?_
    simp only [Nat.zero_add, hlen] at hj
    induction j using Nat.strongRecOn with
    | _ j ih =>
      cases hlj : listed.getD j true with
      | true => rfl
      | false =>
        exfalso
        have hm : j ∈ Region.ready .any ops listed := by
          rw [mem_ready]
          refine ⟨hlj, ops[j], by simp [hj], fun e he hbd => ?_⟩
          have h1 := back_spec _ 0 hback j ops[j] (by simp [hj]) e (by simpa using he) hbd
          simp only [Nat.zero_add] at h1
          have h2 := ih e.on h1 (Nat.zero_le _) (by omega)
          have h3 : e.on < listed.size := by omega
          simpa [h3] using h2
        rw [hr] at hm
        cases hm
  intro fuel
  induction fuel with
  | zero =>
    intro listed hsz hf hcls s a w β h hs
    have hn : rem listed 0 l = [] := List.eq_nil_of_length_eq_zero (by omega)
    refine ⟨?_, ?_⟩
    · cases hr : Region.ready .any ops listed with
      | nil => rfl
      | cons i r =>
        exfalso
        have hm : i ∈ Region.ready .any ops listed := by rw [hr]; exact List.mem_cons_self ..
        rw [mem_ready] at hm
        obtain ⟨h0, o, ho, _⟩ := hm
        have hi : i < ops.size := (Array.getElem?_eq_some_iff.1 ho).1
        obtain ⟨xs, zs, h1, _⟩ := rem_split (L := listed) (i := i) (by omega) h0 l 0 (l[i]'(by omega)) (Nat.zero_le _) (by simp)
        rw [hn] at h1
        simp at h1
    · rw [hn] at hs; exact hQ _ _ _ _ hs h
  | succ fuel ih =>
    intro listed hsz hf hcls s a w β h hs
    refine ⟨fun hr => ?_, fun i hi => ?_⟩
    · rw [hdone listed hsz hr] at hs; exact hQ _ _ _ _ hs h
    · rw [mem_ready] at hi
      obtain ⟨h0, o, ho, hdep⟩ := hi
      have hi : i < ops.size := (Array.getElem?_eq_some_iff.1 ho).1
      obtain ⟨ao, hao, hfl, hoper⟩ := hops i o (by simpa using ho)
      obtain ⟨xs, zs, h1, h2, h3⟩ := rem_split (L := listed) (i := i) (by omega) h0 l 0 ao (Nat.zero_le _) (by simpa using hao)
      have mask : ∀ n j, j < n → (∀ e o', ops[j]? = some o' → e ∈ o'.after → Region.binds .any e = true → listed.getD e.on false = true) → ∀ k, (cl.getD j 0).testBit k = true → listed.getD k false = true := by
        intro n
        induction n with
        | zero => intro j hj; omega
        | succ n ihn =>
          intro j hj hdj k hk
          rw [hcl] at hk
          obtain ⟨o', e, g1, g2, g3, g4⟩ := clo_spec _ _ _ _ (Nat.zero_le _) hk
          simp only [List.length_nil, Nat.sub_zero, Array.getElem?_toList] at g1
          have g5 := hdj e o' g1 (by simpa using g2) g3
          rcases g4 with g4 | ⟨g4, g6⟩
          · subst g4; exact g5
          · refine ihn e.on (by omega) (fun e' o2 ho2 he' hb' => ?_) k (by rw [hcl]; exact g6)
            have hlt : e.on < listed.size := by
              rcases Nat.lt_or_ge e.on listed.size with h' | h'
              · exact h'
              · simp [Array.getElem?_eq_none h'] at g5
            exact hcls e.on o2 ho2 (by simpa [hlt] using g5) e' he' hb'
      have may : ∀ x ∈ xs, Tr.mayB x ao = true := by
        intro x hx
        obtain ⟨j, _, hj, hlj, hxj⟩ := h3 x hx
        rcases reg_spec l [] hreg j i x ao hj (Nat.zero_le _) (by simpa using hxj) (by simpa using hao) with hb | hb
        · have h4 := mask (i + 1) i (by omega) (fun e o' ho' he hb' => by rw [ho] at ho'; cases ho'; exact hdep e he hb') j hb
          have hjl : j < listed.size := by omega
          have h5 : listed.getD j true = true := by simpa [hjl] using h4
          rw [h5] at hlj
          cases hlj
        · exact hb
      rw [h1] at hs
      have hs' := opsK_front (fun _ => h.fresh) may hs
      rw [← h2] at hs'
      unfold wpOp
      simp only [ho]
      refine oper_sound hν hoper h hs' (fun s' a' w' β' hK hS => ih _ (by simp [hsz]) ?_ ?_ s' a' w' β' hS hK)
      · have : (rem listed 0 l).length = (rem (listed.setIfInBounds i true) 0 l).length + 1 := by rw [h1, h2]; simp; omega
        omega
      · intro j o' ho' hlj e he hb
        by_cases e1 : j = i
        · subst e1
          rw [ho] at ho'
          cases ho'
          exact getD_set_true (hdep e he hb)
        · rw [getD_set_ne true (Ne.symm e1)] at hlj
          exact getD_set_true (hcls j o' ho' hlj e he hb)
end
end Go.Av

/-
  Regions with two unordered operations that write: both orders are shown, the others follow.
-/
namespace Go.Av
open Go.RowKit (Below)

theorem opK_and {C : Ct} {o : Aop} {s : St} {K1 K2 : St → Prop} (hc : Tr.isC o.k = false) (h1 : opK C o s K1) (h2 : opK C o s K2) : opK C o s fun s' => K1 s' ∧ K2 s' := by
  cases he : Tr.eff o.k
  · obtain ⟨u, hu, k1⟩ := (opK_v he).1 h1
    obtain ⟨v, hv, k2⟩ := (opK_v he).1 h2
    rw [← Gv_unique hc hu hv] at k2
    exact (opK_v he).2 ⟨u, hu, k1, k2⟩
  · obtain ⟨Ψ, g1, ⟨u, hp, n, g2⟩, k1⟩ := (opK_e he).1 h1
    obtain ⟨Ψ', g1', ⟨u', hp', n', g2'⟩, k2⟩ := (opK_e he).1 h2
    refine (opK_e he).2 ⟨Ψ, g1, ⟨u, hp, n, g2⟩, fun u h n hu => ⟨k1 u h n hu, ?_⟩⟩
    have : Ψ = Ψ' := by
      rcases g1 with ⟨e, g1⟩ | ⟨e, g1⟩ <;> rcases g1' with ⟨e', g1'⟩ | ⟨e', g1'⟩
      · unfold Ve at g1 g1'
        cases hk : o.k <;> simp only [hk, Tr.isC, Bool.true_eq_false] at g1 g1' hc
        case app sz x y =>
          obtain ⟨_, cm, q1, _, r, q2, q3⟩ := g1
          obtain ⟨_, cm', q1', _, r', q2', q3'⟩ := g1'
          rw [q1] at q1'; cases q1'
          rw [q2] at q2'; cases q2'
          rw [q3, q3']
        case st n a v =>
          obtain ⟨_, r, q2, q3⟩ := g1
          obtain ⟨_, r', q2', q3'⟩ := g1'
          rw [q2] at q2'; cases q2'
          rw [q3, q3']
        case new z => rw [g1.2, g1'.2]
        case boxm x => rw [g1.2.2, g1'.2.2]
        case mks z n c =>
          obtain ⟨_, r, q2, q3⟩ := g1
          obtain ⟨_, r', q2', q3'⟩ := g1'
          rw [q2] at q2'; cases q2'
          rw [q3, q3']
        case mslm sz n z ps xs =>
          obtain ⟨_, r, q2, q3⟩ := g1
          obtain ⟨_, r', q2', q3'⟩ := g1'
          rw [q2] at q2'; cases q2'
          rw [q3, q3']
        case mkm => rw [g1.2, g1'.2]
        case mset kd m k v =>
          obtain ⟨_, r, q2, q3⟩ := g1
          obtain ⟨_, r', q2', q3'⟩ := g1'
          rw [q2] at q2'; cases q2'
          rw [q3, q3']
      · rw [e] at e'; cases e'
      · rw [e] at e'; cases e'
      · rw [g1, g1']
    rw [this] at hu
    exact k2 u h n hu

/-- What is left of a list of numbered operations. -/
def remI (listed : Array Bool) (L : List (Nat × Aop)) : List Aop := (L.filter fun p => !listed.getD p.1 true).map (·.2)
theorem remI_append (listed : Array Bool) (X Z : List (Nat × Aop)) : remI listed (X ++ Z) = remI listed X ++ remI listed Z := by simp [remI]
theorem remI_cons_no {listed : Array Bool} {p : Nat × Aop} {Z : List (Nat × Aop)} (h : listed.getD p.1 true = false) : remI listed (p :: Z) = p.2 :: remI listed Z := by simp only [remI, List.filter_cons, h]; simp
theorem remI_cons_yes {listed : Array Bool} {p : Nat × Aop} {Z : List (Nat × Aop)} (h : listed.getD p.1 true = true) : remI listed (p :: Z) = remI listed Z := by simp only [remI, List.filter_cons, h]; simp
theorem remI_set {listed : Array Bool} {i : Nat} {X : List (Nat × Aop)} (h : ∀ q ∈ X, q.1 ≠ i) : remI (listed.setIfInBounds i true) X = remI listed X := by
  unfold remI
  congr 1
  refine List.filter_congr fun q hq => ?_
  rw [getD_set_ne true (Ne.symm (h q hq))]
theorem mem_remI {listed : Array Bool} {X : List (Nat × Aop)} {x : Aop} (h : x ∈ remI listed X) : ∃ q ∈ X, q.2 = x ∧ listed.getD q.1 true = false := by
  simp only [remI, List.mem_map, List.mem_filter, Bool.not_eq_true'] at h
  obtain ⟨q, ⟨h1, h2⟩, h3⟩ := h
  exact ⟨q, h1, h3, h2⟩

theorem remI_front {C : Ct} {s : St} {K : St → Prop} {listed : Array Bool} {X Z : List (Nat × Aop)} {p : Nat × Aop} (hf : s.heap s.next = none) (hu : listed.getD p.1 true = false) (hi : p.1 < listed.size) (hX : ∀ q ∈ X, q.1 ≠ p.1) (hZ : ∀ q ∈ Z, q.1 ≠ p.1)
    (hm : ∀ q ∈ X, listed.getD q.1 true = false → Tr.mayB q.2 p.2 = true) (h : opsK C (remI listed (X ++ p :: Z)) s K) : opK C p.2 s fun s' => opsK C (remI (listed.setIfInBounds p.1 true) (X ++ p :: Z)) s' K := by
  rw [remI_append, remI_cons_no hu] at h
  have := opsK_front (fun _ => hf) (fun x hx => by obtain ⟨q, q1, q2, q3⟩ := mem_remI hx; rw [← q2]; exact hm q q1 q3) h
  rw [remI_append, remI_cons_yes (by simp [hi]), remI_set hX, remI_set hZ]
  exact this


theorem enum_mem : ∀ (l : List Aop) (k : Nat) (p : Nat × Aop), p ∈ Tr.enum k l ↔ k ≤ p.1 ∧ l[p.1 - k]? = some p.2
  | [], k, p => by simp [Tr.enum]
  | x :: r, k, p => by
    simp only [Tr.enum, List.mem_cons, enum_mem r (k + 1) p]
    constructor
    · rintro (rfl | ⟨h1, h2⟩)
      · simp
      · refine ⟨by omega, ?_⟩
        rw [show p.1 - k = (p.1 - (k + 1)) + 1 by omega]
        simpa using h2
    · rintro ⟨h1, h2⟩
      by_cases e : p.1 = k
      · left
        rw [e] at h2
        simp at h2
        obtain ⟨a, b⟩ := p
        simp only at e h2
        rw [e, h2]
      · right
        refine ⟨by omega, ?_⟩
        rw [show p.1 - k = (p.1 - (k + 1)) + 1 by omega] at h2
        simpa using h2
theorem enum_len : ∀ (l : List Aop) (k : Nat), (Tr.enum k l).length = l.length
  | [], _ => rfl
  | x :: r, k => by simp [Tr.enum, enum_len r]
theorem enum_snd : ∀ (l : List Aop) (k : Nat), (Tr.enum k l).map (·.2) = l
  | [], _ => rfl
  | x :: r, k => by simp [Tr.enum, enum_snd r]
theorem ins_mem {A : Nat} {p x : Nat × Aop} : ∀ {L : List (Nat × Aop)}, x ∈ Tr.ins A p L ↔ x = p ∨ x ∈ L
  | [] => by simp [Tr.ins]
  | q :: r => by
    simp only [Tr.ins]
    split
    · simp
    · simp only [List.mem_cons, ins_mem (L := r)]
      constructor
      · rintro (h | h | h)
        · exact .inr (.inl h)
        · exact .inl h
        · exact .inr (.inr h)
      · rintro (h | h | h)
        · exact .inr (.inl h)
        · exact .inl h
        · exact .inr (.inr h)
theorem ins_remI {A : Nat} {p : Nat × Aop} {listed : Array Bool} (h : listed.getD p.1 true = true) : ∀ {L : List (Nat × Aop)}, remI listed (Tr.ins A p L) = remI listed L
  | [] => by simp only [Tr.ins]; exact remI_cons_yes h
  | q :: r => by
    simp only [Tr.ins]
    split
    · exact remI_cons_yes h
    · have ih := ins_remI (A := A) h (L := r)
      cases hq : listed.getD q.1 true
      · rw [remI_cons_no hq, remI_cons_no hq, ih]
      · rw [remI_cons_yes hq, remI_cons_yes hq, ih]
theorem filter_remI {B : Nat} {listed : Array Bool} (h : listed.getD B true = true) : ∀ {L : List (Nat × Aop)}, remI listed (L.filter fun q => q.1 != B) = remI listed L
  | [] => rfl
  | q :: r => by
    have ih := filter_remI h (L := r)
    by_cases e : q.1 = B
    · rw [List.filter_cons_of_neg (by simp [e]), ih, remI_cons_yes (by rw [e]; exact h)]
    · rw [List.filter_cons_of_pos (by simp [e])]
      cases hq : listed.getD q.1 true
      · rw [remI_cons_no hq, remI_cons_no hq, ih]
      · rw [remI_cons_yes hq, remI_cons_yes hq, ih]

theorem ord_spec {cl : List Nat} {A B : Nat} : ∀ (r done : List (Nat × Aop)), Tr.ordB cl A B done r = true → ∀ X p Z, done ++ r = X ++ p :: Z → done.length ≤ X.length → (∀ q ∈ X, q.1 ≠ p.1 ∧ ((cl.getD p.1 0).testBit q.1 = true ∨ Tr.mayB q.2 p.2 = true ∨ (q.1 = A ∧ p.1 = B)))
  | [], done, _, X, p, Z, he, hl => by
    exfalso
    have := congrArg List.length he
    simp at this
    omega
  | a :: r, done, h, X, p, Z, he, hl => by
    simp only [Tr.ordB, Bool.and_eq_true] at h
    by_cases e : X.length = done.length
    · have h1 := List.append_inj he e.symm
      obtain ⟨h2, h3⟩ := h1
      cases h3
      subst h2
      intro q hq
      have := List.all_eq_true.1 h.1 q hq
      simp only [Bool.and_eq_true, Bool.or_eq_true, bne_iff_ne, ne_eq, beq_iff_eq] at this
      refine ⟨this.1, ?_⟩
      rcases this.2 with (h4 | h4) | h4
      · exact .inl h4
      · exact .inr (.inl h4)
      · exact .inr (.inr h4)
    · exact ord_spec r (done ++ [a]) h.2 X p Z (by simpa using he) (by simp; omega)

section
variable {ν : Nat → FuncId} {w0 : World} {S : Nat → Prop} {X0 : Cx} {T : Tr} {Q : Exit → Act → World → Prop}

theorem mask_listed {ops : Array Oper} {cl : List Nat} (hcl : cl = Tr.clo ops.toList []) {listed : Array Bool}
    (hcls : ∀ j o, ops[j]? = some o → listed.getD j true = true → ∀ e ∈ o.after, Region.binds .any e = true → listed.getD e.on false = true) :
    ∀ n j, j < n → (∀ e o', ops[j]? = some o' → e ∈ o'.after → Region.binds .any e = true → listed.getD e.on false = true) → ∀ k, (cl.getD j 0).testBit k = true → listed.getD k false = true := by
  intro n
  induction n with
  | zero => intro j hj; omega
  | succ n ihn =>
    intro j hj hdj k hk
    rw [hcl] at hk
    obtain ⟨o', e, g1, g2, g3, g4⟩ := clo_spec _ _ _ _ (Nat.zero_le _) hk
    simp only [List.length_nil, Nat.sub_zero, Array.getElem?_toList] at g1
    have g5 := hdj e o' g1 (by simpa using g2) g3
    rcases g4 with g4 | ⟨g4, g6⟩
    · subst g4; exact g5
    · refine ihn e.on (by omega) (fun e' o2 ho2 he' hb' => ?_) k (by rw [hcl]; exact g6)
      have hlt : e.on < listed.size := by
        rcases Nat.lt_or_ge e.on listed.size with h' | h'
        · exact h'
        · simp [Array.getElem?_eq_none h'] at g5
      exact hcls e.on o2 ho2 (by simpa [hlt] using g5) e' he' hb'

theorem any2_sound (hν : ∀ f id, T.num f = some id → ν id = f) {ops : Array Oper} {cl : List Nat} (hcl : cl = Tr.clo ops.toList []) (hback : Tr.backB 0 ops.toList = true) {L1 L2 : List (Nat × Aop)} {A B : Nat} (hne : A ≠ B)
    (hm1 : ∀ i o, ops[i]? = some o → ∃ ao hf, (i, ao) ∈ L1 ∧ (i, ao) ∈ L2 ∧ T.oper ops hf o = some ao ∧ Tr.isC ao.k = false) (hs1 : ∀ p ∈ L1, p.1 < ops.size)
    (ho1 : Tr.ordB cl A B [] L1 = true) (ho2 : Tr.ordB cl B A [] L2 = true) (hrem : ∀ listed : Array Bool, listed.getD B true = true → remI listed L2 = remI listed L1)
    {K : St → Prop} (hQ : ∀ s' a' w' β', K s' → Sim ν T.nt w0 S X0 s' a' w' β' → Q .normal a' w') :
    ∀ (fuel : Nat) (listed : Array Bool), listed.size = ops.size → (remI listed L1).length ≤ fuel →
      (∀ j o, ops[j]? = some o → listed.getD j true = true → ∀ e ∈ o.after, Region.binds .any e = true → listed.getD e.on false = true) →
      ∀ (s : St) (a : Act) (w : World) (β : Nat → Nat), Sim ν T.nt w0 S X0 s a w β → opsK (OkM T.P ν) (remI listed L1) s K →
        (listed.getD A true = false → listed.getD B true = false → opsK (OkM T.P ν) (remI listed L2) s K) → wpAny T.P .any ops Q fuel listed a w := by
  have nd : ∀ {L : List (Nat × Aop)} {A B : Nat}, Tr.ordB cl A B [] L = true → ∀ X p Z, L = X ++ p :: Z → (∀ q ∈ X, q.1 ≠ p.1) ∧ ∀ q ∈ Z, q.1 ≠ p.1 := by
    intro L A B ho X p Z he
    refine ⟨fun q hq => (ord_spec L [] ho X p Z (by simpa using he) (Nat.zero_le _) q hq).1, fun q hq => ?_⟩
    obtain ⟨Z1, Z2, rfl⟩ := List.append_of_mem hq
    have := ord_spec L [] ho (X ++ p :: Z1) q Z2 (by simpa using he) (Nat.zero_le _) p (by simp)
    exact fun e => this.1 e.symm
  have hdone : ∀ listed : Array Bool, listed.size = ops.size → Region.ready .any ops listed = [] → remI listed L1 = [] := by
    intro listed hsz hr
    have all : ∀ j, j < ops.size → listed.getD j true = true := by
      intro j
      induction j using Nat.strongRecOn with
      | _ j ih =>
        intro hj
        cases hlj : listed.getD j true with
        | true => rfl
        | false =>
          exfalso
          have hm : j ∈ Region.ready .any ops listed := by
            rw [mem_ready]
            refine ⟨hlj, ops[j], by simp [hj], fun e he hbd => ?_⟩
            have h1 := back_spec _ 0 hback j ops[j] (by simp [hj]) e (by simpa using he) hbd
            simp only [Nat.zero_add] at h1
            have h2 := ih e.on h1 (by omega)
            have h3 : e.on < listed.size := by omega
            simpa [h3] using h2
          rw [hr] at hm
          cases hm
    unfold remI
    rw [List.filter_eq_nil_iff.2 fun p hp => by simp only [all p.1 (hs1 p hp)]; simp]
    rfl
  intro fuel
  induction fuel with
  | zero =>
    intro listed hsz hf hcls s a w β h hs hs2
    have hn : remI listed L1 = [] := List.eq_nil_of_length_eq_zero (by omega)
    refine ⟨?_, ?_⟩
    · cases hr : Region.ready .any ops listed with
      | nil => rfl
      | cons i r =>
        exfalso
        have hm : i ∈ Region.ready .any ops listed := by rw [hr]; exact List.mem_cons_self ..
        rw [mem_ready] at hm
        obtain ⟨h0, o, ho, _⟩ := hm
        obtain ⟨ao, hfl, m1, m2, hoper, hcc⟩ := hm1 i o ho
        have : ao ∈ remI listed L1 := by
          simp only [remI, List.mem_map, List.mem_filter]
          exact ⟨(i, ao), ⟨m1, by simp only [h0]; rfl⟩, rfl⟩
        rw [hn] at this
        cases this
    · rw [hn] at hs; exact hQ _ _ _ _ hs h
  | succ fuel ih =>
    intro listed hsz hf hcls s a w β h hs hs2
    refine ⟨fun hr => ?_, fun i hi => ?_⟩
    · rw [hdone listed hsz hr] at hs; exact hQ _ _ _ _ hs h
    · rw [mem_ready] at hi
      obtain ⟨h0, o, ho, hdep⟩ := hi
      have hi : i < ops.size := (Array.getElem?_eq_some_iff.1 ho).1
      obtain ⟨ao, hfl, m1, m2, hoper, hcc⟩ := hm1 i o ho
      have mask := mask_listed hcl hcls (i + 1) i (by omega) (fun e o' ho' he hb' => by rw [ho] at ho'; cases ho'; exact hdep e he hb')
      have unl : ∀ j, listed.getD j true = false → (cl.getD i 0).testBit j = true → False := by
        intro j hj hb
        have h4 := mask j hb
        by_cases hjl : j < listed.size
        · have h5 : listed.getD j true = true := by simpa [hjl] using h4
          rw [h5] at hj
          cases hj
        · simp [Array.getElem?_eq_none (Nat.le_of_not_lt hjl)] at h4
      have front : ∀ {L : List (Nat × Aop)} {A' B' : Nat}, Tr.ordB cl A' B' [] L = true → (i, ao) ∈ L → (i = B' → listed.getD A' true = true) → opsK (OkM T.P ν) (remI listed L) s K → opK (OkM T.P ν) ao s fun s' => opsK (OkM T.P ν) (remI (listed.setIfInBounds i true) L) s' K := by
        intro L A' B' hord hmem hex hh
        obtain ⟨X, Z, rfl⟩ := List.append_of_mem hmem
        obtain ⟨n1, n2⟩ := nd hord X (i, ao) Z rfl
        refine remI_front (p := (i, ao)) h.fresh h0 (by simp only; omega) n1 n2 (fun q hq hqu => ?_) hh
        rcases (ord_spec _ [] hord X (i, ao) Z (by simp) (Nat.zero_le _) q hq).2 with h1 | h1 | h1
        · exact (unl _ hqu h1).elim
        · exact h1
        · rw [h1.1, hex h1.2] at hqu; cases hqu
      have fuelOk : (remI (listed.setIfInBounds i true) L1).length ≤ fuel := by
        obtain ⟨X, Z, e⟩ := List.append_of_mem m1
        obtain ⟨n1, n2⟩ := nd ho1 X (i, ao) Z e
        rw [e, remI_append, remI_cons_no (p := (i, ao)) h0] at hf
        rw [e, remI_append, remI_cons_yes (p := (i, ao)) (by simp [hsz, hi]), remI_set n1, remI_set n2]
        simp at hf ⊢
        omega
      have clsOk : ∀ j o', ops[j]? = some o' → (listed.setIfInBounds i true).getD j true = true → ∀ e ∈ o'.after, Region.binds .any e = true → (listed.setIfInBounds i true).getD e.on false = true := by
        intro j o' ho' hlj e he hb
        by_cases e1 : j = i
        · subst e1
          rw [ho] at ho'
          cases ho'
          exact getD_set_true (hdep e he hb)
        · rw [getD_set_ne true (Ne.symm e1)] at hlj
          exact getD_set_true (hcls j o' ho' hlj e he hb)
      have seti : (listed.setIfInBounds i true).getD i true = true := by simp [hsz, hi]
      unfold wpOp
      simp only [ho]
      by_cases eB : i = B
      · cases hA : listed.getD A true
        · -- the second list
          have h2 := front ho2 m2 (fun e => absurd (eB.symm.trans e) (Ne.symm hne)) (hs2 hA (by rw [← eB]; exact h0))
          rw [hrem _ (by rw [← eB]; exact seti)] at h2
          exact oper_sound hν hoper h h2 (fun s' a' w' β' hK hS => ih _ (by simp [hsz]) fuelOk clsOk s' a' w' β' hS hK (fun _ hb => by rw [← eB, seti] at hb; cases hb))
        · have h1 := front ho1 m1 (fun _ => hA) hs
          exact oper_sound hν hoper h h1 (fun s' a' w' β' hK hS => ih _ (by simp [hsz]) fuelOk clsOk s' a' w' β' hS hK (fun _ hb => by rw [← eB, seti] at hb; cases hb))
      · have h1 := front ho1 m1 (fun e => absurd e eB) hs
        by_cases eA : i = A
        · exact oper_sound hν hoper h h1 (fun s' a' w' β' hK hS => ih _ (by simp [hsz]) fuelOk clsOk s' a' w' β' hS hK (fun ha _ => by rw [← eA, seti] at ha; cases ha))
        · by_cases hb : listed.getD A true = false ∧ listed.getD B true = false
          · have h2 := front ho2 m2 (fun e => absurd e eA) (hs2 hb.1 hb.2)
            exact oper_sound hν hoper h (opK_and hcc h1 h2) (fun s' a' w' β' hK hS => ih _ (by simp [hsz]) fuelOk clsOk s' a' w' β' hS hK.1 (fun _ _ => hK.2))
          · exact oper_sound hν hoper h h1 (fun s' a' w' β' hK hS => ih _ (by simp [hsz]) fuelOk clsOk s' a' w' β' hS hK (fun ha hb' => by
              rw [getD_set_ne true eA] at ha
              rw [getD_set_ne true eB] at hb'
              exact absurd ⟨ha, hb'⟩ hb))
end
end Go.Av

/-
  Regions whose effects are not ordered: the readers first, then the effects in every order that the edges allow, then the rest.
-/
namespace Go.Av
open Go.RowKit (Below)

section abs
variable {C : Ct} {cl : List Nat} {s : St} {K K' : St → Prop}

theorem isA_eff {k : AK} (h : Tr.isA k = true) : Tr.eff k = true := by cases k <;> first | rfl | simp [Tr.isA] at h

theorem Ge_O {o : Aop} {Ψ : AV → Hp → Nat → Prop} (ha : Tr.isO o.k = true) (hw : ∀ k, s.next ≤ k → s.heap k = none) (h : Ge C o s Ψ) {u : AV} {hp : Hp} {n : Nat} (hu : Ψ u hp n) : Sub s.heap hp := by
  by_cases e : Tr.isA o.k = true
  · exact Ge_alloc e (hw _ (Nat.le_refl _)) h hu
  · rcases h with ⟨_, h⟩ | ⟨_, h⟩
    · unfold Ve at h
      cases hk : o.k <;> simp only [hk, Tr.isO, Tr.isA, not_true_eq_false, Bool.false_eq_true] at h ha e
      case callo f xs =>
        obtain ⟨_, fc, _, ys, _, Φ, _, _, _, rfl⟩ := h
        obtain ⟨H', _, rfl⟩ := hu
        intro k d hk
        have : k < s.next := by
          rcases Nat.lt_or_ge k s.next with h' | h'
          · exact h'
          · rw [hw k h'] at hk; cases hk
        simp only [hmerge, if_pos this]
        exact hk
    · rw [h] at hu; rw [hu.2.1]; exact fun _ _ h => h

/-- An effect goes ahead of a reader. -/
theorem opK_swapZ {x y : Aop} (hm : Tr.mayE x y = true) (hw : ∀ k, s.next ≤ k → s.heap k = none) (h : opK C x s fun s' => opK C y s' K) : opK C y s fun s' => opK C x s' K := by
  simp only [Tr.mayE, Bool.and_eq_true, Bool.not_eq_true', Bool.or_eq_true] at hm
  obtain ⟨⟨⟨ha, hex⟩, hey⟩, hh⟩ := hm
  obtain ⟨h1, h2, h3⟩ := apart_spec ha
  have ry : ∀ (s : St) (u : AV), ∀ t ∈ Tr.rd y, (s.put x.dst u).env t = s.env t := fun s u t ht => put_env (fun e => h1 t e ht)
  have rx : ∀ (s : St) (u : AV), ∀ t ∈ Tr.rd x, (s.put y.dst u).env t = s.env t := fun s u t ht => put_env (fun e => h3 t e ht)
  obtain ⟨u, hu, h⟩ := (opK_v hex).1 h
  obtain ⟨Ψ, hΨ, hne, h⟩ := (opK_e hey).1 h
  have hΨ' := Ge_congr (s' := s) (ry s u) put_heap put_next hΨ
  have hxh : ∀ v hp n, Ψ v hp n → Gv C x ((⟨s.env, hp, n⟩ : St).put y.dst v) u := fun v hp n hv => by
    rcases hh with e | e
    · exact Gv_congr (s := s) (fun t ht => (rx ⟨s.env, hp, n⟩ v t ht).symm) (.inl e) hu
    · exact Gv_sub (s := s) (fun t ht => (rx ⟨s.env, hp, n⟩ v t ht).symm) (by rw [put_heap]; exact Ge_O e hw hΨ' hv) hu
  refine (opK_e hey).2 ⟨Ψ, hΨ', hne, fun v hp n hv => (opK_v hex).2 ⟨u, hxh v hp n hv, ?_⟩⟩
  have := h v hp n hv
  rw [put_mk, put_comm h2] at this
  exact this

theorem opsK_frontZ {y : Aop} : ∀ {xs : List Aop} {s : St}, (∀ k, s.next ≤ k → s.heap k = none) → (∀ x ∈ xs, Tr.eff x.k = false ∧ (Tr.mayE x y = true ∨ Tr.mayB x y = true)) → opsK C xs s (fun s' => opK C y s' K) → opK C y s fun s' => opsK C xs s' K := by
  intro xs
  induction xs with
  | nil => intro s _ _ h; exact h
  | cons x xs ih =>
    intro s hw hm h
    obtain ⟨hex, hx⟩ := hm x (List.mem_cons_self ..)
    have swap : (opK C x s fun s' => opK C y s' fun s'' => opsK C xs s'' K) → opK C y s fun s' => opK C x s' fun s'' => opsK C xs s'' K := fun h => by
      rcases hx with hx | hx
      · exact opK_swapZ hx hw h
      · exact opK_swap (fun _ => hw _ (Nat.le_refl _)) hx h
    refine swap ?_
    obtain ⟨u, hu, h⟩ := (opK_v hex).1 h
    exact (opK_v hex).2 ⟨u, hu, ih (by rw [put_heap, put_next]; exact hw) (fun x hx => hm x (List.mem_cons_of_mem _ hx)) h⟩

/-- The effects in every order. -/
def forestK (C : Ct) (cl : List Nat) : Nat → List (Nat × Aop) → St → (St → Prop) → Prop
  | 0, _, s, K => K s
  | _ + 1, [], s, K => K s
  | n + 1, e0 :: r, s, K => opK C e0.2 s (fun s' => forestK C cl n r s' K) ∧ ∀ e ∈ r, Tr.freeB cl (e0 :: r) e = true → opK C e.2 s (fun s' => forestK C cl n ((e0 :: r).filter fun q => q.1 != e.1) s' K)

theorem forest_mono : ∀ (n : Nat) (rem : List (Nat × Aop)) (s : St), (∀ s, K s → K' s) → forestK C cl n rem s K → forestK C cl n rem s K' := by
  intro n
  induction n with
  | zero => intro rem s h hh; exact h _ hh
  | succ n ih =>
    intro rem s h hh
    cases rem with
    | nil => exact h _ hh
    | cons e0 r => exact ⟨opK_mono (fun s' hs => ih _ _ h hs) hh.1, fun e he hf => opK_mono (fun s' hs => ih _ _ h hs) (hh.2 e he hf)⟩

theorem forest_front {y : Aop} (hc : Tr.isC y.k = false) (hey : Tr.eff y.k = false) : ∀ (n : Nat) (rem : List (Nat × Aop)) (s : St) (K : St → Prop), (∀ q ∈ rem, Tr.mayB q.2 y = true) → forestK C cl n rem s (fun s' => opK C y s' K) → opK C y s fun s' => forestK C cl n rem s' K := by
  intro n
  induction n with
  | zero => intro rem s K _ h; exact h
  | succ n ih =>
    intro rem s K hm h
    cases rem with
    | nil => exact h
    | cons e0 r =>
      have m0 := hm e0 (List.mem_cons_self ..)
      have ha : ∀ {s : St}, Tr.isA y.k = true → s.heap s.next = none := fun h => by rw [isA_eff h] at hey; cases hey
      obtain ⟨h0, h1⟩ := h
      have a0 := opK_swap (fun h => ha h) m0 (opK_mono (fun s' hs => ih r s' K (fun q hq => hm q (List.mem_cons_of_mem _ hq)) hs) h0)
      have a1 : ∀ e ∈ r, Tr.freeB cl (e0 :: r) e = true → opK C y s fun s' => opK C e.2 s' fun s'' => forestK C cl n ((e0 :: r).filter fun q => q.1 != e.1) s'' K := fun e he hf =>
        opK_swap (fun h => ha h) (hm e (List.mem_cons_of_mem _ he)) (opK_mono (fun s' hs => ih _ s' K (fun q hq => hm q (List.mem_filter.1 hq).1) hs) (h1 e he hf))
      obtain ⟨u, hu, k0⟩ := (opK_v hey).1 a0
      refine (opK_v hey).2 ⟨u, hu, k0, fun e he hf => ?_⟩
      obtain ⟨v, hv, k1⟩ := (opK_v hey).1 (a1 e he hf)
      rw [Gv_unique hc hu hv]
      exact k1

theorem vc_bothL {Q : Ex → St → Prop} : ∀ (l : List Cd) (a : Cd), vc C (Tr.bothL a l) Q s → vc C a Q s ∧ ∀ b ∈ l, vc C b Q s
  | [], a, h => ⟨h, fun b hb => by cases hb⟩
  | b :: l, a, h => by
    obtain ⟨h1, h2⟩ := vc_bothL l b h.2
    exact ⟨h.1, fun c hc => by
      rcases List.mem_cons.1 hc with rfl | hc
      · exact h1
      · exact h2 c hc⟩

theorem vc_tree {Q : Ex → St → Prop} {R : List Aop} : ∀ (n : Nat) (rem : List (Nat × Aop)) (s : St), vc C (Tr.treeCd cl R n rem) Q s → forestK C cl n rem s fun s2 => opsK C R s2 (Q .normal) := by
  intro n
  induction n with
  | zero => intro rem s h; exact h
  | succ n ih =>
    intro rem s h
    cases rem with
    | nil => exact h
    | cons e0 r =>
      obtain ⟨h0, h1⟩ := vc_bothL _ _ h
      refine ⟨opK_mono (fun s' hs => ih _ _ hs) h0, fun e he hf => ?_⟩
      have := h1 _ (List.mem_map.2 ⟨e, List.mem_filter.2 ⟨he, hf⟩, rfl⟩)
      exact opK_mono (fun s' hs => ih _ _ hs) this
end abs

def unl (listed : Array Bool) (L : List (Nat × Aop)) : List (Nat × Aop) := L.filter fun p => !listed.getD p.1 true
theorem unl_set {listed : Array Bool} {i : Nat} {X : List (Nat × Aop)} (h : ∀ q ∈ X, q.1 ≠ i) : unl (listed.setIfInBounds i true) X = unl listed X := by
  unfold unl
  refine List.filter_congr fun q hq => ?_
  rw [getD_set_ne true (Ne.symm (h q hq))]
theorem unl_drop {listed : Array Bool} {i : Nat} (hi : i < listed.size) (X : List (Nat × Aop)) : (unl listed X).filter (fun q => q.1 != i) = unl (listed.setIfInBounds i true) X := by
  unfold unl
  rw [List.filter_filter]
  refine List.filter_congr fun q _ => ?_
  by_cases e : q.1 = i
  · subst e; simp [hi]
  · rw [getD_set_ne true (Ne.symm e)]; simp [e]

section
variable {ν : Nat → FuncId} {w0 : World} {S : Nat → Prop} {X0 : Cx} {T : Tr} {Q : Exit → Act → World → Prop}

theorem any3_sound (hν : ∀ f id, T.num f = some id → ν id = f) {ops : Array Oper} {cl : List Nat} (hcl : cl = Tr.clo ops.toList []) (hback : Tr.backB 0 ops.toList = true) {P E R : List (Nat × Aop)}
    (hmem : ∀ i o, ops[i]? = some o → ∃ ao hf, ((i, ao) ∈ P ∨ (i, ao) ∈ E ∨ (i, ao) ∈ R) ∧ T.oper ops hf o = some ao)
    (hP : ∀ p ∈ P, p.1 < ops.size) (hE : ∀ p ∈ E, p.1 < ops.size) (hR : ∀ p ∈ R, p.1 < ops.size)
    (dPE : ∀ p ∈ P, ∀ e ∈ E, p.1 ≠ e.1) (dPR : ∀ p ∈ P, ∀ e ∈ R, p.1 ≠ e.1) (dER : ∀ p ∈ E, ∀ e ∈ R, p.1 ≠ e.1) (dE : ∀ p ∈ E, ∀ q ∈ E, p.1 = q.1 → p = q) (nE : (E.map (·.1)).Nodup)
    (oP : Tr.ordB cl ops.size ops.size [] P = true) (oR : Tr.ordB cl ops.size ops.size [] R = true)
    (cP : ∀ p ∈ P, Tr.eff p.2.k = false ∧ ∀ e ∈ E, (cl.getD e.1 0).testBit p.1 = true ∨ (Tr.mayE p.2 e.2 = true ∨ Tr.mayB p.2 e.2 = true))
    (cR : ∀ r ∈ R, Tr.isC r.2.k = false ∧ (Tr.eff r.2.k = false ∨ ∀ e ∈ E, (cl.getD r.1 0).testBit e.1 = true) ∧ Tr.isA r.2.k = false ∧ (∀ q ∈ P, (cl.getD r.1 0).testBit q.1 = true ∨ Tr.mayB q.2 r.2 = true) ∧ ∀ e ∈ E, (cl.getD r.1 0).testBit e.1 = true ∨ Tr.mayB e.2 r.2 = true)
    {K : St → Prop} (hQ : ∀ s' a' w' β', K s' → Sim ν T.nt w0 S X0 s' a' w' β' → Q .normal a' w') :
    ∀ (fuel : Nat) (listed : Array Bool), listed.size = ops.size → (unl listed P).length + (unl listed E).length + (unl listed R).length ≤ fuel →
      (∀ j o, ops[j]? = some o → listed.getD j true = true → ∀ e ∈ o.after, Region.binds .any e = true → listed.getD e.on false = true) →
      ∀ (n : Nat), (unl listed E).length ≤ n → ∀ (s : St) (a : Act) (w : World) (β : Nat → Nat), Sim ν T.nt w0 S X0 s a w β →
        opsK (OkM T.P ν) (remI listed P) s (fun s1 => forestK (OkM T.P ν) cl n (unl listed E) s1 fun s2 => opsK (OkM T.P ν) (remI listed R) s2 K) → wpAny T.P .any ops Q fuel listed a w := by
  have lenI : ∀ (listed : Array Bool) (X : List (Nat × Aop)), (remI listed X).length = (unl listed X).length := fun listed X => by simp [remI, unl]
  have nd : ∀ {L : List (Nat × Aop)}, Tr.ordB cl ops.size ops.size [] L = true → ∀ X p Z, L = X ++ p :: Z → (∀ q ∈ X, q.1 ≠ p.1) ∧ ∀ q ∈ Z, q.1 ≠ p.1 := by
    intro L ho X p Z he
    refine ⟨fun q hq => (ord_spec L [] ho X p Z (by simpa using he) (Nat.zero_le _) q hq).1, fun q hq => ?_⟩
    obtain ⟨Z1, Z2, rfl⟩ := List.append_of_mem hq
    have := ord_spec L [] ho (X ++ p :: Z1) q Z2 (by simpa using he) (Nat.zero_le _) p (by simp)
    exact fun e => this.1 e.symm
  have hdone : ∀ listed : Array Bool, listed.size = ops.size → Region.ready .any ops listed = [] → ∀ L : List (Nat × Aop), (∀ p ∈ L, p.1 < ops.size) → unl listed L = [] := by
    intro listed hsz hr L hL
    have all : ∀ j, j < ops.size → listed.getD j true = true := by
      intro j
      induction j using Nat.strongRecOn with
      | _ j ih =>
        intro hj
        cases hlj : listed.getD j true with
        | true => rfl
        | false =>
          exfalso
          have hm : j ∈ Region.ready .any ops listed := by
            rw [mem_ready]
            refine ⟨hlj, ops[j], by simp [hj], fun e he hbd => ?_⟩
            have h1 := back_spec _ 0 hback j ops[j] (by simp [hj]) e (by simpa using he) hbd
            simp only [Nat.zero_add] at h1
            have h2 := ih e.on h1 (by omega)
            have h3 : e.on < listed.size := by omega
            simpa [h3] using h2
          rw [hr] at hm
          cases hm
    unfold unl
    exact List.filter_eq_nil_iff.2 fun p hp => by simp only [all p.1 (hL p hp)]; simp
  have fin : ∀ (listed : Array Bool) (n : Nat) (s : St) (a : Act) (w : World) (β : Nat → Nat), unl listed P = [] → unl listed E = [] → unl listed R = [] → Sim ν T.nt w0 S X0 s a w β →
      opsK (OkM T.P ν) (remI listed P) s (fun s1 => forestK (OkM T.P ν) cl n (unl listed E) s1 fun s2 => opsK (OkM T.P ν) (remI listed R) s2 K) → Q .normal a w := by
    intro listed n s a w β h1 h2 h3 h hs
    have e1 : remI listed P = [] := List.eq_nil_of_length_eq_zero (by rw [lenI, h1]; rfl)
    have e3 : remI listed R = [] := List.eq_nil_of_length_eq_zero (by rw [lenI, h3]; rfl)
    rw [e1, e3, h2] at hs
    refine hQ _ _ _ _ ?_ h
    cases n <;> exact hs
  intro fuel
  induction fuel with
  | zero =>
    intro listed hsz hf hcls n hn s a w β h hs
    have z1 : unl listed P = [] := List.eq_nil_of_length_eq_zero (by omega)
    have z2 : unl listed E = [] := List.eq_nil_of_length_eq_zero (by omega)
    have z3 : unl listed R = [] := List.eq_nil_of_length_eq_zero (by omega)
    refine ⟨?_, fin listed n s a w β z1 z2 z3 h hs⟩
    cases hr : Region.ready .any ops listed with
    | nil => rfl
    | cons i r =>
      exfalso
      have hm : i ∈ Region.ready .any ops listed := by rw [hr]; exact List.mem_cons_self ..
      rw [mem_ready] at hm
      obtain ⟨h0, o, ho, _⟩ := hm
      obtain ⟨ao, hfl, m, hoper⟩ := hmem i o ho
      have none_in : ∀ X, unl listed X = [] → (i, ao) ∈ X → False := fun X hX hm => by
        have : (i, ao) ∈ unl listed X := List.mem_filter.2 ⟨hm, by simp only [h0]; rfl⟩
        rw [hX] at this; cases this
      rcases m with m | m | m
      · exact none_in _ z1 m
      · exact none_in _ z2 m
      · exact none_in _ z3 m
  | succ fuel ih =>
    intro listed hsz hf hcls n hn s a w β h hs
    refine ⟨fun hr => fin listed n s a w β (hdone listed hsz hr _ hP) (hdone listed hsz hr _ hE) (hdone listed hsz hr _ hR) h hs, fun i hi => ?_⟩
    rw [mem_ready] at hi
    obtain ⟨h0, o, ho, hdep⟩ := hi
    have hi : i < ops.size := (Array.getElem?_eq_some_iff.1 ho).1
    have hil : i < listed.size := by omega
    obtain ⟨ao, hfl, m, hoper⟩ := hmem i o ho
    have mask := mask_listed hcl hcls (i + 1) i (by omega) (fun e o' ho' he hb' => by rw [ho] at ho'; cases ho'; exact hdep e he hb')
    have unlst : ∀ j, listed.getD j true = false → (cl.getD i 0).testBit j = true → False := by
      intro j hj hb
      have h4 := mask j hb
      by_cases hjl : j < listed.size
      · have h5 : listed.getD j true = true := by simpa [hjl] using h4
        rw [h5] at hj
        cases hj
      · simp [Array.getElem?_eq_none (Nat.le_of_not_lt hjl)] at h4
    have clsOk : ∀ j o', ops[j]? = some o' → (listed.setIfInBounds i true).getD j true = true → ∀ e ∈ o'.after, Region.binds .any e = true → (listed.setIfInBounds i true).getD e.on false = true := by
      intro j o' ho' hlj e he hb
      by_cases e1 : j = i
      · subst e1
        rw [ho] at ho'
        cases ho'
        exact getD_set_true (hdep e he hb)
      · rw [getD_set_ne true (Ne.symm e1)] at hlj
        exact getD_set_true (hcls j o' ho' hlj e he hb)
    have ul : ∀ {X : List (Nat × Aop)} {q : Nat × Aop}, q ∈ unl listed X → q ∈ X ∧ listed.getD q.1 true = false := fun hq => by
      obtain ⟨h1, h2⟩ := List.mem_filter.1 hq
      exact ⟨h1, by simpa using h2⟩
    have less : ∀ (X : List (Nat × Aop)), (i, ao) ∈ X → Tr.ordB cl ops.size ops.size [] X = true → (unl (listed.setIfInBounds i true) X).length + 1 = (unl listed X).length := by
      intro X hm hord
      obtain ⟨Y, Z, rfl⟩ := List.append_of_mem hm
      obtain ⟨n1, n2⟩ := nd hord Y (i, ao) Z rfl
      have e1 : remI (listed.setIfInBounds i true) (Y ++ (i, ao) :: Z) = remI listed Y ++ remI listed Z := by
        rw [remI_append, remI_cons_yes (p := (i, ao)) (by simp [hil]), remI_set n1, remI_set n2]
      have e2 : remI listed (Y ++ (i, ao) :: Z) = remI listed Y ++ ao :: remI listed Z := by rw [remI_append, remI_cons_no (p := (i, ao)) h0]
      rw [← lenI, ← lenI, e1, e2]; simp; omega
    unfold wpOp
    simp only [ho]
    rcases m with m | m | m
    · -- a reader
      have hord := oP
      obtain ⟨X, Z, hXZ⟩ := List.append_of_mem m
      obtain ⟨n1, n2⟩ := nd hord X (i, ao) Z hXZ
      have he : unl (listed.setIfInBounds i true) E = unl listed E := unl_set fun q hq => (dPE _ m q hq).symm
      have hr : remI (listed.setIfInBounds i true) R = remI listed R := remI_set fun q hq => (dPR _ m q hq).symm
      have hr' : unl (listed.setIfInBounds i true) R = unl listed R := unl_set fun q hq => (dPR _ m q hq).symm
      have hl := less P m hord
      rw [hXZ] at hs
      have h2 := remI_front (p := (i, ao)) h.fresh h0 hil n1 n2 (fun q hq hqu => by
        rcases (ord_spec _ [] hord X (i, ao) Z (by simpa using hXZ) (Nat.zero_le _) q hq).2 with h1 | h1 | h1
        · exact (unlst _ hqu h1).elim
        · exact h1
        · have := hP q (by rw [hXZ]; simp [hq])
          omega) hs
      rw [← hXZ] at h2
      refine oper_sound hν hoper h h2 (fun s' a' w' β' hK hS => ih _ (by simp [hsz]) (by rw [he, hr']; omega) clsOk n (by rw [he]; exact hn) s' a' w' β' hS (by rw [he, hr]; exact hK))
    · -- an effect
      have hp : remI (listed.setIfInBounds i true) P = remI listed P := remI_set fun q hq => dPE q hq _ m
      have hp' : unl (listed.setIfInBounds i true) P = unl listed P := unl_set fun q hq => dPE q hq _ m
      have hr : remI (listed.setIfInBounds i true) R = remI listed R := remI_set fun q hq => (dER _ m q hq).symm
      have hr' : unl (listed.setIfInBounds i true) R = unl listed R := unl_set fun q hq => (dER _ m q hq).symm
      have hme : (i, ao) ∈ unl listed E := List.mem_filter.2 ⟨m, by simp only [h0]; rfl⟩
      have hdrop := unl_drop (i := i) hil E
      cases n with
      | zero => rw [List.eq_nil_of_length_eq_zero (Nat.le_zero.1 hn)] at hme; cases hme
      | succ n =>
        have hlen : (unl (listed.setIfInBounds i true) E).length < (unl listed E).length := by
          rw [← hdrop]
          exact List.length_filter_lt_length_iff_exists.2 ⟨(i, ao), hme, by simp⟩
        have pick : ∀ s1 K2, forestK (OkM T.P ν) cl (n + 1) (unl listed E) s1 K2 → opK (OkM T.P ν) ao s1 fun s' => forestK (OkM T.P ν) cl n (unl (listed.setIfInBounds i true) E) s' K2 := by
          intro s1 K2 hf1
          rw [← hdrop]
          have nE' : ((unl listed E).map (·.1)).Nodup := nE.sublist (List.Sublist.map _ (List.filter_sublist ..))
          have free : Tr.freeB cl (unl listed E) (i, ao) = true := by
            refine List.all_eq_true.2 fun q hq => ?_
            simp only [Bool.or_eq_true, Bool.not_eq_true', beq_iff_eq]
            right
            cases hb : (cl.getD i 0).testBit q.1 with
            | false => rfl
            | true => exact (unlst _ (ul hq).2 hb).elim
          have dE' : ∀ q ∈ unl listed E, q.1 = i → q = (i, ao) := fun q hq e => dE q (ul hq).1 (i, ao) m e
          generalize unl listed E = F at hf1 hme nE' free dE'
          cases F with
          | nil => cases hme
          | cons e0 r =>
            by_cases e : e0.1 = i
            · have e' := dE' e0 (List.mem_cons_self ..) e
              have hr : (e0 :: r).filter (fun q => q.1 != i) = r := by
                rw [List.filter_cons_of_neg (by simp [e]), List.filter_eq_self]
                intro q hq
                have : e0.1 ≠ q.1 := by
                  simp only [List.map_cons, List.nodup_cons, List.mem_map, not_exists, not_and] at nE'
                  exact fun e2 => nE'.1 q hq e2.symm
                simp; omega
              rw [hr]
              have := hf1.1
              rw [e'] at this
              exact this
            · have hm2 : (i, ao) ∈ r := by
                rcases List.mem_cons.1 hme with h' | h'
                · rw [← h'] at e; exact absurd rfl e
                · exact h'
              exact hf1.2 (i, ao) hm2 free
        have h2 := opsK_mono (fun s1 hs1 => pick s1 _ hs1) hs
        have h3 := opsK_frontZ (y := ao) (fun k hk => by
          cases hH : s.heap k with
          | none => rfl
          | some c => have := (h.objs.obj k c hH).1; simp only at this; omega) (fun x hx => by
            obtain ⟨q, q1, q2, q3⟩ := mem_remI hx
            rw [← q2]
            refine ⟨(cP q q1).1, ?_⟩
            rcases (cP q q1).2 _ m with h1 | h1
            · exact (unlst _ q3 h1).elim
            · exact h1) h2
        refine oper_sound hν hoper h h3 (fun s' a' w' β' hK hS => ih _ (by simp [hsz]) (by rw [hp', hr']; omega) clsOk n (by omega) s' a' w' β' hS (by rw [hp, hr]; exact hK))
    · -- one of the rest
      have hord := oR
      obtain ⟨X, Z, hXZ⟩ := List.append_of_mem m
      obtain ⟨n1, n2⟩ := nd hord X (i, ao) Z hXZ
      have hp : remI (listed.setIfInBounds i true) P = remI listed P := remI_set fun q hq => dPR q hq _ m
      have hp' : unl (listed.setIfInBounds i true) P = unl listed P := unl_set fun q hq => dPR q hq _ m
      have he : unl (listed.setIfInBounds i true) E = unl listed E := unl_set fun q hq => dER q hq _ m
      have hl := less R m hord
      obtain ⟨k1, k0, k2, k3, k4⟩ := cR _ m
      have inner : ∀ s2, opsK (OkM T.P ν) (remI listed R) s2 K → opK (OkM T.P ν) ao s2 fun s' => opsK (OkM T.P ν) (remI (listed.setIfInBounds i true) R) s' K := by
        intro s2 hs2
        rw [hXZ, remI_append, remI_cons_no (p := (i, ao)) h0] at hs2
        rw [hXZ, remI_append, remI_cons_yes (p := (i, ao)) (by simp [hil]), remI_set n1, remI_set n2]
        refine opsK_front (fun ha => by simp only at k2; rw [k2] at ha; cases ha) (fun x hx => ?_) hs2
        obtain ⟨q, q1, q2, q3⟩ := mem_remI hx
        rw [← q2]
        rcases (ord_spec _ [] hord X (i, ao) Z (by simpa using hXZ) (Nat.zero_le _) q q1).2 with h1 | h1 | h1
        · exact (unlst _ q3 h1).elim
        · exact h1
        · have := hR q (by rw [hXZ]; simp [q1])
          omega
      have fr : ∀ s1 G, forestK (OkM T.P ν) cl n (unl listed E) s1 (fun s' => opK (OkM T.P ν) ao s' G) → opK (OkM T.P ν) ao s1 fun s' => forestK (OkM T.P ν) cl n (unl listed E) s' G := by
        intro s1 G hG
        rcases k0 with k0 | k0
        · refine forest_front k1 k0 n (unl listed E) s1 _ (fun q hq => ?_) hG
          rcases k4 q (ul hq).1 with h1 | h1
          · exact (unlst _ (ul hq).2 h1).elim
          · exact h1
        · have : unl listed E = [] := by
            cases hE2 : unl listed E with
            | nil => rfl
            | cons q F =>
              have hq : q ∈ unl listed E := by rw [hE2]; exact List.mem_cons_self ..
              exact (unlst _ (ul hq).2 (k0 q (ul hq).1)).elim
          rw [this] at hG ⊢
          cases n <;> exact hG
      have h2 := opsK_mono (fun s1 hs1 => fr s1 _ (forest_mono _ _ _ inner hs1)) hs
      have h3 : opsK (OkM T.P ν) (remI listed P ++ ao :: []) s fun s' => forestK (OkM T.P ν) cl n (unl listed E) s' fun s2 => opsK (OkM T.P ν) (remI (listed.setIfInBounds i true) R) s2 K := by
        have app : ∀ (xs : List Aop) (s : St) (G : St → Prop), opsK (OkM T.P ν) xs s (fun s1 => opK (OkM T.P ν) ao s1 G) → opsK (OkM T.P ν) (xs ++ ao :: []) s G := by
          intro xs
          induction xs with
          | nil => intro s G h; exact h
          | cons x xs ihx => intro s G h; exact opK_mono (fun s' hs => ihx s' G hs) h
        exact app _ _ _ h2
      have h4 := opsK_front (zs := []) (fun ha => by simp only at k2; rw [k2] at ha; cases ha) (fun x hx => by
        obtain ⟨q, q1, q2, q3⟩ := mem_remI hx
        rw [← q2]
        rcases k3 q q1 with h1 | h1
        · exact (unlst _ q3 h1).elim
        · exact h1) h3
      rw [List.append_nil] at h4
      refine oper_sound hν hoper h h4 (fun s' a' w' β' hK hS => ih _ (by simp [hsz]) (by rw [hp', he]; omega) clsOk n (by rw [he]; exact hn) s' a' w' β' hS (by rw [hp, he]; exact hK))
end
end Go.Av

/-
  Code and functions of the model against the compact code.
-/
namespace Go.Av
open Go.RowKit (Below)

def exitOf : Ex → Exit
  | .normal => .normal
  | .exit id => .exit id
  | .ret => .ret

theorem least {p : Nat → Prop} (h : ∃ n, p n) : ∃ n, p n ∧ ∀ m, p m → n ≤ m := by
  obtain ⟨n, hn⟩ := h
  induction n using Nat.strongRecOn with
  | _ n ih =>
    by_cases hx : ∃ m, m < n ∧ p m
    · obtain ⟨m, hm, hp⟩ := hx
      exact ih m hm hp
    · exact ⟨n, hn, fun m hm => Nat.le_of_not_lt fun hlt => hx ⟨m, hlt, hm⟩⟩

section
variable {ν : Nat → FuncId} {w0 : World} {S : Nat → Prop} {X0 : Cx} {T : Tr}

theorem region_sound (hν : ∀ f id, T.num f = some id → ν id = f) {Q : Exit → Act → World → Prop} {id : Nat} {ops : Array Oper} {draw : Bool} {l : List Aop} (hr : T.region ops draw = some l) {s : St} {a : Act} {w : World} {β : Nat → Nat} (h : Sim ν T.nt w0 S X0 s a w β)
    {K : St → Prop} (hs : opsK (OkM T.P ν) l s K) (hQ : ∀ s' a' w' β', K s' → Sim ν T.nt w0 S X0 s' a' w' β' → Q .normal a' w') : (Code.region id ops draw).wp T.P Q a w := by
  cases draw with
  | false =>
    simp only [Tr.region, Bool.false_eq_true, if_false] at hr
    exact wp_region_list (list_sound hν hQ _ _ hr s a w β h hs)
  | true =>
    simp only [Tr.region, if_true] at hr
    split at hr
    · rename_i l' hz
      split at hr
      · rename_i hc
        cases hr
        simp only [Bool.and_eq_true] at hc
        have hsz := (zip_spec _ _ _ hz).1
        have hrem : rem (Array.replicate ops.size false) 0 l = l := by
          have : ∀ (l : List Aop) (k : Nat), k + l.length ≤ ops.size → rem (Array.replicate ops.size false) k l = l := by
            intro l
            induction l with
            | nil => intro k _; rfl
            | cons x r ih =>
              intro k hk
              simp only [List.length_cons] at hk
              have hk' : k < ops.size := by omega
              simp only [rem]
              rw [ih (k + 1) (by omega)]
              simp [hk']
          exact this l 0 (by simp at hsz; omega)
        refine wp_region_any hc.2 (any_sound hν rfl hz hc.1.1 hc.1.2 hQ _ _ (by simp) (by rw [hrem]; simp at hsz; omega) ?_ s a _ β (h.later ⟨rfl, rfl, rfl, Nat.le_refl _, fun _ _ => rfl⟩) (by rw [hrem]; exact hs))
        intro j o ho hl
        have hj : j < ops.size := (Array.getElem?_eq_some_iff.1 ho).1
        simp [hj] at hl
      · cases hr
    · cases hr

theorem zipG_spec {hh : Nat → Bool} {ops : Array Oper} : ∀ (L : List Oper) (k : Nat) (l : List Aop), T.zipG hh ops k L = some l → l.length = L.length ∧ ∀ (i : Nat) (o : Oper), L[i]? = some o → ∃ ao, l[i]? = some ao ∧ ∃ hf, T.oper ops hf o = some ao := by
  intro L
  induction L with
  | nil => intro k l h; simp [Tr.zipG] at h; subst h; exact ⟨rfl, fun i o h => by simp at h⟩
  | cons a L ih =>
    intro k l h
    simp only [Tr.zipG] at h
    split at h
    · rename_i ao l' h1 h2
      cases h
      obtain ⟨g1, g2⟩ := ih _ _ h2
      refine ⟨by simp [g1], fun i o ho => ?_⟩
      cases i with
      | zero => simp at ho; subst ho; exact ⟨ao, rfl, _, h1⟩
      | succ i => exact g2 i o (by simpa using ho)
    · cases h

theorem region2_sound (hν : ∀ f id, T.num f = some id → ν id = f) {Q : Exit → Act → World → Prop} {id : Nat} {ops : Array Oper} {p : List Aop × List Aop} (hr : T.region2 ops = some p) {s : St} {a : Act} {w : World} {β : Nat → Nat} (h : Sim ν T.nt w0 S X0 s a w β)
    {K : St → Prop} (hs1 : opsK (OkM T.P ν) p.1 s K) (hs2 : opsK (OkM T.P ν) p.2 s K) (hQ : ∀ s' a' w' β', K s' → Sim ν T.nt w0 S X0 s' a' w' β' → Q .normal a' w') : (Code.region id ops true).wp T.P Q a w := by
  simp only [Tr.region2] at hr
  split at hr
  · rename_i l hz
    split at hr
    · rename_i A B hconf
      split at hr
      · rename_i pB hfind
        split at hr
        · rename_i hc
          cases hr
          simp only [Bool.and_eq_true, bne_iff_ne, ne_eq] at hc
          obtain ⟨⟨⟨⟨⟨c1, c2⟩, c3⟩, c4⟩, c5⟩, c6⟩ := hc
          obtain ⟨hsz, hops⟩ := zipG_spec _ _ _ hz
          have hpB : pB.1 = B := by have := List.find?_some hfind; simpa using this
          have hpm : pB ∈ Tr.enum 0 l := List.mem_of_find?_eq_some hfind
          have all : ∀ L : List (Nat × Aop), (∀ p ∈ L, p.1 < ops.size) → remI (Array.replicate ops.size false) L = L.map (·.2) := by
            intro L hL
            unfold remI
            rw [List.filter_eq_self.2 fun p hp => by simp [hL p hp]]
          have b1 : ∀ p ∈ Tr.enum 0 l, p.1 < ops.size := by
            intro p hp
            have := ((enum_mem l 0 p).1 hp).2
            have := (List.getElem?_eq_some_iff.1 this).1
            simp at hsz this
            omega
          have b2 : ∀ p ∈ Tr.ins A pB ((Tr.enum 0 l).filter fun q => q.1 != B), p.1 < ops.size := by
            intro p hp
            rcases ins_mem.1 hp with rfl | hp
            · exact b1 _ hpm
            · exact b1 _ (List.mem_filter.1 hp).1
          refine wp_region_any c6 (any2_sound hν rfl c2 (L1 := Tr.enum 0 l) (L2 := Tr.ins A pB ((Tr.enum 0 l).filter fun q => q.1 != B)) c1 (fun i o ho => ?_) b1 c4 c5 (fun listed hl => ?_) hQ _ _ (by simp) ?_ ?_ s a _ β (h.later ⟨rfl, rfl, rfl, Nat.le_refl _, fun _ _ => rfl⟩) ?_ ?_)
          · obtain ⟨ao, g1, hf, g2⟩ := hops i o (by simpa using ho)
            have m1 : (i, ao) ∈ Tr.enum 0 l := (enum_mem l 0 (i, ao)).2 ⟨Nat.zero_le _, by simpa using g1⟩
            refine ⟨ao, hf, m1, ins_mem.2 ?_, g2, ?_⟩
            · by_cases e : i = B
              · left
                have := (enum_mem l 0 pB).1 hpm
                rw [hpB, ← e, Nat.sub_zero, g1] at this
                have h2 := Option.some.inj this.2
                rw [h2, e, ← hpB]
              · right; exact List.mem_filter.2 ⟨m1, by simpa using e⟩
            · have := List.all_eq_true.1 c3 ao (List.mem_of_getElem? g1)
              simpa using this
          · rw [ins_remI (by rw [hpB]; exact hl), filter_remI hl]
          · rw [all _ b1, enum_snd]; simp at hsz; omega
          · intro j o ho hl
            have hj : j < ops.size := (Array.getElem?_eq_some_iff.1 ho).1
            simp [hj] at hl
          · rw [all _ b1, enum_snd]; exact hs1
          · intro _ _; rw [all _ b2]; exact hs2
        · cases hr
      · cases hr
    · cases hr
  · cases hr

theorem enum_nodup : ∀ (l : List Aop) (k : Nat), ((Tr.enum k l).map (·.1)).Nodup
  | [], _ => by simp [Tr.enum]
  | x :: r, k => by
    simp only [Tr.enum, List.map_cons, List.nodup_cons]
    refine ⟨fun h => ?_, enum_nodup r (k + 1)⟩
    obtain ⟨p, hp, e⟩ := List.mem_map.1 h
    have := ((enum_mem r (k + 1) p).1 hp).1
    omega
theorem three (fp fe : Nat → Bool) : ∀ (L : List (Nat × Aop)), (L.filter fun p => fp p.1).length + (L.filter fun p => !fp p.1 && fe p.1).length + (L.filter fun p => !fp p.1 && !fe p.1).length = L.length
  | [] => rfl
  | p :: L => by
    have := three fp fe L
    cases h1 : fp p.1 <;> cases h2 : fe p.1 <;> simp [h1, h2] at this ⊢ <;> omega
theorem region3_sound (hν : ∀ f id, T.num f = some id → ν id = f) {Q : Exit → Act → World → Prop} {id : Nat} {ops : Array Oper} {cd : Cd} (hr : T.region3 ops = some cd) {s : St} {a : Act} {w : World} {β : Nat → Nat} (h : Sim ν T.nt w0 S X0 s a w β)
    {Qa : Ex → St → Prop} (hs : vc (OkM T.P ν) cd Qa s) (hQ : ∀ s' a' w' β', Qa .normal s' → Sim ν T.nt w0 S X0 s' a' w' β' → Q .normal a' w') : (Code.region id ops true).wp T.P Q a w := by
  obtain ⟨hh, fp, fe, hr⟩ : ∃ hh fp fe, T.region3' hh fp fe ops = some cd := by
    unfold Tr.region3 Tr.region3'' Tr.region4' at hr
    exact ⟨_, _, _, hr⟩
  simp only [Tr.region3'] at hr
  split at hr
  · rename_i l hz
    split at hr
    · rename_i hc
      cases hr
      simp only [Bool.and_eq_true, List.all_eq_true, Bool.or_eq_true, Bool.not_eq_true'] at hc
      obtain ⟨⟨⟨⟨⟨c1, c2⟩, c3⟩, c4⟩, c6⟩, c7⟩ := hc
      obtain ⟨hsz, hops⟩ := zipG_spec _ _ _ hz
      have b1 : ∀ p ∈ Tr.enum 0 l, p.1 < ops.size := by
        intro p hp
        have := ((enum_mem l 0 p).1 hp).2
        have := (List.getElem?_eq_some_iff.1 this).1
        simp at hsz this
        omega
      have fl : ∀ {f : Nat × Aop → Bool} {p}, p ∈ (Tr.enum 0 l).filter f → p ∈ Tr.enum 0 l ∧ f p = true := fun h => List.mem_filter.1 h
      have all : ∀ L : List (Nat × Aop), (∀ p ∈ L, p.1 < ops.size) → unl (Array.replicate ops.size false) L = L := by
        intro L hL
        unfold unl
        rw [List.filter_eq_self.2 fun p hp => by simp [hL p hp]]
      have allI : ∀ L : List (Nat × Aop), (∀ p ∈ L, p.1 < ops.size) → remI (Array.replicate ops.size false) L = L.map (·.2) := fun L hL => by
        have := all L hL
        unfold unl at this
        unfold remI
        rw [this]
      have hP := fun p (hp : p ∈ (Tr.enum 0 l).filter fun p => fp p.1) => b1 p (fl hp).1
      have hE := fun p (hp : p ∈ (Tr.enum 0 l).filter fun p => !fp p.1 && fe p.1) => b1 p (fl hp).1
      have hR := fun p (hp : p ∈ (Tr.enum 0 l).filter fun p => !fp p.1 && !fe p.1) => b1 p (fl hp).1
      have nE : (((Tr.enum 0 l).filter fun p => !fp p.1 && fe p.1).map (·.1)).Nodup := (enum_nodup l 0).sublist (List.Sublist.map _ (List.filter_sublist ..))
      refine wp_region_any c7 (any3_sound (n := ((Tr.enum 0 l).filter fun p => !fp p.1 && fe p.1).length) (K := Qa .normal) hν rfl c1 (P := (Tr.enum 0 l).filter fun p => fp p.1) (E := (Tr.enum 0 l).filter fun p => !fp p.1 && fe p.1) (R := (Tr.enum 0 l).filter fun p => !fp p.1 && !fe p.1) (fun i o ho => ?_) hP hE hR
        (fun p hp e he hpe => ?_) (fun p hp e he hpe => ?_) (fun p hp e he hpe => ?_) (fun p hp q hq hpq => ?_) nE c2 c3 (fun p hp => ?_) (fun r hr => ?_) hQ _ _ (by simp) ?_ ?_ ?_ s a _ β (h.later ⟨rfl, rfl, rfl, Nat.le_refl _, fun _ _ => rfl⟩) ?_)
      · obtain ⟨ao, g1, hf, g2⟩ := hops i o (by simpa using ho)
        have m1 : (i, ao) ∈ Tr.enum 0 l := (enum_mem l 0 (i, ao)).2 ⟨Nat.zero_le _, by simpa using g1⟩
        refine ⟨ao, hf, ?_, g2⟩
        cases e1 : fp i with
        | true => exact .inl (List.mem_filter.2 ⟨m1, e1⟩)
        | false =>
          cases e2 : fe i with
          | true => exact .inr (.inl (List.mem_filter.2 ⟨m1, by simp [e1, e2]⟩))
          | false => exact .inr (.inr (List.mem_filter.2 ⟨m1, by simp [e1, e2]⟩))
      · have h1 := (fl hp).2
        have h2 := (fl he).2
        simp only [hpe] at h1
        simp [h1] at h2
      · have h1 := (fl hp).2
        have h2 := (fl he).2
        simp only [hpe] at h1
        simp [h1] at h2
      · have h1 := (fl hp).2
        have h2 := (fl he).2
        simp only [hpe, Bool.and_eq_true] at h1
        simp [h1.2] at h2
      · have h1 := ((enum_mem l 0 p).1 (fl hp).1).2
        have h2 := ((enum_mem l 0 q).1 (fl hq).1).2
        rw [hpq, h2] at h1
        exact Prod.ext hpq (Option.some.inj h1).symm
      · obtain ⟨d1, d2⟩ := c4 p hp
        exact ⟨d1, d2⟩
      · obtain ⟨⟨⟨⟨d1, d0⟩, d2⟩, d3⟩, d4⟩ := c6 r hr
        exact ⟨d1, d0, d2, d3, d4⟩
      · rw [all _ hP, all _ hE, all _ hR, three, enum_len]
        simp at hsz; omega
      · intro j o ho hl
        have hj : j < ops.size := (Array.getElem?_eq_some_iff.1 ho).1
        simp [hj] at hl
      · rw [all _ hE]; exact Nat.le_refl _
      · rw [allI _ hP, all _ hE, allI _ hR]
        exact opsK_mono (fun s1 hs1 => vc_tree _ _ _ hs1) hs
    · cases hr
  · cases hr

theorem codeR_sound (hν : ∀ f id, T.num f = some id → ν id = f) {id : Nat} {ops : Array Oper} {draw : Bool} {cd : Cd} (h : T.codeR ops draw = some cd) {Qa : Ex → St → Prop} {Q : Exit → Act → World → Prop} {s : St} {a : Act} {w : World} {β : Nat → Nat} (hS : Sim ν T.nt w0 S X0 s a w β) (hv : vc (OkM T.P ν) cd Qa s)
    (hQ : ∀ ex s a w β, Qa ex s → Sim ν T.nt w0 S X0 s a w β → Q (exitOf ex) a w) : (Code.region id ops draw).wp T.P Q a w := by
  simp only [Tr.codeR] at h
  split at h
  · rename_i hd
    cases draw with
    | false => simp at hd
    | true => exact region3_sound hν h hS hv (fun s' a' w' β' hK hS' => hQ .normal _ _ _ _ hK hS')
  split at h
  · rename_i l hl
    cases h
    exact region_sound hν hl hS hv (fun s' a' w' β' hK hS' => hQ .normal _ _ _ _ hK hS')
  · split at h
    · rename_i hd
      cases draw with
      | false => cases hd
      | true =>
        split at h
        · rename_i p hp
          cases h
          exact region2_sound hν hp hS hv.1 hv.2 (fun s' a' w' β' hK hS' => hQ .normal _ _ _ _ hK hS')
        · exact region3_sound hν h hS hv (fun s' a' w' β' hK hS' => hQ .normal _ _ _ _ hK hS')
    · cases h

theorem code_sound (hν : ∀ f id, T.num f = some id → ν id = f) : ∀ (c : Code) (cd : Cd), T.code c = some cd → ∀ (Qa : Ex → St → Prop) (Q : Exit → Act → World → Prop) (s : St) (a : Act) (w : World) (β : Nat → Nat), Sim ν T.nt w0 S X0 s a w β → vc (OkM T.P ν) cd Qa s →
    (∀ ex s a w β, Qa ex s → Sim ν T.nt w0 S X0 s a w β → Q (exitOf ex) a w) → c.wp T.P Q a w := by
  intro c
  induction c with
  | skip => intro cd h Qa Q s a w β hS hv hQ; cases h; exact wp_skip (hQ _ _ _ _ _ hv hS)
  | region id ops draw =>
    intro cd h Qa Q s a w β hS hv hQ
    simp only [Tr.code] at h
    split at h
    · rename_i c hc
      cases h
      exact codeR_sound hν hc hS hv hQ
    · split at h
      · cases h
        exfalso
        simp [Tr.stuckCd, vc, opsK, opK, stepK, pvf, pLd, OptK] at hv
      · cases h
  | seq x y ihx ihy =>
    intro cd h Qa Q s a w β hS hv hQ
    obtain ⟨x', hx, h⟩ := bind_some h
    obtain ⟨y', hy, rfl⟩ := map_some h
    refine wp_seq (ihx x' hx _ _ s a w β hS hv fun ex s a w β hq hS' => ?_)
    cases ex with
    | normal => exact ihy y' hy Qa Q s a w β hS' hq hQ
    | exit id => exact hQ _ _ _ _ _ hq hS'
    | ret => exact hQ _ _ _ _ _ hq hS'
  | cond c x y ihx ihy =>
    intro cd h Qa Q s a w β hS hv hQ
    obtain ⟨c', hc, h⟩ := bind_some h
    obtain ⟨x', hx, h⟩ := bind_some h
    obtain ⟨y', hy, rfl⟩ := map_some h
    have hr := opd_sound (T := T) hν hS.env hc
    simp only [vc] at hv
    split at hv
    · rename_i t ht
      rw [ht] at hr
      exact wp_cond_split hr.inv_v (fun e => ihx x' hx Qa Q s a w β hS (hv.1 e) hQ) (fun e => ihy y' hy Qa Q s a w β hS (hv.2 e) hQ)
    · exact hv.elim
  | block id b ih =>
    intro cd h Qa Q s a w β hS hv hQ
    obtain ⟨b', hb, rfl⟩ := map_some h
    refine wp_block (ih b' hb _ _ s a w β hS hv fun ex s a w β hq hS' => ?_)
    cases ex with
    | normal => exact hQ _ _ _ _ _ hq hS'
    | ret => exact hQ _ _ _ _ _ hq hS'
    | exit id' =>
      simp only [Ex.inBlock] at hq
      simp only [exitOf, Exit.inBlock]
      split
      · rename_i e; rw [if_pos e] at hq; exact hQ _ _ _ _ _ hq hS'
      · rename_i e; rw [if_neg e] at hq; exact hQ _ _ _ _ _ hq hS'
  | loop b ih =>
    intro cd h Qa Q s a w β hS hv hQ
    obtain ⟨b', hb, rfl⟩ := map_some h
    obtain ⟨I, μ, hI, hround⟩ := hv
    have hchoice : ∀ p : Act × World, ∃ n : Nat, (∃ s β, I s ∧ Sim ν T.nt w0 S X0 s p.1 p.2 β) → (∃ s β, I s ∧ Sim ν T.nt w0 S X0 s p.1 p.2 β ∧ μ s = n) ∧ ∀ s β, I s → Sim ν T.nt w0 S X0 s p.1 p.2 β → n ≤ μ s := by
      intro p
      by_cases hx : ∃ s β, I s ∧ Sim ν T.nt w0 S X0 s p.1 p.2 β
      · obtain ⟨s, β, h1, h2⟩ := hx
        obtain ⟨n, ⟨s', β', g1, g2, g3⟩, hmin⟩ := least (p := fun n => ∃ s β, I s ∧ Sim ν T.nt w0 S X0 s p.1 p.2 β ∧ μ s = n) ⟨μ s, s, β, h1, h2, rfl⟩
        exact ⟨n, fun _ => ⟨⟨s', β', g1, g2, g3⟩, fun s β k1 k2 => hmin _ ⟨s, β, k1, k2, rfl⟩⟩⟩
      · exact ⟨0, fun h => absurd h hx⟩
    obtain ⟨f, hf⟩ := Classical.axiomOfChoice hchoice
    refine wp_loop (fun a w => ∃ s β, I s ∧ Sim ν T.nt w0 S X0 s a w β) (fun a w => f (a, w)) ⟨s, β, hI, hS⟩ fun a w hx => ?_
    obtain ⟨⟨s', β', h1, h2, h3⟩, _⟩ := hf (a, w) hx
    refine ih b' hb _ _ s' a w β' h2 (hround s' h1) fun ex s2 a2 w2 β2 hq hS2 => ?_
    cases ex with
    | normal =>
      simp only [Ex.andThen] at hq
      simp only [exitOf, Exit.then]
      refine ⟨⟨s2, β2, hq.1, hS2⟩, ?_⟩
      have := (hf (a2, w2) ⟨s2, β2, hq.1, hS2⟩).2 s2 β2 hq.1 hS2
      omega
    | exit id => exact hQ _ _ _ _ _ hq hS2
    | ret => exact hQ _ _ _ _ _ hq hS2
  | exit id => intro cd h Qa Q s a w β hS hv hQ; cases h; exact wp_exit (hQ _ _ _ _ _ hv hS)
  | scope b ih =>
    intro cd h Qa Q s a w β hS hv hQ
    obtain ⟨b', hb, rfl⟩ := map_some h
    refine wp_scope_straight (ih b' hb _ _ s a w β hS hv fun ex s a w β hq hS' => ?_)
    cases ex with
    | normal => exact hQ _ _ _ _ _ hq hS'
    | ret => exact hQ _ _ _ _ _ hq hS'
    | exit id' => exact hQ _ _ _ _ _ hq hS'
  | label l => intro cd h Qa Q s a w β hS hv hQ; cases h; exact wp_label (hQ _ _ _ _ _ hv hS)
  | ret => intro cd h Qa Q s a w β hS hv hQ; cases h; exact wp_ret (hQ _ _ _ _ _ hv hS)
  | _ => intro cd h; cases h

def rvF (tmps : Array Value) : ResultVar → Sem Value
  | .tmp t => pure (tmps.getD t undef)
  | .cell a t => do loadVar t (← asAddr (tmps.getD a undef))
theorem results_eq (fn : Func) (tmps : Array Value) : results fn tmps = (do let vs ← fn.results.mapM (rvF tmps); pure (if h : vs.size = 1 then vs[0] else .tuple vs)) := by
  unfold results
  congr 2
  

theorem run_ld {s : St} {a : Act} {w : World} {β : Nat → Nat} (h : Sim ν T.nt w0 S X0 s a w β) {t : Nat} {ty : TypeId} {n : Option Nat} (hn : T.shape ty = some n) {u : AV} (hu : pLd s.heap n [s.env t] = some u) :
    ∃ v, (rvF a.tmps (.cell t ty)).run T.P w = .ok v w ∧ Rep ν ⟨β, s.heap, s.next, w, S⟩ u v := by
  have hx := h.env t
  unfold pLd at hu
  split at hu
  · rename_i c o' heq
    simp only [List.cons.injEq, and_true] at heq
    rw [heq] at hx
    obtain ⟨b, base, us, hp, hS, hc, hr⟩ := hx.inv_ptr
    obtain ⟨v, h1, h2⟩ := load_row (X := ⟨β, s.heap, s.next, w, S⟩) hn hc (fun i h => .pure (hr i h)) hu
    simp only at h1
    exact ⟨v, by simp [rvF, hp, asAddr, h1], h2⟩
  · rename_i o' q l heq
    simp only [List.cons.injEq, and_true] at heq
    rw [heq] at hx
    cases hc : s.heap o' with
    | none => simp [hc] at hu
    | some c =>
      simp only [hc] at hu
      split at hu
      · rename_i he
        obtain ⟨h1, h2, h3, h4⟩ := hx.inv_mp
        obtain ⟨hp, hrow⟩ := h4 c hc he
        obtain ⟨_, _, r, e, hr, hle, hrep⟩ := h.objs.row hc hrow
        simp only at hr hp
        obtain ⟨v, h5, h6⟩ := load_row (ν := ν) (X := ⟨β, s.heap, s.next, w, S⟩) (base := 0) (o := q) (us := fun i => r.getD i undef) hn (b := β o') (c := c) (fun i hi => by
          rw [Nat.zero_add, cell_of_row _ _ _ _ _ _ hr]; have : i < r.size := by omega
          simp [this]) hrep hu
        rw [Nat.zero_add] at h5
        simp only at h5
        exact ⟨v, by simp [rvF, hp, asAddr, h5], h6⟩
      · cases hu
  · cases hu

theorem run_rvs {s : St} {a : Act} {w : World} {β : Nat → Nat} (h : Sim ν T.nt w0 S X0 s a w β) : ∀ (l : List ResultVar) (rs : List Rv) (xs : List AV), l.mapM T.rv = some rs → rvs s rs = some xs →
    ∃ vs : List Value, (l.mapM (rvF a.tmps)).run T.P w = .ok vs w ∧ vs.length = xs.length ∧ ∀ i (hi : i < xs.length), Rep ν ⟨β, s.heap, s.next, w, S⟩ xs[i] (vs.getD i undef) := by
  intro l
  induction l with
  | nil => intro rs xs h1 h2; simp at h1; subst h1; cases h2; exact ⟨[], by simp, rfl, fun i hi => by simp at hi⟩
  | cons x l ih =>
    intro rs xs h1 h2
    simp only [List.mapM_cons, Option.pure_def, Option.bind_eq_bind] at h1
    obtain ⟨r, hr, h1⟩ := bind_some h1
    obtain ⟨rs', hrs', h1⟩ := bind_some h1
    cases h1
    have fin : ∀ (u : AV) (v : Value) (xs' : List AV), (rvF a.tmps x).run T.P w = .ok v w → Rep ν ⟨β, s.heap, s.next, w, S⟩ u v → rvs s rs' = some xs' → xs = u :: xs' →
        ∃ vs : List Value, ((x :: l).mapM (rvF a.tmps)).run T.P w = .ok vs w ∧ vs.length = xs.length ∧ ∀ i (hi : i < xs.length), Rep ν ⟨β, s.heap, s.next, w, S⟩ xs[i] (vs.getD i undef) := by
      rintro u v xs' g1 g2 g3 rfl
      obtain ⟨vs, k1, k2, k3⟩ := ih rs' xs' hrs' g3
      refine ⟨v :: vs, by simp [List.mapM_cons, g1, k1], by simp [k2], fun i hi => ?_⟩
      cases i with
      | zero => exact g2
      | succ i => exact k3 i (by simpa using hi)
    cases x with
    | tmp t =>
      simp only [Tr.rv] at hr
      split at hr
      · cases hr
        simp only [rvs] at h2
        obtain ⟨xs', g1, g2⟩ := map_some h2
        exact fin (s.env t) (a.tmps.getD t undef) xs' (by simp [rvF]) (h.env t) g1 g2.symm
      · cases hr
    | cell t ty =>
      simp only [Tr.rv] at hr
      split at hr
      · obtain ⟨n, hn, rfl⟩ := map_some hr
        simp only [rvs] at h2
        split at h2
        · rename_i u hu
          obtain ⟨xs', g1, g2⟩ := map_some h2
          obtain ⟨v, k1, k2⟩ := run_ld h hn hu
          exact fin u v xs' k1 k2 g1 g2.symm
        · cases h2
      · cases hr

theorem run_res {s : St} {a : Act} {w : World} {β : Nat → Nat} (h : Sim ν T.nt w0 S X0 s a w β) {fn : Func} {rs : List Rv} {r : AV} (h1 : fn.results.toList.mapM T.rv = some rs) (h2 : resOf s rs = some r) :
    ∃ v, (results fn a.tmps).run T.P w = .ok v w ∧ Rep ν ⟨β, s.heap, s.next, w, S⟩ r v := by
  unfold resOf at h2
  cases hx : rvs s rs with
  | none => rw [hx] at h2; cases h2
  | some xs =>
    rw [hx] at h2
    obtain ⟨vs, k1, k2, k3⟩ := run_rvs h _ _ _ h1 hx
    have hm : (fn.results.mapM (rvF a.tmps)).run T.P w = .ok vs.toArray w := by
      have : fn.results = fn.results.toList.toArray := by simp
      rw [this, List.mapM_toArray]
      simp [k1]
    have tup : r = .tup xs → xs.length ≠ 1 → ∃ v, (results fn a.tmps).run T.P w = .ok v w ∧ Rep ν ⟨β, s.heap, s.next, w, S⟩ r v := by
      rintro rfl hne
      refine ⟨.tuple vs.toArray, ?_, .tup vs.toArray (by simp [k2]) (fun i hi => by simpa using k3 i hi)⟩
      rw [results_eq]
      simp [hm, k2, hne]
    match xs, h2, k2, k3, tup with
    | [x], h2, k2, k3, _ =>
      cases h2
      obtain ⟨v, rfl⟩ : ∃ v, vs = [v] := List.length_eq_one_iff.1 k2
      exact ⟨v, by rw [results_eq]; simp [hm], k3 0 (by simp)⟩
    | [], h2, _, _, tup => cases h2; exact tup rfl (by simp)
    | x :: y :: l, h2, _, _, tup => cases h2; exact tup rfl (by simp)

/-- A function of the model whose compact form does what is asked. -/
theorem fn_sound {P : Program} {num : FuncId → Option Nat} {hint : List (Nat × Nat)} {fn : Func} {f : Fd} (hfd : fd P num hint fn = some f) (hν : ∀ f id, num f = some id → ν id = f) {id : Nat} (hid : P.funcs[ν id]? = some fn) (hname : (fn.name == "runtime.NumGoroutine") = false)
    {args : List AV} {H : Hp} {nx : Nat} {Φ : AV → Hp → Nat → Prop} (hok : fnOk (OkM P ν) f args H nx Φ) : OkM P ν id args H nx Φ := by
  unfold fd at hfd
  cases hb : fn.body with
  | none => simp [hb] at hfd
  | some c =>
    simp only [hb] at hfd
    split at hfd
    · rename_i hnp
      obtain ⟨b, hcode, hfd⟩ := bind_some hfd
      obtain ⟨rs, hrs, rfl⟩ := map_some hfd
      obtain ⟨hlen, hv⟩ := hok
      simp only at hlen hv
      refine ⟨⟨fn, hid, by simp [hb], hname⟩, fun w0 S β w vs hobj hbel hsz hargs => calls_of_wp hid hb ?_⟩
      have hS : Sim ν fn.ntmps w0 S ⟨β, H, nx, w, S⟩ (st0 args H nx) { tmps := vs ++ Array.replicate (fn.ntmps - vs.size) undef, defers := [] } w β := by
        refine ⟨fun t => ?_, by simp; omega, rfl, hobj, hbel, Ext.refl _⟩
        simp only [st0, env0]
        by_cases ht : t < args.length
        · have e1 : (vs ++ Array.replicate (fn.ntmps - vs.size) undef).getD t undef = vs.getD t undef := by
            have : t < vs.size := by omega
            simp [Array.getElem?_append_left this]
          have e2 : args.getD t (.v undef) = args[t] := by simp [ht]
          rw [e1, e2]
          exact hargs t ht
        · have e1 : (vs ++ Array.replicate (fn.ntmps - vs.size) undef).getD t undef = undef := by
            have : vs.size ≤ t := by omega
            rw [Array.getD_eq_getD_getElem?, Array.getElem?_append_right this]
            by_cases h2 : t - vs.size < fn.ntmps - vs.size
            · simp [h2]
            · rw [Array.getElem?_eq_none (by simp; omega)]; rfl
          have e2 : args.getD t (.v undef) = .v undef := by simp [List.getElem?_eq_none (Nat.le_of_not_lt ht)]
          rw [e1, e2]
          exact .pure (.v _)
      refine code_sound (T := ⟨P, num, hint, fn.ntmps⟩) hν c b hcode _ _ _ _ w β hS hv fun ex s a w' β' hq hS' => ?_
      have fin : (∃ r, resOf s rs = some r ∧ ∃ H', Sub H' s.heap ∧ Φ r H' s.next) → a.defers = [] ∧ ∃ v, (results fn a.tmps).run P w' = .ok v w' ∧ ∃ v' r H' nx' β'', (Ending.returned v) = .returned v' ∧ Φ r H' nx' ∧ Rep ν ⟨β'', H', nx', w', S⟩ r v' ∧ Objs ν w0.heap.size ⟨β'', H', nx', w', S⟩ ∧ Ext ⟨β, H, nx, w, S⟩ ⟨β'', H', nx', w', S⟩ ∧ Below w0.heap.size w0 w' := by
        rintro ⟨r, hr, H', hsub, hΦ⟩
        obtain ⟨v, k1, k2⟩ := run_res hS' hrs hr
        have hx : Ext ⟨β', s.heap, s.next, w', S⟩ ⟨β', H', s.next, w', S⟩ :=
          ⟨Nat.le_refl _, fun b hb => ⟨hb.1, fun o c hc => hb.2 o c (hsub o c hc)⟩, fun _ _ => rfl, fun o c' _ hc' => ⟨c', hsub o c' hc', .inr ⟨rfl, rfl, fun r e f hr => ⟨r, e, f, hr, rfl⟩⟩⟩, fun _ _ _ _ es q hm => ⟨rfl, es, q, hm⟩⟩
        refine ⟨hS'.defers, v, k1, v, r, H', s.next, β', rfl, hΦ, k2.mono hx, ⟨fun o c hc => ?_, fun o o' c c' hc hc' he => hS'.objs.inj o o' c c' (hsub o c hc) (hsub o' c' hc') he, hS'.objs.le, hS'.objs.new⟩, hS'.ext.trans hx, hS'.below⟩
        obtain ⟨g1, g2, ob, g3, g5⟩ := hS'.objs.obj o c (hsub o c hc)
        exact ⟨g1, g2, ob, g3, g5.mono hx⟩
      cases ex with
      | normal => exact fin hq
      | ret => exact fin hq
      | exit id => exact hq.elim
    · cases hfd
end
end Go.Av

/-
  The words in which contracts are said and proved.
-/
namespace Go.Av

/-- All objects have numbers below nx. -/
def Wf (H : Hp) (nx : Nat) : Prop := ∀ o, nx ≤ o → H o = none

/-- Function id of the program is, in the second form, V. -/
def Has (P : Program) (ν : Nat → FuncId) (id np : Nat) (V : Vc) : Prop :=
  ∀ (args : List AV) (H : Hp) (nx : Nat) (Φ : AV → Hp → Nat → Prop), args.length = np → (Wf H nx → den (OkM P ν) Φ V np (env0 args) H nx noInv) → OkM P ν id args H nx Φ

def vcOf (P : Program) (num : FuncId → Option Nat) (hint : List (Nat × Nat)) (fn : Func) : Option (Nat × Vc) :=
  (fd P num hint fn).bind fun f => (symF f).map fun V => (f.np, V)

theorem has_of {P : Program} {ν : Nat → FuncId} {num : FuncId → Option Nat} (hν : ∀ f id, num f = some id → ν id = f) {hint : List (Nat × Nat)} {fn : Func} {id np : Nat} {V : Vc} (hv : vcOf P num hint fn = some (np, V)) (hid : P.funcs[ν id]? = some fn) (hname : (fn.name == "runtime.NumGoroutine") = false) : Has P ν id np V := by
  obtain ⟨f, hf, hv⟩ := bindSome hv
  obtain ⟨V', hV', hv⟩ := mapSome hv
  cases hv
  intro args H nx Φ hl hd
  by_cases hw : Wf H nx
  · exact fn_sound hf hν hid hname (symF_sound hV' hl (hd hw))
  · refine ⟨⟨fn, hid, ?_, hname⟩, fun w0 S β w vs hobj => absurd (fun o ho => ?_) hw⟩
    · unfold fd at hf
      cases hb : fn.body with
      | none => simp [hb] at hf
      | some c => rfl
    · cases hH : H o with
      | none => rfl
      | some c => have := (hobj.obj o c hH).1; simp only at this; omega

section
variable {C : Ct} {Φ : AV → Hp → Nat → Prop} {n : Nat} {vars : Nat → AV} {H : Hp} {nx : Nat} {Is : Nat → Inv} {r : Vc}

def denS (C : Ct) (Φ : AV → Hp → Nat → Prop) (o : Option AV) (r : Vc) (n : Nat) (vars : Nat → AV) (H : Hp) (nx : Nat) (Is : Nat → Inv) : Prop :=
  match o with
  | some u => den C Φ r (n + 1) (put vars n u) H nx Is
  | none => False
def denB (C : Ct) (Φ : AV → Hp → Nat → Prop) (o : AV) (a b : Vc) (n : Nat) (vars : Nat → AV) (H : Hp) (nx : Nat) (Is : Nat → Inv) : Prop :=
  match o with
  | .v (.bool t) => (t = true → den C Φ a n vars H nx Is) ∧ (t = false → den C Φ b n vars H nx Is)
  | _ => False

theorem den_p {h : Bool} {op : PO} {xs : List Opd} : den C Φ (.op h (.p op xs) r) n vars H nx Is = denS C Φ (pvf (if h then H else hempty) op (xs.map (ev vars))) r n vars H nx Is := by
  simp only [den, stepK, OptK, St.put, eq_iff_iff, denS]
  cases pvf (if h then H else hempty) op (xs.map (ev vars)) <;> simp
theorem denS_some {u : AV} : denS C Φ (some u) r n vars H nx Is = den C Φ r (n + 1) (put vars n u) H nx Is := rfl
theorem denS_none : denS C Φ none r n vars H nx Is = False := rfl
theorem denS_ite {c : Prop} [Decidable c] {u : AV} : denS C Φ (if c then some u else none) r n vars H nx Is = (c ∧ den C Φ r (n + 1) (put vars n u) H nx Is) := by
  by_cases h : c <;> simp [h, denS]
theorem den_br {c : Nat} {a b : Vc} : den C Φ (.br c a b) n vars H nx Is = denB C Φ (vars c) a b n vars H nx Is := rfl
theorem denB_bool {t : Bool} {a b : Vc} : denB C Φ (bool t) a b n vars H nx Is = ((t = true → den C Φ a n vars H nx Is) ∧ (t = false → den C Φ b n vars H nx Is)) := rfl
theorem den_again {d : Nat} {es : List Opd} : den C Φ (.again d es) n vars H nx Is = Is d (es.map (ev vars)) H nx := rfl
theorem den_ret {rs : List (Opd × Option (Option Nat))} : den C Φ (.ret rs) n vars H nx Is = ∃ r, retOf vars H rs = some r ∧ ∃ H', Sub H' H ∧ Φ r H' nx := rfl

theorem den_call {h : Bool} {f : Opd} {xs : List Opd} {fc : Nat × List AV} {ys : List AV} {u : AV} (hf : fnOf (ev vars f) = some fc) (hys : frzL (if h then H else hempty) (xs.map (ev vars) ++ fc.2) = some ys) (hr : Fz C fc.1 ys u) (hk : den C Φ r (n + 1) (put vars n u) H nx Is) :
    den C Φ (.op h (.call f xs) r) n vars H nx Is := ⟨fc, hf, .inl ⟨ys, hys, u, hr, hk⟩⟩
theorem den_calli {h : Bool} {f : Opd} {xs : List Opd} {fc : Nat × List AV} {ys : List AV} {u : AV} (hf : fnOf (ev vars f) = some fc) (hys : frzL hempty (xs.map (ev vars) ++ fc.2) = some ys) (hr : Fi C fc.1 ys u) (hk : den C Φ r (n + 1) (put vars n u) H nx Is) :
    den C Φ (.op h (.call f xs) r) n vars H nx Is := ⟨fc, hf, .inr ⟨ys, hys, u, hr, hk⟩⟩
theorem den_callm {f : Opd} {xs : List Opd} {fc : Nat × List AV} {Ψ : AV → Hp → Nat → Prop} (hf : fnOf (ev vars f) = some fc) (hc : C fc.1 (xs.map (ev vars) ++ fc.2) H nx Ψ) (hne : ∃ u H' nx', Ψ u H' nx') (hk : ∀ u H' nx', Ψ u H' nx' → den C Φ r (n + 1) (put vars n u) H' nx' Is) :
    den C Φ (.op true (.callm f xs) r) n vars H nx Is := ⟨rfl, fc, hf, Ψ, hc, hne, hk⟩
theorem den_callo {f : Opd} {xs : List Opd} {fc : Nat × List AV} {ys : List AV} {Ψ : AV → Hp → Nat → Prop} (hf : fnOf (ev vars f) = some fc) (hys : frzL H (xs.map (ev vars) ++ fc.2) = some ys) (hc : C fc.1 ys hempty nx Ψ) (hne : ∃ u H' nx', Ψ u H' nx')
    (hk : ∀ u H' nx', Ψ u H' nx' → cln nx fuel u = true ∧ clnH nx H' ∧ den C Φ r (n + 1) (put vars n u) (hmerge nx H H') nx' Is) : den C Φ (.op true (.callo f xs) r) n vars H nx Is := ⟨rfl, fc, hf, ys, hys, Ψ, hc, hne, hk⟩
theorem den_callz {f : Opd} {xs : List Opd} {fc : Nat × List AV} {ys : List AV} {u : AV} (hf : fnOf (ev vars f) = some fc) (hys : frzL H (xs.map (ev vars) ++ fc.2) = some ys) (hr : Fi C fc.1 ys u) (hk : den C Φ r (n + 1) (put vars n u) hempty nx Is) :
    den C Φ (.op true (.callz f xs) r) n vars H nx Is := ⟨rfl, fc, hf, ys, hys, u, hr, hk⟩
theorem den_alt {op : BO} {xs : List Opd} {l : List (AV × Hp × Nat)} (h1 : altTo ⟨vars, H, nx⟩ op (xs.map (ev vars)) = some l) (h2 : l ≠ []) (hk : ∀ q ∈ l, den C Φ r (n + 1) (put vars n q.1) q.2.1 q.2.2 Is) :
    den C Φ (.op true (.alt op xs) r) n vars H nx Is := ⟨rfl, l, h1, h2, hk⟩
theorem den_app {sz : Nat} {x y : Opd} {cm : List AV × Nat} {q : AV × Hp × Nat} (h1 : appCells H sz (ev vars y) = some cm) (h2 : cm.1.all AV.one = true) (h3 : appTo ⟨vars, H, nx⟩ sz (ev vars x) cm.1 cm.2 = some q) (hk : den C Φ r (n + 1) (put vars n q.1) q.2.1 q.2.2 Is) :
    den C Φ (.op true (.app sz x y) r) n vars H nx Is := ⟨rfl, cm, h1, h2, q, h3, hk⟩
theorem den_st {m : Nat} {x y : Opd} {h : Hp} (h1 : stTo ⟨vars, H, nx⟩ m (ev vars x) (ev vars y) = some h) (hk : den C Φ r (n + 1) (put vars n (.v undef)) h nx Is) : den C Φ (.op true (.st m x y) r) n vars H nx Is := ⟨rfl, h, h1, hk⟩
theorem den_new {z : List AV} (hk : den C Φ r (n + 1) (put vars n (.mp nx 0 z.length)) (hput H nx (some z)) (nx + 1) Is) : den C Φ (.op true (.new z) r) n vars H nx Is := ⟨rfl, hk⟩
theorem den_boxm {x : Opd} (h1 : (ev vars x).cells.all AV.one = true) (hk : den C Φ r (n + 1) (put vars n (.mp nx 0 (ev vars x).cells.length)) (hput H nx (some (ev vars x).cells)) (nx + 1) Is) : den C Φ (.op true (.boxm x) r) n vars H nx Is := ⟨rfl, h1, hk⟩
theorem den_mks {z : List AV} {x y : Opd} {q : AV × Hp × Nat} (h1 : mkTo ⟨vars, H, nx⟩ z (ev vars x) (ev vars y) = some q) (hk : den C Φ r (n + 1) (put vars n q.1) q.2.1 q.2.2 Is) : den C Φ (.op true (.mks z x y) r) n vars H nx Is := ⟨rfl, q, h1, hk⟩
theorem den_mslm {sz m : Nat} {z : List AV} {ps : List (Nat × Nat)} {xs : List Opd} {q : AV × Hp × Nat} (h1 : mslTo ⟨vars, H, nx⟩ sz m z ps (xs.map (ev vars)) = some q) (hk : den C Φ r (n + 1) (put vars n q.1) q.2.1 q.2.2 Is) : den C Φ (.op true (.mslm sz m z ps xs) r) n vars H nx Is := ⟨rfl, q, h1, hk⟩

theorem den_mono (V : Vc) : ∀ {n : Nat} {vars : Nat → AV} {H : Hp} {nx : Nat} {Is Is' : Nat → Inv}, (∀ j us H nx, Is j us H nx → Is' j us H nx) → den C Φ V n vars H nx Is → den C Φ V n vars H nx Is' := by
  induction V with
  | op h k r ih =>
    intro n vars H nx Is Is' hi hd
    exact stepK_mono (fun s hs => ih hi hs) hd
  | br c a b iha ihb =>
    intro n vars H nx Is Is' hi hd
    simp only [den] at hd ⊢
    split
    · rename_i t ht
      simp only [ht] at hd
      exact ⟨fun e => iha hi (hd.1 e), fun e => ihb hi (hd.2 e)⟩
    · rename_i hn
      split at hd
      · rename_i t ht; exact hn t ht
      · exact hd
  | both a b iha ihb => intro n vars H nx Is Is' hi hd; exact ⟨iha hi hd.1, ihb hi hd.2⟩
  | loop d init body ih =>
    intro n vars H nx Is Is' hi hd
    obtain ⟨I, μ, h0, h1⟩ := hd
    refine ⟨I, μ, h0, fun us H' nx' hl hI => ih (fun j us H nx hj => ?_) (h1 us H' nx' hl hI)⟩
    simp only [iput] at hj ⊢
    split at hj
    · rename_i e; rw [if_pos e]; exact hj
    · rename_i e; rw [if_neg e]; exact hi _ _ _ _ hj
  | again d es => intro n vars H nx Is Is' hi hd; exact hi _ _ _ _ hd
  | ret rs => intro n vars H nx Is Is' hi hd; exact hd

/-- A loop: α tells the round; the carried values are read off it; Hh says what is known of it and of the objects. -/
theorem den_loop {α : Type} {d : Nat} {init : List Opd} {body : Vc} (st : α → List AV) (Hh : α → Hp → Nat → Prop) (μ : α → Nat) (a0 : α) (h0 : init.map (ev vars) = st a0) (h1 : Hh a0 H nx) 
    (hr : ∀ a H' nx', Hh a H' nx' → den C Φ body (n + init.length) (puts vars n (st a)) H' nx' (iput Is d fun us H'' nx'' => ∃ a', us = st a' ∧ Hh a' H'' nx'' ∧ μ a' < μ a)) :
    den C Φ (.loop d init body) n vars H nx Is := by
  -- the measure: the least of those that fit
  have hch : ∀ p : List AV × Hp × Nat, ∃ m : Nat, (∃ a, p.1 = st a ∧ Hh a p.2.1 p.2.2) → (∃ a, p.1 = st a ∧ Hh a p.2.1 p.2.2 ∧ μ a = m) ∧ ∀ a, p.1 = st a → Hh a p.2.1 p.2.2 → m ≤ μ a := by
    intro p
    by_cases hx : ∃ a, p.1 = st a ∧ Hh a p.2.1 p.2.2
    · obtain ⟨a, h1, h2⟩ := hx
      obtain ⟨m, ⟨a', g1, g2, g3⟩, hmin⟩ := least (p := fun m => ∃ a, p.1 = st a ∧ Hh a p.2.1 p.2.2 ∧ μ a = m) ⟨μ a, a, h1, h2, rfl⟩
      exact ⟨m, fun _ => ⟨⟨a', g1, g2, g3⟩, fun a k1 k2 => hmin _ ⟨a, k1, k2, rfl⟩⟩⟩
    · exact ⟨0, fun h => absurd h hx⟩
  obtain ⟨f, hf⟩ := Classical.axiomOfChoice hch
  refine ⟨fun us H' nx' => ∃ a, us = st a ∧ Hh a H' nx', fun us H' nx' => f (us, H', nx'), ⟨a0, h0, h1⟩, fun us H' nx' hl' hI => ?_⟩
  obtain ⟨⟨a, e1, e2, e3⟩, _⟩ := hf (us, H', nx') hI
  simp only at e1 e2
  have := hr a H' nx' e2
  rw [e1]
  refine den_mono _ (fun j us' H'' nx'' hj => ?_) this
  simp only [iput] at hj ⊢
  split at hj
  · rename_i e
    rw [if_pos e]
    obtain ⟨a', k1, k2, k3⟩ := hj
    refine ⟨⟨a', k1, k2⟩, ?_⟩
    have h5 := (hf (us', H'', nx'') ⟨a', k1, k2⟩).2 a' k1 k2
    rw [← e1]
    omega
  · rename_i e; rw [if_neg e]; exact hj
end

/-- Values. -/
theorem int_def (n : Int) : AV.v (.int .i64 n) = int n := rfl
theorem bool_def (b : Bool) : AV.v (.bool b) = bool b := rfl

section pv
variable {H : Hp} {c : List AV} {o k : Nat} {a b i : Int} {l : List Int}
theorem p_nck : pvf H .nck [.ptr c o] = some (.ptr c o) := rfl
theorem p_fad : pvf H (.fad k) [.ptr c o] = some (.ptr c (o + k)) := rfl
theorem p_ld : pvf H (.ld none) [.ptr c o] = c[o]? := rfl
theorem p_lds {m : Nat} : pvf H (.ld (some m)) [.ptr c o] = if o + m ≤ c.length then some (.agg ((c.drop o).take m)) else none := rfl
theorem p_len {m : Nat} : pvf H .len [.sl c m] = some (int m) := rfl
theorem p_leni : pvf H .len [islice l] = some (int l.length) := rfl
theorem p_len0 : pvf H .len [.nil] = some (int 0) := rfl
theorem p_iad {m : Nat} : pvf H (.iad k) [.sl c m, int i] = if 0 ≤ i ∧ i < m then some (.ptr c (i.toNat * k)) else none := rfl
theorem p_iadi : pvf H (.iad 1) [islice l, int i] = if 0 ≤ i ∧ i < l.length then some (.ptr (ints l) i.toNat) else none := by simp [pvf, pIad, islice, int]
theorem ints_get : (ints l)[o]? = if o < l.length then some (int (l.getD o 0)) else none := by
  simp only [ints, List.getElem?_map]
  by_cases h : o < l.length
  · simp [h]
  · simp [h]
theorem rows_get {m : List (List Int)} : (rows m)[o]? = if o < m.length then some (islice (m.getD o [])) else none := by
  simp only [rows, List.getElem?_map]
  by_cases h : o < m.length
  · simp [h]
  · simp [h]
theorem p_add : pvf H (.bin .add) [int a, int b] = some (int (IntKind.i64.wrap (a + b))) := rfl
theorem p_sub : pvf H (.bin .sub) [int a, int b] = some (int (IntKind.i64.wrap (a - b))) := rfl
theorem p_mul : pvf H (.bin .mul) [int a, int b] = some (int (IntKind.i64.wrap (a * b))) := rfl
theorem p_eql : pvf H (.bin .eql) [int a, int b] = some (bool (a == b)) := rfl
theorem p_neq : pvf H (.bin .neq) [int a, int b] = some (bool (a != b)) := rfl
theorem p_lss : pvf H (.bin .lss) [int a, int b] = some (bool (decide (a < b))) := rfl
theorem p_leq : pvf H (.bin .leq) [int a, int b] = some (bool (decide (a ≤ b))) := rfl
theorem p_gtr : pvf H (.bin .gtr) [int a, int b] = some (bool (decide (a > b))) := rfl
theorem p_geq : pvf H (.bin .geq) [int a, int b] = some (bool (decide (a ≥ b))) := rfl
theorem p_not {t : Bool} : pvf H .bnot [bool t] = some (bool (!t)) := rfl
theorem p_msl0 {z : List AV} {p : List (Nat × Nat)} : pvf H (.msl 0 z p) [] = some .nil := rfl
theorem p_msl1 : pvf H (.msl 1 [int 0] [(0, 1)]) [int a] = some (islice [a]) := rfl
theorem p_ext {t : List AV} : pvf H (.ext k) [.tup t] = t[k]? := rfl
theorem p_pick {t : Bool} {x y : AV} : pvf H .pick [bool t, x, y] = some (if t then x else y) := rfl
end pv

theorem wrap_id {x : Int} (h1 : -9223372036854775808 ≤ x) (h2 : x ≤ 9223372036854775807) : IntKind.i64.wrap x = x := by
  simp only [IntKind.wrap, IntKind.bits, IntKind.signed]
  simp
  omega

theorem ev_t (e : Nat → AV) (k : Nat) : ev e (.t k) = e k := rfl
theorem ev_c (e : Nat → AV) (a : AV) : ev e (.c a) = a := rfl
theorem ev_f (e : Nat → AV) (k : Nat) : ev e (.f k) = .fn k [] := rfl
theorem put_eq (e : Nat → AV) (k : Nat) (u : AV) : put e k u k = u := by simp [put]
theorem put_ne (e : Nat → AV) (k j : Nat) (u : AV) (h : (j = k) = False) : put e k u j = e j := by simp only [put]; rw [if_neg (of_eq_false h)]
theorem env0_def (l : List AV) (t : Nat) : env0 l t = l.getD t (.v undef) := rfl
theorem fnOf_fn (k : Nat) (c : List AV) : fnOf (.fn k c) = some (k, c) := rfl

/-- What comes out of a function that makes nothing. -/
def Is1 (r0 : AV) (H : Hp) (nx : Nat) (r : AV) (H' : Hp) (nx' : Nat) : Prop := r = r0 ∧ H' = H ∧ nx ≤ nx'
/-- A slice of integers of the call's own. -/
def IsI (l : List Int) (H : Hp) (nx : Nat) (r : AV) (H' : Hp) (nx' : Nat) : Prop :=
  nx ≤ nx' ∧ ((l = [] ∧ r = .nil ∧ H' = H) ∨ ∃ o, nx ≤ o ∧ o < nx' ∧ r = .ms o 0 l.length 1 ∧ H' = hput H o (some (ints l)))

theorem OkM.fz {P : Program} {ν : Nat → FuncId} {f : Nat} {ys : List AV} {u : AV} {Ψ : Hp → Nat → AV → Hp → Nat → Prop} (h : ∀ H nx, OkM P ν f ys H nx (Ψ H nx)) (hu : ∀ r H' nx', Ψ hempty 0 r H' nx' → frzN H' fuel r = some u) : Fz (OkM P ν) f ys u :=
  (h hempty 0).mono hu

theorem frzN_int (H : Hp) (k : Nat) (n : Int) : frzN H k (int n) = some (int n) := by cases k <;> rfl
theorem frzN_bool (H : Hp) (k : Nat) (b : Bool) : frzN H k (bool b) = some (bool b) := by cases k <;> rfl
theorem frzN_ints (H : Hp) (k : Nat) (l : List Int) : (ints l).mapM (frzN H k) = some (ints l) := by
  induction l with
  | nil => rfl
  | cons a l ih => simp only [ints, List.map_cons, List.mapM_cons, frzN_int] at ih ⊢; simp [ih]
theorem IsI.frz {l : List Int} {H : Hp} {nx : Nat} {r : AV} {H' : Hp} {nx' : Nat} (h : IsI l H nx r H' nx') (k : Nat) : frzN H' (k + 1) r = some (islice l) := by
  obtain ⟨_, ⟨rfl, rfl, rfl⟩ | ⟨o, _, _, rfl, rfl⟩⟩ := h
  · rfl
  · simp only [frzN, hput, if_true, Nat.zero_add, Nat.mul_one]
    rw [frzN_ints]
    simp [islice, ints]
theorem Is1.int {n : Int} {H : Hp} {nx : Nat} {r : AV} {H' : Hp} {nx' : Nat} (h : Is1 (int n) H nx r H' nx') : frzN H' fuel r = some (Av.int n) := by rw [h.1]; rfl
theorem Is1.bool {n : Bool} {H : Hp} {nx : Nat} {r : AV} {H' : Hp} {nx' : Nat} (h : Is1 (bool n) H nx r H' nx') : frzN H' fuel r = some (Av.bool n) := by rw [h.1]; rfl

theorem hput_hput (H : Hp) (o : Nat) (a b : Option (List AV)) : hput (hput H o a) o b = hput H o b := by funext t; simp only [hput]; split <;> rfl
theorem ints_append (l m : List Int) : ints l ++ ints m = ints (l ++ m) := by simp [ints]
theorem ints_length (l : List Int) : (ints l).length = l.length := by simp [ints]
theorem ints_one (l : List Int) : (ints l).all AV.one = true := by simp [ints, AV.one, int, Value.oneCell']

section
variable {C : Ct} {Φ : AV → Hp → Nat → Prop} {n : Nat} {vars : Nat → AV} {H : Hp} {nx : Nat} {Is : Nat → Inv} {r : Vc}
/-- An append of integers to a slice of the call's own. -/
theorem den_appI {x y : Opd} {l m : List Int} {H0 : Hp} {nx0 : Nat} (h : IsI l H0 nx0 (ev vars x) H nx) (hy : ev vars y = islice m) (hm : m ≠ []) (hlen : l.length + m.length ≤ 1099511627776)
    (hk : ∀ v H' nx', IsI (l ++ m) H0 nx0 v H' nx' → den C Φ r (n + 1) (put vars n v) H' nx' Is) : den C Φ (.op true (.app 1 x y) r) n vars H nx Is := by
  have hml : m.length ≠ 0 := fun e => hm (List.eq_nil_of_length_eq_zero e)
  have hc : appCells H 1 (ev vars y) = some (ints m, m.length) := by rw [hy]; simp [appCells, islice, ints_length]
  obtain ⟨h0, ⟨rfl, h2, rfl⟩ | ⟨o, g1, g2, h2, rfl⟩⟩ := h
  · have hlen' : m.length ≤ 1099511627776 := by simpa using hlen
    refine den_app (q := (.ms nx 0 m.length 1, hput H nx (some (ints m)), nx + 1)) hc (ints_one m) ?_ ?_
    · rw [h2]
      simp only [appTo, hml, if_false, appMax, hlen', if_true]
    · exact hk _ _ _ ⟨Nat.le_succ_of_le h0, .inr ⟨nx, h0, Nat.lt_succ_self _, by simp, by simp⟩⟩
  · refine den_app (q := (.ms o 0 (l.length + m.length) 1, hput H0 o (some (ints (l ++ m))), nx)) hc (ints_one m) ?_ (hk _ _ _ ⟨h0, .inr ⟨o, g1, g2, by simp, rfl⟩⟩)
    rw [h2]
    simp only [appTo, hput, if_true, Nat.mul_one, appMax, ints_length]
    rw [if_pos ⟨trivial, by simpa using hlen⟩]
    simp only [Option.some.injEq, Prod.mk.injEq, true_and, and_true, ints_append]
    exact hput_hput _ _ _ _
end

/-- A function that makes nothing: the result alone counts. -/
def Fn (P : Program) (ν : Nat → FuncId) (id : Nat) (args : List AV) (r : AV) : Prop := ∀ H nx, OkM P ν id args H nx (Is1 r H nx)
theorem Fn.fz {P : Program} {ν : Nat → FuncId} {id : Nat} {args : List AV} {r : AV} (h : Fn P ν id args r) (hr : ∀ H, frzN H fuel r = some r) : Fz (OkM P ν) id args r := OkM.fz h fun r' H' nx' hh => by rw [hh.1]; exact hr H'
theorem Fn.fzi {P : Program} {ν : Nat → FuncId} {id : Nat} {args : List AV} {n : Int} (h : Fn P ν id args (int n)) : Fz (OkM P ν) id args (int n) := h.fz fun _ => rfl
theorem Fn.fzb {P : Program} {ν : Nat → FuncId} {id : Nat} {args : List AV} {b : Bool} (h : Fn P ν id args (bool b)) : Fz (OkM P ν) id args (bool b) := h.fz fun _ => rfl
theorem Fn.fz4 {P : Program} {ν : Nat → FuncId} {id : Nat} {args : List AV} {a b c d : Int} (h : Fn P ν id args (.tup [int a, int b, int c, int d])) : Fz (OkM P ν) id args (.tup [int a, int b, int c, int d]) := h.fz fun _ => rfl

theorem ret_false {p : Prop} [Decidable p] (h : ¬ p) : bool false = bool (decide p) := by rw [decide_eq_false h]
theorem ret_true {p : Prop} [Decidable p] (h : p) : bool true = bool (decide p) := by rw [decide_eq_true h]

section frz
variable {H : Hp} {k : Nat} {l : List AV}
theorem frzL_nil : frzL H [] = some [] := rfl
theorem frz_int {n : Int} : frz H k (int n) = some (int n) := by cases k <;> rfl
theorem frz_bool {n : Bool} : frz H k (bool n) = some (bool n) := by cases k <;> rfl
theorem frz_sl {c : List AV} {n : Nat} : frz H k (.sl c n) = some (.sl c n) := by cases k <;> rfl
theorem frz_islice {l : List Int} : frz H k (islice l) = some (islice l) := frz_sl
theorem frz_ptr {c : List AV} {n : Nat} : frz H k (.ptr c n) = some (.ptr c n) := by cases k <;> rfl
theorem frz_nil : frz H k .nil = some (islice []) := by cases k <;> rfl
theorem frzL_int {n : Int} : frzL H (int n :: l) = (frzL H l).map (int n :: ·) := by simp only [frzL, List.mapM_cons, frz_int]; cases List.mapM (frz H fuel) l <;> rfl
theorem frzL_bool {n : Bool} : frzL H (bool n :: l) = (frzL H l).map (bool n :: ·) := by simp only [frzL, List.mapM_cons, frz_bool]; cases List.mapM (frz H fuel) l <;> rfl
theorem frzL_sl {c : List AV} {n : Nat} : frzL H (.sl c n :: l) = (frzL H l).map (.sl c n :: ·) := by simp only [frzL, List.mapM_cons, frz_sl]; cases List.mapM (frz H fuel) l <;> rfl
theorem frzL_islice {c : List Int} : frzL H (islice c :: l) = (frzL H l).map (islice c :: ·) := frzL_sl
theorem frzL_ptr {c : List AV} {n : Nat} : frzL H (.ptr c n :: l) = (frzL H l).map (.ptr c n :: ·) := by simp only [frzL, List.mapM_cons, frz_ptr]; cases List.mapM (frz H fuel) l <;> rfl
theorem frzL_nilv : frzL H (.nil :: l) = (frzL H l).map (islice [] :: ·) := by simp only [frzL, List.mapM_cons, frz_nil]; cases List.mapM (frz H fuel) l <;> rfl
/-- Cells that are no objects stay as they are. -/
def AV.still : AV → Bool
  | .v _ | .sl .. | .ptr .. => true
  | _ => false
theorem frz_still {a : AV} (h : a.still = true) : frz H k a = some a := by cases a <;> first | (cases k <;> rfl) | (simp [AV.still] at h)
theorem frz_stills {c : List AV} (h : c.all AV.still = true) : c.mapM (frz H k) = some c := by
  induction c with
  | nil => rfl
  | cons a c ih => simp only [List.all_cons, Bool.and_eq_true] at h; simp only [List.mapM_cons, frz_still h.1, ih h.2]; rfl
theorem frzL_agg {c : List AV} (h : c.all AV.still = true) : frzL H (.agg c :: l) = (frzL H l).map (.agg c :: ·) := by
  have : frz H fuel (.agg c) = some (.agg c) := by simp only [fuel, frz, frz_stills h, Option.map_some]
  simp only [frzL, List.mapM_cons, this]; cases List.mapM (frz H fuel) l <;> rfl
theorem p_box {c : List AV} (h : c.all AV.still = true) (h1 : c.all AV.one = true) : pvf H .box [.agg c] = some (.ptr c 0) := by
  simp only [pvf, pBox, AV.cells, frzL, frz_stills h, h1, if_true]
theorem p_lda {c : List AV} {n : Nat} (h : c.length = n) : pvf H (.ld (some n)) [.ptr c 0] = some (.agg c) := by
  simp [pvf, pLd, ← h]
theorem p_mka2 {a b : Int} : pvf H (.mka [int 0, int 0] [(0, 1), (1, 1)]) [int a, int b] = some (.agg [int a, int b]) := rfl
theorem p_eqs2 {a b c d : Int} : pvf H (.eqs true 2) [.agg [int a, int b], .agg [int c, int d]] = some (bool (!(a == c && b == d))) := by
  simp [pvf, pEqs, avI, int, bool]
theorem p_eqs2' {a b c d : Int} : pvf H (.eqs false 2) [.agg [int a, int b], .agg [int c, int d]] = some (bool (a == c && b == d)) := by
  simp [pvf, pEqs, avI, int, bool]
end frz

section loops
variable {C : Ct} {Φ : AV → Hp → Nat → Prop} {n : Nat} {vars : Nat → AV} {H : Hp} {nx : Nat} {Is : Nat → Inv} {body : Vc} {d : Nat}
/-- A loop that counts and writes nothing. -/
def Up (N : Nat) (p : Nat → Prop) (H : Hp) (nx i : Nat) : Inv := fun us H' nx' => ∃ j : Nat, us = [int j] ∧ (j ≤ N ∧ p j ∧ H' = H ∧ nx' = nx) ∧ N - j < N - i
theorem den_for (N : Nat) (p : Nat → Prop) (h0 : p 0) (hr : ∀ i : Nat, i ≤ N → p i → den C Φ body (n + 1) (put vars n (int i)) H nx (iput Is d (Up N p H nx i))) : den C Φ (.loop d [.c (int 0)] body) n vars H nx Is :=
  den_loop (α := Nat) (fun i => [int i]) (fun i H' nx' => i ≤ N ∧ p i ∧ H' = H ∧ nx' = nx) (fun i => N - i) 0 rfl ⟨Nat.zero_le _, h0, rfl, rfl⟩ fun i H' nx' ⟨h1, h2, h3, h4⟩ => by
    subst h3; subst h4
    exact hr i h1 h2
theorem up {N : Nat} {p : Nat → Prop} {i : Nat} {a : Int} (ha : a = ((i + 1 : Nat) : Int)) (hi : i < N) (hp : p (i + 1)) : Up N p H nx i [int a] H nx := ⟨i + 1, by rw [ha], ⟨hi, hp, rfl, rfl⟩, by omega⟩
end loops
theorem wrap_succ {i : Nat} (h : i < 9223372036854775807) : IntKind.i64.wrap ((i : Int) + 1) = ((i + 1 : Nat) : Int) := by rw [wrap_id (by omega) (by omega)]; rfl

theorem findSome_at {β : Type} {p : Nat → Option β} {r : β} {n i : Nat} (hi : i < n) (hp : p i = some r) (hlt : ∀ j, j < i → p j = none) : (List.range n).findSome? p = some r := by
  induction n with
  | zero => omega
  | succ n ih =>
    rw [List.range_succ, List.findSome?_append]
    by_cases e : i < n
    · rw [ih e]; rfl
    · have : i = n := by omega
      subst this
      have : (List.range i).findSome? p = none := by rw [List.findSome?_eq_none_iff]; intro x hx; exact hlt x (by simpa using hx)
      rw [this]
      simp [hp]
theorem findSome_none {β : Type} {p : Nat → Option β} {n : Nat} (h : ∀ j, j < n → p j = none) : (List.range n).findSome? p = none := by
  rw [List.findSome?_eq_none_iff]; intro x hx; exact h x (by simpa using hx)
end Go.Av

/-
  The lists of rules for the second form.
-/
namespace Go.Av
theorem SS :
    type_of% @den_p ∧
    type_of% @denS_some ∧
    type_of% @denS_ite ∧
    type_of% @den_br ∧
    type_of% @denB_bool ∧
    type_of% @den_again ∧
    type_of% @ev_t ∧
    type_of% @ev_c ∧
    type_of% @ev_f ∧
    type_of% @env0_def ∧
    type_of% @put_eq ∧
    type_of% @put_ne ∧
    type_of% @List.map_cons.{0,0} ∧
    type_of% @List.map_nil.{0,0} ∧
    type_of% @List.getD_cons_zero.{0} ∧
    type_of% @List.getD_cons_succ.{0} ∧
    type_of% @List.getElem?_cons_zero.{0} ∧
    type_of% @List.getElem?_cons_succ.{0} ∧
    type_of% @p_nck ∧
    type_of% @p_fad ∧
    type_of% @p_ld ∧
    type_of% @p_len ∧
    type_of% @p_leni ∧
    type_of% @p_len0 ∧
    type_of% @p_iad ∧
    type_of% @p_iadi ∧
    type_of% @p_add ∧
    type_of% @p_sub ∧
    type_of% @p_mul ∧
    type_of% @p_eql ∧
    type_of% @p_neq ∧
    type_of% @p_lss ∧
    type_of% @p_leq ∧
    type_of% @p_gtr ∧
    type_of% @p_geq ∧
    type_of% @p_not ∧
    type_of% @p_msl0 ∧
    type_of% @p_msl1 ∧
    type_of% @p_ext ∧
    type_of% @p_pick ∧
    type_of% @p_mka2 ∧
    type_of% @p_eqs2 ∧
    type_of% @p_eqs2' ∧
    type_of% @ints_get ∧
    type_of% @rows_get ∧
    type_of% @Nat.zero_add ∧
    type_of% @Nat.mul_one ∧
    type_of% @if_true.{1} ∧
    type_of% @List.length_cons.{0} ∧
    type_of% @List.length_nil.{0} ∧
    type_of% @decide_eq_true_eq ∧
    type_of% @decide_eq_false_iff_not ∧
    type_of% @Int.natCast_nonneg ∧
    type_of% @Int.ofNat_lt ∧
    type_of% @Int.ofNat_le ∧
    type_of% @Int.toNat_natCast ∧
    type_of% @true_and ∧
    type_of% @and_true ∧
    type_of% @Bool.not_eq_true' ∧
    type_of% @Bool.not_eq_false' ∧
    type_of% @Bool.false_eq_true ∧
    type_of% @Bool.true_eq_false ∧
    type_of% @false_implies ∧
    type_of% @true_implies ∧
    type_of% @implies_true.{0} ∧
    type_of% @if_false.{1} ∧
    type_of% @bne_iff_ne.{0} ∧
    type_of% @ne_eq.{1} ∧
    type_of% @bne_eq_false_iff_eq.{0} ∧
    type_of% @beq_iff_eq.{0} ∧
    type_of% @beq_eq_false_iff_ne.{0} ∧
    type_of% @Bool.and_eq_true ∧
    type_of% @Bool.or_eq_true ∧
    type_of% @Bool.not_true ∧
    type_of% @Bool.not_false ∧
    type_of% @eq_self.{1} ∧
    type_of% @not_true_eq_false ∧
    type_of% @not_false_eq_true := ⟨@den_p, @denS_some, @denS_ite, @den_br, @denB_bool, @den_again, @ev_t, @ev_c, @ev_f, @env0_def, @put_eq, @put_ne, @List.map_cons, @List.map_nil, @List.getD_cons_zero, @List.getD_cons_succ, @List.getElem?_cons_zero, @List.getElem?_cons_succ, @p_nck, @p_fad, @p_ld, @p_len, @p_leni, @p_len0, @p_iad, @p_iadi, @p_add, @p_sub, @p_mul, @p_eql, @p_neq, @p_lss, @p_leq, @p_gtr, @p_geq, @p_not, @p_msl0, @p_msl1, @p_ext, @p_pick, @p_mka2, @p_eqs2, @p_eqs2', @ints_get, @rows_get, @Nat.zero_add, @Nat.mul_one, @if_true, @List.length_cons, @List.length_nil, @decide_eq_true_eq, @decide_eq_false_iff_not, @Int.natCast_nonneg, @Int.ofNat_lt, @Int.ofNat_le, @Int.toNat_natCast, @true_and, @and_true, @Bool.not_eq_true', @Bool.not_eq_false', @Bool.false_eq_true, @Bool.true_eq_false, @false_implies, @true_implies, @implies_true, @if_false, @bne_iff_ne, @ne_eq, @bne_eq_false_iff_eq, @beq_iff_eq, @beq_eq_false_iff_ne, @Bool.and_eq_true, @Bool.or_eq_true, @Bool.not_true, @Bool.not_false, @eq_self, @not_true_eq_false, @not_false_eq_true⟩
theorem FF :
    type_of% @frzL_nil ∧
    type_of% @frzL_int ∧
    type_of% @frzL_bool ∧
    type_of% @frzL_sl ∧
    type_of% @frzL_islice ∧
    type_of% @frzL_ptr ∧
    type_of% @frzL_nilv ∧
    type_of% @Option.map_some.{0,0} ∧
    type_of% @List.append_nil.{0} ∧
    type_of% @List.cons_append.{0} ∧
    type_of% @List.nil_append.{0} := ⟨@frzL_nil, @frzL_int, @frzL_bool, @frzL_sl, @frzL_islice, @frzL_ptr, @frzL_nilv, @Option.map_some, @List.append_nil, @List.cons_append, @List.nil_append⟩
end Go.Av

/-
  A pointer into a struct, read as a pointer to a part of it.
-/
namespace Go.Av
theorem RepP.win {ν : Nat → FuncId} {w : World} {S : Nat → Prop} {cells : List AV} {off : Nat} {v : Value} (h : RepP ν w S (.ptr cells off) v) (n : Nat) : RepP ν w S (.ptr ((cells.drop off).take n) 0) v := by
  cases h with
  | ptr us hS hc hr =>
    rename_i b base
    have := RepP.ptr (ν := ν) (w := w) (S := S) (cells := (cells.drop off).take n) (off := 0) (b := b) (base := base + off) (fun i => us (off + i)) hS (fun i hi => by
      have hi' : off + i < cells.length := by simp at hi; omega
      have := hc (off + i) hi'
      rwa [← Nat.add_assoc] at this) (fun i hi => by
      have hi' : off + i < cells.length := by simp at hi; omega
      have := hr (off + i) hi'
      simpa using this)
    simpa using this
/-- The same function over the struct's part. -/
theorem OkM.win {P : Program} {ν : Nat → FuncId} {f : Nat} {cells : List AV} {off n : Nat} {rest : List AV} {H : Hp} {nx : Nat} {Φ : AV → Hp → Nat → Prop} (h : OkM P ν f (.ptr ((cells.drop off).take n) 0 :: rest) H nx Φ) : OkM P ν f (.ptr cells off :: rest) H nx Φ := by
  refine ⟨h.1, fun w0 S β w vs h1 h2 h3 h4 => h.2 w0 S β w vs h1 h2 (by simpa using h3) fun i hi => ?_⟩
  cases i with
  | zero =>
    have := h4 0 (by simp)
    simp only [List.getElem_cons_zero] at this ⊢
    cases this with
    | pure h => exact .pure (h.win n)
  | succ i =>
    have := h4 (i + 1) (by simpa using hi)
    simpa using this
theorem Fz.win {P : Program} {ν : Nat → FuncId} {f : Nat} {cells : List AV} {off n : Nat} {rest : List AV} {r : AV} (h : Fz (OkM P ν) f (.ptr ((cells.drop off).take n) 0 :: rest) r) : Fz (OkM P ν) f (.ptr cells off :: rest) r := OkM.win h
end Go.Av
