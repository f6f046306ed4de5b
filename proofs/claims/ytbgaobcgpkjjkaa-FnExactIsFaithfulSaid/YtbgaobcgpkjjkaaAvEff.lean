/-
  Contracts, and the operations that call, make objects and write them.
-/
import Derived.Test.YtbgaobcgpkjjkaaAvPure4
namespace Go.Av
open Go.RowKit (Below)

def AV.isV : AV → Bool
  | .v _ => true
  | _ => false

/-- The function is one of the program's own, with a body. -/
def Enters (P : Program) (f : FuncId) : Prop := ∃ fn, P.funcs[f]? = some fn ∧ fn.body.isSome = true ∧ (fn.name == "runtime.NumGoroutine") = false

def ArgsOk (ν : Nat → FuncId) (w : World) (args : List AV) (vs : Array Value) : Prop :=
  vs.size = args.length ∧ ∀ i (h : i < args.length), RepP ν w (fun b => b < w.heap.size) args[i] (vs.getD i undef)

/-- The call of f with these arguments over these objects. -/
def OkM (P : Program) (ν : Nat → FuncId) : Ct := fun f args H nx Φ =>
  Enters P (ν f) ∧ ∀ (w0 : World) (S : Nat → Prop) (β : Nat → Nat) (w : World) (vs : Array Value), Objs ν w0.heap.size ⟨β, H, nx, w, S⟩ → Below w0.heap.size w0 w →
    vs.size = args.length → (∀ i (h : i < args.length), Rep ν ⟨β, H, nx, w, S⟩ args[i] (vs.getD i undef)) →
    Calls P (ν f) vs w fun e w' => ∃ v r H' nx' β', e = .returned v ∧ Φ r H' nx' ∧ Rep ν ⟨β', H', nx', w', S⟩ r v ∧ Objs ν w0.heap.size ⟨β', H', nx', w', S⟩ ∧ Ext ⟨β, H, nx, w, S⟩ ⟨β', H', nx', w', S⟩ ∧ Below w0.heap.size w0 w'

theorem OkM.mono {P : Program} {ν : Nat → FuncId} {f : Nat} {args : List AV} {H : Hp} {nx : Nat} {Φ Φ' : AV → Hp → Nat → Prop} (h : OkM P ν f args H nx Φ) (hΦ : ∀ r H' nx', Φ r H' nx' → Φ' r H' nx') : OkM P ν f args H nx Φ' :=
  ⟨h.1, fun w0 S β w vs h1 h2 h3 h4 => (h.2 w0 S β w vs h1 h2 h3 h4).mono fun _ _ ⟨v, r, H', nx', β', e1, e2, e3⟩ => ⟨v, r, H', nx', β', e1, hΦ _ _ _ e2, e3⟩⟩

section
variable {ν : Nat → FuncId} {N : Nat} {w0 : World} {S : Nat → Prop} {X0 : Cx} {s : St} {a : Act} {w : World} {β : Nat → Nat}

theorem Sim.put (h : Sim ν N w0 S X0 s a w β) {u : AV} {v : Value} (hr : Rep ν ⟨β, s.heap, s.next, w, S⟩ u v) {d : Option Nat} (hd : ∀ k, d = some k → k < N) : Sim ν N w0 S X0 (s.put d u) (a.put d v) w β := by
  cases d with
  | none => exact h
  | some k =>
    have hk := hd k rfl
    refine ⟨fun t => ?_, by simp [Act.put, h.size], by simpa [Act.put] using h.defers, h.objs, h.below, h.ext⟩
    show Rep ν ⟨β, s.heap, s.next, w, S⟩ (_root_.Go.Av.put s.env k u t) ((a.tmps.setIfInBounds k v).getD t undef)
    unfold _root_.Go.Av.put
    by_cases e : t = k
    · subst e
      have : t < a.tmps.size := by rw [h.size]; exact hk
      simpa [this] using hr
    · have := h.env t
      rw [if_neg e]
      simpa [Array.getElem?_setIfInBounds_ne (Ne.symm e)] using this

theorem Sim.lt (h : Sim ν N w0 S X0 s a w β) : ∀ k c, s.heap k = some c → β k < w.heap.size := h.objs.lt

theorem below_alloc {B : Nat} {w0 w : World} (h : Below B w0 w) (hB : B ≤ w.heap.size) (o : Obj) : Below B w0 (w.alloc o) := h.alloc hB o

theorem Sim.le (h : Sim ν N w0 S X0 s a w β) : w0.heap.size ≤ w.heap.size := h.below.size

theorem Sim.alloc (h : Sim ν N w0 S X0 s a w β) (o : Obj) : Sim ν N w0 S X0 s a (w.alloc o) β :=
  ⟨fun t => (h.env t).mono (Ext.alloc ⟨β, s.heap, s.next, w, S⟩ o h.objs.lt), h.size, h.defers, h.objs.alloc o, h.below.alloc h.le o, h.ext.trans (Ext.alloc ⟨β, s.heap, s.next, w, S⟩ o h.objs.lt)⟩

/-- The world has moved on; nothing that was there has turned. -/
theorem Ext.later {X : Cx} {w' : World} (hb : Below X.w.heap.size X.w w') (hlt : ∀ k c, X.H k = some c → X.β k < X.w.heap.size) : Ext X { X with w := w' } :=
  ⟨Nat.le_refl _, fun _ hb' => ⟨⟨Nat.lt_of_lt_of_le hb'.1.1 hb.size, hb'.1.2⟩, hb'.2⟩, fun b hb' => hb.block b hb'.1.1,
   fun k c' _ hc' => ⟨c', hc', .inr ⟨rfl, rfl, fun r e f hr => ⟨r, e, f, (hb.block _ (hlt k c' hc')).trans hr, rfl⟩⟩⟩⟩

theorem Sim.later (h : Sim ν N w0 S X0 s a w β) {w' : World} (hb : Below w.heap.size w w') : Sim ν N w0 S X0 s a w' β := by
  have hx := Ext.later (X := ⟨β, s.heap, s.next, w, S⟩) hb h.objs.lt
  refine ⟨fun t => (h.env t).mono hx, h.size, h.defers, ⟨fun o c hc => ?_, h.objs.inj, Nat.le_trans h.objs.le hb.size, h.objs.new⟩, h.below.trans (hb.mono h.le), h.ext.trans hx⟩
  obtain ⟨h1, h2, r, e, hr, hl, hrep⟩ := h.objs.obj o c hc
  exact ⟨h1, h2, r, e, (hb.block _ (h.objs.lt o c hc)).trans hr, hl, fun i hi => (hrep i hi).mono hx⟩

/-- A new object. -/
theorem Sim.newObj (h : Sim ν N w0 S X0 s a w β) (cells : List AV) (r : Array Value) (e : TypeId) (hl : cells.length ≤ r.size) (hr : ∀ i (hi : i < cells.length), Rep ν ⟨β, s.heap, s.next, w, S⟩ cells[i] (r.getD i undef)) :
    Sim ν N w0 S X0 { s with heap := hput s.heap s.next (some cells), next := s.next + 1 } a (w.alloc (.cells r e)) (fun k => if k = s.next then w.heap.size else β k) ∧
    Ext ⟨β, s.heap, s.next, w, S⟩ ⟨fun k => if k = s.next then w.heap.size else β k, hput s.heap s.next (some cells), s.next + 1, w.alloc (.cells r e), S⟩ := by
  have hsz : (w.alloc (.cells r e)).heap.size = w.heap.size + 1 := by show (w.heap.push _).size = _; simp
  have hlive : ∀ k c, s.heap k = some c → k ≠ s.next := fun k c hk => by have := (h.objs.obj k c hk).1; show k ≠ s.next; simp only at this; omega
  have hx : Ext ⟨β, s.heap, s.next, w, S⟩ ⟨fun k => if k = s.next then w.heap.size else β k, hput s.heap s.next (some cells), s.next + 1, w.alloc (.cells r e), S⟩ := by
    refine ⟨Nat.le_succ _, fun b hb => ⟨⟨by simp only [hsz]; exact Nat.lt_succ_of_lt hb.1.1, hb.1.2⟩, fun k c hk => ?_⟩, fun b hb => heap_alloc_old _ _ _ hb.1.1, fun k c' hk hc' => ?_⟩
    · simp only
      by_cases e1 : k = s.next
      · rw [if_pos e1]; have := hb.1.1; simp only at this; omega
      · rw [if_neg e1]
        simp only [hput, if_neg e1] at hk
        exact hb.2 k c hk
    · simp only at hk
      have e1 : k ≠ s.next := by omega
      simp only [hput, if_neg e1] at hc'
      exact ⟨c', hc', .inr ⟨rfl, by simp only [if_neg e1], fun r' e' f' hr' => ⟨r', e', f', by rw [heap_alloc_old _ _ _ (h.objs.lt k c' hc')]; exact hr', rfl⟩⟩⟩
  refine ⟨⟨fun t => (h.env t).mono hx, h.size, h.defers, ⟨fun k c hk => ?_, fun k k' c c' hk hk' he => ?_, Nat.le_trans h.objs.le (by simp), h.objs.new⟩, h.below.alloc h.le _, h.ext.trans hx⟩, hx⟩
  · simp only at hk ⊢
    by_cases e1 : k = s.next
    · subst e1
      simp only [hput, if_true, Option.some.injEq] at hk
      subst hk
      refine ⟨Nat.lt_succ_self _, by rw [if_pos rfl]; exact h.le, r, e, by rw [if_pos rfl]; exact heap_alloc_new _ _, hl, fun i hi => (hr i hi).mono hx⟩
    · simp only [hput, if_neg e1] at hk
      obtain ⟨h1, h2, r', e', hr', hl', hrep⟩ := h.objs.obj k c hk
      simp only at h1 h2 hr'
      refine ⟨by omega, by rw [if_neg e1]; exact h2, r', e', by rw [if_neg e1, heap_alloc_old _ _ _ (h.objs.lt k c hk)]; exact hr', hl', fun i hi => (hrep i hi).mono hx⟩
  · simp only at hk hk' he
    by_cases e1 : k = s.next
    · by_cases e2 : k' = s.next
      · omega
      · simp only [hput, if_neg e2] at hk'
        rw [if_pos e1, if_neg e2] at he
        have := h.objs.lt k' c' hk'
        simp only at this
        omega
    · by_cases e2 : k' = s.next
      · simp only [hput, if_neg e1] at hk
        rw [if_neg e1, if_pos e2] at he
        have := h.objs.lt k c hk
        simp only at this
        omega
      · simp only [hput, if_neg e1] at hk
        simp only [hput, if_neg e2] at hk'
        rw [if_neg e1, if_neg e2] at he
        exact h.objs.inj k k' c c' hk hk' he

/-- An object's cells turn, in its own block or in another one of its own; its length does not shrink. -/
theorem Sim.turn (h : Sim ν N w0 S X0 s a w β) {o : Nat} {c c' : List AV} (ho : s.heap o = some c) {w' : World} {b' : Nat} {r' : Array Value} {e' : TypeId}
    (hw : w'.heap[b']? = some (.cells r' e' (0, 0))) (hl : c'.length ≤ r'.size) (hb' : b' = β o ∨ w.heap.size ≤ b')
    (hbl : ∀ k, k ≠ β o → k < w.heap.size → w'.heap[k]? = w.heap[k]?) (hrest : w'.os = w.os ∧ w'.tape = w.tape ∧ w'.output = w.output ∧ w.heap.size ≤ w'.heap.size)
    (hlen : c.length < c'.length ∨ (c.length = c'.length ∧ b' = β o ∧ ∀ r e f, w.heap[β o]? = some (.cells r e f) → r'.size = r.size))
    (hr : ∀ X', Ext ⟨β, s.heap, s.next, w, S⟩ X' → X'.w = w' → ∀ i (hi : i < c'.length), Rep ν X' c'[i] (r'.getD i undef)) :
    Sim ν N w0 S X0 { s with heap := hput s.heap o (some c') } a w' (fun k => if k = o then b' else β k) ∧
    Ext ⟨β, s.heap, s.next, w, S⟩ ⟨fun k => if k = o then b' else β k, hput s.heap o (some c'), s.next, w', S⟩ := by
  obtain ⟨h1, h2, r0, e0, hr0, hl0, _⟩ := h.objs.obj o c ho
  simp only at h1 h2 hr0
  have hlt := h.objs.lt
  simp only at hlt
  have hbo : b' < w'.heap.size := (Array.getElem?_eq_some_iff.1 hw).1
  have hx : Ext ⟨β, s.heap, s.next, w, S⟩ ⟨fun k => if k = o then b' else β k, hput s.heap o (some c'), s.next, w', S⟩ := by
    refine ⟨Nat.le_refl _, fun b hb => ⟨⟨Nat.lt_of_lt_of_le hb.1.1 hrest.2.2.2, hb.1.2⟩, fun k c2 hk => ?_⟩, fun b hb => hbl b (fun e => hb.2 o c ho e.symm) hb.1.1, fun k c2 hk hc2 => ?_⟩
    · simp only
      by_cases e1 : k = o
      · rw [if_pos e1]
        rcases hb' with e2 | e2
        · rw [e2]; exact hb.2 o c ho
        · have := hb.1.1; simp only at this; omega
      · rw [if_neg e1]
        simp only [hput, if_neg e1] at hk
        exact hb.2 k c2 hk
    · by_cases e1 : k = o
      · subst e1
        simp only [hput, if_true, Option.some.injEq] at hc2
        subst hc2
        refine ⟨c, ho, ?_⟩
        rcases hlen with hlen | ⟨hlen, hbb, hrr⟩
        · exact .inl hlen
        · exact .inr ⟨hlen, by simp only [if_true]; exact hbb, fun r e f hre => ⟨r', e', (0, 0), by show w'.heap[β k]? = _; rw [← hbb]; exact hw, hrr r e f hre⟩⟩
      · simp only [hput, if_neg e1] at hc2
        have hne : β k ≠ β o := fun e => e1 (h.objs.inj k o c2 c hc2 ho e)
        exact ⟨c2, hc2, .inr ⟨rfl, by simp only [if_neg e1], fun r e f hre => ⟨r, e, f, by rw [hbl _ hne (hlt k c2 hc2)]; exact hre, rfl⟩⟩⟩
  refine ⟨⟨fun t => (h.env t).mono hx, h.size, h.defers, ⟨fun k c2 hk => ?_, fun k k' c2 c2' hk hk' he => ?_, Nat.le_trans h.objs.le hrest.2.2.2, h.objs.new⟩, ?_, h.ext.trans hx⟩, hx⟩
  · simp only at hk ⊢
    by_cases e1 : k = o
    · subst e1
      simp only [hput, if_true, Option.some.injEq] at hk
      subst hk
      refine ⟨h1, ?_, r', e', by rw [if_pos rfl]; exact hw, hl, hr _ hx rfl⟩
      rw [if_pos rfl]
      have := h.le
      rcases hb' with e2 | e2 <;> omega
    · simp only [hput, if_neg e1] at hk
      obtain ⟨g1, g2, r2, e2, hr2, hl2, hrep⟩ := h.objs.obj k c2 hk
      simp only at g1 g2 hr2
      have hne : β k ≠ β o := fun e => e1 (h.objs.inj k o c2 c hk ho e)
      exact ⟨g1, by rw [if_neg e1]; exact g2, r2, e2, by rw [if_neg e1, hbl _ hne (hlt k c2 hk)]; exact hr2, hl2, fun i hi => (hrep i hi).mono hx⟩
  · simp only at hk hk' he
    by_cases e1 : k = o
    · by_cases e2 : k' = o
      · omega
      · simp only [hput, if_neg e2] at hk'
        rw [if_pos e1, if_neg e2] at he
        rcases hb' with e3 | e3
        · rw [e3] at he; exact absurd (h.objs.inj o k' c c2' ho hk' he).symm e2
        · have := hlt k' c2' hk'; omega
    · by_cases e2 : k' = o
      · simp only [hput, if_neg e1] at hk
        rw [if_neg e1, if_pos e2] at he
        rcases hb' with e3 | e3
        · rw [e3] at he; exact absurd (h.objs.inj k o c2 c hk ho he) e1
        · have := hlt k c2 hk; omega
      · simp only [hput, if_neg e1] at hk
        simp only [hput, if_neg e2] at hk'
        rw [if_neg e1, if_neg e2] at he
        exact h.objs.inj k k' c2 c2' hk hk' he
  · refine h.below.trans ⟨hrest.1, hrest.2.1, hrest.2.2.1, hrest.2.2.2, fun k hk => hbl k ?_ ?_⟩
    · omega
    · have := h.le; omega
end
end Go.Av
