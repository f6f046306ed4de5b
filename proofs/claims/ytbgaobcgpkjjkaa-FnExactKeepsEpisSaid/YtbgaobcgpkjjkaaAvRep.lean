/-
  How the abstract values stand to the model's values and memory.
-/
import Derived.Test.YtbgaobcgpkjjkaaAvTrans
namespace Go.Av
open Go.RowKit (Below)

inductive RepP (ν : Nat → FuncId) (w : World) (S : Nat → Prop) : AV → Value → Prop
  | v (x : Value) : RepP ν w S (.v x) x
  | nil (a : Option Addr) : RepP ν w S .nil (.slice a 0 0)
  | sl {cells : List AV} {n b off cap : Nat} (us : Nat → Value) (hS : S b) (hn : n ≤ cap)
      (hc : ∀ i, i < cells.length → w.cell? ⟨b, off + i, none⟩ = some (us i))
      (hr : ∀ i (h : i < cells.length), RepP ν w S cells[i] (us i)) : RepP ν w S (.sl cells n) (.slice (some ⟨b, off, none⟩) n cap)
  | sl0 (a : Option Addr) (cap : Nat) : RepP ν w S (.sl [] 0) (.slice a 0 cap)
  | ptr {cells : List AV} {off b base : Nat} (us : Nat → Value) (hS : S b)
      (hc : ∀ i, i < cells.length → w.cell? ⟨b, base + i, none⟩ = some (us i))
      (hr : ∀ i (h : i < cells.length), RepP ν w S cells[i] (us i)) : RepP ν w S (.ptr cells off) (.pointer (some ⟨b, base + off, none⟩))
  | agg {cells : List AV} (vs : Array Value) (hs : vs.size = cells.length)
      (hr : ∀ i (h : i < cells.length), RepP ν w S cells[i] (vs.getD i undef)) : RepP ν w S (.agg cells) (.agg vs)
  | tup {cells : List AV} (vs : Array Value) (hs : vs.size = cells.length)
      (hr : ∀ i (h : i < cells.length), RepP ν w S cells[i] (vs.getD i undef)) : RepP ν w S (.tup cells) (.tuple vs)
  | fn {id : Nat} {cells : List AV} (vs : Array Value) (hs : vs.size = cells.length)
      (hr : ∀ i (h : i < cells.length), RepP ν w S cells[i] (vs.getD i undef)) : RepP ν w S (.fn id cells) (.func (.func (ν id)) #[] vs)

theorem RepP.mono {ν : Nat → FuncId} {w w' : World} {S S' : Nat → Prop} {a : AV} {v : Value} (h : RepP ν w S a v)
    (hS : ∀ b, S b → S' b) (hw : ∀ b, S b → w'.heap[b]? = w.heap[b]?) : RepP ν w' S' a v := by
  induction h with
  | v x => exact .v x
  | nil a => exact .nil a
  | sl us hs hn hc hr ih => exact .sl us (hS _ hs) hn (fun i hi => by rw [World.cell?_of_block (w := w) (hw _ hs)]; exact hc i hi) ih
  | sl0 a c => exact .sl0 a c
  | ptr us hs hc hr ih => exact .ptr us (hS _ hs) (fun i hi => by rw [World.cell?_of_block (w := w) (hw _ hs)]; exact hc i hi) ih
  | agg vs hs hr ih => exact .agg vs hs ih
  | tup vs hs hr ih => exact .tup vs hs ih
  | fn vs hs hr ih => exact .fn vs hs ih

structure Cx where
  β : Nat → Nat
  H : Hp
  nx : Nat
  w : World
  S : Nat → Prop

def Imm (X : Cx) (b : Nat) : Prop := (b < X.w.heap.size ∧ X.S b) ∧ ∀ o c, X.H o = some c → X.β o ≠ b

inductive Rep (ν : Nat → FuncId) (X : Cx) : AV → Value → Prop
  | pure {a : AV} {v : Value} (h : RepP ν X.w (Imm X) a v) : Rep ν X a v
  | ms {o off n sz : Nat} {v : Value} (ho : o < X.nx) (h1 : v.oneCell' = true) (hle : ∀ c, X.H o = some c → off + n * sz ≤ c.length)
      (hv : ∀ c, X.H o = some c → off + n * sz = c.length → ∃ cap r e f, v = .slice (some ⟨X.β o, off, none⟩) n cap ∧ n ≤ cap ∧ X.w.heap[X.β o]? = some (.cells r e f) ∧ off + cap * sz ≤ r.size) :
      Rep ν X (.ms o off n sz) v
  | mp {o off len : Nat} {v : Value} (ho : o < X.nx) (h1 : v.oneCell' = true) (hle : ∀ c, X.H o = some c → len ≤ c.length)
      (hv : ∀ c, X.H o = some c → c.length = len → v = .pointer (some ⟨X.β o, off, none⟩)) : Rep ν X (.mp o off len) v
  | agg {cells : List AV} (vs : Array Value) (hs : vs.size = cells.length)
      (hr : ∀ i (h : i < cells.length), Rep ν X cells[i] (vs.getD i undef)) : Rep ν X (.agg cells) (.agg vs)
  | tup {cells : List AV} (vs : Array Value) (hs : vs.size = cells.length)
      (hr : ∀ i (h : i < cells.length), Rep ν X cells[i] (vs.getD i undef)) : Rep ν X (.tup cells) (.tuple vs)
  | fn {id : Nat} {cells : List AV} (vs : Array Value) (hs : vs.size = cells.length)
      (hr : ∀ i (h : i < cells.length), Rep ν X cells[i] (vs.getD i undef)) : Rep ν X (.fn id cells) (.func (.func (ν id)) #[] vs)

structure Ext (X X' : Cx) : Prop where
  nx : X.nx ≤ X'.nx
  imm : ∀ b, Imm X b → Imm X' b
  same : ∀ b, Imm X b → X'.w.heap[b]? = X.w.heap[b]?
  obj : ∀ o c', o < X.nx → X'.H o = some c' → ∃ c, X.H o = some c ∧
    (c.length < c'.length ∨ (c.length = c'.length ∧ X'.β o = X.β o ∧ ∀ r e f, X.w.heap[X.β o]? = some (.cells r e f) → ∃ r' e' f', X'.w.heap[X.β o]? = some (.cells r' e' f') ∧ r'.size = r.size))

theorem Ext.refl (X : Cx) : Ext X X := ⟨Nat.le_refl _, fun _ h => h, fun _ _ => rfl, fun _ c _ hc => ⟨c, hc, .inr ⟨rfl, rfl, fun r e f hr => ⟨r, e, f, hr, rfl⟩⟩⟩⟩
theorem Ext.trans {X Y Z : Cx} (h : Ext X Y) (k : Ext Y Z) : Ext X Z := by
  refine ⟨Nat.le_trans h.nx k.nx, fun b hb => k.imm b (h.imm b hb), fun b hb => (k.same b (h.imm b hb)).trans (h.same b hb), fun o c2 ho hc2 => ?_⟩
  obtain ⟨c1, hc1, h1⟩ := k.obj o c2 (Nat.lt_of_lt_of_le ho h.nx) hc2
  obtain ⟨c0, hc0, h0⟩ := h.obj o c1 ho hc1
  refine ⟨c0, hc0, ?_⟩
  rcases h1 with h1 | ⟨h1, hb1, hr1⟩
  · rcases h0 with h0 | ⟨h0, _⟩ <;> exact .inl (by omega)
  · rcases h0 with h0 | ⟨h0, hb0, hr0⟩
    · exact .inl (by omega)
    · refine .inr ⟨by omega, hb1.trans hb0, fun r e f hr => ?_⟩
      obtain ⟨r', e', f', hr', hs'⟩ := hr0 r e f hr
      rw [← hb0] at hr'
      obtain ⟨r2, e2, f2, hr2, hs2⟩ := hr1 r' e' f' hr'
      exact ⟨r2, e2, f2, by rw [← hb0]; exact hr2, by omega⟩

theorem Rep.mono {ν : Nat → FuncId} {X X' : Cx} {a : AV} {v : Value} (h : Rep ν X a v) (hx : Ext X X') : Rep ν X' a v := by
  induction h with
  | pure h => exact .pure (h.mono hx.imm hx.same)
  | ms ho h1 hle hv =>
    refine .ms (Nat.lt_of_lt_of_le ho hx.nx) h1 (fun c' hc' => ?_) (fun c' hc' he => ?_)
    · obtain ⟨c, hc, hh⟩ := hx.obj _ c' ho hc'
      have := hle c hc
      rcases hh with hh | ⟨hh, _⟩ <;> omega
    · obtain ⟨c, hc, hh⟩ := hx.obj _ c' ho hc'
      have h2 := hle c hc
      rcases hh with hh | ⟨hh, hb, hr⟩
      · omega
      · obtain ⟨cap, r, e, f, h3, h4, h5, h6⟩ := hv c hc (by omega)
        obtain ⟨r', e', f', h7, h8⟩ := hr r e f h5
        exact ⟨cap, r', e', f', by rw [hb]; exact h3, h4, by rw [hb]; exact h7, by omega⟩
  | mp ho h1 hle hv =>
    refine .mp (Nat.lt_of_lt_of_le ho hx.nx) h1 (fun c' hc' => ?_) (fun c' hc' he => ?_)
    · obtain ⟨c, hc, hh⟩ := hx.obj _ c' ho hc'
      have := hle c hc
      rcases hh with hh | ⟨hh, _⟩ <;> omega
    · obtain ⟨c, hc, hh⟩ := hx.obj _ c' ho hc'
      have h2 := hle c hc
      rcases hh with hh | ⟨hh, hb, hr⟩
      · omega
      · rw [hb]; exact hv c hc (by omega)
  | agg vs hs hr ih => exact .agg vs hs ih
  | tup vs hs hr ih => exact .tup vs hs ih
  | fn vs hs hr ih => exact .fn vs hs ih

/-- The objects of a state in a world. -/
structure Objs (ν : Nat → FuncId) (B : Nat) (X : Cx) : Prop where
  obj : ∀ o c, X.H o = some c → o < X.nx ∧ B ≤ X.β o ∧ ∃ r e, X.w.heap[X.β o]? = some (.cells r e (0, 0)) ∧ c.length ≤ r.size ∧
    ∀ i (h : i < c.length), Rep ν X c[i] (r.getD i undef)
  inj : ∀ o o' c c', X.H o = some c → X.H o' = some c' → X.β o = X.β o' → o = o'
  le : B ≤ X.w.heap.size
  new : ∀ b, B ≤ b → X.S b

structure Sim (ν : Nat → FuncId) (N : Nat) (w0 : World) (S : Nat → Prop) (X0 : Cx) (s : St) (a : Act) (w : World) (β : Nat → Nat) : Prop where
  env : ∀ t, Rep ν ⟨β, s.heap, s.next, w, S⟩ (s.env t) (a.tmps.getD t undef)
  size : a.tmps.size = N
  defers : a.defers = []
  objs : Objs ν w0.heap.size ⟨β, s.heap, s.next, w, S⟩
  below : Below w0.heap.size w0 w
  ext : Ext X0 ⟨β, s.heap, s.next, w, S⟩

/-- A new block that is no object. -/
theorem Ext.alloc (X : Cx) (o : Obj) (hlt : ∀ k c, X.H k = some c → X.β k < X.w.heap.size) : Ext X { X with w := X.w.alloc o } := by
  have hs : (X.w.alloc o).heap.size = X.w.heap.size + 1 := by show (X.w.heap.push o).size = _; simp
  refine ⟨Nat.le_refl _, fun b hb => ⟨⟨by simp only [hs]; exact Nat.lt_succ_of_lt hb.1.1, hb.1.2⟩, hb.2⟩, fun b hb => heap_alloc_old _ _ _ hb.1.1, fun k c' _ hc' => ⟨c', hc', .inr ⟨rfl, rfl, fun r e f hr => ⟨r, e, f, ?_, rfl⟩⟩⟩⟩
  show (X.w.alloc o).heap[X.β k]? = _
  rw [heap_alloc_old _ _ _ (hlt k c' hc')]
  exact hr

theorem Objs.lt {ν : Nat → FuncId} {B : Nat} {X : Cx} (h : Objs ν B X) : ∀ k c, X.H k = some c → X.β k < X.w.heap.size := by
  intro k c hk
  obtain ⟨_, _, r, e, hr, _⟩ := h.obj k c hk
  exact (Array.getElem?_eq_some_iff.1 hr).1

theorem Objs.alloc {ν : Nat → FuncId} {B : Nat} {X : Cx} (h : Objs ν B X) (o : Obj) : Objs ν B { X with w := X.w.alloc o } := by
  refine ⟨fun k c hk => ?_, h.inj, Nat.le_trans h.le (by simp), h.new⟩
  obtain ⟨h1, h2, r, e, hr, hl, hc⟩ := h.obj k c hk
  exact ⟨h1, h2, r, e, by rw [heap_alloc_old _ _ _ (h.lt k c hk)]; exact hr, hl, fun i hi => (hc i hi).mono (Ext.alloc X o h.lt)⟩

/-- A draw. -/
theorem Ext.drew (X : Cx) (w' : World) (h : w'.heap = X.w.heap) : Ext X { X with w := w' } := by
  refine ⟨Nat.le_refl _, fun b hb => ⟨⟨by simp only [h]; exact hb.1.1, hb.1.2⟩, hb.2⟩, fun b hb => by simp only [h], fun k c' _ hc' => ⟨c', hc', .inr ⟨rfl, rfl, fun r e f hr => ⟨r, e, f, by simp only [h]; exact hr, rfl⟩⟩⟩⟩
theorem Objs.drew {ν : Nat → FuncId} {B : Nat} {X : Cx} (h : Objs ν B X) (w' : World) (hh : w'.heap = X.w.heap) : Objs ν B { X with w := w' } := by
  refine ⟨fun k c hk => ?_, h.inj, by simp only [hh]; exact h.le, h.new⟩
  obtain ⟨h1, h2, r, e, hr, hl, hc⟩ := h.obj k c hk
  exact ⟨h1, h2, r, e, by simp only [hh]; exact hr, hl, fun i hi => (hc i hi).mono (Ext.drew X w' hh)⟩

section inv
variable {ν : Nat → FuncId} {X : Cx} {v : Value}
theorem Rep.inv_v {x : Value} (h : Rep ν X (.v x) v) : v = x := by cases h with | pure h => cases h; rfl
theorem Rep.inv_ptr {c : List AV} {o : Nat} (h : Rep ν X (.ptr c o) v) : ∃ (b base : Nat) (us : Nat → Value), v = .pointer (some ⟨b, base + o, none⟩) ∧ Imm X b ∧ (∀ i, i < c.length → X.w.cell? ⟨b, base + i, none⟩ = some (us i)) ∧ (∀ i (h : i < c.length), RepP ν X.w (Imm X) c[i] (us i)) := by
  cases h with | pure h => cases h with | ptr us hS hc hr => exact ⟨_, _, us, rfl, hS, hc, hr⟩
theorem Rep.inv_nil (h : Rep ν X .nil v) : ∃ a, v = .slice a 0 0 := by cases h with | pure h => cases h; exact ⟨_, rfl⟩
theorem Rep.inv_sl {c : List AV} {n : Nat} (h : Rep ν X (.sl c n) v) : (∃ (b off cap : Nat) (us : Nat → Value), v = .slice (some ⟨b, off, none⟩) n cap ∧ n ≤ cap ∧ Imm X b ∧ (∀ i, i < c.length → X.w.cell? ⟨b, off + i, none⟩ = some (us i)) ∧ (∀ i (h : i < c.length), RepP ν X.w (Imm X) c[i] (us i))) ∨ (∃ a cap, v = .slice a 0 cap ∧ n = 0 ∧ c = []) := by
  cases h with | pure h => cases h with
    | sl us hS hn hc hr => exact .inl ⟨_, _, _, us, rfl, hn, hS, hc, hr⟩
    | sl0 a cap => exact .inr ⟨a, cap, rfl, rfl, rfl⟩
theorem Rep.inv_agg {c : List AV} (h : Rep ν X (.agg c) v) : ∃ vs : Array Value, v = .agg vs ∧ vs.size = c.length ∧ ∀ i (h : i < c.length), Rep ν X c[i] (vs.getD i undef) := by
  cases h with
  | pure h => cases h with | agg vs hs hr => exact ⟨vs, rfl, hs, fun i h => .pure (hr i h)⟩
  | agg vs hs hr => exact ⟨vs, rfl, hs, hr⟩
theorem Rep.inv_tup {c : List AV} (h : Rep ν X (.tup c) v) : ∃ vs : Array Value, v = .tuple vs ∧ vs.size = c.length ∧ ∀ i (h : i < c.length), Rep ν X c[i] (vs.getD i undef) := by
  cases h with
  | pure h => cases h with | tup vs hs hr => exact ⟨vs, rfl, hs, fun i h => .pure (hr i h)⟩
  | tup vs hs hr => exact ⟨vs, rfl, hs, hr⟩
theorem Rep.inv_fn {id : Nat} {c : List AV} (h : Rep ν X (.fn id c) v) : ∃ vs : Array Value, v = .func (.func (ν id)) #[] vs ∧ vs.size = c.length ∧ ∀ i (h : i < c.length), Rep ν X c[i] (vs.getD i undef) := by
  cases h with
  | pure h => cases h with | fn vs hs hr => exact ⟨vs, rfl, hs, fun i h => .pure (hr i h)⟩
  | fn vs hs hr => exact ⟨vs, rfl, hs, hr⟩
theorem Rep.inv_ms {o off n sz : Nat} (h : Rep ν X (.ms o off n sz) v) : o < X.nx ∧ v.oneCell' = true ∧ (∀ c, X.H o = some c → off + n * sz ≤ c.length) ∧
    (∀ c, X.H o = some c → off + n * sz = c.length → ∃ cap r e f, v = .slice (some ⟨X.β o, off, none⟩) n cap ∧ n ≤ cap ∧ X.w.heap[X.β o]? = some (.cells r e f) ∧ off + cap * sz ≤ r.size) := by
  cases h with
  | pure h => cases h
  | ms a b c d => exact ⟨a, b, c, d⟩
theorem Rep.inv_mp {o off len : Nat} (h : Rep ν X (.mp o off len) v) : o < X.nx ∧ v.oneCell' = true ∧ (∀ c, X.H o = some c → len ≤ c.length) ∧
    (∀ c, X.H o = some c → c.length = len → v = .pointer (some ⟨X.β o, off, none⟩)) := by
  cases h with
  | pure h => cases h
  | mp a b c d => exact ⟨a, b, c, d⟩
end inv

theorem Rep.one {ν : Nat → FuncId} {X : Cx} {a : AV} {v : Value} (h : Rep ν X a v) (h1 : a.one = true) : v.oneCell' = true := by
  cases h with
  | pure h => cases h <;> first | exact h1 | rfl | simp [AV.one] at h1
  | ms _ h _ _ => exact h
  | mp _ h _ _ => exact h
  | agg => simp [AV.one] at h1
  | tup => simp [AV.one] at h1
  | fn => rfl

/-- A value's own cells. -/
theorem Rep.cells {ν : Nat → FuncId} {X : Cx} {a : AV} {v : Value} (h : Rep ν X a v) (h1 : a.cells.all AV.one = true) :
    v.cells.size = a.cells.length ∧ ∀ i (h : i < a.cells.length), Rep ν X a.cells[i] (v.cells.getD i undef) := by
  have key : ∀ (b : AV), b = a → (∀ c, b ≠ .agg c) → v.cells.size = a.cells.length ∧ ∀ i (h : i < a.cells.length), Rep ν X a.cells[i] (v.cells.getD i undef) := by
    intro b hb hne
    subst hb
    have hc : b.cells = [b] := by cases b <;> first | rfl | exact absurd rfl (hne _)
    have ho : b.one = true := by simpa [hc] using h1
    have hv := h.one ho
    have hvc : v.cells = #[v] := by cases v <;> first | rfl | simp [Value.oneCell'] at hv
    simp only [hc, hvc]
    refine ⟨rfl, fun i hi => ?_⟩
    have : i = 0 := by simpa using hi
    subst this
    exact h
  cases a with
  | agg c => obtain ⟨vs, rfl, hs, hr⟩ := h.inv_agg; exact ⟨hs, hr⟩
  | _ => exact key _ rfl (by simp)

end Go.Av
