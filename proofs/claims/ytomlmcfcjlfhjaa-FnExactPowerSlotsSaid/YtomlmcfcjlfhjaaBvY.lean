/-
  Several texts in one: BvBR, BvPl, BvOp, BvTm, BvTo, BvWp, BvEq, BvSt, BvEff, BvStep, BvStep2, BvStepM, BvStep3, BvStepA, BvStep4, BvReg, BvEv.
-/
import Derived.Conc.Beside
import Derived.Conc.CompanyDraw
import Derived.Conc.Listed
import Derived.Conc.Own4
import Derived.Conc.Own5
import Derived.Orders
import Derived.Tactics
import Derived.Scope
import Derived.Conc.Events
import Derived.Test.YtomlmcfcjlfhjaaBvP
import Derived.OrdersHeld
import Derived.Laws.MakeOwn
/-
  Own steps of one goroutine whatever the others do: what of the world it sees, its steps, its code, its calls.
-/
namespace Go.Av
set_option linter.unusedSectionVars false
set_option linter.unusedSimpArgs false
set_option linter.unusedVariables false
open Go.Conc (G crowd Leavers Past EvL)
open Go.ConcN (sumTo upd sumTo_upd upd_ne upd_same)

def Noone : Loc → Prop := fun _ => False
def EvOk (B : Nat) (es : Array Event) : Prop := ∀ e ∈ es, EvL Noone B e
theorem EvOk.none (B : Nat) : EvOk B #[] := fun e he => by simp at he
theorem EvOk.mono {B B' : Nat} {es : Array Event} (h : EvOk B es) (hB : B ≤ B') : EvOk B' es := fun e he => ⟨(h e he).1, (h e he).2.1, (h e he).2.2.1, Go.MemAct.low_mono hB (h e he).2.2.2⟩

theorem at_at' (w : World) (d e : Nat) : (w.at d).at e = w.at e := rfl
theorem at_self (w : World) : w.at w.drawn = w := rfl

/-! ### a part of the world -/
/-- What stands in the place of a block that is not seen. -/
def dumb : Obj := .map #[] 0
/-- A block that is only read. -/
def chill : Obj → Obj
  | .cells c e _ => .cells c e (0, c.size)
  | _ => dumb

/-- The world r as a goroutine sees it that reads the blocks below B and has the blocks of M to itself. -/
structure Vw (B : Nat) (M : Nat → Prop) (r v : World) : Prop where
  size : v.heap.size = r.heap.size
  tape : v.tape = r.tape
  drawn : v.drawn = r.drawn
  os : v.os = r.os
  output : v.output = r.output
  mine : ∀ b, B ≤ b → M b → v.heap[b]? = r.heap[b]?
  old : ∀ b, b < B → v.heap[b]? = (r.heap[b]?).map chill
  not : ∀ b, B ≤ b → ¬ M b → b < r.heap.size → v.heap[b]? = some dumb
  views : ∀ (b : Nat) x u, v.heap[b]? ≠ some (Obj.view x u)
  low : B ≤ r.heap.size

def inB (B : Nat) (M : Nat → Prop) (wr : Bool) : Loc → Prop
  | .cell a => (a.block < B ∧ wr = false) ∨ (B ≤ a.block ∧ M a.block)
  | .obj _ => False
  | _ => True
/-- Old blocks are read only; else only own blocks are touched. -/
def EvM (B : Nat) (M : Nat → Prop) (es : Array Event) : Prop := ∀ e ∈ es, ∀ t, (MemAct.ofEvent e).touch? = some t → inB B M t.write t.loc
theorem EvM.none (B : Nat) (M : Nat → Prop) : EvM B M #[] := fun e he => by simp at he
theorem inB.mono {B : Nat} {M M' : Nat → Prop} {wr : Bool} {l : Loc} (h : inB B M wr l) (hM : ∀ b, M b → M' b) : inB B M' wr l := by
  cases l with
  | cell a => exact h.imp id fun x => ⟨x.1, hM _ x.2⟩
  | obj r => exact h
  | _ => trivial

def plus (M : Nat → Prop) (r r' : World) : Nat → Prop := fun b => M b ∨ (r.heap.size ≤ b ∧ b < r'.heap.size)
/-- What a step does to the world r, seen as v' behind it. -/
structure Nx (B : Nat) (M : Nat → Prop) (r r' v' : World) (es : Array Event) : Prop where
  vw : Vw B (plus M r r') r' v'
  size : r.heap.size ≤ r'.heap.size
  keeps : ∀ b, b < r.heap.size → ¬ (B ≤ b ∧ M b) → r'.heap[b]? = r.heap[b]?
  tape : r'.tape = r.tape
  os : r'.os = r.os
  output : r'.output = r.output
  ok : EvOk r'.heap.size es
  ev : EvM B (plus M r r') es

theorem Vw.plus_self {B : Nat} {M : Nat → Prop} {r v : World} (h : Vw B M r v) : Vw B (plus M r r) r v := by
  refine ⟨h.size, h.tape, h.drawn, h.os, h.output, fun b hb hm => h.mine b hb ?_, h.old, fun b hb hm => h.not b hb fun x => hm (.inl x), h.views, h.low⟩
  rcases hm with x | x
  · exact x
  · omega
/-- A step that leaves the world. -/
theorem Nx.still {B : Nat} {M : Nat → Prop} {r v : World} (h : Vw B M r v) {es : Array Event} (h1 : EvOk r.heap.size es) (h2 : EvM B (plus M r r) es) : Nx B M r r v es :=
  ⟨h.plus_self, Nat.le_refl _, fun _ _ _ => rfl, rfl, rfl, rfl, h1, h2⟩
theorem Nx.none {B : Nat} {M : Nat → Prop} {r v : World} (h : Vw B M r v) : Nx B M r r v #[] := .still h (.none _) (.none _ _)

/-- What others may do to the world that one sees. -/
structure Oth (v v' : World) : Prop where
  tape : v'.tape = v.tape
  os : v'.os = v.os
  output : v'.output = v.output
  size : v.heap.size ≤ v'.heap.size
  old : ∀ b, b < v.heap.size → v'.heap[b]? = v.heap[b]?
theorem Oth.refl (v : World) : Oth v v := ⟨rfl, rfl, rfl, Nat.le_refl _, fun _ _ => rfl⟩
theorem Oth.at (v : World) (d : Nat) : Oth v (v.at d) := ⟨rfl, rfl, rfl, Nat.le_refl _, fun _ _ => rfl⟩
theorem Oth.trans {a b c : World} (h : Oth a b) (k : Oth b c) : Oth a c :=
  ⟨k.tape.trans h.tape, k.os.trans h.os, k.output.trans h.output, Nat.le_trans h.size k.size, fun x hx => (k.old x (Nat.lt_of_lt_of_le hx h.size)).trans (h.old x hx)⟩

/-- The goroutine's own step. -/
structure Stp (P : Program) (m : Bool) (g : Goroutine) (v : World) (g' : Goroutine) (v' : World) : Prop where
  one : ∃ es, stepG P m g v = .go g' v' es ∧ EvOk v'.heap.size es ∧ v.heap.size ≤ v'.heap.size
  two : ∀ B M r, Vw B M r v → ∃ r' es, stepG P m g r = .go g' r' es ∧ Nx B M r r' v' es

/-- What goes back over own steps. -/
structure Clv (P : Program) (m : Bool) (rl : World → World → Prop) (R : Goroutine → World → Prop) : Prop where
  go : ∀ g v, g.status = .running → (∀ v', rl v v' → ∃ g' v'', Stp P m g v' g' v'' ∧ R g' v'') → R g v
  st : ∀ g v v', R g v → rl v v' → R g v'

class Md where
  m : Bool
  rl : World → World → Prop
  sub : ∀ {v v'}, rl v v' → Oth v v'
  Ok : Program → (Goroutine → World → Prop) → Prop
  cl : ∀ {P R}, Ok P R → Clv P m rl R

section
variable [md : Md] {P : Program} {K : Goroutine → World → Prop} {b : Frame} {a : Act} {k : List Item} {cs : List Frame} {w : World} {Q : Exit → Act → World → Prop}

/-- A move of control. -/
theorem ctl (hK : md.Ok P K) {fr fr' : Frame} (h : ∀ w, stepG P md.m (G fr cs) w = .go (G fr' cs) w #[]) (hb : K (G fr' cs) w) : K (G fr cs) w :=
  (md.cl hK).go _ _ rfl fun v' hv => ⟨_, v', ⟨⟨_, h _, EvOk.none _, Nat.le_refl _⟩, fun _ _ r hr => ⟨r, _, h r, .none hr⟩⟩, (md.cl hK).st _ _ _ hb hv⟩

/-- What is asked behind a piece of code. -/
def After (K : Goroutine → World → Prop) (b : Frame) (k : List Item) (cs : List Frame) : Exit → Act → World → Prop
  | .normal, a, w => K (G (b.at a k) cs) w
  | .exit id, a, w => ∃ k', exitTo id k = some k' ∧ K (G (b.at a k') cs) w
  | .ret, a, w => ∀ todo, K (G { b.at a todo with mode := .returning } cs) w
  | _, _, _ => False

def _root_.Go.Code.wpB (P : Program) (c : Code) (Q : Exit → Act → World → Prop) (a : Act) (w : World) : Prop :=
  ∀ (K : Goroutine → World → Prop) (b : Frame) (k : List Item) (cs : List Frame), md.Ok P K → b.kind ≠ .early → (∀ e a' w', Q e a' w' → After K b k cs e a' w') → K (G (b.at a (.code c :: k)) cs) w

theorem wp_mono {c : Code} {Q' : Exit → Act → World → Prop} (h : c.wpB P Q a w) (hq : ∀ e a w, Q e a w → Q' e a w) : c.wpB P Q' a w :=
  fun K b k cs hK hb hQ => h K b k cs hK hb fun e a' w' q => hQ e a' w' (hq _ _ _ q)
theorem wp_skip (h : Q .normal a w) : Code.skip.wpB P Q a w := fun _ _ _ _ hK _ hQ => ctl hK (fun _ => Go.Conc.stepG_skip) (hQ _ _ _ h)
theorem wp_label {l : Nat} (h : Q .normal a w) : (Code.label l).wpB P Q a w := fun _ _ _ _ hK _ hQ => ctl hK (fun _ => Go.Conc.stepG_label) (hQ _ _ _ h)
theorem wp_exit {id : Nat} (h : Q (.exit id) a w) : (Code.exit id).wpB P Q a w := fun _ _ _ _ hK _ hQ => by
  obtain ⟨k', hk, hb⟩ := hQ _ _ _ h
  exact ctl hK (fun _ => Go.Conc.stepG_exit hk) hb
theorem wp_ret (h : Q .ret a w) : Code.ret.wpB P Q a w := fun _ _ _ _ hK _ hQ => ctl hK (fun _ => Go.Conc.stepG_ret') (hQ _ _ _ h _)
theorem wp_seq {x y : Code} (h : x.wpB P (Exit.then (y.wpB P Q) Q) a w) : (Code.seq x y).wpB P Q a w := fun K b k cs hK hb hQ => by
  refine ctl hK (fun _ => Go.Conc.stepG_seq) (h K b (.code y :: k) cs hK hb fun e a' w' hq => ?_)
  cases e with
  | normal => exact hq K b k cs hK hb hQ
  | exit id =>
    obtain ⟨k', hk, hr⟩ := hQ _ _ _ hq
    exact ⟨k', by simpa [exitTo] using hk, hr⟩
  | ret => exact hQ _ _ _ hq
  | goto l => exact hQ _ _ _ hq
  | panic c => exact hQ _ _ _ hq
  | outgrown => exact hQ _ _ _ hq
theorem wp_cond_split {c : Operand} {x y : Code} {t : Bool} (hc : a.eval c = .bool t) (ht : t = true → x.wpB P Q a w) (hf : t = false → y.wpB P Q a w) : (Code.cond c x y).wpB P Q a w := fun K b k cs hK hb hQ => by
  refine ctl hK (fun _ => Go.Conc.stepG_cond hc) ?_
  cases t
  · exact hf rfl K b k cs hK hb hQ
  · exact ht rfl K b k cs hK hb hQ
theorem wp_block {id : Nat} {c : Code} (h : c.wpB P (Exit.inBlock id Q) a w) : (Code.block id c).wpB P Q a w := fun K b k cs hK hb hQ => by
  refine ctl hK (fun _ => Go.Conc.stepG_block) (h K b (.inBlock id :: k) cs hK hb fun e a' w' hq => ?_)
  cases e with
  | normal => exact ctl hK (fun _ => Go.Conc.stepG_inBlock) (hQ _ _ _ hq)
  | exit id' =>
    simp only [Exit.inBlock] at hq
    split at hq
    · rename_i e
      exact ⟨k, by simp [exitTo, e], hQ _ _ _ hq⟩
    · rename_i e
      obtain ⟨k', hk, hr⟩ := hQ _ _ _ hq
      exact ⟨k', by simp [exitTo]; rw [if_neg (fun q => e q.symm)]; exact hk, hr⟩
  | ret => exact hQ _ _ _ hq
  | goto l => exact hQ _ _ _ hq
  | panic c => exact hQ _ _ _ hq
  | outgrown => exact hQ _ _ _ hq
theorem wp_loop {c : Code} (I : Act → World → Prop) (μ : Act → World → Nat) (h₀ : I a w)
    (round : ∀ a w, I a w → c.wpB P (Exit.then (fun a' w' => I a' w' ∧ μ a' w' < μ a w) Q) a w) : (Code.loop c).wpB P Q a w := fun K b k cs hK hb hQ => by
  have key : ∀ n a w, μ a w = n → I a w → K (G (b.at a (.code c :: .inLoop c :: k)) cs) w := by
    intro n
    induction n using Nat.strongRecOn with
    | _ n ih =>
      intro a w hn hI
      refine round a w hI K b (.inLoop c :: k) cs hK hb fun e a' w' hq => ?_
      cases e with
      | normal => exact ctl hK (fun _ => Go.Conc.stepG_inLoop) (ih _ (hn ▸ hq.2) a' w' rfl hq.1)
      | exit id =>
        obtain ⟨k', hk, hr⟩ := hQ _ _ _ hq
        exact ⟨k', by simpa [exitTo] using hk, hr⟩
      | ret => exact hQ _ _ _ hq
      | goto l => exact hQ _ _ _ hq
      | panic c => exact hQ _ _ _ hq
      | outgrown => exact hQ _ _ _ hq
  exact ctl hK (fun _ => Go.Conc.stepG_loop) (key _ a w rfl h₀)
theorem wp_scope_straight {c : Code} (h : c.wpB P (Exit.noGoto Q) a w) : (Code.scope c).wpB P Q a w := fun K b k cs hK hb hQ => by
  have s1 : ∀ w, stepG P md.m (G (b.at a (.code (.scope c) :: k)) cs) w = .go (G (b.at a (.code c :: .inScope c :: k)) cs) w #[] := fun w => by simp [G, stepG, stepG.exec, Frame.at]
  have s2 : ∀ a w, stepG P md.m (G (b.at a (.inScope c :: k)) cs) w = .go (G (b.at a k) cs) w #[] := fun a w => by simp [G, stepG, stepG.exec, Frame.at]
  refine ctl hK s1 (h K b (.inScope c :: k) cs hK hb fun e a' w' hq => ?_)
  cases e with
  | normal => exact ctl hK (s2 a') (hQ _ _ _ hq)
  | exit id =>
    obtain ⟨k', hk, hr⟩ := hQ _ _ _ hq
    exact ⟨k', by simpa [exitTo] using hk, hr⟩
  | ret => exact hQ _ _ _ hq
  | goto l => exact hq.elim
  | panic c => exact hQ _ _ _ hq
  | outgrown => exact hQ _ _ _ hq

/-- The results of a frame. -/
structure ResOk (P : Program) (fn : Func) (tmps : Array Value) (w : World) (v : Value) : Prop where
  one : (results fn tmps).run P w = .ok v w ∧ EvOk w.heap.size ((results fn tmps).events P w #[])
  two : ∀ B M r, Vw B M r w → (results fn tmps).run P r = .ok v r ∧ Nx B M r r w ((results fn tmps).events P r #[])

/-- On its way out, its results being v. -/
structure Leav (P : Program) (fr : Frame) (w : World) (v : Value) : Prop where
  mode : fr.mode = .returning
  defers : fr.defers = []
  kind : fr.kind = .normal
  res : ∃ fn, P.funcs[fr.fn]? = some fn ∧ ∀ w', md.rl w w' → ResOk P fn fr.tmps w' v

/-- A call whatever the others do. -/
def Calls (P : Program) (f : FuncId) (args : Array Value) (w : World) (R : Ending → World → Prop) : Prop :=
  ∀ (K : Goroutine → World → Prop) (cs : List Frame), md.Ok P K → (∀ v w' fr, R (.returned v) w' → fr.fn = f → Leav P fr w' v → K (G fr cs) w') → K (G (Frame.enter P f args .normal) cs) w
theorem Calls.mono {f : FuncId} {args : Array Value} {R R' : Ending → World → Prop} (h : Calls P f args w R) (hr : ∀ e w', R e w' → R' e w') : Calls P f args w R' :=
  fun K cs hK hk => h K cs hK fun v w' fr hR => hk v w' fr (hr _ _ hR)

omit md in
theorem stepG_leave' {m : Bool} {fr c : Frame} {v : Value} {fn : Func} (h1 : fr.mode = .returning) (h2 : fr.defers = []) (h3 : fr.kind = .normal) (hf : P.funcs[fr.fn]? = some fn) (hr : (results fn fr.tmps).run P w = .ok v w) :
    stepG P m (G fr (c :: cs)) w = .go (G (c.finish v) cs) w (seen P fr.fn ((results fn fr.tmps).events P w #[])) := by
  obtain ⟨f1, t1, td, d1, m1, k1, _⟩ := fr
  simp only at h1 h2 h3 hf hr
  subst h1; subst h2; subst h3
  simp [G, stepG, unwind, doReturn, hf, hr, GStep.after]
end
end Go.Av

/-
  What plain operations list.
-/
namespace Go.Av
set_option linter.unusedSectionVars false
set_option linter.unusedSimpArgs false
set_option linter.unusedVariables false
open Go.Conc (EvL)

theorem throw_ne {ε α : Type} {e : ε} {x : α} (h : (MonadExcept.throw e : Except ε α) = .ok x) : False := by cases h
theorem seen_block {p : Program} {w : World} {at_ k : Addr} {u : TypeId} {b : Bool} {x : Array Value × TypeId × (Nat × Nat) × Nat × Value × List (Nat × Nat × List UInt8)} (h : w.seen p at_ u k b = .ok x) : at_.block < w.heap.size := by
  unfold World.seen at h
  cases hb : w.heap[at_.block]? with
  | none =>
    exfalso
    simp [hb, bind, Except.bind] at h
    repeat' (first | exact throw_ne h | split at h)
    all_goals (first | exact throw_ne h | cases h)
  | some o => exact (Array.getElem?_eq_some_iff.1 hb).1
theorem viewLoad_touch {p : Program} {w : World} {at_ k : Addr} {u : TypeId} {b : Bool} {x : Value × List Addr} (h : w.viewLoad p at_ u k b = .ok x) : ∀ a ∈ x.2, a.block < w.heap.size := by
  unfold World.viewLoad at h
  cases hs : w.seen p at_ u k b with
  | error e => rw [hs] at h; cases h
  | ok y =>
    have hb := seen_block hs
    rw [hs] at h
    obtain ⟨y1, y2, y3, y4, y5, y6⟩ := y
    simp only [bind, Except.bind] at h
    split at h
    · simp only [pure, Except.pure, Except.ok.injEq] at h
      subst h
      intro a ha
      simp only [List.mem_map] at ha
      obtain ⟨z, _, rfl⟩ := ha
      exact hb
    · cases h
theorem viewStore_touch {p : Program} {w : World} {at_ k : Addr} {u : TypeId} {b : Bool} {v : Value} {x : World × List Addr} (h : w.viewStore p at_ u k v b = .ok x) : x.1.heap.size = w.heap.size ∧ ∀ a ∈ x.2, a.block < w.heap.size := by
  unfold World.viewStore at h
  simp only [bind, Except.bind] at h
  split at h
  · cases h
  rename_i h0
  cases hs : w.seen p at_ u k b with
  | error e => rw [hs] at h; cases h
  | ok y =>
    have hb := seen_block hs
    rw [hs] at h
    obtain ⟨y1, y2, y3, y4, y5, y6⟩ := y
    simp only at h
    split at h
    · split at h
      · cases h
      · split at h
        · cases h
        · simp only [pure, Except.pure, Except.ok.injEq] at h
          subst h
          refine ⟨by simp, fun a ha => ?_⟩
          simp only [List.mem_map] at ha
          obtain ⟨z, _, rfl⟩ := ha
          exact hb
    · cases h

/-- No word of the library's but 'no room'; no call of the system. -/
def Plain (P : Program) {α : Type} : Sem α → Prop
  | .pure _ => True
  | .load _ _ k => ∀ v, Plain P (k v)
  | .store _ _ _ k => Plain P k
  | .new _ k => ∀ r, Plain P (k r)
  | .shape _ k => ∀ x, Plain P (k x)
  | .freeze _ _ k => Plain P k
  | .frozen _ k => ∀ b, Plain P (k b)
  | .getObj _ k => ∀ o, Plain P (k o)
  | .setObj _ _ k => Plain P k
  | .choose _ k => ∀ n, Plain P (k n)
  | .sys _ _ => False
  | .program k => Plain P (k P)
  | .mark m k => m = .noRoom ∧ Plain P k
  | .halt _ => True

theorem evL_cell' {B : Nat} {a : Addr} {wr s : Bool} (h : a.block < B) : EvL Noone B ⟨.cell a, wr, s⟩ := ⟨fun x _ hs => hs.elim, by simp, by simp, by cases wr <;> cases s <;> exact h⟩
theorem evL_obj {B r : Nat} {wr s : Bool} (h : r < B) : EvL Noone B ⟨.obj r, wr, s⟩ := ⟨fun x _ hs => hs.elim, by simp, by simp, by cases wr <;> cases s <;> exact h⟩
theorem evL_noRoom {B : Nat} : EvL Noone B ⟨.mark .noRoom, false, true⟩ := ⟨fun x _ hs => hs.elim, by simp, by simp, trivial⟩
theorem evL_mono {B B' : Nat} {e : Event} (h : EvL Noone B e) (hB : B ≤ B') : EvL Noone B' e := ⟨h.1, h.2.1, h.2.2.1, Go.MemAct.low_mono hB h.2.2.2⟩

theorem far_load {p : Program} {w : World} {a : Addr} {b : Bool} {x : Value × List Addr} (h : w.farLoad p a b = .ok x) : ∀ a ∈ x.2, a.block < w.heap.size := by
  unfold World.farLoad at h
  split at h
  · split at h
    · cases h; rename_i hv; exact viewLoad_touch hv
    · cases h
  · cases h
theorem far_store {p : Program} {w : World} {a : Addr} {b : Bool} {v : Value} {x : World × List Addr} (h : w.farStore p a v b = .ok x) : x.1.heap.size = w.heap.size ∧ ∀ a ∈ x.2, a.block < w.heap.size := by
  unfold World.farStore at h
  split at h
  · split at h
    · cases h; rename_i hv; exact viewStore_touch hv
    · cases h
  · cases h
theorem cell_lt' {w : World} {a : Addr} {v : Value} (h : w.cell? a = some v) : a.block < w.heap.size := by
  unfold World.cell? at h
  split at h
  · rename_i hb; exact (Array.getElem?_eq_some_iff.1 hb).1
  · cases h
theorem size_setCell' (w : World) (a : Addr) (v : Value) : (w.setCell a v).heap.size = w.heap.size := by
  unfold World.setCell
  split <;> simp
theorem size_freeze' (w : World) (a : Addr) (n : Nat) : (w.freeze a n).heap.size = w.heap.size := by
  unfold World.freeze
  split <;> simp

theorem plain_events {P : Program} {α : Type} : ∀ (s : Sem α), Plain P s → ∀ (w : World) (es : Array Event) (r : α) (w' : World), s.run P w = .ok r w' → w.heap.size ≤ w'.heap.size ∧ ∀ e ∈ (s.runT P w es).2, e ∈ es ∨ EvL Noone w'.heap.size e := by
  intro s
  induction s with
  | pure a => intro _ w es r w' h; cases h; exact ⟨Nat.le_refl _, fun e he => .inl he⟩
  | halt x => intro _ w es r w' h; cases h
  | load m a k ih =>
    intro hp w es r w' h
    simp only [Sem.run] at h
    simp only [Sem.runT]
    split at h
    · rename_i v hv
      obtain ⟨h1, h2⟩ := ih v (hp v) w (es.push ⟨.cell a, false, m == .atomic⟩) r w' h
      refine ⟨h1, fun e he => ?_⟩
      rcases h2 e he with q | q
      · rcases Array.mem_push.1 q with q | q
        · exact .inl q
        · subst q; exact .inr (evL_cell' (Nat.lt_of_lt_of_le (cell_lt' hv) h1))
      · exact .inr q
    · split at h
      · rename_i v t hv
        obtain ⟨h1, h2⟩ := ih v (hp v) w (es ++ t.toArray.map (⟨.cell ·, false, m == .atomic⟩)) r w' h
        refine ⟨h1, fun e he => ?_⟩
        rcases h2 e he with q | q
        · rcases Array.mem_append.1 q with q | q
          · exact .inl q
          · obtain ⟨a', ha, rfl⟩ := Array.mem_map.1 q
            exact .inr (evL_cell' (Nat.lt_of_lt_of_le (far_load hv a' (by simpa using ha)) h1))
        · exact .inr q
      · cases h
  | store m a v k ih =>
    intro hp w es r w' h
    have e1 : (∃ c, v = .agg c) ∨ (∃ c, v = .tuple c) ∨ ((Sem.store m a v k).run P w = (match w.cell? a with
          | some _ => if w.frozen? a then .halt (.unsupported (.unsafePointer "a write to bytes that a string shares")) w else k.run P (w.setCell a v)
          | none => match w.farStore P a v (m == .atomic) with
            | .ok (w, _) => k.run P w
            | .error h => .halt h w) ∧
        (Sem.store m a v k).runT P w es = (match w.cell? a with
          | some _ => if w.frozen? a then (.halt (.unsupported (.unsafePointer "a write to bytes that a string shares")) w, es) else k.runT P (w.setCell a v) (es.push ⟨.cell a, true, m == .atomic⟩)
          | none => match w.farStore P a v (m == .atomic) with
            | .ok (w, touched) => k.runT P w (es ++ touched.toArray.map (⟨.cell ·, true, m == .atomic⟩))
            | .error h => (.halt h w, es))) := by
      cases v <;> first | exact .inl ⟨_, rfl⟩ | exact .inr (.inl ⟨_, rfl⟩) | exact .inr (.inr ⟨rfl, rfl⟩)
    rcases e1 with ⟨c, rfl⟩ | ⟨c, rfl⟩ | ⟨e1, e2⟩
    · cases h
    · cases h
    rw [e1] at h
    rw [e2]
    split at h
    · rename_i c hc
      try simp only
      split at h
      · cases h
      · rename_i hf
        rw [if_neg hf]
        obtain ⟨h1, h2⟩ := ih hp (w.setCell a v) (es.push ⟨.cell a, true, m == .atomic⟩) r w' h
        rw [size_setCell'] at h1
        refine ⟨h1, fun e he => ?_⟩
        rcases h2 e he with q | q
        · rcases Array.mem_push.1 q with q | q
          · exact .inl q
          · subst q; exact .inr (evL_cell' (Nat.lt_of_lt_of_le (cell_lt' hc) h1))
        · exact .inr q
    · rename_i hc
      try simp only
      split at h
      · rename_i w2 t hv
        try simp only
        obtain ⟨g1, g2⟩ := far_store hv
        simp only at g1 g2
        obtain ⟨h1, h2⟩ := ih hp w2 (es ++ t.toArray.map (⟨.cell ·, true, m == .atomic⟩)) r w' h
        rw [g1] at h1
        refine ⟨h1, fun e he => ?_⟩
        rcases h2 e he with q | q
        · rcases Array.mem_append.1 q with q | q
          · exact .inl q
          · obtain ⟨a', ha, rfl⟩ := Array.mem_map.1 q
            exact .inr (evL_cell' (Nat.lt_of_lt_of_le (g2 a' (by simpa using ha)) h1))
        · exact .inr q
      · cases h
  | new o k ih =>
    intro hp w es r w' h
    obtain ⟨h1, h2⟩ := ih _ (hp _) { w with heap := w.heap.push o } es r w' h
    simp at h1
    exact ⟨by omega, h2⟩
  | shape r0 k ih => intro hp w es r w' h; exact ih _ (hp _) w es r w' h
  | freeze a n k ih =>
    intro hp w es r w' h
    obtain ⟨h1, h2⟩ := ih hp (w.freeze a n) es r w' h
    rw [size_freeze'] at h1
    exact ⟨h1, h2⟩
  | frozen a k ih => intro hp w es r w' h; exact ih _ (hp _) w es r w' h
  | getObj r0 k ih =>
    intro hp w es r w' h
    simp only [Sem.run] at h
    simp only [Sem.runT]
    split at h
    · cases h
    · rename_i o hn ho
      try simp only [ho]
      obtain ⟨h1, h2⟩ := ih o (hp o) w (es.push ⟨.obj r0, false, o.isChan⟩) r w' h
      have hlt : r0 < w.heap.size := (Array.getElem?_eq_some_iff.1 ho).1
      have fin : ∀ e, e ∈ es.push ⟨.obj r0, false, o.isChan⟩ ∨ EvL Noone w'.heap.size e → e ∈ es ∨ EvL Noone w'.heap.size e := fun e q => by
        rcases q with q | q
        · rcases Array.mem_push.1 q with q | q
          · exact .inl q
          · subst q; exact .inr (evL_obj (Nat.lt_of_lt_of_le hlt h1))
        · exact .inr q
      refine ⟨h1, fun e he => ?_⟩
      exact fin e (h2 e he)
    · cases h
  | setObj r0 o k ih =>
    intro hp w es r w' h
    simp only [Sem.run] at h
    simp only [Sem.runT]
    split at h
    · cases h
    · rename_i o0 hn ho
      try simp only [ho]
      obtain ⟨h1, h2⟩ := ih hp { w with heap := w.heap.setIfInBounds r0 o } (es.push ⟨.obj r0, true, o.isChan⟩) r w' h
      simp at h1
      have hlt : r0 < w.heap.size := (Array.getElem?_eq_some_iff.1 ho).1
      have fin : ∀ e, e ∈ es.push ⟨.obj r0, true, o.isChan⟩ ∨ EvL Noone w'.heap.size e → e ∈ es ∨ EvL Noone w'.heap.size e := fun e q => by
        rcases q with q | q
        · rcases Array.mem_push.1 q with q | q
          · exact .inl q
          · subst q; exact .inr (evL_obj (Nat.lt_of_lt_of_le hlt h1))
        · exact .inr q
      refine ⟨h1, fun e he => ?_⟩
      exact fin e (h2 e he)
    · cases h
  | choose q0 k ih =>
    intro hp w es r w' h
    simp only [Sem.run] at h
    simp only [Sem.runT]
    split at h
    · rename_i hf
      rw [if_pos hf]
      exact ih _ (hp _) w es r w' h
    · rename_i hf
      rw [if_neg hf]
      exact ih _ (hp _) { w with drawn := w.drawn + 1 } es r w' h
  | sys c k ih => intro hp; exact hp.elim
  | program k ih => intro hp w es r w' h; exact ih P hp w es r w' h
  | mark m k ih =>
    intro hp w es r w' h
    obtain ⟨rfl, hp⟩ := hp
    obtain ⟨h1, h2⟩ := ih hp w (es.push ⟨.mark .noRoom, false, true⟩) r w' h
    refine ⟨h1, fun e he => ?_⟩
    rcases h2 e he with q | q
    · rcases Array.mem_push.1 q with q | q
      · exact .inl q
      · subst q; exact .inr evL_noRoom
    · exact .inr q
end Go.Av

/-
  Plain operations.
-/
namespace Go.Av
set_option linter.unusedSectionVars false
set_option linter.unusedSimpArgs false
set_option linter.unusedVariables false
variable {P : Program}

theorem plain_bind {α β : Type} {f : α → Sem β} : ∀ (s : Sem α), Plain P s → (∀ a, Plain P (f a)) → Plain P (s >>= f) := by
  intro s
  show Plain P s → (∀ a, Plain P (f a)) → Plain P (s.bind f)
  induction s with
  | pure a => intro _ h; exact h a
  | halt x => intro _ _; trivial
  | load m a k ih => intro hp h v; exact ih v (hp v) h
  | store m a v k ih => intro hp h; exact ih hp h
  | new o k ih => intro hp h r; exact ih r (hp r) h
  | shape r k ih => intro hp h x; exact ih x (hp x) h
  | freeze a n k ih => intro hp h; exact ih hp h
  | frozen a k ih => intro hp h x; exact ih x (hp x) h
  | getObj r k ih => intro hp h x; exact ih x (hp x) h
  | setObj r o k ih => intro hp h; exact ih hp h
  | choose q k ih => intro hp h x; exact ih x (hp x) h
  | sys c k ih => intro hp; exact hp.elim
  | program k ih => intro hp h; exact ih P hp h
  | mark m k ih => intro hp h; exact ⟨hp.1, ih hp.2 h⟩
theorem plain_pure {α : Type} (a : α) : Plain P (pure a : Sem α) := trivial
theorem plain_stuck {α : Type} (s : String) : Plain P (stuck s : Sem α) := trivial
theorem plain_unsupported {α : Type} (s : Unsupported) : Plain P (unsupported s : Sem α) := trivial
theorem plain_goPanic {α : Type} (s : Value) : Plain P (goPanic s : Sem α) := trivial
theorem plain_program : Plain P program := trivial
theorem plain_load (a : Addr) : Plain P (load a) := fun _ => trivial
theorem plain_store (a : Addr) (v : Value) : Plain P (store a v) := trivial
theorem plain_newObj (o : Obj) : Plain P (newObj o) := fun _ => trivial
theorem plain_choose (q : Question) : Plain P (choose q) := fun _ => trivial
theorem plain_shape (q : Nat) : Plain P (shape q) := fun _ => trivial
theorem plain_frozen (q : Addr) : Plain P (frozen q) := fun _ => trivial
theorem plain_askRoom (n : Nat) : Plain P (askRoom n) := by unfold askRoom; split; exact ⟨rfl, trivial⟩; trivial
theorem plain_typeInfo (t : TypeId) : Plain P (typeInfo t) := by
  refine plain_bind _ plain_program fun p => ?_
  split <;> trivial
theorem plain_underlying (t : TypeId) : Plain P (underlying t) := by
  refine plain_bind _ plain_program fun p => ?_
  split <;> trivial
theorem plain_zeroValue (t : TypeId) : Plain P (zeroValue t) := by
  refine plain_bind _ (plain_typeInfo t) fun p => ?_
  split <;> trivial
theorem plain_sizeOf (t : TypeId) : Plain P (Go.sizeOf t) := plain_bind _ (plain_typeInfo t) fun _ => trivial
theorem plain_isAgg (t : TypeId) : Plain P (isAgg t) := by
  refine plain_bind _ (plain_underlying t) fun p => ?_
  split <;> trivial
theorem plain_newRow (t : TypeId) (cs : Array Value) : Plain P (newRow t cs) := plain_bind _ (plain_newObj _) fun _ => trivial
theorem plain_newVar (t : TypeId) (v : Value) : Plain P (newVar t v) := plain_newRow _ _
theorem plain_loadCellsFrom (a : Addr) : ∀ (n i : Nat) (acc : Array Value), Plain P (loadCellsFrom a i n acc) := by
  intro n
  induction n with
  | zero => intro i acc; trivial
  | succ n ih => intro i acc; exact plain_bind _ (plain_load _) fun _ => ih _ _
theorem plain_loadVar (t : TypeId) (a : Addr) : Plain P (loadVar t a) := by
  refine plain_bind _ (plain_isAgg t) fun b => ?_
  split
  · exact plain_bind _ (plain_sizeOf t) fun n => plain_bind _ (plain_loadCellsFrom a n 0 #[]) fun _ => trivial
  · exact plain_load a
theorem plain_storeCells (a : Addr) : ∀ (vs : List Value) (i : Nat), Plain P (storeCells a vs i) := by
  intro vs
  induction vs with
  | nil => intro i; unfold storeCells; trivial
  | cons v vs ih => intro i; unfold storeCells; exact plain_bind _ (plain_store _ _) fun _ => ih _
theorem plain_storeVar (t : TypeId) (a : Addr) (v : Value) : Plain P (storeVar t a v) := by
  refine plain_bind _ (plain_sizeOf t) fun n => ?_
  split
  · exact plain_bind _ (plain_stuck _) fun _ => plain_storeCells _ _ _
  · exact plain_storeCells _ _ _
theorem plain_elemOf (t : TypeId) : Plain P (elemOf t) := by
  refine plain_bind _ (plain_underlying t) fun p => ?_
  split <;> trivial
theorem plain_runtimePanic {α : Type} (e : RuntimeError) : Plain P (runtimePanic e : Sem α) := by
  refine plain_bind _ plain_program fun p => ?_
  cases e <;> first | trivial | exact plain_bind _ (plain_bind _ (plain_elemOf _) fun _ => plain_newVar _ _) fun _ => trivial | exact plain_bind _ (plain_elemOf _) fun _ => plain_bind _ (plain_newVar _ _) fun _ => trivial
theorem plain_boundsPanic {α : Type} (k : IntKind) (x y : Int) (c : BoundsCode) : Plain P (boundsPanic k x y c : Sem α) := by
  unfold boundsPanic
  split
  · exact plain_bind _ (plain_bind _ (plain_choose _) fun _ => trivial) fun _ => plain_runtimePanic _
  · exact plain_bind _ (plain_pure _) fun _ => plain_runtimePanic _
theorem plain_asIntOf (v : Value) : Plain P (asIntOf v) := by unfold asIntOf; split <;> trivial
theorem plain_asInt (v : Value) : Plain P (asInt v) := plain_bind _ (plain_asIntOf v) fun _ => trivial
theorem plain_asBool (v : Value) : Plain P (asBool v) := by unfold asBool; split <;> trivial
theorem plain_sureAddr (v : Value) : Plain P (Instr.sureAddr v) := by unfold Instr.sureAddr; split <;> trivial

theorem plain_alloc (t : TypeId) : Plain P (Instr.alloc t true (.tuple #[])) := by
  refine plain_bind _ (plain_zeroValue t) fun z => ?_
  exact plain_bind _ (plain_newVar _ _) fun _ => trivial
theorem plain_box (t : TypeId) (v : Value) : Plain P (Instr.box t v) := plain_bind _ (plain_newVar _ _) fun _ => trivial
theorem plain_mapM {α β : Type} {f : α → Sem β} (h : ∀ a, Plain P (f a)) : ∀ (l : List α), Plain P (l.mapM f) := by
  intro l
  induction l with
  | nil => simp; exact plain_pure _
  | cons a l ih => rw [List.mapM_cons]; exact plain_bind _ (h a) fun _ => plain_bind _ ih fun _ => plain_pure _
theorem plain_amapM {α β : Type} {f : α → Sem β} (h : ∀ a, Plain P (f a)) (l : Array α) : Plain P (l.mapM f) := by
  have : l = l.toList.toArray := by simp
  rw [this, List.mapM_toArray]
  exact plain_bind _ (plain_mapM h l.toList) fun _ => plain_pure _
theorem plain_extract (v : Value) (i : Nat) : Plain P (Instr.extract v i) := by
  unfold Instr.extract
  split
  · split <;> trivial
  · trivial
theorem plain_lenOf (v : Value) : Plain P (Builtin.lenOf v) := by unfold Builtin.lenOf; split <;> trivial
theorem plain_firstCells (s n : Nat) (v : Value) : Plain P (Builtin.firstCells s n v) := by
  unfold Builtin.firstCells
  split
  · exact plain_loadCellsFrom _ _ _ _
  · trivial
  · trivial
  · trivial
theorem plain_loadAt (t : TypeId) (v : Value) : Plain P (Instr.loadAt t v) := plain_bind _ (plain_sureAddr _) fun _ => plain_loadVar _ _
theorem plain_storeAt (t : TypeId) (v x : Value) : Plain P (Instr.storeAt t v x) := plain_bind _ (plain_sureAddr _) fun _ => plain_storeVar _ _ _
theorem plain_build (t : TypeId) (ps : Array (Nat × Value)) : Plain P (Instr.build t ps) := by
  unfold Instr.build
  refine plain_bind _ (plain_zeroValue t) fun z => plain_bind _ (plain_underlying t) fun u => ?_
  split
  · refine plain_bind _ (plain_amapM (fun f => ?_) _) fun _ => ?_
    · repeat' (first | with_reducible (first | refine plain_bind _ ?_ fun _ => ?_ | exact plain_pure _ | exact plain_stuck _ | exact plain_unsupported _ | exact plain_goPanic _ | exact plain_program | exact plain_load _ | exact plain_store _ _ | exact plain_newObj _ | exact plain_choose _ | exact plain_shape _ | exact plain_frozen _ | exact plain_askRoom _ | exact plain_typeInfo _ | exact plain_underlying _ | exact plain_zeroValue _ | exact plain_sizeOf _ | exact plain_isAgg _ | exact plain_newRow _ _ | exact plain_newVar _ _ | exact plain_loadVar _ _ | exact plain_storeVar _ _ _ | exact plain_runtimePanic _ | exact plain_boundsPanic _ _ _ _ | exact plain_asIntOf _ | exact plain_asInt _ | exact plain_asBool _ | exact plain_sureAddr _ | exact plain_lenOf _ | exact plain_firstCells _ _ _ | exact plain_storeCells _ _ _) | split | (dsimp only; first | split | with_reducible refine plain_bind _ ?_ fun _ => ?_) | exact trivial)
    · repeat' (first | with_reducible (first | refine plain_bind _ ?_ fun _ => ?_ | exact plain_pure _ | exact plain_stuck _ | exact plain_unsupported _ | exact plain_goPanic _ | exact plain_program | exact plain_load _ | exact plain_store _ _ | exact plain_newObj _ | exact plain_choose _ | exact plain_shape _ | exact plain_frozen _ | exact plain_askRoom _ | exact plain_typeInfo _ | exact plain_underlying _ | exact plain_zeroValue _ | exact plain_sizeOf _ | exact plain_isAgg _ | exact plain_newRow _ _ | exact plain_newVar _ _ | exact plain_loadVar _ _ | exact plain_storeVar _ _ _ | exact plain_runtimePanic _ | exact plain_boundsPanic _ _ _ _ | exact plain_asIntOf _ | exact plain_asInt _ | exact plain_asBool _ | exact plain_sureAddr _ | exact plain_lenOf _ | exact plain_firstCells _ _ _ | exact plain_storeCells _ _ _) | split | (dsimp only; first | split | with_reducible refine plain_bind _ ?_ fun _ => ?_) | exact trivial)
  · repeat' (first | with_reducible (first | refine plain_bind _ ?_ fun _ => ?_ | exact plain_pure _ | exact plain_stuck _ | exact plain_unsupported _ | exact plain_goPanic _ | exact plain_program | exact plain_load _ | exact plain_store _ _ | exact plain_newObj _ | exact plain_choose _ | exact plain_shape _ | exact plain_frozen _ | exact plain_askRoom _ | exact plain_typeInfo _ | exact plain_underlying _ | exact plain_zeroValue _ | exact plain_sizeOf _ | exact plain_isAgg _ | exact plain_newRow _ _ | exact plain_newVar _ _ | exact plain_loadVar _ _ | exact plain_storeVar _ _ _ | exact plain_runtimePanic _ | exact plain_boundsPanic _ _ _ _ | exact plain_asIntOf _ | exact plain_asInt _ | exact plain_asBool _ | exact plain_sureAddr _ | exact plain_lenOf _ | exact plain_firstCells _ _ _ | exact plain_storeCells _ _ _) | split | (dsimp only; first | split | with_reducible refine plain_bind _ ?_ fun _ => ?_) | exact trivial)
  · repeat' (first | with_reducible (first | refine plain_bind _ ?_ fun _ => ?_ | exact plain_pure _ | exact plain_stuck _ | exact plain_unsupported _ | exact plain_goPanic _ | exact plain_program | exact plain_load _ | exact plain_store _ _ | exact plain_newObj _ | exact plain_choose _ | exact plain_shape _ | exact plain_frozen _ | exact plain_askRoom _ | exact plain_typeInfo _ | exact plain_underlying _ | exact plain_zeroValue _ | exact plain_sizeOf _ | exact plain_isAgg _ | exact plain_newRow _ _ | exact plain_newVar _ _ | exact plain_loadVar _ _ | exact plain_storeVar _ _ _ | exact plain_runtimePanic _ | exact plain_boundsPanic _ _ _ _ | exact plain_asIntOf _ | exact plain_asInt _ | exact plain_asBool _ | exact plain_sureAddr _ | exact plain_lenOf _ | exact plain_firstCells _ _ _ | exact plain_storeCells _ _ _) | split | (dsimp only; first | split | with_reducible refine plain_bind _ ?_ fun _ => ?_) | exact trivial)
theorem plain_buildSlice (t : TypeId) (n : Nat) (ps : Array (Nat × Value)) : Plain P (Instr.buildSlice t n ps) := by
  unfold Instr.buildSlice
  repeat' (first | with_reducible (first | refine plain_bind _ ?_ fun _ => ?_ | exact plain_pure _ | exact plain_stuck _ | exact plain_unsupported _ | exact plain_goPanic _ | exact plain_program | exact plain_load _ | exact plain_store _ _ | exact plain_newObj _ | exact plain_choose _ | exact plain_shape _ | exact plain_frozen _ | exact plain_askRoom _ | exact plain_typeInfo _ | exact plain_underlying _ | exact plain_zeroValue _ | exact plain_sizeOf _ | exact plain_isAgg _ | exact plain_newRow _ _ | exact plain_newVar _ _ | exact plain_loadVar _ _ | exact plain_storeVar _ _ _ | exact plain_runtimePanic _ | exact plain_boundsPanic _ _ _ _ | exact plain_asIntOf _ | exact plain_asInt _ | exact plain_asBool _ | exact plain_sureAddr _ | exact plain_lenOf _ | exact plain_firstCells _ _ _ | exact plain_storeCells _ _ _) | split | (dsimp only; first | split | with_reducible refine plain_bind _ ?_ fun _ => ?_) | exact trivial)
theorem plain_makeSlice (t : TypeId) (l c : Value) : Plain P (Instr.makeSlice t l c) := by
  unfold Instr.makeSlice
  repeat' (first | with_reducible (first | refine plain_bind _ ?_ fun _ => ?_ | exact plain_pure _ | exact plain_stuck _ | exact plain_unsupported _ | exact plain_goPanic _ | exact plain_program | exact plain_load _ | exact plain_store _ _ | exact plain_newObj _ | exact plain_choose _ | exact plain_shape _ | exact plain_frozen _ | exact plain_askRoom _ | exact plain_typeInfo _ | exact plain_underlying _ | exact plain_zeroValue _ | exact plain_sizeOf _ | exact plain_isAgg _ | exact plain_newRow _ _ | exact plain_newVar _ _ | exact plain_loadVar _ _ | exact plain_storeVar _ _ _ | exact plain_runtimePanic _ | exact plain_boundsPanic _ _ _ _ | exact plain_asIntOf _ | exact plain_asInt _ | exact plain_asBool _ | exact plain_sureAddr _ | exact plain_lenOf _ | exact plain_firstCells _ _ _ | exact plain_storeCells _ _ _) | split | (dsimp only; first | split | with_reducible refine plain_bind _ ?_ fun _ => ?_) | exact trivial)
theorem plain_noView (a : Addr) : Plain P (noView a) := by
  unfold noView viewAt
  repeat' (first | with_reducible (first | refine plain_bind _ ?_ fun _ => ?_ | exact plain_pure _ | exact plain_stuck _ | exact plain_unsupported _ | exact plain_goPanic _ | exact plain_program | exact plain_load _ | exact plain_store _ _ | exact plain_newObj _ | exact plain_choose _ | exact plain_shape _ | exact plain_frozen _ | exact plain_askRoom _ | exact plain_typeInfo _ | exact plain_underlying _ | exact plain_zeroValue _ | exact plain_sizeOf _ | exact plain_isAgg _ | exact plain_newRow _ _ | exact plain_newVar _ _ | exact plain_loadVar _ _ | exact plain_storeVar _ _ _ | exact plain_runtimePanic _ | exact plain_boundsPanic _ _ _ _ | exact plain_asIntOf _ | exact plain_asInt _ | exact plain_asBool _ | exact plain_sureAddr _ | exact plain_lenOf _ | exact plain_firstCells _ _ _ | exact plain_storeCells _ _ _) | split | (dsimp only; first | split | with_reducible refine plain_bind _ ?_ fun _ => ?_) | exact fun _ => trivial | exact trivial)
theorem plain_byteOf (a : Addr) : Plain P (byteOf a) := by
  unfold byteOf
  repeat' (first | with_reducible (first | refine plain_bind _ ?_ fun _ => ?_ | exact plain_pure _ | exact plain_stuck _ | exact plain_unsupported _ | exact plain_goPanic _ | exact plain_program | exact plain_load _ | exact plain_store _ _ | exact plain_newObj _ | exact plain_choose _ | exact plain_shape _ | exact plain_frozen _ | exact plain_askRoom _ | exact plain_typeInfo _ | exact plain_underlying _ | exact plain_zeroValue _ | exact plain_sizeOf _ | exact plain_isAgg _ | exact plain_newRow _ _ | exact plain_newVar _ _ | exact plain_loadVar _ _ | exact plain_storeVar _ _ _ | exact plain_runtimePanic _ | exact plain_boundsPanic _ _ _ _ | exact plain_asIntOf _ | exact plain_asInt _ | exact plain_asBool _ | exact plain_sureAddr _ | exact plain_lenOf _ | exact plain_firstCells _ _ _ | exact plain_noView _ | exact plain_storeCells _ _ _) | split | (dsimp only; first | split | with_reducible refine plain_bind _ ?_ fun _ => ?_) | exact trivial)
theorem plain_fieldPlace (a : Addr) (f : Field) : Plain P (fieldPlace a f) := by
  unfold fieldPlace partAt
  repeat' (first | with_reducible (first | refine plain_bind _ ?_ fun _ => ?_ | exact plain_pure _ | exact plain_stuck _ | exact plain_unsupported _ | exact plain_goPanic _ | exact plain_program | exact plain_load _ | exact plain_store _ _ | exact plain_newObj _ | exact plain_choose _ | exact plain_shape _ | exact plain_frozen _ | exact plain_askRoom _ | exact plain_typeInfo _ | exact plain_underlying _ | exact plain_zeroValue _ | exact plain_sizeOf _ | exact plain_isAgg _ | exact plain_newRow _ _ | exact plain_newVar _ _ | exact plain_loadVar _ _ | exact plain_storeVar _ _ _ | exact plain_runtimePanic _ | exact plain_boundsPanic _ _ _ _ | exact plain_asIntOf _ | exact plain_asInt _ | exact plain_asBool _ | exact plain_sureAddr _ | exact plain_lenOf _ | exact plain_firstCells _ _ _ | exact plain_byteOf _ | exact plain_storeCells _ _ _) | split | (dsimp only; first | split | with_reducible refine plain_bind _ ?_ fun _ => ?_) | exact trivial)
theorem plain_fieldAt (t : TypeId) (v : Value) (n : Nat) : Plain P (Instr.fieldAt t v n) := by
  unfold Instr.fieldAt
  repeat' (first | with_reducible (first | refine plain_bind _ ?_ fun _ => ?_ | exact plain_pure _ | exact plain_stuck _ | exact plain_unsupported _ | exact plain_goPanic _ | exact plain_program | exact plain_load _ | exact plain_store _ _ | exact plain_newObj _ | exact plain_choose _ | exact plain_shape _ | exact plain_frozen _ | exact plain_askRoom _ | exact plain_typeInfo _ | exact plain_underlying _ | exact plain_zeroValue _ | exact plain_sizeOf _ | exact plain_isAgg _ | exact plain_newRow _ _ | exact plain_newVar _ _ | exact plain_loadVar _ _ | exact plain_storeVar _ _ _ | exact plain_runtimePanic _ | exact plain_boundsPanic _ _ _ _ | exact plain_asIntOf _ | exact plain_asInt _ | exact plain_asBool _ | exact plain_sureAddr _ | exact plain_lenOf _ | exact plain_firstCells _ _ _ | exact plain_fieldPlace _ _ | exact plain_storeCells _ _ _) | split | (dsimp only; first | split | with_reducible refine plain_bind _ ?_ fun _ => ?_) | exact trivial)
theorem plain_indexAt (t : TypeId) (v x : Value) : Plain P (Instr.indexAt t v x) := by
  unfold Instr.indexAt
  repeat' (first | with_reducible (first | refine plain_bind _ ?_ fun _ => ?_ | exact plain_pure _ | exact plain_stuck _ | exact plain_unsupported _ | exact plain_goPanic _ | exact plain_program | exact plain_load _ | exact plain_store _ _ | exact plain_newObj _ | exact plain_choose _ | exact plain_shape _ | exact plain_frozen _ | exact plain_askRoom _ | exact plain_typeInfo _ | exact plain_underlying _ | exact plain_zeroValue _ | exact plain_sizeOf _ | exact plain_isAgg _ | exact plain_newRow _ _ | exact plain_newVar _ _ | exact plain_loadVar _ _ | exact plain_storeVar _ _ _ | exact plain_runtimePanic _ | exact plain_boundsPanic _ _ _ _ | exact plain_asIntOf _ | exact plain_asInt _ | exact plain_asBool _ | exact plain_sureAddr _ | exact plain_lenOf _ | exact plain_firstCells _ _ _ | exact plain_storeCells _ _ _) | split | (dsimp only; first | split | with_reducible refine plain_bind _ ?_ fun _ => ?_) | exact trivial)
theorem plain_holds (a : Addr) (n : Nat) : Plain P (Builtin.holdsCells a n) := by
  unfold Builtin.holdsCells
  repeat' (first | with_reducible (first | refine plain_bind _ ?_ fun _ => ?_ | exact plain_pure _ | exact plain_stuck _ | exact plain_unsupported _ | exact plain_goPanic _ | exact plain_program | exact plain_load _ | exact plain_store _ _ | exact plain_newObj _ | exact plain_choose _ | exact plain_shape _ | exact plain_frozen _ | exact plain_askRoom _ | exact plain_typeInfo _ | exact plain_underlying _ | exact plain_zeroValue _ | exact plain_sizeOf _ | exact plain_isAgg _ | exact plain_newRow _ _ | exact plain_newVar _ _ | exact plain_loadVar _ _ | exact plain_storeVar _ _ _ | exact plain_runtimePanic _ | exact plain_boundsPanic _ _ _ _ | exact plain_asIntOf _ | exact plain_asInt _ | exact plain_asBool _ | exact plain_sureAddr _ | exact plain_lenOf _ | exact plain_firstCells _ _ _ | exact plain_storeCells _ _ _) | split | (dsimp only; first | split | with_reducible refine plain_bind _ ?_ fun _ => ?_) | exact trivial)
theorem plain_mayShare (a b c : Nat) (x : Option Addr) (v : Value) : Plain P (Builtin.mayShare a b c x v) := by
  unfold Builtin.mayShare
  repeat' (first | with_reducible (first | refine plain_bind _ ?_ fun _ => ?_ | exact plain_pure _ | exact plain_stuck _ | exact plain_unsupported _ | exact plain_goPanic _ | exact plain_program | exact plain_load _ | exact plain_store _ _ | exact plain_newObj _ | exact plain_choose _ | exact plain_shape _ | exact plain_frozen _ | exact plain_askRoom _ | exact plain_typeInfo _ | exact plain_underlying _ | exact plain_zeroValue _ | exact plain_sizeOf _ | exact plain_isAgg _ | exact plain_newRow _ _ | exact plain_newVar _ _ | exact plain_loadVar _ _ | exact plain_storeVar _ _ _ | exact plain_runtimePanic _ | exact plain_boundsPanic _ _ _ _ | exact plain_asIntOf _ | exact plain_asInt _ | exact plain_asBool _ | exact plain_sureAddr _ | exact plain_lenOf _ | exact plain_firstCells _ _ _ | exact plain_holds _ _ | exact plain_storeCells _ _ _) | split | (dsimp only; first | split | with_reducible refine plain_bind _ ?_ fun _ => ?_) | exact trivial)
theorem plain_mark : Plain P (mark .noRoom) := ⟨rfl, trivial⟩
theorem plain_append (ts : Array TypeId) (t : TypeId) (vs : Array Value) : Plain P (Builtin.append_ ts t vs) := by
  unfold Builtin.append_
  split
  · refine plain_bind _ (plain_underlying _) fun u => ?_
    split
    · split
      · refine plain_bind _ (plain_sizeOf _) fun size => ?_
        extract_lets jpU jpZ
        have hz : ∀ z, Plain P (jpZ z) := by
          intro z
          unfold jpZ
          extract_lets jpN
          have hn : ∀ n, Plain P (jpN n) := by
            intro n
            unfold jpN
            extract_lets b1 b2 b3 b4 b5
            have ha : Plain P b1 := by
              unfold b1
              split
              · exact plain_firstCells _ _ _
              · split
                · trivial
                · exact plain_bind _ (plain_zeroValue _) fun _ => trivial
            have h3 : ∀ r, Plain P (b3 r) := fun _ => trivial
            have h4 : ∀ r, Plain P (b4 r) := by
              intro r
              unfold b4
              exact plain_bind _ (plain_choose _) fun _ => plain_bind _ (plain_typeInfo _) fun _ => plain_bind _ (plain_askRoom _) fun _ => plain_bind _ (plain_firstCells _ _ _) fun _ => plain_bind _ ha fun _ => plain_bind _ (plain_zeroValue _) fun _ => plain_bind _ (plain_newRow _ _) fun _ => trivial
            have h5 : ∀ r, Plain P (b5 r) := by
              intro r
              unfold b5
              refine plain_bind _ (plain_typeInfo _) fun i2 => ?_
              split
              · refine plain_bind _ ?_ fun r => h4 r
                split
                · exact plain_runtimePanic _
                · refine plain_bind _ (plain_mayShare _ _ _ _ _) fun _ => ?_
                  split
                  · exact plain_bind _ plain_mark fun r => trivial
                  · trivial
              · exact h4 ()
            split
            · refine plain_bind _ ha fun new => ?_
              split
              · exact plain_bind _ (plain_storeCells _ _ _) fun r => h3 r
              · exact h3 ()
            · refine plain_bind _ (plain_typeInfo _) fun i => ?_
              split
              · exact plain_bind _ (plain_runtimePanic _) fun r => h5 r
              · exact h5 ()
          split
          · refine plain_bind _ (plain_asInt _) fun l => ?_
            extract_lets c1 c2 c3
            have h2 : ∀ r, Plain P (c2 r) := fun r => plain_bind _ (plain_pure _) fun n => hn n
            have h3 : ∀ r, Plain P (c3 r) := by
              intro r
              unfold c3
              refine plain_bind _ (plain_typeInfo _) fun i => ?_
              split
              · refine plain_bind _ (plain_choose _) fun m => ?_
                exact plain_bind _ (plain_runtimePanic _) fun r => h2 r
              · exact h2 ()
            split
            · exact plain_bind _ (plain_runtimePanic _) fun r => h3 r
            · exact h3 ()
          · exact plain_bind _ (plain_lenOf _) fun n => hn n
        split
        · refine plain_bind _ (plain_underlying _) fun _ => ?_
          exact plain_bind _ (plain_pure _) fun z => hz z
        · exact plain_bind _ (plain_pure _) fun z => hz z
      · trivial
    · trivial
  · trivial
theorem plain_len (ts : Array TypeId) (t : TypeId) (vs : Array Value) : Plain P (Builtin.len_ ts t vs) := by
  unfold Builtin.len_
  repeat' (first | with_reducible (first | refine plain_bind _ ?_ fun _ => ?_ | exact plain_pure _ | exact plain_stuck _ | exact plain_unsupported _ | exact plain_goPanic _ | exact plain_program | exact plain_load _ | exact plain_store _ _ | exact plain_newObj _ | exact plain_choose _ | exact plain_shape _ | exact plain_frozen _ | exact plain_askRoom _ | exact plain_typeInfo _ | exact plain_underlying _ | exact plain_zeroValue _ | exact plain_sizeOf _ | exact plain_isAgg _ | exact plain_newRow _ _ | exact plain_newVar _ _ | exact plain_loadVar _ _ | exact plain_storeVar _ _ _ | exact plain_runtimePanic _ | exact plain_boundsPanic _ _ _ _ | exact plain_asIntOf _ | exact plain_asInt _ | exact plain_asBool _ | exact plain_sureAddr _ | exact plain_lenOf _ | exact plain_firstCells _ _ _ | exact plain_storeCells _ _ _) | split | (dsimp only; first | split | with_reducible refine plain_bind _ ?_ fun _ => ?_) | exact fun _ => trivial | exact trivial)
end Go.Av

/-
  Operations that do the same in a part of the world as in the whole.
-/
namespace Go.Av
set_option linter.unusedSectionVars false
set_option linter.unusedSimpArgs false
set_option linter.unusedVariables false
open Go.Conc (EvL)
variable {P : Program}

/-- It comes to no end. -/
def Dead (P : Program) {α : Type} : Sem α → Prop
  | .pure _ => False
  | .load _ _ k => ∀ v, Dead P (k v)
  | .store _ _ _ k => Dead P k
  | .new _ k => ∀ r, Dead P (k r)
  | .shape _ k => ∀ x, Dead P (k x)
  | .freeze _ _ k => Dead P k
  | .frozen _ k => ∀ b, Dead P (k b)
  | .getObj _ k => ∀ o, Dead P (k o)
  | .setObj _ _ k => Dead P k
  | .choose _ k => ∀ n, Dead P (k n)
  | .sys _ k => ∀ n, Dead P (k n)
  | .program k => Dead P (k P)
  | .mark _ k => Dead P k
  | .halt _ => True

/-- It does not ask for the shape of a block and goes on. -/
def Tame (P : Program) {α : Type} : Sem α → Prop
  | .pure _ => True
  | .load _ _ k => ∀ v, Tame P (k v)
  | .store _ _ _ k => Tame P k
  | .new o k => (∀ x u, o ≠ Obj.view x u) ∧ ∀ r, Tame P (k r)
  | .shape _ k => ∀ x, Dead P (k x)
  | .freeze _ _ k => Dead P k
  | .frozen _ k => ∀ b, Dead P (k b)
  | .getObj _ k => ∀ o, Dead P (k o)
  | .setObj _ _ k => Dead P k
  | .choose _ k => ∀ n, Tame P (k n)
  | .sys _ _ => False
  | .program k => Tame P (k P)
  | .mark m k => m = .noRoom ∧ Tame P k
  | .halt _ => True

theorem dead_run {α : Type} : ∀ (s : Sem α), Dead P s → ∀ (w : World) (r : α) (w' : World), s.run P w ≠ .ok r w' := by
  intro s
  induction s with
  | pure a => intro h; exact h.elim
  | halt x => intro _ w r w' h; cases h
  | load m a k ih =>
    intro hp w r w' h
    simp only [Sem.run] at h
    split at h
    · exact ih _ (hp _) w r w' h
    · split at h
      · exact ih _ (hp _) w r w' h
      · cases h
  | store m a v k ih =>
    intro hp w r w' h
    have e1 : (∃ c, v = .agg c) ∨ (∃ c, v = .tuple c) ∨ ((Sem.store m a v k).run P w = (match w.cell? a with
          | some _ => if w.frozen? a then .halt (.unsupported (.unsafePointer "a write to bytes that a string shares")) w else k.run P (w.setCell a v)
          | none => match w.farStore P a v (m == .atomic) with
            | .ok (w, _) => k.run P w
            | .error h => .halt h w)) := by
      cases v <;> first | exact .inl ⟨_, rfl⟩ | exact .inr (.inl ⟨_, rfl⟩) | exact .inr (.inr rfl)
    rcases e1 with ⟨c, rfl⟩ | ⟨c, rfl⟩ | e1
    · cases h
    · cases h
    rw [e1] at h
    split at h
    · split at h
      · cases h
      · exact ih hp _ r w' h
    · split at h
      · exact ih hp _ r w' h
      · cases h
  | new o k ih => intro hp w r w' h; exact ih _ (hp _) _ r w' h
  | shape q k ih => intro hp w r w' h; exact ih _ (hp _) _ r w' h
  | freeze a n k ih => intro hp w r w' h; exact ih hp _ r w' h
  | frozen a k ih => intro hp w r w' h; exact ih _ (hp _) _ r w' h
  | getObj q k ih =>
    intro hp w r w' h
    simp only [Sem.run] at h
    split at h
    · cases h
    · exact ih _ (hp _) w r w' h
    · cases h
  | setObj q o k ih =>
    intro hp w r w' h
    simp only [Sem.run] at h
    split at h
    · cases h
    · exact ih hp _ r w' h
    · cases h
  | choose q k ih =>
    intro hp w r w' h
    simp only [Sem.run] at h
    split at h
    · exact ih _ (hp _) w r w' h
    · exact ih _ (hp _) _ r w' h
  | sys c k ih => intro hp w r w' h; exact ih _ (hp _) _ r w' h
  | program k ih => intro hp w r w' h; exact ih P hp w r w' h
  | mark m k ih => intro hp w r w' h; exact ih hp w r w' h

theorem dead_bind {α β : Type} {f : α → Sem β} : ∀ (s : Sem α), (∀ a, Dead P (f a)) → Dead P (s >>= f) := by
  intro s
  show (∀ a, Dead P (f a)) → Dead P (s.bind f)
  induction s with
  | pure a => intro h; exact h a
  | halt x => intro _; trivial
  | load m a k ih => intro h v; exact ih v h
  | store m a v k ih => intro h; exact ih h
  | new o k ih => intro h r; exact ih r h
  | shape r k ih => intro h x; exact ih x h
  | freeze a n k ih => intro h; exact ih h
  | frozen a k ih => intro h x; exact ih x h
  | getObj r k ih => intro h x; exact ih x h
  | setObj r o k ih => intro h; exact ih h
  | choose q k ih => intro h x; exact ih x h
  | sys c k ih => intro h x; exact ih x h
  | program k ih => intro h; exact ih P h
  | mark m k ih => intro h; exact ih h
theorem dead_bind_left {α β : Type} {f : α → Sem β} : ∀ (s : Sem α), Dead P s → Dead P (s >>= f) := by
  intro s
  show Dead P s → Dead P (s.bind f)
  induction s with
  | pure a => intro h; exact h.elim
  | halt x => intro _; trivial
  | load m a k ih => intro h v; exact ih v (h v)
  | store m a v k ih => intro h; exact ih h
  | new o k ih => intro h r; exact ih r (h r)
  | shape r k ih => intro h x; exact ih x (h x)
  | freeze a n k ih => intro h; exact ih h
  | frozen a k ih => intro h x; exact ih x (h x)
  | getObj r k ih => intro h x; exact ih x (h x)
  | setObj r o k ih => intro h; exact ih h
  | choose q k ih => intro h x; exact ih x (h x)
  | sys c k ih => intro h x; exact ih x (h x)
  | program k ih => intro h; exact ih P h
  | mark m k ih => intro h; exact ih h
theorem tame_bind {α β : Type} {f : α → Sem β} : ∀ (s : Sem α), Tame P s → (∀ a, Tame P (f a)) → Tame P (s >>= f) := by
  intro s
  show Tame P s → (∀ a, Tame P (f a)) → Tame P (s.bind f)
  induction s with
  | pure a => intro _ h; exact h a
  | halt x => intro _ _; trivial
  | load m a k ih => intro hp h v; exact ih v (hp v) h
  | store m a v k ih => intro hp h; exact ih hp h
  | new o k ih => intro hp h; exact ⟨hp.1, fun r => ih r (hp.2 r) h⟩
  | shape r k ih => intro hp h x; exact dead_bind_left _ (hp x)
  | freeze a n k ih => intro hp h; exact dead_bind_left _ hp
  | frozen a k ih => intro hp h x; exact dead_bind_left _ (hp x)
  | getObj r k ih => intro hp h x; exact dead_bind_left _ (hp x)
  | setObj r o k ih => intro hp h; exact dead_bind_left _ hp
  | choose q k ih => intro hp h x; exact ih x (hp x) h
  | sys c k ih => intro hp; exact hp.elim
  | program k ih => intro hp h; exact ih P hp h
  | mark m k ih => intro hp h; exact ⟨hp.1, ih hp.2 h⟩
/-- What may ask anything, if nothing goes on behind it. -/
def Asks (P : Program) {α : Type} : Sem α → Prop
  | .pure _ => True
  | .load _ _ k => ∀ v, Asks P (k v)
  | .shape _ k => ∀ x, Asks P (k x)
  | .frozen _ k => ∀ b, Asks P (k b)
  | .program k => Asks P (k P)
  | .halt _ => True
  | _ => False
theorem tame_bind_dead {α β : Type} {f : α → Sem β} : ∀ (s : Sem α), Asks P s → (∀ a, Dead P (f a)) → (∀ a, Tame P (f a)) → Tame P (s >>= f) := by
  intro s
  show Asks P s → (∀ a, Dead P (f a)) → (∀ a, Tame P (f a)) → Tame P (s.bind f)
  induction s with
  | pure a => intro _ _ h; exact h a
  | halt x => intro _ _ _; trivial
  | load m a k ih => intro hp h h' v; exact ih v (hp v) h h'
  | shape r k ih => intro hp h h' x; exact dead_bind (k x) h
  | frozen a k ih => intro hp h h' x; exact dead_bind (k x) h
  | program k ih => intro hp h h'; exact ih P hp h h'
  | store m a v k ih => intro hp; exact hp.elim
  | new o k ih => intro hp; exact hp.elim
  | freeze a n k ih => intro hp; exact hp.elim
  | getObj r k ih => intro hp; exact hp.elim
  | setObj r o k ih => intro hp; exact hp.elim
  | choose q k ih => intro hp; exact hp.elim
  | sys c k ih => intro hp; exact hp.elim
  | mark m k ih => intro hp; exact hp.elim

/-! ### the same in the whole world -/
structure Nx0 (B : Nat) (M : Nat → Prop) (r r' v' : World) : Prop where
  vw : Vw B (plus M r r') r' v'
  size : r.heap.size ≤ r'.heap.size
  keeps : ∀ b, b < r.heap.size → ¬ (B ≤ b ∧ M b) → r'.heap[b]? = r.heap[b]?
  tape : r'.tape = r.tape
  os : r'.os = r.os
  output : r'.output = r.output

theorem plus_plus {M : Nat → Prop} {r r1 r' : World} (h1 : r.heap.size ≤ r1.heap.size) (h2 : r1.heap.size ≤ r'.heap.size) : plus (plus M r r1) r1 r' = plus M r r' := by
  funext b
  apply propext
  unfold plus
  constructor
  · rintro ((x | x) | x)
    · exact .inl x
    · exact .inr ⟨x.1, by omega⟩
    · exact .inr ⟨by omega, x.2⟩
  · rintro (x | x)
    · exact .inl (.inl x)
    · by_cases hb : b < r1.heap.size
      · exact .inl (.inr ⟨x.1, hb⟩)
      · exact .inr ⟨by omega, x.2⟩
theorem plus_same {M : Nat → Prop} {r r1 : World} (h1 : r1.heap.size = r.heap.size) : plus M r r1 = M := by
  funext b
  apply propext
  unfold plus
  constructor
  · rintro (x | x)
    · exact x
    · omega
  · exact .inl
theorem Nx0.trans {B : Nat} {M : Nat → Prop} {r r1 r' v1 v' : World} (h : Nx0 B M r r1 v1) (k : Nx0 B (plus M r r1) r1 r' v') : Nx0 B M r r' v' := by
  refine ⟨?_, Nat.le_trans h.size k.size, fun b hb hn => ?_, k.tape.trans h.tape, k.os.trans h.os, k.output.trans h.output⟩
  · rw [← plus_plus h.size k.size]; exact k.vw
  · rw [k.keeps b (Nat.lt_of_lt_of_le hb h.size) ?_]
    · exact h.keeps b hb hn
    · rintro ⟨x, y | y⟩
      · exact hn ⟨x, y⟩
      · omega
theorem Nx0.refl {B : Nat} {M : Nat → Prop} {r v : World} (h : Vw B M r v) : Nx0 B M r r v := ⟨h.plus_self, Nat.le_refl _, fun _ _ _ => rfl, rfl, rfl, rfl⟩

section
variable {B : Nat} {M : Nat → Prop} {r v : World}
theorem Vw.cell (h : Vw B M r v) {a : Addr} {x : Value} (hc : v.cell? a = some x) : r.cell? a = some x ∧ (a.block < B ∨ (B ≤ a.block ∧ M a.block)) ∧ (a.block < B → v.frozen? a = true) := by
  unfold World.cell? at hc
  cases hb : v.heap[a.block]? with
  | none => rw [hb] at hc; cases hc
  | some o =>
    rw [hb] at hc
    by_cases hB : a.block < B
    · have ho := h.old _ hB
      rw [hb] at ho
      cases hr : r.heap[a.block]? with
      | none => rw [hr] at ho; cases ho
      | some o' =>
        rw [hr] at ho
        simp only [Option.map_some, Option.some.injEq] at ho
        cases o' with
        | cells c e f =>
          simp only [chill] at ho
          subst ho
          simp only at hc
          refine ⟨by unfold World.cell?; rw [hr]; exact hc, .inl hB, fun _ => ?_⟩
          unfold World.frozen?
          rw [hb]
          split at hc
          · cases hc
          · have := (Array.getElem?_eq_some_iff.1 hc).1
            simp [this]
        | _ => simp only [chill, dumb] at ho; subst ho; cases hc
    · by_cases hM : M a.block
      · have hm := h.mine _ (by omega) hM
        refine ⟨by unfold World.cell?; rw [← hm, hb]; exact hc, .inr ⟨by omega, hM⟩, fun x => absurd x hB⟩
      · exfalso
        by_cases hl : a.block < r.heap.size
        · have := h.not _ (by omega) hM hl
          rw [hb] at this
          cases this
          cases hc
        · have : v.heap.size ≤ a.block := by rw [h.size]; omega
          rw [Array.getElem?_eq_none this] at hb
          cases hb
theorem Vw.far (h : Vw B M r v) {a : Addr} {b : Bool} {x : Value × List Addr} : v.farLoad P a b ≠ .ok x := by
  unfold World.farLoad
  split
  · rename_i hv; exact absurd hv (h.views _ _ _)
  · simp
theorem Vw.farS (h : Vw B M r v) {a : Addr} {b : Bool} {x : Value} {y : World × List Addr} : v.farStore P a x b ≠ .ok y := by
  unfold World.farStore
  split
  · rename_i hv; exact absurd hv (h.views _ _ _)
  · simp
theorem setCell_ne (w : World) (a : Addr) (x : Value) {b : Nat} (hb : b ≠ a.block) : (w.setCell a x).heap[b]? = w.heap[b]? := by
  unfold World.setCell
  simp only [Array.getElem?_modify]
  rw [if_neg (Ne.symm hb)]
theorem setCell_eq (w w2 : World) (a : Addr) (x : Value) (h : w.heap[a.block]? = w2.heap[a.block]?) : (w.setCell a x).heap[a.block]? = (w2.setCell a x).heap[a.block]? := by
  unfold World.setCell
  simp only [Array.getElem?_modify, if_true, h]
theorem Vw.set (h : Vw B M r v) {a : Addr} (x : Value) (hB : B ≤ a.block) (hM : M a.block) : Nx0 B M r (r.setCell a x) (v.setCell a x) := by
  have s1 := size_setCell' r a x
  have s2 := size_setCell' v a x
  refine ⟨?_, by omega, fun b hb hn => setCell_ne _ _ _ fun e => hn (by subst e; exact ⟨hB, hM⟩), rfl, rfl, rfl⟩
  rw [plus_same s1]
  refine ⟨by rw [s1, s2]; exact h.size, h.tape, h.drawn, h.os, h.output, fun b hb hm => ?_, fun b hb => ?_, fun b hb hm hl => ?_, fun b y u => ?_, by rw [s1]; exact h.low⟩
  · by_cases e : b = a.block
    · subst e; exact setCell_eq _ _ _ _ (h.mine _ hB hM)
    · rw [setCell_ne _ _ _ e, setCell_ne _ _ _ e]; exact h.mine b hb hm
  · rw [setCell_ne _ _ _ (by omega), setCell_ne _ _ _ (by omega)]; exact h.old b hb
  · rw [setCell_ne v a x (b := b) (fun e => hm (by rw [e]; exact hM))]; exact h.not b hb hm (by omega)
  · by_cases e : b = a.block
    · subst e
      have := h.views a.block
      unfold World.setCell
      simp only [Array.getElem?_modify, if_true]
      cases hb : v.heap[a.block]? with
      | none => simp
      | some o =>
        cases o with
        | view q z => exact absurd hb (this q z)
        | _ => simp
    · rw [setCell_ne _ _ _ e]; exact h.views b y u
theorem Vw.push (h : Vw B M r v) {o : Obj} (ho : ∀ x u, o ≠ Obj.view x u) : Nx0 B M r { r with heap := r.heap.push o } { v with heap := v.heap.push o } := by
  have hB := h.low
  refine ⟨⟨by simp [h.size], h.tape, h.drawn, h.os, h.output, fun b hb hm => ?_, fun b hb => ?_, fun b hb hm hl => ?_, fun b y u => ?_, by simp; omega⟩, by simp, fun b hb hn => ?_, rfl, rfl, rfl⟩
  · simp only [Array.getElem?_push, h.size]
    split
    · rfl
    · rename_i hne
      rcases hm with hm | hm
      · exact h.mine b hb hm
      · simp at hm; omega
  · simp only [Array.getElem?_push, h.size]
    rw [if_neg (by omega), if_neg (by omega)]
    exact h.old b hb
  · simp only [Array.getElem?_push, h.size]
    simp only [plus, Array.size_push, not_or] at hm hl
    rw [if_neg (by omega)]
    exact h.not b hb hm.1 (by omega)
  · simp only [Array.getElem?_push]
    split
    · simpa using ho y u
    · exact h.views b y u
  · simp only [Array.getElem?_push]
    rw [if_neg (by omega)]
theorem Vw.draw (h : Vw B M r v) (d : Nat) : Nx0 B M r { r with drawn := d } { v with drawn := d } := by
  refine ⟨?_, Nat.le_refl _, fun _ _ _ => rfl, rfl, rfl, rfl⟩
  rw [plus_same (r := r) (r1 := { r with drawn := d }) rfl]
  exact ⟨h.size, h.tape, rfl, h.os, h.output, h.mine, h.old, h.not, h.views, h.low⟩
end

def EvMe (B : Nat) (M : Nat → Prop) (e : Event) : Prop := ∀ t, (MemAct.ofEvent e).touch? = some t → inB B M t.write t.loc
theorem EvMe.mono {B : Nat} {M M' : Nat → Prop} {e : Event} (h : EvMe B M e) (hM : ∀ b, M b → M' b) : EvMe B M' e := fun t ht => (h t ht).mono hM

theorem tame_sim {α : Type} {B : Nat} : ∀ (s : Sem α), Tame P s → ∀ (M : Nat → Prop) (r v : World) (es : Array Event) (x : α) (v' : World), Vw B M r v → s.run P v = .ok x v' →
    ∃ r', s.run P r = .ok x r' ∧ Nx0 B M r r' v' ∧ ∀ e ∈ (s.runT P r es).2, e ∈ es ∨ (EvL Noone r'.heap.size e ∧ EvMe B (plus M r r') e) := by
  intro s
  induction s with
  | pure a => intro _ M r v es x v' hv h; cases h; exact ⟨r, rfl, .refl hv, fun e he => .inl he⟩
  | halt y => intro _ M r v es x v' hv h; cases h
  | load m a k ih =>
    intro hp M r v es x v' hv h
    simp only [Sem.run] at h
    split at h
    · rename_i y hy
      obtain ⟨hc, hw, _⟩ := hv.cell hy
      obtain ⟨r', h1, h2, h3⟩ := ih y (hp y) M r v (es.push ⟨.cell a, false, m == .atomic⟩) x v' hv h
      refine ⟨r', by simp only [Sem.run, hc]; exact h1, h2, fun e he => ?_⟩
      simp only [Sem.runT, hc] at he
      rcases h3 e he with q | q
      · rcases Array.mem_push.1 q with q | q
        · exact .inl q
        · subst q
          refine .inr ⟨evL_cell' (Nat.lt_of_lt_of_le (cell_lt' hc) h2.size), fun t ht => ?_⟩
          cases m <;> (simp [MemAct.ofEvent, MemAct.touch?] at ht; subst ht; exact hw.imp (fun z => ⟨z, rfl⟩) (fun z => ⟨z.1, .inl z.2⟩))
      · exact .inr q
    · split at h
      · rename_i y t hy
        exact absurd hy hv.far
      · cases h
  | store m a y k ih =>
    intro hp M r v es x v' hv h
    have e1 : (∃ c, y = .agg c) ∨ (∃ c, y = .tuple c) ∨ ((∀ w, (Sem.store m a y k).run P w = (match w.cell? a with
          | some _ => if w.frozen? a then .halt (.unsupported (.unsafePointer "a write to bytes that a string shares")) w else k.run P (w.setCell a y)
          | none => match w.farStore P a y (m == .atomic) with
            | .ok (w, _) => k.run P w
            | .error h => .halt h w)) ∧
        (∀ w, (Sem.store m a y k).runT P w es = (match w.cell? a with
          | some _ => if w.frozen? a then (.halt (.unsupported (.unsafePointer "a write to bytes that a string shares")) w, es) else k.runT P (w.setCell a y) (es.push ⟨.cell a, true, m == .atomic⟩)
          | none => match w.farStore P a y (m == .atomic) with
            | .ok (w, touched) => k.runT P w (es ++ touched.toArray.map (⟨.cell ·, true, m == .atomic⟩))
            | .error h => (.halt h w, es)))) := by
      cases y <;> first | exact .inl ⟨_, rfl⟩ | exact .inr (.inl ⟨_, rfl⟩) | exact .inr (.inr ⟨fun _ => rfl, fun _ => rfl⟩)
    rcases e1 with ⟨c, rfl⟩ | ⟨c, rfl⟩ | ⟨e1, e2⟩
    · cases h
    · cases h
    rw [e1] at h
    split at h
    · rename_i c hc
      split at h
      · cases h
      · rename_i hf
        obtain ⟨hc', hw, hfz⟩ := hv.cell hc
        have hw' : B ≤ a.block ∧ M a.block := hw.resolve_left fun z => hf (hfz z)
        have hf' : r.frozen? a = false := by
          have : r.frozen? a = v.frozen? a := by unfold World.frozen?; rw [hv.mine _ hw'.1 hw'.2]
          rw [this]; simpa using hf
        have hn := hv.set y hw'.1 hw'.2
        have hs := size_setCell' r a y
        have hv1 := hn.vw
        rw [plus_same hs] at hv1
        obtain ⟨r', h1, h2, h3⟩ := ih hp M (r.setCell a y) (v.setCell a y) (es.push ⟨.cell a, true, m == .atomic⟩) x v' hv1 h
        have h2' : Nx0 B M r r' v' := by
          refine hn.trans ?_
          rw [plus_same hs]; exact h2
        have hpl : plus M (r.setCell a y) r' = plus M r r' := by unfold plus; rw [hs]
        refine ⟨r', by rw [e1]; simp only [hc', hf']; exact h1, h2', fun e he => ?_⟩
        rw [e2] at he
        simp only [hc', hf'] at he
        rcases h3 e he with q | q
        · rcases Array.mem_push.1 q with q | q
          · exact .inl q
          · subst q
            refine .inr ⟨evL_cell' (Nat.lt_of_lt_of_le (cell_lt' hc') h2'.size), fun t ht => ?_⟩
            cases m <;> (simp [MemAct.ofEvent, MemAct.touch?] at ht; subst ht; exact .inr ⟨hw'.1, .inl hw'.2⟩)
        · rw [hpl] at q; exact .inr q
    · split at h
      · rename_i y2 t hy
        exact absurd hy hv.farS
      · cases h
  | new o k ih =>
    intro hp M r v es x v' hv h
    have hn := hv.push hp.1
    have h : (k v.heap.size).run P { v with heap := v.heap.push o } = .ok x v' := h
    rw [hv.size] at h
    obtain ⟨r', h1, h2, h3⟩ := ih _ (hp.2 r.heap.size) _ { r with heap := r.heap.push o } { v with heap := v.heap.push o } es x v' hn.vw h
    refine ⟨r', h1, hn.trans h2, fun e he => ?_⟩
    rcases h3 e he with q | q
    · exact .inl q
    · rw [plus_plus (by simp) h2.size] at q; exact .inr q
  | shape q k ih => intro hp M r v es x v' hv h; exact absurd h (dead_run _ (hp _) _ _ _)
  | freeze a n k ih => intro hp M r v es x v' hv h; exact absurd h (dead_run _ hp _ _ _)
  | frozen a k ih => intro hp M r v es x v' hv h; exact absurd h (dead_run _ (hp _) _ _ _)
  | getObj q k ih =>
    intro hp M r v es x v' hv h
    simp only [Sem.run] at h
    split at h
    · cases h
    · exact absurd h (dead_run _ (hp _) _ _ _)
    · cases h
  | setObj q o k ih =>
    intro hp M r v es x v' hv h
    simp only [Sem.run] at h
    split at h
    · cases h
    · exact absurd h (dead_run _ hp _ _ _)
    · cases h
  | choose q k ih =>
    intro hp M r v es x v' hv h
    simp only [Sem.run] at h
    split at h
    · rename_i hf
      obtain ⟨r', h1, h2, h3⟩ := ih _ (hp 0) M r v es x v' hv h
      exact ⟨r', by simp only [Sem.run, hf, if_true]; exact h1, h2, fun e he => h3 e (by simpa [Sem.runT, hf] using he)⟩
    · rename_i hf
      have h : (k (q.cut (r.tape r.drawn q))).run P { v with drawn := r.drawn + 1 } = .ok x v' := by rw [← hv.drawn, ← hv.tape]; exact h
      have hn := hv.draw (r.drawn + 1)
      have hv1 := hn.vw
      rw [plus_same (r := r) (r1 := { r with drawn := r.drawn + 1 }) rfl] at hv1
      obtain ⟨r', h1, h2, h3⟩ := ih _ (hp _) M { r with drawn := r.drawn + 1 } { v with drawn := r.drawn + 1 } es x v' hv1 h
      refine ⟨r', by simp only [Sem.run, hf]; exact h1, hn.trans (by rw [plus_same (r := r) (r1 := { r with drawn := r.drawn + 1 }) rfl]; exact h2), fun e he => ?_⟩
      have := h3 e (by simpa [Sem.runT, hf] using he)
      exact this
  | sys c k ih => intro hp; exact hp.elim
  | program k ih => intro hp M r v es x v' hv h; exact ih P hp M r v es x v' hv h
  | mark m k ih =>
    intro hp M r v es x v' hv h
    obtain ⟨rfl, hp⟩ := hp
    obtain ⟨r', h1, h2, h3⟩ := ih hp M r v (es.push ⟨.mark .noRoom, false, true⟩) x v' hv h
    refine ⟨r', h1, h2, fun e he => ?_⟩
    rcases h3 e he with q | q
    · rcases Array.mem_push.1 q with q | q
      · exact .inl q
      · subst q; exact .inr ⟨evL_noRoom, fun t ht => by simp [MemAct.ofEvent, MemAct.touch?] at ht⟩
    · exact .inr q
end Go.Av

/-
  Operations of the model that are tame.
-/
namespace Go.Av
set_option linter.unusedSectionVars false
set_option linter.unusedSimpArgs false
set_option linter.unusedVariables false
variable {P : Program}

theorem tame_pure {α : Type} (a : α) : Tame P (pure a : Sem α) := trivial
theorem tame_stuck {α : Type} (s : String) : Tame P (stuck s : Sem α) := trivial
theorem tame_unsupported {α : Type} (s : Unsupported) : Tame P (unsupported s : Sem α) := trivial
theorem tame_goPanic {α : Type} (s : Value) : Tame P (goPanic s : Sem α) := trivial
theorem tame_program : Tame P program := trivial
theorem tame_load (a : Addr) : Tame P (load a) := fun _ => trivial
theorem tame_store (a : Addr) (v : Value) : Tame P (store a v) := trivial
theorem tame_newObj (c : Array Value) (t : TypeId) : Tame P (newObj (.cells c t)) := ⟨fun _ _ e => (nomatch e), fun _ => trivial⟩
theorem tame_choose (q : Question) : Tame P (choose q) := fun _ => trivial
theorem tame_askRoom (n : Nat) : Tame P (askRoom n) := by unfold askRoom; split; exact ⟨rfl, trivial⟩; trivial
theorem tame_typeInfo (t : TypeId) : Tame P (typeInfo t) := by
  refine tame_bind _ tame_program fun p => ?_
  split <;> trivial
theorem tame_underlying (t : TypeId) : Tame P (underlying t) := by
  refine tame_bind _ tame_program fun p => ?_
  split <;> trivial
theorem tame_zeroValue (t : TypeId) : Tame P (zeroValue t) := by
  refine tame_bind _ (tame_typeInfo t) fun p => ?_
  split <;> trivial
theorem tame_sizeOf (t : TypeId) : Tame P (Go.sizeOf t) := tame_bind _ (tame_typeInfo t) fun _ => trivial
theorem tame_isAgg (t : TypeId) : Tame P (isAgg t) := by
  refine tame_bind _ (tame_underlying t) fun p => ?_
  split <;> trivial
theorem tame_newRow (t : TypeId) (cs : Array Value) : Tame P (newRow t cs) := tame_bind _ (tame_newObj _ _) fun _ => trivial
theorem tame_newVar (t : TypeId) (v : Value) : Tame P (newVar t v) := tame_newRow _ _
theorem tame_loadCellsFrom (a : Addr) : ∀ (n i : Nat) (acc : Array Value), Tame P (loadCellsFrom a i n acc) := by
  intro n
  induction n with
  | zero => intro i acc; trivial
  | succ n ih => intro i acc; exact tame_bind _ (tame_load _) fun _ => ih _ _
theorem tame_loadVar (t : TypeId) (a : Addr) : Tame P (loadVar t a) := by
  refine tame_bind _ (tame_isAgg t) fun b => ?_
  split
  · exact tame_bind _ (tame_sizeOf t) fun n => tame_bind _ (tame_loadCellsFrom a n 0 #[]) fun _ => trivial
  · exact tame_load a
theorem tame_storeCells (a : Addr) : ∀ (vs : List Value) (i : Nat), Tame P (storeCells a vs i) := by
  intro vs
  induction vs with
  | nil => intro i; unfold storeCells; trivial
  | cons v vs ih => intro i; unfold storeCells; exact tame_bind _ (tame_store _ _) fun _ => ih _
theorem tame_storeVar (t : TypeId) (a : Addr) (v : Value) : Tame P (storeVar t a v) := by
  refine tame_bind _ (tame_sizeOf t) fun n => ?_
  split
  · exact tame_bind _ (tame_stuck _) fun _ => tame_storeCells _ _ _
  · exact tame_storeCells _ _ _
theorem tame_elemOf (t : TypeId) : Tame P (elemOf t) := by
  refine tame_bind _ (tame_underlying t) fun p => ?_
  split <;> trivial
theorem tame_runtimePanic {α : Type} (e : RuntimeError) : Tame P (runtimePanic e : Sem α) := by
  refine tame_bind _ tame_program fun p => ?_
  cases e <;> first | trivial | exact tame_bind _ (tame_bind _ (tame_elemOf _) fun _ => tame_newVar _ _) fun _ => trivial | exact tame_bind _ (tame_elemOf _) fun _ => tame_bind _ (tame_newVar _ _) fun _ => trivial
theorem tame_boundsPanic {α : Type} (k : IntKind) (x y : Int) (c : BoundsCode) : Tame P (boundsPanic k x y c : Sem α) := by
  unfold boundsPanic
  split
  · exact tame_bind _ (tame_bind _ (tame_choose _) fun _ => trivial) fun _ => tame_runtimePanic _
  · exact tame_bind _ (tame_pure _) fun _ => tame_runtimePanic _
theorem tame_asIntOf (v : Value) : Tame P (asIntOf v) := by unfold asIntOf; split <;> trivial
theorem tame_asInt (v : Value) : Tame P (asInt v) := tame_bind _ (tame_asIntOf v) fun _ => trivial
theorem tame_asBool (v : Value) : Tame P (asBool v) := by unfold asBool; split <;> trivial
theorem tame_sureAddr (v : Value) : Tame P (Instr.sureAddr v) := by unfold Instr.sureAddr; split <;> trivial

theorem tame_alloc (t : TypeId) : Tame P (Instr.alloc t true (.tuple #[])) := by
  refine tame_bind _ (tame_zeroValue t) fun z => ?_
  exact tame_bind _ (tame_newVar _ _) fun _ => trivial
theorem tame_box (t : TypeId) (v : Value) : Tame P (Instr.box t v) := tame_bind _ (tame_newVar _ _) fun _ => trivial
theorem tame_mapM {α β : Type} {f : α → Sem β} (h : ∀ a, Tame P (f a)) : ∀ (l : List α), Tame P (l.mapM f) := by
  intro l
  induction l with
  | nil => simp; exact tame_pure _
  | cons a l ih => rw [List.mapM_cons]; exact tame_bind _ (h a) fun _ => tame_bind _ ih fun _ => tame_pure _
theorem tame_amapM {α β : Type} {f : α → Sem β} (h : ∀ a, Tame P (f a)) (l : Array α) : Tame P (l.mapM f) := by
  have : l = l.toList.toArray := by simp
  rw [this, List.mapM_toArray]
  exact tame_bind _ (tame_mapM h l.toList) fun _ => tame_pure _
theorem tame_extract (v : Value) (i : Nat) : Tame P (Instr.extract v i) := by
  unfold Instr.extract
  split
  · split <;> trivial
  · trivial
theorem tame_lenOf (v : Value) : Tame P (Builtin.lenOf v) := by unfold Builtin.lenOf; split <;> trivial
theorem tame_firstCells (s n : Nat) (v : Value) : Tame P (Builtin.firstCells s n v) := by
  unfold Builtin.firstCells
  split
  · exact tame_loadCellsFrom _ _ _ _
  · trivial
  · trivial
  · trivial
theorem tame_loadAt (t : TypeId) (v : Value) : Tame P (Instr.loadAt t v) := tame_bind _ (tame_sureAddr _) fun _ => tame_loadVar _ _
theorem tame_storeAt (t : TypeId) (v x : Value) : Tame P (Instr.storeAt t v x) := tame_bind _ (tame_sureAddr _) fun _ => tame_storeVar _ _ _
theorem tame_build (t : TypeId) (ps : Array (Nat × Value)) : Tame P (Instr.build t ps) := by
  unfold Instr.build
  refine tame_bind _ (tame_zeroValue t) fun z => tame_bind _ (tame_underlying t) fun u => ?_
  split
  · refine tame_bind _ (tame_amapM (fun f => ?_) _) fun _ => ?_
    · repeat' (first | with_reducible (first | refine tame_bind _ ?_ fun _ => ?_ | exact tame_pure _ | exact tame_stuck _ | exact tame_unsupported _ | exact tame_goPanic _ | exact tame_program | exact tame_load _ | exact tame_store _ _ | exact tame_newObj _ _ | exact tame_choose _ | exact tame_askRoom _ | exact tame_typeInfo _ | exact tame_underlying _ | exact tame_zeroValue _ | exact tame_sizeOf _ | exact tame_isAgg _ | exact tame_newRow _ _ | exact tame_newVar _ _ | exact tame_loadVar _ _ | exact tame_storeVar _ _ _ | exact tame_runtimePanic _ | exact tame_boundsPanic _ _ _ _ | exact tame_asIntOf _ | exact tame_asInt _ | exact tame_asBool _ | exact tame_sureAddr _ | exact tame_lenOf _ | exact tame_firstCells _ _ _ | exact tame_storeCells _ _ _) | split | (dsimp only; first | split | with_reducible refine tame_bind _ ?_ fun _ => ?_) | exact trivial)
    · repeat' (first | with_reducible (first | refine tame_bind _ ?_ fun _ => ?_ | exact tame_pure _ | exact tame_stuck _ | exact tame_unsupported _ | exact tame_goPanic _ | exact tame_program | exact tame_load _ | exact tame_store _ _ | exact tame_newObj _ _ | exact tame_choose _ | exact tame_askRoom _ | exact tame_typeInfo _ | exact tame_underlying _ | exact tame_zeroValue _ | exact tame_sizeOf _ | exact tame_isAgg _ | exact tame_newRow _ _ | exact tame_newVar _ _ | exact tame_loadVar _ _ | exact tame_storeVar _ _ _ | exact tame_runtimePanic _ | exact tame_boundsPanic _ _ _ _ | exact tame_asIntOf _ | exact tame_asInt _ | exact tame_asBool _ | exact tame_sureAddr _ | exact tame_lenOf _ | exact tame_firstCells _ _ _ | exact tame_storeCells _ _ _) | split | (dsimp only; first | split | with_reducible refine tame_bind _ ?_ fun _ => ?_) | exact trivial)
  · repeat' (first | with_reducible (first | refine tame_bind _ ?_ fun _ => ?_ | exact tame_pure _ | exact tame_stuck _ | exact tame_unsupported _ | exact tame_goPanic _ | exact tame_program | exact tame_load _ | exact tame_store _ _ | exact tame_newObj _ _ | exact tame_choose _ | exact tame_askRoom _ | exact tame_typeInfo _ | exact tame_underlying _ | exact tame_zeroValue _ | exact tame_sizeOf _ | exact tame_isAgg _ | exact tame_newRow _ _ | exact tame_newVar _ _ | exact tame_loadVar _ _ | exact tame_storeVar _ _ _ | exact tame_runtimePanic _ | exact tame_boundsPanic _ _ _ _ | exact tame_asIntOf _ | exact tame_asInt _ | exact tame_asBool _ | exact tame_sureAddr _ | exact tame_lenOf _ | exact tame_firstCells _ _ _ | exact tame_storeCells _ _ _) | split | (dsimp only; first | split | with_reducible refine tame_bind _ ?_ fun _ => ?_) | exact trivial)
  · repeat' (first | with_reducible (first | refine tame_bind _ ?_ fun _ => ?_ | exact tame_pure _ | exact tame_stuck _ | exact tame_unsupported _ | exact tame_goPanic _ | exact tame_program | exact tame_load _ | exact tame_store _ _ | exact tame_newObj _ _ | exact tame_choose _ | exact tame_askRoom _ | exact tame_typeInfo _ | exact tame_underlying _ | exact tame_zeroValue _ | exact tame_sizeOf _ | exact tame_isAgg _ | exact tame_newRow _ _ | exact tame_newVar _ _ | exact tame_loadVar _ _ | exact tame_storeVar _ _ _ | exact tame_runtimePanic _ | exact tame_boundsPanic _ _ _ _ | exact tame_asIntOf _ | exact tame_asInt _ | exact tame_asBool _ | exact tame_sureAddr _ | exact tame_lenOf _ | exact tame_firstCells _ _ _ | exact tame_storeCells _ _ _) | split | (dsimp only; first | split | with_reducible refine tame_bind _ ?_ fun _ => ?_) | exact trivial)
theorem tame_buildSlice (t : TypeId) (n : Nat) (ps : Array (Nat × Value)) : Tame P (Instr.buildSlice t n ps) := by
  unfold Instr.buildSlice
  repeat' (first | with_reducible (first | refine tame_bind _ ?_ fun _ => ?_ | exact tame_pure _ | exact tame_stuck _ | exact tame_unsupported _ | exact tame_goPanic _ | exact tame_program | exact tame_load _ | exact tame_store _ _ | exact tame_newObj _ _ | exact tame_choose _ | exact tame_askRoom _ | exact tame_typeInfo _ | exact tame_underlying _ | exact tame_zeroValue _ | exact tame_sizeOf _ | exact tame_isAgg _ | exact tame_newRow _ _ | exact tame_newVar _ _ | exact tame_loadVar _ _ | exact tame_storeVar _ _ _ | exact tame_runtimePanic _ | exact tame_boundsPanic _ _ _ _ | exact tame_asIntOf _ | exact tame_asInt _ | exact tame_asBool _ | exact tame_sureAddr _ | exact tame_lenOf _ | exact tame_firstCells _ _ _ | exact tame_storeCells _ _ _) | split | (dsimp only; first | split | with_reducible refine tame_bind _ ?_ fun _ => ?_) | exact trivial)
theorem tame_makeSlice (t : TypeId) (l c : Value) : Tame P (Instr.makeSlice t l c) := by
  unfold Instr.makeSlice
  repeat' (first | with_reducible (first | refine tame_bind _ ?_ fun _ => ?_ | exact tame_pure _ | exact tame_stuck _ | exact tame_unsupported _ | exact tame_goPanic _ | exact tame_program | exact tame_load _ | exact tame_store _ _ | exact tame_newObj _ _ | exact tame_choose _ | exact tame_askRoom _ | exact tame_typeInfo _ | exact tame_underlying _ | exact tame_zeroValue _ | exact tame_sizeOf _ | exact tame_isAgg _ | exact tame_newRow _ _ | exact tame_newVar _ _ | exact tame_loadVar _ _ | exact tame_storeVar _ _ _ | exact tame_runtimePanic _ | exact tame_boundsPanic _ _ _ _ | exact tame_asIntOf _ | exact tame_asInt _ | exact tame_asBool _ | exact tame_sureAddr _ | exact tame_lenOf _ | exact tame_firstCells _ _ _ | exact tame_storeCells _ _ _) | split | (dsimp only; first | split | with_reducible refine tame_bind _ ?_ fun _ => ?_) | exact trivial)
theorem tame_underlying_bind {α : Type} {t : TypeId} {f : TypeDesc → Sem α} (h : ∀ d, P.underlying t = some d → Tame P (f d)) : Tame P (underlying t >>= f) := by
  show Tame P ((match P.underlying t with | some d => pure d | none => stuck "no such type" : Sem TypeDesc) >>= f)
  cases hd : P.underlying t with
  | none => trivial
  | some d => exact h d hd
theorem tame_typeInfo_bind {α : Type} {t : TypeId} {f : TypeInfo → Sem α} (h : ∀ d, P.info? t = some d → Tame P (f d)) : Tame P (typeInfo t >>= f) := by
  show Tame P ((match P.info? t with | some d => pure d | none => stuck "no such type" : Sem TypeInfo) >>= f)
  cases hd : P.info? t with
  | none => trivial
  | some d => exact h d hd
theorem tame_sizeOf_bind {α : Type} {t : TypeId} {f : Nat → Sem α} (h : ∀ d, P.info? t = some d → Tame P (f d.size)) : Tame P (Go.sizeOf t >>= f) := by
  show Tame P (((match P.info? t with | some d => pure d | none => stuck "no such type" : Sem TypeInfo) >>= fun i => pure i.size) >>= f)
  cases hd : P.info? t with
  | none => trivial
  | some d => exact h d hd
theorem tame_fieldAt {t : TypeId} {v : Value} {n : Nat} (h : fieldB P t n = true) : Tame P (Instr.fieldAt t v n) := by
  unfold Instr.fieldAt
  refine tame_underlying_bind fun d hd => ?_
  unfold fieldB at h
  rw [hd] at h
  split
  · rename_i fs
    simp only at h
    split
    · rename_i f hf
      simp only [hf] at h
      refine tame_bind _ (tame_sureAddr _) fun a => tame_bind _ ?_ fun _ => trivial
      unfold fieldPlace
      refine tame_sizeOf_bind fun i hi => ?_
      simp only [hi, bne_iff_ne, ne_eq] at h
      rw [if_neg h]
      trivial
    · trivial
  · trivial
theorem tame_indexAt (t : TypeId) (v x : Value) : Tame P (Instr.indexAt t v x) := by
  unfold Instr.indexAt
  repeat' (first | with_reducible (first | refine tame_bind _ ?_ fun _ => ?_ | exact tame_pure _ | exact tame_stuck _ | exact tame_unsupported _ | exact tame_goPanic _ | exact tame_program | exact tame_load _ | exact tame_store _ _ | exact tame_newObj _ _ | exact tame_choose _ | exact tame_askRoom _ | exact tame_typeInfo _ | exact tame_underlying _ | exact tame_zeroValue _ | exact tame_sizeOf _ | exact tame_isAgg _ | exact tame_newRow _ _ | exact tame_newVar _ _ | exact tame_loadVar _ _ | exact tame_storeVar _ _ _ | exact tame_runtimePanic _ | exact tame_boundsPanic _ _ _ _ | exact tame_asIntOf _ | exact tame_asInt _ | exact tame_asBool _ | exact tame_sureAddr _ | exact tame_lenOf _ | exact tame_firstCells _ _ _ | exact tame_storeCells _ _ _) | split | (dsimp only; first | split | with_reducible refine tame_bind _ ?_ fun _ => ?_) | exact trivial)
theorem asks_bind {α β : Type} {f : α → Sem β} : ∀ (s : Sem α), Asks P s → (∀ a, Asks P (f a)) → Asks P (s >>= f) := by
  intro s
  show Asks P s → (∀ a, Asks P (f a)) → Asks P (s.bind f)
  induction s with
  | pure a => intro _ h; exact h a
  | halt x => intro _ _; trivial
  | load m a k ih => intro hp h v; exact ih v (hp v) h
  | shape r k ih => intro hp h x; exact ih x (hp x) h
  | frozen a k ih => intro hp h x; exact ih x (hp x) h
  | program k ih => intro hp h; exact ih P hp h
  | store m a v k ih => intro hp; exact hp.elim
  | new o k ih => intro hp; exact hp.elim
  | freeze a n k ih => intro hp; exact hp.elim
  | getObj r k ih => intro hp; exact hp.elim
  | setObj r o k ih => intro hp; exact hp.elim
  | choose q k ih => intro hp; exact hp.elim
  | sys c k ih => intro hp; exact hp.elim
  | mark m k ih => intro hp; exact hp.elim
theorem asks_pure {α : Type} (a : α) : Asks P (pure a : Sem α) := trivial
theorem asks_holds (a : Addr) (n : Nat) : Asks P (Builtin.holdsCells a n) := by
  unfold Builtin.holdsCells
  refine asks_bind _ (fun _ => trivial) fun x => ?_
  split <;> trivial
theorem asks_frozen (a : Addr) : Asks P (frozen a) := fun _ => trivial
theorem asks_mayShare (a b c : Nat) (x : Option Addr) (v : Value) : Asks P (Builtin.mayShare a b c x v) := by
  unfold Builtin.mayShare
  repeat' (first | with_reducible (first | exact asks_holds _ _ | exact asks_frozen _ | exact asks_pure _ | refine asks_bind _ ?_ fun _ => ?_) | split | (dsimp only; first | split | with_reducible refine asks_bind _ ?_ fun _ => ?_) | exact trivial)
theorem tame_mark : Tame P (mark .noRoom) := ⟨rfl, trivial⟩
theorem tame_append (ts : Array TypeId) (t : TypeId) (vs : Array Value) : Tame P (Builtin.append_ ts t vs) := by
  unfold Builtin.append_
  split
  · refine tame_bind _ (tame_underlying _) fun u => ?_
    split
    · split
      · refine tame_bind _ (tame_sizeOf _) fun size => ?_
        extract_lets jpU jpZ
        have hz : ∀ z, Tame P (jpZ z) := by
          intro z
          unfold jpZ
          extract_lets jpN
          have hn : ∀ n, Tame P (jpN n) := by
            intro n
            unfold jpN
            extract_lets b1 b2 b3 b4 b5
            have ha : Tame P b1 := by
              unfold b1
              split
              · exact tame_firstCells _ _ _
              · split
                · trivial
                · exact tame_bind _ (tame_zeroValue _) fun _ => trivial
            have h3 : ∀ r, Tame P (b3 r) := fun _ => trivial
            have h4 : ∀ r, Tame P (b4 r) := by
              intro r
              unfold b4
              exact tame_bind _ (tame_choose _) fun _ => tame_bind _ (tame_typeInfo _) fun _ => tame_bind _ (tame_askRoom _) fun _ => tame_bind _ (tame_firstCells _ _ _) fun _ => tame_bind _ ha fun _ => tame_bind _ (tame_zeroValue _) fun _ => tame_bind _ (tame_newRow _ _) fun _ => trivial
            have h5 : ∀ r, Tame P (b5 r) := by
              intro r
              unfold b5
              refine tame_bind _ (tame_typeInfo _) fun i2 => ?_
              split
              · refine tame_bind _ ?_ fun r => h4 r
                split
                · exact tame_runtimePanic _
                · refine tame_bind_dead _ (asks_mayShare _ _ _ _ _) (fun _ => ?_) fun _ => ?_
                  · split
                    · exact dead_bind _ fun _ => trivial
                    · trivial
                  split
                  · exact tame_bind _ tame_mark fun r => trivial
                  · trivial
              · exact h4 ()
            split
            · refine tame_bind _ ha fun new => ?_
              split
              · exact tame_bind _ (tame_storeCells _ _ _) fun r => h3 r
              · exact h3 ()
            · refine tame_bind _ (tame_typeInfo _) fun i => ?_
              split
              · exact tame_bind _ (tame_runtimePanic _) fun r => h5 r
              · exact h5 ()
          split
          · refine tame_bind _ (tame_asInt _) fun l => ?_
            extract_lets c1 c2 c3
            have h2 : ∀ r, Tame P (c2 r) := fun r => tame_bind _ (tame_pure _) fun n => hn n
            have h3 : ∀ r, Tame P (c3 r) := by
              intro r
              unfold c3
              refine tame_bind _ (tame_typeInfo _) fun i => ?_
              split
              · refine tame_bind _ (tame_choose _) fun m => ?_
                exact tame_bind _ (tame_runtimePanic _) fun r => h2 r
              · exact h2 ()
            split
            · exact tame_bind _ (tame_runtimePanic _) fun r => h3 r
            · exact h3 ()
          · exact tame_bind _ (tame_lenOf _) fun n => hn n
        split
        · refine tame_bind _ (tame_underlying _) fun _ => ?_
          exact tame_bind _ (tame_pure _) fun z => hz z
        · exact tame_bind _ (tame_pure _) fun z => hz z
      · trivial
    · trivial
  · trivial
theorem tame_len {ts : Array TypeId} (t : TypeId) (vs : Array Value) (h : lenB P ts = true) : Tame P (Builtin.len_ ts t vs) := by
  unfold Builtin.len_
  unfold lenB at h
  split
  · rename_i t1 x ht
    simp only [Prod.mk.injEq] at ht
    rw [ht.1] at h
    simp only at h
    refine tame_underlying_bind fun d hd => ?_
    rw [hd] at h
    cases d <;> first | (simp at h; done) | (cases x <;> first | trivial | (refine tame_bind _ (tame_underlying _) fun _ => ?_; split <;> trivial))
  · trivial
end Go.Av

/-
  Operations, regions and calls whatever the others do.
-/
namespace Go.Av
set_option linter.unusedSectionVars false
set_option linter.unusedSimpArgs false
set_option linter.unusedVariables false
open Go.Conc (G crowd EvL listed)

section
variable {P : Program}

/-- What the operation does and lists, in the world and in a part of it. -/
structure EvB (P : Program) (o : Oper) (a : Act) (w : World) : Prop where
  one : ∀ fn r w', (execOp a.eval o).run P w = .ok r w' → EvOk w'.heap.size (listed P fn a o w) ∧ w.heap.size ≤ w'.heap.size
  two : ∀ x w', (execOp a.eval o).run P w = .ok x w' → ∀ B M r, Vw B M r w → ∃ r', (execOp a.eval o).run P r = .ok x r' ∧ ∀ fn, Nx B M r r' w' (listed P fn a o r)

theorem EvB.of {o : Oper} {a : Act} {w : World} (h : Plain P (execOp a.eval o)) (ht : Tame P (execOp a.eval o)) : EvB P o a w := by
  refine ⟨fun fn r w' hr => ?_, fun x w' hx B M r hr => ?_⟩
  · obtain ⟨h1, h2⟩ := plain_events _ h w #[] r w' hr
    refine ⟨fun e he => ?_, h1⟩
    rcases h2 e (Go.Conc.mem_listed he) with q | q
    · simp at q
    · exact q
  · obtain ⟨r', h1, h2, h3⟩ := tame_sim _ ht M r w #[] x w' hr hx
    refine ⟨r', h1, fun fn => ⟨h2.vw, h2.size, h2.keeps, h2.tape, h2.os, h2.output, fun e he => ?_, fun e he => ?_⟩⟩
    · rcases h3 e (Go.Conc.mem_listed he) with q | q
      · simp at q
      · exact q.1
    · rcases h3 e (Go.Conc.mem_listed he) with q | q
      · simp at q
      · exact q.2
end

section
variable [md : Md] {P : Program}
def _root_.Go.Oper.uponB (P : Program) (o : Oper) (a : Act) (next : Act → World → Prop) : Result Next → Prop
  | .ok (.value v) w' => next (a.put o.dst v) w'
  | .ok .skip w' => next (a.put o.dst undef) w'
  | .ok (.enter f args) w' => Calls P f args w' fun
    | .returned v, w'' => next (a.put o.dst v) w''
    | _, _ => False
  | _ => False
/-- The operation leads on. -/
def _root_.Go.Oper.wpB (P : Program) (o : Oper) (a : Act) (w : World) (next : Act → World → Prop) (_Q : Exit → Act → World → Prop) : Prop := o.uponB P a next ((execOp a.eval o).run P w)
theorem _root_.Go.Oper.wpB_mono {o : Oper} {a : Act} {w : World} {K K' : Act → World → Prop} {Q Q' : Exit → Act → World → Prop} (h : ∀ a w, K a w → K' a w) (hh : o.wpB P a w K Q) : o.wpB P a w K' Q' := by
  unfold Oper.wpB at *
  generalize (execOp a.eval o).run P w = r at *
  cases r with
  | ok n w' =>
    cases n <;> simp only [Oper.uponB] at hh ⊢ <;>
      first
        | exact h _ _ hh
        | exact Calls.mono hh (fun e w'' he => by cases e <;> first | exact h _ _ he | exact he)
  | halt x w' => cases x <;> simp only [Oper.uponB] at hh ⊢

variable {ops : Array Oper} {Q : Exit → Act → World → Prop} {mo : Region.Mode}
/-- One operation of a region, the others having done something. -/
def wpOp (P : Program) (ops : Array Oper) (Q : Exit → Act → World → Prop) (i : Nat) (K : Act → World → Prop) (a : Act) (w : World) : Prop :=
  ∀ w1, Oth w w1 → match ops[i]? with
  | none => K a w1
  | some o => if Region.wanted o (yielded ops a.tmps) then EvB P o a w1 ∧ o.wpB P a w1 K Q else K (a.put o.dst undef) w1
theorem wpOp_mono {i : Nat} {a : Act} {w : World} {K K' : Act → World → Prop} (h : ∀ a w, K a w → K' a w) (hh : wpOp P ops Q i K a w) : wpOp P ops Q i K' a w := by
  intro w1 h1
  have := hh w1 h1
  split
  · exact h _ _ (by simpa [*] using this)
  · rename_i o ho
    simp only [ho] at this
    split
    · rename_i hw; simp only [hw, if_true] at this; exact ⟨this.1, Oper.wpB_mono h this.2⟩
    · rename_i hw; simp only [hw] at this; exact h _ _ this
def wpOps (P : Program) (ops : Array Oper) (Q : Exit → Act → World → Prop) : List Nat → Act → World → Prop
  | [], a, w => Q .normal a w
  | i :: rest, a, w => wpOp P ops Q i (wpOps P ops Q rest) a w
def wpList (P : Program) (ops : Array Oper) (Q : Exit → Act → World → Prop) : List Oper → Act → World → Prop
  | [], a, w => Q .normal a w
  | o :: rest, a, w => ∀ w1, Oth w w1 → if Region.wanted o (yielded ops a.tmps) then EvB P o a w1 ∧ o.wpB P a w1 (wpList P ops Q rest) Q else wpList P ops Q rest (a.put o.dst undef) w1
theorem wpOps_eq_wpList (l : List Oper) : ∀ k, (∀ j, l[j]? = ops[k + j]?) → wpOps P ops Q (List.range' k l.length) = wpList P ops Q l := by
  induction l with
  | nil => intro k _; funext a w; simp [wpOps, wpList]
  | cons o l ih =>
    intro k h
    have h0 : ops[k]? = some o := by simpa using (h 0).symm
    have ih' := ih (k + 1) (fun j => by have := h (j + 1); simpa [Nat.add_assoc, Nat.add_comm 1 j] using this)
    funext a w
    simp only [List.length_cons, List.range'_succ, wpOps, wpOp, wpList, h0, ih']

theorem step_op {K : Goroutine → World → Prop} {b : Frame} {k : List Item} {cs : List Frame} {a : Act} {w : World} {i : Nat} {rest : List Nat} {N : Act → World → Prop} (hK : md.Ok P K) (hb : b.kind ≠ .early)
    (h : wpOp P ops Q i N a w) (hn : ∀ a' w', N a' w' → K (G (b.at a' (.inRegion ops rest :: k)) cs) w') : K (G (b.at a (.inRegion ops (i :: rest) :: k)) cs) w := by
  have hk : b.kind ≠ .early := hb
  refine (md.cl hK).go _ _ rfl fun w1 h1 => ?_
  have hd := h w1 (md.sub h1)
  cases ho : ops[i]? with
  | none =>
    simp only [ho] at hd
    have e : (b.at a (.inRegion ops (i :: rest) :: k)).finish undef = b.at a (.inRegion ops rest :: k) := by rw [Frame.finish_at, ho]; rfl
    have s : ∀ w, stepG P md.m (G (b.at a (.inRegion ops (i :: rest) :: k)) cs) w = .go (G (b.at a (.inRegion ops rest :: k)) cs) w #[] := by
      intro w
      rw [← e]
      simp [G, stepG, stepG.exec, Frame.at, ho]
    exact ⟨G (b.at a (.inRegion ops rest :: k)) cs, w1, ⟨⟨_, s _, EvOk.none _, Nat.le_refl _⟩, fun _ _ r hr => ⟨r, _, s r, .none hr⟩⟩, hn _ _ hd⟩
  | some o =>
    simp only [ho] at hd
    by_cases hw : Region.wanted o (yielded ops a.tmps) = true
    · rw [if_pos hw] at hd
      obtain ⟨hev, hd⟩ := hd
      unfold Oper.wpB at hd
      generalize hr : (execOp a.eval o).run P w1 = r at hd
      cases r with
      | halt x w' => cases x <;> simp only [Oper.uponB] at hd
      | ok nx w' =>
        obtain ⟨e1, e2⟩ := hev.one b.fn nx w' hr
        have e3 := hev.two nx w' hr
        cases nx <;> simp only [Oper.uponB] at hd
        case value v =>
          refine ⟨_, _, ⟨⟨_, Go.Conc.stepG_value ho hw hk hr, e1, e2⟩, fun B M r hv => ?_⟩, hn _ _ hd⟩
          obtain ⟨r', q1, q2⟩ := e3 B M r hv
          exact ⟨r', _, Go.Conc.stepG_value ho hw hk q1, q2 _⟩
        case skip =>
          refine ⟨_, _, ⟨⟨_, Go.Conc.stepG_none ho hw hk hr, e1, e2⟩, fun B M r hv => ?_⟩, hn _ _ hd⟩
          obtain ⟨r', q1, q2⟩ := e3 B M r hv
          exact ⟨r', _, Go.Conc.stepG_none ho hw hk q1, q2 _⟩
        case enter f args =>
          refine ⟨_, _, ⟨⟨_, Go.Conc.stepG_enter ho hw hk hr, e1, e2⟩, fun B M r hv => ?_⟩, hd K (b.at a (.inRegion ops (i :: rest) :: k) :: cs) hK fun v w2 fr hR hfn hl => ?_⟩
          · obtain ⟨r', q1, q2⟩ := e3 B M r hv
            exact ⟨r', _, Go.Conc.stepG_enter ho hw hk q1, q2 _⟩
          have hN : N (a.put o.dst v) w2 := hR
          obtain ⟨fn, hf, hres⟩ := hl.res
          refine (md.cl hK).go _ _ rfl fun w3 h3 => ?_
          have hq := hres w3 h3
          have hfin : (b.at a (.inRegion ops (i :: rest) :: k)).finish v = b.at (a.put o.dst v) (.inRegion ops rest :: k) := by rw [Frame.finish_at, ho]; rfl
          refine ⟨_, w3, ⟨⟨_, stepG_leave' hl.mode hl.defers hl.kind hf hq.one.1, fun e he => hq.one.2 e (Go.Conc.mem_seen he), Nat.le_refl _⟩, fun B M r hv => ?_⟩, ?_⟩
          · obtain ⟨q1, q2⟩ := hq.two B M r hv
            exact ⟨r, _, stepG_leave' hl.mode hl.defers hl.kind hf q1, ⟨q2.vw, q2.size, q2.keeps, q2.tape, q2.os, q2.output, fun e he => q2.ok e (Go.Conc.mem_seen he), fun e he => q2.ev e (Go.Conc.mem_seen he)⟩⟩
          · rw [hfin]
            exact (md.cl hK).st _ _ _ (hn _ _ hN) h3
    · rw [if_neg hw] at hd
      exact ⟨_, _, ⟨⟨_, Go.Conc.stepG_unwanted ho (by simpa using hw), EvOk.none _, Nat.le_refl _⟩, fun _ _ r hr => ⟨r, _, Go.Conc.stepG_unwanted ho (by simpa using hw), .none hr⟩⟩, hn _ _ hd⟩

theorem wp_ops {K : Goroutine → World → Prop} {b : Frame} {k : List Item} {cs : List Frame} (hK : md.Ok P K) (hb : b.kind ≠ .early) (hQ : ∀ e a' w', Q e a' w' → After K b k cs e a' w') : ∀ (l : List Nat) (a : Act) (w : World), wpOps P ops Q l a w → K (G (b.at a (.inRegion ops l :: k)) cs) w := by
  intro l
  induction l with
  | nil => exact fun a w h => ctl hK (fun _ => Go.Conc.stepG_region_end) (hQ _ _ _ h)
  | cons i rest ih => exact fun a w h => step_op hK hb h ih
theorem wp_region_list {id : Nat} {a : Act} {w : World} (h : wpList P ops Q ops.toList a w) : (Code.region id ops false).wpB P Q a w := fun K b k cs hK hb hQ =>
  ctl hK (fun _ => Go.Conc.stepG_region) (wp_ops hK hb hQ _ _ _ (by rw [List.range_eq_range', ← Array.length_toList, wpOps_eq_wpList ops.toList 0 (by simp)]; exact h))

def wpAny (P : Program) (mo : Region.Mode) (ops : Array Oper) (Q : Exit → Act → World → Prop) : Nat → Array Bool → Act → World → Prop
  | 0, listed, a, w => Region.ready mo ops listed = [] ∧ Q .normal a w
  | fuel + 1, listed, a, w =>
    (Region.ready mo ops listed = [] → Q .normal a w) ∧
    ∀ i ∈ Region.ready mo ops listed, wpOp P ops Q i (wpAny P mo ops Q fuel (listed.setIfInBounds i true)) a w
theorem wpAny_sound : ∀ (fuel t : Nat) (listed : Array Bool) (a : Act) (w : World), wpAny P mo ops Q fuel listed a w → wpOps P ops Q (Region.linearise.go mo ops fuel t listed []) a w := by
  intro fuel
  induction fuel with
  | zero => intro t listed a w h; simpa [Region.linearise.go, wpOps] using h.2
  | succ fuel ih =>
    intro t listed a w h
    obtain ⟨h₀, h₁⟩ := h
    simp only [Region.linearise.go]
    change wpOps P ops Q (match (Region.ready mo ops listed)[t % (Region.ready mo ops listed).length]? with
      | some i => Region.linearise.go mo ops fuel (t / (Region.ready mo ops listed).length) (listed.setIfInBounds i true) [i]
      | none => [].reverse) a w
    cases hi : (Region.ready mo ops listed)[t % (Region.ready mo ops listed).length]? with
    | none =>
      have hnil : Region.ready mo ops listed = [] := by
        cases hr : Region.ready mo ops listed with
        | nil => rfl
        | cons x xs =>
          rw [hr] at hi
          have hlt : t % (x :: xs).length < (x :: xs).length := Nat.mod_lt _ (by simp)
          simp at hi
          simp at hlt
          omega
      simpa [wpOps] using h₀ hnil
    | some i =>
      simp only []
      rw [linearise_go_acc, List.reverse_singleton, List.singleton_append]
      exact wpOp_mono (fun a w => ih _ _ a w) (h₁ i (List.mem_of_getElem? hi))
theorem wp_region_any {id : Nat} {a : Act} {w : World} (hm : P.follows .mixedOrders = true)
    (h : ∀ w1, Oth w w1 → wpAny P .any ops Q ops.size (Array.replicate ops.size false) a w1) : (Code.region id ops true).wpB P Q a w := fun K b k cs hK hb hQ => by
  refine (md.cl hK).go _ _ rfl fun w1 h1 => ⟨_, _, ⟨⟨_, Go.Conc.stepG_region_draw, EvOk.none _, Nat.le_refl _⟩, fun B M r hv => ⟨{ r with drawn := r.drawn + 1 }, #[], ?_, ?_⟩⟩, wp_ops hK hb hQ _ _ _ ?_⟩
  · rw [Go.Conc.stepG_region_draw, hv.tape, hv.drawn]
  · obtain ⟨h1, h2, h3, h4, h5, h6⟩ := hv.draw (r.drawn + 1)
    refine ⟨?_, h2, h3, h4, h5, h6, .none _, .none _ _⟩
    rw [← hv.drawn] at h1 ⊢
    exact h1
  simp only [Region.schedule, hm, Bool.true_or, if_true]
  exact wpAny_sound ops.size _ _ a _ (h _ ((md.sub h1).trans (Oth.at _ _)))

def bodyPost (P : Program) (fn : Func) (R : Ending → World → Prop) : Exit → Act → World → Prop
  | .normal, a, w | .ret, a, w => a.defers = [] ∧ ∃ v, (∀ w', Oth w w' → ResOk P fn a.tmps w' v) ∧ R (.returned v) w
  | _, _, _ => False
theorem calls_of_wp {f : FuncId} {fn : Func} {c : Code} {args : Array Value} {w : World} {R : Ending → World → Prop} (hf : P.funcs[f]? = some fn) (hb : fn.body = some c)
    (h : c.wpB P (bodyPost P fn R) { tmps := args ++ Array.replicate (fn.ntmps - args.size) undef, defers := [] } w) : Calls P f args w R := by
  intro K cs hK hk
  let b : Frame := { (default : Frame) with fn := f, kind := .normal }
  have henter : Frame.enter P f args .normal = b.at { tmps := args ++ Array.replicate (fn.ntmps - args.size) undef, defers := [] } [.code c] := by
    simp [Frame.enter, Frame.at, hf, hb, b]
  rw [henter]
  have fin : ∀ (a : Act) (w' : World) (todo : List Item), (a.defers = [] ∧ ∃ v, (∀ w1, Oth w' w1 → ResOk P fn a.tmps w1 v) ∧ R (.returned v) w') →
      K (G { b.at a todo with mode := .returning } cs) w' := by
    rintro a w' todo ⟨h1, v, h2, h3⟩
    exact hk v w' _ h3 rfl ⟨rfl, h1, rfl, fn, hf, fun w1 hw1 => h2 w1 (md.sub hw1)⟩
  refine h K b [] cs hK (by simp [b]) fun e a' w' hq => ?_
  cases e with
  | normal => exact ctl hK (fun _ => Go.Conc.stepG_end) (fin a' w' [] hq)
  | ret => exact fun todo => fin a' w' todo hq
  | exit id => exact hq.elim
  | goto l => exact hq.elim
  | panic c => exact hq.elim
  | outgrown => exact hq.elim
end
end Go.Av

/-
  Two structs of integers compared: what that lists.
-/
namespace Go.Av
set_option linter.unusedSectionVars false
set_option linter.unusedSimpArgs false
set_option linter.unusedVariables false
open Go.Conc (listed)

section
variable {P : Program} {T : Tr}
theorem ev_part {t : TypeId} {cs : Array Value} {k : Nat} (w : World) (es : Array Event) : (part t cs k).events P w es = es := by
  unfold part
  simp only [Sem.events_bind, events_isAgg]
  generalize (isAgg t).run P w = r
  cases r with
  | halt x w1 => rfl
  | ok b w1 =>
    simp only [Result.evThen_ok]
    split
    · simp only [Sem.events_bind, events_sizeOf]
      generalize (Go.sizeOf t).run P w1 = r
      cases r <;> rfl
    · split <;> rfl

theorem ev_equalIn_struct (d : Nat) (t : TypeId) (xs ys : Array Value) (ht : P.underlying t = some (.struct (P.fieldsOf t))) (hp : P.stoodInHeld t = false) (w : World) (es : Array Event) :
    (Op.equalIn (d + 1) t (.agg xs) (.agg ys)).events P w es = (Op.eqFields d xs ys (P.fieldsOf t).toList).events P w es := by
  simp only [Op.equalIn, Sem.events_bind, run_underlying ht, Result.evThen_ok, events_underlying, run_program, events_program, hp, Bool.false_eq_true, if_false]
  rw [← Array.forIn_toList]
  generalize (P.fieldsOf t).toList = fs
  clear ht
  induction fs generalizing w es with
  | nil => simp [Op.eqFields]
  | cons f fs ih =>
    simp only [List.forIn_cons, Op.eqFields, Sem.events_bind, Sem.run_bind, Sem.run_ite, Sem.events_ite]
    split
    · simp only [ev_part, Sem.run_bind, Sem.events_bind]
      generalize (part f.type xs f.offset).run P w = r1
      cases r1 with
      | ok a w1 =>
        simp only [Result.andThen_ok, Result.evThen_ok]
        generalize (part f.type ys f.offset).run P w1 = r2
        cases r2 with
        | ok b w2 =>
          simp only [Result.andThen_ok, Result.evThen_ok]
          generalize (Op.equalIn d f.type a b).events P w2 es = es2
          generalize (Op.equalIn d f.type a b).run P w2 = r3
          cases r3 with
          | ok r w3 =>
            cases r
            · simp
            · simp only [Result.andThen_ok, Result.evThen_ok, Bool.not_true, Bool.false_eq_true, if_false, Sem.run_pure, Sem.events_pure]
              exact ih w3 es2
          | halt x w3 => simp [Result.andThen]
        | halt x w2 => simp [Result.andThen]
      | halt x w1 => simp [Result.andThen]
    · simp only [Sem.run_pure, Result.andThen_ok, Sem.events_pure, Result.evThen_ok]
      exact ih w es

theorem ev_eqFields {w : World} {d : Nat} {vs us : Array Value} {es : Array Event} : ∀ (fs : List Field) (k : Nat) (l m : List Int), T.fieldsB k fs = true → l.length = fs.length → m.length = fs.length → (∀ j (h : j < l.length), vs[k + j]? = some (.int .i64 l[j])) → (∀ j (h : j < m.length), us[k + j]? = some (.int .i64 m[j])) →
    (Op.eqFields (d + 1) vs us fs).events T.P w es = es := by
  intro fs
  induction fs with
  | nil => intro k l m _ _ _ _ _; simp [Op.eqFields]
  | cons f fs ih =>
    intro k l m hB hl hm hv hu
    simp only [Tr.fieldsB, Bool.and_eq_true, bne_iff_ne, ne_eq, beq_iff_eq] at hB
    obtain ⟨⟨⟨⟨h1, h2⟩, h3⟩, h4⟩, h5⟩ := hB
    cases l with
    | nil => simp at hl
    | cons a l =>
      cases m with
      | nil => simp at hm
      | cons b m =>
        have ht : T.P.underlying f.type = some (.int .i64) := by
          split at h3
          · assumption
          · cases h3
        have hn : T.shape f.type = some none := by
          split at h4
          · assumption
          · cases h4
        have va := hv 0 (by simp)
        have ub := hu 0 (by simp)
        simp only [Nat.add_zero, List.getElem_cons_zero] at va ub
        have ih' := ih (k + 1) l m h5 (by simpa using hl) (by simpa using hm) (fun j hj => by have := hv (j + 1) (by simpa using hj); rw [show k + 1 + j = k + (j + 1) by omega]; simpa using this) (fun j hj => by have := hu (j + 1) (by simpa using hj); rw [show k + 1 + j = k + (j + 1) by omega]; simpa using this)
        have pv : (part f.type vs f.offset).run T.P w = .ok (.int .i64 a) w := by simp [part, shape_none hn, h2, va]
        have pu : (part f.type us f.offset).run T.P w = .ok (.int .i64 b) w := by simp [part, shape_none hn, h2, ub]
        have ev : (Op.equalIn (d + 1) f.type (.int .i64 a) (.int .i64 b)).events T.P w es = es := by simp [Op.equalIn, run_underlying ht]
        simp only [Op.eqFields, h1, not_false_eq_true, if_true, Sem.events_bind, ev_part, pv, pu, Result.evThen_ok, ev, run_equalIn_int w d f.type .i64 .i64 a b ht, ne_eq]
        by_cases e : a = b
        · subst e
          simp [ih']
        · have : (a == b) = false := by simpa using e
          simp [this]

theorem evb_eqs {ν : Nat → FuncId} {X : Cx} {op : BinOp} {t : TypeId} {x y u : AV} {p q : Value} {o : Oper} {a : Act} {c1 c2 : Operand} {t' : TypeId} (ho : o.op = .binOp op t c1 c2 t') (e1 : a.eval c1 = p) (e2 : a.eval c2 = q) (hs : T.isStruct t = true) (hB : T.intsB t = true) (hop : op = .eql ∨ op = .neq)
    (h : pEqs (op == .neq) (T.P.fieldsOf t).size [x, y] = some u) (hx : Rep ν X x p) (hy : Rep ν X y q) (w : World) : EvB T.P o a w := by
  have hu : T.P.underlying t = some (.struct (T.P.fieldsOf t)) := by
    unfold Tr.isStruct at hs
    unfold Program.fieldsOf
    split at hs
    · rename_i fs hf; simp only [hf]
    · cases hs
  simp only [Tr.intsB, Bool.and_eq_true, Bool.not_eq_true'] at hB
  obtain ⟨⟨hb1, hb2⟩, hb3⟩ := hB
  unfold pEqs at h
  split at h
  · rename_i xs ys heq
    simp only [List.cons.injEq, and_true] at heq
    obtain ⟨rfl, rfl⟩ := heq
    obtain ⟨vs, rfl, hs1, hr1⟩ := hx.inv_agg
    obtain ⟨us, rfl, hs2, hr2⟩ := hy.inv_agg
    split at h
    · rename_i l m hl hm
      split at h
      · rename_i hlen
        obtain ⟨l1, l2⟩ := mapM_some hl
        obtain ⟨m1, m2⟩ := mapM_some hm
        have gv : ∀ j (h : j < l.length), vs[0 + j]? = some (.int .i64 l[j]) := fun j hj => by
          have := hr1 j (by omega)
          rw [avI_some (l2 j (by omega) hj)] at this
          have h6 := this.inv_v
          have h7 : j < vs.size := by omega
          rw [Nat.zero_add, Array.getElem?_eq_getElem h7]
          simpa [h7] using h6
        have gu : ∀ j (h : j < m.length), us[0 + j]? = some (.int .i64 m[j]) := fun j hj => by
          have := hr2 j (by omega)
          rw [avI_some (m2 j (by omega) hj)] at this
          have h6 := this.inv_v
          have h7 : j < us.size := by omega
          rw [Nat.zero_add, Array.getElem?_eq_getElem h7]
          simpa [h7] using h6
        have keq : ∀ w, (Op.equalIn 10000 t (.agg vs) (.agg us)).run T.P w = .ok (l == m) w := fun w => (run_equalIn_agg w 9999 t vs us hu hb2).trans (run_eqFields (T := T) (w := w) (d := 9998) (T.P.fieldsOf t).toList 0 l m hb1 (by simp; omega) (by simp; omega) gv gu)
        have kev : ∀ w es, (Op.equalIn 10000 t (.agg vs) (.agg us)).events T.P w es = es := fun w es => (ev_equalIn_struct 9999 t vs us hu hb2 w es).trans (ev_eqFields (T := T) (w := w) (d := 9998) (T.P.fieldsOf t).toList 0 l m hb1 (by simp; omega) (by simp; omega) gv gu)
        have key : ∃ b : Bool, ∀ w, (execOp a.eval o).run T.P w = .ok (.value (.bool b)) w ∧ (execOp a.eval o).events T.P w #[] = #[] := by
          have hg : ∀ w op x y es, (eqGuard op t x y (.agg vs) (.agg us)).events T.P w es = es := fun w op x y es => by cases op <;> simp [eqGuard, run_program, hb3]
          rcases hop with rfl | rfl
          · refine ⟨l == m, fun w => ⟨?_, ?_⟩⟩
            · simp only [execOp, ho, e1, e2, Sem.run_bind, run_eqGuard_agg w _ t _ _ vs us hb3, Result.andThen_ok, run_eql_struct, keq, Sem.run_pure]
            · simp [execOp, ho, e1, e2, run_eqGuard_agg w _ t _ _ vs us hb3, hg, binOp, Op.equal, Op.maxDepth, keq, kev]
          · refine ⟨!(l == m), fun w => ⟨?_, ?_⟩⟩
            · simp only [execOp, ho, e1, e2, Sem.run_bind, run_eqGuard_agg w _ t _ _ vs us hb3, Result.andThen_ok, run_neq_struct, keq, Sem.run_pure]
            · simp [execOp, ho, e1, e2, run_eqGuard_agg w _ t _ _ vs us hb3, hg, binOp, Op.equal, Op.maxDepth, keq, kev]
        obtain ⟨b, key⟩ := key
        have hl : ∀ fn' w e, e ∈ listed T.P fn' a o w → False := by
          intro fn' w e he'
          have := Go.Conc.mem_listed he'
          rw [(key w).2] at this
          simp at this
        refine ⟨fun fn' r w' hr => ?_, fun x w' hr B M r hv => ?_⟩
        · rw [(key w).1] at hr
          cases hr
          exact ⟨fun e he' => (hl _ _ _ he').elim, Nat.le_refl _⟩
        · rw [(key w).1] at hr
          cases hr
          exact ⟨r, (key r).1, fun fn' => .still hv (fun e he' => (hl _ _ _ he').elim) (fun e he' => (hl _ _ _ he').elim)⟩
      · cases h
    · cases h
  · cases h
end
end Go.Av

/-
  Results are read alike whatever was drawn.
-/
namespace Go.Av
set_option linter.unusedSectionVars false
set_option linter.unusedSimpArgs false
set_option linter.unusedVariables false
variable {P : Program}
/-- It only reads. -/
def Still (P : Program) {α : Type} : Sem α → Prop
  | .pure _ => True
  | .load _ _ k => ∀ v, Still P (k v)
  | .program k => Still P (k P)
  | .halt _ => True
  | _ => False
theorem seen_rl {p : Program} {w w1 : World} {at_ k : Addr} {u : TypeId} {b : Bool} (h : w1.heap[at_.block]? = w.heap[at_.block]?) : w1.seen p at_ u k b = w.seen p at_ u k b := by
  unfold World.seen
  rw [h]
theorem far_rl {w w1 : World} {a : Addr} {b : Bool} {x : Value × List Addr} (h : w.farLoad P a b = .ok x) (hr : Oth w w1) : w1.farLoad P a b = .ok x := by
  unfold World.farLoad at h ⊢
  cases hb : w.heap[a.block]? with
  | none => rw [hb] at h; cases h
  | some o =>
    rw [hr.old _ (Array.getElem?_eq_some_iff.1 hb).1, hb]
    rw [hb] at h
    split at h
    · rename_i at_ u he
      cases he
      split at h
      · rename_i y hy
        have : w1.viewLoad P at_ u a b = w.viewLoad P at_ u a b := by
          unfold World.viewLoad at hy ⊢
          cases hs : w.seen P at_ u a b with
          | error e => rw [hs] at hy; cases hy
          | ok z => rw [seen_rl (hr.old _ (seen_block hs)), hs]
        rw [this, hy]
        exact h
      · cases h
    · cases h
theorem still_rl {α : Type} : ∀ (s : Sem α), Still P s → ∀ (w w1 : World) (r : α), Oth w w1 → s.run P w = .ok r w → s.run P w1 = .ok r w1 := by
  intro s
  induction s with
  | pure a => intro _ w w1 r _ h; cases h; rfl
  | halt x => intro _ w w1 r _ h; cases h
  | load m a k ih =>
    intro hp w w1 r hr h
    simp only [Sem.run] at h ⊢
    cases hc : w.cell? a with
    | some v =>
      rw [hc] at h
      have : w1.cell? a = some v := by
        rw [← hc]
        unfold World.cell?
        rw [hr.old _ (cell_lt' hc)]
      rw [this]
      exact ih v (hp v) w w1 r hr h
    | none =>
      rw [hc] at h
      simp only at h
      cases hf : w.farLoad P a (m == .atomic) with
      | error e => rw [hf] at h; cases h
      | ok y =>
        rw [hf] at h
        have hc1 : w1.cell? a = none := by
          unfold World.cell? at hc ⊢
          have hlt : a.block < w.heap.size := by
            unfold World.farLoad at hf
            split at hf
            · rename_i hv; exact (Array.getElem?_eq_some_iff.1 hv).1
            · cases hf
          rw [hr.old _ hlt]
          exact hc
        rw [hc1]
        simp only
        rw [far_rl hf hr]
        exact ih _ (hp _) w w1 r hr h
  | program k ih => intro hp w w1 r hr h; exact ih P hp w w1 r hr h
  | shape r k ih => intro hp; exact hp.elim
  | frozen a k ih => intro hp; exact hp.elim
  | store m a v k ih => intro hp; exact hp.elim
  | new o k ih => intro hp; exact hp.elim
  | freeze a n k ih => intro hp; exact hp.elim
  | getObj r k ih => intro hp; exact hp.elim
  | setObj r o k ih => intro hp; exact hp.elim
  | choose q k ih => intro hp; exact hp.elim
  | sys c k ih => intro hp; exact hp.elim
  | mark m k ih => intro hp; exact hp.elim
theorem far_at (w : World) (d : Nat) (a : Addr) (b : Bool) : World.farLoad P (w.at d) a b = World.farLoad P w a b := rfl
theorem still_run {α : Type} : ∀ (s : Sem α), Still P s → ∀ (w : World) (r : α) (w' : World), s.run P w = .ok r w' → w' = w ∧ ∀ d, s.run P (w.at d) = .ok r (w.at d) := by
  intro s
  induction s with
  | pure a => intro _ w r w' h; cases h; exact ⟨rfl, fun _ => rfl⟩
  | halt x => intro _ w r w' h; cases h
  | load m a k ih =>
    intro hp w r w' h
    simp only [Sem.run] at h
    split at h
    · rename_i v hv
      obtain ⟨h1, h2⟩ := ih v (hp v) w r w' h
      refine ⟨h1, fun d => ?_⟩
      simp only [Sem.run]
      rw [show (w.at d).cell? a = some v from hv]
      exact h2 d
    · rename_i hc
      split at h
      · rename_i v t hv
        obtain ⟨h1, h2⟩ := ih v (hp v) w r w' h
        refine ⟨h1, fun d => ?_⟩
        simp only [Sem.run]
        rw [show (w.at d).cell? a = none from hc, far_at, hv]
        exact h2 d
      · cases h
  | shape r0 k ih => intro hp; exact hp.elim
  | frozen a k ih => intro hp; exact hp.elim
  | program k ih => intro hp w r w' h; exact ih P hp w r w' h
  | store m a v k ih => intro hp; exact hp.elim
  | new o k ih => intro hp; exact hp.elim
  | freeze a n k ih => intro hp; exact hp.elim
  | getObj r k ih => intro hp; exact hp.elim
  | setObj r o k ih => intro hp; exact hp.elim
  | choose q k ih => intro hp; exact hp.elim
  | sys c k ih => intro hp; exact hp.elim
  | mark m k ih => intro hp; exact hp.elim
theorem still_bind {α β : Type} {f : α → Sem β} : ∀ (s : Sem α), Still P s → (∀ a, Still P (f a)) → Still P (s >>= f) := by
  intro s
  show Still P s → (∀ a, Still P (f a)) → Still P (s.bind f)
  induction s with
  | pure a => intro _ h; exact h a
  | halt x => intro _ _; trivial
  | load m a k ih => intro hp h v; exact ih v (hp v) h
  | shape r k ih => intro hp; exact hp.elim
  | frozen a k ih => intro hp; exact hp.elim
  | program k ih => intro hp h; exact ih P hp h
  | store m a v k ih => intro hp; exact hp.elim
  | new o k ih => intro hp; exact hp.elim
  | freeze a n k ih => intro hp; exact hp.elim
  | getObj r k ih => intro hp; exact hp.elim
  | setObj r o k ih => intro hp; exact hp.elim
  | choose q k ih => intro hp; exact hp.elim
  | sys c k ih => intro hp; exact hp.elim
  | mark m k ih => intro hp; exact hp.elim
theorem still_program : Still P program := trivial
theorem still_load (a : Addr) : Still P (load a) := fun _ => trivial
theorem still_typeInfo (t : TypeId) : Still P (typeInfo t) := by
  refine still_bind _ still_program fun p => ?_
  split <;> trivial
theorem still_underlying (t : TypeId) : Still P (underlying t) := by
  refine still_bind _ still_program fun p => ?_
  split <;> trivial
theorem still_sizeOf (t : TypeId) : Still P (Go.sizeOf t) := still_bind _ (still_typeInfo t) fun _ => trivial
theorem still_isAgg (t : TypeId) : Still P (isAgg t) := by
  refine still_bind _ (still_underlying t) fun p => ?_
  split <;> trivial
theorem still_loadCellsFrom (a : Addr) : ∀ (n i : Nat) (acc : Array Value), Still P (loadCellsFrom a i n acc) := by
  intro n
  induction n with
  | zero => intro i acc; trivial
  | succ n ih => intro i acc; exact still_bind _ (still_load _) fun _ => ih _ _
theorem still_loadVar (t : TypeId) (a : Addr) : Still P (loadVar t a) := by
  refine still_bind _ (still_isAgg t) fun b => ?_
  split
  · exact still_bind _ (still_sizeOf t) fun n => still_bind _ (still_loadCellsFrom a n 0 #[]) fun _ => trivial
  · exact still_load a
theorem still_asAddr (v : Value) : Still P (asAddr v) := by unfold asAddr; split <;> trivial
theorem plain_asAddr (v : Value) : Plain P (asAddr v) := by unfold asAddr; split <;> trivial
theorem still_mapM {α β : Type} {f : α → Sem β} (h : ∀ a, Still P (f a)) : ∀ (l : List α), Still P (l.mapM f) := by
  intro l
  induction l with
  | nil => simp; trivial
  | cons a l ih => rw [List.mapM_cons]; exact still_bind _ (h a) fun _ => still_bind _ ih fun _ => trivial
theorem still_results (fn : Func) (tmps : Array Value) : Still P (results fn tmps) ∧ Plain P (results fn tmps) := by
  have h1 : ∀ x : ResultVar, Still P ((fun | .tmp t => pure (tmps.getD t undef) | .cell a t => do loadVar t (← asAddr (tmps.getD a undef)) : ResultVar → Sem Value) x) ∧ Plain P ((fun | .tmp t => pure (tmps.getD t undef) | .cell a t => do loadVar t (← asAddr (tmps.getD a undef)) : ResultVar → Sem Value) x) := by
    intro x
    cases x with
    | tmp t => exact ⟨trivial, trivial⟩
    | cell a t => exact ⟨still_bind _ (still_asAddr _) fun _ => still_loadVar _ _, plain_bind _ (plain_asAddr _) fun _ => plain_loadVar _ _⟩
  unfold results
  have e : fn.results = fn.results.toList.toArray := by simp
  refine ⟨still_bind _ ?_ fun _ => trivial, plain_bind _ (plain_amapM (fun x => (h1 x).2) _) fun _ => trivial⟩
  rw [e, List.mapM_toArray]
  exact still_bind _ (still_mapM (fun x => (h1 x).1) _) fun _ => trivial
theorem tame_results (fn : Func) (tmps : Array Value) : Tame P (results fn tmps) := by
  have h1 : ∀ x : ResultVar, Tame P ((fun | .tmp t => pure (tmps.getD t undef) | .cell a t => do loadVar t (← asAddr (tmps.getD a undef)) : ResultVar → Sem Value) x) := by
    intro x
    cases x with
    | tmp t => exact trivial
    | cell a t => exact tame_bind _ (by unfold asAddr; split <;> trivial) fun _ => tame_loadVar _ _
  unfold results
  exact tame_bind _ (tame_amapM (fun x => h1 x) _) fun _ => trivial
/-- The results of a frame on its way out. -/
theorem res_rl {fn : Func} {tmps : Array Value} {w : World} {v : Value} (h : (results fn tmps).run P w = .ok v w) : ∀ w1, Oth w w1 → ResOk P fn tmps w1 v := by
  intro w1 hw
  obtain ⟨h1, h2⟩ := still_results (P := P) fn tmps
  have h3 := still_rl _ h1 w w1 v hw h
  refine ⟨⟨h3, fun e he => ?_⟩, fun B M r hr => ?_⟩
  · rcases (plain_events _ h2 w1 #[] v w1 h3).2 e he with q | q
    · simp at q
    · exact q
  · obtain ⟨r', q1, q2, q3⟩ := tame_sim _ (tame_results fn tmps) M r w1 #[] v w1 hr h3
    obtain ⟨rfl, _⟩ := still_run _ h1 r v r' q1
    refine ⟨q1, ⟨q2.vw, q2.size, q2.keeps, q2.tape, q2.os, q2.output, fun e he => ?_, fun e he => ?_⟩⟩
    · rcases q3 e he with q | q
      · simp at q
      · exact q.1
    · rcases q3 e he with q | q
      · simp at q
      · exact q.2
end Go.Av

/-
  Contracts, and the operations that call, make objects and write them.
-/
namespace Go.Av
set_option linter.unusedSectionVars false
set_option linter.unusedSimpArgs false
set_option linter.unusedVariables false
variable [md : Md]
open Go.RowKit (Below)

def AV.isV : AV → Bool
  | .v _ => true
  | _ => false

/-- The function is one of the program's own, with a body. -/
def Enters (P : Program) (f : FuncId) : Prop := ∃ fn, P.funcs[f]? = some fn ∧ fn.body.isSome = true ∧ (fn.name == "runtime.NumGoroutine") = false

def ArgsOk (ν : Nat → FuncId) (w : World) (args : List AV) (vs : Array Value) : Prop :=
  vs.size = args.length ∧ ∀ i (h : i < args.length), RepP ν w (fun b => b < w.heap.size) args[i] (vs.getD i undef)

/-- The call of f with these arguments over these objects. -/
def OkM (P : Program) (ν : Nat → FuncId) : Ct := fun f args H nx Φ =>
  Enters P (ν f) ∧ ∀ (w0 : World) (S : Nat → Prop) (β : Nat → Nat) (w : World) (vs : Array Value), Objs ν w0.heap.size ⟨β, H, nx, w, S⟩ → Below w0.heap.size w0 w →
    vs.size = args.length → (∀ i (h : i < args.length), Rep ν ⟨β, H, nx, w, S⟩ args[i] (vs.getD i undef)) →
    Calls P (ν f) vs w fun e w' => ∃ v r H' nx' β', e = .returned v ∧ Φ r H' nx' ∧ Rep ν ⟨β', H', nx', w', S⟩ r v ∧ Objs ν w0.heap.size ⟨β', H', nx', w', S⟩ ∧ Ext ⟨β, H, nx, w, S⟩ ⟨β', H', nx', w', S⟩ ∧ Below w0.heap.size w0 w'

theorem OkM.mono {P : Program} {ν : Nat → FuncId} {f : Nat} {args : List AV} {H : Hp} {nx : Nat} {Φ Φ' : AV → Hp → Nat → Prop} (h : OkM P ν f args H nx Φ) (hΦ : ∀ r H' nx', Φ r H' nx' → Φ' r H' nx') : OkM P ν f args H nx Φ' :=
  ⟨h.1, fun w0 S β w vs h1 h2 h3 h4 => (h.2 w0 S β w vs h1 h2 h3 h4).mono fun _ _ ⟨v, r, H', nx', β', e1, e2, e3⟩ => ⟨v, r, H', nx', β', e1, hΦ _ _ _ e2, e3⟩⟩

section
variable {ν : Nat → FuncId} {N : Nat} {w0 : World} {S : Nat → Prop} {X0 : Cx} {s : St} {a : Act} {w : World} {β : Nat → Nat}

theorem Sim.put (h : Sim ν N w0 S X0 s a w β) {u : AV} {v : Value} (hr : Rep ν ⟨β, s.heap, s.next, w, S⟩ u v) {d : Option Nat} (hd : ∀ k, d = some k → k < N) : Sim ν N w0 S X0 (s.put d u) (a.put d v) w β := by
  cases d with
  | none => exact h
  | some k =>
    have hk := hd k rfl
    refine ⟨fun t => ?_, by simp [Act.put, h.size], by simpa [Act.put] using h.defers, h.objs, h.below, h.ext⟩
    show Rep ν ⟨β, s.heap, s.next, w, S⟩ (_root_.Go.Av.put s.env k u t) ((a.tmps.setIfInBounds k v).getD t undef)
    unfold _root_.Go.Av.put
    by_cases e : t = k
    · subst e
      have : t < a.tmps.size := by rw [h.size]; exact hk
      simpa [this] using hr
    · have := h.env t
      rw [if_neg e]
      simpa [Array.getElem?_setIfInBounds_ne (Ne.symm e)] using this

/-- The next number is free. -/
theorem Sim.fresh (h : Sim ν N w0 S X0 s a w β) : s.heap s.next = none := by
  cases hc : s.heap s.next with
  | none => rfl
  | some c => have := (h.objs.obj s.next c hc).1; simp only at this; omega

theorem Sim.lt (h : Sim ν N w0 S X0 s a w β) : ∀ k c, s.heap k = some c → β k < w.heap.size := h.objs.lt

theorem below_alloc {B : Nat} {w0 w : World} (h : Below B w0 w) (hB : B ≤ w.heap.size) (o : Obj) : Below B w0 (w.alloc o) := h.alloc hB o

theorem Sim.le (h : Sim ν N w0 S X0 s a w β) : w0.heap.size ≤ w.heap.size := h.below.size

theorem Sim.alloc (h : Sim ν N w0 S X0 s a w β) (o : Obj) : Sim ν N w0 S X0 s a (w.alloc o) β :=
  ⟨fun t => (h.env t).mono (Ext.alloc ⟨β, s.heap, s.next, w, S⟩ o h.objs.lt), h.size, h.defers, h.objs.alloc o, h.below.alloc h.le o, h.ext.trans (Ext.alloc ⟨β, s.heap, s.next, w, S⟩ o h.objs.lt)⟩

/-- The world has moved on; nothing that was there has turned. -/
theorem Ext.later {X : Cx} {w' : World} (hb : Below X.w.heap.size X.w w') (hlt : ∀ k c, X.H k = some c → X.β k < X.w.heap.size) : Ext X { X with w := w' } :=
  ⟨Nat.le_refl _, fun _ hb' => ⟨⟨Nat.lt_of_lt_of_le hb'.1.1 hb.size, hb'.1.2⟩, hb'.2⟩, fun b hb' => hb.block b hb'.1.1,
   fun k c' _ hc' => ⟨c', hc', .inr ⟨rfl, rfl, fun r e f hr => ⟨r, e, f, (hb.block _ (hlt k c' hc')).trans hr, rfl⟩⟩⟩,
   fun k c' _ hc' es q hr => ⟨rfl, es, q, (hb.block _ (hlt k c' hc')).trans hr⟩⟩

theorem Sim.later (h : Sim ν N w0 S X0 s a w β) {w' : World} (hb : Below w.heap.size w w') : Sim ν N w0 S X0 s a w' β := by
  have hx := Ext.later (X := ⟨β, s.heap, s.next, w, S⟩) hb h.objs.lt
  refine ⟨fun t => (h.env t).mono hx, h.size, h.defers, ⟨fun o c hc => ?_, h.objs.inj, Nat.le_trans h.objs.le hb.size, h.objs.new⟩, h.below.trans (hb.mono h.le), h.ext.trans hx⟩
  obtain ⟨h1, h2, ob, hr, hrep⟩ := h.objs.obj o c hc
  exact ⟨h1, h2, ob, (hb.block _ (h.objs.lt o c hc)).trans hr, hrep.mono hx⟩

/-- A new object, a row or a map. -/
theorem Sim.newBlk (h : Sim ν N w0 S X0 s a w β) (cells : List AV) (ob : Obj) (hr : ∀ X', Ext ⟨β, s.heap, s.next, w, S⟩ X' → Blk ν X' cells ob) :
    Sim ν N w0 S X0 { s with heap := hput s.heap s.next (some cells), next := s.next + 1 } a (w.alloc ob) (fun k => if k = s.next then w.heap.size else β k) ∧
    Ext ⟨β, s.heap, s.next, w, S⟩ ⟨fun k => if k = s.next then w.heap.size else β k, hput s.heap s.next (some cells), s.next + 1, w.alloc ob, S⟩ := by
  have hsz : (w.alloc ob).heap.size = w.heap.size + 1 := by show (w.heap.push _).size = _; simp
  have hx : Ext ⟨β, s.heap, s.next, w, S⟩ ⟨fun k => if k = s.next then w.heap.size else β k, hput s.heap s.next (some cells), s.next + 1, w.alloc ob, S⟩ := by
    refine ⟨Nat.le_succ _, fun b hb => ⟨⟨by simp only [hsz]; exact Nat.lt_succ_of_lt hb.1.1, hb.1.2⟩, fun k c hk => ?_⟩, fun b hb => heap_alloc_old _ _ _ hb.1.1, fun k c' hk hc' => ?_, fun k c' hk hc' es q hm => ?_⟩
    · simp only
      by_cases e1 : k = s.next
      · rw [if_pos e1]; have := hb.1.1; simp only at this; omega
      · rw [if_neg e1]
        simp only [hput, if_neg e1] at hk
        exact hb.2 k c hk
    · simp only at hk
      have e1 : k ≠ s.next := by omega
      simp only [hput, if_neg e1] at hc'
      exact ⟨c', hc', .inr ⟨rfl, by simp only [if_neg e1], fun r' e' f' hr' => ⟨r', e', f', by rw [heap_alloc_old _ _ _ (h.objs.lt k c' hc')]; exact hr', rfl⟩⟩⟩
    · simp only at hk
      have e1 : k ≠ s.next := by omega
      simp only [hput, if_neg e1] at hc'
      exact ⟨by simp only [if_neg e1], es, q, by rw [heap_alloc_old _ _ _ (h.objs.lt k c' hc')]; exact hm⟩
  refine ⟨⟨fun t => (h.env t).mono hx, h.size, h.defers, ⟨fun k c hk => ?_, fun k k' c c' hk hk' he => ?_, Nat.le_trans h.objs.le (by simp), h.objs.new⟩, h.below.alloc h.le _, h.ext.trans hx⟩, hx⟩
  · simp only at hk ⊢
    by_cases e1 : k = s.next
    · subst e1
      simp only [hput, if_true, Option.some.injEq] at hk
      subst hk
      refine ⟨Nat.lt_succ_self _, by rw [if_pos rfl]; exact h.le, ob, by rw [if_pos rfl]; exact heap_alloc_new _ _, hr _ hx⟩
    · simp only [hput, if_neg e1] at hk
      obtain ⟨h1, h2, ob', hr', hrep⟩ := h.objs.obj k c hk
      simp only at h1 h2 hr'
      refine ⟨by omega, by rw [if_neg e1]; exact h2, ob', by rw [if_neg e1, heap_alloc_old _ _ _ (h.objs.lt k c hk)]; exact hr', hrep.mono hx⟩
  · simp only at hk hk' he
    by_cases e1 : k = s.next
    · by_cases e2 : k' = s.next
      · omega
      · simp only [hput, if_neg e2] at hk'
        rw [if_pos e1, if_neg e2] at he
        have := h.objs.lt k' c' hk'
        simp only at this
        omega
    · by_cases e2 : k' = s.next
      · simp only [hput, if_neg e1] at hk
        rw [if_neg e1, if_pos e2] at he
        have := h.objs.lt k c hk
        simp only at this
        omega
      · simp only [hput, if_neg e1] at hk
        simp only [hput, if_neg e2] at hk'
        rw [if_neg e1, if_neg e2] at he
        exact h.objs.inj k k' c c' hk hk' he
/-- A new object. -/
theorem Sim.newObj (h : Sim ν N w0 S X0 s a w β) (cells : List AV) (r : Array Value) (e : TypeId) (hl : cells.length ≤ r.size) (hr : ∀ i (hi : i < cells.length), Rep ν ⟨β, s.heap, s.next, w, S⟩ cells[i] (r.getD i undef)) :
    Sim ν N w0 S X0 { s with heap := hput s.heap s.next (some cells), next := s.next + 1 } a (w.alloc (.cells r e)) (fun k => if k = s.next then w.heap.size else β k) ∧
    Ext ⟨β, s.heap, s.next, w, S⟩ ⟨fun k => if k = s.next then w.heap.size else β k, hput s.heap s.next (some cells), s.next + 1, w.alloc (.cells r e), S⟩ :=
  h.newBlk cells (.cells r e) fun _ hX' => ⟨rfl, hl, fun i hi => (hr i hi).mono hX'⟩

/-- An object's block turns, in its own place or in another one of its own; its length does not shrink; a map stays in its place. -/
theorem Sim.turnB (h : Sim ν N w0 S X0 s a w β) {o : Nat} {c c' : List AV} (ho : s.heap o = some c) {w' : World} {b' : Nat} {ob' : Obj}
    (hw : w'.heap[b']? = some ob') (hb' : b' = β o ∨ w.heap.size ≤ b')
    (hbl : ∀ k, k ≠ β o → k < w.heap.size → w'.heap[k]? = w.heap[k]?) (hrest : w'.os = w.os ∧ w'.tape = w.tape ∧ w'.output = w.output ∧ w.heap.size ≤ w'.heap.size)
    (hlen : c.length < c'.length ∨ (c.length = c'.length ∧ b' = β o ∧ ∀ r e f, w.heap[β o]? = some (.cells r e f) → ∃ r' e' f', ob' = .cells r' e' f' ∧ r'.size = r.size))
    (hmap : ∀ es q, w.heap[β o]? = some (.map es q) → b' = β o ∧ ∃ es' q', ob' = .map es' q')
    (hr : ∀ X', Ext ⟨β, s.heap, s.next, w, S⟩ X' → X'.w = w' → Blk ν X' c' ob') :
    Sim ν N w0 S X0 { s with heap := hput s.heap o (some c') } a w' (fun k => if k = o then b' else β k) ∧
    Ext ⟨β, s.heap, s.next, w, S⟩ ⟨fun k => if k = o then b' else β k, hput s.heap o (some c'), s.next, w', S⟩ := by
  obtain ⟨h1, h2, ob0, hr0, _⟩ := h.objs.obj o c ho
  simp only at h1 h2 hr0
  have hlt := h.objs.lt
  simp only at hlt
  have hbo : b' < w'.heap.size := (Array.getElem?_eq_some_iff.1 hw).1
  have hx : Ext ⟨β, s.heap, s.next, w, S⟩ ⟨fun k => if k = o then b' else β k, hput s.heap o (some c'), s.next, w', S⟩ := by
    refine ⟨Nat.le_refl _, fun b hb => ⟨⟨Nat.lt_of_lt_of_le hb.1.1 hrest.2.2.2, hb.1.2⟩, fun k c2 hk => ?_⟩, fun b hb => hbl b (fun e => hb.2 o c ho e.symm) hb.1.1, fun k c2 hk hc2 => ?_, fun k c2 hk hc2 es q hm => ?_⟩
    · simp only
      by_cases e1 : k = o
      · rw [if_pos e1]
        rcases hb' with e2 | e2
        · rw [e2]; exact hb.2 o c ho
        · have := hb.1.1; simp only at this; omega
      · rw [if_neg e1]
        simp only [hput, if_neg e1] at hk
        exact hb.2 k c2 hk
    · by_cases e1 : k = o
      · subst e1
        simp only [hput, if_true, Option.some.injEq] at hc2
        subst hc2
        refine ⟨c, ho, ?_⟩
        rcases hlen with hlen | ⟨hlen, hbb, hrr⟩
        · exact .inl hlen
        · refine .inr ⟨hlen, by simp only [if_true]; exact hbb, fun r e f hre => ?_⟩
          obtain ⟨r', e', f', e2, e3⟩ := hrr r e f hre
          exact ⟨r', e', f', by show w'.heap[β k]? = _; rw [← hbb, ← e2]; exact hw, e3⟩
      · simp only [hput, if_neg e1] at hc2
        have hne : β k ≠ β o := fun e => e1 (h.objs.inj k o c2 c hc2 ho e)
        exact ⟨c2, hc2, .inr ⟨rfl, by simp only [if_neg e1], fun r e f hre => ⟨r, e, f, by rw [hbl _ hne (hlt k c2 hc2)]; exact hre, rfl⟩⟩⟩
    · by_cases e1 : k = o
      · subst e1
        obtain ⟨e2, es', q', e3⟩ := hmap es q hm
        exact ⟨by simp only [if_true]; exact e2, es', q', by show w'.heap[β k]? = _; rw [← e2, ← e3]; exact hw⟩
      · simp only [hput, if_neg e1] at hc2
        have hne : β k ≠ β o := fun e => e1 (h.objs.inj k o c2 c hc2 ho e)
        exact ⟨by simp only [if_neg e1], es, q, by show w'.heap[β k]? = _; rw [hbl _ hne (hlt k c2 hc2)]; exact hm⟩
  refine ⟨⟨fun t => (h.env t).mono hx, h.size, h.defers, ⟨fun k c2 hk => ?_, fun k k' c2 c2' hk hk' he => ?_, Nat.le_trans h.objs.le hrest.2.2.2, h.objs.new⟩, ?_, h.ext.trans hx⟩, hx⟩
  · simp only at hk ⊢
    by_cases e1 : k = o
    · subst e1
      simp only [hput, if_true, Option.some.injEq] at hk
      subst hk
      refine ⟨h1, ?_, ob', by rw [if_pos rfl]; exact hw, hr _ hx rfl⟩
      rw [if_pos rfl]
      have := h.le
      rcases hb' with e2 | e2 <;> omega
    · simp only [hput, if_neg e1] at hk
      obtain ⟨g1, g2, ob2, hr2, hrep⟩ := h.objs.obj k c2 hk
      simp only at g1 g2 hr2
      have hne : β k ≠ β o := fun e => e1 (h.objs.inj k o c2 c hk ho e)
      exact ⟨g1, by rw [if_neg e1]; exact g2, ob2, by rw [if_neg e1, hbl _ hne (hlt k c2 hk)]; exact hr2, hrep.mono hx⟩
  · simp only at hk hk' he
    by_cases e1 : k = o
    · by_cases e2 : k' = o
      · omega
      · simp only [hput, if_neg e2] at hk'
        rw [if_pos e1, if_neg e2] at he
        rcases hb' with e3 | e3
        · rw [e3] at he; exact absurd (h.objs.inj o k' c c2' ho hk' he).symm e2
        · have := hlt k' c2' hk'; omega
    · by_cases e2 : k' = o
      · simp only [hput, if_neg e1] at hk
        rw [if_neg e1, if_pos e2] at he
        rcases hb' with e3 | e3
        · rw [e3] at he; exact absurd (h.objs.inj k o c2 c hk ho he) e1
        · have := hlt k c2 hk; omega
      · simp only [hput, if_neg e1] at hk
        simp only [hput, if_neg e2] at hk'
        rw [if_neg e1, if_neg e2] at he
        exact h.objs.inj k k' c2 c2' hk hk' he
  · refine h.below.trans ⟨hrest.1, hrest.2.1, hrest.2.2.1, hrest.2.2.2, fun k hk => hbl k ?_ ?_⟩
    · omega
    · have := h.le; omega

/-- An object's cells turn. -/
theorem Sim.turn (h : Sim ν N w0 S X0 s a w β) {o : Nat} {c c' : List AV} (ho : s.heap o = some c) (hrow : ∃ r e f, w.heap[β o]? = some (.cells r e f)) {w' : World} {b' : Nat} {r' : Array Value} {e' : TypeId}
    (hw : w'.heap[b']? = some (.cells r' e' (0, 0))) (hl : c'.length ≤ r'.size) (hb' : b' = β o ∨ w.heap.size ≤ b')
    (hbl : ∀ k, k ≠ β o → k < w.heap.size → w'.heap[k]? = w.heap[k]?) (hrest : w'.os = w.os ∧ w'.tape = w.tape ∧ w'.output = w.output ∧ w.heap.size ≤ w'.heap.size)
    (hlen : c.length < c'.length ∨ (c.length = c'.length ∧ b' = β o ∧ ∀ r e f, w.heap[β o]? = some (.cells r e f) → r'.size = r.size))
    (hr : ∀ X', Ext ⟨β, s.heap, s.next, w, S⟩ X' → X'.w = w' → ∀ i (hi : i < c'.length), Rep ν X' c'[i] (r'.getD i undef)) :
    Sim ν N w0 S X0 { s with heap := hput s.heap o (some c') } a w' (fun k => if k = o then b' else β k) ∧
    Ext ⟨β, s.heap, s.next, w, S⟩ ⟨fun k => if k = o then b' else β k, hput s.heap o (some c'), s.next, w', S⟩ := by
  refine h.turnB ho hw hb' hbl hrest (hlen.imp_right fun ⟨e1, e2, e3⟩ => ⟨e1, e2, fun r e f hr => ⟨r', e', (0, 0), rfl, e3 r e f hr⟩⟩) (fun es q hm => ?_) fun X' hX' hw' => ⟨rfl, hl, hr X' hX' hw'⟩
  obtain ⟨r, e, f, hr0⟩ := hrow
  rw [hr0] at hm
  cases hm
end
end Go.Av

/-
  One operation of the compact code against the model's.
-/
namespace Go.Av
set_option linter.unusedSectionVars false
set_option linter.unusedSimpArgs false
set_option linter.unusedVariables false
variable [md : Md]
open Go.RowKit (Below)

/-- The operation leads to a state that the predicate holds of. -/
def Goes (ν : Nat → FuncId) (N : Nat) (w0 : World) (S : Nat → Prop) (X0 : Cx) (P : Program) (o : Oper) (a : Act) (w : World) (K : St → Prop) : Prop :=
  ∀ Q : Exit → Act → World → Prop, o.wpB P a w (fun a' w' => ∃ s' β', K s' ∧ Sim ν N w0 S X0 s' a' w' β') Q

section
variable {ν : Nat → FuncId} {N : Nat} {w0 : World} {S : Nat → Prop} {X0 : Cx} {s : St} {a : Act} {w : World} {β : Nat → Nat} {P : Program} {o : Oper} {K : St → Prop}

theorem Goes.value {v : Value} {w' : World} (h : (execOp a.eval o).run P w = .ok (.value v) w') {s' : St} {β' : Nat → Nat} (hK : K s') (hs : Sim ν N w0 S X0 s' (a.put o.dst v) w' β') : Goes ν N w0 S X0 P o a w K := by
  intro Q
  unfold Oper.wpB
  rw [h]
  exact ⟨s', β', hK, hs⟩
theorem Goes.skip {w' : World} (h : (execOp a.eval o).run P w = .ok .skip w') {s' : St} {β' : Nat → Nat} (hK : K s') (hs : Sim ν N w0 S X0 s' (a.put o.dst undef) w' β') : Goes ν N w0 S X0 P o a w K := by
  intro Q
  unfold Oper.wpB
  rw [h]
  exact ⟨s', β', hK, hs⟩

theorem g_pure {u : AV} (h : Sim ν N w0 S X0 s a w β) (hd : ∀ k, o.dst = some k → k < N) (hg : Gives ν P ⟨β, s.heap, s.next, w, S⟩ (execOp a.eval o) u) (hK : K (s.put o.dst u)) : Goes ν N w0 S X0 P o a w K := by
  obtain ⟨v, w', hr, hw, hrep⟩ := hg
  rcases hw with rfl | ⟨ob, rfl⟩
  · exact Goes.value hr hK (h.put hrep hd)
  · exact Goes.value hr hK ((h.alloc ob).put hrep hd)

theorem g_new {t : TypeId} {T : Tr} (hP : T.P = P) {z : List AV} (ho : o.op = .alloc t) (hz : T.zero t = some z) (h : Sim ν N w0 S X0 s a w β) (hd : ∀ k, o.dst = some k → k < N)
    (hK : K (({ s with heap := hput s.heap s.next (some z), next := s.next + 1 } : St).put o.dst (.mp s.next 0 z.length))) : Goes ν N w0 S X0 P o a w K := by
  subst hP
  obtain ⟨i, zv, za, hi, hz', hza, hzc, hzl, hz1⟩ := zero_spec hz
  have hzr : Rep ν ⟨β, s.heap, s.next, w, S⟩ za zv := .pure (avOf_rep hza)
  have hzcell := hzr.cells (by rw [hzc]; exact hz1)
  rw [hzc] at hzcell
  obtain ⟨hs, hx⟩ := h.newObj z zv.cells t (by omega) hzcell.2
  refine Goes.value (v := .pointer (some ⟨w.heap.size, 0, none⟩)) ?_ hK (hs.put ?_ hd)
  · simp [execOp, ho, Instr.alloc, run_zero hi hz', newVar, newRow]
  · refine .mp (Nat.lt_succ_self _) rfl (fun c hc => ?_) (fun c hc _ => ⟨by simp, _, _, _, by simp only [if_true]; exact heap_alloc_new _ _⟩)
    simp only [hput, if_true, Option.some.injEq] at hc
    subst hc
    exact Nat.le_refl _

theorem g_boxm {t : TypeId} {x : AV} {c1 : Operand} (ho : o.op = .box t c1) (hx : Rep ν ⟨β, s.heap, s.next, w, S⟩ x (a.eval c1)) (h1 : x.cells.all AV.one = true) (h : Sim ν N w0 S X0 s a w β) (hd : ∀ k, o.dst = some k → k < N)
    (hK : K (({ s with heap := hput s.heap s.next (some x.cells), next := s.next + 1 } : St).put o.dst (.mp s.next 0 x.cells.length))) : Goes ν N w0 S X0 P o a w K := by
  obtain ⟨hc1, hc2⟩ := hx.cells h1
  obtain ⟨hs, hx'⟩ := h.newObj x.cells (a.eval c1).cells t (by omega) hc2
  refine Goes.value (v := .pointer (some ⟨w.heap.size, 0, none⟩)) ?_ hK (hs.put ?_ hd)
  · simp [execOp, ho, Instr.box, newVar, newRow]
  · refine .mp (Nat.lt_succ_self _) rfl (fun c hc => ?_) (fun c hc _ => ⟨by simp, _, _, _, by simp only [if_true]; exact heap_alloc_new _ _⟩)
    simp only [hput, if_true, Option.some.injEq] at hc
    subst hc
    exact Nat.le_refl _

theorem g_st {t : TypeId} {n : Nat} {T : Tr} (hP : T.P = P) {x y : AV} {c1 c2 : Operand} (ho : o.op = .store t c1 c2) (hn : T.sizeOf t = some n) (hx : Rep ν ⟨β, s.heap, s.next, w, S⟩ x (a.eval c1)) (hy : Rep ν ⟨β, s.heap, s.next, w, S⟩ y (a.eval c2))
    (h : Sim ν N w0 S X0 s a w β) (hd : ∀ k, o.dst = some k → k < N) {hp : Hp} (hst : stTo s n x y = some hp) (hK : K (({ s with heap := hp } : St).put o.dst (.v undef))) : Goes ν N w0 S X0 P o a w K := by
  subst hP
  obtain ⟨i, hi, hsz⟩ := size_spec hn
  unfold stTo at hst
  split at hst
  · rename_i ob p l
    cases hc : s.heap ob with
    | none => simp [hc] at hst
    | some c =>
      simp only [hc] at hst
      split at hst
      · rename_i hcond
        obtain ⟨h1, h2, h3, h4⟩ := hcond
        cases hst
        obtain ⟨hy1, hy2⟩ := hy.cells h4
        obtain ⟨_, _, _, hv⟩ := hx.inv_mp
        obtain ⟨hptr, hrow⟩ := hv c hc h1
        obtain ⟨g1, g2, r, e, hr, hl, hrep⟩ := h.objs.row hc hrow
        simp only at g1 g2 hr hptr
        have hrun := run_storeCells_at (P := T.P) (β ob) p e (a.eval c2).cells.toList 0 r w hr (by simp; omega) (fun v hv => by
          obtain ⟨j, hj, rfl⟩ := List.getElem_of_mem hv
          have hj' : j < y.cells.length := by simp at hj; omega
          have := (hy2 j hj').one (List.all_eq_true.1 h4 _ (List.getElem_mem _))
          simp only [Array.length_toList] at hj
          simpa [hj] using this)
        have hlenr : (r.toList.take (p + 0) ++ (a.eval c2).cells.toList ++ r.toList.drop (p + 0 + (a.eval c2).cells.toList.length)).length = r.size := by simp; omega
        obtain ⟨hs, hx'⟩ := h.turn (o := ob) (c := c) (c' := c.take p ++ y.cells ++ c.drop (p + n)) hc hrow (w' := w.setRow (β ob) (r.toList.take (p + 0) ++ (a.eval c2).cells.toList ++ r.toList.drop (p + 0 + (a.eval c2).cells.toList.length)).toArray)
          (b' := β ob) (e' := e) (setRow_heap w _ _ _ _ _ hr) (by simp only [List.size_toArray, hlenr]; simp; omega) (.inl rfl) (fun k hk _ => setRow_other _ _ _ _ hk) ⟨rfl, rfl, rfl, by simp [World.setRow]⟩
          (.inr ⟨by simp; omega, rfl, fun r' e' f' hr' => by rw [hr] at hr'; cases hr'; simp only [List.size_toArray, hlenr]⟩) (fun X' hX' _ j hj => by
            have hlen1 : (c.take p).length = p := by simp; omega
            have hjl : j < r.size := by simp at hj; omega
            have eR : ((r.toList.take (p + 0) ++ (a.eval c2).cells.toList ++ r.toList.drop (p + 0 + (a.eval c2).cells.toList.length)).toArray.getD j undef) = if j < p then r.getD j undef else if j < p + n then (a.eval c2).cells.getD (j - p) undef else r.getD j undef := by
              simp only [Nat.add_zero, Array.length_toList, Array.getD_eq_getD_getElem?, List.getElem?_toArray]
              by_cases d1 : j < p
              · rw [if_pos d1, List.append_assoc, List.getElem?_append_left (by simp; omega)]
                simp [d1]
              · rw [if_neg d1]
                by_cases d2 : j < p + n
                · rw [if_pos d2, List.append_assoc, List.getElem?_append_right (by simp; omega), List.getElem?_append_left (by simp; omega)]
                  simp only [List.length_take, Array.length_toList, Array.getElem?_toList]
                  rw [Nat.min_eq_left (by omega)]
                · rw [if_neg d2, List.getElem?_append_right (by simp; omega)]
                  simp only [List.length_append, List.length_take, Array.length_toList, List.getElem?_drop, Array.getElem?_toList]
                  rw [Nat.min_eq_left (by omega)]
                  congr 2
                  omega
            rw [eR]
            by_cases d1 : j < p
            · rw [if_pos d1]
              have e1 : (c.take p ++ y.cells ++ c.drop (p + n))[j] = c[j]'(by omega) := by
                rw [List.getElem_append_left (by simp; omega), List.getElem_append_left (by omega)]; simp
              rw [e1]
              exact (hrep j (by omega)).mono hX'
            · rw [if_neg d1]
              by_cases d2 : j < p + n
              · rw [if_pos d2]
                have e1 : (c.take p ++ y.cells ++ c.drop (p + n))[j] = y.cells[j - p]'(by omega) := by
                  rw [List.getElem_append_left (by simp; omega), List.getElem_append_right (by omega)]; simp [hlen1]
                rw [e1]
                exact (hy2 _ _).mono hX'
              · rw [if_neg d2]
                have hj' : j < c.length := by simp at hj; omega
                have e1 : (c.take p ++ y.cells ++ c.drop (p + n))[j] = c[j]'hj' := by
                  rw [List.getElem_append_right (by simp; omega)]
                  simp only [List.getElem_drop, List.length_append, hlen1]
                  congr 1; omega
                rw [e1]
                exact (hrep j hj').mono hX')
        refine Goes.skip ?_ hK (hs.put (.pure (.v _)) hd)
        have hcs : ¬ ((a.eval c2).cells.size ≠ i.size) := by omega
        simp only [execOp, ho, Instr.storeAt, hptr, Instr.sureAddr, Sem.run_bind, Sem.run_pure, Result.andThen_ok, storeVar, run_size hi, hcs, if_false, hrun]
      · cases hst
  · cases hst
end
end Go.Av

/-
  Makes, appends and calls.
-/
namespace Go.Av
set_option linter.unusedSectionVars false
set_option linter.unusedSimpArgs false
set_option linter.unusedVariables false
variable [md : Md]
open Go.RowKit (Below)

section
variable {ν : Nat → FuncId} {N : Nat} {w0 : World} {S : Nat → Prop} {X0 : Cx} {s : St} {a : Act} {w : World} {β : Nat → Nat} {P : Program} {o : Oper} {K : St → Prop}

theorem g_mks {t e : TypeId} {T : Tr} (hP : T.P = P) {z : List AV} {i : TypeInfo} {x y : AV} {c1 c2 : Operand} (ho : o.op = .makeSlice t c1 c2) (he : T.elem t = some e) (hi : T.P.info? e = some i) (hz : T.zero e = some z) (hzp : 0 < z.length) (hby : i.bytes ≤ 128)
    (hx : Rep ν ⟨β, s.heap, s.next, w, S⟩ x (a.eval c1)) (hy : Rep ν ⟨β, s.heap, s.next, w, S⟩ y (a.eval c2))
    (h : Sim ν N w0 S X0 s a w β) (hd : ∀ k, o.dst = some k → k < N) {r : AV × Hp × Nat} (hmk : mkTo s z x y = some r) (hK : K (({ s with heap := r.2.1, next := r.2.2 } : St).put o.dst r.1)) : Goes ν N w0 S X0 P o a w K := by
  subst hP
  unfold mkTo at hmk
  split at hmk
  · rename_i n c
    split at hmk
    · rename_i hc
      obtain ⟨h0, hle, hmax⟩ := hc
      cases hmk
      obtain ⟨n', rfl⟩ := Int.eq_ofNat_of_zero_le h0
      obtain ⟨c', rfl⟩ := Int.eq_ofNat_of_zero_le (Int.le_trans h0 hle)
      have hle' : n' ≤ c' := by omega
      obtain ⟨i', zv, za, hi', hz', hza, hzc, hzl, hz1⟩ := zero_spec hz
      rw [hi] at hi'
      cases hi'
      have hzr : Rep ν ⟨β, s.heap, s.next, w, S⟩ za zv := .pure (avOf_rep hza)
      have hzcell := hzr.cells (by rw [hzc]; exact hz1)
      rw [hzc] at hzcell
      have hbytes : (i.bytes : Int) * (c' : Int) ≤ 281474976710656 := by
        have h1 : i.bytes * c' ≤ 128 * 1099511627776 := Nat.mul_le_mul hby (by omega)
        have h2 : ((i.bytes * c' : Nat) : Int) ≤ ((128 * 1099511627776 : Nat) : Int) := by exact_mod_cast h1
        rw [Int.natCast_mul] at h2
        omega
      have hrun := run_make (P := T.P) w t e i zv (elem_spec he) hi hz' .i64 .i64 (n' : Int) (c' : Int) (by omega) (by omega) hbytes (by omega)
      have hx' := hx.inv_v
      have hy' := hy.inv_v
      have hcs : (madeCells zv.cells (c' * i.size)).size = c' * i.size := size_madeCells _ _
      have hls : n' * i.size ≤ c' * i.size := Nat.mul_le_mul_right _ hle'
      obtain ⟨hs, hxx⟩ := h.newObj ((List.replicate n' z).flatten) (madeCells zv.cells (c' * i.size)) e (by rw [flat_len, hcs, hzl]; exact hls) (fun j hj => by
        have hmod : j % z.length < z.length := Nat.mod_lt _ hzp
        rw [flat_get z n' j hj hmod]
        have hj' : j < n' * i.size := by rw [flat_len, hzl] at hj; exact hj
        have hm' : j % z.length < zv.cells.size := by omega
        have hj2 : j < c' * i.size := by omega
        have e2 : (madeCells zv.cells (c' * i.size)).getD j undef = zv.cells.getD (j % z.length) undef := by
          have e3 : zv.cells[j % z.length]! = zv.cells[j % z.length]'hm' := getElem!_pos zv.cells (j % z.length) hm'
          have e4 : zv.cells[j % z.length]? = some (zv.cells[j % z.length]'hm') := Array.getElem?_eq_getElem hm'
          simp [madeCells, hj2, hzcell.1, e3, e4]
        rw [e2]
        exact hzcell.2 _ hmod)
      simp only [Int.toNat_natCast] at hrun hs hxx hK ⊢
      refine Goes.value (v := .slice (some ⟨w.heap.size, 0, none⟩) n' c') ?_ hK (hs.put ?_ hd)
      · simp only [execOp, ho, hx', hy', Sem.run_bind, hrun, Result.andThen_ok, Sem.run_pure]
      · refine .ms (Nat.lt_succ_self _) rfl (fun c hc => ?_) (fun c hc _ => ⟨c', madeCells zv.cells (c' * i.size), e, (0, 0), by simp, hle', by simp only [if_true]; exact heap_alloc_new _ _, ?_⟩)
        · simp only [hput, if_true, Option.some.injEq] at hc
          subst hc
          rw [flat_len]; omega
        · rw [hcs, hzl]; omega
    · cases hmk
  · cases hmk

theorem g_mslm {t e : TypeId} {T : Tr} (hP : T.P = P) {sz len : Nat} {z : List AV} {parts : Array (Nat × Operand)} {xs : List AV} (ho : o.op = .buildSlice t len parts) (he : T.elem t = some e) (hsz' : T.sizeOf e = some sz) (hz : T.zero e = some z) (hb : (len + 1) * sz ≤ 256) (hs0 : 0 < sz)
    (hlen : xs.length = parts.size) (hx : ∀ i (h : i < xs.length) (h' : i < parts.size), Rep ν ⟨β, s.heap, s.next, w, S⟩ xs[i] (a.eval parts[i].2))
    (h : Sim ν N w0 S X0 s a w β) (hd : ∀ k, o.dst = some k → k < N) {r : AV × Hp × Nat} (hmk : mslTo s sz len ((List.replicate len z).flatten) (parts.toList.map fun p => (p.1 * sz, sz)) xs = some r) (hK : K (({ s with heap := r.2.1, next := r.2.2 } : St).put o.dst r.1)) : Goes ν N w0 S X0 P o a w K := by
  subst hP
  unfold mslTo at hmk
  split at hmk
  · rename_i out hl
    split at hmk
    · rename_i hc
      obtain ⟨hc1, hc2⟩ := hc
      cases hmk
      obtain ⟨i, zv, za, hi, hz', hza, hzc, hzl, hz1⟩ := zero_spec hz
      obtain ⟨i', hi', hsz⟩ := size_spec hsz'
      rw [hi] at hi'
      cases hi'
      have hu := elem_spec he
      have hzr : Rep ν ⟨β, s.heap, s.next, w, S⟩ za zv := .pure (avOf_rep hza)
      have hzcell := hzr.cells (by rw [hzc]; exact hz1)
      rw [hzc] at hzcell
      obtain ⟨cs', g1, g2, g3, g4⟩ := fill_lay (ν := ν) (X := ⟨β, s.heap, s.next, w, S⟩) (place := fun i => some (i * sz, sz)) (parts.toList.map fun p => (p.1 * sz, sz)) xs (parts.toList.map (·.1)) (parts.toList.map fun p => a.eval p.2) ((List.replicate len z).flatten)
        ((Array.range (len * sz)).map (zv.cells[· % zv.cells.size]!)) out hl (by simp [hlen]) (by simp [hlen]) (fun j h h' => by simp) (fun j h h' => by
          have := hx j h (by omega)
          simpa using this) (by rw [flat_len, hzl, hsz]; simp) (fun j hj => by
          have hj' : j < len * sz := by rw [flat_len, hzl, hsz] at hj; exact hj
          have hzs : z.length = sz := by omega
          have hmod : j % z.length < z.length := Nat.mod_lt _ (by omega)
          rw [flat_get z len j hj hmod]
          have := hzcell.2 (j % z.length) hmod
          have e1 : zv.cells.size = z.length := hzcell.1
          have e2 : ((Array.range (len * sz)).map (zv.cells[· % zv.cells.size]!)).getD j undef = zv.cells.getD (j % z.length) undef := by
            have hm' : j % z.length < zv.cells.size := by omega
            have e3 : zv.cells[j % z.length]! = zv.cells[j % z.length]'hm' := getElem!_pos zv.cells (j % z.length) hm'
            have e4 : zv.cells[j % z.length]? = some (zv.cells[j % z.length]'hm') := Array.getElem?_eq_getElem hm'
            simp [hj', e1, e3, e4]
          rw [e2]
          exact this)
      have hzip : (parts.toList.map (·.1)).zip (parts.toList.map fun p => a.eval p.2) = (parts.map fun (p : Nat × Operand) => (p.1, a.eval p.2)).toList := by
        rw [Array.toList_map, List.zip_map']
      rw [hzip] at g1
      obtain ⟨hs, hxx⟩ := h.newObj out cs' e (by omega) g4
      refine Goes.value (v := .slice (some ⟨w.heap.size, 0, none⟩) len len) ?_ hK (hs.put ?_ hd)
      · have hne : len * sz ≠ 0 := by
          intro hh
          rcases Nat.mul_eq_zero.1 hh with hh | hh <;> omega
        have hle : ¬ (len * sz > 2 ^ 24) := by
          have : len * sz ≤ (len + 1) * sz := Nat.mul_le_mul_right _ (by omega)
          omega
        simp only [execOp, ho, Instr.buildSlice, Sem.run_bind, run_underlying hu, Result.andThen_ok, run_size hi, hsz, hle, if_false, hne, run_zero hi hz', Sem.run_pure, g1, newRow, run_newObj]
        rfl
      · refine .ms (Nat.lt_succ_self _) rfl (fun c hc => ?_) (fun c hc _ => ⟨len, cs', e, (0, 0), by simp, Nat.le_refl _, by simp only [if_true]; exact heap_alloc_new _ _, by omega⟩)
        simp only [hput, if_true, Option.some.injEq] at hc
        subst hc
        omega
    · cases hmk
  · cases hmk

/-- The cells that an append takes over, in the model's memory. -/
theorem app_src {sz : Nat} {y : AV} {q : Value} {cm : List AV × Nat} (h : Sim ν N w0 S X0 s a w β) (hy : Rep ν ⟨β, s.heap, s.next, w, S⟩ y q) (hc : appCells s.heap sz y = some cm) (h1 : cm.1.all AV.one = true) (hsz : 0 < sz) :
    (∃ ad c, q = .slice ad 0 c ∧ cm = ([], 0)) ∨ ∃ (ad : Addr) (c : Nat) (news : List Value), q = .slice (some ad) cm.2 c ∧ news.length = cm.2 * sz ∧ cm.1.length = cm.2 * sz ∧
      (∀ j u, news[j]? = some u → w.cell? (ad.add j) = some u) ∧ (∀ u ∈ news, u.oneCell' = true) ∧ ∀ j (h : j < cm.1.length), Rep ν ⟨β, s.heap, s.next, w, S⟩ cm.1[j] (news.getD j undef) := by
  have build : ∀ (b off cap n : Nat) (c : List AV) (us : Nat → Value), q = .slice (some ⟨b, off, none⟩) n cap → c.length = n * sz → c.all AV.one = true → (∀ j, j < c.length → w.cell? ⟨b, off + j, none⟩ = some (us j)) → (∀ j (h : j < c.length), Rep ν ⟨β, s.heap, s.next, w, S⟩ c[j] (us j)) →
      ∃ (ad : Addr) (c' : Nat) (news : List Value), q = .slice (some ad) n c' ∧ news.length = n * sz ∧ c.length = n * sz ∧
      (∀ j u, news[j]? = some u → w.cell? (ad.add j) = some u) ∧ (∀ u ∈ news, u.oneCell' = true) ∧ ∀ j (h : j < c.length), Rep ν ⟨β, s.heap, s.next, w, S⟩ c[j] (news.getD j undef) := by
    intro b off cap n c us hq hl hone hcell hrep
    refine ⟨⟨b, off, none⟩, cap, (List.range c.length).map us, hq, by simp [hl], hl, fun j u hu => ?_, fun u hu => ?_, fun j hj => ?_⟩
    · simp only [List.getElem?_map] at hu
      cases hr : (List.range c.length)[j]? with
      | none => rw [hr] at hu; cases hu
      | some k =>
        rw [hr] at hu
        cases hu
        obtain ⟨hj, hk⟩ := List.getElem?_eq_some_iff.1 hr
        simp at hj hk
        subst hk
        rw [addr_add]
        exact hcell j hj
    · simp only [List.mem_map, List.mem_range] at hu
      obtain ⟨j, hj, rfl⟩ := hu
      exact (hrep j hj).one (List.all_eq_true.1 hone _ (List.getElem_mem _))
    · have : ((List.range c.length).map us).getD j undef = us j := by simp [hj]
      rw [this]
      exact hrep j hj
  unfold appCells at hc
  split at hc
  · cases hc
    obtain ⟨ad, rfl⟩ := hy.inv_nil
    exact .inl ⟨ad, 0, rfl, rfl⟩
  · rename_i c n
    split at hc
    · rename_i hl
      cases hc
      rcases hy.inv_sl with ⟨b, off, cap, us, hp, hn, hS, hcl, hrr⟩ | ⟨b, cap, hp, hn, hce⟩
      · exact .inr (build b off cap n c us hp hl h1 hcl (fun j hj => .pure (hrr j hj)))
      · subst hn; subst hce; exact .inl ⟨b, cap, hp, rfl⟩
    · cases hc
  · rename_i ob off n sz'
    split at hc
    · rename_i hs'
      subst hs'
      cases hh : s.heap ob with
      | none => simp [hh] at hc
      | some cells =>
        simp only [hh] at hc
        split at hc
        · rename_i hfull
          cases hc
          obtain ⟨_, _, _, hv⟩ := hy.inv_ms
          obtain ⟨cap, r, e, f, hp, hn, hblk, _⟩ := hv cells hh hfull
          obtain ⟨g1, g2, r', e', hr', hl', hrep⟩ := h.objs.row hh ⟨r, e, f, hblk⟩
          simp only at g1 g2 hr' hp
          refine .inr (build (β ob) off cap n (cells.drop off) (fun j => r'.getD (off + j) undef) hp (by simp; omega) h1 (fun j hj => ?_) (fun j hj => ?_))
          · have : off + j < r'.size := by simp at hj; omega
            rw [cell_of_row _ _ _ _ _ _ hr']
            simp [this]
          · have := hrep (off + j) (by simp at hj; omega)
            simpa using this
        · cases hc
    · cases hc
  · cases hc

theorem run_room {P : Program} (w : World) (t ty e e' : TypeId) (i : TypeInfo) (ht : P.underlying t = some (.slice e)) (hi : P.info? e = some i)
    (g sLen sCap : Nat) (cur : Array Value) (hg : w.heap[g]? = some (.cells cur e' (0, 0)))
    (a : Addr) (m c : Nat) (news : List Value) (hl : news.length = m * i.size) (hnews : ∀ j u, news[j]? = some u → w.cell? (a.add j) = some u) (h1 : ∀ u ∈ news, u.oneCell' = true)
    (hroom : sLen + m ≤ sCap) (hfit : sLen * i.size + news.length ≤ cur.size) :
    (Builtin.append_ #[t, t] ty #[.slice (some ⟨g, 0, none⟩) sLen sCap, .slice (some a) m c]).run P w =
      .ok (.slice (some ⟨g, 0, none⟩) (sLen + m) sCap) (w.setRow g (cur.toList.take (sLen * i.size) ++ news ++ cur.toList.drop (sLen * i.size + news.length)).toArray) := by
  have hf := run_firstCells_some (P := P) w i.size m a m c news hl hnews
  have hst := run_storeCells_at (P := P) g (sLen * i.size) e' news 0 cur w hg (by simpa using hfit) h1
  simp only [Nat.add_zero] at hst
  simp [Builtin.append_, run_underlying ht, Go.sizeOf, typeInfo, hi, Builtin.lenOf, hroom, hf, Addr.add_lit, hst]

theorem run_none {P : Program} (w : World) (t ty e : TypeId) (i : TypeInfo) (ht : P.underlying t = some (.slice e)) (hi : P.info? e = some i) (b : Option Addr) (sLen sCap : Nat) (hsl : sLen ≤ sCap) (ad : Option Addr) (c : Nat) :
    (Builtin.append_ #[t, t] ty #[.slice b sLen sCap, .slice ad 0 c]).run P w = .ok (.slice b sLen sCap) w := by
  have hf : (Builtin.firstCells i.size 0 (.slice ad 0 c)).run P w = .ok #[] w := by
    cases ad <;> simp [Builtin.firstCells, loadCells, loadCellsFrom]
  cases b <;> simp [Builtin.append_, run_underlying ht, Go.sizeOf, typeInfo, hi, Builtin.lenOf, hsl, hf, storeCells]

theorem g_app {t e : TypeId} {T : Tr} (hP : T.P = P) {i : TypeInfo} {z : List AV} {x y : AV} {c1 c2 : Operand} (ho : o.op = .call { callee := .builtin .append, args := #[c1, c2], argTypes := #[t, t] })
    (he : T.elem t = some e) (hi : T.P.info? e = some i) (hz : T.zero e = some z) (hsz : 0 < i.size) (hzl : z.length = i.size) (hby : i.bytes ≤ 128)
    (hx : Rep ν ⟨β, s.heap, s.next, w, S⟩ x (a.eval c1)) (hy : Rep ν ⟨β, s.heap, s.next, w, S⟩ y (a.eval c2)) (h : Sim ν N w0 S X0 s a w β) (hd : ∀ k, o.dst = some k → k < N)
    {cm : List AV × Nat} (hcm : appCells s.heap i.size y = some cm) (h1 : cm.1.all AV.one = true) {r : AV × Hp × Nat} (hap : appTo s i.size x cm.1 cm.2 = some r)
    (hK : K (({ s with heap := r.2.1, next := r.2.2 } : St).put o.dst r.1)) : Goes ν N w0 S X0 P o a w K := by
  subst hP
  obtain ⟨i', zv, za, hi', hz', hza, hzc, hzl', hz1⟩ := zero_spec hz
  rw [hi] at hi'
  cases hi'
  have hu := elem_spec he
  have hzs : zv.cells.size = i.size := by
    have hzr : Rep ν ⟨β, s.heap, s.next, w, S⟩ za zv := .pure (avOf_rep hza)
    have := (hzr.cells (by rw [hzc]; exact hz1)).1
    rw [hzc] at this
    omega
  have toRun : ∀ v w', (Builtin.append_ #[t, t] o.type #[a.eval c1, a.eval c2]).run T.P w = .ok v w' → (execOp a.eval o).run T.P w = .ok (.value v) w' := by
    intro v w' hr
    simp only [execOp, ho, resolve, invoke, builtin, Sem.run_bind, Sem.run_pure, Result.andThen_ok, List.map_toArray, List.map_cons, List.map_nil, hr]
  have small : ∀ m : Nat, m ≤ appMax → m * i.bytes ≤ 140737488355328 ∧ (m : Int) ≤ 9223372036854775807 := by
    intro m hm
    unfold appMax at hm
    have : m * i.bytes ≤ 1099511627776 * 128 := Nat.mul_le_mul hm hby
    omega
  rcases app_src h hy hcm h1 hsz with ⟨ad, c, hq, hce⟩ | ⟨ad, c, news, hq, hnl, hcl, hnews, hone, hrep⟩
  · -- nothing to append
    subst hce
    unfold appTo at hap
    split at hap
    · simp only [if_true] at hap
      cases hap
      obtain ⟨b, hp⟩ := hx.inv_nil
      rw [hp, hq] at toRun
      exact Goes.value (toRun _ _ (run_none w t o.type e i hu hi b 0 0 (Nat.le_refl _) ad c)) hK (h.put (.pure (.nil _)) hd)
    · rename_i ob n sz'
      split at hap
      · rename_i hs'
        subst hs'
        cases hh : s.heap ob with
        | none => simp [hh] at hap
        | some cells =>
          simp only [hh] at hap
          split at hap
          · rename_i hfull
            cases hap
            obtain ⟨hv1, hv2, hv3, hv⟩ := hx.inv_ms
            obtain ⟨cap, r, e', f, hp, hn, hblk, hcapr⟩ := hv cells hh (by omega)
            simp only at hp hblk
            rw [hp, hq] at toRun
            have hsame : ({ s with heap := hput s.heap ob (some (cells ++ [])), next := s.next } : St) = s := by
              have : hput s.heap ob (some (cells ++ [])) = s.heap := by
                funext k
                unfold hput
                split
                · rename_i e1; rw [e1, hh, List.append_nil]
                · rfl
              rw [this]
            simp only [Nat.add_zero] at hK ⊢
            rw [hsame] at hK
            exact Goes.value (toRun _ _ (run_none w t o.type e i hu hi _ n cap hn ad c)) hK (h.put (by rw [← hp]; exact hx) hd)
          · cases hap
      · cases hap
    · cases hap
  · unfold appTo at hap
    split at hap
    · -- onto an empty slice
      by_cases hm0 : cm.2 = 0
      · rw [if_pos hm0] at hap
        cases hap
        obtain ⟨b, hp⟩ := hx.inv_nil
        rw [hp, hq, hm0] at toRun
        exact Goes.value (toRun _ _ (run_none w t o.type e i hu hi b 0 0 (Nat.le_refl _) _ c)) hK (h.put (.pure (.nil _)) hd)
      · rw [if_neg hm0] at hap
        split at hap
        · rename_i hmax
          cases hap
          obtain ⟨hb1, hb2⟩ := small cm.2 hmax
          obtain ⟨b, hp⟩ := hx.inv_nil
          have hrun : ∃ cap r, cm.2 ≤ cap ∧ r.size = cap * i.size ∧ (∀ j, j < news.length → r.getD j undef = news.getD j undef) ∧
              (Builtin.append_ #[t, t] o.type #[a.eval c1, a.eval c2]).run T.P w = .ok (.slice (some ⟨w.heap.size, 0, none⟩) cm.2 cap) (w.drew.alloc (.cells r e)) := by
            have fit : ∀ (cap : Nat), cm.2 ≤ cap → (news.toArray ++ Builtin.zeroCells zv.cells (cap - cm.2)).size = cap * i.size ∧ ∀ j, j < news.length → (news.toArray ++ Builtin.zeroCells zv.cells (cap - cm.2)).getD j undef = news.getD j undef := by
              intro cap hcap
              refine ⟨?_, fun j hj => ?_⟩
              · rw [Array.size_append, size_zeroCells, hzs, List.size_toArray, hnl, ← Nat.add_mul]
                congr 1; omega
              · rw [Array.getD_eq_getD_getElem?, Array.getElem?_append_left (by simpa using hj)]
                simp
            cases b with
            | none =>
              have hr := run_append_nil (P := T.P) w t o.type e i zv hu hi hz' ad cm.2 c news hnl hnews (by omega) hb2 (by omega)
              obtain ⟨f1, f2⟩ := fit _ (grownCap_ge w cm.2 0 e)
              exact ⟨_, _, grownCap_ge w cm.2 0 e, f1, f2, by rw [hp, hq]; exact hr⟩
            | some b =>
              have hr := run_append_grow (P := T.P) w t o.type e i zv hu hi hz' b 0 0 [] (by simp) (fun j v hv => by simp at hv) ad cm.2 c news hnl hnews (by omega) (by simpa using hb2) (growslice_fits (by omega) (by simpa using hb1))
              simp only [Nat.zero_add, Array.empty_append] at hr
              obtain ⟨f1, f2⟩ := fit _ (grownCap_ge w cm.2 0 e)
              exact ⟨_, _, grownCap_ge w cm.2 0 e, f1, f2, by rw [hp, hq]; exact hr⟩
          obtain ⟨cap, r, hcap, hrs, hrn, hr⟩ := hrun
          have hdrew : Sim ν N w0 S X0 s a w.drew β := h.later ⟨rfl, rfl, rfl, Nat.le_refl _, fun _ _ => rfl⟩
          have hlr : cm.1.length ≤ r.size := by rw [hcl, hrs]; exact Nat.mul_le_mul_right _ hcap
          obtain ⟨hs, hxx⟩ := hdrew.newObj cm.1 r e hlr (fun j hj => by
            rw [hrn j (by omega)]
            exact (hrep j hj).mono (Ext.drew _ w.drew rfl))
          refine Goes.value (toRun _ _ hr) hK (hs.put ?_ hd)
          refine .ms (Nat.lt_succ_self _) rfl (fun c' hc' => ?_) (fun c' hc' _ => ⟨cap, r, e, (0, 0), by simp, hcap, by simp only [if_true]; exact heap_alloc_new w.drew _, by omega⟩)
          simp only [hput, if_true, Option.some.injEq] at hc'
          subst hc'
          omega
        · cases hap
    · rename_i ob n sz'
      split at hap
      · rename_i hs'
        subst hs'
        cases hh : s.heap ob with
        | none => simp [hh] at hap
        | some cells =>
          simp only [hh] at hap
          split at hap
          · rename_i hfull
            obtain ⟨hfull, hmax⟩ := hfull
            cases hap
            obtain ⟨hb1, hb2⟩ := small (n + cm.2) hmax
            obtain ⟨hv1, hv2, hv3, hv⟩ := hx.inv_ms
            obtain ⟨cap, r, e', f, hp, hn, hblk, hcapr⟩ := hv cells hh (by omega)
            have hrow : ∃ r e f, w.heap[β ob]? = some (.cells r e f) := ⟨r, e', f, hblk⟩
            obtain ⟨g1, g2, r', e2, hr', hl', hrep'⟩ := h.objs.row hh hrow
            simp only at hp hblk g1 g2 hr' hv1
            have hinj := hr'.symm.trans hblk
            simp only [Option.some.injEq, Obj.cells.injEq] at hinj
            obtain ⟨rfl, rfl, rfl⟩ := hinj
            by_cases hm0 : cm.2 = 0
            · -- no cell is appended
              have hce : cm.1 = [] := List.eq_nil_of_length_eq_zero (by rw [hcl, hm0]; simp)
              rw [hp, hq, hm0] at toRun
              have hsame : ({ s with heap := hput s.heap ob (some (cells ++ cm.1)), next := s.next } : St) = s := by
                have : hput s.heap ob (some (cells ++ cm.1)) = s.heap := by
                  funext k
                  unfold hput
                  split
                  · rename_i e1; rw [e1, hh, hce, List.append_nil]
                  · rfl
                rw [this]
              rw [hsame, hm0] at hK
              exact Goes.value (toRun _ _ (run_none w t o.type e i hu hi _ n cap hn _ c)) hK (h.put (by rw [← hp]; exact hx) hd)
            · have hlt : cells.length < (cells ++ cm.1).length := by
                have : 0 < cm.2 * i.size := Nat.mul_pos (by omega) hsz
                simp; omega
              have both : ∀ (b' cap' : Nat) (rr : Array Value) (ee : TypeId) (w' : World), (Builtin.append_ #[t, t] o.type #[a.eval c1, a.eval c2]).run T.P w = .ok (.slice (some ⟨b', 0, none⟩) (n + cm.2) cap') w' →
                  w'.heap[b']? = some (.cells rr ee (0, 0)) → n + cm.2 ≤ cap' → cap' * i.size ≤ rr.size → (b' = β ob ∨ w.heap.size ≤ b') → (∀ k, k ≠ β ob → k < w.heap.size → w'.heap[k]? = w.heap[k]?) →
                  (w'.os = w.os ∧ w'.tape = w.tape ∧ w'.output = w.output ∧ w.heap.size ≤ w'.heap.size) → (∀ j, j < cells.length → rr.getD j undef = r'.getD j undef) → (∀ j, j < cm.1.length → rr.getD (cells.length + j) undef = news.getD j undef) → Goes ν N w0 S X0 T.P o a w K := by
                intro b' cap' rr ee w' hr hw' hcap' hsize hb' hoth hrest hold hnew
                have hfit : (cells ++ cm.1).length ≤ rr.size := by
                  have : (n + cm.2) * i.size ≤ cap' * i.size := Nat.mul_le_mul_right _ hcap'
                  rw [Nat.add_mul] at this
                  simp only [List.length_append]
                  omega
                obtain ⟨hs, hxx⟩ := h.turn (o := ob) (c := cells) (c' := cells ++ cm.1) hh hrow hw' hfit hb' hoth hrest (.inl hlt) (fun X' hX' _ j hj => by
                  by_cases hj1 : j < cells.length
                  · rw [List.getElem_append_left hj1, hold j hj1]
                    exact (hrep' j hj1).mono hX'
                  · have hj2 : j - cells.length < cm.1.length := by simp at hj; omega
                    rw [List.getElem_append_right (by omega)]
                    have := hnew (j - cells.length) hj2
                    rw [show cells.length + (j - cells.length) = j from by omega] at this
                    rw [this]
                    exact (hrep _ hj2).mono hX')
                refine Goes.value (toRun _ _ hr) hK (hs.put ?_ hd)
                refine .ms hv1 rfl (fun c' hc' => ?_) (fun c' hc' _ => ⟨cap', rr, ee, (0, 0), by simp, hcap', by simp only [if_true]; exact hw', by omega⟩)
                simp only [hput, if_true, Option.some.injEq] at hc'
                subst hc'
                simp only [List.length_append, Nat.add_mul]
                omega
              by_cases hroom : n + cm.2 ≤ cap
              · have hfit : n * i.size + news.length ≤ r'.size := by
                  have : (n + cm.2) * i.size ≤ cap * i.size := Nat.mul_le_mul_right _ hroom
                  rw [Nat.add_mul] at this
                  omega
                have hr := run_room (P := T.P) w t o.type e e2 i hu hi (β ob) n cap r' hr' ad cm.2 c news hnl hnews hone hroom hfit
                refine both (β ob) cap _ e2 _ (by rw [hp, hq]; exact hr) (setRow_heap w _ _ _ _ _ hr') hroom (by simp; omega) (.inl rfl) (fun k hk _ => setRow_other _ _ _ _ hk) ⟨rfl, rfl, rfl, by simp [World.setRow]⟩ (fun j hj => ?_) (fun j hj => ?_)
                · simp only [Array.getD_eq_getD_getElem?, List.getElem?_toArray]
                  rw [List.append_assoc, List.getElem?_append_left (by simp; omega)]
                  simp [show j < n * i.size from by omega]
                · simp only [Array.getD_eq_getD_getElem?, List.getElem?_toArray]
                  rw [List.append_assoc, List.getElem?_append_right (by simp; omega), List.getElem?_append_left (by simp; omega)]
                  simp only [List.length_take, Array.length_toList]
                  rw [Nat.min_eq_left (by omega), show cells.length + j - n * i.size = j from by omega]
                  simp [List.getD]
              · have hr := run_append_grow (P := T.P) w t o.type e i zv hu hi hz' ⟨β ob, 0, none⟩ n cap (r'.toList.take (n * i.size)) (by simp; omega) (fun j v hv => by
                  rw [addr_add, Nat.zero_add, cell_of_row _ _ _ _ _ _ hr']
                  rw [List.getElem?_take] at hv
                  split at hv
                  · simpa using hv
                  · cases hv) ad cm.2 c news hnl hnews (by omega) (by omega) (growslice_fits (by omega) (by omega))
                have hge := grownCap_ge w (n + cm.2) cap e
                refine both w.heap.size _ _ e _ (by rw [hp, hq]; exact hr) (heap_alloc_new w.drew _) hge ?_ (.inr (Nat.le_refl _)) (fun k _ hk => heap_alloc_old w.drew _ _ hk) ⟨rfl, rfl, rfl, by simp⟩ (fun j hj => ?_) (fun j hj => ?_)
                · rw [Array.size_append, Array.size_append, size_zeroCells, hzs, List.size_toArray, List.size_toArray, hnl]
                  simp only [List.length_take, Array.length_toList]
                  rw [Nat.min_eq_left (by omega), ← Nat.add_mul, ← Nat.add_mul]
                  exact Nat.mul_le_mul_right _ (by omega)
                · simp only [Array.getD_eq_getD_getElem?]
                  rw [Array.append_assoc, Array.getElem?_append_left (by simp; omega)]
                  simp [show j < n * i.size from by omega]
                · simp only [Array.getD_eq_getD_getElem?]
                  rw [Array.append_assoc, Array.getElem?_append_right (by simp; omega), Array.getElem?_append_left (by simp; omega)]
                  simp only [List.size_toArray, List.length_take, Array.length_toList]
                  rw [Nat.min_eq_left (by omega), show cells.length + j - n * i.size = j from by omega]
                  simp [List.getD]
          · cases hap
      · cases hap
    · cases hap
end
end Go.Av

/-
  Maps: made and written.
-/
namespace Go.Av
set_option linter.unusedSectionVars false
set_option linter.unusedSimpArgs false
set_option linter.unusedVariables false
variable [md : Md]
open Go.RowKit (Below)

section
variable {ν : Nat → FuncId} {N : Nat} {w0 : World} {S : Nat → Prop} {X0 : Cx} {s : St} {a : Act} {w : World} {β : Nat → Nat} {P : Program} {o : Oper} {K : St → Prop}

theorem g_mkm {t : TypeId} (ho : o.op = .makeMap t none) (h : Sim ν N w0 S X0 s a w β) (hd : ∀ k, o.dst = some k → k < N)
    (hK : K (({ s with heap := hput s.heap s.next (some []), next := s.next + 1 } : St).put o.dst (.mm s.next))) : Goes ν N w0 S X0 P o a w K := by
  obtain ⟨hs, hx⟩ := h.newBlk [] (.map #[] 0) fun X' _ => ⟨rfl, fun i hi => by simp at hi⟩
  refine Goes.value (v := .map (some w.heap.size)) ?_ hK (hs.put ?_ hd)
  · simp [execOp, ho, Instr.makeMap]
  · refine .mm (Nat.lt_succ_self _) rfl (fun c hc => ⟨by simp, #[], 0, by simp only [if_true]; exact heap_alloc_new _ _⟩)

theorem mset1_spec (k x : AV) (kl : List Int) : ∀ (es : List MapEntry) (c : List AV) (l : List (List Int × AV)) (i : Nat), es.length = c.length → c.length = l.length → ∀ kd,
    (kfind kd kl es (l.map (·.1)) i = none ∧ mset1 k x kl c l = c ++ [.tup [k, x]]) ∨
    ∃ j v, kfind kd kl es (l.map (·.1)) i = some (i + j, v) ∧ j < c.length ∧ (l[j]?).map (·.1) = some kl ∧ mset1 k x kl c l = c.set j (.tup [k, x]) := by
  intro es
  induction es with
  | nil =>
    intro c l i h1 h2 kd
    have : c = [] := List.eq_nil_of_length_eq_zero (by simpa using h1.symm)
    subst this
    have : l = [] := List.eq_nil_of_length_eq_zero (by simpa using h2.symm)
    subst this
    exact .inl ⟨rfl, rfl⟩
  | cons e es ih =>
    intro c l i h1 h2 kd
    cases c with
    | nil => simp at h1
    | cons y c =>
      cases l with
      | nil => simp at h2
      | cons z l =>
        simp only [List.map_cons, kfind, mset1]
        cases hz : (z.1 == kl)
        · simp only [Bool.false_eq_true, if_false]
          rcases ih c l (i + 1) (by simpa using h1) (by simpa using h2) kd with ⟨g1, g2⟩ | ⟨j, v, g1, g2, g3, g4⟩
          · exact .inl ⟨g1, by rw [g2]; rfl⟩
          · refine .inr ⟨j + 1, v, by rw [g1]; simp; omega, by simp; omega, by simpa using g3, by rw [g4]; rfl⟩
        · simp only [if_true]
          exact .inr ⟨0, e.val, rfl, by simp, by simpa using hz, rfl⟩

theorem g_mset {t k e : TypeId} {kd : Option Nat} {T : Tr} (hP : T.P = P) {m x y : AV} {c1 c2 c3 : Operand} (ho : o.op = .mapUpdate t c1 c2 c3) (ht : T.mapT t = some (k, e)) (hk : T.keyKd k = some kd)
    (hm : Rep ν ⟨β, s.heap, s.next, w, S⟩ m (a.eval c1)) (hx : Rep ν ⟨β, s.heap, s.next, w, S⟩ x (a.eval c2)) (hy : Rep ν ⟨β, s.heap, s.next, w, S⟩ y (a.eval c3))
    (h : Sim ν N w0 S X0 s a w β) (hd : ∀ k, o.dst = some k → k < N) {hp : Hp} (hst : msetTo s.heap kd m x y = some hp) (hK : K (({ s with heap := hp } : St).put o.dst (.v undef))) : Goes ν N w0 S X0 P o a w K := by
  subst hP
  unfold msetTo at hst
  split at hst
  · rename_i ob
    cases hc : s.heap ob with
    | none => simp [hc] at hst
    | some c =>
      simp only [hc] at hst
      split at hst
      · rename_i l kl hdc hkl
        split at hst
        · rename_i hpl
          cases hst
          obtain ⟨_, _, hv⟩ := hm.inv_mm
          obtain ⟨hmv, es, clk, hblk⟩ := hv c hc
          simp only at hmv hblk
          obtain ⟨m1, m2, m3, m4⟩ := ments h.objs hc hblk hdc
          obtain ⟨g1, g2, g3, g4⟩ := h.objs.mp hc hblk
          simp only at g1 g2 g3 g4
          obtain ⟨k1, k2⟩ := mkey_val hkl hx
          have k0 := mkey_rep0 hkl hx
          have y0 := plain_rep0 hpl hy
          have hfind := run_find (w := w) hk k2 m1 m2
          have hck := run_ckey (w := w) hk k2 false
          have htu := mapT_spec ht
          have hlt : β ob < w.heap.size := h.objs.lt ob c hc
          have setb : ∀ (es' : Array MapEntry) (q' : Nat), (setObj (β ob) (.map es' q')).run T.P w = .ok () { w with heap := w.heap.setIfInBounds (β ob) (.map es' q') } := fun es' q' => MapKept.run_setObj_map _ hblk
          have fin : ∀ (es' : Array MapEntry) (q' : Nat) (c' : List AV), (Instr.mapUpdate t (a.eval c1) (a.eval c2) (a.eval c3)).run T.P w = .ok () { w with heap := w.heap.setIfInBounds (β ob) (.map es' q') } → c' = mset1 x y kl c l →
              (c.length < c'.length ∨ c.length = c'.length) → (es'.size = c'.length ∧ ∀ i (h : i < c'.length), ∃ k v e, c'[i] = .tup [k, v] ∧ es'[i]? = some e ∧ Rep0 ν k e.key ∧ Rep0 ν v e.val) → Goes ν N w0 S X0 T.P o a w K := by
            intro es' q' c' hrun hc' hl' hb'
            subst hc'
            obtain ⟨hs, _⟩ := h.turnB (o := ob) (c := c) (c' := mset1 x y kl c l) hc (w' := { w with heap := w.heap.setIfInBounds (β ob) (.map es' q') }) (b' := β ob) (ob' := .map es' q') (by simp [hlt]) (.inl rfl)
              (fun k hk _ => by simp only; rw [Array.getElem?_setIfInBounds_ne (Ne.symm hk)]) ⟨rfl, rfl, rfl, by simp⟩
              (hl'.imp_right fun e1 => ⟨e1, rfl, fun r e' f hr => by rw [hblk] at hr; cases hr⟩) (fun _ _ _ => ⟨rfl, es', q', rfl⟩) fun X' _ _ => hb'
            have hβ : (fun k => if k = ob then β ob else β k) = β := by funext k; split <;> simp_all
            rw [hβ] at hs
            refine Goes.skip (s' := ({ s with heap := hput s.heap ob (some (mset1 x y kl c l)) } : St).put o.dst (.v undef)) (β' := β) ?_ hK (hs.put (.pure (.v _)) hd)
            simp only [execOp, ho, Sem.run_bind, hrun, Result.andThen_ok, Sem.run_pure]
          rcases mset1_spec x y kl es.toList c l 0 (by simpa using g3) m3.symm kd with ⟨f1, f2⟩ | ⟨j, v, f1, f2, f3, f4⟩
          · rw [f1] at hfind
            refine fin (es.push ⟨a.eval c2, a.eval c3, clk⟩) (clk + 1) (c ++ [.tup [x, y]]) ?_ f2.symm (.inl (by simp)) ⟨by simp [g3], fun i hi => ?_⟩
            · rw [hmv]
              simp only [Instr.mapUpdate, Sem.run_bind, run_underlying htu, Result.andThen_ok, MapKept.run_getObj_map hblk]
              rw [k1]
              simp only [Result.andThen_ok, hck, hfind, setb]
            · by_cases hi' : i < c.length
              · obtain ⟨k', v', e', e1, e2, e3, e4⟩ := g4 i hi'
                refine ⟨k', v', e', by rw [List.getElem_append_left hi']; exact e1, ?_, e3, e4⟩
                rw [Array.getElem?_push_lt (by omega)]
                rw [← e2, Array.getElem?_eq_getElem (by omega)]
              · have hie : i = c.length := by simp at hi; omega
                subst hie
                refine ⟨x, y, ⟨a.eval c2, a.eval c3, clk⟩, by simp, ?_, k0, y0⟩
                rw [← g3]; simp
          · rw [f1] at hfind
            have hj : j < es.size := by omega
            have hkey : ((es[j]?).map (·.key)).getD (a.eval c2) = kval kd kl := by
              have hjl : j < l.length := by omega
              have h1 := m2 j (by simpa using hj) (by simpa using hjl)
              simp only [List.getElem_map] at h1
              rw [Array.getElem?_eq_getElem hj]
              simp only [Option.map_some, Option.getD_some]
              have h2 : es.toList[j]'(by simpa using hj) = es[j] := by simp
              rw [h2] at h1
              rw [h1.1]
              rw [List.getElem?_eq_getElem hjl] at f3
              simp only [Option.map_some, Option.some.injEq] at f3
              rw [f3]
            refine fin (es.modify j fun e => { e with key := a.eval c2, val := a.eval c3 }) clk (c.set j (.tup [x, y])) ?_ f4.symm (.inr (by simp)) ⟨by simp [g3], fun i hi => ?_⟩
            · rw [hmv]
              simp only [Instr.mapUpdate, Sem.run_bind, run_underlying htu, Result.andThen_ok, MapKept.run_getObj_map hblk]
              rw [k1] at hkey ⊢
              simp only [Result.andThen_ok, hck, hfind, Nat.zero_add, hkey]
              rw [Sem.run_bind, run_stays]
              simp only [Result.andThen_ok, setb]
            · have hi' : i < c.length := by simpa using hi
              by_cases e1 : i = j
              · subst e1
                refine ⟨x, y, { es[i] with key := a.eval c2, val := a.eval c3 }, by simp, ?_, k0, y0⟩
                rw [Array.getElem?_eq_getElem (by simpa using hj)]
                simp [Array.getElem_modify]
              · obtain ⟨k', v', e', q1, q2, q3, q4⟩ := g4 i hi'
                refine ⟨k', v', e', by rw [List.getElem_set_ne (Ne.symm e1)]; exact q1, ?_, q3, q4⟩
                rw [Array.getElem?_modify, if_neg (Ne.symm e1)]
                exact q2
        · cases hst
      · cases hst
  · cases hst
end
end Go.Av

/-
  Calls; one operation of the compact code, whichever it is.
-/
namespace Go.Av
set_option linter.unusedSectionVars false
set_option linter.unusedSimpArgs false
set_option linter.unusedVariables false
variable [md : Md]
open Go.RowKit (Below)

/-- What is read of values and objects that the call made: all in new memory. -/
theorem frzN_new {ν : Nat → FuncId} {B : Nat} {X : Cx} (hO : Objs ν B X) {H : Hp} (hH : ∀ o c, H o = some c → X.H o = some c) : ∀ (k : Nat) (x y : AV) (v : Value), frzN H k x = some y → Rep ν X x v → RepP ν X.w (fun b => B ≤ b ∧ b < X.w.heap.size) y v := by
  intro k
  induction k with
  | zero =>
    intro x y v h hx
    cases x <;> simp [frzN] at h <;> subst h <;> first | (obtain ⟨b, rfl⟩ := hx.inv_nil; exact .sl0 _ _) | (rw [hx.inv_v]; exact .v _)
  | succ k ih =>
    intro x y v h hx
    have list : ∀ (c c' : List AV) (vs : Array Value), c.mapM (frzN H k) = some c' → (∀ i (h : i < c.length), Rep ν X c[i] (vs.getD i undef)) → c'.length = c.length ∧ ∀ i (h : i < c'.length), RepP ν X.w (fun b => B ≤ b ∧ b < X.w.heap.size) c'[i] (vs.getD i undef) := by
      intro c c' vs hm hr
      obtain ⟨h1, h2⟩ := mapM_some hm
      exact ⟨h1, fun i hi => ih _ _ _ (h2 i (by omega) hi) (hr i (by omega))⟩
    cases x with
    | v x => simp [frzN] at h; subst h; rw [hx.inv_v]; exact .v _
    | nil => simp [frzN] at h; subst h; obtain ⟨b, rfl⟩ := hx.inv_nil; exact .sl0 _ _
    | sl c n => simp [frzN] at h
    | ptr c n => simp [frzN] at h
    | fn id c => simp [frzN] at h
    | mm o => simp [frzN] at h
    | ms o off n sz =>
      simp only [frzN] at h
      cases hc : H o with
      | none => simp [hc] at h
      | some c =>
        simp only [hc] at h
        split at h
        · rename_i he
          cases hm : c.mapM (frzN H k) with
          | none => rw [hm] at h; cases h
          | some c' =>
            rw [hm] at h; cases h
            obtain ⟨h1, h2, h3, h4⟩ := hx.inv_ms
            obtain ⟨cap, r, e, f, hp, hn, hblk, _⟩ := h4 c (hH _ _ hc) he
            obtain ⟨_, hB, r', e', hr', hl', hrep⟩ := hO.row (hH _ _ hc) ⟨r, e, f, hblk⟩
            obtain ⟨h5, h6⟩ := list c c' r' hm hrep
            subst hp
            refine .sl (fun i => r'.getD (off + i) undef) ⟨hB, (Array.getElem?_eq_some_iff.1 hr').1⟩ hn (fun i hi => ?_) (fun i hi => ?_)
            · have : off + i < r'.size := by simp at hi; omega
              rw [cell_of_row _ _ _ _ _ _ hr']
              simp [this]
            · have := h6 (off + i) (by simp at hi; omega)
              simpa using this
        · cases h
    | mp o off l =>
      simp only [frzN] at h
      cases hc : H o with
      | none => simp [hc] at h
      | some c =>
        simp only [hc] at h
        split at h
        · rename_i he
          cases hm : c.mapM (frzN H k) with
          | none => rw [hm] at h; cases h
          | some c' =>
            rw [hm] at h; cases h
            obtain ⟨h1, h2, h3, h4⟩ := hx.inv_mp
            obtain ⟨hp, hrow⟩ := h4 c (hH _ _ hc) he
            obtain ⟨_, hB, r', e', hr', hl', hrep⟩ := hO.row (hH _ _ hc) hrow
            obtain ⟨h5, h6⟩ := list c c' r' hm hrep
            subst hp
            have := RepP.ptr (ν := ν) (w := X.w) (S := fun b => B ≤ b ∧ b < X.w.heap.size) (cells := c') (off := off) (b := X.β o) (base := 0) (fun i => r'.getD i undef) ⟨hB, (Array.getElem?_eq_some_iff.1 hr').1⟩ (fun i hi => by
              have : i < r'.size := by omega
              rw [Nat.zero_add, cell_of_row _ _ _ _ _ _ hr']
              simp [this]) h6
            rwa [Nat.zero_add] at this
        · cases h
    | agg c =>
      simp only [frzN] at h
      cases hm : c.mapM (frzN H k) with
      | none => rw [hm] at h; cases h
      | some c' =>
        rw [hm] at h; cases h
        obtain ⟨vs, rfl, hs, hr⟩ := hx.inv_agg
        obtain ⟨h1, h2⟩ := list c c' vs hm hr
        exact .agg vs (by omega) h2
    | tup c =>
      simp only [frzN] at h
      cases hm : c.mapM (frzN H k) with
      | none => rw [hm] at h; cases h
      | some c' =>
        rw [hm] at h; cases h
        obtain ⟨vs, rfl, hs, hr⟩ := hx.inv_tup
        obtain ⟨h1, h2⟩ := list c c' vs hm hr
        exact .tup vs (by omega) h2

/-- A clean value stands for the same in every context that has the same new objects. -/
theorem cln_rep {ν : Nat → FuncId} {X Y : Cx} {nx : Nat} (hw : Y.w = X.w) (hn : X.nx ≤ Y.nx) (hH : ∀ o, nx ≤ o → Y.H o = X.H o) (hβ : ∀ o, nx ≤ o → Y.β o = X.β o) : ∀ (k : Nat) (x : AV) (v : Value), cln nx k x = true → Rep ν X x v → Rep ν Y x v := by
  have base : ∀ (x : AV) (v : Value), cln nx 0 x = true → Rep ν X x v → Rep ν Y x v := by
    intro x v h hx
    cases x with
    | v x => rw [hx.inv_v]; exact .pure (.v _)
    | nil => obtain ⟨b, rfl⟩ := hx.inv_nil; exact .pure (.nil _)
    | ms o off n sz =>
      have ho : nx ≤ o := by simpa [cln] using h
      obtain ⟨h1, h2, h3, h4⟩ := hx.inv_ms
      exact .ms (by omega) h2 (by rw [hH o ho]; exact h3) (by rw [hH o ho, hβ o ho, hw]; exact h4)
    | mp o off l =>
      have ho : nx ≤ o := by simpa [cln] using h
      obtain ⟨h1, h2, h3, h4⟩ := hx.inv_mp
      exact .mp (by omega) h2 (by rw [hH o ho]; exact h3) (by rw [hH o ho, hβ o ho, hw]; exact h4)
    | _ => simp [cln] at h
  intro k
  induction k with
  | zero => exact base
  | succ k ih =>
    intro x v h hx
    cases x with
    | agg c =>
      simp only [cln, List.all_eq_true] at h
      obtain ⟨vs, rfl, hs, hr⟩ := hx.inv_agg
      exact .agg vs hs (fun i hi => ih _ _ (h _ (List.getElem_mem _)) (hr i hi))
    | tup c =>
      simp only [cln, List.all_eq_true] at h
      obtain ⟨vs, rfl, hs, hr⟩ := hx.inv_tup
      exact .tup vs hs (fun i hi => ih _ _ (h _ (List.getElem_mem _)) (hr i hi))
    | v x => exact base _ _ rfl hx
    | nil => exact base _ _ rfl hx
    | ms o off n sz => exact base _ _ (by simpa [cln] using h) hx
    | mp o off l => exact base _ _ (by simpa [cln] using h) hx
    | _ => simp [cln] at h

section
variable {ν : Nat → FuncId} {N : Nat} {w0 : World} {S : Nat → Prop} {X0 : Cx} {s : St} {a : Act} {w : World} {β : Nat → Nat} {P : Program} {o : Oper} {K : St → Prop}

theorem run_call {f : Operand} {args : Array Operand} {tys : Array TypeId} {id : Nat} {cvs : Array Value} (ho : o.op = .call { callee := .value f, args, argTypes := tys }) (hf : a.eval f = .func (.func (ν id)) #[] cvs) (hE : Enters P (ν id)) :
    (execOp a.eval o).run P w = .ok (.enter (ν id) (args.map a.eval ++ cvs)) w := by
  obtain ⟨fn, h1, h2, h3⟩ := hE
  have h4 : fn.body ≠ none := by intro hb; rw [hb] at h2; cases h2
  have h5 : fn.name ≠ "runtime.NumGoroutine" := by simpa using h3
  simp [execOp, ho, resolve, hf, Deferred.ofValue, invoke, callFunc, h1, h5, h4]

/-- The values that a call hands over stand for the frozen readings. -/
theorem call_args {T : Tr} (hν : ∀ f id, T.num f = some id → ν id = f) (h : Sim ν N w0 S X0 s a w β) {H : Hp} (hH : ∀ o c, H o = some c → s.heap o = some c) {f : Operand} {f' : Opd} {args : Array Operand} {xs : List Opd} (hf : T.opd f = some f') (hxs : T.opds args.toList = some xs)
    {fc : Nat × List AV} (hfc : fnOf (ev s.env f') = some fc) {ys : List AV} (hys : frzL H (xs.map (ev s.env) ++ fc.2) = some ys) :
    ∃ cvs, a.eval f = .func (.func (ν fc.1)) #[] cvs ∧ ArgsOk ν w ys (args.map a.eval ++ cvs) := by
  have hr := opd_sound (T := T) hν h.env hf
  unfold fnOf at hfc
  split at hfc
  · rename_i id caps hev
    cases hfc
    rw [hev] at hr
    obtain ⟨cvs, hc1, hc2, hc3⟩ := hr.inv_fn
    refine ⟨cvs, hc1, ?_⟩
    simp only at hys
    obtain ⟨h1, h2⟩ := mapM_some hys
    obtain ⟨h3, h4⟩ := mapM_some hxs
    have hlen : (args.map a.eval ++ cvs).size = ys.length := by simp only [Array.size_append, Array.size_map, h1, List.length_append, List.length_map, h3, hc2, Array.length_toList]
    refine ⟨hlen, fun i hi => ?_⟩
    have hi' : i < (xs.map (ev s.env) ++ caps).length := by omega
    have hfz := h2 i hi' hi
    refine frz_all (X := ⟨β, s.heap, s.next, w, S⟩) h.objs hH _ _ _ _ hfz ?_
    by_cases hlt : i < xs.length
    · rw [List.getElem_append_left (by simpa using hlt)]
      have hia : i < args.size := by simp at h3; omega
      have e1 : (args.map a.eval ++ cvs).getD i undef = a.eval args[i] := by
        rw [Array.getD_eq_getD_getElem?, Array.getElem?_append_left (by simpa using hia)]
        simp [hia]
      rw [e1]
      simp only [List.getElem_map]
      have := h4 i (by simpa using hia) hlt
      exact opd_sound (T := T) hν h.env (by simpa using this)
    · rw [List.getElem_append_right (by simpa using Nat.le_of_not_lt hlt)]
      have hsz : (args.map a.eval).size = xs.length := by simp at h3; simp; omega
      have hic : i - xs.length < caps.length := by simp at hi'; omega
      have e1 : (args.map a.eval ++ cvs).getD i undef = cvs.getD (i - xs.length) undef := by
        rw [Array.getD_eq_getD_getElem?, Array.getElem?_append_right (by omega), hsz]
        simp
      rw [e1]
      have := hc3 (i - xs.length) hic
      simpa using this
  · cases hfc


/-- A context without objects, in which all that lies in memory can be read. -/
theorem objs_frozen (ν : Nat → FuncId) (β : Nat → Nat) (nx : Nat) (w : World) : Objs ν w.heap.size ⟨β, hempty, nx, w, fun _ => True⟩ :=
  ⟨(fun o c hc => by cases hc), (fun o o' c c' hc => by cases hc), Nat.le_refl _, fun _ _ => trivial⟩

theorem args_frozen {ys : List AV} {vs : Array Value} (h : ArgsOk ν w ys vs) (β : Nat → Nat) (nx : Nat) : ∀ i (hi : i < ys.length), Rep ν ⟨β, hempty, nx, w, fun _ => True⟩ ys[i] (vs.getD i undef) :=
  fun i hi => .pure ((h.2 i hi).mono (fun b hb => ⟨⟨hb, trivial⟩, (fun o c hc => by cases hc)⟩) (fun _ _ => rfl))

theorem g_call {T : Tr} (hν : ∀ f id, T.num f = some id → ν id = f) (h : Sim ν N w0 S X0 s a w β) (hd : ∀ k, o.dst = some k → k < N) {H : Hp} (hH : ∀ o c, H o = some c → s.heap o = some c) {f : Operand} {f' : Opd} {args : Array Operand} {tys : Array TypeId} {xs : List Opd}
    (ho : o.op = .call { callee := .value f, args, argTypes := tys }) (hf : T.opd f = some f') (hxs : T.opds args.toList = some xs)
    {fc : Nat × List AV} (hfc : fnOf (ev s.env f') = some fc) {ys : List AV} (hys : frzL H (xs.map (ev s.env) ++ fc.2) = some ys) {r : AV} (hc : Fz (OkM P ν) fc.1 ys r) (hK : K (s.put o.dst r)) : Goes ν N w0 S X0 P o a w K := by
  obtain ⟨cvs, hev, hargs⟩ := call_args hν h hH hf hxs hfc hys
  have hrun := run_call (P := P) (w := w) ho hev hc.1
  intro Q
  unfold Oper.wpB
  rw [hrun]
  simp only [Oper.uponB]
  refine (hc.2 w (fun _ => True) β w _ (objs_frozen ν β 0 w) (Below.refl _ _) hargs.1 (args_frozen hargs β 0)).mono ?_
  rintro e w' ⟨v, r', H', nx', β', rfl, hfz, hrep, hobj, hext, hb⟩
  have hs := h.later hb
  have hr := frzN_new hobj (fun _ _ h => h) _ _ _ _ hfz hrep
  refine ⟨_, β, hK, hs.put (.pure (hr.mono (fun b hb' => ⟨⟨hb'.2, h.objs.new b (Nat.le_trans h.objs.le hb'.1)⟩, fun k c hk => ?_⟩) (fun _ _ => rfl))) hd⟩
  have := h.objs.lt k c hk
  simp only at this ⊢
  have h2 := hb'.1
  omega

/-- A call whose arguments hold no objects. -/
theorem g_calli {T : Tr} (hν : ∀ f id, T.num f = some id → ν id = f) (h : Sim ν N w0 S X0 s a w β) (hd : ∀ k, o.dst = some k → k < N) {f : Operand} {f' : Opd} {args : Array Operand} {tys : Array TypeId} {xs : List Opd}
    (ho : o.op = .call { callee := .value f, args, argTypes := tys }) (hf : T.opd f = some f') (hxs : T.opds args.toList = some xs)
    {fc : Nat × List AV} (hfc : fnOf (ev s.env f') = some fc) {ys : List AV} (hys : frzL hempty (xs.map (ev s.env) ++ fc.2) = some ys) {r : AV} (hc : Fi (OkM P ν) fc.1 ys r) (hK : K (s.put o.dst r)) : Goes ν N w0 S X0 P o a w K := by
  have hr := opd_sound (T := T) hν h.env hf
  unfold fnOf at hfc
  split at hfc
  · rename_i id caps hev
    cases hfc
    rw [hev] at hr
    obtain ⟨cvs, hc1, hc2, hc3⟩ := hr.inv_fn
    simp only at hys hc
    obtain ⟨h1, h2⟩ := mapM_some hys
    obtain ⟨h3, h4⟩ := mapM_some hxs
    have hlen : (args.map a.eval ++ cvs).size = ys.length := by simp only [Array.size_append, Array.size_map, h1, List.length_append, List.length_map, h3, hc2, Array.length_toList]
    have hargs : ∀ i (hi : i < ys.length), RepP ν w (Imm ⟨β, s.heap, s.next, w, S⟩) ys[i] ((args.map a.eval ++ cvs).getD i undef) := fun i hi => by
      have hi' : i < (xs.map (ev s.env) ++ caps).length := by omega
      have hfz := h2 i hi' hi
      refine frz_imm (X := ⟨β, s.heap, s.next, w, S⟩) _ _ _ _ hfz ?_
      by_cases hlt : i < xs.length
      · rw [List.getElem_append_left (by simpa using hlt)]
        have hia : i < args.size := by simp at h3; omega
        have e1 : (args.map a.eval ++ cvs).getD i undef = a.eval args[i] := by
          rw [Array.getD_eq_getD_getElem?, Array.getElem?_append_left (by simpa using hia)]
          simp [hia]
        rw [e1]
        simp only [List.getElem_map]
        have := h4 i (by simpa using hia) hlt
        exact opd_sound (T := T) hν h.env (by simpa using this)
      · rw [List.getElem_append_right (by simpa using Nat.le_of_not_lt hlt)]
        have hsz : (args.map a.eval).size = xs.length := by simp at h3; simp; omega
        have hic : i - xs.length < caps.length := by simp at hi'; omega
        have e1 : (args.map a.eval ++ cvs).getD i undef = cvs.getD (i - xs.length) undef := by
          rw [Array.getD_eq_getD_getElem?, Array.getElem?_append_right (by omega), hsz]
          simp
        rw [e1]
        have := hc3 (i - xs.length) hic
        simpa using this
    have hrun := run_call (P := P) (w := w) ho hc1 hc.1
    intro Q
    unfold Oper.wpB
    rw [hrun]
    simp only [Oper.uponB]
    refine (hc.2 w (fun b => Imm ⟨β, s.heap, s.next, w, S⟩ b ∨ w.heap.size ≤ b) β w _ ⟨(fun o c hc => by cases hc), (fun o o' c c' hc => by cases hc), Nat.le_refl _, fun b hb => .inr hb⟩ (Below.refl _ _) hlen
      (fun i hi => .pure ((hargs i hi).mono (fun b hb => ⟨⟨hb.1.1, .inl hb⟩, (fun o c hc => by cases hc)⟩) (fun _ _ => rfl)))).mono ?_
    rintro e w' ⟨v, r', H', nx', β', rfl, hfz, hrep, hobj, hext, hb⟩
    have hs := h.later hb
    have hr := frz_allS hobj (fun _ _ h => h) _ _ _ _ hfz hrep
    refine ⟨_, β, hK, hs.put (.pure (hr.mono (fun b hb' => ?_) (fun _ _ => rfl))) hd⟩
    rcases hb'.2 with h5 | h5
    · exact ⟨⟨hb'.1, h5.1.2⟩, h5.2⟩
    · refine ⟨⟨hb'.1, h.objs.new b (Nat.le_trans h.objs.le h5)⟩, fun k c hk => ?_⟩
      have := h.objs.lt k c hk
      simp only at this ⊢
      omega
  · cases hfc

/-- The values that a call over the same objects hands over. -/
theorem call_args_m {T : Tr} (hν : ∀ f id, T.num f = some id → ν id = f) (h : Sim ν N w0 S X0 s a w β) {f : Operand} {f' : Opd} {args : Array Operand} {xs : List Opd} (hf : T.opd f = some f') (hxs : T.opds args.toList = some xs)
    {fc : Nat × List AV} (hfc : fnOf (ev s.env f') = some fc) :
    ∃ cvs, a.eval f = .func (.func (ν fc.1)) #[] cvs ∧ (args.map a.eval ++ cvs).size = (xs.map (ev s.env) ++ fc.2).length ∧ ∀ i (hi : i < (xs.map (ev s.env) ++ fc.2).length), Rep ν ⟨β, s.heap, s.next, w, S⟩ (xs.map (ev s.env) ++ fc.2)[i] ((args.map a.eval ++ cvs).getD i undef) := by
  have hr := opd_sound (T := T) hν h.env hf
  unfold fnOf at hfc
  split at hfc
  · rename_i id caps hev
    cases hfc
    rw [hev] at hr
    obtain ⟨cvs, hc1, hc2, hc3⟩ := hr.inv_fn
    refine ⟨cvs, hc1, ?_⟩
    obtain ⟨h3, h4⟩ := mapM_some hxs
    have hlen : (args.map a.eval ++ cvs).size = (xs.map (ev s.env) ++ caps).length := by simp only [Array.size_append, Array.size_map, List.length_append, List.length_map, h3, hc2, Array.length_toList]
    refine ⟨hlen, fun i hi' => ?_⟩
    simp only at hi' ⊢
    by_cases hlt : i < xs.length
    · rw [List.getElem_append_left (by simpa using hlt)]
      have hia : i < args.size := by simp at h3; omega
      have e1 : (args.map a.eval ++ cvs).getD i undef = a.eval args[i] := by
        rw [Array.getD_eq_getD_getElem?, Array.getElem?_append_left (by simpa using hia)]
        simp [hia]
      rw [e1]
      simp only [List.getElem_map]
      have := h4 i (by simpa using hia) hlt
      exact opd_sound (T := T) hν h.env (by simpa using this)
    · rw [List.getElem_append_right (by simpa using Nat.le_of_not_lt hlt)]
      have hsz : (args.map a.eval).size = xs.length := by simp at h3; simp; omega
      have hic : i - xs.length < caps.length := by simp at hi'; omega
      have e1 : (args.map a.eval ++ cvs).getD i undef = cvs.getD (i - xs.length) undef := by
        rw [Array.getD_eq_getD_getElem?, Array.getElem?_append_right (by omega), hsz]
        simp
      rw [e1]
      have := hc3 (i - xs.length) hic
      simpa using this
  · cases hfc

theorem g_callm {T : Tr} (hν : ∀ f id, T.num f = some id → ν id = f) (h : Sim ν N w0 S X0 s a w β) (hd : ∀ k, o.dst = some k → k < N) {f : Operand} {f' : Opd} {args : Array Operand} {tys : Array TypeId} {xs : List Opd}
    (ho : o.op = .call { callee := .value f, args, argTypes := tys }) (hf : T.opd f = some f') (hxs : T.opds args.toList = some xs)
    {fc : Nat × List AV} (hfc : fnOf (ev s.env f') = some fc) {Φ : AV → Hp → Nat → Prop} (hc : OkM P ν fc.1 (xs.map (ev s.env) ++ fc.2) s.heap s.next Φ) (hK : ∀ r H' nx', Φ r H' nx' → K ((⟨s.env, H', nx'⟩ : St).put o.dst r)) : Goes ν N w0 S X0 P o a w K := by
  obtain ⟨cvs, hev, hsz, hargs⟩ := call_args_m hν h hf hxs hfc
  have hrun := run_call (P := P) (w := w) ho hev hc.1
  intro Q
  unfold Oper.wpB
  rw [hrun]
  simp only [Oper.uponB]
  refine (hc.2 w0 S β w _ h.objs h.below hsz hargs).mono ?_
  rintro e w' ⟨v, r', H', nx', β', rfl, hΦ, hrep, hobj, hext, hb⟩
  have hs : Sim ν N w0 S X0 ⟨s.env, H', nx'⟩ a w' β' := ⟨fun t => (h.env t).mono hext, h.size, h.defers, hobj, hb, h.ext.trans hext⟩
  exact ⟨_, β', hK _ _ _ hΦ, hs.put hrep hd⟩

theorem g_callo {T : Tr} (hν : ∀ f id, T.num f = some id → ν id = f) (h : Sim ν N w0 S X0 s a w β) (hd : ∀ k, o.dst = some k → k < N) {f : Operand} {f' : Opd} {args : Array Operand} {tys : Array TypeId} {xs : List Opd}
    (ho : o.op = .call { callee := .value f, args, argTypes := tys }) (hf : T.opd f = some f') (hxs : T.opds args.toList = some xs)
    {fc : Nat × List AV} (hfc : fnOf (ev s.env f') = some fc) {ys : List AV} (hys : frzL s.heap (xs.map (ev s.env) ++ fc.2) = some ys) {Φ : AV → Hp → Nat → Prop} (hc : OkM P ν fc.1 ys hempty s.next Φ)
    (hK : ∀ r H' nx', Φ r H' nx' → cln s.next fuel r = true ∧ clnH s.next H' ∧ K ((⟨s.env, hmerge s.next s.heap H', nx'⟩ : St).put o.dst r)) : Goes ν N w0 S X0 P o a w K := by
  obtain ⟨cvs, hev, hargs⟩ := call_args hν h (fun _ _ h => h) hf hxs hfc hys
  have hrun := run_call (P := P) (w := w) ho hev hc.1
  intro Q
  unfold Oper.wpB
  rw [hrun]
  simp only [Oper.uponB]
  refine (hc.2 w (fun _ => True) β w _ (objs_frozen ν β s.next w) (Below.refl _ _) hargs.1 (args_frozen hargs β s.next)).mono ?_
  rintro e w' ⟨v, r', H', nx', β', rfl, hΦ, hrep, hobj, hext, hb⟩
  obtain ⟨hcl, hclH, hK'⟩ := hK _ _ _ hΦ
  have hnx : s.next ≤ nx' := hext.nx
  have hlive : ∀ k c, s.heap k = some c → k < s.next ∧ β k < w.heap.size := fun k c hk => ⟨(h.objs.obj k c hk).1, h.objs.lt k c hk⟩
  have hnew : ∀ k c, H' k = some c → s.next ≤ k := fun k c hk => by
    rcases Nat.lt_or_ge k s.next with hlt | hge
    · obtain ⟨c0, hc0, _⟩ := hext.obj k c hlt hk
      cases hc0
    · exact hge
  have hYH : ∀ o', s.next ≤ o' → hmerge s.next s.heap H' o' = H' o' := fun o' ho' => by simp only [hmerge]; rw [if_neg (by omega)]
  have hYL : ∀ o', o' < s.next → hmerge s.next s.heap H' o' = s.heap o' := fun o' ho' => by simp only [hmerge]; rw [if_pos ho']
  have tr : ∀ (k : Nat) (x : AV) (v : Value), cln s.next k x = true → Rep ν ⟨β', H', nx', w', fun _ => True⟩ x v → Rep ν ⟨fun k => if k < s.next then β k else β' k, hmerge s.next s.heap H', nx', w', S⟩ x v :=
    cln_rep (X := ⟨β', H', nx', w', fun _ => True⟩) (Y := ⟨fun k => if k < s.next then β k else β' k, hmerge s.next s.heap H', nx', w', S⟩) rfl (Nat.le_refl _) hYH (fun o' ho' => by simp only; rw [if_neg (by omega)])
  have hx : Ext ⟨β, s.heap, s.next, w, S⟩ ⟨fun k => if k < s.next then β k else β' k, hmerge s.next s.heap H', nx', w', S⟩ := by
    refine ⟨hnx, fun b' hb' => ⟨⟨Nat.lt_of_lt_of_le hb'.1.1 hb.size, hb'.1.2⟩, fun k c' hk => ?_⟩, fun b' hb' => hb.block b' hb'.1.1, fun k c' hk hc' => ?_, fun k c' hk hc' es q hm => ?_⟩
    · simp only at hk ⊢
      by_cases e1 : k < s.next
      · rw [hYL k e1] at hk
        rw [if_pos e1]
        exact hb'.2 k c' hk
      · rw [hYH k (by omega)] at hk
        rw [if_neg e1]
        have h1 := (hobj.obj k c' hk).2.1
        have h2 := hb'.1.1
        simp only at h1 h2
        omega
    · simp only at hk hc'
      rw [hYL k hk] at hc'
      exact ⟨c', hc', .inr ⟨rfl, by simp only [if_pos hk], fun r' e' f' hr' => ⟨r', e', f', by show w'.heap[β k]? = _; rw [hb.block _ (hlive k c' hc').2]; exact hr', rfl⟩⟩⟩
    · simp only at hk hc'
      rw [hYL k hk] at hc'
      exact ⟨by simp only [if_pos hk], es, q, by show w'.heap[β k]? = _; rw [hb.block _ (hlive k c' hc').2]; exact hm⟩
  have hsim : Sim ν N w0 S X0 ⟨s.env, hmerge s.next s.heap H', nx'⟩ a w' (fun k => if k < s.next then β k else β' k) := by
    refine ⟨fun t => (h.env t).mono hx, h.size, h.defers, ⟨fun k c' hk => ?_, fun k k' c1 c2 hk hk' he => ?_, Nat.le_trans h.objs.le hb.size, h.objs.new⟩, h.below.trans (hb.mono h.le), h.ext.trans hx⟩
    · simp only at hk ⊢
      by_cases e1 : k < s.next
      · rw [hYL k e1] at hk
        obtain ⟨h1, h2, ob2, hr2, hrep2⟩ := h.objs.obj k c' hk
        simp only at h1 h2 hr2
        exact ⟨by omega, by rw [if_pos e1]; exact h2, ob2, by rw [if_pos e1, hb.block _ (hlive k c' hk).2]; exact hr2, hrep2.mono hx⟩
      · rw [hYH k (by omega)] at hk
        obtain ⟨h1, h2, ob2, hr2, hrep2⟩ := hobj.obj k c' hk
        simp only at h1 h2 hr2
        refine ⟨h1, by rw [if_neg e1]; exact Nat.le_trans h.le h2, ob2, by rw [if_neg e1]; exact hr2, ?_⟩
        cases ob2 with
        | cells r2 e2 f2 => exact ⟨hrep2.1, hrep2.2.1, fun i hi => tr 0 _ _ (List.all_eq_true.1 (hclH k c' hk) _ (List.getElem_mem _)) (hrep2.2.2 i hi)⟩
        | map es q => exact hrep2
        | _ => exact hrep2
    · simp only at hk hk' he
      by_cases e1 : k < s.next
      · rw [hYL k e1] at hk
        have g1 := (hlive k c1 hk).2
        by_cases e2 : k' < s.next
        · rw [hYL k' e2] at hk'
          rw [if_pos e1, if_pos e2] at he
          exact h.objs.inj k k' c1 c2 hk hk' he
        · rw [hYH k' (by omega)] at hk'
          rw [if_pos e1, if_neg e2] at he
          have := (hobj.obj k' c2 hk').2.1
          simp only at this
          omega
      · rw [hYH k (by omega)] at hk
        have g1 := (hobj.obj k c1 hk).2.1
        simp only at g1
        by_cases e2 : k' < s.next
        · rw [hYL k' e2] at hk'
          rw [if_neg e1, if_pos e2] at he
          have := (hlive k' c2 hk').2
          omega
        · rw [hYH k' (by omega)] at hk'
          rw [if_neg e1, if_neg e2] at he
          exact hobj.inj k k' c1 c2 hk hk' he
  exact ⟨_, _, hK', hsim.put (tr _ _ _ hcl hrep) hd⟩
end
end Go.Av

/-
  Operations with more than one outcome, and calls after which no object is known any more.
-/
namespace Go.Av
set_option linter.unusedSectionVars false
set_option linter.unusedSimpArgs false
set_option linter.unusedVariables false
variable [md : Md]
open Go.RowKit (Below)

section
variable {ν : Nat → FuncId} {N : Nat} {w0 : World} {S : Nat → Prop} {X0 : Cx} {s : St} {a : Act} {w : World} {β : Nat → Nat} {P : Program} {o : Oper} {K : St → Prop}

/-- All objects forgotten. -/
theorem Sim.forget (h : Sim ν N w0 S X0 s a w β) : Sim ν N w0 S X0 ⟨s.env, hempty, s.next⟩ a w β := by
  have hx : Ext ⟨β, s.heap, s.next, w, S⟩ ⟨β, hempty, s.next, w, S⟩ :=
    ⟨Nat.le_refl _, fun b hb => ⟨hb.1, fun o c hc => by cases hc⟩, fun _ _ => rfl, (fun o c' _ hc' => by cases hc'), (fun o c' _ hc' => by cases hc')⟩
  exact ⟨fun t => (h.env t).mono hx, h.size, h.defers, ⟨(fun o c hc => by cases hc), (fun o o' c c' hc => by cases hc), h.objs.le, h.objs.new⟩, h.below, h.ext.trans hx⟩

theorem g_callz {T : Tr} (hν : ∀ f id, T.num f = some id → ν id = f) (h : Sim ν N w0 S X0 s a w β) (hd : ∀ k, o.dst = some k → k < N) {f : Operand} {f' : Opd} {args : Array Operand} {tys : Array TypeId} {xs : List Opd}
    (ho : o.op = .call { callee := .value f, args, argTypes := tys }) (hf : T.opd f = some f') (hxs : T.opds args.toList = some xs)
    {fc : Nat × List AV} (hfc : fnOf (ev s.env f') = some fc) {ys : List AV} (hys : frzL s.heap (xs.map (ev s.env) ++ fc.2) = some ys) {r : AV} (hc : Fi (OkM P ν) fc.1 ys r)
    (hK : K ((⟨s.env, hempty, s.next⟩ : St).put o.dst r)) : Goes ν N w0 S X0 P o a w K := by
  obtain ⟨cvs, hev, hsz, hargs⟩ := call_args_m hν h hf hxs hfc
  have hrun := run_call (P := P) (w := w) ho hev hc.1
  obtain ⟨h1, h2⟩ := mapM_some hys
  have hargs' : ∀ i (hi : i < ys.length), RepP ν w (fun b => b < w.heap.size ∧ S b) ys[i] ((args.map a.eval ++ cvs).getD i undef) := fun i hi =>
    frz_allS (X := ⟨β, s.heap, s.next, w, S⟩) h.objs (fun _ _ h => h) _ _ _ _ (h2 i (by omega) hi) (hargs i (by omega))
  intro Q
  unfold Oper.wpB
  rw [hrun]
  simp only [Oper.uponB]
  have hz := h.forget
  refine (hc.2 w S β w _ ⟨(fun o c hc => by cases hc), (fun o o' c c' hc => by cases hc), Nat.le_refl _, fun b hb => h.objs.new b (Nat.le_trans h.objs.le hb)⟩ (Below.refl _ _) (by omega)
    (fun i hi => .pure ((hargs' i hi).mono (fun b hb => ⟨hb, (fun o c hc => by cases hc)⟩) (fun _ _ => rfl)))).mono ?_
  rintro e w' ⟨v, r', H', nx', β', rfl, hfz, hrep, hobj, hext, hb⟩
  have hr := frz_allS hobj (fun _ _ h => h) _ _ _ _ hfz hrep
  exact ⟨_, β, hK, (hz.later hb).put (.pure (hr.mono (fun b hb' => ⟨hb', (fun o c hc => by cases hc)⟩) (fun _ _ => rfl))) hd⟩

theorem run_room_at {P : Program} (w : World) (t ty e e' : TypeId) (i : TypeInfo) (ht : P.underlying t = some (.slice e)) (hi : P.info? e = some i)
    (g off sLen sCap : Nat) (cur : Array Value) (hg : w.heap[g]? = some (.cells cur e' (0, 0)))
    (a : Addr) (m c : Nat) (news : List Value) (hl : news.length = m * i.size) (hnews : ∀ j u, news[j]? = some u → w.cell? (a.add j) = some u) (h1 : ∀ u ∈ news, u.oneCell' = true)
    (hroom : sLen + m ≤ sCap) (hfit : off + sLen * i.size + news.length ≤ cur.size) :
    (Builtin.append_ #[t, t] ty #[.slice (some ⟨g, off, none⟩) sLen sCap, .slice (some a) m c]).run P w =
      .ok (.slice (some ⟨g, off, none⟩) (sLen + m) sCap) (w.setRow g (cur.toList.take (off + sLen * i.size) ++ news ++ cur.toList.drop (off + sLen * i.size + news.length)).toArray) := by
  have hf := run_firstCells_some (P := P) w i.size m a m c news hl hnews
  have hst := run_storeCells_at (P := P) g (off + sLen * i.size) e' news 0 cur w hg (by simpa using hfit) h1
  simp only [Nat.add_zero] at hst
  simp [Builtin.append_, run_underlying ht, Go.sizeOf, typeInfo, hi, Builtin.lenOf, hroom, hf, Addr.add_lit, hst]

theorem g_slm {t e : TypeId} {T : Tr} (hP : T.P = P) {sz : Nat} {x y : AV} {c1 c2 : Operand} (ho : o.op = .slice t c1 (some c2) none none) (he : T.elem t = some e) (hs : T.sizeOf e = some sz)
    (hx : Rep ν ⟨β, s.heap, s.next, w, S⟩ x (a.eval c1)) (hy : Rep ν ⟨β, s.heap, s.next, w, S⟩ y (a.eval c2)) (h : Sim ν N w0 S X0 s a w β) (hd : ∀ k, o.dst = some k → k < N)
    {l : List (AV × Hp × Nat)} (hl : altTo s (.slm sz) [x, y] = some l) (hK : ∀ q ∈ l, K (({ s with heap := q.2.1, next := q.2.2 } : St).put o.dst q.1)) : Goes ν N w0 S X0 P o a w K := by
  subst hP
  obtain ⟨i, hi', hsz⟩ := size_spec hs
  have hu := elem_spec he
  unfold altTo at hl
  split at hl
  · rename_i heq1 heq2; cases heq1
  · rename_i ob off n sz' k j heq1 heq2
    cases heq1
    cases heq2
    split at hl
    · rename_i hs'
      subst hs'
      cases hh : s.heap ob with
      | none => simp [hh] at hl
      | some cells =>
        simp only [hh] at hl
        split at hl
        · rename_i hc
          obtain ⟨hfull, h0, hle⟩ := hc
          cases hl
          obtain ⟨j', rfl⟩ := Int.eq_ofNat_of_zero_le h0
          have hle' : j' ≤ n := by omega
          obtain ⟨hv1, hv2, hv3, hv⟩ := hx.inv_ms
          obtain ⟨cap, r, e', f, hp, hn, hblk, hcapr⟩ := hv cells hh hfull
          simp only at hp hblk hv1
          have hyv := hy.inv_v
          have hrun : (execOp a.eval o).run T.P w = .ok (.value (.slice (if cap = j' then some ⟨β ob, off, none⟩ else some ⟨β ob, off + j' * sz', none⟩) (n - j') (cap - j'))) w := by
            have B : ∀ code, (Instr.sliceBound (a.eval c2) n code).run T.P w = .ok j' w := by
              intro code
              rw [hyv]
              exact run_bound (by omega) (by omega)
            by_cases hcap : cap = j'
            · simp [execOp, ho, Instr.sliceAt, run_underlying hu, Instr.slice, hp, Instr.sliceBounds, run_size hi', hsz, B, hcap]
            · simp [execOp, ho, Instr.sliceAt, run_underlying hu, Instr.slice, hp, Instr.sliceBounds, run_size hi', hsz, B, hcap, Addr.add_lit]
          have hsame : ({ s with heap := s.heap, next := s.next } : St) = s := rfl
          by_cases hcap : cap = j'
          · have hnj : j' = n := by omega
            rw [if_pos hcap] at hrun
            refine Goes.value hrun (hK (.nil, s.heap, s.next) ?_) (h.put ?_ hd)
            · simp [hnj]
            · rw [show n - j' = 0 by omega, show cap - j' = 0 by omega]; exact .pure (.nil _)
          · rw [if_neg hcap] at hrun
            refine Goes.value hrun (hK _ (List.mem_cons_self ..)) (h.put ?_ hd)
            have e1 : off + j' * sz' + (n - j') * sz' = off + n * sz' := by
              rw [Nat.add_assoc, ← Nat.add_mul]; congr 2; omega
            have e2 : off + j' * sz' + (cap - j') * sz' = off + cap * sz' := by
              rw [Nat.add_assoc, ← Nat.add_mul]; congr 2; omega
            refine .ms hv1 rfl (fun c hc => ?_) (fun c hc hcl => ?_)
            · have := hv3 c hc; simp only [Int.toNat_natCast]; omega
            · refine ⟨cap - j', r, e', f, by simp, by simp only [Int.toNat_natCast]; omega, hblk, by simp only [Int.toNat_natCast]; omega⟩
        · cases hl
    · cases hl
  · cases hl

theorem g_apd {t e : TypeId} {T : Tr} (hP : T.P = P) {i : TypeInfo} {z : List AV} {x y : AV} {c1 c2 : Operand} (ho : o.op = .call { callee := .builtin .append, args := #[c1, c2], argTypes := #[t, t] })
    (he : T.elem t = some e) (hi : T.P.info? e = some i) (hz : T.zero e = some z) (hsz : 0 < i.size) (hzl : z.length = i.size) (hby : i.bytes ≤ 128)
    (hx : Rep ν ⟨β, s.heap, s.next, w, S⟩ x (a.eval c1)) (hy : Rep ν ⟨β, s.heap, s.next, w, S⟩ y (a.eval c2)) (h : Sim ν N w0 S X0 s a w β) (hd : ∀ k, o.dst = some k → k < N)
    {l : List (AV × Hp × Nat)} (hl : altTo s (.app i.size) [x, y] = some l) (hK : ∀ q ∈ l, K (({ s with heap := q.2.1, next := q.2.2 } : St).put o.dst q.1)) : Goes ν N w0 S X0 P o a w K := by
  subst hP
  unfold altTo at hl
  simp only at hl
  cases hcm : appCells s.heap i.size y with
  | none => simp [hcm] at hl
  | some cm =>
  simp only [hcm] at hl
  split at hl
  case isFalse => cases hl
  rename_i hc
  obtain ⟨h1, hm⟩ := hc
  split at hl
  · -- onto an empty slice
    split at hl
    · rename_i hmax
      cases hl
      refine g_app rfl ho he hi hz hsz hzl hby hx hy h hd hcm h1 (r := (.ms s.next 0 cm.2 i.size, hput s.heap s.next (some cm.1), s.next + 1)) ?_ (hK _ (List.mem_cons_self ..))
      simp only [appTo, if_neg (show ¬ cm.2 = 0 by omega), if_pos hmax]
    · cases hl
  · rename_i ob off n sz'
    split at hl
    case isFalse => cases hl
    rename_i hs'
    subst hs'
    cases hh : s.heap ob with
    | none => simp [hh] at hl
    | some cells =>
    simp only [hh] at hl
    split at hl
    case isFalse => cases hl
    rename_i hfull
    obtain ⟨hfull, hmax⟩ := hfull
    cases hl
    have K1 := hK _ (List.mem_cons_self ..)
    have K2 := hK _ (List.mem_cons_of_mem _ (List.mem_cons_self ..))
    clear hK
    obtain ⟨i', zv, za, hi', hz', hza, hzc, hzl', hz1⟩ := zero_spec hz
    rw [hi] at hi'
    cases hi'
    have hu := elem_spec he
    have hzs : zv.cells.size = i.size := by
      have hzr : Rep ν ⟨β, s.heap, s.next, w, S⟩ za zv := .pure (avOf_rep hza)
      have := (hzr.cells (by rw [hzc]; exact hz1)).1
      rw [hzc] at this
      omega
    have toRun : ∀ v w', (Builtin.append_ #[t, t] o.type #[a.eval c1, a.eval c2]).run T.P w = .ok v w' → (execOp a.eval o).run T.P w = .ok (.value v) w' := by
      intro v w' hr
      simp only [execOp, ho, resolve, invoke, builtin, Sem.run_bind, Sem.run_pure, Result.andThen_ok, List.map_toArray, List.map_cons, List.map_nil, hr]
    have small : ∀ m : Nat, m ≤ appMax → m * i.bytes ≤ 140737488355328 ∧ (m : Int) ≤ 9223372036854775807 := by
      intro m hm
      unfold appMax at hm
      have : m * i.bytes ≤ 1099511627776 * 128 := Nat.mul_le_mul hm hby
      omega
    obtain ⟨hb1, hb2⟩ := small (n + cm.2) hmax
    rcases app_src h hy hcm h1 hsz with ⟨ad, c, hq, hce⟩ | ⟨ad, c, news, hq, hnl, hcl, hnews, hone, hrep⟩
    · rw [hce] at hm; exact absurd hm (Nat.lt_irrefl _)
    obtain ⟨hv1, hv2, hv3, hv⟩ := hx.inv_ms
    obtain ⟨cap, r, e', f, hp, hn, hblk, hcapr⟩ := hv cells hh hfull
    have hrow : ∃ r e f, w.heap[β ob]? = some (.cells r e f) := ⟨r, e', f, hblk⟩
    obtain ⟨g1, g2, r', e2, hr', hl', hrep'⟩ := h.objs.row hh hrow
    simp only at hp hblk g1 g2 hr' hv1
    have hinj := hr'.symm.trans hblk
    simp only [Option.some.injEq, Obj.cells.injEq] at hinj
    obtain ⟨rfl, rfl, rfl⟩ := hinj
    by_cases hroom : n + cm.2 ≤ cap
    · -- in place
      have hfit : off + n * i.size + news.length ≤ r'.size := by
        have : (n + cm.2) * i.size ≤ cap * i.size := Nat.mul_le_mul_right _ hroom
        rw [Nat.add_mul] at this
        omega
      have hr := run_room_at (P := T.P) w t o.type e e2 i hu hi (β ob) off n cap r' hr' ad cm.2 c news hnl hnews hone hroom hfit
      have hw' := setRow_heap w (β ob) _ (r'.toList.take (off + n * i.size) ++ news ++ r'.toList.drop (off + n * i.size + news.length)).toArray _ _ hr'
      obtain ⟨hs, hxx⟩ := h.turn (o := ob) (c := cells) (c' := cells ++ cm.1) hh hrow hw' (by simp; omega) (.inl rfl) (fun k hk _ => setRow_other _ _ _ _ hk) ⟨rfl, rfl, rfl, by simp [World.setRow]⟩
        (.inl (by have : 0 < cm.2 * i.size := Nat.mul_pos hm hsz; simp; omega)) (fun X' hX' _ j hj => by
        by_cases hj1 : j < cells.length
        · rw [List.getElem_append_left hj1]
          have : (r'.toList.take (off + n * i.size) ++ news ++ r'.toList.drop (off + n * i.size + news.length)).toArray.getD j undef = r'.getD j undef := by
            simp only [Array.getD_eq_getD_getElem?, List.getElem?_toArray]
            rw [List.append_assoc, List.getElem?_append_left (by simp; omega)]
            simp [show j < off + n * i.size from by omega]
          rw [this]
          exact (hrep' j hj1).mono hX'
        · have hj2 : j - cells.length < cm.1.length := by simp at hj; omega
          rw [List.getElem_append_right (by omega)]
          have : (r'.toList.take (off + n * i.size) ++ news ++ r'.toList.drop (off + n * i.size + news.length)).toArray.getD j undef = news.getD (j - cells.length) undef := by
            simp only [Array.getD_eq_getD_getElem?, List.getElem?_toArray]
            rw [List.append_assoc, List.getElem?_append_right (by simp; omega), List.getElem?_append_left (by simp; omega)]
            simp only [List.length_take, Array.length_toList]
            rw [Nat.min_eq_left (by omega), show j - (off + n * i.size) = j - cells.length from by omega]
            simp [List.getD]
          rw [this]
          exact (hrep _ hj2).mono hX')
      refine Goes.value (toRun _ _ (by rw [hp, hq]; exact hr)) K1 (hs.put ?_ hd)
      refine .ms hv1 rfl (fun c' hc' => ?_) (fun c' hc' _ => ⟨cap, _, e2, (0, 0), by simp, hroom, by simp only [if_true]; exact hw', by simp; omega⟩)
      simp only [hput, if_true, Option.some.injEq] at hc'
      subst hc'
      simp only [List.length_append, Nat.add_mul]
      omega
    · -- in a new block
      have hr := run_append_grow (P := T.P) w t o.type e i zv hu hi hz' ⟨β ob, off, none⟩ n cap ((r'.toList.drop off).take (n * i.size)) (by simp; omega) (fun j v hv => by
        rw [addr_add, cell_of_row _ _ _ _ _ _ hr']
        rw [List.getElem?_take] at hv
        split at hv
        · simpa using hv
        · cases hv) ad cm.2 c news hnl hnews (by omega) (by omega) (growslice_fits (by omega) (by omega))
      have hge := grownCap_ge w (n + cm.2) cap e
      have hdrew : Sim ν N w0 S X0 s a w.drew β := h.later ⟨rfl, rfl, rfl, Nat.le_refl _, fun _ _ => rfl⟩
      generalize hgc : grownCap w (n + cm.2) cap e = gc at hr hge
      have hsize : (n + cm.2) * i.size ≤ gc * i.size := Nat.mul_le_mul_right _ hge
      have hsz2 := Nat.add_mul n cm.2 i.size
      have hrs : (((r'.toList.drop off).take (n * i.size)).toArray ++ news.toArray ++ Builtin.zeroCells zv.cells (gc - (n + cm.2))).size = gc * i.size := by
        rw [Array.size_append, Array.size_append, size_zeroCells, hzs, List.size_toArray, List.size_toArray, hnl]
        simp only [List.length_take, List.length_drop, Array.length_toList]
        rw [Nat.min_eq_left (by omega), ← Nat.add_mul, ← Nat.add_mul]
        congr 1; omega
      obtain ⟨hs, hxx⟩ := hdrew.newObj (cells.drop off ++ cm.1) _ e (by rw [hrs]; simp; omega) (fun j hj => by
        by_cases hj1 : j < (cells.drop off).length
        · rw [List.getElem_append_left hj1]
          have hj1' : off + j < cells.length := by simp at hj1; omega
          have : (((r'.toList.drop off).take (n * i.size)).toArray ++ news.toArray ++ Builtin.zeroCells zv.cells (gc - (n + cm.2))).getD j undef = r'.getD (off + j) undef := by
            simp only [Array.getD_eq_getD_getElem?]
            rw [Array.append_assoc, Array.getElem?_append_left (by simp; omega)]
            simp [show j < n * i.size from by omega]
          rw [this]
          have := (hrep' (off + j) hj1').mono (Ext.drew _ w.drew rfl)
          simpa using this
        · have hdl : (cells.drop off).length = n * i.size := by simp; omega
          have hj2 : j - (cells.drop off).length < cm.1.length := by simp at hj; simp; omega
          rw [List.getElem_append_right (by omega)]
          have : (((r'.toList.drop off).take (n * i.size)).toArray ++ news.toArray ++ Builtin.zeroCells zv.cells (gc - (n + cm.2))).getD j undef = news.getD (j - (cells.drop off).length) undef := by
            simp only [Array.getD_eq_getD_getElem?]
            rw [Array.append_assoc, Array.getElem?_append_right (by simp; omega), Array.getElem?_append_left (by simp; omega)]
            simp only [List.size_toArray, List.length_take, List.length_drop, Array.length_toList]
            rw [Nat.min_eq_left (by omega), show j - n * i.size = j - (cells.length - off) from by omega]
            simp [List.getD]
          rw [this]
          exact (hrep _ hj2).mono (Ext.drew _ w.drew rfl))
      refine Goes.value (toRun _ _ (by rw [hp, hq]; exact hr)) K2 (hs.put ?_ hd)
      refine .ms (Nat.lt_succ_self _) rfl (fun c' hc' => ?_) (fun c' hc' _ => ⟨gc, _, e, (0, 0), by simp, hge, by simp only [if_true]; exact heap_alloc_new w.drew _, by rw [hrs]; omega⟩)
      simp only [hput, if_true, Option.some.injEq] at hc'
      subst hc'
      simp only [List.length_append, List.length_drop]
      omega
  · cases hl
end
end Go.Av

/-
  One operation of the compact code, whichever it is.
-/
namespace Go.Av
set_option linter.unusedSectionVars false
set_option linter.unusedSimpArgs false
set_option linter.unusedVariables false
variable [md : Md]
open Go.RowKit (Below)

section
variable {ν : Nat → FuncId} {N : Nat} {w0 : World} {S : Nat → Prop} {X0 : Cx} {s : St} {a : Act} {w : World} {β : Nat → Nat} {o : Oper} {K : St → Prop}

theorem pure_step {T : Tr} (hν : ∀ f id, T.num f = some id → ν id = f) (h : Sim ν N w0 S X0 s a w β) (hd : ∀ k, o.dst = some k → k < N) {q : PO × List Opd} (hq : T.pure o.op = some q) {g : Option (Nat × Bool)} {hf : Bool}
    (hs : stepK (OkM T.P ν) ⟨o.dst, g, .p q.1 q.2, hf⟩ s K) : Goes ν N w0 S X0 T.P o a w K := by
  simp only [stepK] at hs
  obtain ⟨u, hu, hK⟩ := hs
  refine g_pure h hd (pure_sound hν h.env h.objs (H := if hf = true then s.heap else hempty) ?_ hq hu) hK
  intro o c hc
  cases hf
  · simp [hempty] at hc
  · simpa using hc

theorem kind_sound {T : Tr} (hν : ∀ f id, T.num f = some id → ν id = f) (h : Sim ν N w0 S X0 s a w β) (hd : ∀ k, o.dst = some k → k < N) {k : AK} (hk : T.kind o = some k) {g : Option (Nat × Bool)} {hf : Bool}
    (hs : stepK (OkM T.P ν) ⟨o.dst, g, k, hf⟩ s K) : Goes ν N w0 S X0 T.P o a w K := by
  have R : ∀ {x : Operand} {x' : Opd}, T.opd x = some x' → Rep ν ⟨β, s.heap, s.next, w, S⟩ (ev s.env x') (a.eval x) := fun h' => opd_sound hν h.env h'
  have RL : ∀ {l : List Operand} {xs : List Opd}, T.opds l = some xs → (xs.map (ev s.env)).length = l.length ∧ ∀ i (h : i < (xs.map (ev s.env)).length) (h' : i < l.length), Rep ν ⟨β, s.heap, s.next, w, S⟩ (xs.map (ev s.env))[i] (a.eval l[i]) := by
    intro l xs hl
    obtain ⟨h1, h2⟩ := mapM_some hl
    refine ⟨by simpa using h1, fun i hi hi' => ?_⟩
    simp only [List.getElem_map]
    exact R (h2 i hi' (by simpa using hi))
  have pureCase : (T.pure o.op).map (fun p => AK.p p.1 p.2) = some k → Goes ν N w0 S X0 T.P o a w K := by
    intro hp
    obtain ⟨q, hq, rfl⟩ := map_some hp
    exact pure_step hν h hd hq hs
  unfold Tr.kind at hk
  split at hk
  · rename_i f args tys ho
    obtain ⟨f', hf', hk⟩ := bind_some hk
    obtain ⟨xs, hxs, hk⟩ := bind_some hk
    split at hk
    · cases hk
      simp only [stepK] at hs
      obtain ⟨fc, hfc, ⟨ys, hys, r, hr, hK⟩ | ⟨ys, hys, r, hr, hK⟩⟩ := hs
      · refine g_call hν h hd (H := if hf = true then s.heap else hempty) ?_ ho hf' hxs hfc hys hr hK
        intro o c hc
        cases hf
        · simp [hempty] at hc
        · simpa using hc
      · exact g_calli hν h hd ho hf' hxs hfc hys hr hK
    · cases hk
      simp only [stepK] at hs
      obtain ⟨_, fc, hfc, Φ, hC, _, hK⟩ := hs
      exact g_callm hν h hd ho hf' hxs hfc hC hK
    · cases hk
      simp only [stepK] at hs
      obtain ⟨_, fc, hfc, ys, hys, Φ, hC, _, hK⟩ := hs
      exact g_callo hν h hd ho hf' hxs hfc hys hC hK
    · cases hk
      simp only [stepK] at hs
      obtain ⟨_, fc, hfc, ys, hys, r, hC, hK⟩ := hs
      exact g_callz hν h hd ho hf' hxs hfc hys hC hK
    · cases hk
  · rename_i args tys ho
    split at hk
    · rename_i x y t t' hargs htys
      split at hk
      · rename_i htt
        subst htt
        obtain ⟨e, he, hk⟩ := bind_some hk
        split at hk
        · rename_i i z hi hz
          split at hk
          · rename_i hc
            obtain ⟨hc1, hc2, hc3⟩ := hc
            obtain ⟨x', hx', hk⟩ := bind_some hk
            obtain ⟨y', hy', hk⟩ := map_some hk
            have ha : args = #[x, y] := by rw [← Array.toList_inj]; exact hargs
            have ht : tys = #[t, t] := by rw [← Array.toList_inj]; exact htys
            subst ha; subst ht
            split at hk
            · subst hk
              simp only [stepK] at hs
              obtain ⟨_, l, hl, _, hK⟩ := hs
              exact g_apd rfl ho he hi hz hc1 hc2 hc3 (R hx') (R hy') h hd hl hK
            · subst hk
              simp only [stepK] at hs
              obtain ⟨_, cm, hcm, h1, r, hr, hK⟩ := hs
              exact g_app rfl ho he hi hz hc1 hc2 hc3 (R hx') (R hy') h hd hcm h1 hr hK
          · cases hk
        · cases hk
      · cases hk
    · cases hk
  · rename_i t x lo ho
    split at hk
    · obtain ⟨e, he, hk⟩ := bind_some hk
      obtain ⟨sz, hsz, hk⟩ := bind_some hk
      split at hk
      · obtain ⟨x', hx', hk⟩ := bind_some hk
        obtain ⟨l', hl', hk⟩ := map_some hk
        subst hk
        simp only [stepK] at hs
        obtain ⟨_, l, hl, _, hK⟩ := hs
        exact g_slm rfl ho he hsz (R hx') (R hl') h hd hl hK
      · cases hk
    · exact pureCase hk
  · rename_i t x y ho
    obtain ⟨n, hn, hk⟩ := bind_some hk
    obtain ⟨x', hx', hk⟩ := bind_some hk
    obtain ⟨y', hy', hk⟩ := map_some hk
    subst hk
    simp only [stepK] at hs
    obtain ⟨_, hp, hst, hK⟩ := hs
    exact g_st rfl ho hn (R hx') (R hy') h hd hst hK
  · rename_i t ho
    obtain ⟨z, hz, hk⟩ := map_some hk
    subst hk
    simp only [stepK] at hs
    exact g_new rfl ho hz h hd hs.2
  · rename_i t x ho
    split at hk
    · obtain ⟨n, hn, hk⟩ := bind_some hk
      obtain ⟨x', hx', hk⟩ := map_some hk
      subst hk
      simp only [stepK] at hs
      exact g_boxm ho (R hx') hs.2.1 h hd hs.2.2
    · exact pureCase hk
  · rename_i t l c ho
    obtain ⟨e, he, hk⟩ := bind_some hk
    split at hk
    · rename_i i z hi hz
      split at hk
      · rename_i hc
        obtain ⟨x', hx', hk⟩ := bind_some hk
        obtain ⟨y', hy', hk⟩ := map_some hk
        subst hk
        simp only [stepK] at hs
        obtain ⟨_, r, hr, hK⟩ := hs
        exact g_mks rfl ho he hi hz hc.1 hc.2 (R hx') (R hy') h hd hr hK
      · cases hk
    · cases hk
  · rename_i t len parts ho
    split at hk
    · obtain ⟨e, he, hk⟩ := bind_some hk
      obtain ⟨sz, hsz, hk⟩ := bind_some hk
      obtain ⟨z, hz, hk⟩ := bind_some hk
      split at hk
      · rename_i hc
        obtain ⟨xs, hx, hk⟩ := map_some hk
        subst hk
        simp only [stepK] at hs
        obtain ⟨_, r, hr, hK⟩ := hs
        obtain ⟨h1, h2⟩ := RL hx
        exact g_mslm rfl ho he hsz hz hc.1 hc.2.1 (by simpa using h1) (fun i hi hi' => by
          have := h2 i hi (by simpa using hi')
          simpa using this) h hd hr hK
      · cases hk
    · exact pureCase hk
  · rename_i t ho
    obtain ⟨ke, hke, hk⟩ := bind_some hk
    obtain ⟨kd, hkd, rfl⟩ := map_some hk
    simp only [stepK] at hs
    exact g_mkm ho h hd hs.2
  · rename_i t m x y ho
    obtain ⟨ke, hke, hk⟩ := bind_some hk
    obtain ⟨kd, hkd, hk⟩ := bind_some hk
    obtain ⟨m', hm', hk⟩ := bind_some hk
    obtain ⟨x', hx', hk⟩ := bind_some hk
    obtain ⟨y', hy', rfl⟩ := map_some hk
    simp only [stepK] at hs
    obtain ⟨_, hp, hst, hK⟩ := hs
    exact g_mset (k := ke.1) (e := ke.2) rfl ho hke hkd (R hm') (R hx') (R hy') h hd hst hK
  · exact pureCase hk
end
end Go.Av

/-
  Regions: operations in the text's order, and in whatever order their edges allow.
-/
namespace Go.Av
set_option linter.unusedSectionVars false
set_option linter.unusedSimpArgs false
set_option linter.unusedVariables false
variable [md : Md]
open Go.RowKit (Below)

section abs
variable {C : Ct} {o : Aop} {s : St} {K K' : St → Prop}

theorem OptK.mono {α : Type} {x : Option α} {K K' : α → Prop} (h : ∀ a, K a → K' a) (hh : OptK x K) : OptK x K' := by
  obtain ⟨u, hu, hk⟩ := hh
  exact ⟨u, hu, h u hk⟩

theorem stepK_mono (h : ∀ s, K s → K' s) (hh : stepK C o s K) : stepK C o s K' := by
  unfold stepK at *
  cases hk : o.k <;> simp only [hk] at hh ⊢
  case p op xs => exact hh.mono fun _ hu => h _ hu
  case call f xs => exact hh.mono fun _ hu => hu.imp (fun hu => hu.mono fun _ ⟨r, h1, h2⟩ => ⟨r, h1, h _ h2⟩) (fun hu => hu.mono fun _ ⟨r, h1, h2⟩ => ⟨r, h1, h _ h2⟩)
  case callm f xs => exact ⟨hh.1, hh.2.mono fun _ ⟨Φ, h1, h2, h3⟩ => ⟨Φ, h1, h2, fun r H' nx' hr => h _ (h3 r H' nx' hr)⟩⟩
  case callo f xs => exact ⟨hh.1, hh.2.mono fun _ hu => hu.mono fun _ ⟨Φ, h1, h2, h3⟩ => ⟨Φ, h1, h2, fun r H' nx' hr => ⟨(h3 r H' nx' hr).1, (h3 r H' nx' hr).2.1, h _ (h3 r H' nx' hr).2.2⟩⟩⟩
  case callz f xs => exact ⟨hh.1, hh.2.mono fun _ hu => hu.mono fun _ ⟨r, h1, h2⟩ => ⟨r, h1, h _ h2⟩⟩
  case alt op xs => exact ⟨hh.1, hh.2.mono fun _ hu => ⟨hu.1, fun q hq => h _ (hu.2 q hq)⟩⟩
  case app sz x y => exact ⟨hh.1, hh.2.mono fun _ hu => ⟨hu.1, hu.2.mono fun _ hv => h _ hv⟩⟩
  case st n a v => exact ⟨hh.1, hh.2.mono fun _ hu => h _ hu⟩
  case new z => exact ⟨hh.1, h _ hh.2⟩
  case boxm x => exact ⟨hh.1, hh.2.1, h _ hh.2.2⟩
  case mks z n c => exact ⟨hh.1, hh.2.mono fun _ hu => h _ hu⟩
  case mslm sz n z ps xs => exact ⟨hh.1, hh.2.mono fun _ hu => h _ hu⟩
  case mkm => exact ⟨hh.1, h _ hh.2⟩
  case mset kd m k v => exact ⟨hh.1, hh.2.mono fun _ hu => h _ hu⟩

theorem opK_mono (h : ∀ s, K s → K' s) (hh : opK C o s K) : opK C o s K' := by
  unfold opK at *
  cases hg : o.g with
  | none => simp only [hg] at hh ⊢; exact stepK_mono h hh
  | some gw =>
    obtain ⟨g, want⟩ := gw
    simp only [hg] at hh ⊢
    split at hh
    · rename_i b hb
      exact ⟨fun e => stepK_mono h (hh.1 e), fun e => h _ (hh.2 e)⟩
    · exact h _ hh
    · exact hh.elim

/-- What an operation that writes no object yields. -/
def Vv (C : Ct) (o : Aop) (s : St) (u : AV) : Prop :=
  let H := if o.h then s.heap else hempty
  match o.k with
  | .p op xs => pvf H op (xs.map (ev s.env)) = some u
  | .call f xs => OptK (fnOf (ev s.env f)) fun fc => (OptK (frzL H (xs.map (ev s.env) ++ fc.2)) fun ys => Fz C fc.1 ys u) ∨ OptK (frzL hempty (xs.map (ev s.env) ++ fc.2)) fun ys => Fi C fc.1 ys u
  | _ => False
def gst (e : Nat → AV) : Option (Nat × Bool) → Option Bool
  | none => some true
  | some (g, want) => (match e g with
    | .v (.bool b) => some (b == want)
    | .v _ => some false
    | _ => none)
theorem gst_congr {e e' : Nat → AV} {g : Option (Nat × Bool)} (h : ∀ t b, g = some (t, b) → e t = e' t) : gst e g = gst e' g := by
  cases g with
  | none => rfl
  | some gw => obtain ⟨t, b⟩ := gw; simp only [gst]; rw [h t b rfl]
theorem opK_gst : opK C o s K ↔ (match gst s.env o.g with | some true => stepK C o s K | some false => K (s.put o.dst (.v undef)) | none => False) := by
  unfold opK gst
  cases hg : o.g with
  | none => simp
  | some gw =>
    obtain ⟨g, want⟩ := gw
    simp only
    cases he : s.env g with
    | v x =>
      cases x with
      | bool b => cases b <;> cases want <;> simp
      | _ => simp
    | _ => simp
def Gv (C : Ct) (o : Aop) (s : St) (u : AV) : Prop :=
  (gst s.env o.g = some true ∧ Vv C o s u) ∨ (gst s.env o.g = some false ∧ u = .v undef)

/-- What one that writes leaves. -/
def Ve (C : Ct) (o : Aop) (s : St) (Ψ : AV → Hp → Nat → Prop) : Prop :=
  match o.k with
  | .callm f xs => o.h = true ∧ OptK (fnOf (ev s.env f)) fun fc => C fc.1 (xs.map (ev s.env) ++ fc.2) s.heap s.next Ψ ∧ ∃ r H' nx', Ψ r H' nx'
  | .callo f xs => o.h = true ∧ OptK (fnOf (ev s.env f)) fun fc => OptK (frzL s.heap (xs.map (ev s.env) ++ fc.2)) fun ys => ∃ Φ : AV → Hp → Nat → Prop, C fc.1 ys hempty s.next Φ ∧ (∃ r H' nx', Φ r H' nx') ∧
      (∀ r H' nx', Φ r H' nx' → cln s.next fuel r = true ∧ clnH s.next H') ∧ Ψ = fun r H nx' => ∃ H', Φ r H' nx' ∧ H = hmerge s.next s.heap H'
  | .callz f xs => o.h = true ∧ OptK (fnOf (ev s.env f)) fun fc => OptK (frzL s.heap (xs.map (ev s.env) ++ fc.2)) fun ys => ∃ r, Fi C fc.1 ys r ∧ Ψ = fun u h n => u = r ∧ h = hempty ∧ n = s.next
  | .alt op xs => o.h = true ∧ OptK (altTo s op (xs.map (ev s.env))) fun l => l ≠ [] ∧ Ψ = fun u h n => (u, h, n) ∈ l
  | .app sz x y => o.h = true ∧ OptK (appCells s.heap sz (ev s.env y)) fun cm => cm.1.all AV.one ∧ OptK (appTo s sz (ev s.env x) cm.1 cm.2) fun r => Ψ = fun u h n => u = r.1 ∧ h = r.2.1 ∧ n = r.2.2
  | .st n a v => o.h = true ∧ OptK (stTo s n (ev s.env a) (ev s.env v)) fun h => Ψ = fun u h' n => u = .v undef ∧ h' = h ∧ n = s.next
  | .new zero => o.h = true ∧ Ψ = fun u h n => u = .mp s.next 0 zero.length ∧ h = hput s.heap s.next (some zero) ∧ n = s.next + 1
  | .boxm x => o.h = true ∧ (ev s.env x).cells.all AV.one ∧ Ψ = fun u h n => u = .mp s.next 0 (ev s.env x).cells.length ∧ h = hput s.heap s.next (some (ev s.env x).cells) ∧ n = s.next + 1
  | .mks zero n c => o.h = true ∧ OptK (mkTo s zero (ev s.env n) (ev s.env c)) fun r => Ψ = fun u h n => u = r.1 ∧ h = r.2.1 ∧ n = r.2.2
  | .mslm sz n z ps xs => o.h = true ∧ OptK (mslTo s sz n z ps (xs.map (ev s.env))) fun r => Ψ = fun u h n => u = r.1 ∧ h = r.2.1 ∧ n = r.2.2
  | .mkm => o.h = true ∧ Ψ = fun u h n => u = .mm s.next ∧ h = hput s.heap s.next (some []) ∧ n = s.next + 1
  | .mset kd m k v => o.h = true ∧ OptK (msetTo s.heap kd (ev s.env m) (ev s.env k) (ev s.env v)) fun h => Ψ = fun u h' n => u = .v undef ∧ h' = h ∧ n = s.next
  | _ => False
def Ge (C : Ct) (o : Aop) (s : St) (Ψ : AV → Hp → Nat → Prop) : Prop :=
  (gst s.env o.g = some true ∧ Ve C o s Ψ) ∨ (gst s.env o.g = some false ∧ Ψ = fun u h n => u = .v undef ∧ h = s.heap ∧ n = s.next)

theorem stepK_v (he : Tr.eff o.k = false) : stepK C o s K ↔ ∃ u, Vv C o s u ∧ K (s.put o.dst u) := by
  unfold stepK Vv
  cases hk : o.k <;> simp [hk, Tr.eff] at he ⊢
  case p op xs => exact ⟨fun ⟨u, hu, h⟩ => ⟨u, hu, h⟩, fun ⟨u, hu, h⟩ => ⟨u, hu, h⟩⟩
  case call f xs =>
    constructor
    · rintro ⟨fc, h1, ⟨ys, h2, r, h3, h4⟩ | ⟨ys, h2, r, h3, h4⟩⟩
      · exact ⟨r, ⟨fc, h1, .inl ⟨ys, h2, h3⟩⟩, h4⟩
      · exact ⟨r, ⟨fc, h1, .inr ⟨ys, h2, h3⟩⟩, h4⟩
    · rintro ⟨r, ⟨fc, h1, ⟨ys, h2, h3⟩ | ⟨ys, h2, h3⟩⟩, h4⟩
      · exact ⟨fc, h1, .inl ⟨ys, h2, r, h3, h4⟩⟩
      · exact ⟨fc, h1, .inr ⟨ys, h2, r, h3, h4⟩⟩

theorem opK_v (he : Tr.eff o.k = false) : opK C o s K ↔ ∃ u, Gv C o s u ∧ K (s.put o.dst u) := by
  rw [opK_gst]
  unfold Gv
  cases hg : gst s.env o.g with
  | none => simp
  | some b =>
    cases b
    · simp
    · simp only [stepK_v he, true_and, Option.some.injEq, Bool.true_eq_false, false_and, or_false]

theorem stepK_e (he : Tr.eff o.k = true) : stepK C o s K ↔ ∃ Ψ : AV → Hp → Nat → Prop, Ve C o s Ψ ∧ (∃ u h n, Ψ u h n) ∧ ∀ u h n, Ψ u h n → K ((⟨s.env, h, n⟩ : St).put o.dst u) := by
  unfold stepK Ve
  cases hk : o.k <;> simp only [hk, Tr.eff, Bool.false_eq_true] at he ⊢
  case callm f xs =>
    constructor
    · rintro ⟨h0, fc, h1, Φ, h2, h3, h4⟩; exact ⟨Φ, ⟨h0, fc, h1, h2, h3⟩, h3, h4⟩
    · rintro ⟨Φ, ⟨h0, fc, h1, h2, h3⟩, _, h4⟩; exact ⟨h0, fc, h1, Φ, h2, h3, h4⟩
  case callo f xs =>
    constructor
    · rintro ⟨h0, fc, h1, ys, h2, Φ, h3, ⟨r, H', nx', h4⟩, h5⟩
      refine ⟨_, ⟨h0, fc, h1, ys, h2, Φ, h3, ⟨r, H', nx', h4⟩, fun r H' nx' h => ⟨(h5 r H' nx' h).1, (h5 r H' nx' h).2.1⟩, rfl⟩, ⟨r, _, nx', H', h4, rfl⟩, ?_⟩
      rintro u h n ⟨H', h6, rfl⟩
      exact (h5 _ _ _ h6).2.2
    · rintro ⟨Ψ, ⟨h0, fc, h1, ys, h2, Φ, h3, h4, h5, rfl⟩, _, h6⟩
      exact ⟨h0, fc, h1, ys, h2, Φ, h3, h4, fun r H' nx' h => ⟨(h5 r H' nx' h).1, (h5 r H' nx' h).2, h6 _ _ _ ⟨H', h, rfl⟩⟩⟩
  case callz f xs =>
    constructor
    · rintro ⟨h0, fc, h1, ys, h2, r, h3, h4⟩
      exact ⟨_, ⟨h0, fc, h1, ys, h2, r, h3, rfl⟩, ⟨_, _, _, rfl, rfl, rfl⟩, fun u h n ⟨e1, e2, e3⟩ => by subst e1; subst e2; subst e3; exact h4⟩
    · rintro ⟨Ψ, ⟨h0, fc, h1, ys, h2, r, h3, rfl⟩, _, h4⟩
      exact ⟨h0, fc, h1, ys, h2, r, h3, h4 _ _ _ ⟨rfl, rfl, rfl⟩⟩
  case alt op xs =>
    constructor
    · rintro ⟨h0, l, h1, h2, h3⟩
      refine ⟨_, ⟨h0, l, h1, h2, rfl⟩, ?_, fun u h n hu => h3 (u, h, n) hu⟩
      cases l with
      | nil => exact absurd rfl h2
      | cons q l => exact ⟨q.1, q.2.1, q.2.2, List.mem_cons_self ..⟩
    · rintro ⟨Ψ, ⟨h0, l, h1, h2, rfl⟩, _, h4⟩
      exact ⟨h0, l, h1, h2, fun q hq => h4 _ _ _ hq⟩
  case app sz x y =>
    constructor
    · rintro ⟨h0, cm, h1, h2, r, h3, h4⟩
      exact ⟨_, ⟨h0, cm, h1, h2, r, h3, rfl⟩, ⟨_, _, _, rfl, rfl, rfl⟩, fun u h n ⟨e1, e2, e3⟩ => by subst e1; subst e2; subst e3; exact h4⟩
    · rintro ⟨Ψ, ⟨h0, cm, h1, h2, r, h3, rfl⟩, _, h4⟩
      exact ⟨h0, cm, h1, h2, r, h3, h4 _ _ _ ⟨rfl, rfl, rfl⟩⟩
  case st n a v =>
    constructor
    · rintro ⟨h0, hp, h1, h2⟩
      exact ⟨_, ⟨h0, hp, h1, rfl⟩, ⟨_, _, _, rfl, rfl, rfl⟩, fun u h n ⟨e1, e2, e3⟩ => by subst e1; subst e2; subst e3; exact h2⟩
    · rintro ⟨Ψ, ⟨h0, hp, h1, rfl⟩, _, h4⟩
      exact ⟨h0, hp, h1, h4 _ _ _ ⟨rfl, rfl, rfl⟩⟩
  case new z =>
    constructor
    · rintro ⟨h0, h2⟩
      exact ⟨_, ⟨h0, rfl⟩, ⟨_, _, _, rfl, rfl, rfl⟩, fun u h n ⟨e1, e2, e3⟩ => by subst e1; subst e2; subst e3; exact h2⟩
    · rintro ⟨Ψ, ⟨h0, rfl⟩, _, h4⟩
      exact ⟨h0, h4 _ _ _ ⟨rfl, rfl, rfl⟩⟩
  case boxm x =>
    constructor
    · rintro ⟨h0, h1, h2⟩
      exact ⟨_, ⟨h0, h1, rfl⟩, ⟨_, _, _, rfl, rfl, rfl⟩, fun u h n ⟨e1, e2, e3⟩ => by subst e1; subst e2; subst e3; exact h2⟩
    · rintro ⟨Ψ, ⟨h0, h1, rfl⟩, _, h4⟩
      exact ⟨h0, h1, h4 _ _ _ ⟨rfl, rfl, rfl⟩⟩
  case mks z n c =>
    constructor
    · rintro ⟨h0, r, h1, h2⟩
      exact ⟨_, ⟨h0, r, h1, rfl⟩, ⟨_, _, _, rfl, rfl, rfl⟩, fun u h n ⟨e1, e2, e3⟩ => by subst e1; subst e2; subst e3; exact h2⟩
    · rintro ⟨Ψ, ⟨h0, r, h1, rfl⟩, _, h4⟩
      exact ⟨h0, r, h1, h4 _ _ _ ⟨rfl, rfl, rfl⟩⟩
  case mslm sz m z ps xs =>
    constructor
    · rintro ⟨h0, r, h1, h2⟩
      exact ⟨_, ⟨h0, r, h1, rfl⟩, ⟨_, _, _, rfl, rfl, rfl⟩, fun u h n ⟨e1, e2, e3⟩ => by subst e1; subst e2; subst e3; exact h2⟩
    · rintro ⟨Ψ, ⟨h0, r, h1, rfl⟩, _, h4⟩
      exact ⟨h0, r, h1, h4 _ _ _ ⟨rfl, rfl, rfl⟩⟩
  case mkm =>
    constructor
    · rintro ⟨h0, h2⟩
      exact ⟨_, ⟨h0, rfl⟩, ⟨_, _, _, rfl, rfl, rfl⟩, fun u h n ⟨e1, e2, e3⟩ => by subst e1; subst e2; subst e3; exact h2⟩
    · rintro ⟨Ψ, ⟨h0, rfl⟩, _, h4⟩
      exact ⟨h0, h4 _ _ _ ⟨rfl, rfl, rfl⟩⟩
  case mset kd m k v =>
    constructor
    · rintro ⟨h0, hp, h1, h2⟩
      exact ⟨_, ⟨h0, hp, h1, rfl⟩, ⟨_, _, _, rfl, rfl, rfl⟩, fun u h n ⟨e1, e2, e3⟩ => by subst e1; subst e2; subst e3; exact h2⟩
    · rintro ⟨Ψ, ⟨h0, hp, h1, rfl⟩, _, h4⟩
      exact ⟨h0, hp, h1, h4 _ _ _ ⟨rfl, rfl, rfl⟩⟩

theorem opK_e (he : Tr.eff o.k = true) : opK C o s K ↔ ∃ Ψ : AV → Hp → Nat → Prop, Ge C o s Ψ ∧ (∃ u h n, Ψ u h n) ∧ ∀ u h n, Ψ u h n → K ((⟨s.env, h, n⟩ : St).put o.dst u) := by
  have one : ∀ (Ψ : AV → Hp → Nat → Prop), (Ψ = fun u h n => u = .v undef ∧ h = s.heap ∧ n = s.next) → (K (s.put o.dst (.v undef)) ↔ (∃ u h n, Ψ u h n) ∧ ∀ u h n, Ψ u h n → K ((⟨s.env, h, n⟩ : St).put o.dst u)) := by
    rintro Ψ rfl
    constructor
    · intro h; exact ⟨⟨_, _, _, rfl, rfl, rfl⟩, fun u h' n ⟨e1, e2, e3⟩ => by subst e1; subst e2; subst e3; exact h⟩
    · intro h; exact h.2 _ _ _ ⟨rfl, rfl, rfl⟩
  rw [opK_gst]
  unfold Ge
  cases hg : gst s.env o.g with
  | none => simp
  | some b =>
    cases b
    · simp only [true_and, Option.some.injEq, Bool.false_eq_true, false_and, false_or]
      exact ⟨fun h => ⟨_, rfl, (one _ rfl).1 h⟩, fun ⟨_, e, h⟩ => (one _ e).2 h⟩
    · simp only [stepK_e he, true_and, Option.some.injEq, Bool.true_eq_false, false_and, or_false]

theorem ev_congr {e e' : Nat → AV} {x : Opd} (h : ∀ t ∈ Tr.tm x, e t = e' t) : ev e x = ev e' x := by
  cases x with
  | t n => exact h n (by simp [Tr.tm])
  | _ => rfl
theorem evs_congr {e e' : Nat → AV} {xs : List Opd} (h : ∀ t ∈ xs.flatMap Tr.tm, e t = e' t) : xs.map (ev e) = xs.map (ev e') :=
  List.map_congr_left fun x hx => ev_congr fun t ht => h t (List.mem_flatMap.2 ⟨x, hx, ht⟩)

theorem Vv_congr {s' : St} {u : AV} (he : ∀ t ∈ Tr.rdK o.k, s.env t = s'.env t) (hh : o.h = false ∨ s.heap = s'.heap) (h : Vv C o s u) : Vv C o s' u := by
  have hH : (if o.h = true then s.heap else hempty) = (if o.h = true then s'.heap else hempty) := by
    rcases hh with e | e <;> simp [e]
  unfold Vv at *
  cases hk : o.k <;> simp only [hk, Tr.rdK] at h he ⊢
  case p op xs => rw [← evs_congr he, ← hH]; exact h
  case call f xs =>
    rw [← evs_congr (fun t ht => he t (List.mem_append_right _ ht)), ← ev_congr (fun t ht => he t (List.mem_append_left _ ht)), ← hH]
    exact h

theorem gst_rd {s' : St} (he : ∀ t ∈ Tr.rd o, s.env t = s'.env t) : gst s.env o.g = gst s'.env o.g := gst_congr fun t b hg => he t (by simp [Tr.rd, hg])
theorem Gv_congr {s' : St} {u : AV} (he : ∀ t ∈ Tr.rd o, s.env t = s'.env t) (hh : o.h = false ∨ s.heap = s'.heap) (h : Gv C o s u) : Gv C o s' u := by
  unfold Gv at *
  have he1 : ∀ t ∈ Tr.rdK o.k, s.env t = s'.env t := fun t ht => he t (List.mem_append_left _ ht)
  rw [← gst_rd he]
  rcases h with ⟨e, h⟩ | h
  · exact .inl ⟨e, Vv_congr he1 hh h⟩
  · exact .inr h

theorem Ve_congr {s' : St} {Ψ : AV → Hp → Nat → Prop} (he : ∀ t ∈ Tr.rdK o.k, s.env t = s'.env t) (hh : s.heap = s'.heap) (hn : s.next = s'.next) (h : Ve C o s Ψ) : Ve C o s' Ψ := by
  unfold Ve at *
  cases hk : o.k <;> simp only [hk, Tr.rdK] at h he ⊢
  case callm f xs =>
    rw [← evs_congr (fun t ht => he t (List.mem_append_right _ ht)), ← ev_congr (fun t ht => he t (List.mem_append_left _ ht)), ← hh, ← hn]
    exact h
  case callo f xs =>
    rw [← evs_congr (fun t ht => he t (List.mem_append_right _ ht)), ← ev_congr (fun t ht => he t (List.mem_append_left _ ht)), ← hh, ← hn]
    exact h
  case callz f xs =>
    rw [← evs_congr (fun t ht => he t (List.mem_append_right _ ht)), ← ev_congr (fun t ht => he t (List.mem_append_left _ ht)), ← hh, ← hn]
    exact h
  case alt op xs =>
    have e : altTo s op (xs.map (ev s.env)) = altTo s' op (xs.map (ev s'.env)) := by
      rw [← evs_congr he]
      simp only [altTo, hh, hn]
    rw [← e]
    exact h
  case app sz x y =>
    rw [← ev_congr (x := x) (fun t ht => he t (List.mem_append_left _ ht)), ← ev_congr (x := y) (fun t ht => he t (List.mem_append_right _ ht)), ← hh]
    unfold appTo at *
    rw [← hh, ← hn]
    exact h
  case st n a v =>
    rw [← ev_congr (x := a) (fun t ht => he t (List.mem_append_left _ ht)), ← ev_congr (x := v) (fun t ht => he t (List.mem_append_right _ ht))]
    unfold stTo at *
    rw [← hh, ← hn]
    exact h
  case new z => rw [← hh, ← hn]; exact h
  case boxm x => rw [← ev_congr (x := x) he, ← hh, ← hn]; exact h
  case mks z n c =>
    rw [← ev_congr (x := n) (fun t ht => he t (List.mem_append_left _ ht)), ← ev_congr (x := c) (fun t ht => he t (List.mem_append_right _ ht))]
    unfold mkTo at *
    rw [← hh, ← hn]
    exact h
  case mslm sz n z ps xs =>
    rw [← evs_congr he]
    unfold mslTo at *
    rw [← hh, ← hn]
    exact h
  case mkm => rw [← hh, ← hn]; exact h
  case mset kd m k v =>
    rw [← ev_congr (x := m) (fun t ht => he t (List.mem_append_left _ ht)), ← ev_congr (x := k) (fun t ht => he t (List.mem_append_right _ (List.mem_append_left _ ht))), ← ev_congr (x := v) (fun t ht => he t (List.mem_append_right _ (List.mem_append_right _ ht))), ← hh, ← hn]
    exact h

theorem Ge_congr {s' : St} {Ψ : AV → Hp → Nat → Prop} (he : ∀ t ∈ Tr.rd o, s.env t = s'.env t) (hh : s.heap = s'.heap) (hn : s.next = s'.next) (h : Ge C o s Ψ) : Ge C o s' Ψ := by
  unfold Ge at *
  have he1 : ∀ t ∈ Tr.rdK o.k, s.env t = s'.env t := fun t ht => he t (List.mem_append_left _ ht)
  rw [← gst_rd he, ← hh, ← hn]
  rcases h with ⟨e, h⟩ | h
  · exact .inl ⟨e, Ve_congr he1 hh hn h⟩
  · exact .inr h

theorem Gv_unique {u u' : AV} (hc : Tr.isC o.k = false) (h : Gv C o s u) (h' : Gv C o s u') : u = u' := by
  have vv : Vv C o s u → Vv C o s u' → u = u' := by
    intro h h'
    unfold Vv at *
    cases hk : o.k <;> simp only [hk, Tr.isC, Bool.true_eq_false] at h h' hc
    case p op xs => rw [h] at h'; exact Option.some.inj h'
  unfold Gv at *
  rcases h with ⟨e, h⟩ | ⟨e, h⟩ <;> rcases h' with ⟨e', h'⟩ | ⟨e', h'⟩
  · exact vv h h'
  · rw [e] at e'; cases e'
  · rw [e] at e'; cases e'
  · rw [h, h']

theorem Ge_single {Ψ : AV → Hp → Nat → Prop} (hc : Tr.isC o.k = false) (h : Ge C o s Ψ) : ∃ u0 h0 n0, Ψ = fun u h n => u = u0 ∧ h = h0 ∧ n = n0 := by
  have vv : Ve C o s Ψ → ∃ u0 h0 n0, Ψ = fun u h n => u = u0 ∧ h = h0 ∧ n = n0 := by
    intro h
    unfold Ve at h
    cases hk : o.k <;> simp only [hk, Tr.isC, Bool.true_eq_false] at h hc
    case app sz x y => obtain ⟨_, _, _, _, _, _, h⟩ := h; exact ⟨_, _, _, h⟩
    case st n a v => obtain ⟨_, _, _, h⟩ := h; exact ⟨_, _, _, h⟩
    case new z => exact ⟨_, _, _, h.2⟩
    case boxm x => exact ⟨_, _, _, h.2.2⟩
    case mks z n c => obtain ⟨_, _, _, h⟩ := h; exact ⟨_, _, _, h⟩
    case mslm sz n z ps xs => obtain ⟨_, _, _, h⟩ := h; exact ⟨_, _, _, h⟩
    case mkm => exact ⟨_, _, _, h.2⟩
    case mset kd m k v => obtain ⟨_, _, _, h⟩ := h; exact ⟨_, _, _, h⟩
  rcases h with ⟨e, h⟩ | ⟨e, h⟩
  · exact vv h
  · exact ⟨_, _, _, h⟩

theorem put_env {s : St} {d : Option Nat} {u : AV} {t : Nat} (h : d ≠ some t) : (s.put d u).env t = s.env t := by
  cases d with
  | none => rfl
  | some k =>
    have : t ≠ k := fun e => h (by rw [e])
    simp [St.put, put, this]
theorem put_heap {s : St} {d : Option Nat} {u : AV} : (s.put d u).heap = s.heap := by cases d <;> rfl
theorem put_next {s : St} {d : Option Nat} {u : AV} : (s.put d u).next = s.next := by cases d <;> rfl
theorem put_comm {s : St} {d d' : Option Nat} {u u' : AV} (h : ∀ t, d = some t → d' ≠ some t) : (s.put d u).put d' u' = (s.put d' u').put d u := by
  cases d with
  | none => rfl
  | some k =>
    cases d' with
    | none => rfl
    | some k' =>
      have hne : k ≠ k' := fun e => h k rfl (by rw [e])
      simp only [St.put, St.mk.injEq, and_true]
      funext t
      simp only [put]
      by_cases e1 : t = k' <;> by_cases e2 : t = k <;> simp [e1, e2]
      · subst e1; exact absurd e2.symm hne
      · subst e1; intro e; exact absurd e.symm hne
      · subst e2; intro e; exact absurd e hne
theorem put_mk {s : St} {d : Option Nat} {u : AV} {h : Hp} {n : Nat} : ({ env := (s.put d u).env, heap := h, next := n } : St) = (⟨s.env, h, n⟩ : St).put d u := by cases d <;> rfl

theorem apart_spec {x y : Aop} (h : Tr.apartB x y = true) : (∀ t, x.dst = some t → t ∉ Tr.rd y) ∧ (∀ t, x.dst = some t → y.dst ≠ some t) ∧ (∀ t, y.dst = some t → t ∉ Tr.rd x) := by
  refine ⟨fun d hd => ?_, fun d hd => ?_, fun d hd => ?_⟩ <;> simp [Tr.apartB, hd] at h
  · exact h.1.1
  · exact h.1.2
  · exact h.2

theorem frz_sub {H H' : Hp} (hs : Sub H H') : ∀ (k : Nat) (a b : AV), frz H k a = some b → frz H' k a = some b := by
  intro k
  induction k with
  | zero => intro a b h; cases a <;> simp [frz] at h ⊢ <;> exact h
  | succ k ih =>
    have mm : ∀ (l l' : List AV), l.mapM (frz H k) = some l' → l.mapM (frz H' k) = some l' := by
      intro l
      induction l with
      | nil => intro l' h; exact h
      | cons x l ihl =>
        intro l' h
        simp only [List.mapM_cons, Option.pure_def, Option.bind_eq_bind] at h ⊢
        obtain ⟨y, hy, h⟩ := bind_some h
        obtain ⟨ys, hys, h⟩ := bind_some h
        rw [ih x y hy, Option.bind_some, ihl ys hys]
        exact h
    intro a b h
    cases a with
    | ms o off n sz =>
      simp only [frz] at h ⊢
      cases hc : H o with
      | none => simp [hc] at h
      | some c =>
        rw [hs o c hc]
        simp only [hc] at h ⊢
        split at h
        · rename_i e
          rw [if_pos e]
          obtain ⟨z, hz, e2⟩ := map_some h
          rw [mm _ _ hz]; exact congrArg some e2
        · cases h
    | mp o off l =>
      simp only [frz] at h ⊢
      cases hc : H o with
      | none => simp [hc] at h
      | some c =>
        rw [hs o c hc]
        simp only [hc] at h ⊢
        split at h
        · rename_i e
          rw [if_pos e]
          obtain ⟨z, hz, e2⟩ := map_some h
          rw [mm _ _ hz]; exact congrArg some e2
        · cases h
    | mm o => simp [frz] at h
    | agg c =>
      simp only [frz] at h ⊢
      obtain ⟨z, hz, e2⟩ := map_some h
      rw [mm _ _ hz]; exact congrArg some e2
    | tup c =>
      simp only [frz] at h ⊢
      obtain ⟨z, hz, e2⟩ := map_some h
      rw [mm _ _ hz]; exact congrArg some e2
    | fn i c =>
      simp only [frz] at h ⊢
      obtain ⟨z, hz, e2⟩ := map_some h
      rw [mm _ _ hz]; exact congrArg some e2
    | v x => simpa [frz] using h
    | nil => simpa [frz] using h
    | sl c n => simpa [frz] using h
    | ptr c n => simpa [frz] using h
theorem frzL_sub {H H' : Hp} (hs : Sub H H') : ∀ {l l' : List AV}, frzL H l = some l' → frzL H' l = some l' := by
  intro l
  induction l with
  | nil => intro l' h; exact h
  | cons x l ih =>
    intro l' h
    simp only [frzL, List.mapM_cons, Option.pure_def, Option.bind_eq_bind] at h ⊢
    obtain ⟨y, hy, h⟩ := bind_some h
    obtain ⟨ys, hys, h⟩ := bind_some h
    have := ih hys
    simp only [frzL] at this
    rw [frz_sub hs _ x y hy, Option.bind_some, this]
    exact h
theorem pvf_sub {H H' : Hp} (hs : Sub H H') {op : PO} {xs : List AV} {u : AV} (h : pvf H op xs = some u) : pvf H' op xs = some u := by
  cases op <;> simp only [pvf] at h ⊢ <;> try exact h
  case len =>
    unfold pLen at h ⊢
    split at h
    · exact h
    · exact h
    · rename_i o off n sz
      cases hc : H o with
      | none => simp [hc] at h
      | some c => rw [hs o c hc]; simp only [hc] at h; exact h
    · cases h
  case fad =>
    unfold pFad at h ⊢
    split at h
    · exact h
    · rename_i o p l
      cases hc : H o with
      | none => simp [hc] at h
      | some c => rw [hs o c hc]; simp only [hc] at h; exact h
    · cases h
  case iad =>
    unfold pIad at h ⊢
    split at h
    · exact h
    · rename_i o off n sz' k i
      split at h
      · rename_i e
        rw [if_pos e]
        cases hc : H o with
        | none => simp [hc] at h
        | some c => rw [hs o c hc]; simp only [hc] at h; exact h
      · cases h
    · cases h
  case ld =>
    unfold pLd at h ⊢
    split at h
    · exact h
    · rename_i o p l
      cases hc : H o with
      | none => simp [hc] at h
      | some c => rw [hs o c hc]; simp only [hc] at h; exact h
    · cases h
  case nck =>
    unfold pNck at h ⊢
    split at h
    · exact h
    · rename_i o p l
      cases hc : H o with
      | none => simp [hc] at h
      | some c => rw [hs o c hc]; simp only [hc] at h; exact h
    · exact h
    · cases h
  case mget =>
    unfold pGet at h ⊢
    split at h
    · rename_i o k
      cases hc : H o with
      | none => simp [hc] at h
      | some c => rw [hs o c hc]; simp only [hc] at h; exact h
    · cases h
  case mlen =>
    unfold pMlen at h ⊢
    split at h
    · rename_i o
      cases hc : H o with
      | none => simp [hc] at h
      | some c => rw [hs o c hc]; simp only [hc] at h; exact h
    · cases h
theorem Vv_sub {s' : St} {u : AV} (he : ∀ t ∈ Tr.rdK o.k, s.env t = s'.env t) (hh : Sub s.heap s'.heap) (h : Vv C o s u) : Vv C o s' u := by
  have hH : Sub (if o.h = true then s.heap else hempty) (if o.h = true then s'.heap else hempty) := by
    cases o.h
    · exact fun _ _ h => h
    · exact hh
  unfold Vv at *
  cases hk : o.k <;> simp only [hk, Tr.rdK] at h he ⊢
  case p op xs => rw [← evs_congr he]; exact pvf_sub hH h
  case call f xs =>
    rw [← evs_congr (fun t ht => he t (List.mem_append_right _ ht)), ← ev_congr (fun t ht => he t (List.mem_append_left _ ht))]
    obtain ⟨fc, h1, ⟨ys, h2, h3⟩ | ⟨ys, h2, h3⟩⟩ := h
    · exact ⟨fc, h1, .inl ⟨ys, frzL_sub hH h2, h3⟩⟩
    · exact ⟨fc, h1, .inr ⟨ys, h2, h3⟩⟩
theorem Gv_sub {s' : St} {u : AV} (he : ∀ t ∈ Tr.rd o, s.env t = s'.env t) (hh : Sub s.heap s'.heap) (h : Gv C o s u) : Gv C o s' u := by
  unfold Gv at *
  have he1 : ∀ t ∈ Tr.rdK o.k, s.env t = s'.env t := fun t ht => he t (List.mem_append_left _ ht)
  rw [← gst_rd he]
  rcases h with ⟨e, h⟩ | h
  · exact .inl ⟨e, Vv_sub he1 hh h⟩
  · exact .inr h
theorem Ge_alloc {Ψ : AV → Hp → Nat → Prop} (ha : Tr.isA o.k = true) (hf : s.heap s.next = none) (h : Ge C o s Ψ) {u : AV} {hp : Hp} {n : Nat} (hu : Ψ u hp n) : Sub s.heap hp := by
  have new : ∀ c, Sub s.heap (hput s.heap s.next c) := fun c k d hk => by
    have : k ≠ s.next := fun e => by rw [e, hf] at hk; cases hk
    simp only [hput]; rw [if_neg this]; exact hk
  rcases h with ⟨_, h⟩ | ⟨_, h⟩
  · unfold Ve at h
    cases hk : o.k <;> simp only [hk, Tr.isA, Bool.false_eq_true] at h ha
    case new z => rw [h.2] at hu; rw [hu.2.1]; exact new _
    case boxm x => rw [h.2.2] at hu; rw [hu.2.1]; exact new _
    case mkm => rw [h.2] at hu; rw [hu.2.1]; exact new _
    case mks z n c =>
      obtain ⟨_, r, h1, h2⟩ := h
      rw [h2] at hu
      rw [hu.2.1]
      unfold mkTo at h1
      split at h1
      · split at h1
        · cases h1; exact new _
        · cases h1
      · cases h1
    case mslm sz n z ps xs =>
      obtain ⟨_, r, h1, h2⟩ := h
      rw [h2] at hu
      rw [hu.2.1]
      unfold mslTo at h1
      split at h1
      · split at h1
        · cases h1; exact new _
        · cases h1
      · cases h1
  · rw [h] at hu; rw [hu.2.1]; exact fun _ _ h => h

theorem opK_swap {x y : Aop} (hf : Tr.isA y.k = true → s.heap s.next = none) (hm : Tr.mayB x y = true) (h : opK C x s fun s' => opK C y s' K) : opK C y s fun s' => opK C x s' K := by
  simp only [Tr.mayB, Bool.and_eq_true] at hm
  obtain ⟨ha, hc⟩ := hm
  obtain ⟨h1, h2, h3⟩ := apart_spec ha
  have ry : ∀ (s : St) (u : AV), ∀ t ∈ Tr.rd y, (s.put x.dst u).env t = s.env t := fun s u t ht => put_env (fun e => h1 t e ht)
  have rx : ∀ (s : St) (u : AV), ∀ t ∈ Tr.rd x, (s.put y.dst u).env t = s.env t := fun s u t ht => put_env (fun e => h3 t e ht)
  simp only [Tr.calmB, Bool.and_eq_true, Bool.not_eq_true', Bool.and_eq_false_iff] at hc
  cases hex : Tr.eff x.k
  · obtain ⟨u, hu, h⟩ := (opK_v hex).1 h
    cases hey : Tr.eff y.k
    · obtain ⟨v, hv, h⟩ := (opK_v hey).1 h
      refine (opK_v hey).2 ⟨v, Gv_congr (ry s u) (.inr put_heap) hv, (opK_v hex).2 ⟨u, Gv_congr (fun t ht => (rx s v t ht).symm) (.inr put_heap.symm) hu, ?_⟩⟩
      rw [← put_comm h2]
      exact h
    · obtain ⟨Ψ, hΨ, hne, h⟩ := (opK_e hey).1 h
      have hΨ' := Ge_congr (s' := s) (ry s u) put_heap put_next hΨ
      have hxh : ∀ v hp n, Ψ v hp n → Gv C x ((⟨s.env, hp, n⟩ : St).put y.dst v) u := fun v hp n hv => by
        rcases hc.1.2 with (e | e) | e
        · rw [hey] at e; cases e
        · exact Gv_congr (s := s) (fun t ht => (rx ⟨s.env, hp, n⟩ v t ht).symm) (.inl e) hu
        · have e' : Tr.isA y.k = true := by simpa using e
          exact Gv_sub (s := s) (fun t ht => (rx ⟨s.env, hp, n⟩ v t ht).symm) (by rw [put_heap]; exact Ge_alloc e' (hf e') hΨ' hv) hu
      refine (opK_e hey).2 ⟨Ψ, hΨ', hne, fun v hp n hv => (opK_v hex).2 ⟨u, hxh v hp n hv, ?_⟩⟩
      have := h v hp n hv
      rw [put_mk, put_comm h2] at this
      exact this
  · obtain ⟨Ψ, hΨ, hne, h⟩ := (opK_e hex).1 h
    have hey : Tr.eff y.k = false := by
      rcases hc.1.1.1 with e | e
      · rw [hex] at e; cases e
      · exact e
    have hyh : y.h = false := by
      rcases hc.1.1.2 with e | e
      · rw [hex] at e; cases e
      · exact e
    have back : ∀ u hp n v, Ψ u hp n → Gv C y ((⟨s.env, hp, n⟩ : St).put x.dst u) v → Gv C y s v := fun u hp n v _ hv => Gv_congr (s := (⟨s.env, hp, n⟩ : St).put x.dst u) (fun t ht => ry ⟨s.env, hp, n⟩ u t ht) (.inl hyh) hv
    have fin : ∀ v, Gv C y s v → (∀ u hp n, Ψ u hp n → K (((⟨s.env, hp, n⟩ : St).put x.dst u).put y.dst v)) → opK C y s fun s' => opK C x s' K := by
      intro v hv hK
      refine (opK_v hey).2 ⟨v, hv, (opK_e hex).2 ⟨Ψ, Ge_congr (fun t ht => (rx s v t ht).symm) put_heap.symm put_next.symm hΨ, hne, fun u hp n hu => ?_⟩⟩
      rw [put_mk, ← put_comm h2]
      exact hK u hp n hu
    obtain ⟨u0, hp0, n0, h0⟩ := hne
    obtain ⟨v0, hv0, _⟩ := (opK_v hey).1 (h u0 hp0 n0 h0)
    by_cases hcx : Tr.isC x.k = true
    · have hcy : Tr.isC y.k = false := by
        rcases hc.2 with e | e
        · rcases e with e | e
          · rw [hcx] at e; cases e
          · exact e
        · simp [hex] at e
      refine fin v0 (back _ _ _ _ h0 hv0) fun u hp n hu => ?_
      obtain ⟨v, hv, hK⟩ := (opK_v hey).1 (h u hp n hu)
      rw [Gv_unique hcy (back _ _ _ _ h0 hv0) (back _ _ _ _ hu hv)]
      exact hK
    · have hcx' : Tr.isC x.k = false := by simpa using hcx
      obtain ⟨u1, hp1, n1, e⟩ := Ge_single hcx' hΨ
      obtain ⟨v, hv, hK⟩ := (opK_v hey).1 (h u0 hp0 n0 h0)
      refine fin v (back _ _ _ _ h0 hv) fun u hp n hu => ?_
      rw [e] at hu h0
      obtain ⟨a1, a2, a3⟩ := hu
      obtain ⟨b1, b2, b3⟩ := h0
      rw [a1, a2, a3, ← b1, ← b2, ← b3]
      exact hK

theorem opsK_mono {l : List Aop} : ∀ {s : St}, (∀ s, K s → K' s) → opsK C l s K → opsK C l s K' := by
  induction l with
  | nil => intro s h hh; exact h _ hh
  | cons o r ih => intro s h hh; exact opK_mono (fun s' hs => ih h hs) hh

theorem opsK_front {y : Aop} {zs : List Aop} : ∀ {xs : List Aop} {s : St}, (Tr.isA y.k = true → s.heap s.next = none) → (∀ x ∈ xs, Tr.mayB x y = true) → opsK C (xs ++ y :: zs) s K → opsK C (y :: (xs ++ zs)) s K := by
  intro xs
  induction xs with
  | nil => intro s _ _ h; exact h
  | cons x xs ih =>
    intro s hf hm h
    have hx := hm x (List.mem_cons_self ..)
    refine opK_swap hf hx ?_
    by_cases ha : Tr.isA y.k = true
    · have hex : Tr.eff x.k = false := by
        simp only [Tr.mayB, Bool.and_eq_true, Tr.calmB, Bool.not_eq_true', Bool.and_eq_false_iff] at hx
        have hey : Tr.eff y.k = true := by
          cases hk : y.k <;> simp only [hk, Tr.isA, Bool.false_eq_true] at ha <;> rfl
        rcases hx.2.1.1.1 with e | e
        · exact e
        · rw [hey] at e; cases e
      obtain ⟨u, hu, h⟩ := (opK_v hex).1 h
      exact (opK_v hex).2 ⟨u, hu, ih (fun e => by rw [put_heap, put_next]; exact hf e) (fun x hx => hm x (List.mem_cons_of_mem _ hx)) h⟩
    · exact opK_mono (fun s' hs => ih (fun e => absurd e ha) (fun x hx => hm x (List.mem_cons_of_mem _ hx)) hs) h
end abs
end Go.Av

/-
  What the operations of the compact code list.
-/
namespace Go.Av
set_option linter.unusedSectionVars false
set_option linter.unusedSimpArgs false
set_option linter.unusedVariables false
variable [md : Md]
open Go.RowKit (Below)
open Go.Conc (listed)

section
variable {ν : Nat → FuncId} {N : Nat} {w0 : World} {S : Nat → Prop} {X0 : Cx} {s : St} {a : Act} {w : World} {β : Nat → Nat} {P : Program} {o : Oper} {K : St → Prop}
theorem Ext.rl (X : Cx) (w' : World) (h : Oth X.w w') (hlt : ∀ k c, X.H k = some c → X.β k < X.w.heap.size) : Ext X { X with w := w' } := by
  refine ⟨Nat.le_refl _, fun b hb => ⟨⟨Nat.lt_of_lt_of_le hb.1.1 h.size, hb.1.2⟩, hb.2⟩, fun b hb => h.old b hb.1.1, fun k c' _ hc' => ⟨c', hc', .inr ⟨rfl, rfl, fun r e f hr => ⟨r, e, f, ?_, rfl⟩⟩⟩, fun k c' _ hc' es q hr => ⟨rfl, es, q, ?_⟩⟩
  · simp only; rw [h.old _ (hlt k c' hc')]; exact hr
  · simp only; rw [h.old _ (hlt k c' hc')]; exact hr
theorem Objs.rl {B : Nat} {X : Cx} (h : Objs ν B X) (w' : World) (hh : Oth X.w w') : Objs ν B { X with w := w' } := by
  refine ⟨fun k c hk => ?_, h.inj, Nat.le_trans h.le hh.size, h.new⟩
  obtain ⟨h1, h2, ob, hr, hb⟩ := h.obj k c hk
  exact ⟨h1, h2, ob, by simp only; rw [hh.old _ (h.lt k c hk)]; exact hr, hb.mono (Ext.rl X w' hh h.lt)⟩
theorem Sim.rl (h : Sim ν N w0 S X0 s a w β) {w' : World} (hr : Oth w w') : Sim ν N w0 S X0 s a w' β := by
  have hx := Ext.rl ⟨β, s.heap, s.next, w, S⟩ w' hr h.objs.lt
  exact ⟨fun t => (h.env t).mono hx, h.size, h.defers, h.objs.rl w' hr, h.below.trans ⟨hr.os, hr.tape, hr.output, hr.size, fun k hk => hr.old k (Nat.lt_of_lt_of_le hk h.below.size)⟩, h.ext.trans hx⟩

theorem ev_call {f : Operand} {args : Array Operand} {tys : Array TypeId} {id : Nat} {cvs : Array Value} (ho : o.op = .call { callee := .value f, args, argTypes := tys }) (hf : a.eval f = .func (.func (ν id)) #[] cvs) (hE : Enters P (ν id)) : EvB P o a w := by
  have hrun : ∀ w, _ := fun w => run_call (P := P) (w := w) ho hf hE
  obtain ⟨fn, h1, h2, h3⟩ := hE
  have h4 : fn.body ≠ none := by intro hb; rw [hb] at h2; cases h2
  have h5 : fn.name ≠ "runtime.NumGoroutine" := by simpa using h3
  have he : ∀ w, (execOp a.eval o).events P w #[] = #[] := by
    intro w
    simp [execOp, ho, resolve, hf, Deferred.ofValue, invoke, callFunc, h1, h5, h4]
  have hl : ∀ fn' w e, e ∈ listed P fn' a o w → False := by
    intro fn' w e he'
    have := Go.Conc.mem_listed he'
    rw [he] at this
    simp at this
  refine ⟨fun fn' r w' hr => ?_, fun x w' hr B M r hv => ?_⟩
  · rw [hrun] at hr
    cases hr
    exact ⟨fun e he' => (hl _ _ _ he').elim, Nat.le_refl _⟩
  · rw [hrun] at hr
    cases hr
    exact ⟨r, hrun r, fun fn' => .still hv (fun e he' => (hl _ _ _ he').elim) (fun e he' => (hl _ _ _ he').elim)⟩

theorem plain_eqGuard (op : BinOp) (t : TypeId) (x y : Operand) (k k' : IntKind) (m n : Int) : Plain P (eqGuard op t x y (.int k m) (.int k' n)) := by
  unfold eqGuard
  split <;> trivial
theorem plain_binInt {op : BinOp} (hop : (match op with | .add | .sub | .mul | .eql | .neq | .lss | .leq | .gtr | .geq => true | _ => false) = true) (t : TypeId) (k k' : IntKind) (m n : Int) : Plain P (binOp op t (.int k m) (.int k' n)) := by
  cases op <;> first | (cases hop; done) | (unfold binOp; dsimp only; split <;> trivial) | skip
theorem plain_eqGuardS (op : BinOp) (t : TypeId) (x y : Operand) (m n : ByteArray) : Plain P (eqGuard op t x y (.string m) (.string n)) := by
  unfold eqGuard
  split <;> trivial
theorem plain_binStr {op : BinOp} (hop : (match op with | .add | .sub | .mul | .eql | .neq | .lss | .leq | .gtr | .geq => true | _ => false) = true) (t : TypeId) (m n : ByteArray) : Plain P (binOp op t (.string m) (.string n)) := by
  cases op <;> first | (cases hop; done) | (unfold binOp; dsimp only; unfold Op.stringOp; dsimp only; first | trivial | (split <;> trivial)) | skip
theorem plain_v {s : Sem Value} (h : Plain P s) : Plain P (do pure (.value (← s)) : Sem Next) := plain_bind _ h fun _ => trivial
theorem plain_u {s : Sem Unit} (h : Plain P s) : Plain P (do s; pure .skip : Sem Next) := plain_bind _ h fun _ => trivial

theorem tame_eqGuard (op : BinOp) (t : TypeId) (x y : Operand) (k k' : IntKind) (m n : Int) : Tame P (eqGuard op t x y (.int k m) (.int k' n)) := by
  unfold eqGuard
  split <;> trivial
theorem tame_binInt {op : BinOp} (hop : (match op with | .add | .sub | .mul | .eql | .neq | .lss | .leq | .gtr | .geq => true | _ => false) = true) (t : TypeId) (k k' : IntKind) (m n : Int) : Tame P (binOp op t (.int k m) (.int k' n)) := by
  cases op <;> first | (cases hop; done) | (unfold binOp; dsimp only; split <;> trivial) | skip
theorem tame_eqGuardS (op : BinOp) (t : TypeId) (x y : Operand) (m n : ByteArray) : Tame P (eqGuard op t x y (.string m) (.string n)) := by
  unfold eqGuard
  split <;> trivial
theorem tame_binStr {op : BinOp} (hop : (match op with | .add | .sub | .mul | .eql | .neq | .lss | .leq | .gtr | .geq => true | _ => false) = true) (t : TypeId) (m n : ByteArray) : Tame P (binOp op t (.string m) (.string n)) := by
  cases op <;> first | (cases hop; done) | (unfold binOp; dsimp only; unfold Op.stringOp; dsimp only; first | trivial | (split <;> trivial)) | skip
theorem tame_v {s : Sem Value} (h : Tame P s) : Tame P (do pure (.value (← s)) : Sem Next) := tame_bind _ h fun _ => trivial
theorem tame_u {s : Sem Unit} (h : Tame P s) : Tame P (do s; pure .skip : Sem Next) := tame_bind _ h fun _ => trivial

theorem opdsA {T : Tr} {x : Operand} {xs : List Opd} (h : T.opds [x] = some xs) : ∃ x', T.opd x = some x' ∧ xs = [x'] := by
  unfold Tr.opds at h
  simp only [List.mapM_cons, List.mapM_nil, Option.pure_def, Option.bind_eq_bind] at h
  obtain ⟨x', hx, h⟩ := bind_some h
  cases h
  exact ⟨x', hx, rfl⟩
theorem opdsB {T : Tr} {x y : Operand} {xs : List Opd} (h : T.opds [x, y] = some xs) : ∃ x' y', T.opd x = some x' ∧ T.opd y = some y' ∧ xs = [x', y'] := by
  unfold Tr.opds at h
  simp only [List.mapM_cons, List.mapM_nil, Option.pure_def, Option.bind_eq_bind] at h
  obtain ⟨x', hx, h⟩ := bind_some h
  obtain ⟨l, hl, h⟩ := bind_some h
  cases h
  obtain ⟨y', hy, hl⟩ := bind_some hl
  cases hl
  exact ⟨x', y', hx, hy, rfl⟩
theorem ev_sound {T : Tr} (hν : ∀ f id, T.num f = some id → ν id = f) {k : AK} (hk : T.kind o = some k) (hq : quietB T.P o = true) (h : Sim ν N w0 S X0 s a w β) {g : Option (Nat × Bool)} {hf : Bool} (hs : stepK (OkM T.P ν) ⟨o.dst, g, k, hf⟩ s K) : EvB T.P o a w := by
  have R : ∀ {x : Operand} {x' : Opd}, T.opd x = some x' → Rep ν ⟨β, s.heap, s.next, w, S⟩ (ev s.env x') (a.eval x) := fun h' => opd_sound hν h.env h'
  obtain ⟨dst, op, ty, pos, aft, grd⟩ := o
  unfold quietB at hq
  simp only at hq
  cases op with
  | move x => exact EvB.of (plain_pure _) (tame_pure _)
  | assign x => exact EvB.of (plain_pure _) (tame_pure _)
  | pick c x y => exact EvB.of (plain_bind _ (plain_asBool _) fun b => plain_pure _) (tame_bind _ (tame_asBool _) fun b => tame_pure _)
  | alloc t => exact EvB.of (plain_v (plain_alloc t)) (tame_v (tame_alloc t))
  | box t x => exact EvB.of (plain_v (plain_box t _)) (tame_v (tame_box t _))
  | build t ps => exact EvB.of (plain_v (plain_build t _)) (tame_v (tame_build t _))
  | buildSlice t n ps => exact EvB.of (plain_v (plain_buildSlice t n _)) (tame_v (tame_buildSlice t n _))
  | load t x => exact EvB.of (plain_v (plain_loadAt t _)) (tame_v (tame_loadAt t _))
  | store t x y => exact EvB.of (plain_u (plain_storeAt t _ _)) (tame_u (tame_storeAt t _ _))
  | unOp op t x =>
    cases op <;> first | cases hq | skip
    refine EvB.of (plain_v ?_) (tame_v ?_)
    · unfold Op.unary
      split <;> trivial
    · unfold Op.unary
      split <;> trivial
  | makeSlice t l c => exact EvB.of (plain_v (plain_makeSlice t _ _)) (tame_v (tame_makeSlice t _ _))
  | fieldAddr t x n => exact EvB.of (plain_v (plain_fieldAt t _ n)) (tame_v (tame_fieldAt hq))
  | indexAddr t x n => exact EvB.of (plain_v (plain_indexAt t _ _)) (tame_v (tame_indexAt t _ _))
  | extract x i => exact EvB.of (plain_v (plain_extract _ _)) (tame_v (tame_extract _ _))
  | makeFunc f x c => exact EvB.of (plain_v (plain_pure _)) (tame_v (tame_pure _))
  | nilCheck x =>
    obtain ⟨p, hp, rfl⟩ := map_some (show (T.pure (.nilCheck x)).map (fun p => AK.p p.1 p.2) = some k from hk)
    obtain ⟨xs, hxs, rfl⟩ := map_some (show (T.opds [x]).map (PO.nck, ·) = some p from hp)
    obtain ⟨x', hx', rfl⟩ := opdsA hxs
    obtain ⟨u, hu, _⟩ := hs
    have hH : ∀ o c, (if hf then s.heap else hempty) o = some c → s.heap o = some c := fun o c hc => by
      cases hf
      · cases hc
      · exact hc
    have hr := R hx'
    have hu : pNck (if hf then s.heap else hempty) [ev s.env x'] = some u := hu
    have key : ∀ v, a.eval x = v → (∃ ad, v = .pointer (some ad)) ∨ (∃ f c, v = .func (.func f) #[] c) → EvB T.P ⟨dst, .nilCheck x, ty, pos, aft, grd⟩ a w := by
      intro v e hv
      refine EvB.of ?_ ?_
      · simp only [execOp, e]
        rcases hv with ⟨ad, rfl⟩ | ⟨f, c, rfl⟩
        · exact plain_pure _
        · exact plain_pure _
      · simp only [execOp, e]
        rcases hv with ⟨ad, rfl⟩ | ⟨f, c, rfl⟩
        · exact tame_pure _
        · exact tame_pure _
    unfold pNck at hu
    split at hu
    · rename_i heq
      simp only [List.cons.injEq, and_true] at heq
      rw [heq] at hr
      obtain ⟨b, base, us, hp, _⟩ := hr.inv_ptr
      exact key _ hp (.inl ⟨_, rfl⟩)
    · rename_i heq
      simp only [List.cons.injEq, and_true] at heq
      rw [heq] at hr
      split at hu
      · rename_i c hc
        split at hu
        · rename_i hl
          exact key _ (hr.inv_mp.2.2.2 c (hH _ _ hc) hl).1 (.inl ⟨_, rfl⟩)
        · cases hu
      · cases hu
    · rename_i heq
      simp only [List.cons.injEq, and_true] at heq
      rw [heq] at hr
      obtain ⟨vs, hp, _⟩ := hr.inv_fn
      exact key _ hp (.inr ⟨_, _, rfl⟩)
    · cases hu
  | binOp op t x y l =>
    rcases Bool.or_eq_true_iff.1 hq with hq | hq
    rotate_left
    · obtain ⟨hop, hti⟩ := Bool.and_eq_true_iff.1 hq
      obtain ⟨p, hp, rfl⟩ := map_some (show (T.pure (.binOp op t x y l)).map (fun p => AK.p p.1 p.2) = some k from hk)
      have hst : T.isStruct t = true := by
        unfold Tr.isStruct
        split at hti
        · rename_i fs hf; simp only [hf]
        · cases hti
      have hop' : op = .eql ∨ op = .neq := by
        rcases Bool.or_eq_true_iff.1 hop with h | h
        · exact .inl (by simpa using h)
        · exact .inr (by simpa using h)
      simp only [Tr.pure, hst, if_true] at hp
      split at hp
      · rename_i hB
        obtain ⟨xs, hxs, rfl⟩ := map_some hp
        obtain ⟨x', y', hx', hy', rfl⟩ := opdsB hxs
        obtain ⟨u, hu, _⟩ := hs
        exact evb_eqs (o := ⟨dst, .binOp op t x y l, ty, pos, aft, grd⟩) rfl rfl rfl hst (Bool.and_eq_true_iff.1 hB).1 hop' hu (R hx') (R hy') w
      · cases hp
    obtain ⟨hop, hti⟩ := Bool.and_eq_true_iff.1 hq
    obtain ⟨p, hp, rfl⟩ := map_some (show (T.pure (.binOp op t x y l)).map (fun p => AK.p p.1 p.2) = some k from hk)
    have hi : ∃ k0, T.P.underlying t = some (.int k0) := by
      split at hti
      · rename_i k0 hk0; exact ⟨k0, hk0⟩
      · cases hti
    obtain ⟨k0, hk0⟩ := hi
    have hp2 : (T.opds [x, y]).map (PO.bin op, ·) = some p := by
      simpa [Tr.pure, Tr.isStruct, Tr.isBool, hk0] using hp
    obtain ⟨xs, hxs, rfl⟩ := map_some hp2
    obtain ⟨x', y', hx', hy', rfl⟩ := opdsB hxs
    obtain ⟨u, hu, _⟩ := hs
    have hrx := R hx'
    have hry := R hy'
    have hu : pBin op [ev s.env x', ev s.env y'] = some u := hu
    unfold pBin at hu
    split at hu
    · rename_i heq
      simp only [List.cons.injEq, and_true] at heq
      rw [heq.1] at hrx
      rw [heq.2] at hry
      refine EvB.of (plain_v ?_) (tame_v ?_)
      · rw [hrx.inv_v, hry.inv_v]
        exact plain_bind _ (plain_eqGuard _ _ _ _ _ _ _ _) fun _ => plain_binInt hop _ _ _ _ _
      · rw [hrx.inv_v, hry.inv_v]
        exact tame_bind _ (tame_eqGuard _ _ _ _ _ _ _ _) fun _ => tame_binInt hop _ _ _ _ _
    · rename_i heq
      simp only [List.cons.injEq, and_true] at heq
      rw [heq.1] at hrx
      rw [heq.2] at hry
      refine EvB.of (plain_v ?_) (tame_v ?_)
      · rw [hrx.inv_v, hry.inv_v]
        exact plain_bind _ (plain_eqGuardS _ _ _ _ _ _) fun _ => plain_binStr hop _ _ _
      · rw [hrx.inv_v, hry.inv_v]
        exact tame_bind _ (tame_eqGuardS _ _ _ _ _ _) fun _ => tame_binStr hop _ _ _
    · cases hu
  | call c =>
    obtain ⟨callee, args, tys⟩ := c
    cases callee with
    | builtin b =>
      cases b <;> first | (cases hq; done) | skip
      · exact EvB.of (show Plain T.P (do pure (.value (← Builtin.append_ tys ty (args.map a.eval))) : Sem Next) from plain_v (plain_append _ _ _)) (show Tame T.P (do pure (.value (← Builtin.append_ tys ty (args.map a.eval))) : Sem Next) from tame_v (tame_append _ _ _))
      · exact EvB.of (show Plain T.P (do pure (.value (← Builtin.len_ tys ty (args.map a.eval))) : Sem Next) from plain_v (plain_len _ _ _)) (show Tame T.P (do pure (.value (← Builtin.len_ tys ty (args.map a.eval))) : Sem Next) from tame_v (tame_len _ _ hq))
    | invoke r m => cases hq
    | value f =>
      have hcall : ∃ f' fc, T.opd f = some f' ∧ fnOf (ev s.env f') = some fc ∧ Enters T.P (ν fc.1) := by
        have hk2 : ((T.opd f).bind fun f' => (T.opds args.toList).bind fun xs => (match T.hintOf dst with
            | 0 => some (AK.call f' xs)
            | 1 => some (.callm f' xs)
            | 2 => some (.callo f' xs)
            | 4 => some (.callz f' xs)
            | _ => none)) = some k := hk
        obtain ⟨f', hf', hk2⟩ := bind_some hk2
        obtain ⟨xs, hxs, hk2⟩ := bind_some hk2
        refine ⟨f', ?_⟩
        split at hk2
        · cases hk2
          obtain ⟨fc, hfc, hs⟩ := hs
          rcases hs with ⟨ys, _, r, hr, _⟩ | ⟨ys, _, r, hr, _⟩
          · exact ⟨fc, hf', hfc, hr.1⟩
          · exact ⟨fc, hf', hfc, hr.1⟩
        · cases hk2
          obtain ⟨_, fc, hfc, Φ, hr, _⟩ := hs
          exact ⟨fc, hf', hfc, hr.1⟩
        · cases hk2
          obtain ⟨_, fc, hfc, ys, _, Φ, hr, _⟩ := hs
          exact ⟨fc, hf', hfc, hr.1⟩
        · cases hk2
          obtain ⟨_, fc, hfc, ys, _, r, hr, _⟩ := hs
          exact ⟨fc, hf', hfc, hr.1⟩
        · cases hk2
      obtain ⟨f', fc, hf', hfc, hE⟩ := hcall
      have hr := R hf'
      unfold fnOf at hfc
      split at hfc
      · rename_i id caps hev
        cases hfc
        rw [hev] at hr
        obtain ⟨vs, hv, _⟩ := hr.inv_fn
        exact ev_call rfl hv hE
      · cases hfc
  | _ => cases hq
end
end Go.Av
