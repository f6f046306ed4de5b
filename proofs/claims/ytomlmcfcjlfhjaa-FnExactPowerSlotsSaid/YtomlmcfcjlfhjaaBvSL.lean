/-
  Several texts in one: BvSl0, BvSl1, BvSl2, BvSl3, BvSl4, BvSl5, BvSl6.
-/
import Derived.Test.YtomlmcfcjlfhjaaBvZ
import Derived.Test.YtomlmcfcjlfhjaaBvPH
import Derived.Conc.SmallLaws
/-
  Segments of a goroutine's code: regions whole, from the front, from behind.
-/
namespace Go.Av
set_option linter.unusedSectionVars false
set_option linter.unusedSimpArgs false
set_option linter.unusedVariables false
open Go.Conc (G)

/-- Own steps whatever the others do. -/
abbrev free (m : Bool) : Md where
  m := m
  rl := Oth
  sub := id
  Ok := fun P R => Clv P m Oth R
  cl := id

section
variable [md : Md] {T : Tr} {ν : Nat → FuncId} {w0 : World} {S : Nat → Prop} {X0 : Cx} {s : St} {a : Act} {v : World} {β : Nat → Nat} {K : Goroutine → World → Prop} {b : Frame} {k : List Item} {cs : List Frame} {Q : St → Prop}

omit md in
theorem Sim.base {N : Nat} (h : Sim ν N w0 S X0 s a v β) : Sim ν N w0 S ⟨β, s.heap, s.next, v, S⟩ s a v β := ⟨h.env, h.size, h.defers, h.objs, h.below, Ext.refl _⟩

/-- A region. -/
theorem seg (hK : md.Ok T.P K) (hb : b.kind ≠ .early) (hν : ∀ f id, T.num f = some id → ν id = f) {id : Nat} {ops : Array Oper} {draw : Bool} {l : List Aop} (hr : T.region ops draw = some l) (hS : Sim ν T.nt w0 S X0 s a v β)
    (hs : opsK (OkM T.P ν) l s Q) (hk : ∀ s' a' v' β', Q s' → Sim ν T.nt w0 S X0 s' a' v' β' → K (G (b.at a' k) cs) v') : K (G (b.at a (.code (.region id ops draw) :: k)) cs) v :=
  region_sound (Q := fun e a' v' => e = .normal ∧ K (G (b.at a' k) cs) v') hν hr hS hs (fun s' a' v' β' hq hS' => ⟨rfl, hk s' a' v' β' hq hS'⟩) K b k cs hK hb fun e a' v' hq => by
    obtain ⟨rfl, hq⟩ := hq
    exact hq

theorem wp_ops2 {P : Program} {ops : Array Oper} {Q : Exit → Act → World → Prop} (hK : md.Ok P K) (hb : b.kind ≠ .early) {rest : List Nat} (hQ : ∀ a' w', Q .normal a' w' → K (G (b.at a' (.inRegion ops rest :: k)) cs) w') :
    ∀ (l : List Nat) (a : Act) (w : World), wpOps P ops Q l a w → K (G (b.at a (.inRegion ops (l ++ rest) :: k)) cs) w := by
  intro l
  induction l with
  | nil => exact fun a w h => hQ _ _ h
  | cons i r ih => exact fun a w h => step_op hK hb h ih
theorem wpOps_of_wpList {P : Program} {ops : Array Oper} {Q : Exit → Act → World → Prop} (l : List Oper) : ∀ k, (∀ j, j < l.length → l[j]? = ops[k + j]?) → wpOps P ops Q (List.range' k l.length) = wpList P ops Q l := by
  induction l with
  | nil => intro k _; funext a w; simp [wpOps, wpList]
  | cons o l ih =>
    intro k h
    have h0 : ops[k]? = some o := by simpa using (h 0 (by simp)).symm
    have ih' := ih (k + 1) (fun j hj => by have := h (j + 1) (by simpa using hj); simpa [Nat.add_assoc, Nat.add_comm 1 j] using this)
    funext a w
    simp only [List.length_cons, List.range'_succ, wpOps, wpOp, wpList, h0, ih']

/-- Some operations of a region, from the m-th on. -/
theorem seg_ops (hK : md.Ok T.P K) (hb : b.kind ≠ .early) (hν : ∀ f id, T.num f = some id → ν id = f) {ops : Array Oper} {m : Nat} {L : List Oper} {l : List Aop} (hr : L.mapM (T.oper ops true) = some l) (hL : ∀ j, j < L.length → L[j]? = ops[m + j]?) {rest : List Nat}
    (hS : Sim ν T.nt w0 S X0 s a v β) (hs : opsK (OkM T.P ν) l s Q) (hk : ∀ s' a' v' β', Q s' → Sim ν T.nt w0 S X0 s' a' v' β' → K (G (b.at a' (.inRegion ops rest :: k)) cs) v') :
    K (G (b.at a (.inRegion ops (List.range' m L.length ++ rest) :: k)) cs) v := by
  refine wp_ops2 (P := T.P) (Q := fun e a' v' => e = .normal ∧ K (G (b.at a' (.inRegion ops rest :: k)) cs) v') hK hb (fun a' w' h => h.2) _ _ _ ?_
  rw [wpOps_of_wpList L m hL]
  exact list_sound hν (fun s' a' v' β' hq hS' => ⟨rfl, hk s' a' v' β' hq hS'⟩) L l hr s a v β hS hs

/-! ### moves of control -/
variable {P : Program}
theorem k_seq (hK : md.Ok P K) {x y : Code} (h : K (G (b.at a (.code x :: .code y :: k)) cs) v) : K (G (b.at a (.code (.seq x y) :: k)) cs) v := ctl hK (fun _ => Go.Conc.stepG_seq) h
theorem k_block (hK : md.Ok P K) {id : Nat} {x : Code} (h : K (G (b.at a (.code x :: .inBlock id :: k)) cs) v) : K (G (b.at a (.code (.block id x) :: k)) cs) v := ctl hK (fun _ => Go.Conc.stepG_block) h
theorem k_inBlock (hK : md.Ok P K) {id : Nat} (h : K (G (b.at a k) cs) v) : K (G (b.at a (.inBlock id :: k)) cs) v := ctl hK (fun _ => Go.Conc.stepG_inBlock) h
theorem k_loop (hK : md.Ok P K) {x : Code} (h : K (G (b.at a (.code x :: .inLoop x :: k)) cs) v) : K (G (b.at a (.code (.loop x) :: k)) cs) v := ctl hK (fun _ => Go.Conc.stepG_loop) h
theorem k_inLoop (hK : md.Ok P K) {x : Code} (h : K (G (b.at a (.code x :: .inLoop x :: k)) cs) v) : K (G (b.at a (.inLoop x :: k)) cs) v := ctl hK (fun _ => Go.Conc.stepG_inLoop) h
theorem k_exit (hK : md.Ok P K) {id : Nat} {k' : List Item} (he : exitTo id k = some k') (h : K (G (b.at a k') cs) v) : K (G (b.at a (.code (.exit id) :: k)) cs) v := ctl hK (fun _ => Go.Conc.stepG_exit he) h
theorem k_skip (hK : md.Ok P K) (h : K (G (b.at a k) cs) v) : K (G (b.at a (.code .skip :: k)) cs) v := ctl hK (fun _ => Go.Conc.stepG_skip) h
theorem k_end (hK : md.Ok P K) {ops : Array Oper} (h : K (G (b.at a k) cs) v) : K (G (b.at a (.inRegion ops [] :: k)) cs) v := ctl hK (fun _ => Go.Conc.stepG_region_end) h
theorem k_region (hK : md.Ok P K) {id : Nat} {ops : Array Oper} (h : K (G (b.at a (.inRegion ops (List.range ops.size) :: k)) cs) v) : K (G (b.at a (.code (.region id ops false) :: k)) cs) v := ctl hK (fun _ => Go.Conc.stepG_region) h
theorem k_cond (hK : md.Ok P K) {N : Nat} (hS : Sim ν N w0 S X0 s a v β) {t : Nat} {x y : Code} {d : Bool} (he : s.env t = .v (.bool d)) (h : K (G (b.at a (.code (if d then x else y) :: k)) cs) v) : K (G (b.at a (.code (.cond (.tmp t) x y) :: k)) cs) v := by
  refine ctl hK (fun _ => Go.Conc.stepG_cond (t := d) ?_) h
  have := hS.env t
  rw [he] at this
  exact this.inv_v
end
end Go.Av

/-
  The sender of SetFunctor.slots: it makes the rows and sends them, closes the end and leaves.
-/
namespace Go.Av
set_option linter.unusedSectionVars false
set_option linter.unusedSimpArgs false
set_option linter.unusedVariables false
open Go.Conc (G)

/-- Its regions. -/
structure ChP where
  r0 : Array Oper
  r1 : Array Oper
  r2 : Array Oper
  r3 : Array Oper
  r4 : Array Oper
  r5 : Array Oper
  r6 : Array Oper
  r7 : Array Oper
  r8 : Array Oper
  r9 : Array Oper
  r10 : Array Oper
  r11 : Array Oper
  r12 : Array Oper
namespace ChP
variable (p : ChP)
def L4 : Code := .seq (.region 7 p.r7 false) (.seq (.cond (.tmp 36) .skip (.exit 4)) (.seq (.block 5 (.seq (.region 8 p.r8 false) (.region 9 p.r9 false))) (.region 10 p.r10 false)))
def B3 : Code := .seq (.region 5 p.r5 false) (.seq (.region 6 p.r6 false) (.block 4 (.loop p.L4)))
def L2 : Code := .seq (.region 4 p.r4 false) (.seq (.cond (.tmp 25) .skip (.exit 2)) (.seq (.block 3 p.B3) (.region 11 p.r11 false)))
def L0 : Code := .seq (.seq (.region 1 p.r1 false) (.cond (.tmp 14) .skip (.exit 0))) (.seq (.block 1 (.seq (.region 3 p.r3 true) (.block 2 (.loop p.L2)))) (.region 2 p.r2 false))
def all : Code := .seq (.seq (.region 0 p.r0 false) (.block 0 (.loop p.L0))) (.region 12 p.r12 false)
end ChP
def ChP.of : Code → Option ChP
  | .seq (.seq (.region 0 r0 false) (.block 0 (.loop (.seq (.seq (.region 1 r1 false) (.cond (.tmp 14) .skip (.exit 0))) (.seq (.block 1 (.seq (.region 3 r3 true) (.block 2 (.loop (.seq (.region 4 r4 false) (.seq (.cond (.tmp 25) .skip (.exit 2)) (.seq (.block 3 (.seq (.region 5 r5 false) (.seq (.region 6 r6 false) (.block 4 (.loop (.seq (.region 7 r7 false) (.seq (.cond (.tmp 36) .skip (.exit 4)) (.seq (.block 5 (.seq (.region 8 r8 false) (.region 9 r9 false))) (.region 10 r10 false))))))))) (.region 11 r11 false)))))))) (.region 2 r2 false)))))) (.region 12 r12 false) => some ⟨r0, r1, r2, r3, r4, r5, r6, r7, r8, r9, r10, r11, r12⟩
  | _ => none
theorem ChP.of_eq {c : Code} {p : ChP} (h : ChP.of c = some p) : c = p.all := by
  unfold ChP.of at h
  split at h
  · cases h; rfl
  · cases h

def isSend (o : Oper) : Bool := (match o.op with | .send (.tmp 38) (.tmp 42) => true | _ => false) && o.dst.isNone && o.guard.isNone
def isClose (o : Oper) : Bool := (match o.op with | .call { callee := .builtin .close, args, .. } => (match args.toList with | [.tmp 45] => true | _ => false) | _ => false) && o.dst.isNone && o.guard.isNone

def mkA (d : Nat) (k : AK) : Aop := ⟨some d, none, k, true⟩
namespace ChL
def l0 : List Aop := [mkA 4 (.p .mov [.c (int 0)])]
def l1 : List Aop := [mkA 8 (.p .mov [.t 4]), mkA 9 (.p (.ld none) [.t 0]), mkA 10 (.p .nck [.t 9]), mkA 11 (.p (.fad 0) [.t 10]), mkA 12 (.p (.fad 0) [.t 11]), mkA 13 (.p (.ld none) [.t 12]), mkA 14 (.p (.bin .lss) [.t 8, .t 13])]
def l2 : List Aop := [mkA 15 (.p .mov [.t 4]), mkA 16 (.p (.bin .add) [.t 15, .c (int 1)]), mkA 4 (.p .mov [.t 16])]
def l3 : List Aop := [mkA 17 (.p (.ld none) [.t 0]), mkA 18 (.p .nck [.t 17]), mkA 19 (.p (.fad 0) [.t 18]), mkA 20 (.p (.ld none) [.t 1]), mkA 21 (.p .mov [.t 4]), mkA 22 (.call (.f 33) [.t 19, .t 20, .t 21]), mkA 23 (.p .len [.t 22]), mkA 24 (.p .mov [.c (int 0)])]
def l4 : List Aop := [mkA 25 (.p (.bin .lss) [.t 24, .t 23])]
def l5 : List Aop := [mkA 26 (.p (.iad 1) [.t 22, .t 24]), mkA 27 (.p (.ld none) [.t 26]), mkA 6 (.p .mov [.t 27])]
def l6 : List Aop := [mkA 28 (.p (.ld none) [.t 0]), mkA 29 (.p .nck [.t 28]), mkA 30 (.p (.fad 5) [.t 29]), mkA 31 (.p (.ld none) [.t 30]), mkA 32 (.p .mov [.t 4]), mkA 33 (.p (.iad 1) [.t 31, .t 32]), mkA 34 (.p (.ld none) [.t 33]), mkA 35 (.p .mov [.c (int 0)])]
def l7 : List Aop := [mkA 36 (.p (.bin .lss) [.t 35, .t 34])]
def l8 : List Aop := [mkA 37 (.p .mov [.t 35]), mkA 7 (.p .mov [.t 37])]
def l9 : List Aop := [mkA 38 (.p (.ld none) [.t 2]), mkA 39 (.p .mov [.t 4]), mkA 40 (.p .mov [.t 6]), mkA 41 (.p .mov [.t 7]), mkA 42 (.mslm 1 3 [int 0, int 0, int 0] [(0, 1), (1, 1), (2, 1)] [.t 39, .t 40, .t 41])]
def l10 : List Aop := [mkA 43 (.p (.bin .add) [.t 35, .c (int 1)]), mkA 35 (.p .mov [.t 43])]
def l11 : List Aop := [mkA 44 (.p (.bin .add) [.t 24, .c (int 1)]), mkA 24 (.p .mov [.t 44])]
def l12 : List Aop := [mkA 45 (.p (.ld none) [.t 3])]
def all : List (List Aop) := [l0, l1, l2, l3, l4, l5, l6, l7, l8, l9, l10, l11, l12]
end ChL
/-- What the sender's code reads as. -/
def chk (T : Tr) (c : Code) : Option (List (List Aop)) :=
  match ChP.of c with
  | some p => if p.r9.size == 6 && p.r12.size == 2 && (p.r9[5]?).any isSend && (p.r12[1]?).any isClose then
      [T.region p.r0 false, T.region p.r1 false, T.region p.r2 false, T.region p.r3 true, T.region p.r4 false, T.region p.r5 false, T.region p.r6 false, T.region p.r7 false, T.region p.r8 false, (p.r9.toList.take 5).mapM (T.oper p.r9 true), T.region p.r10 false, T.region p.r11 false, (p.r12.toList.take 1).mapM (T.oper p.r12 true)].mapM id
    else none
  | none => none
structure ChOk (T : Tr) (p : ChP) : Prop where
  s9 : p.r9.size = 6
  s12 : p.r12.size = 2
  snd : ∃ o, p.r9[5]? = some o ∧ isSend o = true
  cls : ∃ o, p.r12[1]? = some o ∧ isClose o = true
  h0 : T.region p.r0 false = some ChL.l0
  h1 : T.region p.r1 false = some ChL.l1
  h2 : T.region p.r2 false = some ChL.l2
  h3 : T.region p.r3 true = some ChL.l3
  h4 : T.region p.r4 false = some ChL.l4
  h5 : T.region p.r5 false = some ChL.l5
  h6 : T.region p.r6 false = some ChL.l6
  h7 : T.region p.r7 false = some ChL.l7
  h8 : T.region p.r8 false = some ChL.l8
  h9 : (p.r9.toList.take 5).mapM (T.oper p.r9 true) = some ChL.l9
  h10 : T.region p.r10 false = some ChL.l10
  h11 : T.region p.r11 false = some ChL.l11
  h12 : (p.r12.toList.take 1).mapM (T.oper p.r12 true) = some ChL.l12
theorem chk_ok {T : Tr} {c : Code} (h : chk T c = some ChL.all) : ∃ p, c = p.all ∧ ChOk T p := by
  unfold chk at h
  split at h
  · rename_i p hp
    split at h
    · rename_i hc
      simp only [Bool.and_eq_true, beq_iff_eq, Option.any_eq_true] at hc
      obtain ⟨⟨⟨c1, c2⟩, c3⟩, c4⟩ := hc
      simp only [List.mapM_cons, List.mapM_nil, Option.pure_def, Option.bind_eq_bind, id_eq] at h
      obtain ⟨x0, g0, h⟩ := bind_some h
      obtain ⟨y, h, e⟩ := bind_some h
      obtain ⟨x1, g1, h⟩ := bind_some h
      obtain ⟨y1, h, e1⟩ := bind_some h
      obtain ⟨x2, g2, h⟩ := bind_some h
      obtain ⟨y2, h, e2⟩ := bind_some h
      obtain ⟨x3, g3, h⟩ := bind_some h
      obtain ⟨y3, h, e3⟩ := bind_some h
      obtain ⟨x4, g4, h⟩ := bind_some h
      obtain ⟨y4, h, e4⟩ := bind_some h
      obtain ⟨x5, g5, h⟩ := bind_some h
      obtain ⟨y5, h, e5⟩ := bind_some h
      obtain ⟨x6, g6, h⟩ := bind_some h
      obtain ⟨y6, h, e6⟩ := bind_some h
      obtain ⟨x7, g7, h⟩ := bind_some h
      obtain ⟨y7, h, e7⟩ := bind_some h
      obtain ⟨x8, g8, h⟩ := bind_some h
      obtain ⟨y8, h, e8⟩ := bind_some h
      obtain ⟨x9, g9, h⟩ := bind_some h
      obtain ⟨y9, h, e9⟩ := bind_some h
      obtain ⟨x10, g10, h⟩ := bind_some h
      obtain ⟨y10, h, e10⟩ := bind_some h
      obtain ⟨x11, g11, h⟩ := bind_some h
      obtain ⟨y11, h, e11⟩ := bind_some h
      obtain ⟨x12, g12, h⟩ := bind_some h
      obtain ⟨y12, h, e12⟩ := bind_some h
      cases h; cases e12; cases e11; cases e10; cases e9; cases e8; cases e7; cases e6; cases e5; cases e4; cases e3; cases e2; cases e1; cases e
      exact ⟨p, ChP.of_eq hp, c1, c2, c3, c4, g0, g1, g2, g3, g4, g5, g6, g7, g8, g9, g10, g11, g12⟩
    · cases h
  · cases h
end Go.Av

/-
  The walk of the sender.
-/
namespace Go.Av
set_option linter.unusedSectionVars false
set_option linter.unusedSimpArgs false
set_option linter.unusedVariables false
open Go.Conc (G scase closeEvents QuitsD)

def hrows (rs : List (List Int)) : Hp := fun o => (rs[o]?).map ints
theorem hrows_snoc (rs : List (List Int)) (r : List Int) : hput (hrows rs) rs.length (some (ints r)) = hrows (rs ++ [r]) := by
  funext o
  simp only [hput, hrows]
  by_cases h : o = rs.length
  · subst h; simp
  · rw [if_neg h]
    by_cases h' : o < rs.length
    · rw [List.getElem?_append_left h']
    · rw [List.getElem?_eq_none (by omega), List.getElem?_eq_none (by simp; omega)]

/-- Rows that have been made and are held in values. -/
structure Held (ν : Nat → FuncId) (B : Nat) (S : Nat → Prop) (rs : List (List Int)) (l : List Value) (β : Nat → Nat) (v : World) : Prop where
  objs : Objs ν B ⟨β, hrows rs, rs.length, v, S⟩
  len : l.length = rs.length
  reps : ∀ i x, l[i]? = some x → Rep ν ⟨β, hrows rs, rs.length, v, S⟩ (.ms i 0 3 1) x

section
local instance chMd : Md := free false
variable {T : Tr} {ν : Nat → FuncId} {w0 : World} {S : Nat → Prop} {fc : List AV} {x : Int} {c e : Nat} {rs : List (List Int)} {l : List Value} {s s' : St} {a a' : Act} {v v' : World} {β β' : Nat → Nat}

/-- The sender between two segments. -/
structure CS (ν : Nat → FuncId) (nt : Nat) (w0 : World) (S : Nat → Prop) (fc : List AV) (x : Int) (c e : Nat) (rs : List (List Int)) (l : List Value) (s : St) (a : Act) (v : World) (β : Nat → Nat) : Prop where
  sim : Sim ν nt w0 S ⟨β, s.heap, s.next, v, S⟩ s a v β
  heap : s.heap = hrows rs
  next : s.next = rs.length
  len : l.length = rs.length
  reps : ∀ i x, l[i]? = some x → Rep ν ⟨β, s.heap, s.next, v, S⟩ (.ms i 0 3 1) x
  e0 : s.env 0 = .ptr [.ptr fc 0] 0
  e1 : s.env 1 = .ptr [int x] 0
  e2 : s.env 2 = .ptr [.v (.chan (some c))] 0
  e3 : s.env 3 = .ptr [.v (.chan (some e))] 0
theorem CS.held {nt : Nat} (h : CS ν nt w0 S fc x c e rs l s a v β) : Held ν w0.heap.size S rs l β v := by
  have h1 := h.sim.objs
  have h2 := h.reps
  rw [h.heap, h.next] at h1 h2
  exact ⟨h1, h.len, h2⟩
theorem CS.move {nt : Nat} (h : CS ν nt w0 S fc x c e rs l s a v β) (hS : Sim ν nt w0 S ⟨β, s.heap, s.next, v, S⟩ s' a' v' β') (h1 : s'.heap = s.heap) (h2 : s'.next = s.next) (h3 : ∀ t, t < 4 → s'.env t = s.env t) : CS ν nt w0 S fc x c e rs l s' a' v' β' :=
  ⟨hS.base, h1.trans h.heap, h2.trans h.next, h.len, fun i x hx => (h.reps i x hx).mono hS.ext, (h3 0 (by omega)).trans h.e0, (h3 1 (by omega)).trans h.e1, (h3 2 (by omega)).trans h.e2, (h3 3 (by omega)).trans h.e3⟩

variable {K : Goroutine → World → Prop} {b : Frame} {k : List Item} {cs : List Frame}
theorem CS.seg (h : CS ν T.nt w0 S fc x c e rs l s a v β) (hK : Clv T.P false Oth K) (hb : b.kind ≠ .early) (hν : ∀ f id, T.num f = some id → ν id = f) {id : Nat} {ops : Array Oper} {draw : Bool} {L : List Aop} (hr : T.region ops draw = some L) {Q : St → Prop}
    (hs : opsK (OkM T.P ν) L s fun s' => s'.heap = s.heap ∧ s'.next = s.next ∧ (∀ t, t < 4 → s'.env t = s.env t) ∧ Q s')
    (hk : ∀ s' a' v' β', Q s' → CS ν T.nt w0 S fc x c e rs l s' a' v' β' → K (G (b.at a' k) cs) v') : K (G (b.at a (.code (.region id ops draw) :: k)) cs) v :=
  Av.seg hK hb hν hr h.sim hs fun s' a' v' β' ⟨h1, h2, h3, hq⟩ hS => hk s' a' v' β' hq (h.move hS h1 h2 h3)

variable {n : Nat} {sets : List Int} {hm : Nat → List Int}
/-- What is known of the functor. -/
structure FcOk (ν : Nat → FuncId) (P : Program) (fc : List AV) (x : Int) (n : Nat) (sets : List Int) (hm : Nat → List Int) : Prop where
  f0 : fc[0]? = some (int n)
  f5 : fc[5]? = some (islice sets)
  hom : ∀ y : Nat, y < n → Fz (OkM P ν) 33 [.ptr fc 0, int x, int y] (islice (hm y))
  sl : n ≤ sets.length
  nb : n < 9223372036854775807
  hb : ∀ y, y < n → (hm y).length < 9223372036854775807
  sb : ∀ z ∈ sets, z < 9223372036854775807

theorem ex_l0 {s : St} : opsK (OkM T.P ν) ChL.l0 s fun s' => s'.heap = s.heap ∧ s'.next = s.next ∧ (∀ t, t < 4 → s'.env t = s.env t) ∧ s'.env 4 = int (0 : Nat) := by
  simp [ChL.l0, mkA, opsK, opK, stepK, OptK, pvf, ev, St.put, put]
  intro t ht e; omega
theorem ex_l1 (hF : FcOk ν T.P fc x n sets hm) {y : Nat} (e0 : s.env 0 = .ptr [.ptr fc 0] 0) (e4 : s.env 4 = int y) :
    opsK (OkM T.P ν) ChL.l1 s fun s' => s'.heap = s.heap ∧ s'.next = s.next ∧ (∀ t, t < 4 → s'.env t = s.env t) ∧ s'.env 14 = .v (.bool (decide (y < n))) ∧ s'.env 4 = int y := by
  have f0 := hF.f0
  simp only [int] at f0 e4 ⊢
  simp [ChL.l1, mkA, opsK, opK, stepK, OptK, pvf, pLd, pNck, pFad, pBin, intBin, ev, St.put, put, e0, e4, f0]
  intro t ht
  repeat rw [if_neg (by omega)]
theorem wrap1 {y : Nat} (h : y < 9223372036854775807) : IntKind.i64.wrap ((y : Int) + 1) = ((y + 1 : Nat) : Int) := wrap_succ h
theorem ex_l2 {y : Nat} (hy : y < 9223372036854775807) (e4 : s.env 4 = int y) :
    opsK (OkM T.P ν) ChL.l2 s fun s' => s'.heap = s.heap ∧ s'.next = s.next ∧ (∀ t, t < 4 → s'.env t = s.env t) ∧ s'.env 4 = int (y + 1 : Nat) := by
  have hw := wrap1 hy
  simp only [int] at e4 ⊢
  simp [ChL.l2, mkA, opsK, opK, stepK, OptK, pvf, pBin, intBin, ev, St.put, put, e4, int, hw]
  intro t ht
  repeat rw [if_neg (by omega)]
theorem ex_l3 (hF : FcOk ν T.P fc x n sets hm) {y : Nat} (hy : y < n) (e0 : s.env 0 = .ptr [.ptr fc 0] 0) (e1 : s.env 1 = .ptr [int x] 0) (e4 : s.env 4 = int y) :
    opsK (OkM T.P ν) ChL.l3 s fun s' => s'.heap = s.heap ∧ s'.next = s.next ∧ (∀ t, t < 4 → s'.env t = s.env t) ∧ s'.env 4 = int y ∧ s'.env 22 = islice (hm y) ∧ s'.env 23 = int (hm y).length ∧ s'.env 24 = int (0 : Nat) := by
  simp [ChL.l3, mkA, opsK, opK, stepK, OptK, pvf, pLd, pNck, pFad, ev, St.put, put, e0, e1, e4, fnOf, frzL_ptr, frzL_int, frzL_nil]
  left
  refine ⟨_, hF.hom y hy, ?_⟩
  simp [pLen, islice, int, ints]
  intro t ht
  repeat rw [if_neg (by omega)]
theorem ex_l4 {j m : Nat} (e23 : s.env 23 = int m) (e24 : s.env 24 = int j) :
    opsK (OkM T.P ν) ChL.l4 s fun s' => s'.heap = s.heap ∧ s'.next = s.next ∧ (∀ t, t < 4 → s'.env t = s.env t) ∧ s'.env 25 = .v (.bool (decide (j < m))) ∧ s'.env 4 = s.env 4 ∧ s'.env 22 = s.env 22 ∧ s'.env 23 = s.env 23 ∧ s'.env 24 = s.env 24 := by
  simp only [int] at e23 e24
  simp [ChL.l4, mkA, opsK, opK, stepK, OptK, pvf, pBin, intBin, ev, St.put, put, e23, e24]
  intro t ht e; omega
theorem ex_l5 {hs : List Int} {j : Nat} (hj : j < hs.length) (e22 : s.env 22 = islice hs) (e24 : s.env 24 = int j) :
    opsK (OkM T.P ν) ChL.l5 s fun s' => s'.heap = s.heap ∧ s'.next = s.next ∧ (∀ t, t < 4 → s'.env t = s.env t) ∧ s'.env 6 = int (hs.getD j 0) ∧ s'.env 4 = s.env 4 ∧ s'.env 22 = s.env 22 ∧ s'.env 23 = s.env 23 ∧ s'.env 24 = s.env 24 := by
  simp only [int] at e24
  simp [ChL.l5, mkA, opsK, opK, stepK, OptK, pvf, pLd, pIad, ev, St.put, put, e22, e24, islice, ints_get, hj, int]
  intro t ht
  repeat rw [if_neg (by omega)]
theorem ex_l6 (hF : FcOk ν T.P fc x n sets hm) {y : Nat} (hy : y < n) (e0 : s.env 0 = .ptr [.ptr fc 0] 0) (e4 : s.env 4 = int y) :
    opsK (OkM T.P ν) ChL.l6 s fun s' => s'.heap = s.heap ∧ s'.next = s.next ∧ (∀ t, t < 4 → s'.env t = s.env t) ∧ s'.env 34 = int (sets.getD y 0) ∧ s'.env 35 = int (0 : Nat) ∧ s'.env 4 = s.env 4 ∧ s'.env 6 = s.env 6 ∧ s'.env 22 = s.env 22 ∧ s'.env 23 = s.env 23 ∧ s'.env 24 = s.env 24 := by
  have f5 := hF.f5
  have hy' : y < sets.length := Nat.lt_of_lt_of_le hy hF.sl
  simp only [int] at e4
  simp [ChL.l6, mkA, opsK, opK, stepK, OptK, pvf, pLd, pNck, pFad, pIad, ev, St.put, put, e0, e4, f5, islice, ints_get, hy', int]
  intro t ht
  repeat rw [if_neg (by omega)]
theorem ex_l7 {i : Nat} {m : Int} (e34 : s.env 34 = int m) (e35 : s.env 35 = int i) :
    opsK (OkM T.P ν) ChL.l7 s fun s' => s'.heap = s.heap ∧ s'.next = s.next ∧ (∀ t, t < 4 → s'.env t = s.env t) ∧ s'.env 36 = .v (.bool (decide ((i : Int) < m))) ∧ s'.env 4 = s.env 4 ∧ s'.env 6 = s.env 6 ∧ s'.env 22 = s.env 22 ∧ s'.env 23 = s.env 23 ∧ s'.env 24 = s.env 24 ∧ s'.env 34 = s.env 34 ∧ s'.env 35 = s.env 35 := by
  simp only [int] at e34 e35
  simp [ChL.l7, mkA, opsK, opK, stepK, OptK, pvf, pBin, intBin, ev, St.put, put, e34, e35]
  intro t ht e; omega
theorem ex_l8 {i : Nat} (e35 : s.env 35 = int i) :
    opsK (OkM T.P ν) ChL.l8 s fun s' => s'.heap = s.heap ∧ s'.next = s.next ∧ (∀ t, t < 4 → s'.env t = s.env t) ∧ s'.env 7 = int i ∧ s'.env 4 = s.env 4 ∧ s'.env 6 = s.env 6 ∧ s'.env 22 = s.env 22 ∧ s'.env 23 = s.env 23 ∧ s'.env 24 = s.env 24 ∧ s'.env 34 = s.env 34 ∧ s'.env 35 = s.env 35 := by
  simp [ChL.l8, mkA, opsK, opK, stepK, OptK, pvf, ev, St.put, put, e35]
  intro t ht
  repeat rw [if_neg (by omega)]
theorem ex_l9 {y h i : Int} (e2 : s.env 2 = .ptr [.v (.chan (some c))] 0) (e4 : s.env 4 = int y) (e6 : s.env 6 = int h) (e7 : s.env 7 = int i) :
    opsK (OkM T.P ν) ChL.l9 s fun s' => s'.heap = hput s.heap s.next (some (ints [y, h, i])) ∧ s'.next = s.next + 1 ∧ (∀ t, t < 4 → s'.env t = s.env t) ∧ s'.env 38 = .v (.chan (some c)) ∧ s'.env 42 = .ms s.next 0 3 1 ∧ s'.env 4 = s.env 4 ∧ s'.env 6 = s.env 6 ∧ s'.env 22 = s.env 22 ∧ s'.env 23 = s.env 23 ∧ s'.env 24 = s.env 24 ∧ s'.env 34 = s.env 34 ∧ s'.env 35 = s.env 35 := by
  simp only [int] at e4 e6 e7
  simp [ChL.l9, mkA, opsK, opK, stepK, OptK, pvf, pLd, ev, St.put, put, e2, e4, e6, e7, mslTo, lay, AV.cells, AV.one, Value.oneCell', int, ints]
  refine ⟨_, _, _, ⟨rfl, rfl, rfl⟩, rfl, rfl, ?_, rfl⟩
  intro t ht
  repeat rw [if_neg (by omega)]
theorem ex_l10 {i : Nat} (hi : i < 9223372036854775807) (e35 : s.env 35 = int i) :
    opsK (OkM T.P ν) ChL.l10 s fun s' => s'.heap = s.heap ∧ s'.next = s.next ∧ (∀ t, t < 4 → s'.env t = s.env t) ∧ s'.env 35 = int (i + 1 : Nat) ∧ s'.env 4 = s.env 4 ∧ s'.env 6 = s.env 6 ∧ s'.env 22 = s.env 22 ∧ s'.env 23 = s.env 23 ∧ s'.env 24 = s.env 24 ∧ s'.env 34 = s.env 34 := by
  have hw := wrap1 hi
  simp only [int] at e35
  simp [ChL.l10, mkA, opsK, opK, stepK, OptK, pvf, pBin, intBin, ev, St.put, put, e35, int, hw]
  intro t ht
  repeat rw [if_neg (by omega)]
theorem ex_l11 {j : Nat} (hj : j < 9223372036854775807) (e24 : s.env 24 = int j) :
    opsK (OkM T.P ν) ChL.l11 s fun s' => s'.heap = s.heap ∧ s'.next = s.next ∧ (∀ t, t < 4 → s'.env t = s.env t) ∧ s'.env 24 = int (j + 1 : Nat) ∧ s'.env 4 = s.env 4 ∧ s'.env 22 = s.env 22 ∧ s'.env 23 = s.env 23 := by
  have hw := wrap1 hj
  simp only [int] at e24
  simp [ChL.l11, mkA, opsK, opK, stepK, OptK, pvf, pBin, intBin, ev, St.put, put, e24, int, hw]
  intro t ht
  repeat rw [if_neg (by omega)]
theorem ex_l12 (e3 : s.env 3 = .ptr [.v (.chan (some e))] 0) :
    opsK (OkM T.P ν) ChL.l12 s fun s' => s'.heap = s.heap ∧ s'.next = s.next ∧ (∀ t, t < 4 → s'.env t = s.env t) ∧ s'.env 45 = .v (.chan (some e)) := by
  simp [ChL.l12, mkA, opsK, opK, stepK, OptK, pvf, pLd, ev, St.put, put, e3]
  intro t ht e; omega

/-! ### the rows -/
def rV (y h : Int) : Nat → Nat → List (List Int)
  | _, 0 => []
  | i, m + 1 => [y, h, (i : Int)] :: rV y h (i + 1) m
def rH (y : Int) (N : Nat) : List Int → List (List Int)
  | [] => []
  | h :: r => rV y h 0 N ++ rH y N r
def rY (sets : List Int) (hm : Nat → List Int) : Nat → Nat → List (List Int)
  | _, 0 => []
  | y, m + 1 => rH y (sets.getD y 0).toNat (hm y) ++ rY sets hm (y + 1) m

theorem rV_len (y h : Int) : ∀ m i, (rV y h i m).length = m
  | 0, _ => rfl
  | m + 1, i => by simp [rV, rV_len y h m]
/-- What has been sent up to now. -/
def SentZ (Z : Nat) (L : List Value) : Prop := L.length ≤ Z ∧ ∀ x ∈ L, x.oneCell' = true

/-- What is true of the sender's script. -/
def Fin1 (ν : Nat → FuncId) (B : Nat) (S : Nat → Prop) (R : List (List Int)) (l : List Value) (v : World) : Prop := ∃ β, Held ν B S R l β v
theorem Fin1.st {B : Nat} {R : List (List Int)} (h : Fin1 ν B S R l v) (ho : Oth v v') : Fin1 ν B S R l v' := by
  obtain ⟨β, h⟩ := h
  refine ⟨β, h.objs.rl v' ho, h.len, fun i x hx => (h.reps i x hx).mono (Ext.rl _ v' ho h.objs.lt)⟩

section
variable {p : ChP} (hν : ∀ f id, T.num f = some id → ν id = f) (hnt : T.nt = 46) (hp : ChOk T p) (hF : FcOk ν T.P fc x n sets hm) {Z : Nat}
variable {Fin : List Value → World → Prop} (hFin : ∀ l v v', Fin l v → Oth v v' → Fin l v') (hb : b.kind ≠ .early)

include hFin in
theorem hK (l : List Value) : Clv T.P false Oth (Pdr T.P c e (SentZ Z) Fin l) := ⟨fun _ _ hr h => Pdr.go hr h, fun _ _ _ h ho => h.st hFin ho⟩

/-- What of the temporaries the inner loops leave. -/
structure E5 (s : St) (y h : Int) (hs : List Int) (j : Nat) : Prop where
  e4 : s.env 4 = int y
  e6 : s.env 6 = int h
  e22 : s.env 22 = islice hs
  e23 : s.env 23 = int hs.length
  e24 : s.env 24 = int j

include hν hp hFin hb in
theorem loop4 {y h : Int} {hs : List Int} {j : Nat} {z : Int} {N : Nat} (hz : z.toNat = N) (hzb : z < 9223372036854775807) : ∀ (m i : Nat) (rs : List (List Int)) (l : List Value) (s : St) (a : Act) (v : World) (β : Nat → Nat), rs.length + m ≤ Z → i + m = N → CS ν T.nt w0 S fc x c e rs l s a v β → E5 s y h hs j → s.env 34 = int z → s.env 35 = int i →
    (∀ l' s' a' v' β', CS ν T.nt w0 S fc x c e (rs ++ rV y h i m) l' s' a' v' β' → E5 s' y h hs j → Pdr T.P c e (SentZ Z) Fin l' (G (b.at a' k) cs) v') →
    Pdr T.P c e (SentZ Z) Fin l (G (b.at a (.code p.L4 :: .inLoop p.L4 :: .inBlock 4 :: k)) cs) v := by
  intro m
  induction m with
  | zero =>
    intro i rs l s a v β hbd him hC hE e34 e35 hk
    have hK := hK (T := T) (c := c) (e := e) (Z := Z) hFin l
    refine k_seq hK (hC.seg hK hb hν hp.h7 (ex_l7 e34 e35) fun s1 a1 v1 β1 ⟨q36, q4, q6, q22, q23, q24, q34, q35⟩ hC => ?_)
    refine k_seq hK (k_cond hK hC.sim (d := false) (by rw [q36]; congr 2; simp; omega) ?_)
    simp only [Bool.false_eq_true, if_false]
    refine k_exit hK (k' := k) rfl ?_
    have := hk l s1 a1 v1 β1 (by simpa [rV] using hC) ⟨q4.trans hE.e4, q6.trans hE.e6, q22.trans hE.e22, q23.trans hE.e23, q24.trans hE.e24⟩
    exact this
  | succ m ih =>
    intro i rs l s a v β hbd him hC hE e34 e35 hk
    have hK1 := hK (T := T) (c := c) (e := e) (Z := Z) hFin l
    refine k_seq hK1 (hC.seg hK1 hb hν hp.h7 (ex_l7 e34 e35) fun s1 a1 v1 β1 ⟨q36, q4, q6, q22, q23, q24, q34, q35⟩ hC => ?_)
    refine k_seq hK1 (k_cond hK1 hC.sim (d := true) (by rw [q36]; congr 2; simp; omega) ?_)
    simp only [if_true]
    refine k_skip hK1 (k_seq hK1 (k_block hK1 (k_seq hK1 (hC.seg hK1 hb hν hp.h8 (ex_l8 (q35.trans e35)) fun s2 a2 v2 β2 ⟨p7, p4, p6, p22, p23, p24, p34, p35⟩ hC => ?_))))
    refine k_region hK1 ?_
    rw [hp.s9, show List.range 6 = List.range' 0 (p.r9.toList.take 5).length ++ [5] by rw [List.length_take, Array.length_toList, hp.s9]; rfl]
    refine seg_ops hK1 hb hν hp.h9 (fun j hj => by
      have : j < 5 := by simpa [hp.s9] using hj
      rw [List.getElem?_take_of_lt this, Nat.zero_add]; simp) hC.sim (ex_l9 hC.e2 (p4.trans (q4.trans hE.e4)) (p6.trans (q6.trans hE.e6)) p7) fun s3 a3 v3 β3 ⟨g1, g2, g3, g38, g42, g4, g6, g22, g23, g24, g34, g35⟩ hS => ?_
    obtain ⟨o, ho, hso⟩ := hp.snd
    simp only [isSend, Bool.and_eq_true, Option.isNone_iff_eq_none] at hso
    obtain ⟨⟨hop, hdst⟩, hgd⟩ := hso
    have hop' : o.op = .send (.tmp 38) (.tmp 42) := by
      split at hop
      · assumption
      · cases hop
    have e38 : a3.eval (.tmp 38) = .chan (some c) := by have := hS.env 38; rw [g38] at this; exact this.inv_v
    have hrep := hS.env 42
    rw [g42] at hrep
    generalize hx : a3.tmps.getD 42 undef = w at hrep
    have hw : Region.wanted o (yielded p.r9 a3.tmps) = true := by simp [Region.wanted, hgd]
    have hbe : ∀ r, stepG T.P false (G (b.at a3 (.inRegion p.r9 [5] :: .inBlock 5 :: .code (.region 10 p.r10 false) :: .inLoop p.L4 :: .inBlock 4 :: k)) cs) r = .comm (G (b.at a3 (.inRegion p.r9 [5] :: .inBlock 5 :: .code (.region 10 p.r10 false) :: .inLoop p.L4 :: .inBlock 4 :: k)) cs) #[scase c w (.tuple #[])] true .send r #[] := by
      intro r
      rw [Go.Conc.stepG_comm ho hw hb (cases := #[scase c w (.tuple #[])]) (blocking := true) (shape := .send) (w' := r) (by
        simp only [Act.eval] at e38
        unfold execOp
        simp only [hop', Act.eval, e38, hx]
        rfl), Go.Conc.listed_none (by unfold execOp; simp only [hop']; rfl)]
    have hK2 := hK (T := T) (c := c) (e := e) (Z := Z) hFin (l ++ [w])
    have hl : s2.next = rs.length := hC.next
    have hh : s3.heap = hrows (rs ++ [[y, h, (i : Int)]]) := by rw [g1, hC.heap, hl, hrows_snoc]
    have hn3 : s3.next = (rs ++ [[y, h, (i : Int)]]).length := by rw [g2, hl]; simp
    have hC3 : CS ν T.nt w0 S fc x c e (rs ++ [[y, h, (i : Int)]]) (l ++ [w]) s3 a3 v3 β3 := by
      refine ⟨hS.base, hh, hn3, by simp [hC.len], fun q u hu => ?_, (g3 0 (by omega)).trans hC.e0, (g3 1 (by omega)).trans hC.e1, (g3 2 (by omega)).trans hC.e2, (g3 3 (by omega)).trans hC.e3⟩
      by_cases hq : q < l.length
      · rw [List.getElem?_append_left hq] at hu
        exact (hC.reps q u hu).mono hS.ext
      · have hq' : q = l.length := by
          have := (List.getElem?_eq_some_iff.1 hu).1
          simp at this; omega
        subst hq'
        simp at hu
        subst hu
        rw [hC.len, ← hl]
        exact hrep
    refine .send w (.tuple #[]) .send rfl hbe ⟨by rw [hC3.len]; simp; omega, fun u hu => by
      obtain ⟨q, hq⟩ := List.getElem?_of_mem hu
      exact (hC3.reps q u hq).inv_ms.2.1⟩ ?_
    rw [Go.Conc.finishComm_send, Go.Conc.served_G, ho]
    have ha : a3.put ((some o).bind (·.dst)) undef = a3 := by simp [hdst, Act.put]
    rw [ha]
    refine k_end hK2 (k_inBlock hK2 (hC3.seg hK2 hb hν hp.h10 (ex_l10 (i := i) (by omega) (g35.trans (p35.trans (q35.trans e35)))) fun s4 a4 v4 β4 ⟨f35, f4, f6, f22, f23, f24, f34⟩ hC4 => ?_))
    refine k_inLoop hK2 (ih (i + 1) _ _ s4 a4 v4 β4 (by simp; omega) (by omega) hC4 ⟨?_, ?_, ?_, ?_, ?_⟩ ?_ f35 fun l' s' a' v' β' hC' hE' => hk l' s' a' v' β' (by simpa [rV] using hC') hE')
    · exact f4.trans (g4.trans (p4.trans (q4.trans hE.e4)))
    · exact f6.trans (g6.trans (p6.trans (q6.trans hE.e6)))
    · exact f22.trans (g22.trans (p22.trans (q22.trans hE.e22)))
    · exact f23.trans (g23.trans (p23.trans (q23.trans hE.e23)))
    · exact f24.trans (g24.trans (p24.trans (q24.trans hE.e24)))
    · exact f34.trans (g34.trans (p34.trans (q34.trans e34)))

include hν hp hF hFin hb in
theorem loop2 {y : Nat} (hy : y < n) {hs : List Int} (hlen : hs.length < 9223372036854775807) : ∀ (t : List Int) (j : Nat) (rs : List (List Int)) (l : List Value) (s : St) (a : Act) (v : World) (β : Nat → Nat), rs.length + (rH y (sets.getD y 0).toNat t).length ≤ Z → hs.drop j = t → CS ν T.nt w0 S fc x c e rs l s a v β → s.env 4 = int y → s.env 22 = islice hs → s.env 23 = int hs.length → s.env 24 = int j →
    (∀ l' s' a' v' β', CS ν T.nt w0 S fc x c e (rs ++ rH y (sets.getD y 0).toNat t) l' s' a' v' β' → s'.env 4 = int y → Pdr T.P c e (SentZ Z) Fin l' (G (b.at a' k) cs) v') →
    Pdr T.P c e (SentZ Z) Fin l (G (b.at a (.code p.L2 :: .inLoop p.L2 :: .inBlock 2 :: k)) cs) v := by
  intro t
  induction t with
  | nil =>
    intro j rs l s a v β hbd hd hC e4 e22 e23 e24 hk
    have hK := hK (T := T) (c := c) (e := e) (Z := Z) hFin l
    have hj : hs.length ≤ j := List.drop_eq_nil_iff.1 hd
    refine k_seq hK (hC.seg hK hb hν hp.h4 (ex_l4 e23 e24) fun s1 a1 v1 β1 ⟨q25, q4, q22, q23, q24⟩ hC => ?_)
    refine k_seq hK (k_cond hK hC.sim (d := false) (by rw [q25]; congr 2; simp; omega) ?_)
    simp only [Bool.false_eq_true, if_false]
    refine k_exit hK (k' := k) rfl ?_
    exact hk l s1 a1 v1 β1 (by simpa [rH] using hC) (q4.trans e4)
  | cons h t ih =>
    intro j rs l s a v β hbd hd hC e4 e22 e23 e24 hk
    have hK1 := hK (T := T) (c := c) (e := e) (Z := Z) hFin l
    have hj : j < hs.length := by
      apply Nat.lt_of_not_le
      intro hx
      rw [List.drop_eq_nil_of_le hx] at hd; cases hd
    have hjd : hs.getD j 0 = h ∧ hs.drop (j + 1) = t := by
      rw [List.drop_eq_getElem_cons hj] at hd
      simp only [List.cons.injEq] at hd
      exact ⟨by simp [hj, hd.1], hd.2⟩
    refine k_seq hK1 (hC.seg hK1 hb hν hp.h4 (ex_l4 e23 e24) fun s1 a1 v1 β1 ⟨q25, q4, q22, q23, q24⟩ hC => ?_)
    refine k_seq hK1 (k_cond hK1 hC.sim (d := true) (by rw [q25]; congr 2; simp; omega) ?_)
    simp only [if_true]
    refine k_skip hK1 (k_seq hK1 (k_block hK1 (k_seq hK1 (hC.seg hK1 hb hν hp.h5 (ex_l5 hj (q22.trans e22) (q24.trans e24)) fun s2 a2 v2 β2 ⟨p6, p4, p22, p23, p24⟩ hC => ?_))))
    refine k_seq hK1 (hC.seg hK1 hb hν hp.h6 (ex_l6 hF hy hC.e0 (p4.trans (q4.trans e4))) fun s3 a3 v3 β3 ⟨g34, g35, g4, g6, g22, g23, g24⟩ hC => ?_)
    have hzb : sets.getD y 0 < 9223372036854775807 := by
      have hy' : y < sets.length := Nat.lt_of_lt_of_le hy hF.sl
      have := hF.sb (sets.getD y 0) (by rw [List.getD_eq_getElem?_getD, List.getElem?_eq_getElem hy']; exact List.getElem_mem hy')
      exact this
    refine k_block hK1 (k_loop hK1 (loop4 (y := y) (h := h) (hs := hs) (j := j) hν hp hFin hb rfl hzb (sets.getD y 0).toNat 0 rs l s3 a3 v3 β3 (by simp only [rH, rV_len, List.length_append] at hbd; omega) (Nat.zero_add _) hC ⟨g4.trans (p4.trans (q4.trans e4)), g6.trans (p6.trans (by rw [hjd.1])), g22.trans (p22.trans (q22.trans e22)), g23.trans (p23.trans (q23.trans e23)), g24.trans (p24.trans (q24.trans e24))⟩ g34 g35 fun l' s' a' v' β' hC' hE' => ?_))
    have hK2 := hK (T := T) (c := c) (e := e) (Z := Z) hFin l'
    refine k_inBlock hK2 (hC'.seg hK2 hb hν hp.h11 (ex_l11 (j := j) (by omega) hE'.e24) fun s4 a4 v4 β4 ⟨f24, f4, f22, f23⟩ hC4 => ?_)
    exact k_inLoop hK2 (ih (j + 1) _ _ s4 a4 v4 β4 (by simp only [rH, rV_len, List.length_append] at hbd ⊢; omega) hjd.2 hC4 (f4.trans hE'.e4) (f22.trans hE'.e22) (f23.trans hE'.e23) f24 fun l' s' a' v' β' hC' hE' => hk l' s' a' v' β' (by simpa [rH] using hC') hE')

include hν hp hF hFin hb in
theorem loop0 : ∀ (m y : Nat) (rs : List (List Int)) (l : List Value) (s : St) (a : Act) (v : World) (β : Nat → Nat), rs.length + (rY sets hm y m).length ≤ Z → y + m = n → CS ν T.nt w0 S fc x c e rs l s a v β → s.env 4 = int y →
    (∀ l' s' a' v' β', CS ν T.nt w0 S fc x c e (rs ++ rY sets hm y m) l' s' a' v' β' → Pdr T.P c e (SentZ Z) Fin l' (G (b.at a' k) cs) v') →
    Pdr T.P c e (SentZ Z) Fin l (G (b.at a (.code p.L0 :: .inLoop p.L0 :: .inBlock 0 :: k)) cs) v := by
  intro m
  induction m with
  | zero =>
    intro y rs l s a v β hbd hd hC e4 hk
    have hK := hK (T := T) (c := c) (e := e) (Z := Z) hFin l
    refine k_seq hK (k_seq hK (hC.seg hK hb hν hp.h1 (ex_l1 hF hC.e0 e4) fun s1 a1 v1 β1 ⟨q14, q4⟩ hC => ?_))
    refine k_cond hK hC.sim (d := false) (by rw [q14]; congr 2; simp; omega) ?_
    simp only [Bool.false_eq_true, if_false]
    refine k_exit hK (k' := k) rfl ?_
    exact hk l s1 a1 v1 β1 (by simpa [rY] using hC)
  | succ m ih =>
    intro y rs l s a v β hbd hd hC e4 hk
    have hK1 := hK (T := T) (c := c) (e := e) (Z := Z) hFin l
    have hy : y < n := by omega
    refine k_seq hK1 (k_seq hK1 (hC.seg hK1 hb hν hp.h1 (ex_l1 hF hC.e0 e4) fun s1 a1 v1 β1 ⟨q14, q4⟩ hC => ?_))
    refine k_cond hK1 hC.sim (d := true) (by rw [q14]; congr 2; simp; omega) ?_
    simp only [if_true]
    refine k_skip hK1 (k_seq hK1 (k_block hK1 (k_seq hK1 (hC.seg hK1 hb hν hp.h3 (ex_l3 hF hy hC.e0 hC.e1 q4) fun s2 a2 v2 β2 ⟨p4, p22, p23, p24⟩ hC => ?_))))
    refine k_block hK1 (k_loop hK1 (loop2 hν hp hF hFin hb hy (hF.hb y hy) (hm y) 0 rs l s2 a2 v2 β2 (by simp only [rY, List.length_append] at hbd; omega) rfl hC p4 p22 p23 p24 fun l' s' a' v' β' hC' h4' => ?_))
    have hK2 := hK (T := T) (c := c) (e := e) (Z := Z) hFin l'
    refine k_inBlock hK2 (hC'.seg hK2 hb hν hp.h2 (ex_l2 (y := y) (by have := hF.nb; omega) h4') fun s4 a4 v4 β4 f4 hC4 => ?_)
    exact k_inLoop hK2 (ih (y + 1) _ _ s4 a4 v4 β4 (by simp only [rY, List.length_append] at hbd ⊢; omega) (by omega) hC4 f4 fun l' s' a' v' β' hC' => hk l' s' a' v' β' (by simpa [rY] using hC'))
end

/-! ### all of it -/
/-- The sender's bottom frame. -/
def bot (P : Program) : Frame := { (default : Frame) with fn := P.funcs.size, defers := [], mode := .panicking [goexitEntry] }

theorem sender {p : ChP} {fn : Func} {f : FuncId} (hν : ∀ f id, T.num f = some id → ν id = f) (hp : ChOk T p) (hF : FcOk ν T.P fc x n sets hm) (hf : T.P.funcs[f]? = some fn) (hbody : fn.body = some p.all) (hnt : T.nt = fn.ntmps) (hres : fn.results = #[]) (hnr : fn.norace = false) (hN : fn.ntmps = 46) {Z : Nat} (hZ : (rY sets hm 0 n).length ≤ Z)
    (hname : (fn.name == "runtime.NumGoroutine") = false) {vs : Array Value} (hvs : vs.size = 4) (hB : ∀ b, w0.heap.size ≤ b → S b) (hb0 : Go.RowKit.Below w0.heap.size w0 v)
    (h0 : Rep ν ⟨fun _ => 0, hempty, 0, v, S⟩ (.ptr [.ptr fc 0] 0) (vs.getD 0 undef)) (h1 : Rep ν ⟨fun _ => 0, hempty, 0, v, S⟩ (.ptr [int x] 0) (vs.getD 1 undef))
    (h2 : Rep ν ⟨fun _ => 0, hempty, 0, v, S⟩ (.ptr [.v (.chan (some c))] 0) (vs.getD 2 undef)) (h3 : Rep ν ⟨fun _ => 0, hempty, 0, v, S⟩ (.ptr [.v (.chan (some e))] 0) (vs.getD 3 undef)) :
    Pdr T.P c e (SentZ Z) (Fin1 ν w0.heap.size S (rY sets hm 0 n)) [] (Go.Conc.born T.P { target := .fn (.func f) vs, args := #[] }) v := by
  let b : Frame := { (default : Frame) with fn := f, kind := .deferred }
  have hb : b.kind ≠ .early := by simp [b]
  have hFin : ∀ l v v', Fin1 ν w0.heap.size S (rY sets hm 0 n) l v → Oth v v' → Fin1 ν w0.heap.size S (rY sets hm 0 n) l v' := fun l v v' h ho => h.st ho
  have hst : ∀ w, stepG T.P false (Go.Conc.born T.P { target := .fn (.func f) vs, args := #[] }) w = .go (G (b.at ⟨vs ++ Array.replicate (46 - 4) undef, []⟩ [.code p.all]) [bot T.P]) w #[] := by
    intro w
    have hname' : fn.name ≠ "runtime.NumGoroutine" := by simpa using hname
    simp [Go.Conc.born, stepG, unwind, callDeferred, invoke, callFunc, hf, hbody, hN, hvs, hname', seen, GStep.after, G, Frame.enter, Frame.at, bot, b]
  refine .go rfl fun v' hv => ⟨_, v', ⟨⟨#[], hst v', EvOk.none _, Nat.le_refl _⟩, fun B M r hr => ⟨r, #[], hst r, .none hr⟩⟩, ?_⟩
  have hS0 : Sim ν T.nt w0 S ⟨fun _ => 0, hempty, 0, v, S⟩ (st0 [.ptr [.ptr fc 0] 0, .ptr [int x] 0, .ptr [.v (.chan (some c))] 0, .ptr [.v (.chan (some e))] 0] hempty 0) ⟨vs ++ Array.replicate (46 - 4) undef, []⟩ v (fun _ => 0) := by
    refine ⟨fun t => ?_, by simp [hvs, hnt, hN], rfl, ⟨fun o c h => (by cases h), fun o o' c c' h => (by cases h), hb0.size, hB⟩, hb0, Ext.refl _⟩
    by_cases ht : t < 4
    · have e1 : (vs ++ Array.replicate (46 - 4) undef).getD t undef = vs.getD t undef := by
        have : t < vs.size := by omega
        simp [Array.getElem?_append_left this]
      simp only [e1]
      rcases (show t = 0 ∨ t = 1 ∨ t = 2 ∨ t = 3 by omega) with rfl | rfl | rfl | rfl
      · exact h0
      · exact h1
      · exact h2
      · exact h3
    · have e1 : (vs ++ Array.replicate (46 - 4) undef).getD t undef = undef := by
        have : vs.size ≤ t := by omega
        rw [Array.getD_eq_getD_getElem?, Array.getElem?_append_right this]
        by_cases h2 : t - vs.size < 46 - 4
        · simp [h2]
        · rw [Array.getElem?_eq_none (by simp; omega)]; rfl
      have e2 : (st0 [.ptr [.ptr fc 0] 0, .ptr [int x] 0, .ptr [.v (.chan (some c))] 0, .ptr [.v (.chan (some e))] 0] hempty 0).env t = .v undef := by
        simp only [st0, env0]
        rw [List.getD_eq_getElem?_getD, List.getElem?_eq_none (by simp; omega)]; rfl
      simp only [e1]
      rw [e2]
      exact .pure (.v _)
  have hS := (hS0.rl hv).base
  have hC : CS ν T.nt w0 S fc x c e [] [] (st0 [.ptr [.ptr fc 0] 0, .ptr [int x] 0, .ptr [.v (.chan (some c))] 0, .ptr [.v (.chan (some e))] 0] hempty 0) ⟨vs ++ Array.replicate (46 - 4) undef, []⟩ v' (fun _ => 0) :=
    ⟨hS, by funext o; simp [st0, hempty, hrows], rfl, rfl, fun i x hx => (by simp at hx), rfl, rfl, rfl, rfl⟩
  have hK1 := hK (T := T) (c := c) (e := e) (Z := Z) hFin []
  refine k_seq hK1 (k_seq hK1 (hC.seg hK1 hb hν hp.h0 ex_l0 fun s1 a1 v1 β1 e4 hC => ?_))
  refine k_block hK1 (k_loop hK1 (loop0 hν hp hF hFin hb n 0 [] [] s1 a1 v1 β1 (by simpa using hZ) (Nat.zero_add _) hC e4 fun l' s2 a2 v2 β2 hC => ?_))
  have hK2 := hK (T := T) (c := c) (e := e) (Z := Z) hFin l'
  refine k_region hK2 ?_
  rw [hp.s12, show List.range 2 = List.range' 0 (p.r12.toList.take 1).length ++ [1] by rw [List.length_take, Array.length_toList, hp.s12]; rfl]
  refine seg_ops hK2 hb hν hp.h12 (fun j hj => by
    have : j < 1 := by simpa [hp.s12] using hj
    rw [List.getElem?_take_of_lt this, Nat.zero_add]; simp) hC.sim (ex_l12 hC.e3) fun s3 a3 v3 β3 ⟨g1, g2, g3, g45⟩ hS3 => ?_
  have hC3 := hC.move hS3 g1 g2 g3
  obtain ⟨o, ho, hso⟩ := hp.cls
  simp only [isClose, Bool.and_eq_true, Option.isNone_iff_eq_none] at hso
  obtain ⟨⟨hop, hdst⟩, hgd⟩ := hso
  obtain ⟨ats, hop'⟩ : ∃ ats, o.op = .call { callee := .builtin .close, args := #[.tmp 45], argTypes := ats } := by
    split at hop
    · rename_i args ats heq
      split at hop
      · rename_i hl
        have : args = #[.tmp 45] := by apply Array.ext'; simpa using hl
        exact ⟨ats, by rw [heq, this]⟩
      · cases hop
    · cases hop
  have e45 : a3.eval (.tmp 45) = .chan (some e) := by have := hS3.env 45; rw [g45] at this; exact this.inv_v
  have hw : Region.wanted o (yielded p.r12 a3.tmps) = true := by simp [Region.wanted, hgd]
  have ha : a3.put o.dst (.tuple #[]) = a3 := by simp [hdst, Act.put]
  have hbf : (T.P.funcs[b.fn]?).any (·.norace) = false := by show (T.P.funcs[f]?).any (·.norace) = false; rw [hf]; simpa using hnr
  refine .close (G (b.at a3 [.inRegion p.r12 []]) [bot T.P]) 4 rfl ?_ (fun r s rc hr => ?_) rfl ?_ ⟨_, (by simpa using hC3.held)⟩
  · simp [mayWake, G, Frame.at, ho, hop', b]
  · rw [Go.Conc.stepG_close ho hw hb hop' e45 hr hbf, ha]
  · refine QuitsD.ctl rfl (fun w => Go.Conc.stepG_region_end) (QuitsD.ctl rfl (fun w => Go.Conc.stepG_end) ?_)
    refine .inr ⟨rfl, G (bot T.P) [], #[], by simp, fun w => ?_, .inr ⟨rfl, { G (bot T.P) [] with status := .finished }, #[], by simp, fun w => ?_, ⟨rfl, rfl⟩⟩⟩
    · have hd3 : a3.defers = [] := hS3.defers
      simp [G, stepG, unwind, doReturn, results, Frame.at, b, bot, hf, hres, hd3, seen, GStep.after, goexitEntry]
    · simp [G, stepG, unwind, bot, Frame.catches]
      rfl
end
end Go.Av

/-
  The taker of SetFunctor.slots: its way to the select and from each value that it takes back to the select.
-/
namespace Go.Av
set_option linter.unusedSectionVars false
set_option linter.unusedSimpArgs false
set_option linter.unusedVariables false
open Go.Conc (G rcase core)

structure MnP where
  r0 : Array Oper
  r1 : Array Oper
  r2 : Array Oper
  r3 : Array Oper
  r4 : Array Oper
  r5 : Array Oper
  r6 : Array Oper
  r7 : Array Oper
  r8 : Array Oper
  r9 : Array Oper
namespace MnP
variable (p : MnP)
def C2 : Code := .block 2 (.cond (.tmp 17) (.seq (.region 7 p.r7 false) (.region 8 p.r8 false)) (.cond (.tmp 18) (.seq (.region 9 p.r9 false) .ret) .skip))
def LB : Code := .block 1 (.seq (.seq (.region 4 p.r4 false) (.region 5 p.r5 false)) (.seq (.region 6 p.r6 false) p.C2))
def R3 : Code := .seq (.region 3 p.r3 false) (.block 0 (.loop p.LB))
def all : Code := .seq (.region 0 p.r0 false) (.seq (.region 1 p.r1 true) (.seq (.region 2 p.r2 false) p.R3))
end MnP
def MnP.of : Code → Option MnP
  | .seq (.region 0 r0 false) (.seq (.region 1 r1 true) (.seq (.region 2 r2 false) (.seq (.region 3 r3 false) (.block 0 (.loop (.block 1 (.seq (.seq (.region 4 r4 false) (.region 5 r5 false)) (.seq (.region 6 r6 false) (.block 2 (.cond (.tmp 17) (.seq (.region 7 r7 false) (.region 8 r8 false)) (.cond (.tmp 18) (.seq (.region 9 r9 false) .ret) .skip))))))))))) => some ⟨r0, r1, r2, r3, r4, r5, r6, r7, r8, r9⟩
  | _ => none
theorem MnP.of_eq {c : Code} {p : MnP} (h : MnP.of c = some p) : c = p.all := by
  unfold MnP.of at h
  split at h
  · cases h; rfl
  · cases h

def isSel (P : Program) (o : Oper) : Bool := (match o.op with
  | .select cases true => (match cases.toList with
    | [⟨.tmp 13, none, t1⟩, ⟨.tmp 14, none, t2⟩] => ((P.info? t1).bind (·.zero)).isSome && ((P.info? t2).bind (·.zero)).isSome
    | _ => false)
  | _ => false) && o.dst == some 15 && o.guard.isNone

namespace MnL
def l0 : List Aop := [mkA 2 (.p .box [.t 0]), mkA 3 (.p .box [.t 1]), mkA 4 (.p .mov [.c .nil])]
def l3 : List Aop := [mkA 12 (.p (.msl 0 [] []) []), mkA 7 (.p .mov [.t 12])]
def l4 : List Aop := [mkA 13 (.p (.ld none) [.t 5])]
def l5 : List Aop := [mkA 14 (.p (.ld none) [.t 6])]
def l6 : List Aop := [mkA 16 (.p (.ext 0) [.t 15]), mkA 17 (.p (.bin .eql) [.t 16, .c (int 0)]), mkA 18 (.p (.bin .eql) [.t 16, .c (int 1)])]
def l7 : List Aop := [mkA 19 (.p (.ext 2) [.t 15]), mkA 8 (.p .mov [.t 19])]
def l8 : List Aop := [mkA 20 (.p .mov [.t 7]), mkA 21 (.p .mov [.t 8]), mkA 22 (.p (.msl 1 [.nil] [(0, 1)]) [.t 21]), mkA 23 (.app 1 (.t 20) (.t 22)), mkA 7 (.p .mov [.t 23])]
def l9 : List Aop := [mkA 24 (.p .mov [.t 7]), mkA 4 (.p .mov [.t 24])]
def all : List (List Aop) := [l0, l3, l4, l5, l6, l7, l8, l9]
end MnL
/-- What the taker's code reads as, but for what starts the sender. -/
def chkM (T : Tr) (c : Code) : Option (List (List Aop)) :=
  match MnP.of c with
  | some p => if p.r6.size == 4 && (p.r6[0]?).any (isSel T.P) then
      [T.region p.r0 false, T.region p.r3 false, T.region p.r4 false, T.region p.r5 false, (p.r6.toList.drop 1).mapM (T.oper p.r6 true), T.region p.r7 false, T.region p.r8 false, T.region p.r9 false].mapM id
    else none
  | none => none
structure MnOk (T : Tr) (p : MnP) : Prop where
  s6 : p.r6.size = 4
  sel : ∃ o, p.r6[0]? = some o ∧ isSel T.P o = true
  h0 : T.region p.r0 false = some MnL.l0
  h3 : T.region p.r3 false = some MnL.l3
  h4 : T.region p.r4 false = some MnL.l4
  h5 : T.region p.r5 false = some MnL.l5
  h6 : (p.r6.toList.drop 1).mapM (T.oper p.r6 true) = some MnL.l6
  h7 : T.region p.r7 false = some MnL.l7
  h8 : T.region p.r8 false = some MnL.l8
  h9 : T.region p.r9 false = some MnL.l9
theorem chkM_ok {T : Tr} {c : Code} (h : chkM T c = some MnL.all) : ∃ p, MnP.of c = some p ∧ MnOk T p := by
  unfold chkM at h
  split at h
  · rename_i p hp
    split at h
    · rename_i hc
      simp only [Bool.and_eq_true, beq_iff_eq, Option.any_eq_true] at hc
      obtain ⟨c1, c2⟩ := hc
      simp only [List.mapM_cons, List.mapM_nil, Option.pure_def, Option.bind_eq_bind, id_eq] at h
      obtain ⟨x0, g0, h⟩ := bind_some h
      obtain ⟨y, h, e⟩ := bind_some h
      obtain ⟨x1, g1, h⟩ := bind_some h
      obtain ⟨y1, h, e1⟩ := bind_some h
      obtain ⟨x2, g2, h⟩ := bind_some h
      obtain ⟨y2, h, e2⟩ := bind_some h
      obtain ⟨x3, g3, h⟩ := bind_some h
      obtain ⟨y3, h, e3⟩ := bind_some h
      obtain ⟨x4, g4, h⟩ := bind_some h
      obtain ⟨y4, h, e4⟩ := bind_some h
      obtain ⟨x5, g5, h⟩ := bind_some h
      obtain ⟨y5, h, e5⟩ := bind_some h
      obtain ⟨x6, g6, h⟩ := bind_some h
      obtain ⟨y6, h, e6⟩ := bind_some h
      obtain ⟨x7, g7, h⟩ := bind_some h
      obtain ⟨y7, h, e7⟩ := bind_some h
      cases h; cases e7; cases e6; cases e5; cases e4; cases e3; cases e2; cases e1; cases e
      exact ⟨p, hp, c1, c2, g0, g1, g2, g3, g4, g5, g6, g7⟩
    · cases h
  · cases h

/-- What the taker has: the values as they came. -/
def outV (l : List Value) (v : AV) (H : Hp) : Prop := (l = [] ∧ v = .nil ∧ H = hempty) ∨ (l ≠ [] ∧ ∃ o, v = .ms o 0 l.length 1 ∧ H = hput hempty o (some (l.map .v)))

section
local instance mnMd : Md := free true
variable {T : Tr} {ν : Nat → FuncId} {w0 : World} {S : Nat → Prop} {c e : Nat} {l : List Value} {s s' : St} {a a' : Act} {v v' : World} {β β' : Nat → Nat}

/-- The taker between two segments. -/
structure MS (ν : Nat → FuncId) (nt : Nat) (w0 : World) (S : Nat → Prop) (c e : Nat) (l : List Value) (s : St) (a : Act) (v : World) (β : Nat → Nat) : Prop where
  sim : Sim ν nt w0 S ⟨β, s.heap, s.next, v, S⟩ s a v β
  e5 : s.env 5 = .ptr [.v (.chan (some c))] 0
  e6 : s.env 6 = .ptr [.v (.chan (some e))] 0
  out : outV l (s.env 7) s.heap

theorem MS.move {nt : Nat} (h : MS ν nt w0 S c e l s a v β) (hS : Sim ν nt w0 S ⟨β, s.heap, s.next, v, S⟩ s' a' v' β') (h1 : s'.heap = s.heap) (h2 : s'.next = s.next) (h3 : ∀ t, t < 8 → s'.env t = s.env t) : MS ν nt w0 S c e l s' a' v' β' :=
  ⟨hS.base, (h3 5 (by omega)).trans h.e5, (h3 6 (by omega)).trans h.e6, by rw [h1, h3 7 (by omega)]; exact h.out⟩

variable {K : Goroutine → World → Prop} {b : Frame} {k : List Item} {cs : List Frame}
theorem MS.seg (h : MS ν T.nt w0 S c e l s a v β) (hK : Clv T.P true Oth K) (hb : b.kind ≠ .early) (hν : ∀ f id, T.num f = some id → ν id = f) {id : Nat} {ops : Array Oper} {draw : Bool} {L : List Aop} (hr : T.region ops draw = some L) {Q : St → Prop}
    (hs : opsK (OkM T.P ν) L s fun s' => s'.heap = s.heap ∧ s'.next = s.next ∧ (∀ t, t < 8 → s'.env t = s.env t) ∧ Q s')
    (hk : ∀ s' a' v' β', Q s' → MS ν T.nt w0 S c e l s' a' v' β' → K (G (b.at a' k) cs) v') : K (G (b.at a (.code (.region id ops draw) :: k)) cs) v :=
  Av.seg hK hb hν hr h.sim hs fun s' a' v' β' ⟨h1, h2, h3, hq⟩ hS => hk s' a' v' β' hq (h.move hS h1 h2 h3)

theorem em_l4 (e5 : s.env 5 = .ptr [.v (.chan (some c))] 0) :
    opsK (OkM T.P ν) MnL.l4 s fun s' => s'.heap = s.heap ∧ s'.next = s.next ∧ (∀ t, t < 8 → s'.env t = s.env t) ∧ s'.env 13 = .v (.chan (some c)) := by
  simp [MnL.l4, mkA, opsK, opK, stepK, OptK, pvf, pLd, ev, St.put, put, e5]
  intro t ht e; omega
theorem em_l5 (e6 : s.env 6 = .ptr [.v (.chan (some e))] 0) :
    opsK (OkM T.P ν) MnL.l5 s fun s' => s'.heap = s.heap ∧ s'.next = s.next ∧ (∀ t, t < 8 → s'.env t = s.env t) ∧ s'.env 14 = .v (.chan (some e)) ∧ s'.env 13 = s.env 13 := by
  simp [MnL.l5, mkA, opsK, opK, stepK, OptK, pvf, pLd, ev, St.put, put, e6]
  intro t ht e; omega
theorem em_l6 {C : Ct} {i : Int} {r : List AV} (e15 : s.env 15 = .tup (int i :: r)) :
    opsK C MnL.l6 s fun s' => s'.heap = s.heap ∧ s'.next = s.next ∧ (∀ t, t < 8 → s'.env t = s.env t) ∧ s'.env 17 = .v (.bool (i == 0)) ∧ s'.env 18 = .v (.bool (i == 1)) ∧ s'.env 15 = s.env 15 := by
  simp only [int] at e15
  simp [MnL.l6, mkA, opsK, opK, stepK, OptK, pvf, pExt, pBin, intBin, ev, St.put, put, e15, int]
  intro t ht
  repeat rw [if_neg (by omega)]
theorem em_l9 {C : Ct} {u : AV} (e7 : s.env 7 = u) : opsK C MnL.l9 s fun s' => s'.heap = s.heap ∧ s'.next = s.next ∧ s'.env 4 = u := by
  simp [MnL.l9, mkA, opsK, opK, stepK, OptK, pvf, ev, St.put, put, e7]
theorem em_l0 {C : Ct} {fc : List AV} {x : Int} (e0 : s.env 0 = .ptr fc 0) (e1 : s.env 1 = int x) : opsK C MnL.l0 s fun s' => s'.heap = s.heap ∧ s'.next = s.next ∧ s'.env 2 = .ptr [.ptr fc 0] 0 ∧ s'.env 3 = .ptr [int x] 0 := by
  simp only [int] at e1
  simp [MnL.l0, mkA, opsK, opK, stepK, OptK, pvf, pBox, ev, St.put, put, e0, e1, AV.cells, frzL, fuel, frz, AV.one, Value.oneCell', int]
theorem em_l7 {i : Int} {y : AV} {x : Value} {r : List AV} (e15 : s.env 15 = .tup (int i :: y :: .v x :: r)) :
    opsK (OkM T.P ν) MnL.l7 s fun s' => s'.heap = s.heap ∧ s'.next = s.next ∧ (∀ t, t < 8 → s'.env t = s.env t) ∧ s'.env 8 = .v x := by
  simp [MnL.l7, mkA, opsK, opK, stepK, OptK, pvf, pExt, ev, St.put, put, e15]
  intro t ht
  repeat rw [if_neg (by omega)]
theorem em_l8 {x : Value} (hx : x.oneCell' = true) (e8 : s.env 8 = .v x) (ho : outV l (s.env 7) s.heap) (hl : l.length < 1099511627776) :
    opsK (OkM T.P ν) MnL.l8 s fun s' => (∀ t, t < 7 → s'.env t = s.env t) ∧ outV (l ++ [x]) (s'.env 7) s'.heap := by
  simp [MnL.l8, mkA, opsK, opK, stepK, OptK, pvf, ev, St.put, put, e8, pMsl, lay, AV.cells, AV.one, hx, frzL, fuel, frz, appCells]
  rcases ho with ⟨rfl, e7, hH⟩ | ⟨_, o, e7, hH⟩
  · simp [e7, appTo, appMax, hH]
    refine ⟨_, _, ⟨rfl, rfl⟩, fun y hy => ?_, _, _, ⟨_, rfl⟩, fun t ht => ?_, .inr ⟨by simp, s.next, rfl, by simp⟩⟩
    · simp at hy; subst hy; exact hx
    · repeat rw [if_neg (by omega)]
  · have hm : hput hempty o (some (l.map AV.v)) o = some (l.map AV.v) := by simp [hput]
    simp [e7, appTo, appMax, hH, hm]
    refine ⟨_, _, ⟨rfl, rfl⟩, fun y hy => ?_, _, _, ⟨by omega, rfl, rfl⟩, fun t ht => ?_, .inr ⟨by simp, o, by simp, ?_⟩⟩
    · simp at hy; subst hy; exact hx
    · repeat rw [if_neg (by omega)]
    · funext q; by_cases hq : q = o <;> simp [hput, hq]

variable {p : MnP} {z z' : Value}
/-- The select's operation. -/
theorem sel_op (hp : MnOk T p) : ∃ o z z', p.r6[0]? = some o ∧ o.dst = some 15 ∧ o.guard = none ∧ ∀ a : Act, a.eval (.tmp 13) = .chan (some c) → a.eval (.tmp 14) = .chan (some e) → ∀ w, (execOp a.eval o).run T.P w = .ok (.comm #[rcase c z, rcase e z'] true .select) w ∧ (execOp a.eval o).events T.P w #[] = #[] := by
  obtain ⟨o, ho, hso⟩ := hp.sel
  simp only [isSel, Bool.and_eq_true, Option.isNone_iff_eq_none, beq_iff_eq] at hso
  obtain ⟨⟨hop, hdst⟩, hgd⟩ := hso
  split at hop
  · rename_i cases heq
    split at hop
    · rename_i t1 t2 hl
      have hcs : cases = #[⟨.tmp 13, none, t1⟩, ⟨.tmp 14, none, t2⟩] := by apply Array.ext'; simpa using hl
      simp only [Bool.and_eq_true, Option.isSome_iff_exists] at hop
      obtain ⟨⟨z, hz⟩, ⟨z', hz'⟩⟩ := hop
      refine ⟨o, z, z', ho, hdst, hgd, fun a h1 h2 w => ?_⟩
      obtain ⟨i1, hi1, hz⟩ := Option.bind_eq_some_iff.1 hz
      obtain ⟨i2, hi2, hz'⟩ := Option.bind_eq_some_iff.1 hz'
      have r1 := run_zero hi1 hz w
      have r2 := run_zero hi2 hz' w
      simp only [Act.eval, Array.getD_eq_getD_getElem?] at h1 h2
      unfold execOp
      simp only [heq, hcs]
      constructor
      · simp [r1, r2, h1, h2, rcase, Act.eval]
      · simp [r1, r2, h1, h2, Act.eval]
    · cases hop
  · cases hop

/-- The taker at the select. -/
def AtM (ν : Nat → FuncId) (T : Tr) (w0 : World) (S : Nat → Prop) (c e : Nat) (p : MnP) (b : Frame) (k : List Item) (cs : List Frame) (l : List Value) (g : Goroutine) (v : World) : Prop :=
  ∃ s a β, MS ν T.nt w0 S c e l s a v β ∧ s.env 13 = .v (.chan (some c)) ∧ s.env 14 = .v (.chan (some e)) ∧
    g = G (b.at a (.inRegion p.r6 (List.range 4) :: .code p.C2 :: .inBlock 1 :: .inLoop p.LB :: .inBlock 0 :: k)) cs
theorem AtM.st {g : Goroutine} (h : AtM ν T w0 S c e p b k cs l g v) (ho : Oth v v') : AtM ν T w0 S c e p b k cs l g v' := by
  obtain ⟨s, a, β, hM, h1, h2, rfl⟩ := h
  exact ⟨s, a, β, ⟨(hM.sim.rl ho).base, hM.e5, hM.e6, hM.out⟩, h1, h2, rfl⟩
theorem AtM.sel (hp : MnOk T p) (hb : b.kind ≠ .early) : ∃ z z', ∀ l g v, AtM ν T w0 S c e p b k cs l g v → SelAt T.P c e z z' g := by
  obtain ⟨o, z, z', ho, hdst, hgd, hrun⟩ := sel_op (c := c) (e := e) hp
  refine ⟨z, z', fun l g v h => ?_⟩
  obtain ⟨s, a, β, hM, h1, h2, rfl⟩ := h
  have e13 : a.eval (.tmp 13) = .chan (some c) := by have := hM.sim.env 13; rw [h1] at this; exact this.inv_v
  have e14 : a.eval (.tmp 14) = .chan (some e) := by have := hM.sim.env 14; rw [h2] at this; exact this.inv_v
  have hw : Region.wanted o (yielded p.r6 a.tmps) = true := by simp [Region.wanted, hgd]
  refine ⟨rfl, fun r => ?_⟩
  obtain ⟨hr, he⟩ := hrun a e13 e14 r
  rw [show List.range 4 = 0 :: [1, 2, 3] from rfl, Go.Conc.stepG_comm ho hw hb hr, Go.Conc.listed_none he]
  rfl

theorem hKM (l : List Value) : Clv T.P true Oth (Rch T.P true (AtM ν T w0 S c e p b k cs l)) := ⟨fun _ _ hr h => Rch.go hr h, fun _ _ _ h ho => h.st (fun _ _ _ h ho => h.st ho) ho⟩

section
variable (hν : ∀ f id, T.num f = some id → ν id = f) (hp : MnOk T p) (hb : b.kind ≠ .early)
include hν hp hb in
/-- From the loop's head to the select. -/
theorem to_sel (h : MS ν T.nt w0 S c e l s a v β) : Rch T.P true (AtM ν T w0 S c e p b k cs l) (G (b.at a (.code p.LB :: .inLoop p.LB :: .inBlock 0 :: k)) cs) v := by
  have hK := hKM (ν := ν) (T := T) (w0 := w0) (S := S) (c := c) (e := e) (p := p) (b := b) (k := k) (cs := cs) l
  refine k_block hK (k_seq hK (k_seq hK (h.seg hK hb hν hp.h4 (em_l4 h.e5) fun s1 a1 v1 β1 q13 h => ?_)))
  refine h.seg hK hb hν hp.h5 (em_l5 h.e6) fun s2 a2 v2 β2 ⟨q14, q13'⟩ h => ?_
  refine k_seq hK (k_region hK ?_)
  rw [hp.s6]
  exact .stop ⟨s2, a2, β2, h, q13'.trans q13, q14, rfl⟩

include hν hp hb in
/-- From the place behind the go statement to the select. -/
theorem to_first (h : Sim ν T.nt w0 S ⟨β, s.heap, s.next, v, S⟩ s a v β) (h5 : s.env 5 = .ptr [.v (.chan (some c))] 0) (h6 : s.env 6 = .ptr [.v (.chan (some e))] 0) (hH : s.heap = hempty) :
    Rch T.P true (AtM ν T w0 S c e p b k cs []) (G (b.at a (.inRegion p.r2 [] :: .code p.R3 :: k)) cs) v := by
  have hK := hKM (ν := ν) (T := T) (w0 := w0) (S := S) (c := c) (e := e) (p := p) (b := b) (k := k) (cs := cs) []
  refine k_end hK (k_seq hK (Av.seg (Q := fun s' => s'.heap = hempty ∧ s'.env 5 = s.env 5 ∧ s'.env 6 = s.env 6 ∧ s'.env 7 = .nil) hK hb hν hp.h3 h ?_ fun s1 a1 v1 β1 ⟨q1, q5, q6, q7⟩ hS => ?_))
  · simp [MnL.l3, mkA, opsK, opK, stepK, OptK, pvf, pMsl, ev, St.put, put, hH]
  · exact k_block hK (k_loop hK (to_sel hν hp hb ⟨hS.base, q5.trans h5, q6.trans h6, .inl ⟨rfl, q7, q1⟩⟩))

include hν hp hb in
/-- From a value taken back to the select. -/
theorem to_next (hn : 15 < T.nt) {x z z' : Value} {g : Goroutine} (hA : AtM ν T w0 S c e p b k cs l g v) (hx : x.oneCell' = true) (hl : l.length < 1099511627776) :
    Rch T.P true (AtM ν T w0 S c e p b k cs (l ++ [x])) ((core g).finishComm T.P #[rcase c z, rcase e z'] .select ((0 : Nat) : Int) x true) v := by
  obtain ⟨o, _, _, ho, hdst, hgd, hrun⟩ := sel_op (c := c) (e := e) hp
  obtain ⟨s, a, β, hM, h1, h2, rfl⟩ := hA
  have hK := hKM (ν := ν) (T := T) (w0 := w0) (S := S) (c := c) (e := e) (p := p) (b := b) (k := k) (cs := cs) (l ++ [x])
  have hg : (core (G (b.at a (.inRegion p.r6 (List.range 4) :: .code p.C2 :: .inBlock 1 :: .inLoop p.LB :: .inBlock 0 :: k)) cs)).finishComm T.P #[rcase c z, rcase e z'] .select ((0 : Nat) : Int) x true =
      G (b.at (a.put (some 15) (.tuple #[.int .i64 0, .bool true, x, z'])) (.inRegion p.r6 [1, 2, 3] :: .code p.C2 :: .inBlock 1 :: .inLoop p.LB :: .inBlock 0 :: k)) cs := by
    have h0 : (p.r6[0]?).bind (·.dst) = some 15 := by rw [ho]; exact hdst
    have hc : commResult #[rcase c z, rcase e z'] .select ((0 : Nat) : Int) x true = .tuple #[.int .i64 0, .bool true, x, z'] := by simp [commResult, rcase, goInt]
    show Go.Conc.served _ (commResult #[rcase c z, rcase e z'] .select ((0 : Nat) : Int) x true) = _
    rw [hc, show List.range 4 = 0 :: [1, 2, 3] from rfl, ← h0]
    exact Go.Conc.served_G b a p.r6 0 [1, 2, 3] _ cs _
  rw [hg]
  have hS := hM.sim.put (u := .tup [int 0, .v (.bool true), .v x, .v z']) (v := .tuple #[.int .i64 0, .bool true, x, z']) (.tup _ rfl fun i hi => by
    match i, hi with
    | 0, _ => exact .pure (.v _)
    | 1, _ => exact .pure (.v _)
    | 2, _ => exact .pure (.v _)
    | 3, _ => exact .pure (.v _)) (d := some 15) (fun k hk => by cases hk; exact hn)
  have h15 : (s.put (some 15) (.tup [int 0, .v (.bool true), .v x, .v z'])).env 15 = .tup [int 0, .v (.bool true), .v x, .v z'] := by simp [St.put, put]
  have hM1 : MS ν T.nt w0 S c e l (s.put (some 15) (.tup [int 0, .v (.bool true), .v x, .v z'])) (a.put (some 15) (.tuple #[.int .i64 0, .bool true, x, z'])) v β := hM.move hS rfl rfl fun t ht => by simp only [St.put, put]; rw [if_neg (by omega)]
  have hL : (p.r6.toList.drop 1).length = 3 := by simp [hp.s6]
  rw [show [1, 2, 3] = List.range' 1 (p.r6.toList.drop 1).length ++ [] by rw [hL]; rfl]
  refine seg_ops hK hb hν hp.h6 (fun j hj => by rw [List.getElem?_drop, Array.getElem?_toList]) hM1.sim (em_l6 h15) fun s1 a1 v1 β1 ⟨g1, g2, g3, g17, g18, g15⟩ hS1 => ?_
  have hM2 := hM1.move hS1 g1 g2 g3
  refine k_end hK (k_block hK (k_cond hK hM2.sim (d := true) g17 ?_))
  simp only [if_true]
  refine k_seq hK (hM2.seg hK hb hν hp.h7 (em_l7 (g15.trans h15)) fun s3 a3 v3 β3 q8 hM3 => ?_)
  refine Av.seg hK hb hν hp.h8 hM3.sim (em_l8 hx q8 hM3.out hl) fun s4 a4 v4 β4 ⟨q1, q2⟩ hS4 => ?_
  exact k_inBlock hK (k_inBlock hK (k_inLoop hK (to_sel hν hp hb ⟨hS4.base, (q1 5 (by omega)).trans hM3.e5, (q1 6 (by omega)).trans hM3.e6, q2⟩)))
end
end
end Go.Av

/-
  The region in which SetFunctor.slots makes its channels, in whatever order.
-/
namespace Go.Av
set_option linter.unusedSectionVars false
set_option linter.unusedSimpArgs false
set_option linter.unusedVariables false
open Go.Conc (G)

section
variable [md : Md] {P : Program} {ops : Array Oper} {Q : Exit → Act → World → Prop}

def unlisted (listed : Array Bool) : Nat → Nat
  | 0 => 0
  | n + 1 => unlisted listed n + if listed.getD n true then 0 else 1
omit md in
theorem unlisted_set {listed : Array Bool} {i : Nat} (hi : listed.getD i true = false) : ∀ n, (unlisted (listed.setIfInBounds i true) n ≤ unlisted listed n) ∧ (i < n → unlisted (listed.setIfInBounds i true) n < unlisted listed n)
  | 0 => ⟨Nat.le_refl _, fun h => absurd h (Nat.not_lt_zero _)⟩
  | n + 1 => by
    obtain ⟨h1, h2⟩ := unlisted_set hi n
    have hil : i < listed.size := by
      apply Nat.lt_of_not_le
      intro h
      simp [h] at hi
    by_cases e : i = n
    · subst e
      have : (listed.setIfInBounds i true).getD i true = true := by simp [hil]
      simp only [unlisted, this, hi, if_true, Bool.false_eq_true, if_false]
      exact ⟨by omega, fun _ => by omega⟩
    · have : (listed.setIfInBounds i true).getD n true = listed.getD n true := by simp [Array.getElem?_setIfInBounds_ne e]
      simp only [unlisted, this]
      refine ⟨by omega, fun h => ?_⟩
      have := h2 (by omega)
      omega

/-- A region whose order is drawn, by what holds of those that are done. -/
theorem any_inv {J : Array Bool → Act → World → Prop} (hback : Tr.backB 0 ops.toList = true) (hst : ∀ listed a w w', J listed a w → Oth w w' → J listed a w')
    (step : ∀ listed a w i o, listed.size = ops.size → J listed a w → ops[i]? = some o → listed.getD i true = false → (∀ e ∈ o.after, Region.binds .any e = true → listed.getD e.on false = true) →
      Region.wanted o (yielded ops a.tmps) = true ∧ EvB P o a w ∧ o.wpB P a w (J (listed.setIfInBounds i true)) Q)
    (fin : ∀ listed a w, listed.size = ops.size → J listed a w → (∀ i, i < ops.size → listed.getD i true = true) → Q .normal a w) :
    ∀ (fuel : Nat) (listed : Array Bool) (a : Act) (w : World), listed.size = ops.size → unlisted listed ops.size ≤ fuel → J listed a w → wpAny P .any ops Q fuel listed a w := by
  have hdone : ∀ listed : Array Bool, listed.size = ops.size → Region.ready .any ops listed = [] → ∀ i, i < ops.size → listed.getD i true = true := by
    intro listed hsz hr j
    induction j using Nat.strongRecOn with
    | _ j ih =>
      intro hj
      cases hlj : listed.getD j true with
      | true => rfl
      | false =>
        exfalso
        have hm : j ∈ Region.ready .any ops listed := by
          rw [mem_ready]
          refine ⟨hlj, ops[j], by simp [hj], fun e he hbd => ?_⟩
          have h1 := back_spec _ 0 hback j ops[j] (by simp [hj]) e (by simpa using he) hbd
          simp only [Nat.zero_add] at h1
          have h2 := ih e.on h1 (by omega)
          have h3 : e.on < listed.size := by omega
          simpa [h3] using h2
        rw [hr] at hm
        cases hm
  have hstep : ∀ listed a w i, listed.size = ops.size → J listed a w → i ∈ Region.ready .any ops listed → wpOp P ops Q i (J (listed.setIfInBounds i true)) a w ∧ unlisted (listed.setIfInBounds i true) ops.size < unlisted listed ops.size := by
    intro listed a w i hsz hJ hm
    rw [mem_ready] at hm
    obtain ⟨h0, o, ho, ha⟩ := hm
    have hi : i < ops.size := (Array.getElem?_eq_some_iff.1 ho).1
    refine ⟨fun w1 hw1 => ?_, (unlisted_set h0 _).2 hi⟩
    obtain ⟨k1, k2, k3⟩ := step listed a w1 i o hsz (hst _ _ _ _ hJ hw1) ho h0 ha
    simp only [ho, k1, if_true]
    exact ⟨k2, k3⟩
  intro fuel
  induction fuel with
  | zero =>
    intro listed a w hsz hf hJ
    have hnil : Region.ready .any ops listed = [] := by
      cases hr : Region.ready .any ops listed with
      | nil => rfl
      | cons i r =>
        have := (hstep listed a w i hsz hJ (by rw [hr]; exact List.mem_cons_self ..)).2
        omega
    exact ⟨hnil, fin listed a w hsz hJ (hdone listed hsz hnil)⟩
  | succ n ih =>
    intro listed a w hsz hf hJ
    refine ⟨fun hnil => fin listed a w hsz hJ (hdone listed hsz hnil), fun i hi => ?_⟩
    obtain ⟨k1, k2⟩ := hstep listed a w i hsz hJ hi
    exact wpOp_mono (fun a' w' hJ' => ih _ a' w' (by simpa using hsz) (by omega) hJ') k1

/-! ### a channel is made -/
/-- It makes a channel without room. -/
def isChan (P : Program) (d : Nat) (o : Oper) : Bool := (match o.op with
  | .makeChan t (.const (.int _ 0)) => (match P.underlying t with | some (.chan _ el) => (P.info? el).isSome | _ => false)
  | _ => false) && o.dst == some d && o.guard.isNone
omit md in
theorem chan_run {o : Oper} {d : Nat} (h : isChan P d o = true) (a : Act) (w : World) : (execOp a.eval o).run P w = .ok (.value (.chan (some w.heap.size))) (w.alloc (.chan 0 #[] false 0 0 false)) := by
  simp only [isChan, Bool.and_eq_true] at h
  obtain ⟨⟨h, _⟩, _⟩ := h
  split at h
  · rename_i t k heq
    split at h
    · rename_i dir el hu
      obtain ⟨i, hi⟩ := Option.isSome_iff_exists.1 h
      have := Go.Conc.run_makeChan (w := w) hu hi k 0 (by omega) (by omega)
      unfold execOp
      simp only [heq]
      show (Instr.makeChan t (.int k ((0 : Nat) : Int)) >>= fun v => pure (.value v) : Sem Next).run P w = _
      rw [Sem.run_bind, this]
      rfl
    · cases h
  · cases h
theorem chan_ev {o : Oper} {d : Nat} (h : isChan P d o = true) (a : Act) (w : World) : EvB P o a w := by
  simp only [isChan, Bool.and_eq_true] at h
  obtain ⟨⟨h, _⟩, _⟩ := h
  split at h
  · rename_i t k heq
    have hp : ∀ v, Plain P (Instr.makeChan t v) := by
      intro v
      unfold Instr.makeChan
      refine plain_bind _ (plain_asInt v) fun n => plain_bind _ (plain_underlying t) fun u => ?_
      split
      · refine plain_bind _ (plain_typeInfo _) fun i => ?_
        split
        · exact plain_bind _ (plain_runtimePanic _) fun _ => plain_bind _ (plain_newObj _) fun _ => trivial
        · exact plain_bind _ (plain_newObj _) fun _ => trivial
      · trivial
    have ht : ∀ v, Tame P (Instr.makeChan t v) := by
      intro v
      have hn : ∀ n, Tame P (newObj (.chan n #[] false 0 0 false)) := fun n => ⟨fun _ _ e => (nomatch e), fun _ => trivial⟩
      unfold Instr.makeChan
      refine tame_bind _ (tame_asInt v) fun n => tame_bind _ (tame_underlying t) fun u => ?_
      split
      · refine tame_bind _ (tame_typeInfo _) fun i => ?_
        split
        · exact tame_bind _ (tame_runtimePanic _) fun _ => tame_bind _ (hn _) fun _ => trivial
        · exact tame_bind _ (hn _) fun _ => trivial
      · trivial
    refine EvB.of ?_ ?_
    · unfold execOp
      simp only [heq]
      exact plain_v (hp _)
    · unfold execOp
      simp only [heq]
      exact tame_v (ht _)
  · cases h

/-! ### the region -/
def Aop.un (k : AK) : Aop := ⟨none, none, k, true⟩
def mk1 : List Aop := [mkA 5 (.new [.v (.chan none)]), mkA 6 (.new [.v (.chan none)]), .un (.st 1 (.t 5) (.t 9)), .un (.st 1 (.t 6) (.t 10))]
def needs (o : Oper) (j : Nat) : Bool := o.after.any fun e => e.on == j && Region.binds .any e
def chk1 (T : Tr) (ops : Array Oper) : Option (List Aop) :=
  if ops.size == 6 && (ops[0]?).any (isChan T.P 9) && (ops[1]?).any (isChan T.P 10) && Tr.backB 0 ops.toList && (ops[4]?).any (needs · 2) && (ops[4]?).any (needs · 0) && (ops[5]?).any (needs · 3) && (ops[5]?).any (needs · 1) && T.P.follows .mixedOrders then
    [(ops[2]?).bind (T.oper ops true), (ops[3]?).bind (T.oper ops true), (ops[4]?).bind (T.oper ops true), (ops[5]?).bind (T.oper ops true)].mapM id
  else none
structure R1Ok (T : Tr) (ops : Array Oper) : Prop where
  sz : ops.size = 6
  h0 : ∃ o, ops[0]? = some o ∧ isChan T.P 9 o = true
  h1 : ∃ o, ops[1]? = some o ∧ isChan T.P 10 o = true
  back : Tr.backB 0 ops.toList = true
  n4 : ∃ o, ops[4]? = some o ∧ needs o 2 = true ∧ needs o 0 = true
  n5 : ∃ o, ops[5]? = some o ∧ needs o 3 = true ∧ needs o 1 = true
  h2 : ∃ o, ops[2]? = some o ∧ T.oper ops true o = some (mkA 5 (.new [.v (.chan none)]))
  h3 : ∃ o, ops[3]? = some o ∧ T.oper ops true o = some (mkA 6 (.new [.v (.chan none)]))
  h4 : ∃ o, ops[4]? = some o ∧ T.oper ops true o = some (.un (.st 1 (.t 5) (.t 9)))
  h5 : ∃ o, ops[5]? = some o ∧ T.oper ops true o = some (.un (.st 1 (.t 6) (.t 10)))
  mix : T.P.follows .mixedOrders = true
omit md in
theorem chk1_ok {T : Tr} {ops : Array Oper} (h : chk1 T ops = some mk1) : R1Ok T ops := by
  unfold chk1 at h
  split at h
  · rename_i hc
    simp only [Bool.and_eq_true, beq_iff_eq, Option.any_eq_true] at hc
    obtain ⟨⟨⟨⟨⟨⟨⟨⟨c1, c2⟩, c3⟩, c4⟩, ⟨o4, e4, c5⟩⟩, ⟨o4', e4', c6⟩⟩, ⟨o5, e5, c7⟩⟩, ⟨o5', e5', c8⟩⟩, c9⟩ := hc
    simp only [List.mapM_cons, List.mapM_nil, Option.pure_def, Option.bind_eq_bind, id_eq] at h
    obtain ⟨x0, g0, h⟩ := bind_some h
    obtain ⟨y, h, e⟩ := bind_some h
    obtain ⟨x1, g1, h⟩ := bind_some h
    obtain ⟨y1, h, f1⟩ := bind_some h
    obtain ⟨x2, g2, h⟩ := bind_some h
    obtain ⟨y2, h, f2⟩ := bind_some h
    obtain ⟨x3, g3, h⟩ := bind_some h
    obtain ⟨y3, h, f3⟩ := bind_some h
    cases h; cases f3; cases f2; cases f1; cases e
    rw [e4] at e4'; cases e4'
    rw [e5] at e5'; cases e5'
    exact ⟨c1, c2, c3, c4, ⟨o4, e4, c5, c6⟩, ⟨o5, e5, c7, c8⟩, bind_some g0, bind_some g1, bind_some g2, bind_some g3, c9⟩
  · cases h

/-- A channel that has been made. -/
def ChanAt (w0 : World) (X1 X : Cx) (c : Nat) : Prop := w0.heap.size ≤ c ∧ ¬ Imm X1 c ∧ Imm X c ∧ X.w.heap[c]? = some (.chan 0 #[] false 0 0 false)
omit md in
theorem ChanAt.mono {w0 : World} {X1 X X' : Cx} {c : Nat} (h : ChanAt w0 X1 X c) (hx : Ext X X') : ChanAt w0 X1 X' c := ⟨h.1, h.2.1, hx.imm c h.2.2.1, (hx.same c h.2.2.1).trans h.2.2.2⟩
omit md in
theorem Sim.withX {ν : Nat → FuncId} {N : Nat} {w0 : World} {S : Nat → Prop} {X X1 : Cx} {s : St} {a : Act} {w : World} {β : Nat → Nat} (h : Sim ν N w0 S X s a w β) (hx : Ext X1 X) : Sim ν N w0 S X1 s a w β := ⟨h.env, h.size, h.defers, h.objs, h.below, hx.trans h.ext⟩

/-- Between two operations of the region. -/
structure J1 (ν : Nat → FuncId) (nt : Nat) (w0 : World) (S : Nat → Prop) (X1 : Cx) (e0 : Nat → AV) (listed : Array Bool) (s : St) (a : Act) (w : World) (β : Nat → Nat) : Prop where
  sim : Sim ν nt w0 S X1 s a w β
  old : ∀ t, t ≠ 5 → t ≠ 6 → t ≠ 9 → t ≠ 10 → s.env t = e0 t
  c9 : listed.getD 0 true = true → ∃ c, s.env 9 = .v (.chan (some c)) ∧ ChanAt w0 X1 ⟨β, s.heap, s.next, w, S⟩ c
  c10 : listed.getD 1 true = true → ∃ c, s.env 10 = .v (.chan (some c)) ∧ ChanAt w0 X1 ⟨β, s.heap, s.next, w, S⟩ c
  ne : listed.getD 0 true = true → listed.getD 1 true = true → s.env 9 ≠ s.env 10
  p5 : listed.getD 2 true = true → ∃ o x, s.env 5 = .mp o 0 1 ∧ s.heap o = some [x] ∧ (listed.getD 4 true = true → x = s.env 9)
  p6 : listed.getD 3 true = true → ∃ o x, s.env 6 = .mp o 0 1 ∧ s.heap o = some [x] ∧ (listed.getD 5 true = true → x = s.env 10)
  np : listed.getD 2 true = true → listed.getD 3 true = true → s.env 5 ≠ s.env 6
  d4 : listed.getD 4 true = true → listed.getD 2 true = true ∧ listed.getD 0 true = true
  d5 : listed.getD 5 true = true → listed.getD 3 true = true ∧ listed.getD 1 true = true

section
variable {T : Tr} {ν : Nat → FuncId} {w0 : World} {S : Nat → Prop} {X1 : Cx} {e0 : Nat → AV} {listed : Array Bool} {s : St} {a : Act} {w : World} {β : Nat → Nat}
theorem J1.rl (h : J1 ν T.nt w0 S X1 e0 listed s a w β) {w' : World} (ho : Oth w w') : J1 ν T.nt w0 S X1 e0 listed s a w' β := by
  have hx := Ext.rl ⟨β, s.heap, s.next, w, S⟩ w' ho h.sim.objs.lt
  exact ⟨h.sim.rl ho, h.old, fun x => let ⟨c, h1, h2⟩ := h.c9 x; ⟨c, h1, h2.mono hx⟩, fun x => let ⟨c, h1, h2⟩ := h.c10 x; ⟨c, h1, h2.mono hx⟩, h.ne, h.p5, h.p6, h.np, h.d4, h.d5⟩
omit md in
theorem set_ne {i j : Nat} (h : j ≠ i) : (listed.setIfInBounds i true).getD j true = listed.getD j true := by simp [Array.getElem?_setIfInBounds_ne (Ne.symm h)]

/-- A channel is made. -/
theorem J1.chan (h : J1 ν T.nt w0 S X1 e0 listed s a w β) {i d : Nat} (hd : d < T.nt) (hid : (i = 0 ∧ d = 9) ∨ (i = 1 ∧ d = 10)) (hl : listed.getD i true = false) :
    J1 ν T.nt w0 S X1 e0 (listed.setIfInBounds i true) (s.put (some d) (.v (.chan (some w.heap.size)))) (a.put (some d) (.chan (some w.heap.size))) (w.alloc (.chan 0 #[] false 0 0 false)) β := by
  have hs := h.sim.alloc (.chan 0 #[] false 0 0 false)
  have hx := Ext.alloc ⟨β, s.heap, s.next, w, S⟩ (.chan 0 #[] false 0 0 false) h.sim.objs.lt
  have hnew : ChanAt w0 X1 ⟨β, s.heap, s.next, w.alloc (.chan 0 #[] false 0 0 false), S⟩ w.heap.size := by
    refine ⟨h.sim.le, fun hi => ?_, ⟨⟨?_, h.sim.objs.new _ h.sim.le⟩, fun o c hc he => ?_⟩, heap_alloc_new _ _⟩
    · have := (h.sim.ext.imm _ hi).1.1
      simp only at this
      omega
    · show w.heap.size < (w.heap.push _).size; simp
    · have := h.sim.objs.lt o c hc
      simp only at this he
      omega
  have hne : ∀ c, ChanAt w0 X1 ⟨β, s.heap, s.next, w, S⟩ c → c ≠ w.heap.size := fun c hc e => by
    have := hc.2.2.1.1.1
    simp only at this
    omega
  refine ⟨hs.put (.pure (.v _)) (fun k hk => by cases hk; exact hd), fun t h5 h6 h9 h10 => ?_, fun hx0 => ?_, fun hx1 => ?_, fun hx0 hx1 => ?_, fun hx2 => ?_, fun hx3 => ?_, fun hx2 hx3 => ?_, fun hx4 => ?_, fun hx5 => ?_⟩
  · have : t ≠ d := by rcases hid with ⟨_, rfl⟩ | ⟨_, rfl⟩ <;> assumption
    simp only [St.put, put, if_neg this]
    exact h.old t h5 h6 h9 h10
  · rcases hid with ⟨rfl, rfl⟩ | ⟨rfl, rfl⟩
    · exact ⟨_, by simp [St.put, put], hnew⟩
    · rw [set_ne (by omega)] at hx0
      obtain ⟨c, h1, h2⟩ := h.c9 hx0
      exact ⟨c, by simpa [St.put, put] using h1, h2.mono hx⟩
  · rcases hid with ⟨rfl, rfl⟩ | ⟨rfl, rfl⟩
    · rw [set_ne (by omega)] at hx1
      obtain ⟨c, h1, h2⟩ := h.c10 hx1
      exact ⟨c, by simpa [St.put, put] using h1, h2.mono hx⟩
    · exact ⟨_, by simp [St.put, put], hnew⟩
  · rcases hid with ⟨rfl, rfl⟩ | ⟨rfl, rfl⟩
    · rw [set_ne (by omega)] at hx1
      obtain ⟨c, h1, h2⟩ := h.c10 hx1
      simp [St.put, put, h1]
      exact fun e => hne c h2 e.symm
    · rw [set_ne (by omega)] at hx0
      obtain ⟨c, h1, h2⟩ := h.c9 hx0
      simp [St.put, put, h1]
      exact fun e => hne c h2 e
  · rw [set_ne (by omega)] at hx2
    obtain ⟨o, x, h1, h2, h3⟩ := h.p5 hx2
    refine ⟨o, x, ?_, h2, fun h4 => ?_⟩
    · rcases hid with ⟨rfl, rfl⟩ | ⟨rfl, rfl⟩ <;> simpa [St.put, put] using h1
    · rw [set_ne (by omega)] at h4
      rcases hid with ⟨rfl, rfl⟩ | ⟨rfl, rfl⟩
      · have := (h.d4 h4).2; rw [hl] at this; cases this
      · simpa [St.put, put] using h3 h4
  · rw [set_ne (by omega)] at hx3
    obtain ⟨o, x, h1, h2, h3⟩ := h.p6 hx3
    refine ⟨o, x, ?_, h2, fun h4 => ?_⟩
    · rcases hid with ⟨rfl, rfl⟩ | ⟨rfl, rfl⟩ <;> simpa [St.put, put] using h1
    · rw [set_ne (by omega)] at h4
      rcases hid with ⟨rfl, rfl⟩ | ⟨rfl, rfl⟩
      · simpa [St.put, put] using h3 h4
      · have := (h.d5 h4).2; rw [hl] at this; cases this
  · rw [set_ne (by omega)] at hx2 hx3
    have := h.np hx2 hx3
    rcases hid with ⟨rfl, rfl⟩ | ⟨rfl, rfl⟩ <;> simpa [St.put, put] using this
  · rw [set_ne (by omega)] at hx4
    obtain ⟨h1, h2⟩ := h.d4 hx4
    rcases hid with ⟨rfl, rfl⟩ | ⟨rfl, rfl⟩
    · rw [hl] at h2; cases h2
    · exact ⟨by rw [set_ne (by omega)]; exact h1, by rw [set_ne (by omega)]; exact h2⟩
  · rw [set_ne (by omega)] at hx5
    obtain ⟨h1, h2⟩ := h.d5 hx5
    rcases hid with ⟨rfl, rfl⟩ | ⟨rfl, rfl⟩
    · exact ⟨by rw [set_ne (by omega)]; exact h1, by rw [set_ne (by omega)]; exact h2⟩
    · rw [hl] at h2; cases h2

/-- A place is made. -/
theorem J1.alloc (h : J1 ν T.nt w0 S X1 e0 listed s a w β) {i d : Nat} (hid : (i = 2 ∧ d = 5) ∨ (i = 3 ∧ d = 6)) (hl : listed.getD i true = false) {a' : Act} {w' : World} {β' : Nat → Nat} {z : AV}
    (hS : Sim ν T.nt w0 S ⟨β, s.heap, s.next, w, S⟩ (({ s with heap := hput s.heap s.next (some [z]), next := s.next + 1 } : St).put (some d) (.mp s.next 0 1)) a' w' β') :
    J1 ν T.nt w0 S X1 e0 (listed.setIfInBounds i true) (({ s with heap := hput s.heap s.next (some [z]), next := s.next + 1 } : St).put (some d) (.mp s.next 0 1)) a' w' β' := by
  have hx := hS.ext
  have hlt : ∀ o c, s.heap o = some c → o ≠ s.next := fun o c hc e => by
    have := (h.sim.objs.obj o c hc).1
    simp only at this
    omega
  have henv : ∀ t, t ≠ d → (({ s with heap := hput s.heap s.next (some [z]), next := s.next + 1 } : St).put (some d) (.mp s.next 0 1)).env t = s.env t := fun t ht => by simp [St.put, put, ht]
  have hed : (({ s with heap := hput s.heap s.next (some [z]), next := s.next + 1 } : St).put (some d) (.mp s.next 0 1)).env d = .mp s.next 0 1 := by simp [St.put, put]
  have hhp : ∀ o c, s.heap o = some c → (({ s with heap := hput s.heap s.next (some [z]), next := s.next + 1 } : St).put (some d) (.mp s.next 0 1)).heap o = some c := fun o c hc => by
    have := hlt o c hc
    simp [St.put, hput, this, hc]
  have hhn : (({ s with heap := hput s.heap s.next (some [z]), next := s.next + 1 } : St).put (some d) (.mp s.next 0 1)).heap s.next = some [z] := by simp [St.put, hput]
  generalize ({ s with heap := hput s.heap s.next (some [z]), next := s.next + 1 } : St).put (some d) (.mp s.next 0 1) = s' at *
  refine ⟨hS.withX h.sim.ext, fun t h5 h6 h9 h10 => ?_, fun hx0 => ?_, fun hx1 => ?_, fun hx0 hx1 => ?_, fun hx2 => ?_, fun hx3 => ?_, fun hx2 hx3 => ?_, fun hx4 => ?_, fun hx5 => ?_⟩
  · rw [henv t (by rcases hid with ⟨_, rfl⟩ | ⟨_, rfl⟩ <;> assumption)]; exact h.old t h5 h6 h9 h10
  · rw [set_ne (by omega)] at hx0
    obtain ⟨c, h1, h2⟩ := h.c9 hx0
    exact ⟨c, by rw [henv 9 (by omega)]; exact h1, h2.mono hx⟩
  · rw [set_ne (by omega)] at hx1
    obtain ⟨c, h1, h2⟩ := h.c10 hx1
    exact ⟨c, by rw [henv 10 (by omega)]; exact h1, h2.mono hx⟩
  · rw [set_ne (by omega)] at hx0 hx1
    rw [henv 9 (by omega), henv 10 (by omega)]
    exact h.ne hx0 hx1
  · rcases hid with ⟨rfl, rfl⟩ | ⟨rfl, rfl⟩
    · exact ⟨_, _, hed, hhn, fun h4 => by
        rw [set_ne (by omega)] at h4
        have := (h.d4 h4).1
        rw [hl] at this; cases this⟩
    · rw [set_ne (by omega)] at hx2
      obtain ⟨o, x, h1, h2, h3⟩ := h.p5 hx2
      exact ⟨o, x, by rw [henv 5 (by omega)]; exact h1, hhp _ _ h2, fun h4 => by rw [set_ne (by omega)] at h4; rw [henv 9 (by omega)]; exact h3 h4⟩
  · rcases hid with ⟨rfl, rfl⟩ | ⟨rfl, rfl⟩
    · rw [set_ne (by omega)] at hx3
      obtain ⟨o, x, h1, h2, h3⟩ := h.p6 hx3
      exact ⟨o, x, by rw [henv 6 (by omega)]; exact h1, hhp _ _ h2, fun h4 => by rw [set_ne (by omega)] at h4; rw [henv 10 (by omega)]; exact h3 h4⟩
    · exact ⟨_, _, hed, hhn, fun h4 => by
        rw [set_ne (by omega)] at h4
        have := (h.d5 h4).1
        rw [hl] at this; cases this⟩
  · rcases hid with ⟨rfl, rfl⟩ | ⟨rfl, rfl⟩
    · rw [set_ne (by omega)] at hx3
      obtain ⟨o, x, h1, h2, h3⟩ := h.p6 hx3
      rw [hed, henv 6 (by omega), h1]
      have := hlt _ _ h2
      intro e
      injection e with e _ _
      exact this e.symm
    · rw [set_ne (by omega)] at hx2
      obtain ⟨o, x, h1, h2, h3⟩ := h.p5 hx2
      rw [hed, henv 5 (by omega), h1]
      have := hlt _ _ h2
      intro e
      injection e with e _ _
      exact this e
  · rw [set_ne (by omega)] at hx4
    obtain ⟨h1, h2⟩ := h.d4 hx4
    rcases hid with ⟨rfl, rfl⟩ | ⟨rfl, rfl⟩
    · rw [hl] at h1; cases h1
    · exact ⟨by rw [set_ne (by omega)]; exact h1, by rw [set_ne (by omega)]; exact h2⟩
  · rw [set_ne (by omega)] at hx5
    obtain ⟨h1, h2⟩ := h.d5 hx5
    rcases hid with ⟨rfl, rfl⟩ | ⟨rfl, rfl⟩
    · exact ⟨by rw [set_ne (by omega)]; exact h1, by rw [set_ne (by omega)]; exact h2⟩
    · rw [hl] at h1; cases h1

/-- A channel is put into its place. -/
theorem J1.store (h : J1 ν T.nt w0 S X1 e0 listed s a w β) {i d j : Nat} (hid : (i = 4 ∧ d = 5 ∧ j = 9 ∧ listed.getD 2 true = true ∧ listed.getD 0 true = true) ∨ (i = 5 ∧ d = 6 ∧ j = 10 ∧ listed.getD 3 true = true ∧ listed.getD 1 true = true)) {o : Nat} (ho : s.env d = .mp o 0 1)
    {a' : Act} {w' : World} {β' : Nat → Nat}
    (hS : Sim ν T.nt w0 S ⟨β, s.heap, s.next, w, S⟩ ({ s with heap := hput s.heap o (some [s.env j]) } : St) a' w' β') :
    J1 ν T.nt w0 S X1 e0 (listed.setIfInBounds i true) ({ s with heap := hput s.heap o (some [s.env j]) } : St) a' w' β' := by
  have hx := hS.ext
  have tr : ∀ k, listed.getD k true = true → (listed.setIfInBounds i true).getD k true = true := fun k hk => by
    by_cases e : k = i
    · subst e
      by_cases hlt : k < listed.size
      · simp [hlt]
      · simp [hlt]
    · rw [set_ne e]; exact hk
  refine ⟨hS.withX h.sim.ext, h.old, fun hx0 => ?_, fun hx1 => ?_, fun hx0 hx1 => ?_, fun hx2 => ?_, fun hx3 => ?_, fun hx2 hx3 => ?_, fun hx4 => ?_, fun hx5 => ?_⟩
  · rw [set_ne (by omega)] at hx0
    obtain ⟨c, h1, h2⟩ := h.c9 hx0
    exact ⟨c, h1, h2.mono hx⟩
  · rw [set_ne (by omega)] at hx1
    obtain ⟨c, h1, h2⟩ := h.c10 hx1
    exact ⟨c, h1, h2.mono hx⟩
  · rw [set_ne (by omega)] at hx0 hx1
    exact h.ne hx0 hx1
  · rw [set_ne (by omega)] at hx2
    rcases hid with ⟨rfl, rfl, rfl, q1, q2⟩ | ⟨rfl, rfl, rfl, q1, q2⟩
    · exact ⟨o, _, ho, by simp [hput], fun _ => rfl⟩
    · obtain ⟨o', x, h1, h2, h3⟩ := h.p5 hx2
      have hne : o' ≠ o := fun e => h.np hx2 q1 (by rw [h1, ho, e])
      exact ⟨o', x, h1, by simp [hput, hne, h2], fun h4 => by rw [set_ne (by omega)] at h4; exact h3 h4⟩
  · rw [set_ne (by omega)] at hx3
    rcases hid with ⟨rfl, rfl, rfl, q1, q2⟩ | ⟨rfl, rfl, rfl, q1, q2⟩
    · obtain ⟨o', x, h1, h2, h3⟩ := h.p6 hx3
      have hne : o' ≠ o := fun e => h.np q1 hx3 (by rw [h1, ho, e])
      exact ⟨o', x, h1, by simp [hput, hne, h2], fun h4 => by rw [set_ne (by omega)] at h4; exact h3 h4⟩
    · exact ⟨o, _, ho, by simp [hput], fun _ => rfl⟩
  · rw [set_ne (by omega)] at hx2 hx3
    exact h.np hx2 hx3
  · rcases hid with ⟨rfl, rfl, rfl, q1, q2⟩ | ⟨rfl, rfl, rfl, q1, q2⟩
    · exact ⟨tr 2 q1, tr 0 q2⟩
    · rw [set_ne (by omega)] at hx4
      exact ⟨tr 2 (h.d4 hx4).1, tr 0 (h.d4 hx4).2⟩
  · rcases hid with ⟨rfl, rfl, rfl, q1, q2⟩ | ⟨rfl, rfl, rfl, q1, q2⟩
    · rw [set_ne (by omega)] at hx5
      exact ⟨tr 3 (h.d5 hx5).1, tr 1 (h.d5 hx5).2⟩
    · exact ⟨tr 3 q1, tr 1 q2⟩

omit md in
theorem unlisted_le (listed : Array Bool) : ∀ n, unlisted listed n ≤ n
  | 0 => Nat.le_refl _
  | n + 1 => by
    have := unlisted_le listed n
    simp only [unlisted]
    split <;> omega
theorem oper_go (hν : ∀ f id, T.num f = some id → ν id = f) {ops : Array Oper} {o : Oper} {d : Option Nat} {k : AK} {X : Cx} (hop : T.oper ops true o = some ⟨d, none, k, true⟩) (h : Sim ν T.nt w0 S X s a w β) {K : St → Prop} (hs : stepK (OkM T.P ν) ⟨d, none, k, true⟩ s K)
    {Q : Exit → Act → World → Prop} {Kw : Act → World → Prop} (hKw : ∀ s' a' w' β', K s' → Sim ν T.nt w0 S X s' a' w' β' → Kw a' w') : Region.wanted o (yielded ops a.tmps) = true ∧ EvB T.P o a w ∧ o.wpB T.P a w Kw Q := by
  have hg : o.guard = none := by
    unfold Tr.oper at hop
    split at hop
    · rename_i k' g hk hgd
      split at hop
      · simp only [Option.some.injEq, Aop.mk.injEq] at hop
        rw [hop.2.1] at hgd
        unfold Tr.guard at hgd
        cases hgo : o.guard with
        | none => rfl
        | some x =>
          rw [hgo] at hgd
          simp only at hgd
          split at hgd
          · split at hgd <;> cases hgd
          · cases hgd
      · cases hop
    · cases hop
  have hw : Region.wanted o (yielded ops a.tmps) = true := by simp [Region.wanted, hg]
  have := oper_sound (Q := Q) hν hop h (K := K) (by simpa [opK] using hs) (Kw := Kw) hKw
  rw [if_pos hw] at this
  exact ⟨hw, this⟩

/-- The region, in whatever order. -/
theorem region1 (hν : ∀ f id, T.num f = some id → ν id = f) (hnt : T.nt = 25) {ops : Array Oper} (hR : R1Ok T ops) {id : Nat} (hS : Sim ν T.nt w0 S X1 s a w β) {Q : Exit → Act → World → Prop}
    (hQ : ∀ listed s' a' w' β', (∀ i, i < 6 → listed.getD i true = true) → J1 ν T.nt w0 S X1 s.env listed s' a' w' β' → Q .normal a' w') : (Code.region id ops true).wpB T.P Q a w := by
  refine wp_region_any hR.mix fun w1 hw1 => any_inv (J := fun listed a w => ∃ s' β', J1 ν T.nt w0 S X1 s.env listed s' a w β') hR.back (fun listed a w w' ⟨s', β', h⟩ ho => ⟨s', β', h.rl ho⟩) ?_ ?_ _ _ _ _ (by simp) ?_ ?_
  · rintro listed a w i o hsz ⟨s', β', h⟩ ho hl hn
    have hi : i < 6 := by rw [← hR.sz]; exact (Array.getElem?_eq_some_iff.1 ho).1
    have hlt : i < listed.size := by rw [hsz, hR.sz]; exact hi
    have ned : ∀ j, needs o j = true → listed.getD j true = true := fun j hj => by
      simp only [needs, Array.any_eq_true', Bool.and_eq_true, beq_iff_eq] at hj
      obtain ⟨e, he, h1, h2⟩ := hj
      have := hn e he h2
      rw [h1] at this
      have hjl : j < listed.size := by
        apply Nat.lt_of_not_le
        intro hx
        simp [hx] at this
      simpa [hjl] using this
    have hSb := h.sim.base
    have chan : ∀ d, isChan T.P d o = true → (i = 0 ∧ d = 9) ∨ (i = 1 ∧ d = 10) → Region.wanted o (yielded ops a.tmps) = true ∧ EvB T.P o a w ∧ o.wpB T.P a w (fun a w => ∃ s' β', J1 ν T.nt w0 S X1 s.env (listed.setIfInBounds i true) s' a w β') Q := by
      intro d hc hid
      have hg : o.guard = none ∧ o.dst = some d := by
        simp only [isChan, Bool.and_eq_true, Option.isNone_iff_eq_none, beq_iff_eq] at hc
        exact ⟨hc.2, hc.1.2⟩
      refine ⟨by simp [Region.wanted, hg.1], chan_ev hc a w, ?_⟩
      unfold Oper.wpB
      rw [chan_run hc]
      show ∃ s' β', _
      rw [hg.2]
      exact ⟨_, β', h.chan (by omega) hid hl⟩
    rcases (show i = 0 ∨ i = 1 ∨ i = 2 ∨ i = 3 ∨ i = 4 ∨ i = 5 by omega) with rfl | rfl | rfl | rfl | rfl | rfl
    · obtain ⟨o', h1, h2⟩ := hR.h0
      rw [ho] at h1; cases h1
      exact chan 9 h2 (.inl ⟨rfl, rfl⟩)
    · obtain ⟨o', h1, h2⟩ := hR.h1
      rw [ho] at h1; cases h1
      exact chan 10 h2 (.inr ⟨rfl, rfl⟩)
    · obtain ⟨o', h1, h2⟩ := hR.h2
      rw [ho] at h1; cases h1
      exact oper_go hν h2 hSb (K := fun s1 => s1 = _) ⟨rfl, rfl⟩ fun s1 a1 w1 β1 e hS1 => ⟨s1, β1, by rw [e] at hS1 ⊢; exact h.alloc (.inl ⟨rfl, rfl⟩) hl hS1⟩
    · obtain ⟨o', h1, h2⟩ := hR.h3
      rw [ho] at h1; cases h1
      exact oper_go hν h2 hSb (K := fun s1 => s1 = _) ⟨rfl, rfl⟩ fun s1 a1 w1 β1 e hS1 => ⟨s1, β1, by rw [e] at hS1 ⊢; exact h.alloc (.inr ⟨rfl, rfl⟩) hl hS1⟩
    · obtain ⟨o', h1, h2⟩ := hR.h4
      rw [ho] at h1; cases h1
      obtain ⟨o', h1, n1, n2⟩ := hR.n4
      rw [ho] at h1; cases h1
      obtain ⟨q, x, p1, p2, _⟩ := h.p5 (ned 2 n1)
      obtain ⟨c, p3, _⟩ := h.c9 (ned 0 n2)
      refine oper_go hν h2 hSb (K := fun s1 => s1 = ({ s' with heap := hput s'.heap q (some [s'.env 9]) } : St)) ⟨rfl, _, ?_, rfl⟩ fun s1 a1 w1 β1 e hS1 => ⟨s1, β1, by rw [e] at hS1 ⊢; exact h.store (.inl ⟨rfl, rfl, rfl, ned 2 n1, ned 0 n2⟩) p1 hS1⟩
      simp [ev, p1, p2, p3, stTo, AV.cells, AV.one, Value.oneCell']
    · obtain ⟨o', h1, h2⟩ := hR.h5
      rw [ho] at h1; cases h1
      obtain ⟨o', h1, n1, n2⟩ := hR.n5
      rw [ho] at h1; cases h1
      obtain ⟨q, x, p1, p2, _⟩ := h.p6 (ned 3 n1)
      obtain ⟨c, p3, _⟩ := h.c10 (ned 1 n2)
      refine oper_go hν h2 hSb (K := fun s1 => s1 = ({ s' with heap := hput s'.heap q (some [s'.env 10]) } : St)) ⟨rfl, _, ?_, rfl⟩ fun s1 a1 w1 β1 e hS1 => ⟨s1, β1, by rw [e] at hS1 ⊢; exact h.store (.inr ⟨rfl, rfl, rfl, ned 3 n1, ned 1 n2⟩) p1 hS1⟩
      simp [ev, p1, p2, p3, stTo, AV.cells, AV.one, Value.oneCell']
  · rintro listed a w hsz ⟨s', β', h⟩ hall
    exact hQ listed s' a w β' (fun i hi => hall i (by rw [hR.sz]; exact hi)) h
  · exact unlisted_le _ _
  · refine ⟨s, β, hS.rl hw1, fun _ _ _ _ _ => rfl, ?_, ?_, ?_, ?_, ?_, ?_, ?_, ?_⟩ <;> intro hx <;> rw [hR.sz] at hx <;> simp at hx
end
end
end Go.Av

/-
  What the taker and the sender have made, together in the world behind.
-/
namespace Go.Av
set_option linter.unusedSectionVars false
set_option linter.unusedSimpArgs false
set_option linter.unusedVariables false
open Go.Conc (G)
open Go.RowKit (Below)

/-- The list of lists, its rows in the objects behind it. -/
def outC (R : List (List Int)) (nx : Nat) : List AV := (List.range R.length).map fun j => .ms (nx + 1 + j) 0 3 1
def outH (R : List (List Int)) (nx : Nat) : Hp := fun o => if o = nx then some (outC R nx) else if nx < o ∧ o ≤ nx + R.length then some (ints (R.getD (o - nx - 1) [])) else none
def Out (R : List (List Int)) (nx : Nat) (r : AV) (H' : Hp) (nx' : Nat) : Prop :=
  (R = [] ∧ r = .nil ∧ H' = hempty ∧ nx' = nx) ∨ (R ≠ [] ∧ r = .ms nx 0 R.length 1 ∧ H' = outH R nx ∧ nx' = nx + 1 + R.length)

theorem cell_chl {w : World} {a : Addr} {u : Value} (h : w.cell? a = some u) : (chl w).cell? a = some u := by
  unfold World.cell? at h ⊢
  simp only [chl, Array.getElem?_map]
  split at h
  · rename_i c e f hb
    rw [hb]
    exact h
  · cases h
theorem RepP.chl {ν : Nat → FuncId} {w : World} {S S' : Nat → Prop} {a : AV} {v : Value} (h : RepP ν w S a v) (hS : ∀ b, S b → S' b) : RepP ν (chl w) S' a v := by
  induction h with
  | v x => exact .v x
  | nil a => exact .nil a
  | sl us hs hn hc hr ih => exact .sl us (hS _ hs) hn (fun i hi => cell_chl (hc i hi)) ih
  | sl0 a c => exact .sl0 a c
  | ptr us hs hc hr ih => exact .ptr us (hS _ hs) (fun i hi => cell_chl (hc i hi)) ih
  | agg vs hs hr ih => exact .agg vs hs ih
  | tup vs hs hr ih => exact .tup vs hs ih
  | fn vs hs hr ih => exact .fn vs hs ih

theorem Rep.inv_ptrP {ν : Nat → FuncId} {X : Cx} {c : List AV} {o : Nat} {v : Value} (h : Rep ν X (.ptr c o) v) : RepP ν X.w (Imm X) (.ptr c o) v := by
  cases h with | pure h => exact h

theorem outC_get {R : List (List Int)} {nx i : Nat} (hi : i < R.length) (h : i < (outC R nx).length) : (outC R nx)[i] = .ms (nx + 1 + i) 0 3 1 := by simp [outC]

/-- A block of one's own. -/
theorem Vw.own {B : Nat} {M : Nat → Prop} {r v : World} (h : Vw B M r v) {b : Nat} (hb : B ≤ b) {c : Array Value} {e : TypeId} {f : Nat × Nat} (hv : v.heap[b]? = some (.cells c e f)) : r.heap[b]? = some (.cells c e f) ∧ M b := by
  have hl : b < r.heap.size := by rw [← h.size]; exact (Array.getElem?_eq_some_iff.1 hv).1
  by_cases hm : M b
  · exact ⟨by rw [← h.mine b hb hm]; exact hv, hm⟩
  · have := h.not b hb hm hl
    rw [hv] at this
    cases this

/-- What both have made. -/
theorem joined {ν : Nat → FuncId} {B N : Nat} {S1 S2 S : Nat → Prop} {R : List (List Int)} (hR3 : ∀ q ∈ R, q.length = 3) {l : List Value} {β0 β1 : Nat → Nat} {r v0 v1 : World} {M0 M1 : Nat → Prop} {u : AV} {H0 : Hp} {n0 : Nat} {t : Value}
    (hF : Held ν B S1 R l β1 v1) (hO : Objs ν B ⟨β0, H0, n0, v0, S2⟩) (ho : outV l u H0) (ht : Rep ν ⟨β0, H0, n0, v0, S2⟩ u t) (h0 : Vw B M0 r v0) (h1 : Vw B M1 r v1) (dj : ∀ b, M0 b → M1 b → False) (hNB : N ≤ B) (hS : ∀ b, N ≤ b → S b) (nx : Nat) :
    ∃ r0 H' nx' β', Out R nx r0 H' nx' ∧ Rep ν ⟨β', H', nx', r, S⟩ r0 t ∧ Objs ν N ⟨β', H', nx', r, S⟩ ∧ (∀ o c, H' o = some c → nx ≤ o ∧ B ≤ β' o) ∧ nx ≤ nx' := by
  have hNr : N ≤ r.heap.size := Nat.le_trans hNB h0.low
  rcases ho with ⟨rfl, rfl, rfl⟩ | ⟨hl0, o, rfl, rfl⟩
  · have hR : R = [] := List.eq_nil_of_length_eq_zero (by rw [← hF.len]; rfl)
    obtain ⟨x, rfl⟩ := ht.inv_nil
    exact ⟨.nil, hempty, nx, fun _ => 0, .inl ⟨hR, rfl, rfl, rfl⟩, .pure (.nil _), ⟨fun o c h => (by cases h), fun o o' c c' h => (by cases h), hNr, hS⟩, fun o c h => (by cases h), Nat.le_refl _⟩
  · -- the list's block
    have hHo : hput hempty o (some (l.map AV.v)) o = some (l.map AV.v) := by simp [hput]
    obtain ⟨a1, a2, a3, a4⟩ := ht.inv_ms
    obtain ⟨cap, rr, e, f, rfl, a5, a6, a7⟩ := a4 _ hHo (by simp)
    obtain ⟨b1, b2, ob, b3, b4⟩ := hO.obj o _ hHo
    simp only at a6 b3 b2
    rw [a6] at b3
    cases b3
    obtain ⟨rfl, b5, b6⟩ := b4
    obtain ⟨c1, c2⟩ := h0.own b2 a6
    have hll : l.length = R.length := hF.len
    have hrr : ∀ i, i < R.length → ∃ x, l[i]? = some x ∧ rr.getD i undef = x := by
      intro i hi
      have hi' : i < l.length := by omega
      have := b6 i (by simp; exact hi')
      simp only [List.getElem_map] at this
      exact ⟨l[i], by simp [hi'], this.inv_v⟩
    -- the rows' blocks
    have row : ∀ i, i < R.length → B ≤ β1 i ∧ ∃ cap q e, l[i]? = some (.slice (some ⟨β1 i, 0, none⟩) 3 cap) ∧ 3 ≤ cap ∧ cap ≤ q.size ∧ (∀ j, j < 3 → q.getD j undef = .int .i64 ((R.getD i []).getD j 0)) ∧ r.heap[β1 i]? = some (.cells q e (0, 0)) ∧ M1 (β1 i) := by
      intro i hi
      have hRi : R.getD i [] = R[i] := by simp [hi]
      have hHi : hrows R i = some (ints R[i]) := by simp [hrows, hi]
      have h3' : R[i].length = 3 := hR3 _ (List.getElem_mem hi)
      have h3 : (ints R[i]).length = 3 := by simp [ints, h3']
      obtain ⟨x, hx, _⟩ := hrr i hi
      obtain ⟨d1, d2, d3, d4⟩ := (hF.reps i x hx).inv_ms
      obtain ⟨cap, q, e, f, rfl, d5, d6, d7⟩ := d4 _ hHi (by rw [h3])
      obtain ⟨g1, g2, ob, g3, g4⟩ := hF.objs.obj i _ hHi
      simp only at d6 g3 g2
      rw [d6] at g3
      cases g3
      obtain ⟨rfl, g5, g6⟩ := g4
      obtain ⟨k1, k2⟩ := h1.own g2 d6
      refine ⟨g2, cap, q, e, hx, d5, by omega, fun j hj => ?_, k1, k2⟩
      have := g6 j (by omega)
      have hv : (ints R[i])[j]'(by omega) = int (R[i][j]'(by omega)) := by simp [ints]
      rw [hv] at this
      rw [this.inv_v, hRi]
      simp [h3', hj]
    have hRn : R ≠ [] := fun e => hl0 (List.eq_nil_of_length_eq_zero (by rw [hll, e]; rfl))
    let βr : Nat → Nat := fun q => if q = nx then β0 o else β1 (q - nx - 1)
    have br0 : βr nx = β0 o := by simp [βr]
    have br1 : ∀ i, βr (nx + 1 + i) = β1 i := fun i => by
      have e1 : nx + 1 + i ≠ nx := by omega
      have e2 : nx + 1 + i - nx - 1 = i := by omega
      simp only [βr, if_neg e1, e2]
    have hH0 : outH R nx nx = some (outC R nx) := by simp [outH]
    have hH1 : ∀ i, i < R.length → outH R nx (nx + 1 + i) = some (ints (R.getD i [])) := fun i hi => by
      have e1 : nx + 1 + i ≠ nx := by omega
      have e2 : nx + 1 + i - nx - 1 = i := by omega
      have e3 : nx < nx + 1 + i ∧ nx + 1 + i ≤ nx + R.length := by omega
      simp only [outH, if_neg e1, if_pos e3, e2]
    have hHc : ∀ q c, outH R nx q = some c → (q = nx ∧ c = outC R nx) ∨ ∃ i, i < R.length ∧ q = nx + 1 + i ∧ c = ints (R.getD i []) := by
      intro q c hq
      by_cases e1 : q = nx
      · subst e1; rw [hH0] at hq; cases hq; exact .inl ⟨rfl, rfl⟩
      · by_cases e3 : nx < q ∧ q ≤ nx + R.length
        · have : q = nx + 1 + (q - nx - 1) := by omega
          rw [this, hH1 _ (by omega)] at hq
          cases hq
          exact .inr ⟨q - nx - 1, by omega, this, rfl⟩
        · simp only [outH, if_neg e1, if_neg e3] at hq; cases hq
    have h3R : ∀ i, i < R.length → (R.getD i []).length = 3 := fun i hi => by
      have : R.getD i [] = R[i] := by simp [hi]
      rw [this]; exact hR3 _ (List.getElem_mem hi)
    have hrow : ∀ i (hi : i < R.length), Rep ν ⟨βr, outH R nx, nx + 1 + R.length, r, S⟩ (.ms (nx + 1 + i) 0 3 1) (rr.getD i undef) := by
      intro i hi
      obtain ⟨g1, cap', q, e', g2, g3, g4, g5, g6, g7⟩ := row i hi
      obtain ⟨x, hx, hx'⟩ := hrr i hi
      rw [hx] at g2
      cases g2
      rw [hx']
      refine .ms (show nx + 1 + i < nx + 1 + R.length by omega) rfl (fun c hc => ?_) fun c hc _ => ⟨cap', q, e', (0, 0), ?_, g3, ?_, by omega⟩
      · simp only [hH1 i hi, Option.some.injEq] at hc
        subst hc
        simp only [ints, List.length_map, h3R i hi]; omega
      · simp only [br1]
      · simp only [br1]; exact g6
    refine ⟨.ms nx 0 R.length 1, outH R nx, nx + 1 + R.length, βr, .inr ⟨hRn, rfl, rfl, rfl⟩, ?_, ⟨fun q c hq => ?_, fun q q' c c' hq hq' he => ?_, hNr, hS⟩, fun q c hq => ?_, by omega⟩
    · rw [hll]
      refine .ms (show nx < nx + 1 + R.length by omega) rfl (fun c hc => ?_) fun c hc _ => ⟨cap, rr, e, (0, 0), ?_, by omega, ?_, a7⟩
      · simp only [hH0, Option.some.injEq] at hc
        subst hc
        simp [outC]
      · simp only [br0]
      · simp only [br0]; exact c1
    · rcases hHc q c hq with ⟨rfl, rfl⟩ | ⟨i, hi, rfl, rfl⟩
      · refine ⟨show q < q + 1 + R.length by omega, ?_, .cells rr e (0, 0), ?_, ⟨rfl, ?_, fun i hi => ?_⟩⟩
        · simp only [br0]; omega
        · simp only [br0]; exact c1
        · simp [outC]; omega
        · have hi' : i < R.length := by simpa [outC] using hi
          rw [outC_get hi' hi]
          exact hrow i hi'
      · obtain ⟨g1, cap', q, e', g2, g3, g4, g5, g6, g7⟩ := row i hi
        refine ⟨show nx + 1 + i < nx + 1 + R.length by omega, ?_, .cells q e' (0, 0), ?_, ⟨rfl, ?_, fun j hj => ?_⟩⟩
        · simp only [br1]; omega
        · simp only [br1]; exact g6
        · simp only [ints, List.length_map, h3R i hi]; omega
        · have hj' : j < 3 := by rw [← h3R i hi]; simpa only [ints, List.length_map] using hj
          have hv : (ints (R.getD i []))[j] = int ((R.getD i []).getD j 0) := by
            have : j < (R.getD i []).length := by rw [h3R i hi]; exact hj'
            simp only [ints, List.getElem_map]
            rw [List.getD_eq_getElem?_getD (l := R.getD i []), List.getElem?_eq_getElem this]; rfl
          rw [hv, g5 j hj']
          exact .pure (.v _)
    · rcases hHc q c hq with ⟨rfl, rfl⟩ | ⟨i, hi, rfl, rfl⟩ <;> rcases hHc q' c' hq' with ⟨rfl, rfl⟩ | ⟨i', hi', rfl, rfl⟩
      · rfl
      · simp only [br0, br1] at he
        obtain ⟨_, _, _, _, _, _, _, _, _, g7⟩ := row i' hi'
        exact (dj _ c2 (he ▸ g7)).elim
      · simp only [br0, br1] at he
        obtain ⟨_, _, _, _, _, _, _, _, _, g7⟩ := row i hi
        exact (dj _ c2 (he ▸ g7)).elim
      · simp only [br1] at he
        have e1 : hrows R i = some (ints R[i]) := by simp [hrows, hi]
        have e2 : hrows R i' = some (ints R[i']) := by simp [hrows, hi']
        have := hF.objs.inj i i' _ _ e1 e2 he
        omega
    · rcases hHc q c hq with ⟨rfl, rfl⟩ | ⟨i, hi, rfl, rfl⟩
      · exact ⟨Nat.le_refl _, by rw [br0]; exact b2⟩
      · exact ⟨by omega, by rw [br1]; exact (row i hi).1⟩
end Go.Av

/-
  SetFunctor.slots, whole: it starts the sender and takes the rows.
-/
namespace Go.Av
set_option linter.unusedSectionVars false
set_option linter.unusedSimpArgs false
set_option linter.unusedVariables false
open Go.Conc (G rcase core born)
open Go.RowKit (Below)

def isGo (o : Oper) : Bool := (match o.op with | .go { callee := .value (.tmp 11), args, .. } => args.size == 0 | _ => false) && o.dst.isNone && o.guard.isNone
def mk2 : List Aop := [mkA 11 (.p (.mkf 392) [.t 2, .t 3, .t 5, .t 6])]
/-- The whole of the taker's code. -/
def chkS (T : Tr) (c : Code) : Option (List (List Aop) × List Aop × List Aop) :=
  match MnP.of c with
  | some p => if p.r2.size == 2 && (p.r2[1]?).any isGo then
      (match chkM T c, chk1 T p.r1, (p.r2.toList.take 1).mapM (T.oper p.r2 true) with
      | some a, some b, some d => some (a, b, d)
      | _, _, _ => none)
    else none
  | none => none
structure SlOk (T : Tr) (p : MnP) : Prop where
  mn : MnOk T p
  r1 : R1Ok T p.r1
  s2 : p.r2.size = 2
  go : ∃ o, p.r2[1]? = some o ∧ isGo o = true
  h2 : (p.r2.toList.take 1).mapM (T.oper p.r2 true) = some mk2

section
local instance bsMd : Md := beside
theorem chkS_ok {T : Tr} {c : Code} (h : chkS T c = some (MnL.all, mk1, mk2)) : ∃ p, c = p.all ∧ SlOk T p := by
  unfold chkS at h
  split at h
  · rename_i p hp
    split at h
    · rename_i hc
      simp only [Bool.and_eq_true, beq_iff_eq, Option.any_eq_true] at hc
      split at h
      · rename_i a b d h1 h2 h3
        cases h
        obtain ⟨p', hp', hM⟩ := chkM_ok h1
        rw [hp] at hp'
        cases hp'
        exact ⟨p, MnP.of_eq hp, hM, chk1_ok h2, hc.1, hc.2, h3⟩
      · cases h
    · cases h
  · cases h

/-- What is known of the two functions. -/
structure SlF (P : Program) (ν : Nat → FuncId) (num : FuncId → Option Nat) (hint hintc : List (Nat × Nat)) (p : MnP) (pc : ChP) : Prop where
  hν : ∀ f id, num f = some id → ν id = f
  ok : SlOk ⟨P, num, hint, 25⟩ p
  okc : ChOk ⟨P, num, hintc, 46⟩ pc
  fn : ∃ fn, P.funcs[ν 286]? = some fn ∧ fn.body = some p.all ∧ fn.ntmps = 25 ∧ fn.results = #[.tmp 4] ∧ (fn.name == "runtime.NumGoroutine") = false
  fnc : ∃ fn, P.funcs[ν 392]? = some fn ∧ fn.body = some pc.all ∧ fn.ntmps = 46 ∧ fn.results = #[] ∧ fn.norace = false ∧ (fn.name == "runtime.NumGoroutine") = false

theorem rV3 (y h : Int) : ∀ m i, ∀ q ∈ rV y h i m, q.length = 3
  | 0, _ => fun q hq => by simp [rV] at hq
  | m + 1, i => fun q hq => by
    simp only [rV, List.mem_cons] at hq
    rcases hq with rfl | hq
    · rfl
    · exact rV3 y h m _ q hq
theorem rH3 (y : Int) (N : Nat) : ∀ l, ∀ q ∈ rH y N l, q.length = 3
  | [] => fun q hq => by simp [rH] at hq
  | h :: r => fun q hq => by
    simp only [rH, List.mem_append] at hq
    exact hq.elim (rV3 y h N 0 q) (rH3 y N r q)
theorem rY3 (sets : List Int) (hm : Nat → List Int) : ∀ m y, ∀ q ∈ rY sets hm y m, q.length = 3
  | 0, _ => fun q hq => by simp [rY] at hq
  | m + 1, y => fun q hq => by
    simp only [rY, List.mem_append] at hq
    exact hq.elim (rH3 _ _ _ q) (rY3 sets hm m _ q)

variable {P : Program} {ν : Nat → FuncId} {T : Tr} {num : FuncId → Option Nat} {hint hintc : List (Nat × Nat)} {p : MnP} {pc : ChP} {w0 : World} {S : Nat → Prop} {X0 : Cx} {s : St} {a : Act} {w : World} {β : Nat → Nat} {b : Frame} {k : List Item} {cs : List Frame} {K0 : Goroutine → World → Prop} {c e : Nat}

/-- Behind the end case: the rows are handed back. -/
theorem tail (hb : b.kind ≠ .early) (hν : ∀ f id, T.num f = some id → ν id = f) (hp : MnOk T p) (hn : T.nt = 25) {z z' : Value} {u : AV} {r : World} {H' : Hp} {nx' : Nat} {β' : Nat → Nat} (ha : a.tmps.size = 25) (hd : a.defers = [])
    (hO : Objs ν w0.heap.size ⟨β', H', nx', r, S⟩) (hu : Rep ν ⟨β', H', nx', r, S⟩ u (a.tmps.getD 7 undef)) (hbl : Below w0.heap.size w0 r) (hX : Ext X0 ⟨β', H', nx', r, S⟩)
    (hK : ∀ (a' : Act) (r' : World) (β'' : Nat → Nat), a'.defers = [] → Rep ν ⟨β'', H', nx', r', S⟩ u (a'.tmps.getD 4 undef) → Objs ν w0.heap.size ⟨β'', H', nx', r', S⟩ → Ext X0 ⟨β'', H', nx', r', S⟩ → Below w0.heap.size w0 r' → ∀ todo, BR T.P K0 (G { b.at a' todo with mode := .returning } cs) r') :
    BR T.P K0 ((core (G (b.at a (.inRegion p.r6 (List.range 4) :: .code p.C2 :: .inBlock 1 :: .inLoop p.LB :: .inBlock 0 :: k)) cs)).finishComm T.P #[rcase c z, rcase e z'] .select ((1 : Nat) : Int) z' false) r := by
  obtain ⟨o, ho, hso⟩ := hp.sel
  simp only [isSel, Bool.and_eq_true, Option.isNone_iff_eq_none, beq_iff_eq] at hso
  obtain ⟨⟨_, hdst⟩, hgd⟩ := hso
  have hKK : bsMd.Ok T.P (BR T.P K0) := ⟨K0, rfl⟩
  have hg : (core (G (b.at a (.inRegion p.r6 (List.range 4) :: .code p.C2 :: .inBlock 1 :: .inLoop p.LB :: .inBlock 0 :: k)) cs)).finishComm T.P #[rcase c z, rcase e z'] .select ((1 : Nat) : Int) z' false =
      G (b.at (a.put (some 15) (.tuple #[.int .i64 1, .bool false, z, z'])) (.inRegion p.r6 [1, 2, 3] :: .code p.C2 :: .inBlock 1 :: .inLoop p.LB :: .inBlock 0 :: k)) cs := by
    have h0 : (p.r6[0]?).bind (·.dst) = some 15 := by rw [ho]; exact hdst
    have hc : commResult #[rcase c z, rcase e z'] .select ((1 : Nat) : Int) z' false = .tuple #[.int .i64 1, .bool false, z, z'] := by simp [commResult, rcase, goInt]
    show Go.Conc.served _ (commResult #[rcase c z, rcase e z'] .select ((1 : Nat) : Int) z' false) = _
    rw [hc, show List.range 4 = 0 :: [1, 2, 3] from rfl, ← h0]
    exact Go.Conc.served_G b a p.r6 0 [1, 2, 3] _ cs _
  rw [hg]
  have hS0 : Sim ν T.nt w0 S X0 ⟨fun t => if t = 7 then u else .v (a.tmps.getD t undef), H', nx'⟩ a r β' := by
    refine ⟨fun t => ?_, by rw [hn]; exact ha, hd, hO, hbl, hX⟩
    by_cases h : t = 7
    · subst h; simpa using hu
    · simp only [if_neg h]; exact .pure (.v _)
  have hS := hS0.put (u := .tup [int 1, .v (.bool false), .v z, .v z']) (v := .tuple #[.int .i64 1, .bool false, z, z']) (.tup _ rfl fun i hi => by
    match i, hi with
    | 0, _ => exact .pure (.v _)
    | 1, _ => exact .pure (.v _)
    | 2, _ => exact .pure (.v _)
    | 3, _ => exact .pure (.v _)) (d := some 15) (fun k hk => by cases hk; omega)
  generalize hs' : St.put ⟨fun t => if t = 7 then u else .v (a.tmps.getD t undef), H', nx'⟩ (some 15) (.tup [int 1, .v (.bool false), .v z, .v z']) = s1 at hS
  have h15 : s1.env 15 = .tup [int 1, .v (.bool false), .v z, .v z'] := by rw [← hs']; simp [St.put, put]
  have h7 : s1.env 7 = u := by rw [← hs']; simp [St.put, put]
  have hH : s1.heap = H' ∧ s1.next = nx' := by rw [← hs']; exact ⟨rfl, rfl⟩
  have hL : (p.r6.toList.drop 1).length = 3 := by simp [hp.s6]
  rw [show [1, 2, 3] = List.range' 1 (p.r6.toList.drop 1).length ++ [] by rw [hL]; rfl]
  refine seg_ops hKK hb hν hp.h6 (fun j hj => by rw [List.getElem?_drop, Array.getElem?_toList]) hS (em_l6 h15) fun s2 a2 v2 β2 ⟨g1, g2, g3, g17, g18, g15⟩ hS2 => ?_
  refine k_end hKK (k_block hKK (k_cond hKK hS2 (d := false) g17 ?_))
  simp only [Bool.false_eq_true, if_false]
  refine k_cond hKK hS2 (d := true) g18 ?_
  simp only [if_true]
  refine k_seq hKK (Av.seg hKK hb hν hp.h9 hS2 (em_l9 ((g3 7 (by omega)).trans h7)) fun s3 a3 v3 β3 ⟨q1, q2, q4⟩ hS3 => ?_)
  have e1 : s3.heap = H' := q1.trans (g1.trans hH.1)
  have e2 : s3.next = nx' := q2.trans (g2.trans hH.2)
  have r4 := hS3.env 4
  rw [q4] at r4
  have o3 := hS3.objs
  have x3 := hS3.ext
  rw [e1, e2] at r4 o3 x3
  exact ctl hKK (fun _ => Go.Conc.stepG_ret') (hK a3 v3 β3 hS3.defers r4 o3 x3 hS3.below _)

/-- SetFunctor.slots. -/
theorem slots_ok {fc : List AV} {x : Int} {n : Nat} {sets : List Int} {hm : Nat → List Int} (hF : SlF P ν num hint hintc p pc) (hC : FcOk ν P fc x n sets hm) (hZ : (rY sets hm 0 n).length < 1099511627776) (nx : Nat) :
    OkM P ν 286 [.ptr fc 0, int x] hempty nx (Out (rY sets hm 0 n) nx) := by
  obtain ⟨hν, hok, hokc, ⟨fn, hfn, hbody, hN, hres, hname⟩, fnc, hfnc, hbodyc, hNc, hresc, hnrc, hnamec⟩ := hF
  let T : Tr := ⟨P, num, hint, 25⟩
  have hnt : T.nt = 25 := rfl
  refine ⟨⟨fn, hfn, by rw [hbody]; rfl, hname⟩, fun w0 S β w vs hO hbl hsz hargs => calls_of_wp hfn hbody ?_⟩
  rintro K b k cs ⟨K0, rfl⟩ hb hQ
  have hKK : bsMd.Ok T.P (BR T.P K0) := ⟨K0, rfl⟩
  have hS0 : Sim ν T.nt w0 S ⟨β, hempty, nx, w, S⟩ (st0 [.ptr fc 0, int x] hempty nx) { tmps := vs ++ Array.replicate (fn.ntmps - vs.size) undef, defers := [] } w β := by
    have hs2 : vs.size = 2 := hsz
    refine ⟨fun t => ?_, by simp; omega, rfl, hO, hbl, Ext.refl _⟩
    by_cases ht : t < 2
    · have e1 : (vs ++ Array.replicate (fn.ntmps - vs.size) undef).getD t undef = vs.getD t undef := by
        have : t < vs.size := by omega
        simp [Array.getElem?_append_left this]
      simp only [e1]
      rcases (show t = 0 ∨ t = 1 by omega) with rfl | rfl
      · exact hargs 0 (by simp)
      · exact hargs 1 (by simp)
    · have e1 : (vs ++ Array.replicate (fn.ntmps - vs.size) undef).getD t undef = undef := by
        have : vs.size ≤ t := by omega
        rw [Array.getD_eq_getD_getElem?, Array.getElem?_append_right this]
        by_cases h2 : t - vs.size < fn.ntmps - vs.size
        · simp [h2]
        · rw [Array.getElem?_eq_none (by simp; omega)]; rfl
      have e2 : (st0 [.ptr fc 0, int x] hempty nx).env t = .v undef := by
        simp only [st0, env0]
        rw [List.getD_eq_getElem?_getD, List.getElem?_eq_none (by simp; omega)]; rfl
      simp only [e1]
      rw [e2]
      exact .pure (.v _)
  generalize ({ tmps := vs ++ Array.replicate (fn.ntmps - vs.size) undef, defers := [] } : Act) = a0 at hS0
  refine k_seq hKK (seg hKK hb hν hok.mn.h0 hS0 (em_l0 rfl rfl) fun s1 a1 w1 β1 ⟨q1, q2, q3, q4⟩ hS1 => ?_)
  refine k_seq hKK (region1 (Q := fun e a' w' => e = .normal ∧ BR T.P K0 (G (b.at a' (.code (.seq (.region 2 p.r2 false) p.R3) :: k)) cs) w') hν hnt hok.r1 hS1 (fun listed s2 a2 w2 β2 hall hJ => ⟨rfl, ?_⟩) _ b _ cs hKK hb fun e a' w' hq => by
    obtain ⟨rfl, hq⟩ := hq
    exact hq)
  obtain ⟨c, c9, hc⟩ := hJ.c9 (hall 0 (by omega))
  obtain ⟨e, c10, he⟩ := hJ.c10 (hall 1 (by omega))
  have hne : c ≠ e := fun h => hJ.ne (hall 0 (by omega)) (hall 1 (by omega)) (by rw [c9, c10, h])
  obtain ⟨o5, x5, e5, h5, hx5⟩ := hJ.p5 (hall 2 (by omega))
  obtain ⟨o6, x6, e6, h6, hx6⟩ := hJ.p6 (hall 3 (by omega))
  have hx5 := (hx5 (hall 4 (by omega))).trans c9
  have hx6 := (hx6 (hall 5 (by omega))).trans c10
  subst hx5; subst hx6
  have f2 : s2.env 2 = .ptr [.ptr fc 0] 0 := (hJ.old 2 (by omega) (by omega) (by omega) (by omega)).trans q3
  have f3 : s2.env 3 = .ptr [int x] 0 := (hJ.old 3 (by omega) (by omega) (by omega) (by omega)).trans q4
  refine k_seq hKK (k_region hKK ?_)
  rw [hok.s2, show List.range 2 = List.range' 0 (p.r2.toList.take 1).length ++ [1] by rw [List.length_take, Array.length_toList, hok.s2]; rfl]
  refine seg_ops (Q := fun s' => s'.heap = s2.heap ∧ s'.next = s2.next ∧ s'.env 11 = .fn 392 [.ptr [.ptr fc 0] 0, .ptr [int x] 0, .mp o5 0 1, .mp o6 0 1] ∧ s'.env 5 = s2.env 5 ∧ s'.env 6 = s2.env 6) hKK hb hν hok.h2 (fun j hj => by
    have : j < 1 := by simpa [hok.s2] using hj
    rw [List.getElem?_take_of_lt this, Nat.zero_add]; simp) hJ.sim.base ?_ fun s3 a3 w3 β3 ⟨g1, g2, g11, g5, g6⟩ hS3 => ?_
  · simp [mk2, mkA, opsK, opK, stepK, OptK, pvf, pMkf, ev, St.put, put, f2, f3, e5, e6]
  have hSg : Sim ν 25 w0 S ⟨β, hempty, nx, w, S⟩ s3 a3 w3 β3 := hS3.withX hJ.sim.ext
  have hc := hc.mono hS3.ext
  have he := he.mono hS3.ext
  obtain ⟨o, ho, hgo⟩ := hok.go
  simp only [isGo, Bool.and_eq_true, Option.isNone_iff_eq_none] at hgo
  obtain ⟨⟨hop, hdst⟩, hgd⟩ := hgo
  have hop' : ∃ ats, o.op = .go { callee := .value (.tmp 11), args := #[], argTypes := ats } := by
    split at hop
    · rename_i args ats heq
      have : args = #[] := by simpa using hop
      exact ⟨ats, by rw [heq, this]⟩
    · cases hop
  obtain ⟨ats, hop'⟩ := hop'
  have r11 := hS3.env 11
  rw [g11] at r11
  obtain ⟨vc, ev11, hvs, hreps⟩ := r11.inv_fn
  have hw : Region.wanted o (yielded p.r2 a3.tmps) = true := by simp [Region.wanted, hgd]
  have ha3 : a3.put o.dst undef = a3 := by simp [hdst, Act.put]
  have hs : ∀ d, stepG P true (G (b.at a3 (.inRegion p.r2 [1] :: .code p.R3 :: k)) cs) (w3.at d) = .spawn (G (b.at a3 (.inRegion p.r2 [] :: .code p.R3 :: k)) cs) (born P { target := .fn (.func (ν 392)) vc, args := #[] }) (w3.at d) #[] := by
    intro d
    rw [Go.Conc.stepG_spawn ho hw hb (d := { target := .fn (.func (ν 392)) vc, args := #[] }) (w' := w3.at d) (f := .func (ν 392)) (c := vc) (by
      unfold execOp
      simp only [hop', resolve, Act.eval, ev11, Deferred.ofValue]
      simp) rfl, ha3, Go.Conc.listed_none (by
      unfold execOp
      simp only [hop', resolve, Act.eval, ev11, Deferred.ofValue]
      rfl)]
  refine BR.fork rfl hs fun d => ⟨rfl, ?_⟩
  obtain ⟨z, z', hsel⟩ := AtM.sel (ν := ν) (T := T) (w0 := chl (w3.at d)) (S := fun _ => True) (c := c) (e := e) (k := k) (cs := cs) hok.mn hb
  have hsz3 : (chl (w3.at d)).heap.size = w3.heap.size := by simp [chl]; rfl
  -- what is read in the part
  let Xu : Cx := ⟨fun _ => 0, hempty, 0, chl (w3.at d), fun _ => True⟩
  have imm : ∀ q, Imm ⟨β3, s3.heap, s3.next, w3, S⟩ q → Imm Xu q := fun q hq => ⟨⟨by show q < (chl (w3.at d)).heap.size; rw [hsz3]; exact hq.1.1, trivial⟩, fun o c h => (by cases h)⟩
  have ptr : ∀ {cs' : List AV} {v : Value}, Rep ν ⟨β3, s3.heap, s3.next, w3, S⟩ (.ptr cs' 0) v → Rep ν Xu (.ptr cs' 0) v := fun h => .pure (RepP.chl (w := w3.at d) (h.inv_ptrP.mono (fun _ h => h) (fun _ _ => rfl)) imm)
  have box : ∀ {q : Nat} {y v : Value}, s3.heap q = some [.v y] → Rep ν ⟨β3, s3.heap, s3.next, w3, S⟩ (.mp q 0 1) v → Rep ν Xu (.ptr [.v y] 0) v := by
    intro q y v hq hv
    obtain ⟨_, _, _, h4⟩ := hv.inv_mp
    obtain ⟨rfl, hrow⟩ := h4 _ hq rfl
    obtain ⟨_, _, rr, ee, hr, hle, hrep⟩ := hS3.objs.row hq hrow
    have hy : rr.getD 0 undef = y := (hrep 0 (by simp)).inv_v
    have hlt : β3 q < w3.heap.size := (Array.getElem?_eq_some_iff.1 hr).1
    refine .pure (.ptr (b := β3 q) (base := 0) (fun _ => y) ⟨⟨by show β3 q < (chl (w3.at d)).heap.size; rw [hsz3]; exact hlt, trivial⟩, fun o c h => (by cases h)⟩ (fun i hi => cell_chl ?_) fun i hi => ?_)
    · have hi0 : i = 0 := by simpa using hi
      subst hi0
      have h1 : 1 ≤ rr.size := by simpa using hle
      show World.cell? w3 ⟨β3 q, 0 + 0, none⟩ = some y
      unfold World.cell?
      simp only at hr
      rw [hr]
      simp
      have := hy
      rw [Array.getD_eq_getD_getElem?, Array.getElem?_eq_getElem (by omega)] at this
      rw [Array.getElem?_eq_getElem (by omega)]
      simpa using this
    · have hi0 : i = 0 := by simpa using hi
      subst hi0
      exact .v y
  have v0 := hreps 0 (by simp)
  have v1 := hreps 1 (by simp)
  have v2 := hreps 2 (by simp)
  have v3 := hreps 3 (by simp)
  refine ⟨c, e, z, z', AtM ν T (chl (w3.at d)) (fun _ => True) c e p b k cs, SentZ 1099511627776, Fin1 ν (chl (w3.at d)).heap.size (fun _ => True) (rY sets hm 0 n), hc.2.2.1.1.1, he.2.2.1.1.1, hne, ⟨0, 0, hc.2.2.2⟩, ⟨0, 0, he.2.2.2⟩, ?_, ?_, ?_⟩
  · refine ⟨hsel, fun l g v v' h ho => h.st ho, fun l v v' h ho => h.st ho, fun l g v x hA hx => to_next hν hok.mn hb (show 15 < 25 by omega) hA (hx.2 x (by simp)) (by have := hx.1; simp at this; omega), ?_⟩
    rintro l g v0 v1 r M0 M1 ⟨s4, a4, β4, hM, h13, h14, rfl⟩ ⟨β5, hH⟩ h0 h1 dj hsm
    have hB : (chl (w3.at d)).heap.size = (w3.at d).heap.size := by simp [chl]
    have hO4 := hM.sim.objs
    have hb4 := hM.sim.below
    rw [hB] at hH hO4
    obtain ⟨r0, H', nx', β', hOut, hRep, hObj, hnew, hnx⟩ := joined (N := w0.heap.size) (S := S) (rY3 sets hm n 0) hH hO4 hM.out (hM.sim.env 7) h0 h1 dj (show w0.heap.size ≤ (w3.at d).heap.size from hSg.below.size) hSg.objs.new nx
    have hbel : Below w0.heap.size w0 r := by
      refine ⟨h0.os.symm.trans (hb4.os.trans hSg.below.os), h0.tape.symm.trans (hb4.tape.trans hSg.below.tape), h0.output.symm.trans (hb4.output.trans hSg.below.output), Nat.le_trans hSg.below.size h0.low, fun q hq => ?_⟩
      have l1 : q < w3.heap.size := Nat.lt_of_lt_of_le hq hSg.below.size
      have := hc.1
      have := he.1
      exact (hsm q l1 (by omega) (by omega)).trans (hSg.below.block q hq)
    have hExt : Ext ⟨β, hempty, nx, w, S⟩ ⟨β', H', nx', r, S⟩ := by
      refine ⟨hnx, fun q hq => ?_, fun q hq => ?_, fun o c' ho hc' => ?_, fun o c' ho hc' => ?_⟩
      · have i3 := hSg.ext.imm q hq
        refine ⟨⟨Nat.lt_of_lt_of_le i3.1.1 h0.low, i3.1.2⟩, fun o c' hc' e => ?_⟩
        have := (hnew o c' hc').2
        have l3 := i3.1.1
        simp only at l3 e
        have : (w3.at d).heap.size = w3.heap.size := rfl
        omega
      · have i3 := hSg.ext.imm q hq
        exact (hsm q i3.1.1 (fun e => hc.2.1 (e ▸ hq)) (fun e => he.2.1 (e ▸ hq))).trans (hSg.ext.same q hq)
      · have := (hnew o c' hc').1
        simp only at ho
        omega
      · have := (hnew o c' hc').1
        simp only at ho
        omega
    exact tail (T := T) hb hν hok.mn rfl hM.sim.size hM.sim.defers hObj hRep hbel hExt fun a' r' β'' hd' hr' hO' hX' hbl' todo => hQ .ret a' r' ⟨hd', a'.tmps.getD 4 undef, res_rl (by simp [results, hres]), _, r0, H', nx', β'', rfl, hOut, hr', hO', hX', hbl'⟩ todo
  · exact sender (T := ⟨P, num, hintc, 46⟩) (x := x) (n := n) (sets := sets) (hm := hm) hν hokc hC hfnc hbodyc hNc.symm hresc hnrc hNc (Nat.le_of_lt hZ) hnamec hvs (fun _ _ => trivial) (Below.refl _ _) (ptr v0) (ptr v1) (box (by rw [g1]; exact h5) v2) (box (by rw [g1]; exact h6) v3)
  · let sM : St := ⟨fun t => if t = 5 then .ptr [.v (.chan (some c))] 0 else if t = 6 then .ptr [.v (.chan (some e))] 0 else .v (a3.tmps.getD t undef), hempty, 0⟩
    have hSu : Sim ν 25 (chl (w3.at d)) (fun _ => True) Xu sM a3 (chl (w3.at d)) (fun _ => 0) := by
      refine ⟨fun t => ?_, hS3.size, hS3.defers, ⟨fun o c h => (by cases h), fun o o' c c' h => (by cases h), Nat.le_refl _, fun _ _ => trivial⟩, Below.refl _ _, Ext.refl _⟩
      by_cases h5' : t = 5
      · subst h5'
        have := hS3.env 5
        rw [g5, e5] at this
        simpa [sM] using box (by rw [g1]; exact h5) this
      · by_cases h6' : t = 6
        · subst h6'
          have := hS3.env 6
          rw [g6, e6] at this
          simpa [sM] using box (by rw [g1]; exact h6) this
        · simp only [sM, if_neg h5', if_neg h6']; exact .pure (.v _)
    exact to_first (T := T) (s := sM) hν hok.mn hb hSu rfl rfl rfl
end
end Go.Av
