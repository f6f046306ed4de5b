/-
  An abstract reading of the model's code: values as trees, memory that is only read as lists, memory that a call makes and writes as numbered objects. Plain definitions.
-/
import Derived.Orders
import Derived.Laws.AppendOwn
import Derived.Below
import Derived.KernelRfl
import Derived.Laws.StructEq
namespace Go.Av

inductive AV where
  | v (x : Value)
  | nil
  | sl (cells : List AV) (n : Nat)
  | ptr (cells : List AV) (off : Nat)
  | ms (o off n sz : Nat)
  | mp (o off len : Nat)
  | agg (cells : List AV)
  | tup (l : List AV)
  | fn (id : Nat) (caps : List AV)

abbrev Hp := Nat → Option (List AV)

structure St where
  env : Nat → AV
  heap : Hp
  next : Nat

def put (e : Nat → AV) (d : Nat) (u : AV) : Nat → AV := fun t => if t = d then u else e t
def hput (h : Hp) (o : Nat) (c : Option (List AV)) : Hp := fun t => if t = o then c else h t
def hempty : Hp := fun _ => none

def St.put (s : St) (d : Option Nat) (u : AV) : St :=
  match d with
  | some d => { s with env := Av.put s.env d u }
  | none => s

def int (n : Int) : AV := .v (.int .i64 n)
def bool (b : Bool) : AV := .v (.bool b)
def ints (l : List Int) : List AV := l.map int
def islice (l : List Int) : AV := .sl (ints l) l.length
def rows (l : List (List Int)) : List AV := l.map islice

def AV.cells : AV → List AV
  | .agg cs => cs
  | a => [a]

def AV.one : AV → Bool
  | .v x => x.oneCell'
  | .agg _ => false
  | .tup _ => false
  | _ => true

inductive Opd where
  | t (n : Nat)
  | c (a : AV)
  | f (id : Nat)

def ev (e : Nat → AV) : Opd → AV
  | .t n => e n
  | .c a => a
  | .f id => .fn id []

inductive PO where
  | mov | pick | bin (op : BinOp) | bnot
  | len | fad (off : Nat) | iad (sz : Nat) | ld (n : Option Nat) | nck | ext (i : Nat) | fld (off : Nat) (n : Option Nat)
  | mka (zero : List AV) (parts : List (Nat × Nat))
  | msl (n : Nat) (zero : List AV) (parts : List (Nat × Nat))
  | box
  | slc (lo hi : Bool) (sz : Nat)
  | mkf (id : Nat)
  | eqs (neg : Bool) (n : Nat)
  | eqb (neg : Bool)
  | mmx (isMax : Bool)

def intBin (op : BinOp) (k : IntKind) (a b : Int) : Option Value :=
  match op with
  | .add => some (.int k (k.wrap (a + b)))
  | .sub => some (.int k (k.wrap (a - b)))
  | .mul => some (.int k (k.wrap (a * b)))
  | .quo => if b = 0 then none else some (.int k (k.wrap (a.tdiv b)))
  | .rem => if b = 0 then none else some (.int k (a.tmod b))
  | .eql => some (.bool (a == b))
  | .neq => some (.bool (a != b))
  | .lss => some (.bool (decide (a < b)))
  | .leq => some (.bool (decide (a ≤ b)))
  | .gtr => some (.bool (decide (a > b)))
  | .geq => some (.bool (decide (a ≥ b)))
  | _ => none

def pPick : List AV → Option AV
  | [.v (.bool c), a, b] => some (if c then a else b)
  | _ => none
def pBin (op : BinOp) : List AV → Option AV
  | [.v (.int k a), .v (.int k' b)] => if k = k' then (intBin op k a b).map .v else none
  | _ => none
def pNot : List AV → Option AV
  | [.v (.bool b)] => some (.v (.bool (!b)))
  | _ => none
def pLen (H : Hp) : List AV → Option AV
  | [.sl _ n] => some (.v (.int .i64 n))
  | [.nil] => some (.v (.int .i64 0))
  | [.ms o off n sz] => (match H o with | some c => if off + n * sz = c.length then some (.v (.int .i64 n)) else none | none => none)
  | _ => none
def pFad (H : Hp) (off : Nat) : List AV → Option AV
  | [.ptr c o] => some (.ptr c (o + off))
  | [.mp o p l] => (match H o with | some c => if c.length = l then some (.mp o (p + off) l) else none | none => none)
  | _ => none
def pIad (H : Hp) (sz : Nat) : List AV → Option AV
  | [.sl c n, .v (.int _ i)] => if 0 ≤ i ∧ i < n then some (.ptr c (i.toNat * sz)) else none
  | [.ms o off n sz', .v (.int _ i)] => if sz' = sz ∧ 0 ≤ i ∧ i < n then (match H o with | some cells => if off + n * sz = cells.length then some (.mp o (off + i.toNat * sz) cells.length) else none | none => none) else none
  | _ => none
def pLd (H : Hp) (n : Option Nat) : List AV → Option AV
  | [.ptr c o] => (match n with | none => c[o]? | some n => if o + n ≤ c.length then some (.agg ((c.drop o).take n)) else none)
  | [.mp o p l] => (match H o with
    | some c => if c.length = l then (match n with | none => c[p]? | some n => if p + n ≤ c.length then some (.agg ((c.drop p).take n)) else none) else none
    | none => none)
  | _ => none
def pNck (H : Hp) : List AV → Option AV
  | [.ptr c o] => some (.ptr c o)
  | [.mp o p l] => (match H o with | some c => if c.length = l then some (.mp o p l) else none | none => none)
  | [.fn i c] => some (.fn i c)
  | _ => none
def pExt (i : Nat) : List AV → Option AV
  | [.tup l] => l[i]?
  | _ => none
def pFld (off : Nat) (n : Option Nat) : List AV → Option AV
  | [.agg c] => (match n with | none => c[off]? | some n => if off + n ≤ c.length then some (.agg ((c.drop off).take n)) else none)
  | _ => none

/-- The parts laid over the zero cells. -/
def lay (cells : List AV) : List (Nat × Nat) → List AV → Option (List AV)
  | [], [] => some cells
  | (off, size) :: ps, x :: xs =>
    if x.cells.length = size ∧ off + size ≤ cells.length ∧ x.cells.all AV.one then lay (cells.take off ++ x.cells ++ cells.drop (off + size)) ps xs else none
  | _, _ => none

/-- What a value reads as when the objects behind it are taken as they stand. -/
def frz (H : Hp) : Nat → AV → Option AV
  | _, .v x => some (.v x)
  | _, .nil => some (.sl [] 0)
  | _, .sl c n => some (.sl c n)
  | _, .ptr c o => some (.ptr c o)
  | 0, _ => none
  | k + 1, .ms o off n sz => (match H o with
    | some cells => if off + n * sz = cells.length then (cells.mapM (frz H k)).map (fun cs => .sl (cs.drop off) n) else none
    | none => none)
  | k + 1, .mp o off len => (match H o with
    | some cells => if cells.length = len then (cells.mapM (frz H k)).map (fun cs => .ptr cs off) else none
    | none => none)
  | k + 1, .agg cs => (cs.mapM (frz H k)).map .agg
  | k + 1, .tup cs => (cs.mapM (frz H k)).map .tup
  | k + 1, .fn id cs => (cs.mapM (frz H k)).map (.fn id)

def fuel : Nat := 6
def frzL (H : Hp) (xs : List AV) : Option (List AV) := xs.mapM (frz H fuel)

/-- The same, where nothing but values that the call made (or that hold no memory at all) is let by. -/
def frzN (H : Hp) : Nat → AV → Option AV
  | _, .v x => some (.v x)
  | _, .nil => some (.sl [] 0)
  | k + 1, .ms o off n sz => (match H o with
    | some cells => if off + n * sz = cells.length then (cells.mapM (frzN H k)).map (fun cs => .sl (cs.drop off) n) else none
    | none => none)
  | k + 1, .mp o off len => (match H o with
    | some cells => if cells.length = len then (cells.mapM (frzN H k)).map (fun cs => .ptr cs off) else none
    | none => none)
  | k + 1, .agg cs => (cs.mapM (frzN H k)).map .agg
  | k + 1, .tup cs => (cs.mapM (frzN H k)).map .tup
  | _, _ => none

/-- Nothing but plain values and objects from number nx on. -/
def cln (nx : Nat) : Nat → AV → Bool
  | _, .v _ => true
  | _, .nil => true
  | _, .ms o _ _ _ => decide (nx ≤ o)
  | _, .mp o _ _ => decide (nx ≤ o)
  | k + 1, .agg cs => cs.all (cln nx k)
  | k + 1, .tup cs => cs.all (cln nx k)
  | _, _ => false
def clnH (nx : Nat) (H : Hp) : Prop := ∀ o c, H o = some c → c.all (cln nx 0) = true
def Sub (H H' : Hp) : Prop := ∀ o c, H o = some c → H' o = some c
def hmerge (nx : Nat) (H H' : Hp) : Hp := fun o => if o < nx then H o else H' o

def pMka (zero : List AV) (parts : List (Nat × Nat)) (xs : List AV) : Option AV := (lay zero parts xs).map .agg
def pMsl (n : Nat) (zero : List AV) (parts : List (Nat × Nat)) (xs : List AV) : Option AV :=
  match n with
  | 0 => some .nil
  | _ => (match lay zero parts xs with
    | some cs => (match frzL hempty cs with | some cs' => some (.sl cs' n) | none => none)
    | none => none)
def pBox : List AV → Option AV
  | [x] => (match frzL hempty x.cells with | some cs => if x.cells.all AV.one then some (.ptr cs 0) else none | none => none)
  | _ => none
def asI : AV → Option Int
  | .v (.int _ i) => some i
  | _ => none
def pSlc (lo hi : Bool) (sz : Nat) : List AV → Option AV
  | x :: r =>
    match (if lo then (r[0]?).bind asI else some 0), x with
    | some l, .sl c n =>
      (match (if hi then (r[if lo then 1 else 0]?).bind asI else some (n : Int)) with
      | some h => if 0 ≤ l ∧ l ≤ h ∧ h ≤ n ∧ n * sz = c.length then some (.sl ((c.drop (l.toNat * sz)).take ((h - l).toNat * sz)) (h - l).toNat) else none
      | none => none)
    | some l, .nil =>
      (match (if hi then (r[if lo then 1 else 0]?).bind asI else some (0 : Int)) with
      | some h => if l = 0 ∧ h = 0 then some .nil else none
      | none => none)
    | _, _ => none
  | [] => none
def avI : AV → Option Int
  | .v (.int .i64 i) => some i
  | _ => none
/-- Two structs of integers. -/
def pEqs (neg : Bool) (n : Nat) : List AV → Option AV
  | [.agg xs, .agg ys] =>
    (match xs.mapM avI, ys.mapM avI with
    | some l, some m => if l.length = n ∧ m.length = n then some (.v (.bool ((l == m) != neg))) else none
    | _, _ => none)
  | _ => none
def pEqb (neg : Bool) : List AV → Option AV
  | [.v (.bool a), .v (.bool b)] => some (.v (.bool ((a == b) != neg)))
  | _ => none
def pMmx (isMax : Bool) : List AV → Option AV
  | [.v (.int .i64 a), .v (.int .i64 b)] => some (.v (.int .i64 (if isMax then max a b else min a b)))
  | _ => none
def pMkf (id : Nat) (xs : List AV) : Option AV := some (.fn id xs)

def pvf (H : Hp) (op : PO) (xs : List AV) : Option AV :=
  match op with
  | .mov => xs[0]?
  | .pick => pPick xs
  | .bin op => pBin op xs
  | .bnot => pNot xs
  | .len => pLen H xs
  | .fad off => pFad H off xs
  | .iad sz => pIad H sz xs
  | .ld n => pLd H n xs
  | .nck => pNck H xs
  | .ext i => pExt i xs
  | .fld off n => pFld off n xs
  | .mka z p => pMka z p xs
  | .msl n z p => pMsl n z p xs
  | .box => pBox xs
  | .slc lo hi sz => pSlc lo hi sz xs
  | .mkf id => pMkf id xs
  | .eqs neg n => pEqs neg n xs
  | .eqb neg => pEqb neg xs
  | .mmx m => pMmx m xs

/-- The operations of the compact code. -/
inductive AK where
  | p (op : PO) (xs : List Opd)
  | call (f : Opd) (xs : List Opd)
  | callm (f : Opd) (xs : List Opd)
  | callo (f : Opd) (xs : List Opd)
  | app (sz : Nat) (x y : Opd)
  | st (n : Nat) (a v : Opd)
  | new (zero : List AV)
  | boxm (x : Opd)
  | mks (zero : List AV) (n c : Opd)
  | mslm (sz n : Nat) (zero : List AV) (parts : List (Nat × Nat)) (xs : List Opd)

structure Aop where
  dst : Option Nat
  g : Option (Nat × Bool)
  k : AK
  h : Bool

inductive Cd where
  | skip
  | reg (ops : List Aop) (draw : Bool)
  | both (a b : Cd)
  | seq (a b : Cd)
  | cond (c : Opd) (a b : Cd)
  | block (id : Nat) (b : Cd)
  | loop (b : Cd)
  | exit (id : Nat)
  | scope (b : Cd)
  | label
  | ret

inductive Rv where
  | tmp (t : Nat)
  | cell (t : Nat) (n : Option Nat)

structure Fd where
  np : Nat
  nt : Nat
  res : List Rv
  body : Cd

/-- What is known of calls: a call of f with these arguments, over these objects, ends in a result and objects of which Φ holds. -/
abbrev Ct := Nat → List AV → Hp → Nat → (AV → Hp → Nat → Prop) → Prop

/-- A call that looks at frozen arguments; its result is frozen as well. -/
def Fz (C : Ct) (f : Nat) (ys : List AV) (r : AV) : Prop := C f ys hempty 0 fun r' H' _ => frzN H' fuel r' = some r

def OptK {α : Type} (o : Option α) (K : α → Prop) : Prop := ∃ u, o = some u ∧ K u

def fnOf : AV → Option (Nat × List AV)
  | .fn id caps => some (id, caps)
  | _ => none

def appCells (H : Hp) (sz : Nat) : AV → Option (List AV × Nat)
  | .nil => some ([], 0)
  | .sl c n => if c.length = n * sz then some (c, n) else none
  | .ms o off n sz' => if sz' = sz then (match H o with | some cells => if off + n * sz = cells.length then some (cells.drop off, n) else none | none => none) else none
  | _ => none

/-- How many cells an append may reach at most. -/
def appMax : Nat := 1099511627776

def appTo (s : St) (sz : Nat) (x : AV) (new : List AV) (m : Nat) : Option (AV × Hp × Nat) :=
  match x with
  | .nil => if m = 0 then some (.nil, s.heap, s.next) else if m ≤ appMax then some (.ms s.next 0 m sz, hput s.heap s.next (some new), s.next + 1) else none
  | .ms o 0 n sz' => if sz' = sz then (match s.heap o with
    | some cells => if n * sz = cells.length ∧ n + m ≤ appMax then some (.ms o 0 (n + m) sz, hput s.heap o (some (cells ++ new)), s.next) else none
    | none => none) else none
  | _ => none

def stTo (s : St) (n : Nat) (a v : AV) : Option Hp :=
  match a with
  | .mp o p l => (match s.heap o with
    | some c => if c.length = l ∧ v.cells.length = n ∧ p + n ≤ l ∧ v.cells.all AV.one then some (hput s.heap o (some (c.take p ++ v.cells ++ c.drop (p + n)))) else none
    | none => none)
  | _ => none

def mkTo (s : St) (zero : List AV) (n c : AV) : Option (AV × Hp × Nat) :=
  match n, c with
  | .v (.int .i64 n), .v (.int .i64 c) =>
    if 0 ≤ n ∧ n = c ∧ n ≤ 1099511627776 then some (.ms s.next 0 n.toNat zero.length, hput s.heap s.next (some ((List.replicate n.toNat zero).flatten)), s.next + 1) else none
  | _, _ => none

/-- A slice by a literal, as an object. -/
def mslTo (s : St) (sz n : Nat) (zero : List AV) (parts : List (Nat × Nat)) (xs : List AV) : Option (AV × Hp × Nat) :=
  match lay zero parts xs with
  | some cs => if n * sz = cs.length ∧ 0 < n then some (.ms s.next 0 n sz, hput s.heap s.next (some cs), s.next + 1) else none
  | none => none

def stepK (C : Ct) (o : Aop) (s : St) (K : St → Prop) : Prop :=
  let H := if o.h then s.heap else hempty
  match o.k with
  | .p op xs => OptK (pvf H op (xs.map (ev s.env))) fun u => K (s.put o.dst u)
  | .call f xs => OptK (fnOf (ev s.env f)) fun fc => OptK (frzL H (xs.map (ev s.env) ++ fc.2)) fun ys => ∃ r, Fz C fc.1 ys r ∧ K (s.put o.dst r)
  | .callm f xs => o.h = true ∧ OptK (fnOf (ev s.env f)) fun fc => ∃ Φ : AV → Hp → Nat → Prop, C fc.1 (xs.map (ev s.env) ++ fc.2) s.heap s.next Φ ∧ (∃ r H' nx', Φ r H' nx') ∧
      ∀ r H' nx', Φ r H' nx' → K ((⟨s.env, H', nx'⟩ : St).put o.dst r)
  | .callo f xs => o.h = true ∧ OptK (fnOf (ev s.env f)) fun fc => OptK (frzL s.heap (xs.map (ev s.env) ++ fc.2)) fun ys => ∃ Φ : AV → Hp → Nat → Prop, C fc.1 ys hempty s.next Φ ∧ (∃ r H' nx', Φ r H' nx') ∧
      ∀ r H' nx', Φ r H' nx' → cln s.next fuel r = true ∧ clnH s.next H' ∧ K ((⟨s.env, hmerge s.next s.heap H', nx'⟩ : St).put o.dst r)
  | .app sz x y => o.h = true ∧ OptK (appCells s.heap sz (ev s.env y)) fun cm => cm.1.all AV.one ∧ OptK (appTo s sz (ev s.env x) cm.1 cm.2) fun r =>
      K (({ s with heap := r.2.1, next := r.2.2 } : St).put o.dst r.1)
  | .st n a v => o.h = true ∧ OptK (stTo s n (ev s.env a) (ev s.env v)) fun h => K (({ s with heap := h } : St).put o.dst (.v undef))
  | .new zero => o.h = true ∧ K (({ s with heap := hput s.heap s.next (some zero), next := s.next + 1 } : St).put o.dst (.mp s.next 0 zero.length))
  | .boxm x => o.h = true ∧ (ev s.env x).cells.all AV.one ∧ K (({ s with heap := hput s.heap s.next (some (ev s.env x).cells), next := s.next + 1 } : St).put o.dst (.mp s.next 0 (ev s.env x).cells.length))
  | .mks zero n c => o.h = true ∧ OptK (mkTo s zero (ev s.env n) (ev s.env c)) fun r => K (({ s with heap := r.2.1, next := r.2.2 } : St).put o.dst r.1)
  | .mslm sz n z ps xs => o.h = true ∧ OptK (mslTo s sz n z ps (xs.map (ev s.env))) fun r => K (({ s with heap := r.2.1, next := r.2.2 } : St).put o.dst r.1)

def opK (C : Ct) (o : Aop) (s : St) (K : St → Prop) : Prop :=
  match o.g with
  | none => stepK C o s K
  | some (g, want) =>
    match s.env g with
    | .v (.bool b) => (b = want → stepK C o s K) ∧ (b = (!want) → K (s.put o.dst (.v undef)))
    | .v _ => K (s.put o.dst (.v undef))
    | _ => False

def opsK (C : Ct) : List Aop → St → (St → Prop) → Prop
  | [], s, K => K s
  | o :: r, s, K => opK C o s fun s' => opsK C r s' K

inductive Ex where
  | normal
  | exit (id : Nat)
  | ret
  deriving DecidableEq

def Ex.andThen (next : St → Prop) (Q : Ex → St → Prop) : Ex → St → Prop
  | .normal, s => next s
  | e, s => Q e s
def Ex.inBlock (id : Nat) (Q : Ex → St → Prop) : Ex → St → Prop
  | .exit id', s => if id' = id then Q .normal s else Q (.exit id') s
  | e, s => Q e s

def vc (C : Ct) : Cd → (Ex → St → Prop) → St → Prop
  | .skip, Q, s => Q .normal s
  | .reg ops _, Q, s => opsK C ops s (Q .normal)
  | .both a b, Q, s => vc C a Q s ∧ vc C b Q s
  | .seq a b, Q, s => vc C a (Ex.andThen (vc C b Q) Q) s
  | .cond c a b, Q, s =>
    match ev s.env c with
    | .v (.bool t) => (t = true → vc C a Q s) ∧ (t = false → vc C b Q s)
    | _ => False
  | .block id b, Q, s => vc C b (Ex.inBlock id Q) s
  | .loop b, Q, s => ∃ (I : St → Prop) (μ : St → Nat), I s ∧ ∀ s', I s' → vc C b (Ex.andThen (fun s'' => I s'' ∧ μ s'' < μ s') Q) s'
  | .exit id, Q, s => Q (.exit id) s
  | .scope b, Q, s => vc C b Q s
  | .label, Q, s => Q .normal s
  | .ret, Q, s => Q .ret s

def rvs (s : St) : List Rv → Option (List AV)
  | [] => some []
  | .tmp t :: r => (rvs s r).map (s.env t :: ·)
  | .cell t n :: r => (match pLd s.heap n [s.env t] with | some x => (rvs s r).map (x :: ·) | none => none)

def resOf (s : St) (l : List Rv) : Option AV :=
  match rvs s l with
  | some [x] => some x
  | some xs => some (.tup xs)
  | none => none

def env0 (args : List AV) : Nat → AV := fun t => args.getD t (.v undef)
def st0 (args : List AV) (H : Hp) (nx : Nat) : St := ⟨env0 args, H, nx⟩

/-- What is to be shown of a function's body. -/
def fnPost (f : Fd) (Φ : AV → Hp → Nat → Prop) : Ex → St → Prop
  | .exit _, _ => False
  | _, s => ∃ r, resOf s f.res = some r ∧ ∃ H', Sub H' s.heap ∧ Φ r H' s.next
def fnOk (C : Ct) (f : Fd) (args : List AV) (H : Hp) (nx : Nat) (Φ : AV → Hp → Nat → Prop) : Prop :=
  args.length = f.np ∧ vc C f.body (fnPost f Φ) (st0 args H nx)

end Go.Av
