/-
  Several texts in one: BvCore, BvQ, BvSym, BvSym2, BvTrans, BvRep, BvPure, BvPure2, BvPure3, BvMap, BvPure4.
-/
import Derived.Orders
import Derived.Laws.AppendOwn
import Derived.Below
import Derived.KernelRfl
import Derived.Laws.StructEq
import Derived.Calls
import Derived.Laws.BytesString
import Derived.MapKept
/-
  An abstract reading of the model's code: values as trees, memory that is only read as lists, memory that a call makes and writes as numbered objects. Plain definitions.
-/
namespace Go.Av
set_option linter.unusedSectionVars false
set_option linter.unusedSimpArgs false
set_option linter.unusedVariables false

inductive AV where
  | v (x : Value)
  | nil
  | sl (cells : List AV) (n : Nat)
  | ptr (cells : List AV) (off : Nat)
  | ms (o off n sz : Nat)
  | mp (o off len : Nat)
  | mm (o : Nat)
  | agg (cells : List AV)
  | tup (l : List AV)
  | fn (id : Nat) (caps : List AV)

abbrev Hp := Nat → Option (List AV)

structure St where
  env : Nat → AV
  heap : Hp
  next : Nat

def put (e : Nat → AV) (d : Nat) (u : AV) : Nat → AV := fun t => if t = d then u else e t
def hput (h : Hp) (o : Nat) (c : Option (List AV)) : Hp := fun t => if t = o then c else h t
def hempty : Hp := fun _ => none

def St.put (s : St) (d : Option Nat) (u : AV) : St :=
  match d with
  | some d => { s with env := Av.put s.env d u }
  | none => s

def int (n : Int) : AV := .v (.int .i64 n)
def bool (b : Bool) : AV := .v (.bool b)
def ints (l : List Int) : List AV := l.map int
def islice (l : List Int) : AV := .sl (ints l) l.length
def rows (l : List (List Int)) : List AV := l.map islice

def AV.cells : AV → List AV
  | .agg cs => cs
  | a => [a]

def AV.one : AV → Bool
  | .v x => x.oneCell'
  | .agg _ => false
  | .tup _ => false
  | _ => true

inductive Opd where
  | t (n : Nat)
  | c (a : AV)
  | f (id : Nat)

def ev (e : Nat → AV) : Opd → AV
  | .t n => e n
  | .c a => a
  | .f id => .fn id []

inductive PO where
  | mov | pick | bin (op : BinOp) | bnot
  | len | fad (off : Nat) | iad (sz : Nat) | ld (n : Option Nat) | nck | ext (i : Nat) | fld (off : Nat) (n : Option Nat)
  | mka (zero : List AV) (parts : List (Nat × Nat))
  | msl (n : Nat) (zero : List AV) (parts : List (Nat × Nat))
  | box
  | slc (lo hi : Bool) (sz : Nat)
  | mkf (id : Nat)
  | eqs (neg : Bool) (n : Nat)
  | eqb (neg : Bool)
  | mmx (isMax : Bool)
  | mget (kd : Option Nat) (ok : Bool) (zero : AV)
  | mlen
  | idx (len sz : Nat) (n : Option Nat)
  | cvi (k : IntKind)
  | b2s
  | ssl (lo hi : Bool)

def intBin (op : BinOp) (k : IntKind) (a b : Int) : Option Value :=
  match op with
  | .add => some (.int k (k.wrap (a + b)))
  | .sub => some (.int k (k.wrap (a - b)))
  | .mul => some (.int k (k.wrap (a * b)))
  | .quo => if b = 0 then none else some (.int k (k.wrap (a.tdiv b)))
  | .rem => if b = 0 then none else some (.int k (a.tmod b))
  | .eql => some (.bool (a == b))
  | .neq => some (.bool (a != b))
  | .lss => some (.bool (decide (a < b)))
  | .leq => some (.bool (decide (a ≤ b)))
  | .gtr => some (.bool (decide (a > b)))
  | .geq => some (.bool (decide (a ≥ b)))
  | .shl => if b < 0 then none else some (.int k (k.wrap (a * 2 ^ (min b.toNat k.bits))))
  | .andNot => some (.int k (k.wrap ((BitVec.ofInt k.bits a &&& ~~~(BitVec.ofInt k.bits b)).toNat)))
  | _ => none

def strBin (op : BinOp) (a b : ByteArray) : Option Value :=
  match op with
  | .add => if a.size + b.size ≤ 4611686018427387904 then some (.string (a ++ b)) else none
  | .eql => some (.bool (a.toList == b.toList))
  | .neq => some (.bool (!(a.toList == b.toList)))
  | _ => none

def pPick : List AV → Option AV
  | [.v (.bool c), a, b] => some (if c then a else b)
  | _ => none
def pBin (op : BinOp) : List AV → Option AV
  | [.v (.int k a), .v (.int k' b)] => if k = k' then (intBin op k a b).map .v else none
  | [.v (.string a), .v (.string b)] => (strBin op a b).map .v
  | _ => none
def pNot : List AV → Option AV
  | [.v (.bool b)] => some (.v (.bool (!b)))
  | _ => none
def pLen (H : Hp) : List AV → Option AV
  | [.sl _ n] => some (.v (.int .i64 n))
  | [.nil] => some (.v (.int .i64 0))
  | [.ms o off n sz] => (match H o with | some c => if off + n * sz = c.length then some (.v (.int .i64 n)) else none | none => none)
  | _ => none
def pFad (H : Hp) (off : Nat) : List AV → Option AV
  | [.ptr c o] => some (.ptr c (o + off))
  | [.mp o p l] => (match H o with | some c => if c.length = l then some (.mp o (p + off) l) else none | none => none)
  | _ => none
def pIad (H : Hp) (sz : Nat) : List AV → Option AV
  | [.sl c n, .v (.int _ i)] => if 0 ≤ i ∧ i < n then some (.ptr c (i.toNat * sz)) else none
  | [.ms o off n sz', .v (.int _ i)] => if sz' = sz ∧ 0 ≤ i ∧ i < n then (match H o with | some cells => if off + n * sz = cells.length then some (.mp o (off + i.toNat * sz) cells.length) else none | none => none) else none
  | _ => none
def pLd (H : Hp) (n : Option Nat) : List AV → Option AV
  | [.ptr c o] => (match n with | none => c[o]? | some n => if o + n ≤ c.length then some (.agg ((c.drop o).take n)) else none)
  | [.mp o p l] => (match H o with
    | some c => if c.length = l then (match n with | none => c[p]? | some n => if p + n ≤ c.length then some (.agg ((c.drop p).take n)) else none) else none
    | none => none)
  | _ => none
def pNck (H : Hp) : List AV → Option AV
  | [.ptr c o] => some (.ptr c o)
  | [.mp o p l] => (match H o with | some c => if c.length = l then some (.mp o p l) else none | none => none)
  | [.fn i c] => some (.fn i c)
  | _ => none
def pExt (i : Nat) : List AV → Option AV
  | [.tup l] => l[i]?
  | _ => none
def pFld (off : Nat) (n : Option Nat) : List AV → Option AV
  | [.agg c] => (match n with | none => c[off]? | some n => if off + n ≤ c.length then some (.agg ((c.drop off).take n)) else none)
  | _ => none

/-- The parts laid over the zero cells. -/
def lay (cells : List AV) : List (Nat × Nat) → List AV → Option (List AV)
  | [], [] => some cells
  | (off, size) :: ps, x :: xs =>
    if x.cells.length = size ∧ off + size ≤ cells.length ∧ x.cells.all AV.one then lay (cells.take off ++ x.cells ++ cells.drop (off + size)) ps xs else none
  | _, _ => none

/-- What a value reads as when the objects behind it are taken as they stand. -/
def frz (H : Hp) : Nat → AV → Option AV
  | _, .v x => some (.v x)
  | _, .nil => some (.sl [] 0)
  | _, .sl c n => some (.sl c n)
  | _, .ptr c o => some (.ptr c o)
  | 0, _ => none
  | k + 1, .ms o off n sz => (match H o with
    | some cells => if off + n * sz = cells.length then (cells.mapM (frz H k)).map (fun cs => .sl (cs.drop off) n) else none
    | none => none)
  | k + 1, .mp o off len => (match H o with
    | some cells => if cells.length = len then (cells.mapM (frz H k)).map (fun cs => .ptr cs off) else none
    | none => none)
  | k + 1, .agg cs => (cs.mapM (frz H k)).map .agg
  | k + 1, .tup cs => (cs.mapM (frz H k)).map .tup
  | k + 1, .fn id cs => (cs.mapM (frz H k)).map (.fn id)
  | _ + 1, .mm _ => none

def fuel : Nat := 6
def frzL (H : Hp) (xs : List AV) : Option (List AV) := xs.mapM (frz H fuel)

/-- The same, where nothing but values that the call made (or that hold no memory at all) is let by. -/
def frzN (H : Hp) : Nat → AV → Option AV
  | _, .v x => some (.v x)
  | _, .nil => some (.sl [] 0)
  | k + 1, .ms o off n sz => (match H o with
    | some cells => if off + n * sz = cells.length then (cells.mapM (frzN H k)).map (fun cs => .sl (cs.drop off) n) else none
    | none => none)
  | k + 1, .mp o off len => (match H o with
    | some cells => if cells.length = len then (cells.mapM (frzN H k)).map (fun cs => .ptr cs off) else none
    | none => none)
  | k + 1, .agg cs => (cs.mapM (frzN H k)).map .agg
  | k + 1, .tup cs => (cs.mapM (frzN H k)).map .tup
  | _, _ => none

/-- Nothing but plain values and objects from number nx on. -/
def cln (nx : Nat) : Nat → AV → Bool
  | _, .v _ => true
  | _, .nil => true
  | _, .ms o _ _ _ => decide (nx ≤ o)
  | _, .mp o _ _ => decide (nx ≤ o)
  | k + 1, .agg cs => cs.all (cln nx k)
  | k + 1, .tup cs => cs.all (cln nx k)
  | _, _ => false
def clnH (nx : Nat) (H : Hp) : Prop := ∀ o c, H o = some c → c.all (cln nx 0) = true
def Sub (H H' : Hp) : Prop := ∀ o c, H o = some c → H' o = some c
def hmerge (nx : Nat) (H H' : Hp) : Hp := fun o => if o < nx then H o else H' o

def pMka (zero : List AV) (parts : List (Nat × Nat)) (xs : List AV) : Option AV := (lay zero parts xs).map .agg
def pMsl (n : Nat) (zero : List AV) (parts : List (Nat × Nat)) (xs : List AV) : Option AV :=
  match n with
  | 0 => some .nil
  | _ => (match lay zero parts xs with
    | some cs => (match frzL hempty cs with | some cs' => some (.sl cs' n) | none => none)
    | none => none)
def pBox : List AV → Option AV
  | [x] => (match frzL hempty x.cells with | some cs => if x.cells.all AV.one then some (.ptr cs 0) else none | none => none)
  | _ => none
def asI : AV → Option Int
  | .v (.int _ i) => some i
  | _ => none
def pSlc (lo hi : Bool) (sz : Nat) : List AV → Option AV
  | x :: r =>
    match (if lo then (r[0]?).bind asI else some 0), x with
    | some l, .sl c n =>
      (match (if hi then (r[if lo then 1 else 0]?).bind asI else some (n : Int)) with
      | some h => if 0 ≤ l ∧ l ≤ h ∧ h ≤ n ∧ n * sz = c.length then some (.sl ((c.drop (l.toNat * sz)).take ((h - l).toNat * sz)) (h - l).toNat) else none
      | none => none)
    | some l, .nil =>
      (match (if hi then (r[if lo then 1 else 0]?).bind asI else some (0 : Int)) with
      | some h => if l = 0 ∧ h = 0 then some .nil else none
      | none => none)
    | _, _ => none
  | [] => none
def avI : AV → Option Int
  | .v (.int .i64 i) => some i
  | _ => none
/-- Two structs of integers. -/
def pEqs (neg : Bool) (n : Nat) : List AV → Option AV
  | [.agg xs, .agg ys] =>
    (match xs.mapM avI, ys.mapM avI with
    | some l, some m => if l.length = n ∧ m.length = n then some (.v (.bool ((l == m) != neg))) else none
    | _, _ => none)
  | _ => none
def pEqb (neg : Bool) : List AV → Option AV
  | [.v (.bool a), .v (.bool b)] => some (.v (.bool ((a == b) != neg)))
  | _ => none
def pMmx (isMax : Bool) : List AV → Option AV
  | [.v (.int .i64 a), .v (.int .i64 b)] => some (.v (.int .i64 (if isMax then max a b else min a b)))
  | _ => none
def pMkf (id : Nat) (xs : List AV) : Option AV := some (.fn id xs)

/-- Maps: the entries in the order in which they came; a key is an integer or a struct of so many integers. -/
def mkey (kd : Option Nat) (k : AV) : Option (List Int) :=
  match kd, k with
  | none, .v (.int .i64 i) => some [i]
  | some m, .agg cs => (match cs.mapM avI with | some l => if l.length = m then some l else none | none => none)
  | _, _ => none
def mentry (kd : Option Nat) : AV → Option (List Int × AV)
  | .tup [k, v] => (mkey kd k).map (·, v)
  | _ => none
def mdec (kd : Option Nat) (c : List AV) : Option (List (List Int × AV)) := c.mapM (mentry kd)
def mfind (l : List (List Int × AV)) (k : List Int) : Option AV := (l.find? (·.1 == k)).map (·.2)
def pGet (H : Hp) (kd : Option Nat) (ok : Bool) (zero : AV) : List AV → Option AV
  | [.mm o, k] => (match H o with
    | some c => (match mdec kd c, mkey kd k with
      | some l, some kl => some (if ok then .tup [(mfind l kl).getD zero, .v (.bool (mfind l kl).isSome)] else (mfind l kl).getD zero)
      | _, _ => none)
    | none => none)
  | _ => none
def pMlen (H : Hp) : List AV → Option AV
  | [.mm o] => (match H o with | some c => some (.v (.int .i64 c.length)) | none => none)
  | _ => none
def pIdx (len sz : Nat) (n : Option Nat) : List AV → Option AV
  | [.agg c, .v (.int .i64 i)] => if 0 ≤ i ∧ i < len then (match n with | none => c[i.toNat * sz]? | some n => if i.toNat * sz + n ≤ c.length then some (.agg ((c.drop (i.toNat * sz)).take n)) else none) else none
  | _ => none
/-- An integer's kind is changed. -/
def pCvi (k : IntKind) : List AV → Option AV
  | [.v (.int _ n)] => some (.v (.int k (k.wrap n)))
  | _ => none
/-- A text of one byte. -/
def pB2s : List AV → Option AV
  | [.sl [.v (.int .u8 n)] 1] => some (.v (.string (ByteArray.empty.push (UInt8.ofNat n.toNat))))
  | _ => none
/-- A part of a text. -/
def pSsl (lo hi : Bool) : List AV → Option AV
  | .v (.string s) :: r =>
    (match (if lo then (r[0]?).bind asI else some 0), (if hi then (r[if lo then 1 else 0]?).bind asI else some (s.size : Int)) with
    | some l, some h => if 0 ≤ l ∧ l ≤ h ∧ h ≤ s.size then some (.v (.string (s.extract l.toNat h.toNat))) else none
    | _, _ => none)
  | _ => none
def AV.plain : AV → Bool
  | .v _ => true
  | _ => false

def pvf (H : Hp) (op : PO) (xs : List AV) : Option AV :=
  match op with
  | .mov => xs[0]?
  | .pick => pPick xs
  | .bin op => pBin op xs
  | .bnot => pNot xs
  | .len => pLen H xs
  | .fad off => pFad H off xs
  | .iad sz => pIad H sz xs
  | .ld n => pLd H n xs
  | .nck => pNck H xs
  | .ext i => pExt i xs
  | .fld off n => pFld off n xs
  | .mka z p => pMka z p xs
  | .msl n z p => pMsl n z p xs
  | .box => pBox xs
  | .slc lo hi sz => pSlc lo hi sz xs
  | .mkf id => pMkf id xs
  | .eqs neg n => pEqs neg n xs
  | .eqb neg => pEqb neg xs
  | .mmx m => pMmx m xs
  | .mget kd ok z => pGet H kd ok z xs
  | .mlen => pMlen H xs
  | .idx len sz n => pIdx len sz n xs
  | .cvi k => pCvi k xs
  | .b2s => pB2s xs
  | .ssl lo hi => pSsl lo hi xs

/-- Operations with more than one outcome: an append onto a part of a slice, a slice's rest. -/
inductive BO where
  | app (sz : Nat)
  | slm (sz : Nat)

/-- The operations of the compact code. -/
inductive AK where
  | p (op : PO) (xs : List Opd)
  | call (f : Opd) (xs : List Opd)
  | callm (f : Opd) (xs : List Opd)
  | callo (f : Opd) (xs : List Opd)
  | callz (f : Opd) (xs : List Opd)
  | alt (op : BO) (xs : List Opd)
  | app (sz : Nat) (x y : Opd)
  | st (n : Nat) (a v : Opd)
  | new (zero : List AV)
  | boxm (x : Opd)
  | mks (zero : List AV) (n c : Opd)
  | mslm (sz n : Nat) (zero : List AV) (parts : List (Nat × Nat)) (xs : List Opd)
  | mkm
  | mset (kd : Option Nat) (m k v : Opd)

structure Aop where
  dst : Option Nat
  g : Option (Nat × Bool)
  k : AK
  h : Bool

inductive Cd where
  | skip
  | reg (ops : List Aop) (draw : Bool)
  | both (a b : Cd)
  | seq (a b : Cd)
  | cond (c : Opd) (a b : Cd)
  | block (id : Nat) (b : Cd)
  | loop (b : Cd)
  | exit (id : Nat)
  | scope (b : Cd)
  | label
  | ret

inductive Rv where
  | tmp (t : Nat)
  | cell (t : Nat) (n : Option Nat)

structure Fd where
  np : Nat
  nt : Nat
  res : List Rv
  body : Cd

/-- What is known of calls: a call of f with these arguments, over these objects, ends in a result and objects of which Φ holds. -/
abbrev Ct := Nat → List AV → Hp → Nat → (AV → Hp → Nat → Prop) → Prop

/-- A call that looks at frozen arguments; its result is frozen as well. -/
def Fz (C : Ct) (f : Nat) (ys : List AV) (r : AV) : Prop := C f ys hempty 0 fun r' H' _ => frzN H' fuel r' = some r

/-- A call whose arguments hold no objects; its result may be any memory that is only read. -/
def Fi (C : Ct) (f : Nat) (ys : List AV) (r : AV) : Prop := C f ys hempty 0 fun r' H' _ => frz H' fuel r' = some r

def OptK {α : Type} (o : Option α) (K : α → Prop) : Prop := ∃ u, o = some u ∧ K u

def fnOf : AV → Option (Nat × List AV)
  | .fn id caps => some (id, caps)
  | _ => none

def appCells (H : Hp) (sz : Nat) : AV → Option (List AV × Nat)
  | .nil => some ([], 0)
  | .sl c n => if c.length = n * sz then some (c, n) else none
  | .ms o off n sz' => if sz' = sz then (match H o with | some cells => if off + n * sz = cells.length then some (cells.drop off, n) else none | none => none) else none
  | _ => none

/-- How many cells an append may reach at most. -/
def appMax : Nat := 1099511627776

def appTo (s : St) (sz : Nat) (x : AV) (new : List AV) (m : Nat) : Option (AV × Hp × Nat) :=
  match x with
  | .nil => if m = 0 then some (.nil, s.heap, s.next) else if m ≤ appMax then some (.ms s.next 0 m sz, hput s.heap s.next (some new), s.next + 1) else none
  | .ms o 0 n sz' => if sz' = sz then (match s.heap o with
    | some cells => if n * sz = cells.length ∧ n + m ≤ appMax then some (.ms o 0 (n + m) sz, hput s.heap o (some (cells ++ new)), s.next) else none
    | none => none) else none
  | _ => none

def altTo (s : St) (op : BO) (xs : List AV) : Option (List (AV × Hp × Nat)) :=
  match op, xs with
  | .app sz, [x, y] => (match appCells s.heap sz y with
    | some cm => if cm.1.all AV.one = true ∧ 0 < cm.2 then (match x with
      | .nil => if cm.2 ≤ appMax then some [(.ms s.next 0 cm.2 sz, hput s.heap s.next (some cm.1), s.next + 1)] else none
      | .ms o off n sz' => if sz' = sz then (match s.heap o with
        | some cells => if off + n * sz = cells.length ∧ n + cm.2 ≤ appMax then
            some [(.ms o off (n + cm.2) sz, hput s.heap o (some (cells ++ cm.1)), s.next), (.ms s.next 0 (n + cm.2) sz, hput s.heap s.next (some (cells.drop off ++ cm.1)), s.next + 1)] else none
        | none => none) else none
      | _ => none) else none
    | none => none)
  | .slm sz, [.ms o off n sz', .v (.int _ l)] => if sz' = sz then (match s.heap o with
    | some cells => if off + n * sz = cells.length ∧ 0 ≤ l ∧ l ≤ n then
        some ((.ms o (off + l.toNat * sz) (n - l.toNat) sz, s.heap, s.next) :: (if l.toNat = n then [(.nil, s.heap, s.next)] else [])) else none
    | none => none) else none
  | _, _ => none

def stTo (s : St) (n : Nat) (a v : AV) : Option Hp :=
  match a with
  | .mp o p l => (match s.heap o with
    | some c => if c.length = l ∧ v.cells.length = n ∧ p + n ≤ l ∧ v.cells.all AV.one then some (hput s.heap o (some (c.take p ++ v.cells ++ c.drop (p + n)))) else none
    | none => none)
  | _ => none

def mkTo (s : St) (zero : List AV) (n c : AV) : Option (AV × Hp × Nat) :=
  match n, c with
  | .v (.int .i64 n), .v (.int .i64 c) =>
    if 0 ≤ n ∧ n ≤ c ∧ c ≤ 1099511627776 then some (.ms s.next 0 n.toNat zero.length, hput s.heap s.next (some ((List.replicate n.toNat zero).flatten)), s.next + 1) else none
  | _, _ => none

/-- A slice by a literal, as an object. -/
def mslTo (s : St) (sz n : Nat) (zero : List AV) (parts : List (Nat × Nat)) (xs : List AV) : Option (AV × Hp × Nat) :=
  match lay zero parts xs with
  | some cs => if n * sz = cs.length ∧ 0 < n then some (.ms s.next 0 n sz, hput s.heap s.next (some cs), s.next + 1) else none
  | none => none

/-- A map with an entry set. -/
def mset1 (k x : AV) (kl : List Int) : List AV → List (List Int × AV) → List AV
  | c :: cs, l :: ls => if l.1 == kl then .tup [k, x] :: cs else c :: mset1 k x kl cs ls
  | _, _ => [.tup [k, x]]
def msetTo (H : Hp) (kd : Option Nat) (m k x : AV) : Option Hp :=
  match m with
  | .mm o => (match H o with
    | some c => (match mdec kd c, mkey kd k with
      | some l, some kl => if x.plain then some (hput H o (some (mset1 k x kl c l))) else none
      | _, _ => none)
    | none => none)
  | _ => none

def stepK (C : Ct) (o : Aop) (s : St) (K : St → Prop) : Prop :=
  let H := if o.h then s.heap else hempty
  match o.k with
  | .p op xs => OptK (pvf H op (xs.map (ev s.env))) fun u => K (s.put o.dst u)
  | .call f xs => OptK (fnOf (ev s.env f)) fun fc => (OptK (frzL H (xs.map (ev s.env) ++ fc.2)) fun ys => ∃ r, Fz C fc.1 ys r ∧ K (s.put o.dst r)) ∨ OptK (frzL hempty (xs.map (ev s.env) ++ fc.2)) fun ys => ∃ r, Fi C fc.1 ys r ∧ K (s.put o.dst r)
  | .callm f xs => o.h = true ∧ OptK (fnOf (ev s.env f)) fun fc => ∃ Φ : AV → Hp → Nat → Prop, C fc.1 (xs.map (ev s.env) ++ fc.2) s.heap s.next Φ ∧ (∃ r H' nx', Φ r H' nx') ∧
      ∀ r H' nx', Φ r H' nx' → K ((⟨s.env, H', nx'⟩ : St).put o.dst r)
  | .callo f xs => o.h = true ∧ OptK (fnOf (ev s.env f)) fun fc => OptK (frzL s.heap (xs.map (ev s.env) ++ fc.2)) fun ys => ∃ Φ : AV → Hp → Nat → Prop, C fc.1 ys hempty s.next Φ ∧ (∃ r H' nx', Φ r H' nx') ∧
      ∀ r H' nx', Φ r H' nx' → cln s.next fuel r = true ∧ clnH s.next H' ∧ K ((⟨s.env, hmerge s.next s.heap H', nx'⟩ : St).put o.dst r)
  | .callz f xs => o.h = true ∧ OptK (fnOf (ev s.env f)) fun fc => OptK (frzL s.heap (xs.map (ev s.env) ++ fc.2)) fun ys => ∃ r, Fi C fc.1 ys r ∧ K ((⟨s.env, hempty, s.next⟩ : St).put o.dst r)
  | .alt op xs => o.h = true ∧ OptK (altTo s op (xs.map (ev s.env))) fun l => l ≠ [] ∧ ∀ q ∈ l, K (({ s with heap := q.2.1, next := q.2.2 } : St).put o.dst q.1)
  | .app sz x y => o.h = true ∧ OptK (appCells s.heap sz (ev s.env y)) fun cm => cm.1.all AV.one ∧ OptK (appTo s sz (ev s.env x) cm.1 cm.2) fun r =>
      K (({ s with heap := r.2.1, next := r.2.2 } : St).put o.dst r.1)
  | .st n a v => o.h = true ∧ OptK (stTo s n (ev s.env a) (ev s.env v)) fun h => K (({ s with heap := h } : St).put o.dst (.v undef))
  | .new zero => o.h = true ∧ K (({ s with heap := hput s.heap s.next (some zero), next := s.next + 1 } : St).put o.dst (.mp s.next 0 zero.length))
  | .boxm x => o.h = true ∧ (ev s.env x).cells.all AV.one ∧ K (({ s with heap := hput s.heap s.next (some (ev s.env x).cells), next := s.next + 1 } : St).put o.dst (.mp s.next 0 (ev s.env x).cells.length))
  | .mks zero n c => o.h = true ∧ OptK (mkTo s zero (ev s.env n) (ev s.env c)) fun r => K (({ s with heap := r.2.1, next := r.2.2 } : St).put o.dst r.1)
  | .mslm sz n z ps xs => o.h = true ∧ OptK (mslTo s sz n z ps (xs.map (ev s.env))) fun r => K (({ s with heap := r.2.1, next := r.2.2 } : St).put o.dst r.1)
  | .mkm => o.h = true ∧ K (({ s with heap := hput s.heap s.next (some []), next := s.next + 1 } : St).put o.dst (.mm s.next))
  | .mset kd m k v => o.h = true ∧ OptK (msetTo s.heap kd (ev s.env m) (ev s.env k) (ev s.env v)) fun h => K (({ s with heap := h } : St).put o.dst (.v undef))

def opK (C : Ct) (o : Aop) (s : St) (K : St → Prop) : Prop :=
  match o.g with
  | none => stepK C o s K
  | some (g, want) =>
    match s.env g with
    | .v (.bool b) => (b = want → stepK C o s K) ∧ (b = (!want) → K (s.put o.dst (.v undef)))
    | .v _ => K (s.put o.dst (.v undef))
    | _ => False

def opsK (C : Ct) : List Aop → St → (St → Prop) → Prop
  | [], s, K => K s
  | o :: r, s, K => opK C o s fun s' => opsK C r s' K

inductive Ex where
  | normal
  | exit (id : Nat)
  | ret
  deriving DecidableEq

def Ex.andThen (next : St → Prop) (Q : Ex → St → Prop) : Ex → St → Prop
  | .normal, s => next s
  | e, s => Q e s
def Ex.inBlock (id : Nat) (Q : Ex → St → Prop) : Ex → St → Prop
  | .exit id', s => if id' = id then Q .normal s else Q (.exit id') s
  | e, s => Q e s

def vc (C : Ct) : Cd → (Ex → St → Prop) → St → Prop
  | .skip, Q, s => Q .normal s
  | .reg ops _, Q, s => opsK C ops s (Q .normal)
  | .both a b, Q, s => vc C a Q s ∧ vc C b Q s
  | .seq a b, Q, s => vc C a (Ex.andThen (vc C b Q) Q) s
  | .cond c a b, Q, s =>
    match ev s.env c with
    | .v (.bool t) => (t = true → vc C a Q s) ∧ (t = false → vc C b Q s)
    | _ => False
  | .block id b, Q, s => vc C b (Ex.inBlock id Q) s
  | .loop b, Q, s => ∃ (I : St → Prop) (μ : St → Nat), I s ∧ ∀ s', I s' → vc C b (Ex.andThen (fun s'' => I s'' ∧ μ s'' < μ s') Q) s'
  | .exit id, Q, s => Q (.exit id) s
  | .scope b, Q, s => vc C b Q s
  | .label, Q, s => Q .normal s
  | .ret, Q, s => Q .ret s

def rvs (s : St) : List Rv → Option (List AV)
  | [] => some []
  | .tmp t :: r => (rvs s r).map (s.env t :: ·)
  | .cell t n :: r => (match pLd s.heap n [s.env t] with | some x => (rvs s r).map (x :: ·) | none => none)

def resOf (s : St) (l : List Rv) : Option AV :=
  match rvs s l with
  | some [x] => some x
  | some xs => some (.tup xs)
  | none => none

def env0 (args : List AV) : Nat → AV := fun t => args.getD t (.v undef)
def st0 (args : List AV) (H : Hp) (nx : Nat) : St := ⟨env0 args, H, nx⟩

/-- What is to be shown of a function's body. -/
def fnPost (f : Fd) (Φ : AV → Hp → Nat → Prop) : Ex → St → Prop
  | .exit _, _ => False
  | _, s => ∃ r, resOf s f.res = some r ∧ ∃ H', Sub H' s.heap ∧ Φ r H' s.next
def fnOk (C : Ct) (f : Fd) (args : List AV) (H : Hp) (nx : Nat) (Φ : AV → Hp → Nat → Prop) : Prop :=
  args.length = f.np ∧ vc C f.body (fnPost f Φ) (st0 args H nx)

end Go.Av

/-
  Operations that list nothing but accesses of memory that is there.
-/
namespace Go.Av
set_option linter.unusedSectionVars false
set_option linter.unusedSimpArgs false
set_option linter.unusedVariables false
/-- The field takes room. -/
def fieldB (P : Program) (t : TypeId) (n : Nat) : Bool :=
  match P.underlying t with
  | some (.struct fs) => (match fs[n]? with | some f => (match P.info? f.type with | some i => i.size != 0 | none => true) | none => true)
  | _ => true
/-- Neither a map nor a channel. -/
def lenB (P : Program) (ts : Array TypeId) : Bool :=
  match ts[0]? with
  | some t => (match P.underlying t with | some (.map ..) | some (.chan ..) => false | _ => true)
  | none => true
/-- Operations that list nothing but accesses of memory that is there. -/
def quietB (P : Program) (o : Oper) : Bool :=
  match o.op with
  | .move _ | .assign _ | .pick .. | .alloc _ | .box .. | .build .. | .buildSlice .. | .load .. | .store .. | .nilCheck _ | .unOp .not .. | .makeSlice .. | .indexAddr .. | .extract .. | .makeFunc .. => true
  | .fieldAddr t _ n => fieldB P t n
  | .binOp op t _ _ _ => ((match op with | .add | .sub | .mul | .eql | .neq | .lss | .leq | .gtr | .geq => true | _ => false) && (match P.underlying t with | some (.int _) => true | _ => false)) || ((op == .eql || op == .neq) && (match P.underlying t with | some (.struct _) => true | _ => false))
  | .call { callee := .builtin .len, argTypes, .. } => lenB P argTypes
  | .call { callee := .builtin .append, .. } | .call { callee := .value _, .. } => true
  | _ => false
end Go.Av

/-
  The compact code once more, with copies gone, guards as branches and one number for each value: what is to be shown of it, and that this suffices.
-/
namespace Go.Av
set_option linter.unusedSectionVars false
set_option linter.unusedSimpArgs false
set_option linter.unusedVariables false

inductive Vc where
  | op (h : Bool) (k : AK) (rest : Vc)
  | br (c : Nat) (a b : Vc)
  | both (a b : Vc)
  | loop (d : Nat) (init : List Opd) (body : Vc)
  | again (d : Nat) (es : List Opd)
  | ret (rs : List (Opd × Option (Option Nat)))

def puts (vars : Nat → AV) (n : Nat) : List AV → Nat → AV
  | [] => vars
  | u :: us => puts (put vars n u) (n + 1) us

def rets (vars : Nat → AV) (H : Hp) : List (Opd × Option (Option Nat)) → Option (List AV)
  | [] => some []
  | (x, none) :: r => (rets vars H r).map (ev vars x :: ·)
  | (x, some n) :: r => (match pLd H n [ev vars x] with | some u => (rets vars H r).map (u :: ·) | none => none)
def retOf (vars : Nat → AV) (H : Hp) (l : List (Opd × Option (Option Nat))) : Option AV :=
  match rets vars H l with
  | some [x] => some x
  | some xs => some (.tup xs)
  | none => none

abbrev Inv := List AV → Hp → Nat → Prop
def noInv : Nat → Inv := fun _ _ _ _ => False
def iput (Is : Nat → Inv) (d : Nat) (J : Inv) : Nat → Inv := fun t => if t = d then J else Is t

def den (C : Ct) (Φ : AV → Hp → Nat → Prop) : Vc → Nat → (Nat → AV) → Hp → Nat → (Nat → Inv) → Prop
  | .op h k rest, n, vars, H, nx, Is => stepK C ⟨some n, none, k, h⟩ ⟨vars, H, nx⟩ fun s' => den C Φ rest (n + 1) s'.env s'.heap s'.next Is
  | .br c a b, n, vars, H, nx, Is =>
    match vars c with
    | .v (.bool t) => (t = true → den C Φ a n vars H nx Is) ∧ (t = false → den C Φ b n vars H nx Is)
    | _ => False
  | .both a b, n, vars, H, nx, Is => den C Φ a n vars H nx Is ∧ den C Φ b n vars H nx Is
  | .loop d init body, n, vars, H, nx, Is => ∃ (I : Inv) (μ : List AV → Hp → Nat → Nat), I (init.map (ev vars)) H nx ∧
      ∀ us H' nx', us.length = init.length → I us H' nx' → den C Φ body (n + init.length) (puts vars n us) H' nx' (iput Is d fun us' H'' nx'' => I us' H'' nx'' ∧ μ us' H'' nx'' < μ us H' nx')
  | .again d es, _, vars, H, nx, Is => Is d (es.map (ev vars)) H nx
  | .ret rs, _, vars, H, nx, _ => ∃ r, retOf vars H rs = some r ∧ ∃ H', Sub H' H ∧ Φ r H' nx

/-- What is known of the slots: for each the value's number or the constant; and of which numbers the truth value is known. -/
structure Sg where
  σ : Nat → Option Opd
  ρ : List (Nat × Bool)

def Sg.put (g : Sg) (d : Option Nat) (x : Option Opd) : Sg :=
  match d with
  | some d => { g with σ := fun t => if t = d then x else g.σ t }
  | none => g
def Sg.opd (g : Sg) : Opd → Option Opd
  | .t n => g.σ n
  | x => some x
def Sg.opds (g : Sg) (l : List Opd) : Option (List Opd) := l.mapM g.opd

/-- What an atom is known to be as a truth value: known; or a number to part on. -/
inductive Tv where
  | known (b : Bool)
  | ask (i : Nat)
  | undef
def Sg.tv (g : Sg) : Opd → Option Tv
  | .t i => (match g.ρ.lookup i with | some b => some (.known b) | none => some (.ask i))
  | .c (.v (.bool b)) => some (.known b)
  | .c (.v _) => some .undef
  | _ => none
def Sg.know (g : Sg) (i : Nat) (b : Bool) : Sg := { g with ρ := (i, b) :: g.ρ }

def AK.sub (g : Sg) : AK → Option AK
  | .p op xs => (g.opds xs).map (.p op)
  | .call f xs => (g.opd f).bind fun f => (g.opds xs).map (.call f)
  | .callm f xs => (g.opd f).bind fun f => (g.opds xs).map (.callm f)
  | .callo f xs => (g.opd f).bind fun f => (g.opds xs).map (.callo f)
  | .callz f xs => (g.opd f).bind fun f => (g.opds xs).map (.callz f)
  | .alt op xs => (g.opds xs).map (.alt op)
  | .app sz x y => (g.opd x).bind fun x => (g.opd y).map (.app sz x)
  | .st n a v => (g.opd a).bind fun a => (g.opd v).map (.st n a)
  | .new z => some (.new z)
  | .boxm x => (g.opd x).map .boxm
  | .mks z n c => (g.opd n).bind fun n => (g.opd c).map (.mks z n)
  | .mslm sz n z ps xs => (g.opds xs).map (.mslm sz n z ps)
  | .mkm => some .mkm
  | .mset kd m k v => (g.opd m).bind fun m => (g.opd k).bind fun k => (g.opd v).map (.mset kd m k)

abbrev Kt := Ex → Sg → Nat → Option Vc

/-- A pick between known alternatives, a copy: no operation. -/
def copyOf (g : Sg) : AK → Option Opd
  | .p .mov [x] => g.opd x
  | .p .pick [c, a, b] =>
    (match (g.opd c).bind g.tv with
    | some (.known true) => g.opd a
    | some (.known false) => g.opd b
    | _ => none)
  | _ => none

def symStep (o : Aop) (g : Sg) (n : Nat) (k : Sg → Nat → Option Vc) : Option Vc :=
  match copyOf g o.k with
  | some x => k (g.put o.dst (some x)) n
  | none => (o.k.sub g).bind fun ak => (k (g.put o.dst (some (.t n))) (n + 1)).map (.op o.h ak)

def symOp (o : Aop) (g : Sg) (n : Nat) (k : Sg → Nat → Option Vc) : Option Vc :=
  match o.g with
  | none => symStep o g n k
  | some (s, want) =>
    match (g.σ s).bind g.tv with
    | some (.known b) => if b = want then symStep o g n k else k (g.put o.dst (some (.c (.v undef)))) n
    | some .undef => k (g.put o.dst (some (.c (.v undef)))) n
    | some (.ask i) =>
      (symStep o (g.know i want) n k).bind fun y => (k ((g.know i (!want)).put o.dst (some (.c (.v undef)))) n).map fun z => if want then .br i y z else .br i z y
    | none => none

def symOps : List Aop → Sg → Nat → (Sg → Nat → Option Vc) → Option Vc
  | [], g, n, k => k g n
  | o :: r, g, n, k => symOp o g n fun g n => symOps r g n k

def dsts : List Aop → List Nat
  | [] => []
  | o :: r => (match o.dst with | some d => [d] | none => []) ++ dsts r
def mods : Cd → List Nat
  | .reg ops _ => dsts ops
  | .seq a b => mods a ++ mods b
  | .both a b => mods a ++ mods b
  | .cond _ a b => mods a ++ mods b
  | .block _ b | .loop b | .scope b => mods b
  | _ => []

def nub : List Nat → List Nat
  | [] => []
  | a :: r => if r.contains a then nub r else a :: nub r
def carried (ex : List Nat) (g : Sg) (ms : List Nat) : List Nat := (nub ms).filter fun t => (g.σ t).isSome && !ex.contains t

/-- The slots at a loop's head: the carried ones by new numbers, what the loop writes besides: forgotten. -/
def headσ (g : Sg) (ms cs : List Nat) (n : Nat) : Sg :=
  { g with σ := fun t => (match cs.idxOf? t with
      | some i => some (.t (n + i))
      | none => if ms.contains t then none else g.σ t) }

def sym (ex : List Nat) : Nat → Cd → Kt → Sg → Nat → Option Vc
  | _, .skip, k, g, n => k .normal g n
  | _, .reg ops _, k, g, n => symOps ops g n (k .normal)
  | d, .both a b, k, g, n => (sym ex d a k g n).bind fun y => (sym ex d b k g n).map fun z => .both y z
  | d, .seq a b, k, g, n => sym ex d a (fun e g n => match e with | .normal => sym ex d b k g n | e => k e g n) g n
  | d, .cond c a b, k, g, n =>
    (match (g.opd c).bind g.tv with
    | some (.known true) => sym ex d a k g n
    | some (.known false) => sym ex d b k g n
    | some (.ask i) => (sym ex d a k (g.know i true) n).bind fun y => (sym ex d b k (g.know i false) n).map fun z => .br i y z
    | _ => none)
  | d, .block id b, k, g, n => sym ex d b (fun e g n => match e with | .exit id' => if id' = id then k .normal g n else k (.exit id') g n | e => k e g n) g n
  | d, .loop b, k, g, n =>
    let ms := mods b
    let cs := carried ex g ms
    (cs.mapM g.σ).bind fun init =>
      (sym ex (d + 1) b (fun e g n => match e with | .normal => (cs.mapM g.σ).map (.again d) | e => k e g n) (headσ g ms cs n) (n + cs.length)).map (.loop d init)
  | _, .exit id, k, g, n => k (.exit id) g n
  | d, .scope b, k, g, n => sym ex d b k g n
  | _, .label, k, g, n => k .normal g n
  | _, .ret, k, g, n => k .ret g n

def symRet (res : List Rv) (g : Sg) : Option Vc :=
  (res.mapM fun (r : Rv) => match r with
    | .tmp t => (g.σ t).map fun x => (x, none)
    | .cell t n => (g.σ t).map fun x => (x, some n)).map .ret
def resTmps : List Rv → List Nat
  | [] => []
  | .tmp t :: r => t :: resTmps r
  | _ :: r => resTmps r
def symF (f : Fd) : Option Vc :=
  sym (resTmps f.res) 0 f.body (fun e g _ => match e with | .exit _ => none | _ => symRet f.res g) ⟨fun t => if t < f.np then some (.t t) else none, []⟩ f.np

end Go.Av

/-
  What is shown of the second form holds of the first.
-/
namespace Go.Av
set_option linter.unusedSectionVars false
set_option linter.unusedSimpArgs false
set_option linter.unusedVariables false

structure Rl (g : Sg) (vars : Nat → AV) (n : Nat) (e : Nat → AV) : Prop where
  val : ∀ t a, g.σ t = some a → ev vars a = e t
  lt : ∀ t i, g.σ t = some (.t i) → i < n
  kn : ∀ i b, (i, b) ∈ g.ρ → vars i = .v (.bool b) ∧ i < n

theorem mapM_some' {α β : Type} {f : α → Option β} : ∀ {l : List α} {l' : List β}, l.mapM f = some l' → l'.length = l.length ∧ ∀ i (h : i < l.length) (h' : i < l'.length), f l[i] = some l'[i]
  | [], l', h => by simp at h; subst h; exact ⟨rfl, fun i h => by simp at h⟩
  | a :: l, l', h => by
    simp only [List.mapM_cons, Option.pure_def, Option.bind_eq_bind] at h
    cases ha : f a with
    | none => simp [ha] at h
    | some b =>
      cases hl : l.mapM f with
      | none => simp [ha, hl] at h
      | some bs =>
        simp [ha, hl] at h
        subst h
        obtain ⟨h1, h2⟩ := mapM_some' hl
        refine ⟨by simp [h1], fun i h h' => ?_⟩
        cases i with
        | zero => exact ha
        | succ i => exact h2 i (by simpa using h) (by simpa using h')

section
variable {g : Sg} {vars e : Nat → AV} {n : Nat}

theorem Rl.opd (h : Rl g vars n e) {x x' : Opd} (hx : g.opd x = some x') : ev vars x' = ev e x := by
  cases x with
  | t i => exact h.val i x' hx
  | c a => cases hx; rfl
  | f i => cases hx; rfl
theorem Rl.opds (h : Rl g vars n e) {xs xs' : List Opd} (hx : g.opds xs = some xs') : xs'.map (ev vars) = xs.map (ev e) := by
  obtain ⟨h1, h2⟩ := mapM_some' hx
  refine List.ext_getElem (by simp [h1]) fun i hi hi' => ?_
  simp only [List.getElem_map]
  exact h.opd (h2 i (by simpa using hi') (by simpa using hi))
theorem Rl.opdLt (h : Rl g vars n e) {x : Opd} {i : Nat} (hx : g.opd x = some (.t i)) : i < n := by
  cases x with
  | t j => exact h.lt j i hx
  | c a => cases hx
  | f j => cases hx

theorem mem_of_lookup {i : Nat} {b : Bool} : ∀ {l : List (Nat × Bool)}, l.lookup i = some b → (i, b) ∈ l
  | [], h => by cases h
  | (j, c) :: l, h => by
    simp only [List.lookup] at h
    split at h
    · rename_i e1
      cases h
      have : i = j := by simpa using e1
      subst this
      exact List.mem_cons_self ..
    · exact List.mem_cons_of_mem _ (mem_of_lookup h)

theorem Rl.known (h : Rl g vars n e) {x : Opd} {b : Bool} (hx : g.tv x = some (.known b)) : ev vars x = .v (.bool b) := by
  cases x with
  | t i =>
    simp only [Sg.tv] at hx
    split at hx
    · rename_i b' hb; cases hx; exact (h.kn i b (mem_of_lookup hb)).1
    · cases hx
  | c a =>
    cases a with
    | v y => cases y <;> first | (cases hx; done) | (cases hx; rfl)
    | _ => cases hx
  | f i => cases hx
theorem tv_undef {x : Opd} (hx : g.tv x = some .undef) : ∃ y, ev vars x = .v y ∧ ∀ b, y ≠ .bool b := by
  cases x with
  | t i =>
    simp only [Sg.tv] at hx
    split at hx <;> cases hx
  | c a =>
    cases a with
    | v y => cases y <;> first | (cases hx; done) | exact ⟨_, rfl, fun b => by simp⟩
    | _ => cases hx
  | f i => cases hx
theorem tv_ask {x : Opd} {i : Nat} (hx : g.tv x = some (.ask i)) : x = .t i := by
  cases x with
  | t j =>
    simp only [Sg.tv] at hx
    split at hx <;> cases hx
    rfl
  | c a =>
    cases a with
    | v y => cases y <;> cases hx
    | _ => cases hx
  | f j => cases hx

theorem bindSome {α β : Type} {f : α → Option β} {x : Option α} {y : β} (h : x.bind f = some y) : ∃ z, x = some z ∧ f z = some y := by
  cases x with
  | none => cases h
  | some z => exact ⟨z, rfl, h⟩
theorem mapSome {α β : Type} {f : α → β} {x : Option α} {y : β} (h : x.map f = some y) : ∃ z, x = some z ∧ f z = y := by
  cases x with
  | none => cases h
  | some z => cases h; exact ⟨z, rfl, rfl⟩

/-- A slot gets a value that is known already. -/
theorem Rl.put (h : Rl g vars n e) {x : Opd} (hlt : ∀ i, x = .t i → i < n) (s : St) (hs : s.env = e) (d : Option Nat) : Rl (g.put d (some x)) vars n (s.put d (ev vars x)).env := by
  subst hs
  cases d with
  | none => exact h
  | some k =>
    refine ⟨fun t a ht => ?_, fun t i ht => ?_, h.kn⟩
    · simp only [Sg.put] at ht
      simp only [St.put, Av.put]
      split at ht
      · rename_i e1; cases ht; rw [if_pos e1]
      · rename_i e1; rw [if_neg e1]; exact h.val t a ht
    · simp only [Sg.put] at ht
      split at ht
      · cases ht; exact hlt i rfl
      · exact h.lt t i ht

/-- A new value with the next number. -/
theorem Rl.next (h : Rl g vars n e) (u : AV) (s : St) (hs : s.env = e) (d : Option Nat) : Rl (g.put d (some (.t n))) (Av.put vars n u) (n + 1) (s.put d u).env := by
  subst hs
  have base : ∀ t a, g.σ t = some a → ev (Av.put vars n u) a = s.env t := fun t a ht => by
    rw [← h.val t a ht]
    cases a with
    | t i => have := h.lt t i ht; simp only [ev, Av.put]; rw [if_neg (by omega)]
    | _ => rfl
  have kn : ∀ i b, (i, b) ∈ g.ρ → Av.put vars n u i = .v (.bool b) ∧ i < n + 1 := fun i b hi => by
    obtain ⟨h1, h2⟩ := h.kn i b hi
    exact ⟨by simp only [Av.put]; rw [if_neg (by omega)]; exact h1, by omega⟩
  cases d with
  | none => exact ⟨base, fun t i ht => Nat.lt_succ_of_lt (h.lt t i ht), kn⟩
  | some k =>
    refine ⟨fun t a ht => ?_, fun t i ht => ?_, kn⟩
    · simp only [Sg.put] at ht
      simp only [St.put, Av.put]
      split at ht
      · rename_i e1; cases ht; rw [if_pos e1]; simp [ev, Av.put]
      · rename_i e1; rw [if_neg e1]; exact base t a ht
    · simp only [Sg.put] at ht
      split at ht
      · cases ht; exact Nat.lt_succ_self _
      · exact Nat.lt_succ_of_lt (h.lt t i ht)

theorem Rl.know (h : Rl g vars n e) {i : Nat} {b : Bool} (hi : i < n) (hb : vars i = .v (.bool b)) : Rl (g.know i b) vars n e :=
  ⟨h.val, h.lt, fun j c hj => by
    rcases List.mem_cons.1 hj with e1 | e1
    · cases e1; exact ⟨hb, hi⟩
    · exact h.kn j c e1⟩

theorem stepK_sub {C : Ct} {o : Aop} {s : St} {K K' : St → Prop} {ak : AK} (h : Rl g vars n s.env) (hs : o.k.sub g = some ak) (hd : stepK C ⟨some n, none, ak, o.h⟩ ⟨vars, s.heap, s.next⟩ K')
    (hK : ∀ u H' nx', K' ⟨put vars n u, H', nx'⟩ → K ((⟨s.env, H', nx'⟩ : St).put o.dst u)) : stepK C o s K := by
  obtain ⟨dst, gd, k, hf⟩ := o
  simp only at hs hK
  cases k with
  | p op xs =>
    obtain ⟨ys, hy, rfl⟩ := mapSome hs
    obtain ⟨u, hu, hk⟩ := hd
    simp only at hu
    rw [h.opds hy] at hu
    exact ⟨u, hu, hK u s.heap s.next hk⟩
  | call f xs =>
    obtain ⟨f', hf', hs⟩ := bindSome hs
    obtain ⟨ys, hy, rfl⟩ := mapSome hs
    obtain ⟨fc, h1, ⟨zs, h2, r, h3, hk⟩ | ⟨zs, h2, r, h3, hk⟩⟩ := hd
    · simp only at h1 h2
      rw [h.opds hy] at h2
      rw [h.opd hf'] at h1
      exact ⟨fc, h1, .inl ⟨zs, h2, r, h3, hK r s.heap s.next hk⟩⟩
    · simp only at h1 h2
      rw [h.opds hy] at h2
      rw [h.opd hf'] at h1
      exact ⟨fc, h1, .inr ⟨zs, h2, r, h3, hK r s.heap s.next hk⟩⟩
  | callm f xs =>
    obtain ⟨f', hf', hs⟩ := bindSome hs
    obtain ⟨ys, hy, rfl⟩ := mapSome hs
    obtain ⟨h0, fc, h1, Φ, h2, h3, hk⟩ := hd
    simp only at h1 h2
    rw [h.opds hy] at h2
    rw [h.opd hf'] at h1
    exact ⟨h0, fc, h1, Φ, h2, h3, fun r H' nx' hr => hK r H' nx' (hk r H' nx' hr)⟩
  | callo f xs =>
    obtain ⟨f', hf', hs⟩ := bindSome hs
    obtain ⟨ys, hy, rfl⟩ := mapSome hs
    obtain ⟨h0, fc, h1, zs, h2, Φ, h3, h4, hk⟩ := hd
    simp only at h1 h2 h3
    rw [h.opds hy] at h2
    rw [h.opd hf'] at h1
    exact ⟨h0, fc, h1, zs, h2, Φ, h3, h4, fun r H' nx' hr => ⟨(hk r H' nx' hr).1, (hk r H' nx' hr).2.1, hK r _ nx' (hk r H' nx' hr).2.2⟩⟩
  | callz f xs =>
    obtain ⟨f', hf', hs⟩ := bindSome hs
    obtain ⟨ys, hy, rfl⟩ := mapSome hs
    obtain ⟨h0, fc, h1, zs, h2, r, h3, hk⟩ := hd
    simp only at h1 h2
    rw [h.opds hy] at h2
    rw [h.opd hf'] at h1
    exact ⟨h0, fc, h1, zs, h2, r, h3, hK r _ _ hk⟩
  | alt op xs =>
    obtain ⟨ys, hy, rfl⟩ := mapSome hs
    obtain ⟨h0, l, h1, h2, h3⟩ := hd
    simp only at h1 h3
    rw [h.opds hy] at h1
    exact ⟨h0, l, h1, h2, fun q hq => hK _ _ _ (h3 q hq)⟩
  | app sz x y =>
    obtain ⟨x', hx', hs⟩ := bindSome hs
    obtain ⟨y', hy', rfl⟩ := mapSome hs
    obtain ⟨h0, cm, h1, h2, r, h3, hk⟩ := hd
    simp only at h1 h3
    rw [h.opd hy'] at h1
    rw [h.opd hx'] at h3
    exact ⟨h0, cm, h1, h2, r, h3, hK _ _ _ hk⟩
  | st m x y =>
    obtain ⟨x', hx', hs⟩ := bindSome hs
    obtain ⟨y', hy', rfl⟩ := mapSome hs
    obtain ⟨h0, hp, h1, hk⟩ := hd
    simp only at h1
    rw [h.opd hy', h.opd hx'] at h1
    exact ⟨h0, hp, h1, hK _ _ _ hk⟩
  | new z =>
    cases hs
    exact ⟨hd.1, hK _ _ _ hd.2⟩
  | boxm x =>
    obtain ⟨x', hx', rfl⟩ := mapSome hs
    obtain ⟨h0, h1, hk⟩ := hd
    simp only at h1 hk
    rw [h.opd hx'] at h1 hk
    exact ⟨h0, h1, hK _ _ _ hk⟩
  | mks z x y =>
    obtain ⟨x', hx', hs⟩ := bindSome hs
    obtain ⟨y', hy', rfl⟩ := mapSome hs
    obtain ⟨h0, r, h1, hk⟩ := hd
    simp only at h1
    rw [h.opd hx', h.opd hy'] at h1
    exact ⟨h0, r, h1, hK _ _ _ hk⟩
  | mslm sz m z ps xs =>
    obtain ⟨ys, hy, rfl⟩ := mapSome hs
    obtain ⟨h0, r, h1, hk⟩ := hd
    simp only at h1
    rw [h.opds hy] at h1
    exact ⟨h0, r, h1, hK _ _ _ hk⟩
  | mkm =>
    cases hs
    exact ⟨hd.1, hK _ _ _ hd.2⟩
  | mset kd x y z =>
    obtain ⟨x', hx', hs⟩ := bindSome hs
    obtain ⟨y', hy', hs⟩ := bindSome hs
    obtain ⟨z', hz', rfl⟩ := mapSome hs
    obtain ⟨h0, hp, h1, hk⟩ := hd
    simp only at h1
    rw [h.opd hx', h.opd hy', h.opd hz'] at h1
    exact ⟨h0, hp, h1, hK _ _ _ hk⟩

/-- What a continuation of the symbolic run must be good for. -/
def Good (C : Ct) (Φ : AV → Hp → Nat → Prop) (Is : Nat → Inv) (ms : List Nat) (g0 : Sg) (vars0 : Nat → AV) (n0 : Nat) (k : Sg → Nat → Option Vc) (K : St → Prop) : Prop :=
  ∀ g n V vars s, k g n = some V → Rl g vars n s.env → n0 ≤ n → (∀ i, i < n0 → vars i = vars0 i) → (∀ t, t ∉ ms → g.σ t = g0.σ t) → den C Φ V n vars s.heap s.next Is → K s

theorem put_σ {d : Option Nat} {x : Option Opd} {t : Nat} (h : ∀ k, d = some k → t ≠ k) : (g.put d x).σ t = g.σ t := by
  cases d with
  | none => rfl
  | some k => simp only [Sg.put]; rw [if_neg (h k rfl)]

theorem symStep_sound {C : Ct} {Φ : AV → Hp → Nat → Prop} {Is : Nat → Inv} {o : Aop} {k : Sg → Nat → Option Vc} {V : Vc} {s : St} {K : St → Prop} (h : Rl g vars n s.env) (hv : symStep o g n k = some V) (hd : den C Φ V n vars s.heap s.next Is)
    (hk : Good C Φ Is (match o.dst with | some d => [d] | none => []) g vars n k K) : stepK C o s K := by
  have hne : ∀ t, t ∉ (match o.dst with | some d => [d] | none => []) → ∀ k, o.dst = some k → t ≠ k := fun t ht k hk e => by
    rw [hk] at ht; exact ht (by simp [e])
  unfold symStep at hv
  cases hc : copyOf g o.k with
  | some x =>
    rw [hc] at hv
    have fin : ∀ u, ev vars x = u → (∀ i, x = .t i → i < n) → K (s.put o.dst u) := fun u hu hlt => by
      subst hu
      refine hk _ n V vars _ hv (h.put hlt s rfl o.dst) (Nat.le_refl _) (fun _ _ => rfl) (fun t ht => put_σ (hne t ht)) ?_
      cases o.dst <;> exact hd
    unfold copyOf at hc
    split at hc
    · rename_i x0 hk0
      unfold stepK
      simp only [hk0]
      exact ⟨_, rfl, fin _ (h.opd hc) (fun i e => h.opdLt (e ▸ hc))⟩
    · rename_i c a b hk0
      unfold stepK
      simp only [hk0]
      split at hc
      · rename_i ht
        obtain ⟨y, hy, ht⟩ := bindSome ht
        have hb := h.known ht
        rw [h.opd hy] at hb
        refine ⟨ev s.env a, ?_, fin _ (h.opd hc) (fun i e => h.opdLt (e ▸ hc))⟩
        simp [pvf, pPick, hb]
      · rename_i ht
        obtain ⟨y, hy, ht⟩ := bindSome ht
        have hb := h.known ht
        rw [h.opd hy] at hb
        refine ⟨ev s.env b, ?_, fin _ (h.opd hc) (fun i e => h.opdLt (e ▸ hc))⟩
        simp [pvf, pPick, hb]
      · cases hc
    · cases hc
  | none =>
    rw [hc] at hv
    obtain ⟨ak, hak, hv⟩ := bindSome hv
    obtain ⟨V', hV', rfl⟩ := mapSome hv
    refine stepK_sub h hak hd fun u H' nx' hu => ?_
    refine hk _ _ V' _ _ hV' (h.next u ⟨s.env, H', nx'⟩ rfl o.dst) (Nat.le_succ _) (fun i hi => ?_) (fun t ht => put_σ (hne t ht)) ?_
    · simp only [Av.put]; rw [if_neg (by omega)]
    · cases o.dst <;> exact hu

theorem symOp_sound {C : Ct} {Φ : AV → Hp → Nat → Prop} {Is : Nat → Inv} {o : Aop} {k : Sg → Nat → Option Vc} {V : Vc} {s : St} {K : St → Prop} (h : Rl g vars n s.env) (hv : symOp o g n k = some V) (hd : den C Φ V n vars s.heap s.next Is)
    (hk : Good C Φ Is (match o.dst with | some d => [d] | none => []) g vars n k K) : opK C o s K := by
  have hne : ∀ t, t ∉ (match o.dst with | some d => [d] | none => []) → ∀ k, o.dst = some k → t ≠ k := fun t ht k hk e => by
    rw [hk] at ht; exact ht (by simp [e])
  have skip : ∀ (g' : Sg) (V' : Vc), (∀ t, g'.σ t = g.σ t) → Rl g' vars n s.env → k (g'.put o.dst (some (.c (.v undef)))) n = some V' → den C Φ V' n vars s.heap s.next Is → K (s.put o.dst (.v undef)) := by
    intro g' V' hg hR hV hd'
    refine hk _ n V' vars _ hV (hR.put (x := .c (.v undef)) (fun i e => by cases e) s rfl o.dst) (Nat.le_refl _) (fun _ _ => rfl) (fun t ht => (put_σ (hne t ht)).trans (hg t)) ?_
    cases o.dst <;> exact hd'
  unfold symOp at hv
  unfold opK
  cases hg : o.g with
  | none => simp only [hg] at hv ⊢; exact symStep_sound h hv hd hk
  | some gw =>
    obtain ⟨sl, want⟩ := gw
    simp only [hg] at hv ⊢
    split at hv
    · rename_i b hb
      obtain ⟨x, hx, ht⟩ := bindSome hb
      have e1 := h.known ht
      rw [h.val sl x hx] at e1
      rw [e1]
      simp only
      split at hv
      · rename_i e2
        subst e2
        exact ⟨fun _ => symStep_sound h hv hd hk, fun e3 => by simp at e3⟩
      · rename_i e2
        exact ⟨fun e3 => absurd e3 e2, fun _ => skip g V (fun _ => rfl) h hv hd⟩
    · rename_i hb
      obtain ⟨x, hx, ht⟩ := bindSome hb
      obtain ⟨y, e1, e2⟩ := tv_undef (vars := vars) ht
      rw [h.val sl x hx] at e1
      rw [e1]
      cases y with
      | bool b => exact absurd rfl (e2 b)
      | _ => exact skip g V (fun _ => rfl) h hv hd
    · rename_i i hb
      obtain ⟨x, hx, ht⟩ := bindSome hb
      have e1 := tv_ask ht
      subst e1
      have hi := h.lt sl i hx
      have e2 := h.val sl (.t i) hx
      simp only [ev] at e2
      obtain ⟨y, hy, hv⟩ := bindSome hv
      obtain ⟨z, hz, hv⟩ := mapSome hv
      have yes : ∀ t, vars i = .v (.bool t) → t = want → den C Φ y n vars s.heap s.next Is → stepK C o s K := by
        intro t ht e3 hdy
        subst e3
        exact symStep_sound (h.know hi ht) hy hdy (fun g' n' V' vars' s' a1 a2 a3 a4 a5 a6 => hk g' n' V' vars' s' a1 a2 a3 a4 a5 a6)
      have no : ∀ t, vars i = .v (.bool t) → t = (!want) → den C Φ z n vars s.heap s.next Is → K (s.put o.dst (.v undef)) := by
        intro t ht e3 hdz
        subst e3
        exact skip (g.know i (!want)) z (fun _ => rfl) (h.know hi ht) hz hdz
      rw [← e2]
      cases want
      · simp only [Bool.false_eq_true, if_false] at hv
        subst hv
        simp only [den] at hd
        split at hd
        · rename_i t ht
          rw [ht]
          exact ⟨fun e3 => yes t ht e3 (hd.2 e3), fun e3 => no t ht e3 (hd.1 (by simpa using e3))⟩
        · exact hd.elim
      · simp only [if_true] at hv
        subst hv
        simp only [den] at hd
        split at hd
        · rename_i t ht
          rw [ht]
          exact ⟨fun e3 => yes t ht e3 (hd.1 e3), fun e3 => no t ht e3 (hd.2 (by simpa using e3))⟩
        · exact hd.elim
    · cases hv

theorem symOps_sound {C : Ct} {Φ : AV → Hp → Nat → Prop} {Is : Nat → Inv} : ∀ (l : List Aop) {g : Sg} {vars : Nat → AV} {n : Nat} {k : Sg → Nat → Option Vc} {V : Vc} {s : St} {K : St → Prop}, Rl g vars n s.env → symOps l g n k = some V → den C Φ V n vars s.heap s.next Is →
    Good C Φ Is (dsts l) g vars n k K → opsK C l s K := by
  intro l
  induction l with
  | nil => intro g vars n k V s K h hv hd hk; exact hk g n V vars s hv h (Nat.le_refl _) (fun _ _ => rfl) (fun _ _ => rfl) hd
  | cons o r ih =>
    intro g vars n k V s K h hv hd hk
    refine symOp_sound h hv hd fun g' n' V' vars' s' a1 a2 a3 a4 a5 a6 => ?_
    refine ih a2 a1 a6 fun g2 n2 V2 vars2 s2 b1 b2 b3 b4 b5 b6 => hk g2 n2 V2 vars2 s2 b1 b2 (by omega) (fun i hi => (b4 i (by omega)).trans (a4 i hi)) (fun t ht => ?_) b6
    simp only [dsts, List.mem_append, not_or] at ht
    exact (b5 t ht.2).trans (a5 t ht.1)
end

theorem puts_lo : ∀ (us : List AV) (vars : Nat → AV) (n i : Nat), i < n → puts vars n us i = vars i := by
  intro us
  induction us with
  | nil => intro vars n i _; rfl
  | cons u us ih => intro vars n i hi; simp only [puts]; rw [ih _ _ _ (by omega)]; simp only [put]; rw [if_neg (by omega)]
theorem puts_at : ∀ (us : List AV) (vars : Nat → AV) (n j : Nat) (hj : j < us.length), puts vars n us (n + j) = us[j] := by
  intro us
  induction us with
  | nil => intro vars n j hj; simp at hj
  | cons u us ih =>
    intro vars n j hj
    simp only [puts]
    cases j with
    | zero => rw [puts_lo _ _ _ _ (by omega)]; simp [put]
    | succ j => rw [show n + (j + 1) = n + 1 + j by omega, ih _ _ _ (by simpa using hj)]; simp

theorem idxOf_spec {t : Nat} : ∀ {l : List Nat} {i : Nat}, l.idxOf? t = some i → ∃ h : i < l.length, l[i] = t := by
  intro l
  induction l with
  | nil => intro i h; simp at h
  | cons a l ih =>
    intro i h
    simp only [List.idxOf?_cons] at h
    split at h
    · rename_i e1
      cases h
      exact ⟨by simp, by simpa using e1⟩
    · obtain ⟨j, hj, e2⟩ := mapSome h
      subst e2
      obtain ⟨h1, h2⟩ := ih hj
      exact ⟨by simpa using h1, by simpa using h2⟩

theorem sym_sound {C : Ct} {Φ : AV → Hp → Nat → Prop} {ex : List Nat} : ∀ (c : Cd) (d : Nat) (k : Kt) (g : Sg) (vars : Nat → AV) (n : Nat) (V : Vc) (s : St) (Is : Nat → Inv) (Q : Ex → St → Prop), Rl g vars n s.env → sym ex d c k g n = some V → den C Φ V n vars s.heap s.next Is →
    (∀ e Is', (∀ j, j < d → Is' j = Is j) → Good C Φ Is' (mods c) g vars n (k e) (Q e)) → vc C c Q s := by
  intro c
  induction c with
  | skip => intro d k g vars n V s Is Q h hv hd hk; exact hk .normal Is (fun _ _ => rfl) g n V vars s hv h (Nat.le_refl _) (fun _ _ => rfl) (fun _ _ => rfl) hd
  | label => intro d k g vars n V s Is Q h hv hd hk; exact hk .normal Is (fun _ _ => rfl) g n V vars s hv h (Nat.le_refl _) (fun _ _ => rfl) (fun _ _ => rfl) hd
  | ret => intro d k g vars n V s Is Q h hv hd hk; exact hk .ret Is (fun _ _ => rfl) g n V vars s hv h (Nat.le_refl _) (fun _ _ => rfl) (fun _ _ => rfl) hd
  | exit id => intro d k g vars n V s Is Q h hv hd hk; exact hk (.exit id) Is (fun _ _ => rfl) g n V vars s hv h (Nat.le_refl _) (fun _ _ => rfl) (fun _ _ => rfl) hd
  | reg ops dr => intro d k g vars n V s Is Q h hv hd hk; exact symOps_sound ops h hv hd (hk .normal Is (fun _ _ => rfl))
  | scope b ih => intro d k g vars n V s Is Q h hv hd hk; exact ih d k g vars n V s Is Q h hv hd hk
  | both a b iha ihb =>
    intro d k g vars n V s Is Q h hv hd hk
    obtain ⟨y, hy, hv⟩ := bindSome hv
    obtain ⟨z, hz, rfl⟩ := mapSome hv
    exact ⟨iha d k g vars n y s Is Q h hy hd.1 fun e Is' hIs g2 n2 V2 vars2 s2 b1 b2 b3 b4 b5 b6 => hk e Is' hIs g2 n2 V2 vars2 s2 b1 b2 b3 b4 (fun t ht => b5 t (fun h' => ht (List.mem_append_left _ h'))) b6,
      ihb d k g vars n z s Is Q h hz hd.2 fun e Is' hIs g2 n2 V2 vars2 s2 b1 b2 b3 b4 b5 b6 => hk e Is' hIs g2 n2 V2 vars2 s2 b1 b2 b3 b4 (fun t ht => b5 t (fun h' => ht (List.mem_append_right _ h'))) b6⟩
  | seq a b iha ihb =>
    intro d k g vars n V s Is Q h hv hd hk
    refine iha d _ g vars n V s Is _ h hv hd fun e Is' hIs g' n' V' vars' s' a1 a2 a3 a4 a5 a6 => ?_
    have others : ∀ e, k e g' n' = some V' → Q e s' := fun e a1 => hk e Is' hIs g' n' V' vars' s' a1 a2 a3 a4 (fun t ht => a5 t (fun h' => ht (List.mem_append_left _ h'))) a6
    cases e with
    | normal =>
      refine ihb d k g' vars' n' V' s' Is' Q a2 a1 a6 fun e Is2 hIs2 g2 n2 V2 vars2 s2 b1 b2 b3 b4 b5 b6 => ?_
      refine hk e Is2 (fun j hj => (hIs2 j hj).trans (hIs j hj)) g2 n2 V2 vars2 s2 b1 b2 (by omega) (fun i hi => (b4 i (by omega)).trans (a4 i hi)) (fun t ht => ?_) b6
      simp only [mods, List.mem_append, not_or] at ht
      exact (b5 t ht.2).trans (a5 t ht.1)
    | exit id => exact others _ a1
    | ret => exact others _ a1
  | cond c a b iha ihb =>
    intro d k g vars n V s Is Q h hv hd hk
    simp only [sym] at hv
    have ka : ∀ g' : Sg, (∀ t, g'.σ t = g.σ t) → ∀ e Is', (∀ j, j < d → Is' j = Is j) → Good C Φ Is' (mods a) g' vars n (k e) (Q e) := fun g' hg' e Is' hIs g2 n2 V2 vars2 s2 b1 b2 b3 b4 b5 b6 =>
      hk e Is' hIs g2 n2 V2 vars2 s2 b1 b2 b3 b4 (fun t ht => (b5 t (fun h' => ht (List.mem_append_left _ h'))).trans (hg' t)) b6
    have kb : ∀ g' : Sg, (∀ t, g'.σ t = g.σ t) → ∀ e Is', (∀ j, j < d → Is' j = Is j) → Good C Φ Is' (mods b) g' vars n (k e) (Q e) := fun g' hg' e Is' hIs g2 n2 V2 vars2 s2 b1 b2 b3 b4 b5 b6 =>
      hk e Is' hIs g2 n2 V2 vars2 s2 b1 b2 b3 b4 (fun t ht => (b5 t (fun h' => ht (List.mem_append_right _ h'))).trans (hg' t)) b6
    simp only [vc]
    split at hv
    · rename_i hb
      obtain ⟨x, hx, ht⟩ := bindSome hb
      have e1 := h.known ht
      rw [h.opd hx] at e1
      rw [e1]
      exact ⟨fun _ => iha d k g vars n V s Is Q h hv hd (ka g (fun _ => rfl)), fun e2 => by cases e2⟩
    · rename_i hb
      obtain ⟨x, hx, ht⟩ := bindSome hb
      have e1 := h.known ht
      rw [h.opd hx] at e1
      rw [e1]
      exact ⟨(fun e2 => by cases e2), fun _ => ihb d k g vars n V s Is Q h hv hd (kb g (fun _ => rfl))⟩
    · rename_i i hb
      obtain ⟨x, hx, ht⟩ := bindSome hb
      have e1 := tv_ask ht
      subst e1
      have hi := h.opdLt hx
      have e2 : vars i = ev s.env c := h.opd hx
      obtain ⟨y, hy, hv⟩ := bindSome hv
      obtain ⟨z, hz, rfl⟩ := mapSome hv
      simp only [den] at hd
      split at hd
      · rename_i t ht
        rw [e2] at ht
        have ht' : vars i = .v (.bool t) := e2.trans ht
        rw [ht]
        refine ⟨fun e3 => ?_, fun e3 => ?_⟩
        · subst e3; exact iha d k _ vars n y s Is Q (h.know hi ht') hy (hd.1 rfl) (ka _ (fun _ => rfl))
        · subst e3; exact ihb d k _ vars n z s Is Q (h.know hi ht') hz (hd.2 rfl) (kb _ (fun _ => rfl))
      · exact hd.elim
    · cases hv
  | block id b ih =>
    intro d k g vars n V s Is Q h hv hd hk
    refine ih d _ g vars n V s Is _ h hv hd fun e Is' hIs g' n' V' vars' s' a1 a2 a3 a4 a5 a6 => ?_
    cases e with
    | normal => exact hk .normal Is' hIs g' n' V' vars' s' a1 a2 a3 a4 a5 a6
    | ret => exact hk .ret Is' hIs g' n' V' vars' s' a1 a2 a3 a4 a5 a6
    | exit id' =>
      simp only at a1
      simp only [Ex.inBlock]
      split
      · rename_i e1; rw [if_pos e1] at a1; exact hk .normal Is' hIs g' n' V' vars' s' a1 a2 a3 a4 a5 a6
      · rename_i e1; rw [if_neg e1] at a1; exact hk (.exit id') Is' hIs g' n' V' vars' s' a1 a2 a3 a4 a5 a6
  | loop b ih =>
    intro d k g vars n V s Is Q h hv hd hk
    simp only [sym] at hv
    obtain ⟨init, hinit, hv⟩ := bindSome hv
    obtain ⟨body, hbody, rfl⟩ := mapSome hv
    obtain ⟨I, μ, hI0, hround⟩ := hd
    obtain ⟨il, ii⟩ := mapM_some' hinit
    generalize hcs : carried ex g (mods b) = cs at *
    have vals : ∀ (g' : Sg) (vars' : Nat → AV) (n' : Nat) (e' : Nat → AV) (es : List Opd), Rl g' vars' n' e' → cs.mapM g'.σ = some es → es.map (ev vars') = cs.map e' := by
      intro g' vars' n' e' es hR hes
      obtain ⟨l1, l2⟩ := mapM_some' hes
      refine List.ext_getElem (by simp [l1]) fun i hi hi' => ?_
      simp only [List.getElem_map]
      exact hR.val _ _ (l2 i (by simpa using hi') (by simpa using hi))
    have head : ∀ e' : Nat → AV, (∀ t, t ∉ mods b → ∀ a, g.σ t = some a → ev vars a = e' t) → Rl (headσ g (mods b) cs n) (puts vars n (cs.map e')) (n + cs.length) e' := by
      intro e' he'
      have lo : ∀ i, i < n → puts vars n (cs.map e') i = vars i := fun i hi => puts_lo _ _ _ _ hi
      refine ⟨fun t a ht => ?_, fun t i ht => ?_, fun i bb hi => ?_⟩
      · simp only [headσ] at ht
        split at ht
        · rename_i i hi
          cases ht
          obtain ⟨h1, h2⟩ := idxOf_spec hi
          simp only [ev]
          rw [puts_at _ _ _ _ (by simpa using h1)]
          simp [h2]
        · split at ht
          · cases ht
          · rename_i hm
            rw [← he' t (by simpa using hm) a ht]
            cases a with
            | t i => have := h.lt t i ht; simp only [ev]; exact lo i this
            | _ => rfl
      · simp only [headσ] at ht
        split at ht
        · rename_i j hj
          cases ht
          obtain ⟨h1, h2⟩ := idxOf_spec hj
          omega
        · split at ht
          · cases ht
          · have := h.lt t i ht; omega
      · obtain ⟨h1, h2⟩ := h.kn i bb hi
        exact ⟨(lo i h2).trans h1, by omega⟩
    refine ⟨fun s' => I (cs.map s'.env) s'.heap s'.next ∧ ∀ t, t ∉ mods b → ∀ a, g.σ t = some a → ev vars a = s'.env t, fun s' => μ (cs.map s'.env) s'.heap s'.next, ⟨?_, fun t _ a ha => h.val t a ha⟩, fun s' ⟨hI, hsame⟩ => ?_⟩
    · rw [← vals g vars n s.env init h hinit]; exact hI0
    · have hR := head s'.env hsame
      have hb := hround (cs.map s'.env) s'.heap s'.next (by simp [il]) hI
      rw [il] at hb
      refine ih (d + 1) _ _ _ _ body s' _ _ hR hbody hb fun e Is' hIs g' n' V' vars' s2 a1 a2 a3 a4 a5 a6 => ?_
      have others : ∀ e, k e g' n' = some V' → Q e s2 := fun e a1 => by
        refine hk e Is' (fun j hj => (hIs j (by omega)).trans (by simp only [iput]; rw [if_neg (by omega)])) g' n' V' vars' s2 a1 a2 (by omega) (fun i hi => (a4 i (by omega)).trans (puts_lo _ _ _ _ hi)) (fun t ht => ?_) a6
        have ht : t ∉ mods b := ht
        rw [a5 t ht]
        simp only [headσ]
        cases hx : cs.idxOf? t with
        | none => simp only; rw [if_neg (by simpa using ht)]
        | some i =>
          exfalso
          obtain ⟨h1, h2⟩ := idxOf_spec hx
          have hm : t ∈ cs := h2 ▸ List.getElem_mem h1
          rw [← hcs] at hm
          simp only [carried, List.mem_filter] at hm
          have sub : ∀ (l : List Nat), t ∈ nub l → t ∈ l := by
            intro l
            induction l with
            | nil => intro h; exact h
            | cons a l ihl =>
              intro h
              simp only [nub] at h
              split at h
              · exact List.mem_cons_of_mem _ (ihl h)
              · rcases List.mem_cons.1 h with h | h
                · rw [h]; exact List.mem_cons_self ..
                · exact List.mem_cons_of_mem _ (ihl h)
          exact ht (sub _ hm.1)
      cases e with
      | exit id => exact others _ a1
      | ret => exact others _ a1
      | normal =>
        simp only at a1
        obtain ⟨es, hes, rfl⟩ := mapSome a1
        simp only [den] at a6
        rw [hIs d (Nat.lt_succ_self _)] at a6
        simp only [iput, if_true] at a6
        rw [vals g' vars' n' s2.env es a2 hes] at a6
        simp only [Ex.andThen]
        refine ⟨⟨a6.1, fun t ht a ha => ?_⟩, a6.2⟩
        have e1 : g'.σ t = some a := by
          rw [a5 t ht]
          simp only [headσ]
          cases hx : cs.idxOf? t with
          | none => simp only; rw [if_neg (by simpa using ht)]; exact ha
          | some i =>
            exfalso
            obtain ⟨h1, h2⟩ := idxOf_spec hx
            have hm : t ∈ cs := h2 ▸ List.getElem_mem h1
            rw [← hcs] at hm
            simp only [carried, List.mem_filter] at hm
            have sub : ∀ (l : List Nat), t ∈ nub l → t ∈ l := by
              intro l
              induction l with
              | nil => intro h; exact h
              | cons a l ihl =>
                intro h
                simp only [nub] at h
                split at h
                · exact List.mem_cons_of_mem _ (ihl h)
                · rcases List.mem_cons.1 h with h | h
                  · rw [h]; exact List.mem_cons_self ..
                  · exact List.mem_cons_of_mem _ (ihl h)
            exact ht (sub _ hm.1)
        rw [← a2.val t a e1]
        cases a with
        | t i => have hi := h.lt t i ha; simp only [ev]; exact ((a4 i (by omega)).trans (puts_lo _ _ _ _ hi)).symm
        | _ => rfl

theorem symRet_sound {C : Ct} {f : Fd} {Φ : AV → Hp → Nat → Prop} {g : Sg} {vars : Nat → AV} {n : Nat} {V : Vc} {s : St} {Is : Nat → Inv} (h : Rl g vars n s.env) (hv : symRet f.res g = some V) (hd : den C Φ V n vars s.heap s.next Is) : ∃ r, resOf s f.res = some r ∧ ∃ H', Sub H' s.heap ∧ Φ r H' s.next := by
  obtain ⟨rs, hrs, rfl⟩ := mapSome hv
  obtain ⟨r, hr, hΦ⟩ := hd
  refine ⟨r, ?_, hΦ⟩
  have key : ∀ (res : List Rv) (rs : List (Opd × Option (Option Nat))), (res.mapM fun (r : Rv) => match r with | .tmp t => (g.σ t).map fun x => (x, none) | .cell t n => (g.σ t).map fun x => (x, some n)) = some rs → rets vars s.heap rs = rvs s res := by
    intro res
    induction res with
    | nil => intro rs h; simp at h; subst h; rfl
    | cons r res ih =>
      intro rs hm
      simp only [List.mapM_cons, Option.pure_def, Option.bind_eq_bind] at hm
      obtain ⟨y, hy, hm⟩ := bindSome hm
      obtain ⟨rs', hrs', hm⟩ := bindSome hm
      cases hm
      cases r with
      | tmp t =>
        obtain ⟨x, hx, rfl⟩ := mapSome hy
        simp only [rets, rvs, ih rs' hrs', h.val t x hx]
      | cell t n =>
        obtain ⟨x, hx, rfl⟩ := mapSome hy
        simp only [rets, rvs, ih rs' hrs', h.val t x hx]
        try rfl
  unfold retOf at hr
  unfold resOf
  rw [← key _ _ hrs]
  exact hr

theorem symF_sound {C : Ct} {f : Fd} {V : Vc} (hv : symF f = some V) {args : List AV} (hl : args.length = f.np) {H : Hp} {nx : Nat} {Φ : AV → Hp → Nat → Prop} (hd : den C Φ V f.np (env0 args) H nx noInv) : fnOk C f args H nx Φ := by
  refine ⟨hl, sym_sound f.body 0 _ _ (env0 args) f.np V (st0 args H nx) noInv _ ?_ hv hd fun e Is' _ g n V vars s a1 a2 _ _ _ a6 => ?_⟩
  · refine ⟨fun t a ht => ?_, fun t i ht => ?_, fun i b hi => by cases hi⟩
    · simp only at ht
      split at ht
      · cases ht; rfl
      · cases ht
    · simp only at ht
      split at ht
      · cases ht; assumption
      · cases ht
  · cases e with
    | normal => exact symRet_sound a2 a1 a6
    | ret => exact symRet_sound a2 a1 a6
    | exit id => cases a1
end Go.Av

/-
  From the model's code to the compact code. A function with results of type Option, run by the kernel on closed code.
-/
namespace Go.Av
set_option linter.unusedSectionVars false
set_option linter.unusedSimpArgs false
set_option linter.unusedVariables false

def cellOf : Value → Option AV
  | .slice none 0 0 => some .nil
  | .slice .. => none
  | .agg _ => none
  | .tuple _ => none
  | x => some (.v x)
def avOf : Value → Option AV
  | .slice none 0 0 => some .nil
  | .slice .. => none
  | .agg cs => (cs.toList.mapM cellOf).map .agg
  | .tuple _ => none
  | x => some (.v x)

structure Tr where
  P : Program
  num : FuncId → Option Nat
  hint : List (Nat × Nat)
  nt : Nat

namespace Tr
variable (T : Tr)

def opd : Operand → Option Opd
  | .tmp t => if t < T.nt then some (.t t) else none
  | .const v => (avOf v).map .c
  | .func f => (T.num f).map .f
  | .global _ => none

def opds (l : List Operand) : Option (List Opd) := l.mapM T.opd

def sizeOf (t : TypeId) : Option Nat := (T.P.info? t).map (·.size)
def aggB (t : TypeId) : Option Bool := (T.P.underlying t).map fun
  | .struct _ | .array _ _ => true
  | _ => false
/-- How a variable of this type is loaded: one cell, or so many. -/
def shape (t : TypeId) : Option (Option Nat) :=
  match T.aggB t, T.sizeOf t with
  | some true, some n => some (some n)
  | some false, some 1 => some none
  | _, _ => none
def zero (t : TypeId) : Option (List AV) :=
  match T.P.info? t with
  | some i => (match i.zero with
    | some z => (avOf z).bind fun a => if a.cells.length = i.size ∧ a.cells.all AV.one then some a.cells else none
    | none => none)
  | none => none
def elem (t : TypeId) : Option TypeId :=
  match T.P.underlying t with
  | some (.slice e) => some e
  | _ => none
def isInt (t : TypeId) : Bool :=
  match T.P.underlying t with
  | some (.int _) => true
  | _ => false

def isStruct (t : TypeId) : Bool :=
  match T.P.underlying t with
  | some (.struct _) => true
  | _ => false
def isBool (t : TypeId) : Bool :=
  match T.P.underlying t with
  | some .bool => true
  | _ => false
def isStr (t : TypeId) : Bool :=
  match T.P.underlying t with
  | some .string => true
  | _ => false
/-- A struct of integers alone. -/
def fieldsB : Nat → List Field → Bool
  | _, [] => true
  | k, f :: r => f.name != "_" && f.offset == k && (match T.P.underlying f.type with | some (.int .i64) => true | _ => false) && (match T.shape f.type with | some none => true | _ => false) && fieldsB (k + 1) r
def intsB (t : TypeId) : Bool := T.fieldsB 0 (T.P.fieldsOf t).toList && !T.P.stoodInHeld t && !T.P.eqGuardType T.P.depth t

def mapT (t : TypeId) : Option (TypeId × TypeId) :=
  match T.P.underlying t with
  | some (.map k e) => some (k, e)
  | _ => none
/-- The key's type: integers, or a struct of integers. -/
def keyKd (k : TypeId) : Option (Option Nat) :=
  match T.P.underlying k with
  | some (.int .i64) => some none
  | some (.struct fs) => if T.intsB k then some (some fs.size) else none
  | _ => none
def zero1 (t : TypeId) : Option AV :=
  match T.P.info? t with
  | some i => (match i.zero with
    | some z => (avOf z).bind fun a => if a.plain then some a else none
    | none => none)
  | none => none

def pure (o : Op) : Option (PO × List Opd) :=
  match o with
  | .move x | .assign x => (T.opds [x]).map (.mov, ·)
  | .pick c a b => (T.opds [c, a, b]).map (.pick, ·)
  | .binOp op t x y _ => if T.isStruct t then (if T.intsB t && (op == .eql || op == .neq) then (T.opds [x, y]).map (.eqs (op == .neq) (T.P.fieldsOf t).size, ·) else none) else if T.isBool t then (if op == .eql || op == .neq then (T.opds [x, y]).map (.eqb (op == .neq), ·) else none) else (T.opds [x, y]).map (.bin op, ·)
  | .unOp .not _ x => (T.opds [x]).map (.bnot, ·)
  | .call { callee := .builtin .len, args, argTypes } =>
    (match args.toList, argTypes.toList with
    | [x], [t] => (match T.P.underlying t with
      | some (.slice _) => (T.opds [x]).map (.len, ·)
      | some (.map _ _) => (T.opds [x]).map (.mlen, ·)
      | _ => none)
    | _, _ => none)
  | .call { callee := .builtin .max, args, argTypes } =>
    (match args.toList, argTypes.toList with
    | [x, y], [_, _] => (T.opds [x, y]).map (.mmx true, ·)
    | _, _ => none)
  | .call { callee := .builtin .min, args, argTypes } =>
    (match args.toList, argTypes.toList with
    | [x, y], [_, _] => (T.opds [x, y]).map (.mmx false, ·)
    | _, _ => none)
  | .lookup t x i ok => (T.mapT t).bind fun ke => (T.keyKd ke.1).bind fun kd => (T.zero1 ke.2).bind fun z => (T.opds [x, i]).map (.mget kd ok z, ·)
  | .index t x i =>
    (match T.P.underlying t with
    | some (.array len e) => (T.sizeOf e).bind fun sz => (T.shape e).bind fun n => (T.opds [x, i]).map (.idx len sz n, ·)
    | _ => none)
  | .fieldAddr s x f =>
    (match T.P.underlying s with
    | some (.struct fields) => (match fields[f]? with
      | some fl => (match T.sizeOf fl.type with
        | some (_ + 1) => (T.opds [x]).map (.fad fl.offset, ·)
        | _ => none)
      | none => none)
    | _ => none)
  | .indexAddr t x i => (T.elem t).bind fun e => (T.sizeOf e).bind fun sz => (T.opds [x, i]).map (.iad sz, ·)
  | .load t a => (T.shape t).bind fun n => (T.opds [a]).map (.ld n, ·)
  | .nilCheck x => (T.opds [x]).map (.nck, ·)
  | .extract x i => (T.opds [x]).map (.ext i, ·)
  | .field s x f =>
    (match T.P.underlying s with
    | some (.struct fields) => (match fields[f]? with
      | some fl => (T.shape fl.type).bind fun n => (T.opds [x]).map (.fld fl.offset n, ·)
      | none => none)
    | _ => none)
  | .build t parts =>
    (match T.P.underlying t with
    | some (.struct fields) => (T.zero t).bind fun z => (parts.toList.mapM fun p => (fields[p.1]?).bind fun fl => (T.sizeOf fl.type).map fun n => (fl.offset, n)).bind fun ps =>
        if fields.toList.all (fun fl => (T.sizeOf fl.type).isSome) then (T.opds (parts.toList.map (·.2))).map (.mka z ps, ·) else none
    | some (.array _ e) => (T.zero t).bind fun z => (T.sizeOf e).bind fun sz => (T.opds (parts.toList.map (·.2))).map (.mka z (parts.toList.map fun p => (p.1 * sz, sz)), ·)
    | _ => none)
  | .buildSlice t len parts => (T.elem t).bind fun e => (T.sizeOf e).bind fun sz => (T.zero e).bind fun z =>
      if len * sz ≤ 256 ∧ 0 < sz ∧ (len = 0 → parts.size = 0) then (T.opds (parts.toList.map (·.2))).map (.msl len ((List.replicate len z).flatten) (parts.toList.map fun p => (p.1 * sz, sz)), ·) else none
  | .box _ x => (T.opds [x]).map (.box, ·)
  | .convert src dst x =>
    (match T.P.underlying src, T.P.underlying dst with
    | some (.int _), some (.int k) => (T.opds [x]).map (.cvi k, ·)
    | some (.slice e), some .string => (match T.P.underlying e with
      | some (.int .u8) => (T.opds [x]).map (.b2s, ·)
      | _ => none)
    | _, _ => none)
  | .slice t x lo hi none => if T.isStr t then (T.opds (x :: (lo.toList ++ hi.toList))).map (.ssl lo.isSome hi.isSome, ·) else (T.elem t).bind fun e => (T.sizeOf e).bind fun sz => (T.opds (x :: (lo.toList ++ hi.toList))).map (.slc lo.isSome hi.isSome sz, ·)
  | .makeFunc (.func f) first captured => if first.size = 0 then (T.num f).bind fun id => (T.opds captured.toList).map (.mkf id, ·) else none
  | _ => none

def hintOf (d : Option Nat) : Nat := match d with | some d => (T.hint.lookup d).getD 0 | none => 0

def kind (o : Oper) : Option AK :=
  match o.op with
  | .call { callee := .value f, args, .. } => (T.opd f).bind fun f' => (T.opds args.toList).bind fun xs =>
    (match T.hintOf o.dst with
    | 0 => some (.call f' xs)
    | 1 => some (.callm f' xs)
    | 2 => some (.callo f' xs)
    | 4 => some (.callz f' xs)
    | _ => none)
  | .call { callee := .builtin .append, args, argTypes } =>
    (match args.toList, argTypes.toList with
    | [x, y], [t, t'] => if t = t' then (T.elem t).bind fun e => (match T.P.info? e, T.zero e with
        | some i, some z => if 0 < i.size ∧ z.length = i.size ∧ i.bytes ≤ 128 then (T.opd x).bind fun x' => (T.opd y).map fun y' => if T.hintOf o.dst = 4 then .alt (.app i.size) [x', y'] else .app i.size x' y' else none
        | _, _ => none) else none
    | _, _ => none)
  | .slice t x (some lo) none none => if T.hintOf o.dst = 4 then (T.elem t).bind fun e => (T.sizeOf e).bind fun sz => if 0 < sz then (T.opd x).bind fun x' => (T.opd lo).map fun l' => .alt (.slm sz) [x', l'] else none
    else (T.pure o.op).map fun p => .p p.1 p.2
  | .store t a v => (T.sizeOf t).bind fun n => (T.opd a).bind fun a' => (T.opd v).map fun v' => .st n a' v'
  | .alloc t => (T.zero t).map .new
  | .box t x => if T.hintOf o.dst = 3 then (T.sizeOf t).bind fun _ => (T.opd x).map .boxm else (T.pure o.op).map fun p => .p p.1 p.2
  | .makeSlice t l c => (T.elem t).bind fun e => (match T.P.info? e, T.zero e with
      | some i, some z => if 0 < z.length ∧ i.bytes ≤ 128 then (T.opd l).bind fun l' => (T.opd c).map fun c' => .mks z l' c' else none
      | _, _ => none)
  | .buildSlice t len parts => if T.hintOf o.dst = 3 then (T.elem t).bind fun e => (T.sizeOf e).bind fun sz => (T.zero e).bind fun z =>
      if (len + 1) * sz ≤ 256 ∧ 0 < sz ∧ 0 < len then (T.opds (parts.toList.map (·.2))).map (.mslm sz len ((List.replicate len z).flatten) (parts.toList.map fun p => (p.1 * sz, sz)) ·) else none
    else (T.pure o.op).map fun p => .p p.1 p.2
  | .makeMap t none => (T.mapT t).bind fun ke => (T.keyKd ke.1).map fun _ => .mkm
  | .mapUpdate t m k v => (T.mapT t).bind fun ke => (T.keyKd ke.1).bind fun kd => (T.opd m).bind fun m' => (T.opd k).bind fun k' => (T.opd v).map fun v' => .mset kd m' k' v'
  | _ => (T.pure o.op).map fun p => .p p.1 p.2

def eff : AK → Bool
  | .p .. | .call .. => false
  | _ => true

/-- The masks of what each operation waits for, directly or through others. -/
def clo : List Oper → List Nat → List Nat
  | [], acc => acc
  | o :: r, acc => clo r (acc ++ [o.after.toList.foldl (fun s e => if Region.binds .any e then s ||| (1 <<< e.on) ||| acc.getD e.on 0 else s) 0])

def guard (ops : Array Oper) (o : Oper) : Option (Option (Nat × Bool)) :=
  match o.guard with
  | none => some none
  | some (j, want) => (match (ops[j]?).bind (·.dst) with
    | some d => if d < T.nt then some (some (d, want)) else none
    | none => none)

def dstB (nt : Nat) : Option Nat → Bool
  | some d => decide (d < nt)
  | none => true

def oper (ops : Array Oper) (h : Bool) (o : Oper) : Option Aop :=
  match T.kind o, T.guard ops o with
  | some k, some g => if dstB T.nt o.dst && quietB T.P o then some ⟨o.dst, g, k, h⟩ else none
  | _, _ => none

/-- For a region that draws its order: may operation i look at the objects? Only if every writing operation is ordered against it. -/
def hs (cl : List Nat) (effs als : List Nat) (i : Nat) : Bool :=
  effs.all fun e => e == i || (cl.getD i 0).testBit e || (cl.getD e 0).testBit i || (als.contains e && decide (i < e))

def zipH (cl effs als : List Nat) (ops : Array Oper) : Nat → List Oper → Option (List Aop)
  | _, [] => some []
  | i, o :: r => (match T.oper ops (hs cl effs als i) o, zipH cl effs als ops (i + 1) r with
    | some a, some l => some (a :: l)
    | _, _ => none)

/-- The slots that an operation looks at. -/
def tm : Opd → List Nat
  | .t n => [n]
  | _ => []
def rdK : AK → List Nat
  | .p _ xs => xs.flatMap tm
  | .alt _ xs => xs.flatMap tm
  | .call f xs | .callm f xs | .callo f xs | .callz f xs => tm f ++ xs.flatMap tm
  | .app _ x y => tm x ++ tm y
  | .st _ a v => tm a ++ tm v
  | .new _ => []
  | .boxm x => tm x
  | .mks _ n c => tm n ++ tm c
  | .mslm _ _ _ _ xs => xs.flatMap tm
  | .mkm => []
  | .mset _ m k v => tm m ++ (tm k ++ tm v)
def rd (o : Aop) : List Nat := rdK o.k ++ (match o.g with | some (g, _) => [g] | none => [])
def apartB (x y : Aop) : Bool :=
  (match x.dst with | some d => !(rd y).contains d && y.dst != some d | none => true) &&
  (match y.dst with | some d => !(rd x).contains d | none => true)
def isC : AK → Bool
  | .call .. | .callm .. | .callo .. | .callz .. | .alt .. => true
  | _ => false
/-- New objects alone. -/
def isA : AK → Bool
  | .new _ | .boxm _ | .mks .. | .mslm .. | .mkm => true
  | _ => false
def calmB (x y : Aop) : Bool := !(eff x.k && eff y.k) && !(eff x.k && y.h) && !(eff y.k && x.h && !isA y.k) && !((isC x.k && isC y.k) && (eff x.k || eff y.k))
def mayB (x y : Aop) : Bool := apartB x y && calmB x y
/-- Each operation against those ahead of it. -/
def pairsB (mask : Nat) (y : Aop) : Nat → List Aop → Bool
  | _, [] => true
  | i, x :: r => (mask.testBit i || mayB x y) && pairsB mask y (i + 1) r
def regB (cl : List Nat) : Nat → List Aop → List Aop → Bool
  | _, _, [] => true
  | j, done, y :: r => pairsB (cl.getD j 0) y 0 done && regB cl (j + 1) (done ++ [y]) r
def backB : Nat → List Oper → Bool
  | _, [] => true
  | j, o :: r => o.after.toList.all (fun e => !Region.binds .any e || decide (e.on < j)) && backB (j + 1) r

def region (ops : Array Oper) (draw : Bool) : Option (List Aop) :=
  if draw then
    let ks := ops.toList.map T.kind
    let effs := (List.range ops.size).filter fun i => (match ks[i]? with | some (some k) => eff k | _ => false)
    let als := (List.range ops.size).filter fun i => (match ks[i]? with | some (some k) => isA k | _ => false)
    let cl := clo ops.toList []
    match zipH T cl effs als ops 0 ops.toList with
    | some l => if backB 0 ops.toList && regB cl 0 [] l && T.P.follows .mixedOrders then some l else none
    | none => none
  else ops.toList.mapM (T.oper ops true)

def enum : Nat → List Aop → List (Nat × Aop)
  | _, [] => []
  | k, x :: r => (k, x) :: enum (k + 1) r
def ins (A : Nat) (p : Nat × Aop) : List (Nat × Aop) → List (Nat × Aop)
  | [] => [p]
  | q :: r => if q.1 = A then p :: q :: r else q :: ins A p r
/-- Each operation against those ahead of it, but for one pair. -/
def ordB (cl : List Nat) (A B : Nat) : List (Nat × Aop) → List (Nat × Aop) → Bool
  | _, [] => true
  | done, p :: r => done.all (fun q => q.1 != p.1 && ((cl.getD p.1 0).testBit q.1 || mayB q.2 p.2 || (q.1 == A && p.1 == B))) && ordB cl A B (done ++ [p]) r
def zipG (h : Nat → Bool) (ops : Array Oper) : Nat → List Oper → Option (List Aop)
  | _, [] => some []
  | i, o :: r => (match T.oper ops (h i) o, zipG h ops (i + 1) r with
    | some a, some l => some (a :: l)
    | _, _ => none)
def confl (cl : List Nat) : List (Nat × Aop) → List (Nat × Aop) → List (Nat × Nat)
  | _, [] => []
  | done, p :: r => (done.filter fun q => !((cl.getD p.1 0).testBit q.1 || mayB q.2 p.2)).map (fun q => (q.1, p.1)) ++ confl cl (done ++ [p]) r
/-- A region with one pair of unordered operations that do not change places: both orders. -/
def region2 (ops : Array Oper) : Option (List Aop × List Aop) :=
  let ks := ops.toList.map T.kind
  let effs := (List.range ops.size).filter fun i => (match ks[i]? with | some (some k) => eff k | _ => false)
  let cl := clo ops.toList []
  let als := (List.range ops.size).filter fun i => (match ks[i]? with | some (some k) => isA k | _ => false)
  match T.zipG (fun i => hs cl effs als i || effs.contains i) ops 0 ops.toList with
  | some l =>
    (match confl cl [] (enum 0 l) with
    | [(A, B)] => (match (enum 0 l).find? (fun p => p.1 == B) with
      | some p => if A != B && backB 0 ops.toList && l.all (fun x => !isC x.k) && ordB cl A B [] (enum 0 l) && ordB cl B A [] (ins A p ((enum 0 l).filter fun q => q.1 != B)) && T.P.follows .mixedOrders
          then some (l, (ins A p ((enum 0 l).filter fun q => q.1 != B)).map (·.2)) else none
      | none => none)
    | _ => none)
  | none => none

/-- Effects that turn no object that is there. -/
def isO : AK → Bool
  | .callo .. => true
  | k => isA k
/-- A reader and an effect that may go ahead of it. -/
def mayE (x y : Aop) : Bool := apartB x y && !eff x.k && eff y.k && (!x.h || isO y.k)
def freeB (cl : List Nat) (rem : List (Nat × Aop)) (e : Nat × Aop) : Bool := rem.all fun q => q.1 == e.1 || !(cl.getD e.1 0).testBit q.1
def bothL (a : Cd) : List Cd → Cd
  | [] => a
  | b :: l => .both a (bothL b l)
/-- The effects in all orders that their edges allow, then the rest. -/
def treeCd (cl : List Nat) (R : List Aop) : Nat → List (Nat × Aop) → Cd
  | 0, _ => .reg R true
  | _ + 1, [] => .reg R true
  | n + 1, e0 :: r => bothL (.seq (.reg [e0.2] true) (treeCd cl R n r)) ((r.filter (freeB cl (e0 :: r))).map fun e => .seq (.reg [e.2] true) (treeCd cl R n ((e0 :: r).filter fun q => q.1 != e.1)))
/-- A region whose effects are not ordered: readers first, then the effects in every order, then the rest. -/
def region3' (h fp fe : Nat → Bool) (ops : Array Oper) : Option Cd :=
  let cl := clo ops.toList []
  match T.zipG h ops 0 ops.toList with
  | some l =>
    let P := (enum 0 l).filter fun p => fp p.1
    let E := (enum 0 l).filter fun p => !fp p.1 && fe p.1
    let R := (enum 0 l).filter fun p => !fp p.1 && !fe p.1
    if backB 0 ops.toList && ordB cl ops.size ops.size [] P && ordB cl ops.size ops.size [] R
      && P.all (fun p => !eff p.2.k && E.all fun e => (cl.getD e.1 0).testBit p.1 || (mayE p.2 e.2 || mayB p.2 e.2))
      && R.all (fun r => !isC r.2.k && (!eff r.2.k || E.all fun e => (cl.getD r.1 0).testBit e.1) && !isA r.2.k && P.all (fun q => (cl.getD r.1 0).testBit q.1 || mayB q.2 r.2) && E.all fun e => (cl.getD r.1 0).testBit e.1 || mayB e.2 r.2)
      && T.P.follows .mixedOrders
    then some (.seq (.reg (P.map (·.2)) true) (treeCd cl (R.map (·.2)) E.length E)) else none
  | none => none
def effsOf (ops : Array Oper) : List Nat :=
  let ks := ops.toList.map T.kind
  (List.range ops.size).filter fun i => (match ks[i]? with | some (some k) => eff k | _ => false)
/-- Effects that turn objects. -/
def turnsOf (ops : Array Oper) : List Nat :=
  let ks := ops.toList.map T.kind
  (List.range ops.size).filter fun i => (match ks[i]? with | some (some k) => eff k && !isO k | _ => false)
/-- Operations that look at objects. -/
def looks : AK → Bool
  | .p .len _ | .p (.fad _) _ | .p (.iad _) _ | .p (.ld _) _ | .p .nck _ | .p (.mget ..) _ | .p .mlen _ | .call .. => true
  | _ => false
def looksOf (ops : Array Oper) : List Nat :=
  let ks := ops.toList.map T.kind
  (List.range ops.size).filter fun i => (match ks[i]? with | some (some k) => looks k | _ => false)
/-- What looks at objects and is not ordered against an effect that turns them; an effect that is not ordered against another effect. -/
def unOf (effs turns lks : List Nat) (cl : List Nat) : List Nat := (effs ++ lks).filter fun i => (if effs.contains i then effs else turns).any fun j => j != i && !(cl.getD i 0).testBit j && !(cl.getD j 0).testBit i
def feOf (effs un : List Nat) (cl : List Nat) (i : Nat) : Bool := un.contains i || (effs.contains i && !un.all fun j => (cl.getD i 0).testBit j)
def fpOf (effs un : List Nat) (cl : List Nat) (i : Nat) : Bool := !effs.contains i && !un.contains i && effs.all (fun j => !(cl.getD i 0).testBit j) && un.all (fun j => !(cl.getD i 0).testBit j)
def hOf (effs lks un : List Nat) (cl : List Nat) (i : Nat) : Bool := effs.contains i || (lks.contains i && (fpOf effs un cl i || un.contains i || effs.all fun j => (cl.getD i 0).testBit j || (cl.getD j 0).testBit i))
def region4' (effs lks un : List Nat) (cl : List Nat) (ops : Array Oper) : Option Cd := T.region3' (hOf effs lks un cl) (fpOf effs un cl) (feOf effs un cl) ops
def region3'' (effs turns lks : List Nat) (cl : List Nat) (ops : Array Oper) : Option Cd := T.region4' effs lks (unOf effs turns lks cl) cl ops
def region3 (ops : Array Oper) : Option Cd := T.region3'' (T.effsOf ops) (T.turnsOf ops) (T.looksOf ops) (clo ops.toList []) ops

/-- The regions of a part of the code that is never reached: nothing is said of them. -/
def stuckCd : Cd := .reg [⟨none, none, .p (.ld none) [], true⟩] false
def part : Bool := T.hintOf (some 1000000) == 6
def codeR (ops : Array Oper) (draw : Bool) : Option Cd :=
  if draw && ops.toList.any (fun o => T.hintOf o.dst == 5) then T.region3 ops else (match T.region ops draw with
    | some l => some (.reg l draw)
    | none => if draw then (match T.region2 ops with
      | some p => some (.both (.reg p.1 true) (.reg p.2 true))
      | none => T.region3 ops) else none)
def code : Code → Option Cd
  | .skip => some .skip
  | .region _ ops draw => (match T.codeR ops draw with
    | some c => some c
    | none => if T.part then some stuckCd else none)
  | .seq a b => (code a).bind fun a => (code b).map fun b => .seq a b
  | .cond c a b => (T.opd c).bind fun c => (code a).bind fun a => (code b).map fun b => .cond c a b
  | .block id b => (code b).map (.block id)
  | .loop b => (code b).map .loop
  | .exit id => some (.exit id)
  | .scope b => (code b).map .scope
  | .label _ => some .label
  | .ret => some .ret
  | _ => none

def rv : ResultVar → Option Rv
  | .tmp t => if t < T.nt then some (.tmp t) else none
  | .cell t ty => if t < T.nt then (T.shape ty).map (.cell t) else none
end Tr

/-- The compact form of a function. -/
def fd (P : Program) (num : FuncId → Option Nat) (hint : List (Nat × Nat)) (fn : Func) : Option Fd :=
  let T : Tr := ⟨P, num, hint, fn.ntmps⟩
  match fn.body with
  | some c => if fn.params.size + fn.nfree ≤ fn.ntmps then (T.code c).bind fun b => (fn.results.toList.mapM T.rv).map fun rs => ⟨fn.params.size + fn.nfree, fn.ntmps, rs, b⟩ else none
  | none => none

end Go.Av

/-
  How the abstract values stand to the model's values and memory.
-/
namespace Go.Av
set_option linter.unusedSectionVars false
set_option linter.unusedSimpArgs false
set_option linter.unusedVariables false
open Go.RowKit (Below)

inductive RepP (ν : Nat → FuncId) (w : World) (S : Nat → Prop) : AV → Value → Prop
  | v (x : Value) : RepP ν w S (.v x) x
  | nil (a : Option Addr) : RepP ν w S .nil (.slice a 0 0)
  | sl {cells : List AV} {n b off cap : Nat} (us : Nat → Value) (hS : S b) (hn : n ≤ cap)
      (hc : ∀ i, i < cells.length → w.cell? ⟨b, off + i, none⟩ = some (us i))
      (hr : ∀ i (h : i < cells.length), RepP ν w S cells[i] (us i)) : RepP ν w S (.sl cells n) (.slice (some ⟨b, off, none⟩) n cap)
  | sl0 (a : Option Addr) (cap : Nat) : RepP ν w S (.sl [] 0) (.slice a 0 cap)
  | ptr {cells : List AV} {off b base : Nat} (us : Nat → Value) (hS : S b)
      (hc : ∀ i, i < cells.length → w.cell? ⟨b, base + i, none⟩ = some (us i))
      (hr : ∀ i (h : i < cells.length), RepP ν w S cells[i] (us i)) : RepP ν w S (.ptr cells off) (.pointer (some ⟨b, base + off, none⟩))
  | agg {cells : List AV} (vs : Array Value) (hs : vs.size = cells.length)
      (hr : ∀ i (h : i < cells.length), RepP ν w S cells[i] (vs.getD i undef)) : RepP ν w S (.agg cells) (.agg vs)
  | tup {cells : List AV} (vs : Array Value) (hs : vs.size = cells.length)
      (hr : ∀ i (h : i < cells.length), RepP ν w S cells[i] (vs.getD i undef)) : RepP ν w S (.tup cells) (.tuple vs)
  | fn {id : Nat} {cells : List AV} (vs : Array Value) (hs : vs.size = cells.length)
      (hr : ∀ i (h : i < cells.length), RepP ν w S cells[i] (vs.getD i undef)) : RepP ν w S (.fn id cells) (.func (.func (ν id)) #[] vs)

theorem RepP.mono {ν : Nat → FuncId} {w w' : World} {S S' : Nat → Prop} {a : AV} {v : Value} (h : RepP ν w S a v)
    (hS : ∀ b, S b → S' b) (hw : ∀ b, S b → w'.heap[b]? = w.heap[b]?) : RepP ν w' S' a v := by
  induction h with
  | v x => exact .v x
  | nil a => exact .nil a
  | sl us hs hn hc hr ih => exact .sl us (hS _ hs) hn (fun i hi => by rw [World.cell?_of_block (w := w) (hw _ hs)]; exact hc i hi) ih
  | sl0 a c => exact .sl0 a c
  | ptr us hs hc hr ih => exact .ptr us (hS _ hs) (fun i hi => by rw [World.cell?_of_block (w := w) (hw _ hs)]; exact hc i hi) ih
  | agg vs hs hr ih => exact .agg vs hs ih
  | tup vs hs hr ih => exact .tup vs hs ih
  | fn vs hs hr ih => exact .fn vs hs ih

structure Cx where
  β : Nat → Nat
  H : Hp
  nx : Nat
  w : World
  S : Nat → Prop

def Imm (X : Cx) (b : Nat) : Prop := (b < X.w.heap.size ∧ X.S b) ∧ ∀ o c, X.H o = some c → X.β o ≠ b

inductive Rep (ν : Nat → FuncId) (X : Cx) : AV → Value → Prop
  | pure {a : AV} {v : Value} (h : RepP ν X.w (Imm X) a v) : Rep ν X a v
  | ms {o off n sz : Nat} {v : Value} (ho : o < X.nx) (h1 : v.oneCell' = true) (hle : ∀ c, X.H o = some c → off + n * sz ≤ c.length)
      (hv : ∀ c, X.H o = some c → off + n * sz = c.length → ∃ cap r e f, v = .slice (some ⟨X.β o, off, none⟩) n cap ∧ n ≤ cap ∧ X.w.heap[X.β o]? = some (.cells r e f) ∧ off + cap * sz ≤ r.size) :
      Rep ν X (.ms o off n sz) v
  | mp {o off len : Nat} {v : Value} (ho : o < X.nx) (h1 : v.oneCell' = true) (hle : ∀ c, X.H o = some c → len ≤ c.length)
      (hv : ∀ c, X.H o = some c → c.length = len → v = .pointer (some ⟨X.β o, off, none⟩) ∧ ∃ r e f, X.w.heap[X.β o]? = some (.cells r e f)) : Rep ν X (.mp o off len) v
  | mm {o : Nat} {v : Value} (ho : o < X.nx) (h1 : v.oneCell' = true)
      (hv : ∀ c, X.H o = some c → v = .map (some (X.β o)) ∧ ∃ es k, X.w.heap[X.β o]? = some (.map es k)) : Rep ν X (.mm o) v
  | agg {cells : List AV} (vs : Array Value) (hs : vs.size = cells.length)
      (hr : ∀ i (h : i < cells.length), Rep ν X cells[i] (vs.getD i undef)) : Rep ν X (.agg cells) (.agg vs)
  | tup {cells : List AV} (vs : Array Value) (hs : vs.size = cells.length)
      (hr : ∀ i (h : i < cells.length), Rep ν X cells[i] (vs.getD i undef)) : Rep ν X (.tup cells) (.tuple vs)
  | fn {id : Nat} {cells : List AV} (vs : Array Value) (hs : vs.size = cells.length)
      (hr : ∀ i (h : i < cells.length), Rep ν X cells[i] (vs.getD i undef)) : Rep ν X (.fn id cells) (.func (.func (ν id)) #[] vs)

structure Ext (X X' : Cx) : Prop where
  nx : X.nx ≤ X'.nx
  imm : ∀ b, Imm X b → Imm X' b
  same : ∀ b, Imm X b → X'.w.heap[b]? = X.w.heap[b]?
  obj : ∀ o c', o < X.nx → X'.H o = some c' → ∃ c, X.H o = some c ∧
    (c.length < c'.length ∨ (c.length = c'.length ∧ X'.β o = X.β o ∧ ∀ r e f, X.w.heap[X.β o]? = some (.cells r e f) → ∃ r' e' f', X'.w.heap[X.β o]? = some (.cells r' e' f') ∧ r'.size = r.size))
  map : ∀ o c', o < X.nx → X'.H o = some c' → ∀ es k, X.w.heap[X.β o]? = some (.map es k) → X'.β o = X.β o ∧ ∃ es' k', X'.w.heap[X.β o]? = some (.map es' k')

theorem Ext.refl (X : Cx) : Ext X X := ⟨Nat.le_refl _, fun _ h => h, fun _ _ => rfl, fun _ c _ hc => ⟨c, hc, .inr ⟨rfl, rfl, fun r e f hr => ⟨r, e, f, hr, rfl⟩⟩⟩, fun _ _ _ _ es k h => ⟨rfl, es, k, h⟩⟩
theorem Ext.trans {X Y Z : Cx} (h : Ext X Y) (k : Ext Y Z) : Ext X Z := by
  refine ⟨Nat.le_trans h.nx k.nx, fun b hb => k.imm b (h.imm b hb), fun b hb => (k.same b (h.imm b hb)).trans (h.same b hb), fun o c2 ho hc2 => ?_, fun o c2 ho hc2 es q hm => ?_⟩
  case refine_2 =>
    obtain ⟨c1, hc1, _⟩ := k.obj o c2 (Nat.lt_of_lt_of_le ho h.nx) hc2
    obtain ⟨b1, es1, k1, m1⟩ := h.map o c1 ho hc1 es q hm
    rw [← b1] at m1
    obtain ⟨b2, es2, k2, m2⟩ := k.map o c2 (Nat.lt_of_lt_of_le ho h.nx) hc2 es1 k1 m1
    exact ⟨b2.trans b1, es2, k2, by rw [← b1]; exact m2⟩
  obtain ⟨c1, hc1, h1⟩ := k.obj o c2 (Nat.lt_of_lt_of_le ho h.nx) hc2
  obtain ⟨c0, hc0, h0⟩ := h.obj o c1 ho hc1
  refine ⟨c0, hc0, ?_⟩
  rcases h1 with h1 | ⟨h1, hb1, hr1⟩
  · rcases h0 with h0 | ⟨h0, _⟩ <;> exact .inl (by omega)
  · rcases h0 with h0 | ⟨h0, hb0, hr0⟩
    · exact .inl (by omega)
    · refine .inr ⟨by omega, hb1.trans hb0, fun r e f hr => ?_⟩
      obtain ⟨r', e', f', hr', hs'⟩ := hr0 r e f hr
      rw [← hb0] at hr'
      obtain ⟨r2, e2, f2, hr2, hs2⟩ := hr1 r' e' f' hr'
      exact ⟨r2, e2, f2, by rw [← hb0]; exact hr2, by omega⟩

theorem Rep.mono {ν : Nat → FuncId} {X X' : Cx} {a : AV} {v : Value} (h : Rep ν X a v) (hx : Ext X X') : Rep ν X' a v := by
  induction h with
  | pure h => exact .pure (h.mono hx.imm hx.same)
  | ms ho h1 hle hv =>
    refine .ms (Nat.lt_of_lt_of_le ho hx.nx) h1 (fun c' hc' => ?_) (fun c' hc' he => ?_)
    · obtain ⟨c, hc, hh⟩ := hx.obj _ c' ho hc'
      have := hle c hc
      rcases hh with hh | ⟨hh, _⟩ <;> omega
    · obtain ⟨c, hc, hh⟩ := hx.obj _ c' ho hc'
      have h2 := hle c hc
      rcases hh with hh | ⟨hh, hb, hr⟩
      · omega
      · obtain ⟨cap, r, e, f, h3, h4, h5, h6⟩ := hv c hc (by omega)
        obtain ⟨r', e', f', h7, h8⟩ := hr r e f h5
        exact ⟨cap, r', e', f', by rw [hb]; exact h3, h4, by rw [hb]; exact h7, by omega⟩
  | mp ho h1 hle hv =>
    refine .mp (Nat.lt_of_lt_of_le ho hx.nx) h1 (fun c' hc' => ?_) (fun c' hc' he => ?_)
    · obtain ⟨c, hc, hh⟩ := hx.obj _ c' ho hc'
      have := hle c hc
      rcases hh with hh | ⟨hh, _⟩ <;> omega
    · obtain ⟨c, hc, hh⟩ := hx.obj _ c' ho hc'
      have h2 := hle c hc
      rcases hh with hh | ⟨hh, hb, hr⟩
      · omega
      · rw [hb]
        obtain ⟨e1, r, e, f, h3⟩ := hv c hc (by omega)
        obtain ⟨r', e', f', h4, _⟩ := hr r e f h3
        exact ⟨e1, r', e', f', h4⟩
  | mm ho h1 hv =>
    refine .mm (Nat.lt_of_lt_of_le ho hx.nx) h1 (fun c' hc' => ?_)
    obtain ⟨c, hc, _⟩ := hx.obj _ c' ho hc'
    obtain ⟨e1, es, k, h3⟩ := hv c hc
    obtain ⟨b1, es', k', h4⟩ := hx.map _ c' ho hc' es k h3
    rw [b1]
    exact ⟨e1, es', k', h4⟩
  | agg vs hs hr ih => exact .agg vs hs ih
  | tup vs hs hr ih => exact .tup vs hs ih
  | fn vs hs hr ih => exact .fn vs hs ih

/-- A value that leads to no memory. -/
def Rep0 (ν : Nat → FuncId) (a : AV) (v : Value) : Prop := ∀ w S, RepP ν w S a v

/-- What a block is to the object's cells: a row, or a map's entries. -/
def Blk (ν : Nat → FuncId) (X : Cx) (c : List AV) : Obj → Prop
  | .cells r _ f => f = (0, 0) ∧ c.length ≤ r.size ∧ ∀ i (h : i < c.length), Rep ν X c[i] (r.getD i undef)
  | .map es _ => es.size = c.length ∧ ∀ i (h : i < c.length), ∃ k v e, c[i] = .tup [k, v] ∧ es[i]? = some e ∧ Rep0 ν k e.key ∧ Rep0 ν v e.val
  | _ => False
theorem Blk.mono {ν : Nat → FuncId} {X X' : Cx} {c : List AV} {ob : Obj} (h : Blk ν X c ob) (hx : Ext X X') : Blk ν X' c ob := by
  cases ob with
  | cells r e f => exact ⟨h.1, h.2.1, fun i hi => (h.2.2 i hi).mono hx⟩
  | map es k => exact h
  | _ => exact h

/-- The objects of a state in a world. -/
structure Objs (ν : Nat → FuncId) (B : Nat) (X : Cx) : Prop where
  obj : ∀ o c, X.H o = some c → o < X.nx ∧ B ≤ X.β o ∧ ∃ ob, X.w.heap[X.β o]? = some ob ∧ Blk ν X c ob
  inj : ∀ o o' c c', X.H o = some c → X.H o' = some c' → X.β o = X.β o' → o = o'
  le : B ≤ X.w.heap.size
  new : ∀ b, B ≤ b → X.S b

structure Sim (ν : Nat → FuncId) (N : Nat) (w0 : World) (S : Nat → Prop) (X0 : Cx) (s : St) (a : Act) (w : World) (β : Nat → Nat) : Prop where
  env : ∀ t, Rep ν ⟨β, s.heap, s.next, w, S⟩ (s.env t) (a.tmps.getD t undef)
  size : a.tmps.size = N
  defers : a.defers = []
  objs : Objs ν w0.heap.size ⟨β, s.heap, s.next, w, S⟩
  below : Below w0.heap.size w0 w
  ext : Ext X0 ⟨β, s.heap, s.next, w, S⟩

/-- A new block that is no object. -/
theorem Ext.alloc (X : Cx) (o : Obj) (hlt : ∀ k c, X.H k = some c → X.β k < X.w.heap.size) : Ext X { X with w := X.w.alloc o } := by
  have hs : (X.w.alloc o).heap.size = X.w.heap.size + 1 := by show (X.w.heap.push o).size = _; simp
  refine ⟨Nat.le_refl _, fun b hb => ⟨⟨by simp only [hs]; exact Nat.lt_succ_of_lt hb.1.1, hb.1.2⟩, hb.2⟩, fun b hb => heap_alloc_old _ _ _ hb.1.1, fun k c' _ hc' => ⟨c', hc', .inr ⟨rfl, rfl, fun r e f hr => ⟨r, e, f, ?_, rfl⟩⟩⟩, fun k c' _ hc' es q hr => ⟨rfl, es, q, ?_⟩⟩
  · show (X.w.alloc o).heap[X.β k]? = _
    rw [heap_alloc_old _ _ _ (hlt k c' hc')]
    exact hr
  · show (X.w.alloc o).heap[X.β k]? = _
    rw [heap_alloc_old _ _ _ (hlt k c' hc')]
    exact hr

theorem Objs.lt {ν : Nat → FuncId} {B : Nat} {X : Cx} (h : Objs ν B X) : ∀ k c, X.H k = some c → X.β k < X.w.heap.size := by
  intro k c hk
  obtain ⟨_, _, ob, hr, _⟩ := h.obj k c hk
  exact (Array.getElem?_eq_some_iff.1 hr).1

/-- An object whose block is a row. -/
theorem Objs.row {ν : Nat → FuncId} {B : Nat} {X : Cx} (h : Objs ν B X) {o : Nat} {c : List AV} (hc : X.H o = some c) (hr : ∃ r e f, X.w.heap[X.β o]? = some (.cells r e f)) :
    o < X.nx ∧ B ≤ X.β o ∧ ∃ r e, X.w.heap[X.β o]? = some (.cells r e (0, 0)) ∧ c.length ≤ r.size ∧ ∀ i (h : i < c.length), Rep ν X c[i] (r.getD i undef) := by
  obtain ⟨h1, h2, ob, h3, h4⟩ := h.obj o c hc
  obtain ⟨r, e, f, hr⟩ := hr
  rw [hr] at h3
  cases h3
  obtain ⟨rfl, h5, h6⟩ := h4
  exact ⟨h1, h2, r, e, hr, h5, h6⟩
/-- An object whose block is a map. -/
theorem Objs.mp {ν : Nat → FuncId} {B : Nat} {X : Cx} (h : Objs ν B X) {o : Nat} {c : List AV} (hc : X.H o = some c) {es : Array MapEntry} {q : Nat} (hr : X.w.heap[X.β o]? = some (.map es q)) :
    o < X.nx ∧ B ≤ X.β o ∧ es.size = c.length ∧ ∀ i (h : i < c.length), ∃ k v e, c[i] = .tup [k, v] ∧ es[i]? = some e ∧ Rep0 ν k e.key ∧ Rep0 ν v e.val := by
  obtain ⟨h1, h2, ob, h3, h4⟩ := h.obj o c hc
  rw [hr] at h3
  cases h3
  exact ⟨h1, h2, h4.1, h4.2⟩

theorem Objs.alloc {ν : Nat → FuncId} {B : Nat} {X : Cx} (h : Objs ν B X) (o : Obj) : Objs ν B { X with w := X.w.alloc o } := by
  refine ⟨fun k c hk => ?_, h.inj, Nat.le_trans h.le (by simp), h.new⟩
  obtain ⟨h1, h2, ob, hr, hb⟩ := h.obj k c hk
  exact ⟨h1, h2, ob, by rw [heap_alloc_old _ _ _ (h.lt k c hk)]; exact hr, hb.mono (Ext.alloc X o h.lt)⟩

/-- A draw. -/
theorem Ext.drew (X : Cx) (w' : World) (h : w'.heap = X.w.heap) : Ext X { X with w := w' } := by
  refine ⟨Nat.le_refl _, fun b hb => ⟨⟨by simp only [h]; exact hb.1.1, hb.1.2⟩, hb.2⟩, fun b hb => by simp only [h], fun k c' _ hc' => ⟨c', hc', .inr ⟨rfl, rfl, fun r e f hr => ⟨r, e, f, by simp only [h]; exact hr, rfl⟩⟩⟩, fun k c' _ hc' es q hr => ⟨rfl, es, q, by simp only [h]; exact hr⟩⟩
theorem Objs.drew {ν : Nat → FuncId} {B : Nat} {X : Cx} (h : Objs ν B X) (w' : World) (hh : w'.heap = X.w.heap) : Objs ν B { X with w := w' } := by
  refine ⟨fun k c hk => ?_, h.inj, by simp only [hh]; exact h.le, h.new⟩
  obtain ⟨h1, h2, ob, hr, hb⟩ := h.obj k c hk
  exact ⟨h1, h2, ob, by simp only [hh]; exact hr, hb.mono (Ext.drew X w' hh)⟩

section inv
variable {ν : Nat → FuncId} {X : Cx} {v : Value}
theorem Rep.inv_v {x : Value} (h : Rep ν X (.v x) v) : v = x := by cases h with | pure h => cases h; rfl
theorem Rep.inv_ptr {c : List AV} {o : Nat} (h : Rep ν X (.ptr c o) v) : ∃ (b base : Nat) (us : Nat → Value), v = .pointer (some ⟨b, base + o, none⟩) ∧ Imm X b ∧ (∀ i, i < c.length → X.w.cell? ⟨b, base + i, none⟩ = some (us i)) ∧ (∀ i (h : i < c.length), RepP ν X.w (Imm X) c[i] (us i)) := by
  cases h with | pure h => cases h with | ptr us hS hc hr => exact ⟨_, _, us, rfl, hS, hc, hr⟩
theorem Rep.inv_nil (h : Rep ν X .nil v) : ∃ a, v = .slice a 0 0 := by cases h with | pure h => cases h; exact ⟨_, rfl⟩
theorem Rep.inv_sl {c : List AV} {n : Nat} (h : Rep ν X (.sl c n) v) : (∃ (b off cap : Nat) (us : Nat → Value), v = .slice (some ⟨b, off, none⟩) n cap ∧ n ≤ cap ∧ Imm X b ∧ (∀ i, i < c.length → X.w.cell? ⟨b, off + i, none⟩ = some (us i)) ∧ (∀ i (h : i < c.length), RepP ν X.w (Imm X) c[i] (us i))) ∨ (∃ a cap, v = .slice a 0 cap ∧ n = 0 ∧ c = []) := by
  cases h with | pure h => cases h with
    | sl us hS hn hc hr => exact .inl ⟨_, _, _, us, rfl, hn, hS, hc, hr⟩
    | sl0 a cap => exact .inr ⟨a, cap, rfl, rfl, rfl⟩
theorem Rep.inv_agg {c : List AV} (h : Rep ν X (.agg c) v) : ∃ vs : Array Value, v = .agg vs ∧ vs.size = c.length ∧ ∀ i (h : i < c.length), Rep ν X c[i] (vs.getD i undef) := by
  cases h with
  | pure h => cases h with | agg vs hs hr => exact ⟨vs, rfl, hs, fun i h => .pure (hr i h)⟩
  | agg vs hs hr => exact ⟨vs, rfl, hs, hr⟩
theorem Rep.inv_tup {c : List AV} (h : Rep ν X (.tup c) v) : ∃ vs : Array Value, v = .tuple vs ∧ vs.size = c.length ∧ ∀ i (h : i < c.length), Rep ν X c[i] (vs.getD i undef) := by
  cases h with
  | pure h => cases h with | tup vs hs hr => exact ⟨vs, rfl, hs, fun i h => .pure (hr i h)⟩
  | tup vs hs hr => exact ⟨vs, rfl, hs, hr⟩
theorem Rep.inv_fn {id : Nat} {c : List AV} (h : Rep ν X (.fn id c) v) : ∃ vs : Array Value, v = .func (.func (ν id)) #[] vs ∧ vs.size = c.length ∧ ∀ i (h : i < c.length), Rep ν X c[i] (vs.getD i undef) := by
  cases h with
  | pure h => cases h with | fn vs hs hr => exact ⟨vs, rfl, hs, fun i h => .pure (hr i h)⟩
  | fn vs hs hr => exact ⟨vs, rfl, hs, hr⟩
theorem Rep.inv_ms {o off n sz : Nat} (h : Rep ν X (.ms o off n sz) v) : o < X.nx ∧ v.oneCell' = true ∧ (∀ c, X.H o = some c → off + n * sz ≤ c.length) ∧
    (∀ c, X.H o = some c → off + n * sz = c.length → ∃ cap r e f, v = .slice (some ⟨X.β o, off, none⟩) n cap ∧ n ≤ cap ∧ X.w.heap[X.β o]? = some (.cells r e f) ∧ off + cap * sz ≤ r.size) := by
  cases h with
  | pure h => cases h
  | ms a b c d => exact ⟨a, b, c, d⟩
theorem Rep.inv_mm {o : Nat} (h : Rep ν X (.mm o) v) : o < X.nx ∧ v.oneCell' = true ∧ (∀ c, X.H o = some c → v = .map (some (X.β o)) ∧ ∃ es k, X.w.heap[X.β o]? = some (.map es k)) := by
  cases h with
  | pure h => cases h
  | mm a b c => exact ⟨a, b, c⟩
theorem Rep.inv_mp {o off len : Nat} (h : Rep ν X (.mp o off len) v) : o < X.nx ∧ v.oneCell' = true ∧ (∀ c, X.H o = some c → len ≤ c.length) ∧
    (∀ c, X.H o = some c → c.length = len → v = .pointer (some ⟨X.β o, off, none⟩) ∧ ∃ r e f, X.w.heap[X.β o]? = some (.cells r e f)) := by
  cases h with
  | pure h => cases h
  | mp a b c d => exact ⟨a, b, c, d⟩
end inv

theorem Rep.one {ν : Nat → FuncId} {X : Cx} {a : AV} {v : Value} (h : Rep ν X a v) (h1 : a.one = true) : v.oneCell' = true := by
  cases h with
  | pure h => cases h <;> first | exact h1 | rfl | simp [AV.one] at h1
  | ms _ h _ _ => exact h
  | mp _ h _ _ => exact h
  | mm _ h _ => exact h
  | agg => simp [AV.one] at h1
  | tup => simp [AV.one] at h1
  | fn => rfl

/-- A value's own cells. -/
theorem Rep.cells {ν : Nat → FuncId} {X : Cx} {a : AV} {v : Value} (h : Rep ν X a v) (h1 : a.cells.all AV.one = true) :
    v.cells.size = a.cells.length ∧ ∀ i (h : i < a.cells.length), Rep ν X a.cells[i] (v.cells.getD i undef) := by
  have key : ∀ (b : AV), b = a → (∀ c, b ≠ .agg c) → v.cells.size = a.cells.length ∧ ∀ i (h : i < a.cells.length), Rep ν X a.cells[i] (v.cells.getD i undef) := by
    intro b hb hne
    subst hb
    have hc : b.cells = [b] := by cases b <;> first | rfl | exact absurd rfl (hne _)
    have ho : b.one = true := by simpa [hc] using h1
    have hv := h.one ho
    have hvc : v.cells = #[v] := by cases v <;> first | rfl | simp [Value.oneCell'] at hv
    simp only [hc, hvc]
    refine ⟨rfl, fun i hi => ?_⟩
    have : i = 0 := by simpa using hi
    subst this
    exact h
  cases a with
  | agg c => obtain ⟨vs, rfl, hs, hr⟩ := h.inv_agg; exact ⟨hs, hr⟩
  | _ => exact key _ rfl (by simp)

end Go.Av

/-
  The operations that yield a value and write nothing: the abstract result stands for the model's.
-/
namespace Go.Av
set_option linter.unusedSectionVars false
set_option linter.unusedSimpArgs false
set_option linter.unusedVariables false
open Go.RowKit (Below)

theorem mapM_some {α β : Type} {f : α → Option β} : ∀ {l : List α} {l' : List β}, l.mapM f = some l' → l'.length = l.length ∧ ∀ i (h : i < l.length) (h' : i < l'.length), f l[i] = some l'[i]
  | [], l', h => by simp at h; subst h; exact ⟨rfl, fun i h => by simp at h⟩
  | x :: l, l', h => by
    simp only [List.mapM_cons, Option.bind_eq_bind, Option.bind_eq_some_iff, Option.pure_def, Option.some.injEq] at h
    obtain ⟨y, hy, l2, hl, rfl⟩ := h
    obtain ⟨h1, h2⟩ := mapM_some hl
    refine ⟨by simp [h1], fun i hi hi' => ?_⟩
    cases i with
    | zero => simpa using hy
    | succ i => simpa using h2 i (by simpa using hi) (by simpa using hi')

theorem cellOf_rep {ν : Nat → FuncId} {w : World} {S : Nat → Prop} {v : Value} {a : AV} (h : cellOf v = some a) : RepP ν w S a v := by
  unfold cellOf at h
  split at h <;> first | (cases h; exact .nil _) | (cases h; exact .v _) | cases h

theorem avOf_rep {ν : Nat → FuncId} {w : World} {S : Nat → Prop} {v : Value} {a : AV} (h : avOf v = some a) : RepP ν w S a v := by
  unfold avOf at h
  split at h
  · cases h; exact .nil _
  · cases h
  · rename_i cs
    cases hm : cs.toList.mapM cellOf with
    | none => rw [hm] at h; cases h
    | some l =>
      rw [hm] at h
      cases h
      obtain ⟨h1, h2⟩ := mapM_some hm
      refine .agg cs (by simp [h1]) (fun i hi => ?_)
      have hi' : i < cs.size := by simpa [h1] using hi
      have := h2 i (by simpa using hi') hi
      rw [show cs.getD i undef = cs.toList[i]'(by simpa using hi') from by simp [hi']]
      exact cellOf_rep this
  · cases h
  · cases h; exact .v _

section
variable {T : Tr} {ν : Nat → FuncId} (hν : ∀ f id, T.num f = some id → ν id = f) {X : Cx} {env : Nat → AV} {a : Act} (henv : ∀ t, Rep ν X (env t) (a.tmps.getD t undef))

include hν henv in
theorem opd_sound {x : Operand} {x' : Opd} (h : T.opd x = some x') : Rep ν X (ev env x') (a.eval x) := by
  cases x with
  | tmp t => simp only [Tr.opd] at h; split at h <;> cases h; exact henv t
  | const v =>
    simp only [Tr.opd] at h
    cases hv : avOf v with
    | none => rw [hv] at h; cases h
    | some y => rw [hv] at h; cases h; exact .pure (avOf_rep hv)
  | global g => simp [Tr.opd] at h
  | func f =>
    simp only [Tr.opd] at h
    cases hf : T.num f with
    | none => rw [hf] at h; cases h
    | some id =>
      rw [hf] at h; cases h
      have := hν f id hf
      subst this
      exact .pure (.fn (id := id) (cells := []) #[] rfl (fun i h => by simp at h))

theorem opds1 {x : Operand} {l : List Opd} (h : T.opds [x] = some l) : ∃ x', l = [x'] ∧ T.opd x = some x' := by
  obtain ⟨h1, h2⟩ := mapM_some h
  match l, h1 with
  | [y], _ => exact ⟨y, rfl, h2 0 (by simp) (by simp)⟩
theorem opds2 {x y : Operand} {l : List Opd} (h : T.opds [x, y] = some l) : ∃ x' y', l = [x', y'] ∧ T.opd x = some x' ∧ T.opd y = some y' := by
  obtain ⟨h1, h2⟩ := mapM_some h
  match l, h1 with
  | [p, q], _ => exact ⟨p, q, rfl, h2 0 (by simp) (by simp), h2 1 (by simp) (by simp)⟩
theorem opds3 {x y z : Operand} {l : List Opd} (h : T.opds [x, y, z] = some l) : ∃ x' y' z', l = [x', y', z'] ∧ T.opd x = some x' ∧ T.opd y = some y' ∧ T.opd z = some z' := by
  obtain ⟨h1, h2⟩ := mapM_some h
  match l, h1 with
  | [p, q, r], _ => exact ⟨p, q, r, rfl, h2 0 (by simp) (by simp), h2 1 (by simp) (by simp), h2 2 (by simp) (by simp)⟩
end

/-- The operation yields a value that the abstract one stands for; at most a new block is laid. -/
def Gives (ν : Nat → FuncId) (P : Program) (X : Cx) (m : Sem Next) (u : AV) : Prop :=
  ∃ v w', m.run P X.w = .ok (.value v) w' ∧ (w' = X.w ∨ ∃ o, w' = X.w.alloc o) ∧ Rep ν { X with w := w' } u v

theorem Gives.same {ν : Nat → FuncId} {P : Program} {X : Cx} {m : Sem Next} {u : AV} {v : Value} (h : m.run P X.w = .ok (.value v) X.w) (hr : Rep ν X u v) : Gives ν P X m u :=
  ⟨v, X.w, h, .inl rfl, hr⟩

section
variable {T : Tr} {ν : Nat → FuncId} {X : Cx}

theorem s_pick {x y z u : AV} {p q r : Value} {o : Oper} {a : Act} {c1 c2 c3 : Operand} (ho : o.op = .pick c1 c2 c3) (e1 : a.eval c1 = p) (e2 : a.eval c2 = q) (e3 : a.eval c3 = r) (h : pPick [x, y, z] = some u) (hx : Rep ν X x p) (hy : Rep ν X y q) (hz : Rep ν X z r) :
    Gives ν T.P X (execOp a.eval o) u := by
  unfold pPick at h
  split at h
  · rename_i c a' b' heq
    simp only [List.cons.injEq, and_true] at heq
    obtain ⟨rfl, rfl, rfl⟩ := heq
    have := hx.inv_v
    subst this
    cases h
    refine Gives.same (v := if c then q else r) (by simp [execOp, ho, e1, e2, e3, asBool]) ?_
    cases c <;> simpa
  · cases h

theorem s_bin {op : BinOp} {t t' : TypeId} {x y u : AV} {p q : Value} {o : Oper} {a : Act} {c1 c2 : Operand} (ho : o.op = .binOp op t c1 c2 t') (e1 : a.eval c1 = p) (e2 : a.eval c2 = q) (h : pBin op [x, y] = some u) (hx : Rep ν X x p) (hy : Rep ν X y q) :
    Gives ν T.P X (execOp a.eval o) u := by
  unfold pBin at h
  split at h
  · rename_i k m k' n heq
    simp only [List.cons.injEq, and_true] at heq
    obtain ⟨rfl, rfl⟩ := heq
    have := hx.inv_v
    subst this
    have := hy.inv_v
    subst this
    split at h
    · rename_i hk
      subst hk
      cases hi : intBin op k m n with
      | none => rw [hi] at h; cases h
      | some z =>
        rw [hi] at h
        cases h
        refine Gives.same (v := z) ?_ (.pure (.v z))
        unfold intBin at hi
        cases op <;> simp only [reduceCtorEq, Option.some.injEq] at hi <;> (try subst hi) <;>
          first
          | (split at hi
             · cases hi
             · rename_i hn
               simp only [Option.some.injEq] at hi
               subst hi
               simp [execOp, ho, e1, e2, eqGuard, binOp, Op.intDiv, Op.shift, hn])
          | simp [execOp, ho, e1, e2, eqGuard, binOp, Op.intArith, Op.intBits, Op.intCmp]
    · cases h
  · rename_i m n heq
    simp only [List.cons.injEq, and_true] at heq
    obtain ⟨rfl, rfl⟩ := heq
    have := hx.inv_v
    subst this
    have := hy.inv_v
    subst this
    cases hi : strBin op m n with
    | none => rw [hi] at h; cases h
    | some z =>
      rw [hi] at h
      cases h
      refine Gives.same (v := z) ?_ (.pure (.v z))
      have hmax : IntKind.i64.max = 9223372036854775807 := by decide
      by_cases hop : op = .add
      · subst hop
        simp only [strBin] at hi
        split at hi
        · rename_i hn
          simp only [Option.some.injEq] at hi
          subst hi
          simp [execOp, ho, e1, e2, eqGuard, binOp, Op.stringOp, hmax]
          omega
        · cases hi
      · unfold strBin at hi
        cases op <;> simp only [reduceCtorEq, not_true_eq_false, Option.some.injEq] at hi hop <;> (try subst hi) <;> simp [execOp, ho, e1, e2, eqGuard, binOp, Op.stringOp]
  · cases h

theorem s_not {t : TypeId} {x u : AV} {p : Value} {o : Oper} {a : Act} {c1 : Operand} (ho : o.op = .unOp .not t c1) (e1 : a.eval c1 = p) (h : pNot [x] = some u) (hx : Rep ν X x p) : Gives ν T.P X (execOp a.eval o) u := by
  unfold pNot at h
  split at h
  · rename_i b heq
    simp only [List.cons.injEq, and_true] at heq
    subst heq
    have := hx.inv_v
    subst this
    cases h
    exact Gives.same (v := .bool (!b)) (by simp [execOp, ho, e1, Op.unary]) (.pure (.v _))
  · cases h

theorem addr_add {b off n : Nat} : (⟨b, off, none⟩ : Addr).add n = ⟨b, off + n, none⟩ := by
  unfold Addr.add; split <;> simp_all

theorem run_under {P : Program} {t : TypeId} {d : TypeDesc} (h : P.underlying t = some d) (w : World) : (underlying t).run P w = .ok d w := run_underlying h w
theorem run_size {P : Program} {t : TypeId} {i : TypeInfo} (h : P.info? t = some i) (w : World) : (sizeOf t).run P w = .ok i.size w := by
  simp [Go.sizeOf, typeInfo, h]

theorem elem_spec {t e : TypeId} (h : T.elem t = some e) : T.P.underlying t = some (.slice e) := by
  unfold Tr.elem at h
  split at h
  · cases h; assumption
  · cases h
theorem size_spec {t : TypeId} {n : Nat} (h : T.sizeOf t = some n) : ∃ i, T.P.info? t = some i ∧ i.size = n := by
  unfold Tr.sizeOf at h
  cases hi : T.P.info? t with
  | none => rw [hi] at h; cases h
  | some i => rw [hi] at h; cases h; exact ⟨i, rfl, rfl⟩

theorem s_cvi {src dst : TypeId} {ks k : IntKind} {x u : AV} {p : Value} {o : Oper} {a : Act} {c1 : Operand} (ho : o.op = .convert src dst c1) (e1 : a.eval c1 = p) (hs : T.P.underlying src = some (.int ks)) (hd : T.P.underlying dst = some (.int k)) (h : pCvi k [x] = some u) (hx : Rep ν X x p) : Gives ν T.P X (execOp a.eval o) u := by
  unfold pCvi at h
  split at h
  · rename_i kk n heq
    simp only [List.cons.injEq, and_true] at heq
    subst heq
    have := hx.inv_v
    subst this
    cases h
    exact Gives.same (v := .int k (k.wrap n)) (by simp [execOp, ho, e1, convert, run_underlying hs, run_underlying hd, Conv.intToInt]) (.pure (.v _))
  · cases h
theorem s_b2s {src dst e : TypeId} {x u : AV} {p : Value} {o : Oper} {a : Act} {c1 : Operand} (ho : o.op = .convert src dst c1) (e1 : a.eval c1 = p) (hs : T.P.underlying src = some (.slice e)) (hd : T.P.underlying dst = some .string) (he : T.P.underlying e = some (.int .u8)) (h : pB2s [x] = some u) (hx : Rep ν X x p) : Gives ν T.P X (execOp a.eval o) u := by
  unfold pB2s at h
  split at h
  · rename_i n heq
    simp only [List.cons.injEq, and_true] at heq
    subst heq
    cases h
    rcases hx.inv_sl with ⟨b, off, cap, us, hp, _, _, hc, hr⟩ | ⟨b, cap, hp, hn, _⟩
    · have h0 := hc 0 (by simp)
      have h1 := hr 0 (by simp)
      simp only [List.getElem_cons_zero] at h1
      generalize us 0 = v0 at h0 h1
      cases h1
      have hl : (loadCells ⟨b, off, none⟩ 1).run T.P X.w = .ok (([n] : List Int).map (Value.int .u8)).toArray X.w := by
        simp only [Nat.add_zero] at h0
        have ha : (⟨b, off, none⟩ : Addr).add 0 = ⟨b, off, none⟩ := by rw [addr_add]; rfl
        simp [loadCells, loadCellsFrom, ha, h0]
      have hb := run_bytesToString (P := T.P) X.w ⟨b, off, none⟩ 1 cap [n] hl
      refine Gives.same (v := .string (ByteArray.empty.push (UInt8.ofNat n.toNat))) ?_ (.pure (.v _))
      simp only [List.foldl_cons, List.foldl_nil] at hb
      simp [execOp, ho, e1, hp, convert, run_underlying hs, run_underlying hd, run_underlying he, hb]
    · cases hn
  · cases h

theorem s_len {t e : TypeId} {x u : AV} {p : Value} {o : Oper} {a : Act} {c1 : Operand} (ho : o.op = .call { callee := .builtin .len, args := #[c1], argTypes := #[t] }) (e1 : a.eval c1 = p) (ht : T.P.underlying t = some (.slice e)) {H : Hp} (hH : ∀ o c, H o = some c → X.H o = some c) (h : pLen H [x] = some u) (hx : Rep ν X x p) :
    Gives ν T.P X (execOp a.eval o) u := by
  have key : ∀ (b : Option Addr) (n cap : Nat), p = .slice b n cap → (execOp a.eval o).run T.P X.w = .ok (.value (.int .i64 n)) X.w := by
    intro b n cap hp
    subst hp
    simp [execOp, ho, resolve, invoke, builtin, Builtin.len_, run_underlying ht, e1, goInt]
  unfold pLen at h
  split at h
  · rename_i c n heq
    simp only [List.cons.injEq, and_true] at heq
    subst heq
    cases h
    rcases hx.inv_sl with ⟨b, off, cap, us, hp, _⟩ | ⟨b, cap, hp, rfl, _⟩
    · exact Gives.same (key _ _ _ hp) (.pure (.v _))
    · exact Gives.same (key _ _ _ hp) (.pure (.v _))
  · rename_i heq
    simp only [List.cons.injEq, and_true] at heq
    subst heq
    cases h
    obtain ⟨b, hp⟩ := hx.inv_nil
    exact Gives.same (key _ _ _ hp) (.pure (.v _))
  · rename_i o' off n sz heq
    simp only [List.cons.injEq, and_true] at heq
    subst heq
    cases hc : H o' with
    | none => simp [hc] at h
    | some c =>
      simp only [hc] at h
      split at h
      · rename_i he
        cases h
        obtain ⟨_, _, _, hv⟩ := hx.inv_ms
        obtain ⟨cap, r, e', f, hp, _⟩ := hv c (hH _ _ hc) he
        exact Gives.same (key _ _ _ hp) (.pure (.v _))
      · cases h
  · cases h


theorem s_fad {st : TypeId} {fields : Array Field} {fl : Field} {f m : Nat} {x u : AV} {p : Value} {o : Oper} {a : Act} {c1 : Operand} (ho : o.op = .fieldAddr st c1 f) (e1 : a.eval c1 = p)
    (ht : T.P.underlying st = some (.struct fields)) (hf : fields[f]? = some fl) (hs : T.sizeOf fl.type = some (m + 1)) {H : Hp} (hH : ∀ o c, H o = some c → X.H o = some c)
    (h : pFad H fl.offset [x] = some u) (hx : Rep ν X x p) : Gives ν T.P X (execOp a.eval o) u := by
  obtain ⟨i, hi, hsz⟩ := size_spec hs
  have key : ∀ b off, p = .pointer (some ⟨b, off, none⟩) → (execOp a.eval o).run T.P X.w = .ok (.value (.pointer (some ⟨b, off + fl.offset, none⟩))) X.w := by
    intro b off hp
    subst hp
    simp [execOp, ho, Instr.fieldAt, run_underlying ht, hf, e1, Instr.sureAddr, fieldPlace, run_size hi, hsz, addr_add]
  unfold pFad at h
  split at h
  · rename_i c o' heq
    simp only [List.cons.injEq, and_true] at heq
    subst heq
    cases h
    obtain ⟨b, base, us, hp, hS, hc, hr⟩ := hx.inv_ptr
    refine Gives.same (key _ _ hp) (.pure ?_)
    rw [Nat.add_assoc]
    exact .ptr us hS hc hr
  · rename_i o' q l heq
    simp only [List.cons.injEq, and_true] at heq
    subst heq
    cases hc : H o' with
    | none => simp [hc] at h
    | some c =>
      simp only [hc] at h
      split at h
      · rename_i he
        cases h
        obtain ⟨h1, h2, h3, h4⟩ := hx.inv_mp
        have hp := (h4 c (hH _ _ hc) he).1
        exact Gives.same (key _ _ hp) (.mp h1 rfl h3 (fun c' hc' he' => ⟨rfl, (h4 c' hc' he').2⟩))
      · cases h
  · cases h

theorem s_iad {t e : TypeId} {sz : Nat} {x y u : AV} {p q : Value} {o : Oper} {a : Act} {c1 c2 : Operand} (ho : o.op = .indexAddr t c1 c2) (e1 : a.eval c1 = p) (e2 : a.eval c2 = q)
    (ht : T.elem t = some e) (hs : T.sizeOf e = some sz) {H : Hp} (hH : ∀ o c, H o = some c → X.H o = some c)
    (h : pIad H sz [x, y] = some u) (hx : Rep ν X x p) (hy : Rep ν X y q) : Gives ν T.P X (execOp a.eval o) u := by
  obtain ⟨i, hi, hsz⟩ := size_spec hs
  have hu := elem_spec ht
  have key : ∀ b off n cap k j, p = .slice (some ⟨b, off, none⟩) n cap → q = .int k j → 0 ≤ j → j < n → (execOp a.eval o).run T.P X.w = .ok (.value (.pointer (some ⟨b, off + j.toNat * sz, none⟩))) X.w := by
    intro b off n cap k j hp hq h0 h1
    subst hp
    subst hq
    simp [execOp, ho, Instr.indexAt, run_underlying hu, e1, e2, asIntOf, run_size hi, hsz, addr_add, h0, h1]
  unfold pIad at h
  split at h
  · rename_i c n k j heq
    simp only [List.cons.injEq, and_true] at heq
    obtain ⟨rfl, rfl⟩ := heq
    split at h
    · rename_i hj
      cases h
      have hq := hy.inv_v
      rcases hx.inv_sl with ⟨b, off, cap, us, hp, hn, hS, hc, hr⟩ | ⟨b, cap, hp, hn, _⟩
      · exact Gives.same (key _ _ _ _ _ _ hp hq hj.1 hj.2) (.pure (.ptr us hS hc hr))
      · omega
    · cases h
  · rename_i o' off n sz' k j heq
    simp only [List.cons.injEq, and_true] at heq
    obtain ⟨rfl, rfl⟩ := heq
    split at h
    · rename_i hj
      obtain ⟨rfl, hj⟩ := hj
      cases hc : H o' with
      | none => simp [hc] at h
      | some c =>
        simp only [hc] at h
        split at h
        · rename_i he
          cases h
          have hq := hy.inv_v
          obtain ⟨h1, h2, h3, h4⟩ := hx.inv_ms
          obtain ⟨cap, r, e', f, hp, _, hblk, _⟩ := h4 c (hH _ _ hc) he
          refine Gives.same (key _ _ _ _ _ _ hp hq hj.1 hj.2) (.mp h1 rfl (fun c' hc' => ?_) (fun c' hc' he' => ⟨rfl, r, e', f, hblk⟩))
          have := hH _ _ hc
          rw [this] at hc'
          cases hc'
          exact Nat.le_refl _
        · cases h
    · cases h
  · cases h

theorem shape_none {t : TypeId} (h : T.shape t = some none) (w : World) : (isAgg t).run T.P w = .ok false w := by
  unfold Tr.shape at h
  split at h
  · cases h
  · rename_i h1 h2
    unfold Tr.aggB at h1
    cases hu : T.P.underlying t with
    | none => simp [hu] at h1
    | some d =>
      simp only [hu, Option.map_some, Option.some.injEq] at h1
      unfold isAgg
      rw [Sem.run_bind, run_underlying hu]
      cases d <;> simp_all
  · cases h
theorem shape_some {t : TypeId} {n : Nat} (h : T.shape t = some (some n)) (w : World) : (isAgg t).run T.P w = .ok true w ∧ (Go.sizeOf t).run T.P w = .ok n w := by
  unfold Tr.shape at h
  split at h
  · rename_i m h1 h2
    cases h
    obtain ⟨i, hi, hs⟩ := size_spec h2
    refine ⟨?_, by rw [run_size hi, hs]⟩
    unfold Tr.aggB at h1
    cases hu : T.P.underlying t with
    | none => simp [hu] at h1
    | some d =>
      simp only [hu, Option.map_some, Option.some.injEq] at h1
      unfold isAgg
      rw [Sem.run_bind, run_underlying hu]
      cases d <;> simp_all
  · cases h
  · cases h

/-- A load of one cell or of several, out of a row of known cells. -/
theorem load_row {t : TypeId} {n : Option Nat} (hn : T.shape t = some n) {b base : Nat} {c : List AV} {us : Nat → Value} {o : Nat} {u : AV}
    (hc : ∀ i, i < c.length → X.w.cell? ⟨b, base + i, none⟩ = some (us i)) (hr : ∀ i (h : i < c.length), Rep ν X c[i] (us i))
    (h : (match n with | none => c[o]? | some n => if o + n ≤ c.length then some (.agg ((c.drop o).take n)) else none) = some u) :
    ∃ v, (loadVar t ⟨b, base + o, none⟩).run T.P X.w = .ok v X.w ∧ Rep ν X u v := by
  cases n with
  | none =>
    simp only at h
    obtain ⟨ho, hu⟩ := List.getElem?_eq_some_iff.1 h
    subst hu
    exact ⟨us o, by simp [loadVar, shape_none hn, hc o ho], hr o ho⟩
  | some n =>
    simp only at h
    split at h
    · rename_i hle
      cases h
      obtain ⟨h1, h2⟩ := shape_some hn X.w
      have hl := run_loadCells (P := T.P) X.w ⟨b, base + o, none⟩ n (fun j => us (o + j)) (fun j hj => by
        rw [addr_add, Nat.add_assoc]; exact hc (o + j) (by omega))
      refine ⟨.agg ((List.range n).map (fun j => us (o + j))).toArray, by simp only [loadVar, Sem.run_bind, h1, Result.andThen_ok, if_true, h2, hl, Sem.run_pure], ?_⟩
      refine .agg _ (by simp; omega) (fun i hi => ?_)
      have hin : i < n := by simp at hi; omega
      have e1 : ((List.range n).map (fun j => us (o + j))).toArray.getD i undef = us (o + i) := by simp [hin]
      rw [e1]
      have e2 : ((c.drop o).take n)[i] = c[o + i]'(by omega) := by simp
      rw [e2]
      exact hr (o + i) (by omega)
    · cases h

theorem s_ld {t : TypeId} {n : Option Nat} {x u : AV} {p : Value} {o : Oper} {a : Act} {c1 : Operand} (ho : o.op = .load t c1) (e1 : a.eval c1 = p) (hn : T.shape t = some n)
    {H : Hp} (hH : ∀ o c, H o = some c → X.H o = some c) {B : Nat} (hO : Objs ν B X) (h : pLd H n [x] = some u) (hx : Rep ν X x p) : Gives ν T.P X (execOp a.eval o) u := by
  have key : ∀ b off v, p = .pointer (some ⟨b, off, none⟩) → (loadVar t ⟨b, off, none⟩).run T.P X.w = .ok v X.w → (execOp a.eval o).run T.P X.w = .ok (.value v) X.w := by
    intro b off v hp hl
    subst hp
    simp [execOp, ho, Instr.loadAt, e1, Instr.sureAddr, hl]
  unfold pLd at h
  split at h
  · rename_i c o' heq
    simp only [List.cons.injEq, and_true] at heq
    subst heq
    obtain ⟨b, base, us, hp, hS, hc, hr⟩ := hx.inv_ptr
    obtain ⟨v, h1, h2⟩ := load_row hn hc (fun i h => .pure (hr i h)) h
    exact Gives.same (key _ _ _ hp h1) h2
  · rename_i o' q l heq
    simp only [List.cons.injEq, and_true] at heq
    subst heq
    cases hc : H o' with
    | none => simp [hc] at h
    | some c =>
      simp only [hc] at h
      split at h
      · rename_i he
        obtain ⟨h1, h2, h3, h4⟩ := hx.inv_mp
        obtain ⟨hp, hrow⟩ := h4 c (hH _ _ hc) he
        obtain ⟨_, _, r, e, hr, hle, hrep⟩ := hO.row (hH _ _ hc) hrow
        obtain ⟨v, h5, h6⟩ := load_row (ν := ν) (X := X) (base := 0) (o := q) (us := fun i => r.getD i undef) hn (b := X.β o') (c := c) (fun i hi => by
          rw [Nat.zero_add, cell_of_row _ _ _ _ _ _ hr]; have : i < r.size := by omega
          simp [this]) hrep h
        rw [Nat.zero_add] at h5
        exact Gives.same (key _ _ _ hp h5) h6
      · cases h
  · cases h

theorem s_nck {x u : AV} {p : Value} {o : Oper} {a : Act} {c1 : Operand} (ho : o.op = .nilCheck c1) (e1 : a.eval c1 = p) {H : Hp} (hH : ∀ o c, H o = some c → X.H o = some c) (h : pNck H [x] = some u) (hx : Rep ν X x p) : Gives ν T.P X (execOp a.eval o) u := by
  unfold pNck at h
  split at h
  · rename_i c o' heq
    simp only [List.cons.injEq, and_true] at heq
    subst heq
    cases h
    obtain ⟨b, base, us, hp, _⟩ := hx.inv_ptr
    subst hp
    exact Gives.same (by simp [execOp, ho, e1]) hx
  · rename_i o' q l heq
    simp only [List.cons.injEq, and_true] at heq
    subst heq
    cases hc : H o' with
    | none => simp [hc] at h
    | some c =>
      simp only [hc] at h
      split at h
      · rename_i he
        cases h
        obtain ⟨h1, h2, h3, h4⟩ := hx.inv_mp
        have hp := (h4 c (hH _ _ hc) he).1
        subst hp
        exact Gives.same (by simp [execOp, ho, e1]) hx
      · cases h
  · rename_i i c heq
    simp only [List.cons.injEq, and_true] at heq
    subst heq
    cases h
    obtain ⟨vs, hp, _⟩ := hx.inv_fn
    subst hp
    exact Gives.same (by simp [execOp, ho, e1]) hx
  · cases h

theorem s_ext {i : Nat} {x u : AV} {p : Value} {o : Oper} {a : Act} {c1 : Operand} (ho : o.op = .extract c1 i) (e1 : a.eval c1 = p) (h : pExt i [x] = some u) (hx : Rep ν X x p) : Gives ν T.P X (execOp a.eval o) u := by
  unfold pExt at h
  split at h
  · rename_i l heq
    simp only [List.cons.injEq, and_true] at heq
    subst heq
    obtain ⟨vs, rfl, hs, hr⟩ := hx.inv_tup
    obtain ⟨hi, hu⟩ := List.getElem?_eq_some_iff.1 h
    subst hu
    have := hr i hi
    refine Gives.same (v := vs.getD i undef) ?_ this
    have hi' : i < vs.size := by omega
    simp [execOp, ho, e1, Instr.extract, hi']
  · cases h

theorem s_fld {st : TypeId} {fields : Array Field} {fl : Field} {f : Nat} {n : Option Nat} {x u : AV} {p : Value} {o : Oper} {a : Act} {c1 : Operand} (ho : o.op = .field st c1 f) (e1 : a.eval c1 = p)
    (ht : T.P.underlying st = some (.struct fields)) (hf : fields[f]? = some fl) (hn : T.shape fl.type = some n) (h : pFld fl.offset n [x] = some u) (hx : Rep ν X x p) : Gives ν T.P X (execOp a.eval o) u := by
  unfold pFld at h
  split at h
  · rename_i c heq
    simp only [List.cons.injEq, and_true] at heq
    subst heq
    obtain ⟨vs, rfl, hs, hr⟩ := hx.inv_agg
    cases n with
    | none =>
      simp only at h
      obtain ⟨hi, hu⟩ := List.getElem?_eq_some_iff.1 h
      subst hu
      have hi' : fl.offset < vs.size := by omega
      refine Gives.same (v := vs.getD fl.offset undef) ?_ (hr _ hi)
      simp [execOp, ho, e1, Instr.field, run_underlying ht, hf, asAgg, part, shape_none hn, hi']
    | some n =>
      simp only at h
      split at h
      · rename_i hle
        cases h
        obtain ⟨h1, h2⟩ := shape_some hn X.w
        refine Gives.same (v := .agg (vs.extract fl.offset (fl.offset + n))) ?_ (.agg _ (by simp; omega) (fun i hi => ?_))
        · simp [execOp, ho, e1, Instr.field, run_underlying ht, hf, asAgg, part, h1, h2]
        · have hin : i < n := by simp at hi; omega
          have e2 : ((c.drop fl.offset).take n)[i] = c[fl.offset + i]'(by omega) := by simp
          rw [e2]
          have e3 : (vs.extract fl.offset (fl.offset + n)).getD i undef = vs.getD (fl.offset + i) undef := by
            have h6 : fl.offset + i < vs.size := by omega
            have h7 : i < (vs.extract fl.offset (fl.offset + n)).size := by simp; omega
            rw [Array.getD_eq_getD_getElem?, Array.getElem?_eq_getElem h7]; simp [h6]
          rw [e3]
          exact hr _ _
      · cases h
  · cases h

theorem avI_some {a : AV} {i : Int} (h : avI a = some i) : a = .v (.int .i64 i) := by
  unfold avI at h
  split at h
  · cases h; rfl
  · cases h

theorem run_eqFields {w : World} {d : Nat} {vs us : Array Value} : ∀ (fs : List Field) (k : Nat) (l m : List Int), T.fieldsB k fs = true → l.length = fs.length → m.length = fs.length → (∀ j (h : j < l.length), vs[k + j]? = some (.int .i64 l[j])) → (∀ j (h : j < m.length), us[k + j]? = some (.int .i64 m[j])) →
    (Op.eqFields (d + 1) vs us fs).run T.P w = .ok (l == m) w := by
  intro fs
  induction fs with
  | nil =>
    intro k l m _ hl hm _ _
    have : l = [] := List.eq_nil_of_length_eq_zero hl
    subst this
    have : m = [] := List.eq_nil_of_length_eq_zero hm
    subst this
    simp [Op.eqFields]
  | cons f fs ih =>
    intro k l m hB hl hm hv hu
    simp only [Tr.fieldsB, Bool.and_eq_true, bne_iff_ne, ne_eq, beq_iff_eq] at hB
    obtain ⟨⟨⟨⟨h1, h2⟩, h3⟩, h4⟩, h5⟩ := hB
    cases l with
    | nil => simp at hl
    | cons a l =>
      cases m with
      | nil => simp at hm
      | cons b m =>
        have ht : T.P.underlying f.type = some (.int .i64) := by
          split at h3
          · assumption
          · cases h3
        have hn : T.shape f.type = some none := by
          split at h4
          · assumption
          · cases h4
        have va := hv 0 (by simp)
        have ub := hu 0 (by simp)
        simp only [Nat.add_zero, List.getElem_cons_zero] at va ub
        have ih' := ih (k + 1) l m h5 (by simpa using hl) (by simpa using hm) (fun j hj => by have := hv (j + 1) (by simpa using hj); rw [show k + 1 + j = k + (j + 1) by omega]; simpa using this) (fun j hj => by have := hu (j + 1) (by simpa using hj); rw [show k + 1 + j = k + (j + 1) by omega]; simpa using this)
        have pv : (part f.type vs f.offset).run T.P w = .ok (.int .i64 a) w := by simp [part, shape_none hn, h2, va]
        have pu : (part f.type us f.offset).run T.P w = .ok (.int .i64 b) w := by simp [part, shape_none hn, h2, ub]
        simp only [Op.eqFields, h1, not_false_eq_true, if_true, Sem.run_bind, pv, pu, Result.andThen_ok, run_equalIn_int w d f.type .i64 .i64 a b ht, ne_eq]
        by_cases e : a = b
        · subst e
          simp [ih']
        · have : (a == b) = false := by simpa using e
          simp [this]

theorem s_eqs {op : BinOp} {t t' : TypeId} {x y u : AV} {p q : Value} {o : Oper} {a : Act} {c1 c2 : Operand} (ho : o.op = .binOp op t c1 c2 t') (e1 : a.eval c1 = p) (e2 : a.eval c2 = q) (hs : T.isStruct t = true) (hB : T.intsB t = true) (hop : op = .eql ∨ op = .neq)
    (h : pEqs (op == .neq) (T.P.fieldsOf t).size [x, y] = some u) (hx : Rep ν X x p) (hy : Rep ν X y q) : Gives ν T.P X (execOp a.eval o) u := by
  have hu : T.P.underlying t = some (.struct (T.P.fieldsOf t)) := by
    unfold Tr.isStruct at hs
    unfold Program.fieldsOf
    split at hs
    · rename_i fs hf; simp only [hf]
    · cases hs
  simp only [Tr.intsB, Bool.and_eq_true, Bool.not_eq_true'] at hB
  obtain ⟨⟨hb1, hb2⟩, hb3⟩ := hB
  unfold pEqs at h
  split at h
  · rename_i xs ys heq
    simp only [List.cons.injEq, and_true] at heq
    obtain ⟨rfl, rfl⟩ := heq
    obtain ⟨vs, rfl, hs1, hr1⟩ := hx.inv_agg
    obtain ⟨us, rfl, hs2, hr2⟩ := hy.inv_agg
    split at h
    · rename_i l m hl hm
      split at h
      · rename_i hlen
        cases h
        obtain ⟨l1, l2⟩ := mapM_some hl
        obtain ⟨m1, m2⟩ := mapM_some hm
        have key := run_eqFields (T := T) (w := X.w) (d := 9998) (vs := vs) (us := us) (T.P.fieldsOf t).toList 0 l m hb1 (by simp; omega) (by simp; omega) (fun j hj => by
          have := hr1 j (by omega)
          rw [avI_some (l2 j (by omega) hj)] at this
          have h6 := this.inv_v
          have h7 : j < vs.size := by omega
          rw [Nat.zero_add, Array.getElem?_eq_getElem h7]
          simpa [h7] using h6) (fun j hj => by
          have := hr2 j (by omega)
          rw [avI_some (m2 j (by omega) hj)] at this
          have h6 := this.inv_v
          have h7 : j < us.size := by omega
          rw [Nat.zero_add, Array.getElem?_eq_getElem h7]
          simpa [h7] using h6)
        have keq : (Op.equalIn 10000 t (.agg vs) (.agg us)).run T.P X.w = .ok (l == m) X.w := (run_equalIn_agg X.w 9999 t vs us hu hb2).trans key
        rcases hop with rfl | rfl
        · refine Gives.same (v := .bool (l == m)) ?_ (by
            have : ((l == m) != (BinOp.eql == BinOp.neq)) = (l == m) := by cases (l == m) <;> rfl
            rw [this]; exact .pure (.v _))
          simp only [execOp, ho, e1, e2, Sem.run_bind, run_eqGuard_agg X.w _ t _ _ vs us hb3, Result.andThen_ok, run_eql_struct, keq, Sem.run_pure]
        · refine Gives.same (v := .bool (!(l == m))) ?_ (by
            have : ((l == m) != (BinOp.neq == BinOp.neq)) = !(l == m) := by cases (l == m) <;> rfl
            rw [this]; exact .pure (.v _))
          simp only [execOp, ho, e1, e2, Sem.run_bind, run_eqGuard_agg X.w _ t _ _ vs us hb3, Result.andThen_ok, run_neq_struct, keq, Sem.run_pure]
      · cases h
    · cases h
  · cases h

theorem s_eqb {op : BinOp} {t t' : TypeId} {x y u : AV} {p q : Value} {o : Oper} {a : Act} {c1 c2 : Operand} (ho : o.op = .binOp op t c1 c2 t') (e1 : a.eval c1 = p) (e2 : a.eval c2 = q) (hs : T.isBool t = true) (hop : op = .eql ∨ op = .neq)
    (h : pEqb (op == .neq) [x, y] = some u) (hx : Rep ν X x p) (hy : Rep ν X y q) : Gives ν T.P X (execOp a.eval o) u := by
  have hu : T.P.underlying t = some .bool := by
    unfold Tr.isBool at hs
    split at hs
    · assumption
    · cases hs
  unfold pEqb at h
  split at h
  · rename_i b c heq
    simp only [List.cons.injEq, and_true] at heq
    obtain ⟨rfl, rfl⟩ := heq
    cases h
    have := hx.inv_v
    subst this
    have := hy.inv_v
    subst this
    rcases hop with rfl | rfl
    · refine Gives.same (v := .bool (b == c)) ?_ (by
        have : ((b == c) != (BinOp.eql == BinOp.neq)) = (b == c) := by cases (b == c) <;> rfl
        rw [this]; exact .pure (.v _))
      simp [execOp, ho, e1, e2, eqGuard, binOp, run_equal_bool X.w t b c hu]
    · refine Gives.same (v := .bool (!(b == c))) ?_ (by
        have : ((b == c) != (BinOp.neq == BinOp.neq)) = !(b == c) := by cases (b == c) <;> rfl
        rw [this]; exact .pure (.v _))
      simp [execOp, ho, e1, e2, eqGuard, binOp, run_equal_bool X.w t b c hu]
  · cases h

theorem s_mmx {isMax : Bool} {x y u : AV} {p q : Value} {o : Oper} {a : Act} {c1 c2 : Operand} {tys : Array TypeId} (ho : o.op = .call { callee := .builtin (if isMax then .max else .min), args := #[c1, c2], argTypes := tys }) (e1 : a.eval c1 = p) (e2 : a.eval c2 = q)
    (h : pMmx isMax [x, y] = some u) (hx : Rep ν X x p) (hy : Rep ν X y q) : Gives ν T.P X (execOp a.eval o) u := by
  unfold pMmx at h
  split at h
  · rename_i m n heq
    simp only [List.cons.injEq, and_true] at heq
    obtain ⟨rfl, rfl⟩ := heq
    have := hx.inv_v
    subst this
    have := hy.inv_v
    subst this
    cases h
    cases isMax
    · refine Gives.same (v := .int .i64 (if n < m then n else m)) (by simp [execOp, ho, e1, e2, resolve, invoke, builtin, Builtin.min_, Builtin.min2]) ?_
      have : (if (false = true) then max m n else min m n) = if n < m then n else m := by simp; split <;> omega
      rw [this]; exact .pure (.v _)
    · refine Gives.same (v := .int .i64 (if n > m then n else m)) (by simp [execOp, ho, e1, e2, resolve, invoke, builtin, Builtin.max_, Builtin.max2]) ?_
      have : (if (true = true) then max m n else min m n) = if n > m then n else m := by simp; split <;> omega
      rw [this]; exact .pure (.v _)
  · cases h

theorem s_idx {t e : TypeId} {len sz : Nat} {n : Option Nat} {x y u : AV} {p q : Value} {o : Oper} {a : Act} {c1 c2 : Operand} (ho : o.op = .index t c1 c2) (e1 : a.eval c1 = p) (e2 : a.eval c2 = q)
    (ht : T.P.underlying t = some (.array len e)) (hs : T.sizeOf e = some sz) (hn : T.shape e = some n) (h : pIdx len sz n [x, y] = some u) (hx : Rep ν X x p) (hy : Rep ν X y q) : Gives ν T.P X (execOp a.eval o) u := by
  obtain ⟨i, hi, hsz⟩ := size_spec hs
  unfold pIdx at h
  split at h
  · rename_i c j heq
    simp only [List.cons.injEq, and_true] at heq
    obtain ⟨rfl, rfl⟩ := heq
    have := hy.inv_v
    subst this
    obtain ⟨vs, rfl, hs1, hr⟩ := hx.inv_agg
    split at h
    · rename_i hj
      cases n with
      | none =>
        simp only at h
        obtain ⟨hi', hu⟩ := List.getElem?_eq_some_iff.1 h
        subst hu
        have hi2 : j.toNat * sz < vs.size := by omega
        refine Gives.same (v := vs.getD (j.toNat * sz) undef) ?_ (hr _ hi')
        simp [execOp, ho, e1, e2, Instr.index, asIntOf, run_underlying ht, hj.1, hj.2, run_size hi, hsz, part, shape_none hn, hi2]
      | some n =>
        simp only at h
        split at h
        · rename_i hle
          cases h
          obtain ⟨h1, h2⟩ := shape_some hn X.w
          refine Gives.same (v := .agg (vs.extract (j.toNat * sz) (j.toNat * sz + n))) ?_ (.agg _ (by simp; omega) (fun i hi => ?_))
          · have : (Go.sizeOf e).run T.P X.w = .ok sz X.w := by rw [run_size ‹_›, hsz]
            simp [execOp, ho, e1, e2, Instr.index, asIntOf, run_underlying ht, hj.1, hj.2, h2, part, h1]
            rw [h2] at this
            simp only [Result.ok.injEq, and_true] at this
            simp [this]
          · have hin : i < n := by simp at hi; omega
            have e2 : ((c.drop (j.toNat * sz)).take n)[i] = c[j.toNat * sz + i]'(by omega) := by simp
            rw [e2]
            have e3 : (vs.extract (j.toNat * sz) (j.toNat * sz + n)).getD i undef = vs.getD (j.toNat * sz + i) undef := by
              have h6 : j.toNat * sz + i < vs.size := by omega
              have h7 : i < (vs.extract (j.toNat * sz) (j.toNat * sz + n)).size := by simp; omega
              rw [Array.getD_eq_getD_getElem?, Array.getElem?_eq_getElem h7]; simp [h6]
            rw [e3]
            exact hr _ _
        · cases h
    · cases h
  · cases h
end
end Go.Av

/-
  The operations that build values: structs, slices by literals, boxes, function values, slices of slices.
-/
namespace Go.Av
set_option linter.unusedSectionVars false
set_option linter.unusedSimpArgs false
set_option linter.unusedVariables false
open Go.RowKit (Below)

/-- Values that hold no objects. -/
theorem frz_imm {ν : Nat → FuncId} {X : Cx} : ∀ (k : Nat) (x y : AV) (v : Value), frz hempty k x = some y → Rep ν X x v → RepP ν X.w (Imm X) y v := by
  intro k
  induction k with
  | zero =>
    intro x y v h hx
    cases x <;> simp [frz] at h <;> subst h <;> first | (obtain ⟨b, rfl⟩ := hx.inv_nil; exact .sl0 _ _) | (cases hx; assumption)
  | succ k ih =>
    intro x y v h hx
    have list : ∀ (c c' : List AV) (vs : Array Value), c.mapM (frz hempty k) = some c' → (∀ i (h : i < c.length), Rep ν X c[i] (vs.getD i undef)) → c'.length = c.length ∧ ∀ i (h : i < c'.length), RepP ν X.w (Imm X) c'[i] (vs.getD i undef) := by
      intro c c' vs hm hr
      obtain ⟨h1, h2⟩ := mapM_some hm
      exact ⟨h1, fun i hi => ih _ _ _ (h2 i (by omega) hi) (hr i (by omega))⟩
    cases x with
    | v x => simp [frz] at h; subst h; cases hx; assumption
    | nil => simp [frz] at h; subst h; obtain ⟨b, rfl⟩ := hx.inv_nil; exact .sl0 _ _
    | sl c n => simp [frz] at h; subst h; cases hx; assumption
    | ptr c n => simp [frz] at h; subst h; cases hx; assumption
    | ms o off n sz => simp [frz, hempty] at h
    | mp o off l => simp [frz, hempty] at h
    | mm o => simp [frz] at h
    | agg c =>
      simp only [frz] at h
      cases hm : c.mapM (frz hempty k) with
      | none => rw [hm] at h; cases h
      | some c' =>
        rw [hm] at h; cases h
        obtain ⟨vs, rfl, hs, hr⟩ := hx.inv_agg
        obtain ⟨h1, h2⟩ := list c c' vs hm hr
        exact .agg vs (by omega) h2
    | tup c =>
      simp only [frz] at h
      cases hm : c.mapM (frz hempty k) with
      | none => rw [hm] at h; cases h
      | some c' =>
        rw [hm] at h; cases h
        obtain ⟨vs, rfl, hs, hr⟩ := hx.inv_tup
        obtain ⟨h1, h2⟩ := list c c' vs hm hr
        exact .tup vs (by omega) h2
    | fn id c =>
      simp only [frz] at h
      cases hm : c.mapM (frz hempty k) with
      | none => rw [hm] at h; cases h
      | some c' =>
        rw [hm] at h; cases h
        obtain ⟨vs, rfl, hs, hr⟩ := hx.inv_fn
        obtain ⟨h1, h2⟩ := list c c' vs hm hr
        exact .fn vs (by omega) h2

/-- What is read of values and objects as they stand, with where it lies. -/
theorem frz_allS {ν : Nat → FuncId} {B : Nat} {X : Cx} (hO : Objs ν B X) {H : Hp} (hH : ∀ o c, H o = some c → X.H o = some c) : ∀ (k : Nat) (x y : AV) (v : Value), frz H k x = some y → Rep ν X x v → RepP ν X.w (fun b => b < X.w.heap.size ∧ X.S b) y v := by
  have up : ∀ {y : AV} {v : Value}, RepP ν X.w (Imm X) y v → RepP ν X.w (fun b => b < X.w.heap.size ∧ X.S b) y v := fun h => h.mono (fun b hb => hb.1) (fun _ _ => rfl)
  intro k
  induction k with
  | zero =>
    intro x y v h hx
    cases x <;> simp [frz] at h <;> subst h <;> first | (obtain ⟨b, rfl⟩ := hx.inv_nil; exact .sl0 _ _) | (cases hx; apply up; assumption)
  | succ k ih =>
    intro x y v h hx
    have list : ∀ (c c' : List AV) (vs : Array Value), c.mapM (frz H k) = some c' → (∀ i (h : i < c.length), Rep ν X c[i] (vs.getD i undef)) → c'.length = c.length ∧ ∀ i (h : i < c'.length), RepP ν X.w (fun b => b < X.w.heap.size ∧ X.S b) c'[i] (vs.getD i undef) := by
      intro c c' vs hm hr
      obtain ⟨h1, h2⟩ := mapM_some hm
      exact ⟨h1, fun i hi => ih _ _ _ (h2 i (by omega) hi) (hr i (by omega))⟩
    cases x with
    | v x => simp [frz] at h; subst h; cases hx; apply up; assumption
    | nil => simp [frz] at h; subst h; obtain ⟨b, rfl⟩ := hx.inv_nil; exact .sl0 _ _
    | sl c n => simp [frz] at h; subst h; cases hx; apply up; assumption
    | ptr c n => simp [frz] at h; subst h; cases hx; apply up; assumption
    | mm o => simp [frz] at h
    | ms o off n sz =>
      simp only [frz] at h
      cases hc : H o with
      | none => simp [hc] at h
      | some c =>
        simp only [hc] at h
        split at h
        · rename_i he
          cases hm : c.mapM (frz H k) with
          | none => rw [hm] at h; cases h
          | some c' =>
            rw [hm] at h; cases h
            obtain ⟨h1, h2, h3, h4⟩ := hx.inv_ms
            obtain ⟨cap, r, e, f, hp, hn, hblk, _⟩ := h4 c (hH _ _ hc) he
            obtain ⟨_, hB, r', e', hr', hl', hrep⟩ := hO.row (hH _ _ hc) ⟨r, e, f, hblk⟩
            obtain ⟨h5, h6⟩ := list c c' r' hm hrep
            subst hp
            refine .sl (fun i => r'.getD (off + i) undef) ⟨(Array.getElem?_eq_some_iff.1 hr').1, hO.new _ hB⟩ hn (fun i hi => ?_) (fun i hi => ?_)
            · have : off + i < r'.size := by simp at hi; omega
              rw [cell_of_row _ _ _ _ _ _ hr']
              simp [this]
            · have := h6 (off + i) (by simp at hi; omega)
              simpa using this
        · cases h
    | mp o off l =>
      simp only [frz] at h
      cases hc : H o with
      | none => simp [hc] at h
      | some c =>
        simp only [hc] at h
        split at h
        · rename_i he
          cases hm : c.mapM (frz H k) with
          | none => rw [hm] at h; cases h
          | some c' =>
            rw [hm] at h; cases h
            obtain ⟨h1, h2, h3, h4⟩ := hx.inv_mp
            obtain ⟨hp, hrow⟩ := h4 c (hH _ _ hc) he
            obtain ⟨_, hB, r', e', hr', hl', hrep⟩ := hO.row (hH _ _ hc) hrow
            obtain ⟨h5, h6⟩ := list c c' r' hm hrep
            subst hp
            have := RepP.ptr (ν := ν) (w := X.w) (S := fun b => b < X.w.heap.size ∧ X.S b) (cells := c') (off := off) (b := X.β o) (base := 0) (fun i => r'.getD i undef) ⟨(Array.getElem?_eq_some_iff.1 hr').1, hO.new _ hB⟩ (fun i hi => by
              have : i < r'.size := by omega
              rw [Nat.zero_add, cell_of_row _ _ _ _ _ _ hr']
              simp [this]) h6
            rwa [Nat.zero_add] at this
        · cases h
    | agg c =>
      simp only [frz] at h
      cases hm : c.mapM (frz H k) with
      | none => rw [hm] at h; cases h
      | some c' =>
        rw [hm] at h; cases h
        obtain ⟨vs, rfl, hs, hr⟩ := hx.inv_agg
        obtain ⟨h1, h2⟩ := list c c' vs hm hr
        exact .agg vs (by omega) h2
    | tup c =>
      simp only [frz] at h
      cases hm : c.mapM (frz H k) with
      | none => rw [hm] at h; cases h
      | some c' =>
        rw [hm] at h; cases h
        obtain ⟨vs, rfl, hs, hr⟩ := hx.inv_tup
        obtain ⟨h1, h2⟩ := list c c' vs hm hr
        exact .tup vs (by omega) h2
    | fn id c =>
      simp only [frz] at h
      cases hm : c.mapM (frz H k) with
      | none => rw [hm] at h; cases h
      | some c' =>
        rw [hm] at h; cases h
        obtain ⟨vs, rfl, hs, hr⟩ := hx.inv_fn
        obtain ⟨h1, h2⟩ := list c c' vs hm hr
        exact .fn vs (by omega) h2

/-- What is read of values and objects as they stand. -/
theorem frz_all {ν : Nat → FuncId} {B : Nat} {X : Cx} (hO : Objs ν B X) {H : Hp} (hH : ∀ o c, H o = some c → X.H o = some c) : ∀ (k : Nat) (x y : AV) (v : Value), frz H k x = some y → Rep ν X x v → RepP ν X.w (fun b => b < X.w.heap.size) y v := by
  have up : ∀ {y : AV} {v : Value}, RepP ν X.w (Imm X) y v → RepP ν X.w (fun b => b < X.w.heap.size) y v := fun h => h.mono (fun b hb => hb.1.1) (fun _ _ => rfl)
  intro k
  induction k with
  | zero =>
    intro x y v h hx
    cases x <;> simp [frz] at h <;> subst h <;> first | (obtain ⟨b, rfl⟩ := hx.inv_nil; exact .sl0 _ _) | (cases hx; apply up; assumption)
  | succ k ih =>
    intro x y v h hx
    have list : ∀ (c c' : List AV) (vs : Array Value), c.mapM (frz H k) = some c' → (∀ i (h : i < c.length), Rep ν X c[i] (vs.getD i undef)) → c'.length = c.length ∧ ∀ i (h : i < c'.length), RepP ν X.w (fun b => b < X.w.heap.size) c'[i] (vs.getD i undef) := by
      intro c c' vs hm hr
      obtain ⟨h1, h2⟩ := mapM_some hm
      exact ⟨h1, fun i hi => ih _ _ _ (h2 i (by omega) hi) (hr i (by omega))⟩
    cases x with
    | v x => simp [frz] at h; subst h; cases hx; apply up; assumption
    | nil => simp [frz] at h; subst h; obtain ⟨b, rfl⟩ := hx.inv_nil; exact .sl0 _ _
    | sl c n => simp [frz] at h; subst h; cases hx; apply up; assumption
    | ptr c n => simp [frz] at h; subst h; cases hx; apply up; assumption
    | ms o off n sz =>
      simp only [frz] at h
      cases hc : H o with
      | none => simp [hc] at h
      | some c =>
        simp only [hc] at h
        split at h
        · rename_i he
          cases hm : c.mapM (frz H k) with
          | none => rw [hm] at h; cases h
          | some c' =>
            rw [hm] at h; cases h
            obtain ⟨h1, h2, h3, h4⟩ := hx.inv_ms
            obtain ⟨cap, r, e, f, hp, hn, hblk, _⟩ := h4 c (hH _ _ hc) he
            obtain ⟨_, _, r', e', hr', hl', hrep⟩ := hO.row (hH _ _ hc) ⟨r, e, f, hblk⟩
            obtain ⟨h5, h6⟩ := list c c' r' hm hrep
            subst hp
            refine .sl (fun i => r'.getD (off + i) undef) (Array.getElem?_eq_some_iff.1 hr').1 hn (fun i hi => ?_) (fun i hi => ?_)
            · have : off + i < r'.size := by simp at hi; omega
              rw [cell_of_row _ _ _ _ _ _ hr']
              simp [this]
            · have := h6 (off + i) (by simp at hi; omega)
              simpa using this
        · cases h
    | mp o off l =>
      simp only [frz] at h
      cases hc : H o with
      | none => simp [hc] at h
      | some c =>
        simp only [hc] at h
        split at h
        · rename_i he
          cases hm : c.mapM (frz H k) with
          | none => rw [hm] at h; cases h
          | some c' =>
            rw [hm] at h; cases h
            obtain ⟨h1, h2, h3, h4⟩ := hx.inv_mp
            obtain ⟨hp, hrow⟩ := h4 c (hH _ _ hc) he
            obtain ⟨_, _, r', e', hr', hl', hrep⟩ := hO.row (hH _ _ hc) hrow
            obtain ⟨h5, h6⟩ := list c c' r' hm hrep
            subst hp
            have := RepP.ptr (ν := ν) (w := X.w) (S := fun b => b < X.w.heap.size) (cells := c') (off := off) (b := X.β o) (base := 0) (fun i => r'.getD i undef) (Array.getElem?_eq_some_iff.1 hr').1 (fun i hi => by
              have : i < r'.size := by omega
              rw [Nat.zero_add, cell_of_row _ _ _ _ _ _ hr']
              simp [this]) h6
            rwa [Nat.zero_add] at this
        · cases h
    | mm o => simp [frz] at h
    | agg c =>
      simp only [frz] at h
      cases hm : c.mapM (frz H k) with
      | none => rw [hm] at h; cases h
      | some c' =>
        rw [hm] at h; cases h
        obtain ⟨vs, rfl, hs, hr⟩ := hx.inv_agg
        obtain ⟨h1, h2⟩ := list c c' vs hm hr
        exact .agg vs (by omega) h2
    | tup c =>
      simp only [frz] at h
      cases hm : c.mapM (frz H k) with
      | none => rw [hm] at h; cases h
      | some c' =>
        rw [hm] at h; cases h
        obtain ⟨vs, rfl, hs, hr⟩ := hx.inv_tup
        obtain ⟨h1, h2⟩ := list c c' vs hm hr
        exact .tup vs (by omega) h2
    | fn id c =>
      simp only [frz] at h
      cases hm : c.mapM (frz H k) with
      | none => rw [hm] at h; cases h
      | some c' =>
        rw [hm] at h; cases h
        obtain ⟨vs, rfl, hs, hr⟩ := hx.inv_fn
        obtain ⟨h1, h2⟩ := list c c' vs hm hr
        exact .fn vs (by omega) h2

/-- The model's laying of one part's cells. -/
theorem fold_set (off : Nat) : ∀ (l : List (Value)) (k : Nat) (cs : Array Value), let r := (l.zipIdx k).foldl (fun cs p => cs.setIfInBounds (off + p.2) p.1) cs
    r.size = cs.size ∧ ∀ j, off + k + l.length ≤ cs.size → r.getD j undef = if off + k ≤ j ∧ j < off + k + l.length then l.getD (j - (off + k)) undef else cs.getD j undef
  | [], k, cs => by
    refine ⟨rfl, fun j _ => ?_⟩
    simp only [List.zipIdx_nil, List.foldl_nil, List.length_nil, Nat.add_zero]
    rw [if_neg (by omega)]
  | x :: l, k, cs => by
    obtain ⟨h1, h2⟩ := fold_set off l (k + 1) (cs.setIfInBounds (off + k) x)
    simp only [List.zipIdx_cons, List.foldl_cons]
    refine ⟨by rw [h1]; simp, fun j hj => ?_⟩
    have h3 := h2 j (by simp only [Array.size_setIfInBounds, List.length_cons] at *; omega)
    rw [h3]
    simp only [List.length_cons]
    by_cases e : j = off + k
    · subst e
      have hlt : off + k < cs.size := by simp only [List.length_cons] at hj; omega
      rw [if_neg (by omega), if_pos (by omega)]
      simp [hlt]
    · by_cases c : off + k ≤ j ∧ j < off + k + (l.length + 1)
      · rw [if_pos (by omega), if_pos c]
        rw [show j - (off + k) = (j - (off + (k + 1))) + 1 from by omega]
        simp
      · rw [if_neg (by omega), if_neg c]
        simp only [Array.getD_eq_getD_getElem?]
        rw [Array.getElem?_setIfInBounds_ne (by omega)]

theorem fill_lay {ν : Nat → FuncId} {X : Cx} {place : Nat → Option (Nat × Nat)} : ∀ (ps : List (Nat × Nat)) (xs : List AV) (idx : List Nat) (vals : List Value) (zs : List AV) (cs : Array Value) (out : List AV),
    lay zs ps xs = some out → idx.length = xs.length → vals.length = xs.length → (∀ i (h : i < idx.length) (h' : i < ps.length), place idx[i] = some ps[i]) →
    (∀ i (h : i < xs.length) (h' : i < vals.length), Rep ν X xs[i] vals[i]) → cs.size = zs.length → (∀ i (h : i < zs.length), Rep ν X zs[i] (cs.getD i undef)) →
    ∃ cs', Instr.fill place cs (idx.zip vals) = some cs' ∧ cs'.size = out.length ∧ out.length = zs.length ∧ ∀ i (h : i < out.length), Rep ν X out[i] (cs'.getD i undef)
  | [], [], idx, vals, zs, cs, out, h, h1, h2, _, _, hs, hr => by
    simp [lay] at h; subst h
    have : idx = [] := by simpa using h1
    subst this
    exact ⟨cs, rfl, hs, rfl, hr⟩
  | (off, size) :: ps, x :: xs, [], vals, zs, cs, out, h, h1, _, _, _, _, _ => by simp at h1
  | (off, size) :: ps, x :: xs, i :: idx, [], zs, cs, out, h, _, h2, _, _, _, _ => by simp at h2
  | (off, size) :: ps, x :: xs, i :: idx, v :: vals, zs, cs, out, h, h1, h2, hp, hx, hs, hr => by
    simp only [lay] at h
    split at h
    · rename_i hc
      obtain ⟨hc1, hc2, hone⟩ := hc
      have hv := (hx 0 (by simp) (by simp)).cells hone
      simp only [List.getElem_cons_zero] at hv
      have hp0 := hp 0 (by simp) (by simp)
      simp only [List.getElem_cons_zero] at hp0
      have hf := fold_set off v.cells.toList 0 cs
      simp only at hf
      obtain ⟨hf1, hf2⟩ := hf
      have hz : (v.cells.zipIdx.foldl (fun cs (p : Value × Nat) => cs.setIfInBounds (off + p.2) p.1) cs) = ((v.cells.toList.zipIdx 0).foldl (fun cs p => cs.setIfInBounds (off + p.2) p.1) cs) := by
        rw [← Array.foldl_toList, Array.toList_zipIdx]
      obtain ⟨cs', g1, g2, g3, g4⟩ := fill_lay ps xs idx vals (zs.take off ++ x.cells ++ zs.drop (off + size)) ((v.cells.toList.zipIdx 0).foldl (fun cs p => cs.setIfInBounds (off + p.2) p.1) cs) out h (by simpa using h1) (by simpa using h2)
        (fun j h h' => hp (j + 1) (by simpa using h) (by simpa using h')) (fun j h h' => hx (j + 1) (by simpa using h) (by simpa using h'))
        (by rw [hf1]; simp; omega) (fun j hj => by
          have hlen : (zs.take off).length = off := by simp; omega
          rw [hf2 j (by simp; omega)]
          simp only [Nat.add_zero, Array.length_toList]
          by_cases c1 : j < off
          · rw [if_neg (by omega)]
            have e1 : (zs.take off ++ x.cells ++ zs.drop (off + size))[j] = zs[j]'(by omega) := by
              rw [List.getElem_append_left (by simp; omega), List.getElem_append_left (by omega)]; simp
            rw [e1]; exact hr j (by omega)
          · by_cases c2 : j < off + size
            · rw [if_pos (by omega)]
              have e1 : (zs.take off ++ x.cells ++ zs.drop (off + size))[j] = x.cells[j - off]'(by omega) := by
                rw [List.getElem_append_left (by simp; omega), List.getElem_append_right (by omega)]; simp [hlen]
              rw [e1]
              have := hv.2 (j - off) (by omega)
              simpa using this
            · rw [if_neg (by omega)]
              have hj' : j < zs.length := by simp at hj; omega
              have e1 : (zs.take off ++ x.cells ++ zs.drop (off + size))[j] = zs[j]'hj' := by
                rw [List.getElem_append_right (by simp; omega)]
                simp only [List.getElem_drop, List.length_append, hlen]
                congr 1; omega
              rw [e1]; exact hr j hj')
      refine ⟨cs', ?_, g2, ?_, g4⟩
      · simp only [List.zip_cons_cons, Instr.fill, hp0]
        rw [if_neg (by simp; omega), hz]
        exact g1
      · rw [g3]; simp; omega
    · cases h
  | [], _ :: _, _, _, _, _, _, h, _, _, _, _, _, _ => by simp [lay] at h
  | _ :: _, [], _, _, _, _, _, h, _, _, _, _, _, _ => by simp [lay] at h


section
variable {T : Tr} {ν : Nat → FuncId} {X : Cx}

theorem zero_spec {t : TypeId} {z : List AV} (h : T.zero t = some z) : ∃ i zv a, T.P.info? t = some i ∧ i.zero = some zv ∧ avOf zv = some a ∧ a.cells = z ∧ z.length = i.size ∧ z.all AV.one = true := by
  unfold Tr.zero at h
  split at h
  · rename_i i hi
    split at h
    · rename_i zv hz
      cases ha : avOf zv with
      | none => rw [ha] at h; cases h
      | some a =>
        rw [ha] at h
        simp only [Option.bind_some] at h
        split at h
        · rename_i hc
          cases h
          exact ⟨i, zv, a, hi, hz, ha, rfl, hc.1, hc.2⟩
        · cases h
    · cases h
  · cases h

theorem run_zero {t : TypeId} {i : TypeInfo} {zv : Value} (hi : T.P.info? t = some i) (hz : i.zero = some zv) (w : World) : (zeroValue t).run T.P w = .ok zv w := by
  simp [zeroValue, typeInfo, hi, hz]

theorem run_places (P : Program) (w : World) : ∀ (l : List Field), (∀ f ∈ l, ∃ i, P.info? f.type = some i) →
    (l.mapM (m := Sem) fun f => do let s ← Go.sizeOf f.type; pure (f.offset, s)).run P w = .ok (l.map fun f => (f.offset, ((P.info? f.type).map (·.size)).getD 0)) w
  | [], _ => by simp
  | f :: l, h => by
    obtain ⟨i, hi⟩ := h f (by simp)
    have ih := run_places P w l (fun g hg => h g (by simp [hg]))
    simp only [List.mapM_cons, Sem.run_bind, run_size hi, Result.andThen_ok, Sem.run_pure, ih, List.map_cons, hi, Option.map_some, Option.getD_some]

theorem s_mka {t : TypeId} {fields : Array Field} {z : List AV} {parts : Array (Nat × Operand)} {ps : List (Nat × Nat)} {xs : List AV} {u : AV} {o : Oper} {a : Act} (ho : o.op = .build t parts)
    (ht : T.P.underlying t = some (.struct fields)) (hz : T.zero t = some z) (hps : (parts.toList.mapM fun p => (fields[p.1]?).bind fun fl => (T.sizeOf fl.type).map fun n => (fl.offset, n)) = some ps)
    (hall : fields.toList.all (fun fl => (T.sizeOf fl.type).isSome) = true) (hlen : xs.length = parts.size) (hx : ∀ i (h : i < xs.length) (h' : i < parts.size), Rep ν X xs[i] (a.eval parts[i].2))
    (h : pMka z ps xs = some u) : Gives ν T.P X (execOp a.eval o) u := by
  obtain ⟨i, zv, za, hi, hz', hza, hzc, hzl, hz1⟩ := zero_spec hz
  unfold pMka at h
  cases hl : lay z ps xs with
  | none => rw [hl] at h; cases h
  | some out =>
    rw [hl] at h
    cases h
    have hzr : Rep ν X za zv := .pure (avOf_rep hza)
    have hzcell := hzr.cells (by rw [hzc]; exact hz1)
    rw [hzc] at hzcell
    obtain ⟨hp1, hp2⟩ := mapM_some hps
    have hplaces := run_places T.P X.w fields.toList (fun f hf => by
      have := List.all_eq_true.1 hall f hf
      unfold Tr.sizeOf at this
      cases hq : T.P.info? f.type with
      | none => simp [hq] at this
      | some i => exact ⟨i, rfl⟩)
    have hrunp : (fields.mapM (m := Sem) fun f => do let s ← Go.sizeOf f.type; pure (f.offset, s)).run T.P X.w = .ok (fields.map fun f => (f.offset, ((T.P.info? f.type).map (·.size)).getD 0)) X.w := by
      rw [Array.mapM_eq_mapM_toList, Sem.run_map, hplaces]
      simp only [Result.andThen_ok]
      congr 1
      apply Array.ext'
      simp
    obtain ⟨cs', g1, g2, g3, g4⟩ := fill_lay (ν := ν) (X := X) (place := fun k => (fields.map fun f => (f.offset, ((T.P.info? f.type).map (·.size)).getD 0))[k]?) ps xs (parts.toList.map (·.1)) (parts.toList.map fun p => a.eval p.2) z zv.cells out hl
      (by simp [hlen]) (by simp [hlen]) (fun j h h' => by
        have hj : j < parts.toList.length := by simpa using h
        have := hp2 j hj h'
        simp only [List.getElem_map]
        cases hf : fields[(parts.toList[j]).1]? with
        | none => rw [hf] at this; cases this
        | some fl =>
          rw [hf] at this
          simp only [Option.bind_some] at this
          cases hs : T.sizeOf fl.type with
          | none => rw [hs] at this; cases this
          | some n =>
            rw [hs] at this
            simp only [Option.map_some, Option.some.injEq] at this
            obtain ⟨i, hi, hn⟩ := size_spec hs
            rw [Array.getElem?_map, hf, ← this]
            simp [hi, hn]) (fun j h h' => by
        have := hx j h (by omega)
        simpa using this) hzcell.1 hzcell.2
    refine Gives.same (v := .agg cs') ?_ (.agg cs' g2 g4)
    have hzip : (parts.toList.map (·.1)).zip (parts.toList.map fun p => a.eval p.2) = (parts.map fun (p : Nat × Operand) => (p.1, a.eval p.2)).toList := by
      rw [Array.toList_map, List.zip_map']
    rw [hzip] at g1
    simp only [execOp, ho, Instr.build, Sem.run_bind, run_zero hi hz', Result.andThen_ok, run_underlying ht, hrunp, g1, Sem.run_pure]

theorem s_mkarr {t e : TypeId} {len sz : Nat} {z : List AV} {parts : Array (Nat × Operand)} {xs : List AV} {u : AV} {o : Oper} {a : Act} (ho : o.op = .build t parts)
    (ht : T.P.underlying t = some (.array len e)) (hz : T.zero t = some z) (hs : T.sizeOf e = some sz) (hlen : xs.length = parts.size) (hx : ∀ i (h : i < xs.length) (h' : i < parts.size), Rep ν X xs[i] (a.eval parts[i].2))
    (h : pMka z (parts.toList.map fun p => (p.1 * sz, sz)) xs = some u) : Gives ν T.P X (execOp a.eval o) u := by
  obtain ⟨i, zv, za, hi, hz', hza, hzc, hzl, hz1⟩ := zero_spec hz
  obtain ⟨i2, hi2, hsz⟩ := size_spec hs
  unfold pMka at h
  cases hl : lay z (parts.toList.map fun p => (p.1 * sz, sz)) xs with
  | none => rw [hl] at h; cases h
  | some out =>
    rw [hl] at h
    cases h
    have hzr : Rep ν X za zv := .pure (avOf_rep hza)
    have hzcell := hzr.cells (by rw [hzc]; exact hz1)
    rw [hzc] at hzcell
    obtain ⟨cs', g1, g2, g3, g4⟩ := fill_lay (ν := ν) (X := X) (place := fun i => some (i * sz, sz)) (parts.toList.map fun p => (p.1 * sz, sz)) xs (parts.toList.map (·.1)) (parts.toList.map fun p => a.eval p.2) z zv.cells out hl
      (by simp [hlen]) (by simp [hlen]) (fun j h h' => by simp) (fun j h h' => by
        have := hx j h (by omega)
        simpa using this) hzcell.1 hzcell.2
    refine Gives.same (v := .agg cs') ?_ (.agg cs' g2 g4)
    have hzip : (parts.toList.map (·.1)).zip (parts.toList.map fun p => a.eval p.2) = (parts.map fun (p : Nat × Operand) => (p.1, a.eval p.2)).toList := by
      rw [Array.toList_map, List.zip_map']
    rw [hzip] at g1
    simp only [execOp, ho, Instr.build, Sem.run_bind, run_zero hi hz', Result.andThen_ok, run_underlying ht, run_size hi2, hsz, g1, Sem.run_pure]

theorem s_box {t : TypeId} {x u : AV} {p : Value} {o : Oper} {a : Act} {c1 : Operand} (ho : o.op = .box t c1) (e1 : a.eval c1 = p) (h : pBox [x] = some u) (hx : Rep ν X x p) {B : Nat} (hO : Objs ν B X) : Gives ν T.P X (execOp a.eval o) u := by
  simp only [pBox] at h
  · split at h
    · rename_i cs hcs
      split at h
      · rename_i h1
        cases h
        obtain ⟨hc1, hc2⟩ := hx.cells h1
        obtain ⟨hm1, hm2⟩ := mapM_some hcs
        refine ⟨.pointer (some ⟨X.w.heap.size, 0, none⟩), X.w.alloc (.cells p.cells t), ?_, .inr ⟨_, rfl⟩, ?_⟩
        · simp [execOp, ho, e1, Instr.box, newVar, newRow]
        · have hS : Imm { X with w := X.w.alloc (.cells p.cells t) } X.w.heap.size := ⟨⟨by show X.w.heap.size < (X.w.heap.push _).size; simp, hO.new _ hO.le⟩, fun k c hk => by have := hO.lt k c hk; show X.β k ≠ _; omega⟩
          have := RepP.ptr (ν := ν) (w := X.w.alloc (.cells p.cells t)) (S := Imm { X with w := X.w.alloc (.cells p.cells t) }) (cells := cs) (off := 0) (b := X.w.heap.size) (base := 0) (fun i => p.cells.getD i undef) hS (fun i hi => by
            rw [Nat.zero_add, cell_of_row _ _ _ _ _ _ (heap_alloc_new _ _)]
            have : i < p.cells.size := by omega
            simp [this]) (fun i hi => (frz_imm _ _ _ _ (hm2 i (by omega) hi) (hc2 i (by omega))).mono (Ext.alloc X _ hO.lt).imm (Ext.alloc X _ hO.lt).same)
          exact .pure this
      · cases h
    · cases h

theorem s_mkf {f : FuncId} {id : Nat} {captured : Array Operand} {xs : List AV} {u : AV} {o : Oper} {a : Act} (ho : o.op = .makeFunc (.func f) #[] captured) (hf : ν id = f)
    (hlen : xs.length = captured.size) (hx : ∀ i (h : i < xs.length) (h' : i < captured.size), Rep ν X xs[i] (a.eval captured[i])) (h : pMkf id xs = some u) : Gives ν T.P X (execOp a.eval o) u := by
  unfold pMkf at h
  cases h
  subst hf
  refine Gives.same (v := .func (.func (ν id)) #[] (captured.map a.eval)) (by simp [execOp, ho, Instr.makeFunc]) (.fn _ (by simp [hlen]) (fun i hi => ?_))
  have := hx i hi (by omega)
  have h2 : i < captured.size := by omega
  simpa [h2] using this
end
end Go.Av

/-
  Slices by literals, slices of slices, and all the value operations in one.
-/
namespace Go.Av
set_option linter.unusedSectionVars false
set_option linter.unusedSimpArgs false
set_option linter.unusedVariables false
open Go.RowKit (Below)

theorem flat_len {α : Type} (z : List α) : ∀ n, ((List.replicate n z).flatten).length = n * z.length
  | 0 => by simp
  | n + 1 => by simp [List.replicate_succ, flat_len z n, Nat.succ_mul, Nat.add_comm]

theorem flat_get {α : Type} (z : List α) : ∀ (n j : Nat) (h : j < ((List.replicate n z).flatten).length) (h' : j % z.length < z.length), ((List.replicate n z).flatten)[j] = z[j % z.length]
  | 0, j, h, _ => by simp at h
  | n + 1, j, h, h' => by
    have e : (List.replicate (n + 1) z).flatten = z ++ (List.replicate n z).flatten := by simp [List.replicate_succ]
    have hj : j < (z ++ (List.replicate n z).flatten).length := by rw [← e]; exact h
    have : ((List.replicate (n + 1) z).flatten)[j] = (z ++ (List.replicate n z).flatten)[j] := by simp only [e]
    rw [this]
    by_cases c : j < z.length
    · rw [List.getElem_append_left c]
      congr 1
      exact (Nat.mod_eq_of_lt c).symm
    · rw [List.getElem_append_right (by omega)]
      have em : (j - z.length) % z.length = j % z.length := (Nat.mod_eq_sub_mod (by omega)).symm
      have hlt : j - z.length < ((List.replicate n z).flatten).length := by simp only [List.length_append] at hj; omega
      rw [flat_get z n (j - z.length) hlt (by rw [em]; exact h')]
      congr 1

section
variable {T : Tr} {ν : Nat → FuncId} {X : Cx}

theorem s_msl {t e : TypeId} {sz len : Nat} {z : List AV} {parts : Array (Nat × Operand)} {xs : List AV} {u : AV} {o : Oper} {a : Act} (ho : o.op = .buildSlice t len parts)
    (ht : T.elem t = some e) (hs : T.sizeOf e = some sz) (hz : T.zero e = some z) (hb : len * sz ≤ 256) (hs0 : 0 < sz) (hp0 : len = 0 → parts.size = 0)
    (hlen : xs.length = parts.size) (hx : ∀ i (h : i < xs.length) (h' : i < parts.size), Rep ν X xs[i] (a.eval parts[i].2)) {B : Nat} (hO : Objs ν B X)
    (h : pMsl len ((List.replicate len z).flatten) (parts.toList.map fun p => (p.1 * sz, sz)) xs = some u) : Gives ν T.P X (execOp a.eval o) u := by
  obtain ⟨i, zv, za, hi, hz', hza, hzc, hzl, hz1⟩ := zero_spec hz
  obtain ⟨i', hi', hsz⟩ := size_spec hs
  rw [hi] at hi'
  cases hi'
  have hu := elem_spec ht
  have hzr : Rep ν X za zv := .pure (avOf_rep hza)
  have hzcell := hzr.cells (by rw [hzc]; exact hz1)
  rw [hzc] at hzcell
  cases len with
  | zero =>
    simp only [pMsl] at h
    cases h
    have hpe : parts = #[] := Array.eq_empty_of_size_eq_zero (hp0 rfl)
    subst hpe
    refine ⟨.slice (some ⟨X.w.heap.size, 0, none⟩) 0 0, X.w.alloc (.cells #[] e), ?_, .inr ⟨_, rfl⟩, .pure (.nil _)⟩
    simp [execOp, ho, Instr.buildSlice, run_underlying hu, run_size hi, Instr.fill, newRow]
    congr 2
    apply Array.eq_empty_of_size_eq_zero
    simp
  | succ len =>
    simp only [pMsl] at h
    cases hl : lay ((List.replicate (len + 1) z).flatten) (parts.toList.map fun p => (p.1 * sz, sz)) xs with
    | none => rw [hl] at h; cases h
    | some out =>
      rw [hl] at h
      simp only at h
      cases hf : frzL hempty out with
      | none => rw [hf] at h; cases h
      | some out' =>
        rw [hf] at h
        cases h
        obtain ⟨hm1, hm2⟩ := mapM_some hf
        obtain ⟨cs', g1, g2, g3, g4⟩ := fill_lay (ν := ν) (X := X) (place := fun i => some (i * sz, sz)) (parts.toList.map fun p => (p.1 * sz, sz)) xs (parts.toList.map (·.1)) (parts.toList.map fun p => a.eval p.2) ((List.replicate (len + 1) z).flatten)
          ((Array.range ((len + 1) * sz)).map (zv.cells[· % zv.cells.size]!)) out hl (by simp [hlen]) (by simp [hlen]) (fun j h h' => by simp) (fun j h h' => by
            have := hx j h (by omega)
            simpa using this) (by rw [flat_len, hzl, hsz]; simp) (fun j hj => by
            have hj' : j < (len + 1) * sz := by rw [flat_len, hzl, hsz] at hj; exact hj
            have hzs : z.length = sz := by omega
            have hmod : j % z.length < z.length := Nat.mod_lt _ (by omega)
            rw [flat_get z (len + 1) j hj hmod]
            have := hzcell.2 (j % z.length) hmod
            have e1 : zv.cells.size = z.length := hzcell.1
            have e2 : ((Array.range ((len + 1) * sz)).map (zv.cells[· % zv.cells.size]!)).getD j undef = zv.cells.getD (j % z.length) undef := by
              have hm' : j % z.length < zv.cells.size := by omega
              have e3 : zv.cells[j % z.length]! = zv.cells[j % z.length]'hm' := getElem!_pos zv.cells (j % z.length) hm'
              have e4 : zv.cells[j % z.length]? = some (zv.cells[j % z.length]'hm') := Array.getElem?_eq_getElem hm'
              simp [hj', e1, e3, e4]
            rw [e2]
            exact this)
        have hzip : (parts.toList.map (·.1)).zip (parts.toList.map fun p => a.eval p.2) = (parts.map fun (p : Nat × Operand) => (p.1, a.eval p.2)).toList := by
          rw [Array.toList_map, List.zip_map']
        rw [hzip] at g1
        refine ⟨.slice (some ⟨X.w.heap.size, 0, none⟩) (len + 1) (len + 1), X.w.alloc (.cells cs' e), ?_, .inr ⟨_, rfl⟩, ?_⟩
        · have hne : (len + 1) * sz ≠ 0 := by
            intro hh
            rcases Nat.mul_eq_zero.1 hh with hh | hh <;> omega
          have hle : ¬ ((len + 1) * sz > 2 ^ 24) := by omega
          simp only [execOp, ho, Instr.buildSlice, Sem.run_bind, run_underlying hu, Result.andThen_ok, run_size hi, hsz, hle, if_false, hne, run_zero hi hz', Sem.run_pure, g1, newRow, run_newObj]
          rfl
        · have hS : Imm { X with w := X.w.alloc (.cells cs' e) } X.w.heap.size := ⟨⟨by show X.w.heap.size < (X.w.heap.push _).size; simp, hO.new _ hO.le⟩, fun k c hk => by have := hO.lt k c hk; show X.β k ≠ _; omega⟩
          have := RepP.sl (ν := ν) (w := X.w.alloc (.cells cs' e)) (S := Imm { X with w := X.w.alloc (.cells cs' e) }) (cells := out') (n := len + 1) (off := 0) (b := X.w.heap.size) (cap := len + 1) (fun i => cs'.getD i undef) hS (Nat.le_refl _) (fun i hi => by
            rw [Nat.zero_add, cell_of_row _ _ _ _ _ _ (heap_alloc_new _ _)]
            have : i < cs'.size := by omega
            simp [this]) (fun i hi => (frz_imm _ _ _ _ (hm2 i (by omega) hi) (g4 i (by omega))).mono (Ext.alloc X _ hO.lt).imm (Ext.alloc X _ hO.lt).same)
          exact .pure this

theorem run_bound {P : Program} {w : World} {k : IntKind} {i : Int} {y : Nat} {code : BoundsCode} (h0 : 0 ≤ i) (h1 : i ≤ y) : (Instr.sliceBound (.int k i) y code).run P w = .ok i.toNat w := by
  simp [Instr.sliceBound, asIntOf, h0, h1]

theorem s_ssl {t : TypeId} {x : AV} {r : List AV} {u : AV} {o : Oper} {a : Act} {c1 : Operand} {lo hi : Option Operand} (ho : o.op = .slice t c1 lo hi none) (ht : T.P.underlying t = some .string)
    (hx : Rep ν X x (a.eval c1)) (hlen : r.length = (lo.toList ++ hi.toList).length) (hr : ∀ i (h : i < r.length) (h' : i < (lo.toList ++ hi.toList).length), Rep ν X r[i] (a.eval (lo.toList ++ hi.toList)[i]))
    (h : pSsl lo.isSome hi.isSome (x :: r) = some u) : Gives ν T.P X (execOp a.eval o) u := by
  have hint : ∀ (y : AV) (n : Int) (q : Value), asI y = some n → Rep ν X y q → ∃ k, q = .int k n := by
    intro y n q hy hq
    unfold asI at hy
    split at hy
    · cases hy; exact ⟨_, hq.inv_v⟩
    · cases hy
  unfold pSsl at h
  split at h
  · rename_i s r' heq
    simp only [List.cons.injEq] at heq
    obtain ⟨rfl, rfl⟩ := heq
    have hv := hx.inv_v
    split at h
    · rename_i l m hl hm
      split at h
      · rename_i hc
        cases h
        obtain ⟨c1', c2', c3'⟩ := hc
        have getlo : (∀ c, lo = some c → ∃ k, a.eval c = .int k l) ∧ (lo = none → l = 0) := by
          cases lo with
          | none => simp at hl; exact ⟨fun c hc => (by cases hc), fun _ => hl.symm⟩
          | some c =>
            simp only [Option.isSome_some, if_true] at hl
            cases r with
            | nil => simp at hl
            | cons y ys =>
              simp only [List.getElem?_cons_zero, Option.bind_some] at hl
              have := hr 0 (by simp) (by simp)
              simp at this
              exact ⟨fun c' hc => by cases hc; exact hint _ _ _ hl this, fun hc => by cases hc⟩
        have gethi : (∀ c, hi = some c → ∃ k, a.eval c = .int k m) ∧ (hi = none → m = s.size) := by
          cases hi with
          | none => simp at hm; exact ⟨fun c hc => (by cases hc), fun _ => hm.symm⟩
          | some d =>
            simp only [Option.isSome_some, if_true] at hm
            cases lo with
            | none =>
              cases r with
              | nil => simp at hm
              | cons y ys =>
                simp only [Option.isSome_none, Bool.false_eq_true, if_false, List.getElem?_cons_zero, Option.bind_some] at hm
                have := hr 0 (by simp) (by simp)
                simp at this
                exact ⟨fun c' hc => by cases hc; exact hint _ _ _ hm this, fun hc => by cases hc⟩
            | some c =>
              cases r with
              | nil => simp at hm
              | cons y ys =>
                cases ys with
                | nil => simp at hm
                | cons z zs =>
                  simp at hm
                  have := hr 1 (by simp) (by simp)
                  simp at this
                  exact ⟨fun c' hc => by cases hc; exact hint _ _ _ hm this, fun hc => by cases hc⟩
        obtain ⟨l', rfl⟩ := Int.eq_ofNat_of_zero_le c1'
        obtain ⟨m', rfl⟩ := Int.eq_ofNat_of_zero_le (Int.le_trans c1' c2')
        clear hr hlen hl hm hint
        refine Gives.same (v := .string (s.extract l' m')) ?_ (.pure (.v _))
        have B1 : ∀ c, lo = some c → ∀ code, (Instr.sliceBound (a.eval c) m' code).run T.P X.w = .ok l' X.w := by
          intro c hc code
          obtain ⟨k, hk⟩ := getlo.1 c hc
          rw [hk]
          have := run_bound (P := T.P) (w := X.w) (k := k) (i := (l' : Int)) (y := m') (code := code) (by omega) (by omega)
          simpa using this
        have B2 : ∀ c, hi = some c → ∀ code, (Instr.sliceBound (a.eval c) s.size code).run T.P X.w = .ok m' X.w := by
          intro c hc code
          obtain ⟨k, hk⟩ := gethi.1 c hc
          rw [hk]
          have := run_bound (P := T.P) (w := X.w) (k := k) (i := (m' : Int)) (y := s.size) (code := code) (by omega) (by omega)
          simpa using this
        cases lo with
        | none =>
          have h0 := getlo.2 rfl
          have h0 : l' = 0 := by omega
          subst h0
          cases hi with
          | none =>
            have h1 := gethi.2 rfl
            have h1 : m' = s.size := by omega
            subst h1
            simp [execOp, ho, Instr.sliceAt, run_underlying ht, Instr.slice, hv, Instr.sliceBounds]
          | some d => simp [execOp, ho, Instr.sliceAt, run_underlying ht, Instr.slice, hv, Instr.sliceBounds, B2 d rfl]
        | some c =>
          cases hi with
          | none =>
            have h1 := gethi.2 rfl
            have h1 : m' = s.size := by omega
            subst h1
            simp [execOp, ho, Instr.sliceAt, run_underlying ht, Instr.slice, hv, Instr.sliceBounds, B1 c rfl]
          | some d => simp [execOp, ho, Instr.sliceAt, run_underlying ht, Instr.slice, hv, Instr.sliceBounds, B1 c rfl, B2 d rfl]
      · cases h
    · cases h
  · cases h
theorem s_slc {t e : TypeId} {sz : Nat} {x : AV} {r : List AV} {u : AV} {o : Oper} {a : Act} {c1 : Operand} {lo hi : Option Operand} (ho : o.op = .slice t c1 lo hi none) (ht : T.elem t = some e) (hs : T.sizeOf e = some sz)
    (hx : Rep ν X x (a.eval c1)) (hlen : r.length = (lo.toList ++ hi.toList).length) (hr : ∀ i (h : i < r.length) (h' : i < (lo.toList ++ hi.toList).length), Rep ν X r[i] (a.eval (lo.toList ++ hi.toList)[i]))
    (h : pSlc lo.isSome hi.isSome sz (x :: r) = some u) : Gives ν T.P X (execOp a.eval o) u := by
  obtain ⟨i, hi', hsz⟩ := size_spec hs
  have hu := elem_spec ht
  -- the two bounds as numbers
  have hint : ∀ (y : AV) (n : Int) (q : Value), asI y = some n → Rep ν X y q → ∃ k, q = .int k n := by
    intro y n q hy hq
    unfold asI at hy
    split at hy
    · cases hy; exact ⟨_, hq.inv_v⟩
    · cases hy
  have run1 : ∀ (ad : Option Addr) (n cap l h : Nat), a.eval c1 = .slice ad n cap → n ≤ cap → l ≤ h → h ≤ n → (∀ c, lo = some c → ∃ k, a.eval c = .int k l) → (lo = none → l = 0) → (∀ c, hi = some c → ∃ k, a.eval c = .int k h) → (hi = none → h = n) →
      (execOp a.eval o).run T.P X.w = .ok (.value (.slice (if cap = l then ad else ad.map (·.add (l * sz))) (h - l) (cap - l))) X.w := by
    intro ad n cap l m hv hnc hlh hhn hlo1 hlo2 hhi1 hhi2
    clear h hr hlen
    have B1 : ∀ c, lo = some c → ∀ code, (Instr.sliceBound (a.eval c) m code).run T.P X.w = .ok l X.w := by
      intro c hc code
      obtain ⟨k, hk⟩ := hlo1 c hc
      rw [hk]
      exact run_bound (by omega) (by omega)
    have B2 : ∀ c, hi = some c → ∀ code, (Instr.sliceBound (a.eval c) cap code).run T.P X.w = .ok m X.w := by
      intro c hc code
      obtain ⟨k, hk⟩ := hhi1 c hc
      rw [hk]
      exact run_bound (by omega) (by omega)
    cases lo with
    | none =>
      obtain rfl := hlo2 rfl
      cases hi with
      | none =>
        obtain rfl := hhi2 rfl
        simp [execOp, ho, Instr.sliceAt, run_underlying hu, Instr.slice, hv, Instr.sliceBounds, run_size hi', hsz]
      | some d => simp [execOp, ho, Instr.sliceAt, run_underlying hu, Instr.slice, hv, Instr.sliceBounds, run_size hi', hsz, B2 d rfl]
    | some c =>
      cases hi with
      | none =>
        obtain rfl := hhi2 rfl
        simp [execOp, ho, Instr.sliceAt, run_underlying hu, Instr.slice, hv, Instr.sliceBounds, run_size hi', hsz, B1 c rfl]
      | some d => simp [execOp, ho, Instr.sliceAt, run_underlying hu, Instr.slice, hv, Instr.sliceBounds, run_size hi', hsz, B1 c rfl, B2 d rfl]
  have getlo : ∀ l : Int, (if lo.isSome then (r[0]?).bind asI else some 0) = some l → (∀ c, lo = some c → ∃ k, a.eval c = .int k l) ∧ (lo = none → l = 0) := by
    intro l hl
    cases lo with
    | none => simp at hl; exact ⟨fun c hc => (by cases hc), fun _ => hl.symm⟩
    | some c =>
      simp only [Option.isSome_some, if_true] at hl
      refine ⟨fun c' hc' => ?_, fun hn => (by cases hn)⟩
      cases hc'
      have h0 : 0 < r.length := by simp at hlen; omega
      rw [List.getElem?_eq_getElem h0] at hl
      exact hint _ _ _ hl (by have := hr 0 h0 (by simp); simpa using this)
  have gethi : ∀ (m h : Int), (if hi.isSome then (r[if lo.isSome then 1 else 0]?).bind asI else some m) = some h → (∀ c, hi = some c → ∃ k, a.eval c = .int k h) ∧ (hi = none → h = m) := by
    intro m h hl
    cases hi with
    | none => simp at hl; exact ⟨fun c hc => (by cases hc), fun _ => hl.symm⟩
    | some c =>
      simp only [Option.isSome_some, if_true] at hl
      refine ⟨fun c' hc' => ?_, fun hn => (by cases hn)⟩
      cases hc'
      cases lo with
      | none =>
        have h0 : 0 < r.length := by simp at hlen; omega
        simp only [Option.isSome_none, Bool.false_eq_true, if_false] at hl
        rw [List.getElem?_eq_getElem h0] at hl
        exact hint _ _ _ hl (by have := hr 0 h0 (by simp); simpa using this)
      | some d =>
        have h0 : 1 < r.length := by simp at hlen; omega
        simp only [Option.isSome_some, if_true] at hl
        rw [List.getElem?_eq_getElem h0] at hl
        exact hint _ _ _ hl (by have := hr 1 h0 (by simp); simpa using this)
  simp only [pSlc] at h
  split at h
  · rename_i l c n hl
    split at h
    · rename_i hh hhi
      split at h
      · rename_i hc
        obtain ⟨h1, h2, h3, h4⟩ := hc
        cases h
        obtain ⟨lo1, lo2⟩ := getlo l hl
        obtain ⟨hi1, hi2⟩ := gethi n hh hhi
        obtain ⟨l', rfl⟩ := Int.eq_ofNat_of_zero_le h1
        obtain ⟨h', rfl⟩ := Int.eq_ofNat_of_zero_le (Int.le_trans h1 h2)
        have e1 : ((h' : Int) - (l' : Int)).toNat = h' - l' := by omega
        rcases hx.inv_sl with ⟨b, off, cap, us, hp, hn, hS, hcl, hrr⟩ | ⟨b, cap, hp, hn, hce⟩
        · have hrun := run1 _ n cap l' h' hp hn (by omega) (by omega) lo1 (fun q => by have := lo2 q; omega) hi1 (fun q => by have := hi2 q; omega)
          refine Gives.same hrun ?_
          simp only [Int.toNat_natCast, e1]
          by_cases hcap : cap = l'
          · have : h' - l' = 0 := by omega
            rw [if_pos hcap, this]
            simp only [Nat.zero_mul, List.take_zero]
            exact .pure (.sl0 _ _)
          · rw [if_neg hcap]
            simp only [Option.map_some, addr_add]
            refine .pure (.sl (fun j => us (l' * sz + j)) hS (by omega) (fun j hj => ?_) (fun j hj => ?_))
            · rw [Nat.add_assoc]
              refine hcl _ ?_
              simp only [List.length_take, List.length_drop] at hj
              have hm : (h' - l') * sz + l' * sz = h' * sz := by rw [← Nat.add_mul]; congr 1; omega
              have hm2 : h' * sz ≤ n * sz := Nat.mul_le_mul_right _ (by omega)
              omega
            · have hj2 : l' * sz + j < c.length := by simp only [List.length_take, List.length_drop] at hj; omega
              have := hrr (l' * sz + j) hj2
              simpa using this
        · subst hn
          subst hce
          have : h' = 0 := by omega
          subst this
          have : l' = 0 := by omega
          subst this
          have hrun := run1 _ 0 cap 0 0 hp (by omega) (by omega) (by omega) lo1 (fun q => rfl) hi1 (fun q => rfl)
          refine Gives.same hrun ?_
          simpa using Rep.pure (RepP.sl0 _ _)
      · cases h
    · cases h
  · rename_i l hl
    split at h
    · rename_i hh hhi
      split at h
      · rename_i hc
        obtain ⟨rfl, rfl⟩ := hc
        cases h
        obtain ⟨lo1, lo2⟩ := getlo 0 hl
        obtain ⟨hi1, hi2⟩ := gethi 0 0 hhi
        obtain ⟨b, hp⟩ := hx.inv_nil
        have hrun := run1 _ 0 0 0 0 hp (by omega) (by omega) (by omega) lo1 (fun q => rfl) hi1 (fun q => rfl)
        refine Gives.same hrun ?_
        simpa using Rep.pure (RepP.nil _)
      · cases h
    · cases h
  · cases h
end
end Go.Av

/-
  Maps: what the model's operations on a map's block yield, in the words of the abstract entries.
-/
namespace Go.Av
set_option linter.unusedSectionVars false
set_option linter.unusedSimpArgs false
set_option linter.unusedVariables false
open Go.RowKit (Below)

/-- The value of a key. -/
def kval (kd : Option Nat) (l : List Int) : Value :=
  match kd with
  | none => .int .i64 (l.headD 0)
  | some _ => .agg (l.map (Value.int .i64)).toArray
def kfit (kd : Option Nat) (l : List Int) : Prop :=
  match kd with
  | none => l.length = 1
  | some m => l.length = m

section
variable {T : Tr} {ν : Nat → FuncId} {X : Cx}

theorem mkey_val {kd : Option Nat} {k : AV} {kl : List Int} {v : Value} (h : mkey kd k = some kl) (hr : Rep ν X k v) : v = kval kd kl ∧ kfit kd kl := by
  unfold mkey at h
  split at h
  · cases h
    exact ⟨hr.inv_v, rfl⟩
  · rename_i m cs
    split at h
    · rename_i l hl
      split at h
      · rename_i hlen
        cases h
        obtain ⟨vs, rfl, hs, hrr⟩ := hr.inv_agg
        obtain ⟨l1, l2⟩ := mapM_some hl
        refine ⟨?_, hlen⟩
        simp only [kval, Value.agg.injEq]
        apply Array.ext
        · simp; omega
        · intro i h1 h2
          have hi : i < cs.length := by omega
          have := hrr i hi
          rw [avI_some (l2 i hi (by omega))] at this
          have h3 := this.inv_v
          simp only [Array.getD_eq_getD_getElem?, Array.getElem?_eq_getElem h1, Option.getD_some] at h3
          rw [h3]
          simp
      · cases h
    · cases h
  · cases h
theorem Rep0.rep {a : AV} {v : Value} (h : Rep0 ν a v) : Rep ν X a v := .pure (h _ _)
theorem mkey_rep0 {kd : Option Nat} {k : AV} {kl : List Int} {v : Value} (h : mkey kd k = some kl) (hr : Rep ν X k v) : Rep0 ν k v := by
  intro w S
  unfold mkey at h
  split at h
  · rw [hr.inv_v]; exact .v _
  · rename_i m cs
    split at h
    · rename_i l hl
      obtain ⟨vs, rfl, hs, hrr⟩ := hr.inv_agg
      obtain ⟨l1, l2⟩ := mapM_some hl
      refine .agg vs hs (fun i hi => ?_)
      have h3 := hrr i hi
      rw [avI_some (l2 i hi (by omega))] at h3 ⊢
      rw [h3.inv_v]
      exact .v _
    · cases h
  · cases h
theorem plain_rep0 {a : AV} {v : Value} (h : a.plain = true) (hr : Rep ν X a v) : Rep0 ν a v := by
  intro w S
  cases a with
  | v x => rw [hr.inv_v]; exact .v _
  | _ => simp [AV.plain] at h

theorem mapT_spec {t k e : TypeId} (h : T.mapT t = some (k, e)) : T.P.underlying t = some (.map k e) := by
  unfold Tr.mapT at h
  split at h
  · cases h; assumption
  · cases h

theorem kval_inj {kd : Option Nat} {a b : List Int} (ha : kfit kd a) (hb : kfit kd b) : kval kd a = kval kd b ↔ a = b := by
  cases kd with
  | none =>
    simp only [kfit] at ha hb
    obtain ⟨x, rfl⟩ := List.length_eq_one_iff.1 ha
    obtain ⟨y, rfl⟩ := List.length_eq_one_iff.1 hb
    simp [kval]
  | some m =>
    simp only [kval, Value.agg.injEq]
    constructor
    · intro h
      have h2 := congrArg Array.toList h
      simp only at h2
      have inj : ∀ (a b : List Int), a.map (Value.int .i64) = b.map (Value.int .i64) → a = b := by
        intro a
        induction a with
        | nil => intro b hb; cases b with | nil => rfl | cons y b => simp at hb
        | cons x a ih =>
          intro b hb
          cases b with
          | nil => simp at hb
          | cons y b => simp at hb; rw [hb.1, ih b (by simpa using hb.2)]
      exact inj a b h2
    · intro h; rw [h]

/-- A key's type as the checks at start know it. -/
theorem keyKd_spec {k : TypeId} {kd : Option Nat} (h : T.keyKd k = some kd) : (kd = none ∧ T.P.underlying k = some (.int .i64)) ∨
    (∃ fs, kd = some fs.size ∧ T.P.underlying k = some (.struct fs) ∧ T.P.fieldsOf k = fs ∧ T.fieldsB 0 fs.toList = true ∧ T.P.stoodInHeld k = false) := by
  unfold Tr.keyKd at h
  split at h
  · cases h; exact .inl ⟨rfl, by assumption⟩
  · rename_i fs hu
    split at h
    · rename_i hB
      cases h
      have hf : T.P.fieldsOf k = fs := by unfold Program.fieldsOf; simp only [hu]
      simp only [Tr.intsB, Bool.and_eq_true, Bool.not_eq_true', hf] at hB
      exact .inr ⟨fs, rfl, hu, hf, hB.1.1, hB.1.2⟩
    · cases h
  · cases h

theorem run_fieldsKey {w : World} {em : Bool} {n : Nat} {vs : Array Value} : ∀ (fs : List Field) (k : Nat) (l : List Int), T.fieldsB k fs = true → l.length = fs.length → (∀ j (h : j < l.length), vs[k + j]? = some (.int .i64 l[j])) →
    (forIn fs PUnit.unit fun (f : Field) (_ : PUnit) => (if f.name ≠ "_" then (do Instr.checkKey em (n + 1) f.type (← part f.type vs f.offset); pure (ForInStep.yield PUnit.unit)) else pure (ForInStep.yield PUnit.unit) : Sem (ForInStep PUnit))).run T.P w = .ok PUnit.unit w := by
  intro fs
  induction fs with
  | nil => intro k l _ _ _; simp
  | cons f fs ih =>
    intro k l hB hl hv
    simp only [Tr.fieldsB, Bool.and_eq_true, bne_iff_ne, ne_eq, beq_iff_eq] at hB
    obtain ⟨⟨⟨⟨h1, h2⟩, h3⟩, h4⟩, h5⟩ := hB
    cases l with
    | nil => simp at hl
    | cons a l =>
      have ht : T.P.underlying f.type = some (.int .i64) := by
        split at h3
        · assumption
        · cases h3
      have hn : T.shape f.type = some none := by
        split at h4
        · assumption
        · cases h4
      have va := hv 0 (by simp)
      simp only [Nat.add_zero, List.getElem_cons_zero] at va
      have ih' := ih (k + 1) l h5 (by simpa using hl) (fun j hj => by have := hv (j + 1) (by simpa using hj); rw [show k + 1 + j = k + (j + 1) by omega]; simpa using this)
      have pv : (part f.type vs f.offset).run T.P w = .ok (.int .i64 a) w := by simp [part, shape_none hn, h2, va]
      have ck : (Instr.checkKey em (n + 1) f.type (.int .i64 a)).run T.P w = .ok () w := by simp [Instr.checkKey, run_underlying ht]
      simp only [List.forIn_cons, h1, ne_eq, not_false_eq_true, if_true, Sem.run_bind, pv, ck, Result.andThen_ok, Sem.run_pure]
      exact ih'

theorem run_ckey {w : World} {k : TypeId} {kd : Option Nat} (hk : T.keyKd k = some kd) {l : List Int} (hl : kfit kd l) (em : Bool) : (Instr.checkKey em 10000 k (kval kd l)).run T.P w = .ok () w := by
  rcases keyKd_spec hk with ⟨rfl, hu⟩ | ⟨fs, rfl, hu, hf, hB, _⟩
  · rw [show (10000 : Nat) = 9999 + 1 from rfl, Instr.checkKey]
    simp [run_underlying hu, kval]
  · have := run_fieldsKey (T := T) (w := w) (em := em) (n := 9998) (vs := (l.map (Value.int .i64)).toArray) fs.toList 0 l hB (by simpa [kfit] using hl) (fun j hj => by simp [hj])
    rw [show (10000 : Nat) = 9999 + 1 from rfl, Instr.checkKey]
    simp only [Sem.run_bind, run_underlying hu, Result.andThen_ok, kval]
    rw [← Array.forIn_toList, this]
    rfl

theorem run_keq {w : World} {k : TypeId} {fs : Array Field} (hu : T.P.underlying k = some (.struct fs)) (hf : T.P.fieldsOf k = fs) (hB : T.fieldsB 0 fs.toList = true) (hp : T.P.stoodInHeld k = false) {a b : List Int} (ha : a.length = fs.size) (hb : b.length = fs.size) :
    (Op.equal k (kval (some fs.size) a) (kval (some fs.size) b)).run T.P w = .ok (a == b) w := by
  have key := run_eqFields (T := T) (w := w) (d := 9998) (vs := (a.map (Value.int .i64)).toArray) (us := (b.map (Value.int .i64)).toArray) fs.toList 0 a b hB (by simpa using ha) (by simpa using hb) (fun j hj => by simp [hj]) (fun j hj => by simp [hj])
  have := run_equalIn_agg (P := T.P) w 9999 k (a.map (Value.int .i64)).toArray (b.map (Value.int .i64)).toArray (by rw [hf]; exact hu) hp
  rw [hf] at this
  exact this.trans key

/-- The first entry that bears the key. -/
def kfind (kd : Option Nat) (kl : List Int) : List MapEntry → List (List Int) → Nat → Option (Nat × Value)
  | e :: es, l :: ls, i => if l == kl then some (i, e.val) else kfind kd kl es ls (i + 1)
  | _, _, _ => none

theorem run_find {w : World} {k : TypeId} {kd : Option Nat} (hk : T.keyKd k = some kd) {kl : List Int} (hl : kfit kd kl) {es : List MapEntry} {ls : List (List Int)} (hlen : es.length = ls.length)
    (he : ∀ i (h : i < es.length) (h' : i < ls.length), es[i].key = kval kd ls[i] ∧ kfit kd ls[i]) : (Instr.findKey k (kval kd kl) es).run T.P w = .ok (kfind kd kl es ls 0) w := by
  rcases keyKd_spec hk with ⟨rfl, hu⟩ | ⟨fs, rfl, hu, hf, hB, hp⟩
  · have key : ∀ (es : List MapEntry) (ls : List (List Int)) (i : Nat), es.length = ls.length → (∀ i (h : i < es.length) (h' : i < ls.length), es[i].key = kval none ls[i] ∧ kfit none ls[i]) → Instr.findNow (.int .i64) (kval none kl) es i = some (kfind none kl es ls i) := by
      intro es
      induction es with
      | nil => intro ls i _ _; cases ls <;> rfl
      | cons e es ih =>
        intro ls i hlen he
        cases ls with
        | nil => simp at hlen
        | cons l ls =>
          obtain ⟨h1, h2⟩ := he 0 (by simp) (by simp)
          simp only [List.getElem_cons_zero] at h1 h2
          have ih' := ih ls (i + 1) (by simpa using hlen) (fun j h h' => by have := he (j + 1) (by simpa using h) (by simpa using h'); simpa using this)
          simp only [Instr.findNow, h1, kval, Instr.sameNow, if_true, kfind]
          simp only [kfit] at h2 hl
          obtain ⟨x, rfl⟩ := List.length_eq_one_iff.1 h2
          obtain ⟨y, rfl⟩ := List.length_eq_one_iff.1 hl
          by_cases e2 : x = y
          · subst e2; simp
          · have e3 : ¬ y = x := fun h => e2 h.symm
            have e4 : (y == x) = false := by simpa using e3
            have e5 : ([x] == [y]) = false := by simpa using e2
            simp only [List.headD_cons, e4, e5, Bool.false_eq_true, if_false]
            simpa [kval] using ih'
    simp only [Instr.findKey, Sem.run_bind, run_underlying hu, Result.andThen_ok, key es ls 0 hlen he, Sem.run_pure]
  · have ask : ∀ (es : List MapEntry) (ls : List (List Int)) (i : Nat), es.length = ls.length → (∀ i (h : i < es.length) (h' : i < ls.length), es[i].key = kval (some fs.size) ls[i] ∧ kfit (some fs.size) ls[i]) → (Instr.findAsking k (kval (some fs.size) kl) es i).run T.P w = .ok (kfind (some fs.size) kl es ls i) w := by
      intro es
      induction es with
      | nil => intro ls i _ _; cases ls <;> simp [Instr.findAsking, kfind]
      | cons e es ih =>
        intro ls i hlen he
        cases ls with
        | nil => simp at hlen
        | cons l ls =>
          obtain ⟨h1, h2⟩ := he 0 (by simp) (by simp)
          simp only [List.getElem_cons_zero] at h1 h2
          have ih' := ih ls (i + 1) (by simpa using hlen) (fun j h h' => by have := he (j + 1) (by simpa using h) (by simpa using h'); simpa using this)
          simp only [Instr.findAsking, h1, Sem.run_bind, run_keq hu hf hB hp hl h2, Result.andThen_ok, kfind]
          by_cases e2 : kl = l
          · subst e2; simp
          · have e3 : ¬ l = kl := fun h => e2 h.symm
            have e4 : (kl == l) = false := by simpa using e2
            have e5 : (l == kl) = false := by simpa using e3
            simp only [e4, e5, Bool.false_eq_true, if_false]
            exact ih'
    simp only [Instr.findKey, Sem.run_bind, run_underlying hu, Result.andThen_ok]
    cases es with
    | nil =>
      cases ls with
      | nil => simp [Instr.findNow, kfind]
      | cons l ls => simp at hlen
    | cons e es =>
      have : Instr.findNow (.struct fs) (kval (some fs.size) kl) (e :: es) 0 = none := by simp [Instr.findNow, Instr.sameNow]
      rw [this]
      exact ask (e :: es) ls 0 hlen he

theorem run_stays {w : World} {kd : Option Nat} {l : List Int} : (Instr.keyThatStays (kval kd l) (kval kd l)).run T.P w = .ok (kval kd l) w := by
  have : Instr.sameBits 10000 (kval kd l) (kval kd l) = true := by
    cases kd with
    | none => simp [kval, Instr.sameBits]
    | some m =>
      simp only [kval, Instr.sameBits, BEq.rfl, Bool.true_and, List.all_eq_true]
      intro x hx
      obtain ⟨a, b⟩ := x
      have := List.of_mem_zip hx
      have e : a = b := by
        have hz : ∀ (l : List Value) (a b : Value), (a, b) ∈ l.zip l → a = b := by
          intro l
          induction l with
          | nil => intro a b h; simp at h
          | cons x l ih => intro a b h; simp at h; rcases h with ⟨rfl, rfl⟩ | h; rfl; exact ih a b h
        exact hz _ a b hx
      subst e
      obtain ⟨n, _, rfl⟩ := List.mem_map.1 this.1
      simp [Instr.sameBits]
  simp [Instr.keyThatStays, this]

/-- The abstract entries of a block. -/
theorem ments {B : Nat} (hO : Objs ν B X) {o : Nat} {c : List AV} (hc : X.H o = some c) {es : Array MapEntry} {q : Nat} (hm : X.w.heap[X.β o]? = some (.map es q)) {kd : Option Nat} {l : List (List Int × AV)} (hd : mdec kd c = some l) :
    es.toList.length = (l.map (·.1)).length ∧ (∀ i (h : i < es.toList.length) (h' : i < (l.map (·.1)).length), es.toList[i].key = kval kd (l.map (·.1))[i] ∧ kfit kd (l.map (·.1))[i]) ∧
    l.length = c.length ∧ ∀ i (h : i < l.length), ∃ e, es[i]? = some e ∧ Rep0 ν l[i].2 e.val := by
  obtain ⟨_, _, h1, h2⟩ := hO.mp hc hm
  obtain ⟨d1, d2⟩ := mapM_some hd
  have each : ∀ i (h : i < l.length), ∃ e, es[i]? = some e ∧ e.key = kval kd l[i].1 ∧ kfit kd l[i].1 ∧ Rep0 ν l[i].2 e.val := by
    intro i hi
    obtain ⟨k, v, e, e1, e2, e3, e4⟩ := h2 i (by omega)
    have := d2 i (by omega) hi
    rw [e1] at this
    simp only [mentry] at this
    cases hk : mkey kd k with
    | none => rw [hk] at this; cases this
    | some kl =>
      rw [hk] at this
      simp only [Option.map_some, Option.some.injEq] at this
      obtain ⟨g1, g2⟩ := mkey_val (X := X) hk e3.rep
      rw [← this]
      exact ⟨e, e2, g1, g2, e4⟩
  refine ⟨by simp; omega, fun i h h' => ?_, d1, fun i hi => ?_⟩
  · obtain ⟨e, e1, e2, e3, _⟩ := each i (by simpa using h')
    have h4 : es.toList[i] = e := by
      have : es.toList[i]? = some e := by simpa using e1
      rw [List.getElem?_eq_getElem h] at this
      exact Option.some.inj this
    rw [h4]
    simp only [List.getElem_map]
    exact ⟨e2, e3⟩
  · obtain ⟨e, e1, _, _, e4⟩ := each i hi
    exact ⟨e, e1, e4⟩

theorem kfind_mfind (kd : Option Nat) (kl : List Int) : ∀ (es : List MapEntry) (l : List (List Int × AV)) (i : Nat), es.length = l.length → (∀ j (h : j < l.length), ∃ e, es[j]? = some e ∧ Rep0 ν l[j].2 e.val) →
    (kfind kd kl es (l.map (·.1)) i = none ∧ mfind l kl = none) ∨ ∃ j v u, kfind kd kl es (l.map (·.1)) i = some (j, v) ∧ mfind l kl = some u ∧ Rep0 ν u v := by
  intro es
  induction es with
  | nil => intro l i hl _; cases l with | nil => exact .inl ⟨rfl, rfl⟩ | cons x l => simp at hl
  | cons e es ih =>
    intro l i hl hr
    cases l with
    | nil => simp at hl
    | cons x l =>
      simp only [List.map_cons, kfind, mfind, List.find?_cons]
      cases hx : (x.1 == kl)
      · simp only [Bool.false_eq_true, if_false]
        exact ih l (i + 1) (by simpa using hl) (fun j h => by have := hr (j + 1) (by simpa using h); simpa using this)
      · simp only [if_true]
        obtain ⟨e', e1, e2⟩ := hr 0 (by simp)
        simp only [List.getElem?_cons_zero, Option.some.injEq, List.getElem_cons_zero] at e1 e2
        subst e1
        exact .inr ⟨i, e.val, x.2, rfl, rfl, e2⟩

theorem zero1_spec {t : TypeId} {z : AV} (h : T.zero1 t = some z) : ∃ i zv, T.P.info? t = some i ∧ i.zero = some zv ∧ Rep0 ν z zv := by
  unfold Tr.zero1 at h
  split at h
  · rename_i i hi
    split at h
    · rename_i zv hz
      cases ha : avOf zv with
      | none => rw [ha] at h; cases h
      | some a =>
        rw [ha] at h
        simp only [Option.bind_some] at h
        split at h
        · cases h
          exact ⟨i, zv, hi, hz, fun w S => avOf_rep ha⟩
        · cases h
    · cases h
  · cases h

theorem s_mget {t k e : TypeId} {kd : Option Nat} {ok : Bool} {z x y u : AV} {p q : Value} {o : Oper} {a : Act} {c1 c2 : Operand} (ho : o.op = .lookup t c1 c2 ok) (e1 : a.eval c1 = p) (e2 : a.eval c2 = q)
    (ht : T.mapT t = some (k, e)) (hk : T.keyKd k = some kd) (hz : T.zero1 e = some z) {H : Hp} (hH : ∀ o c, H o = some c → X.H o = some c) {B : Nat} (hO : Objs ν B X)
    (h : pGet H kd ok z [x, y] = some u) (hx : Rep ν X x p) (hy : Rep ν X y q) : Gives ν T.P X (execOp a.eval o) u := by
  unfold pGet at h
  split at h
  · rename_i ob key heq
    simp only [List.cons.injEq, and_true] at heq
    obtain ⟨rfl, rfl⟩ := heq
    cases hc : H ob with
    | none => simp [hc] at h
    | some c =>
      simp only [hc] at h
      split at h
      · rename_i l kl hd hkl
        obtain ⟨_, _, hv⟩ := hx.inv_mm
        obtain ⟨rfl, es, clk, hm⟩ := hv c (hH _ _ hc)
        obtain ⟨m1, m2, m3, m4⟩ := ments hO (hH _ _ hc) hm hd
        obtain ⟨k1, k2⟩ := mkey_val hkl hy
        obtain ⟨i, zv, hi, hz', hzr⟩ := zero1_spec (ν := ν) hz
        have hfind := run_find (w := X.w) hk k2 m1 m2
        have hck := run_ckey (w := X.w) hk k2 es.isEmpty
        have htu := mapT_spec ht
        rcases kfind_mfind (ν := ν) kd kl es.toList l 0 (by simpa using m1) (fun j h => by obtain ⟨e, e1, e2⟩ := m4 j h; exact ⟨e, by simpa using e1, e2⟩) with ⟨f1, f2⟩ | ⟨j, v, u', f1, f2, f3⟩
        · rw [f1] at hfind
          rw [f2] at h
          cases h
          cases ok
          · refine Gives.same (v := zv) ?_ hzr.rep
            subst k1
            simp [execOp, ho, e1, e2, Instr.lookup, run_underlying htu, MapKept.run_getObj_map hm, hck, hfind, run_zero hi hz']
          · refine Gives.same (v := .tuple #[zv, .bool false]) ?_ (.tup _ rfl (fun i hi => ?_))
            · subst k1
              simp [execOp, ho, e1, e2, Instr.lookup, run_underlying htu, MapKept.run_getObj_map hm, hck, hfind, run_zero hi hz']
            · have : i = 0 ∨ i = 1 := by simp at hi; omega
              rcases this with rfl | rfl
              · exact hzr.rep
              · exact .pure (.v _)
        · rw [f1] at hfind
          rw [f2] at h
          cases h
          cases ok
          · refine Gives.same (v := v) ?_ f3.rep
            subst k1
            simp [execOp, ho, e1, e2, Instr.lookup, run_underlying htu, MapKept.run_getObj_map hm, hck, hfind]
          · refine Gives.same (v := .tuple #[v, .bool true]) ?_ (.tup _ rfl (fun i hi => ?_))
            · subst k1
              simp [execOp, ho, e1, e2, Instr.lookup, run_underlying htu, MapKept.run_getObj_map hm, hck, hfind]
            · have : i = 0 ∨ i = 1 := by simp at hi; omega
              rcases this with rfl | rfl
              · exact f3.rep
              · exact .pure (.v _)
      · cases h
  · cases h

theorem s_mlen {t k e : TypeId} {x u : AV} {p : Value} {o : Oper} {a : Act} {c1 : Operand} (ho : o.op = .call { callee := .builtin .len, args := #[c1], argTypes := #[t] }) (e1 : a.eval c1 = p) (ht : T.P.underlying t = some (.map k e))
    {H : Hp} (hH : ∀ o c, H o = some c → X.H o = some c) {B : Nat} (hO : Objs ν B X) (h : pMlen H [x] = some u) (hx : Rep ν X x p) : Gives ν T.P X (execOp a.eval o) u := by
  unfold pMlen at h
  split at h
  · rename_i ob heq
    simp only [List.cons.injEq, and_true] at heq
    subst heq
    cases hc : H ob with
    | none => simp [hc] at h
    | some c =>
      simp only [hc, Option.some.injEq] at h
      subst h
      obtain ⟨_, _, hv⟩ := hx.inv_mm
      obtain ⟨rfl, es, clk, hm⟩ := hv c (hH _ _ hc)
      obtain ⟨_, _, h1, _⟩ := hO.mp (hH _ _ hc) hm
      refine Gives.same (v := .int .i64 c.length) ?_ (.pure (.v _))
      simp [execOp, ho, resolve, invoke, builtin, Builtin.len_, run_underlying ht, e1, goInt, MapKept.run_getObj_map hm, h1]
  · cases h
end
end Go.Av

/-
  All the value operations in one.
-/
namespace Go.Av
set_option linter.unusedSectionVars false
set_option linter.unusedSimpArgs false
set_option linter.unusedVariables false
open Go.RowKit (Below)

theorem map_some {α β : Type} {f : α → β} {x : Option α} {y : β} (h : x.map f = some y) : ∃ z, x = some z ∧ f z = y := by
  cases x with
  | none => cases h
  | some z => cases h; exact ⟨z, rfl, rfl⟩
theorem bind_some {α β : Type} {f : α → Option β} {x : Option α} {y : β} (h : x.bind f = some y) : ∃ z, x = some z ∧ f z = some y := by
  cases x with
  | none => cases h
  | some z => exact ⟨z, rfl, h⟩

theorem pure_sound {T : Tr} {ν : Nat → FuncId} (hν : ∀ f id, T.num f = some id → ν id = f) {X : Cx} {env : Nat → AV} {a : Act} (henv : ∀ t, Rep ν X (env t) (a.tmps.getD t undef))
    {B : Nat} (hO : Objs ν B X) {H : Hp} (hH : ∀ o c, H o = some c → X.H o = some c) {o : Oper} {q : PO × List Opd} (h : T.pure o.op = some q) {u : AV} (hp : pvf H q.1 (q.2.map (ev env)) = some u) :
    Gives ν T.P X (execOp a.eval o) u := by
  have R : ∀ {x : Operand} {x' : Opd}, T.opd x = some x' → Rep ν X (ev env x') (a.eval x) := fun h => opd_sound hν henv h
  have RL : ∀ {l : List Operand} {xs : List Opd}, T.opds l = some xs → (xs.map (ev env)).length = l.length ∧ ∀ i (h : i < (xs.map (ev env)).length) (h' : i < l.length), Rep ν X (xs.map (ev env))[i] (a.eval l[i]) := by
    intro l xs hl
    obtain ⟨h1, h2⟩ := mapM_some hl
    refine ⟨by simpa using h1, fun i hi hi' => ?_⟩
    simp only [List.getElem_map]
    exact R (h2 i hi' (by simpa using hi))
  cases ho : o.op with
  | move x =>
    rw [ho] at h
    obtain ⟨xs, hx, rfl⟩ := map_some h
    obtain ⟨x', rfl, hx'⟩ := opds1 hx
    simp only [pvf, List.map_cons, List.map_nil, List.getElem?_cons_zero, Option.some.injEq] at hp
    subst hp
    exact Gives.same (by simp [execOp, ho]) (R hx')
  | assign x =>
    rw [ho] at h
    obtain ⟨xs, hx, rfl⟩ := map_some h
    obtain ⟨x', rfl, hx'⟩ := opds1 hx
    simp only [pvf, List.map_cons, List.map_nil, List.getElem?_cons_zero, Option.some.injEq] at hp
    subst hp
    exact Gives.same (by simp [execOp, ho]) (R hx')
  | pick c x y =>
    rw [ho] at h
    obtain ⟨xs, hx, rfl⟩ := map_some h
    obtain ⟨c', x', y', rfl, hc', hx', hy'⟩ := opds3 hx
    exact s_pick ho rfl rfl rfl hp (R hc') (R hx') (R hy')
  | binOp op t x y t' =>
    rw [ho] at h
    simp only [Tr.pure] at h
    split at h
    · rename_i hs
      split at h
      · rename_i hc
        simp only [Bool.and_eq_true, Bool.or_eq_true, beq_iff_eq] at hc
        obtain ⟨xs, hx, rfl⟩ := map_some h
        obtain ⟨x', y', rfl, hx', hy'⟩ := opds2 hx
        exact s_eqs ho rfl rfl hs hc.1 hc.2 hp (R hx') (R hy')
      · cases h
    · split at h
      · rename_i hs
        split at h
        · rename_i hc
          simp only [Bool.or_eq_true, beq_iff_eq] at hc
          obtain ⟨xs, hx, rfl⟩ := map_some h
          obtain ⟨x', y', rfl, hx', hy'⟩ := opds2 hx
          exact s_eqb ho rfl rfl hs hc hp (R hx') (R hy')
        · cases h
      obtain ⟨xs, hx, rfl⟩ := map_some h
      obtain ⟨x', y', rfl, hx', hy'⟩ := opds2 hx
      exact s_bin ho rfl rfl hp (R hx') (R hy')
  | unOp op t x =>
    rw [ho] at h
    cases op <;> simp only [Tr.pure, reduceCtorEq] at h
    obtain ⟨xs, hx, rfl⟩ := map_some h
    obtain ⟨x', rfl, hx'⟩ := opds1 hx
    exact s_not ho rfl hp (R hx')
  | call c =>
    rw [ho] at h
    obtain ⟨callee, args, argTypes⟩ := c
    cases callee with
    | value f => simp [Tr.pure] at h
    | invoke r m => simp [Tr.pure] at h
    | builtin b =>
      have two : ∀ {m : Bool} {b' : Builtin}, b' = (if m then .max else .min) → o.op = .call { callee := .builtin b', args := args, argTypes := argTypes } → (match args.toList, argTypes.toList with | [x, y], [_, _] => (T.opds [x, y]).map ((PO.mmx m, ·)) | _, _ => none) = some q → Gives ν T.P X (execOp a.eval o) u := by
        intro m b' hb ho h
        split at h
        · rename_i x y t t' hargs htys
          obtain ⟨xs, hx, rfl⟩ := map_some h
          obtain ⟨x', y', rfl, hx', hy'⟩ := opds2 hx
          have ha : args = #[x, y] := by rw [← Array.toArray_toList (xs := args), hargs]
          subst ha
          subst hb
          exact s_mmx ho rfl rfl hp (R hx') (R hy')
        · cases h
      cases b <;> simp only [Tr.pure, reduceCtorEq] at h
      case max => exact two (m := true) rfl ho h
      case min => exact two (m := false) rfl ho h
      split at h
      · rename_i x t hargs htys
        have ha : args = #[x] := by rw [← Array.toArray_toList (xs := args), hargs]
        have ht : argTypes = #[t] := by rw [← Array.toArray_toList (xs := argTypes), htys]
        subst ha
        subst ht
        split at h
        · rename_i e he
          obtain ⟨xs, hx, rfl⟩ := map_some h
          obtain ⟨x', rfl, hx'⟩ := opds1 hx
          exact s_len ho rfl he hH hp (R hx')
        · rename_i k e he
          obtain ⟨xs, hx, rfl⟩ := map_some h
          obtain ⟨x', rfl, hx'⟩ := opds1 hx
          exact s_mlen ho rfl he hH hO hp (R hx')
        · cases h
      · cases h
  | lookup t x i ok =>
    rw [ho] at h
    simp only [Tr.pure] at h
    obtain ⟨ke, hke, h⟩ := bind_some h
    obtain ⟨kd, hkd, h⟩ := bind_some h
    obtain ⟨z, hz, h⟩ := bind_some h
    obtain ⟨xs, hx, rfl⟩ := map_some h
    obtain ⟨x', y', rfl, hx', hy'⟩ := opds2 hx
    exact s_mget (k := ke.1) (e := ke.2) ho rfl rfl hke hkd hz hH hO hp (R hx') (R hy')
  | index t x i =>
    rw [ho] at h
    simp only [Tr.pure] at h
    split at h
    · rename_i len e hu
      obtain ⟨sz, hs, h⟩ := bind_some h
      obtain ⟨n, hn, h⟩ := bind_some h
      obtain ⟨xs, hx, rfl⟩ := map_some h
      obtain ⟨x', y', rfl, hx', hy'⟩ := opds2 hx
      exact s_idx ho rfl rfl hu hs hn hp (R hx') (R hy')
    · cases h
  | fieldAddr st x f =>
    rw [ho] at h
    simp only [Tr.pure] at h
    split at h
    · rename_i fields hu
      split at h
      · rename_i fl hf
        split at h
        · rename_i m hs
          obtain ⟨xs, hx, rfl⟩ := map_some h
          obtain ⟨x', rfl, hx'⟩ := opds1 hx
          exact s_fad ho rfl hu hf hs hH hp (R hx')
        · cases h
      · cases h
    · cases h
  | indexAddr t x i =>
    rw [ho] at h
    simp only [Tr.pure] at h
    obtain ⟨e, he, h⟩ := bind_some h
    obtain ⟨sz, hs, h⟩ := bind_some h
    obtain ⟨xs, hx, rfl⟩ := map_some h
    obtain ⟨x', y', rfl, hx', hy'⟩ := opds2 hx
    exact s_iad ho rfl rfl he hs hH hp (R hx') (R hy')
  | load t x =>
    rw [ho] at h
    simp only [Tr.pure] at h
    obtain ⟨n, hn, h⟩ := bind_some h
    obtain ⟨xs, hx, rfl⟩ := map_some h
    obtain ⟨x', rfl, hx'⟩ := opds1 hx
    exact s_ld ho rfl hn hH hO hp (R hx')
  | nilCheck x =>
    rw [ho] at h
    obtain ⟨xs, hx, rfl⟩ := map_some h
    obtain ⟨x', rfl, hx'⟩ := opds1 hx
    exact s_nck ho rfl hH hp (R hx')
  | extract x i =>
    rw [ho] at h
    obtain ⟨xs, hx, rfl⟩ := map_some h
    obtain ⟨x', rfl, hx'⟩ := opds1 hx
    exact s_ext ho rfl hp (R hx')
  | field st x f =>
    rw [ho] at h
    simp only [Tr.pure] at h
    split at h
    · rename_i fields hu
      split at h
      · rename_i fl hf
        obtain ⟨n, hn, h⟩ := bind_some h
        obtain ⟨xs, hx, rfl⟩ := map_some h
        obtain ⟨x', rfl, hx'⟩ := opds1 hx
        exact s_fld ho rfl hu hf hn hp (R hx')
      · cases h
    · cases h
  | build t parts =>
    rw [ho] at h
    simp only [Tr.pure] at h
    split at h
    · rename_i fields hu
      obtain ⟨z, hz, h⟩ := bind_some h
      obtain ⟨ps, hps, h⟩ := bind_some h
      split at h
      · rename_i hall
        obtain ⟨xs, hx, rfl⟩ := map_some h
        obtain ⟨h1, h2⟩ := RL hx
        exact s_mka (T := T) ho hu hz hps hall (by simpa using h1) (fun i hi hi' => by
          have := h2 i hi (by simpa using hi')
          simpa using this) hp
      · cases h
    · rename_i len e hu
      obtain ⟨z, hz, h⟩ := bind_some h
      obtain ⟨sz, hs, h⟩ := bind_some h
      obtain ⟨xs, hx, rfl⟩ := map_some h
      obtain ⟨h1, h2⟩ := RL hx
      exact s_mkarr (T := T) ho hu hz hs (by simpa using h1) (fun i hi hi' => by
        have := h2 i hi (by simpa using hi')
        simpa using this) hp
    · cases h
  | buildSlice t len parts =>
    rw [ho] at h
    simp only [Tr.pure] at h
    obtain ⟨e, he, h⟩ := bind_some h
    obtain ⟨sz, hs, h⟩ := bind_some h
    obtain ⟨z, hz, h⟩ := bind_some h
    split at h
    · rename_i hc
      obtain ⟨xs, hx, rfl⟩ := map_some h
      obtain ⟨h1, h2⟩ := RL hx
      exact s_msl (T := T) ho he hs hz hc.1 hc.2.1 hc.2.2 (by simpa using h1) (fun i hi hi' => by
        have := h2 i hi (by simpa using hi')
        simpa using this) hO hp
    · cases h
  | box t x =>
    rw [ho] at h
    obtain ⟨xs, hx, rfl⟩ := map_some h
    obtain ⟨x', rfl, hx'⟩ := opds1 hx
    exact s_box ho rfl hp (R hx') hO
  | slice t x lo hi mx =>
    rw [ho] at h
    cases mx with
    | some m => simp [Tr.pure] at h
    | none =>
      simp only [Tr.pure] at h
      split at h
      · rename_i hstr
        obtain ⟨xs, hx, rfl⟩ := map_some h
        obtain ⟨h1, h2⟩ := RL hx
        have hu : T.P.underlying t = some .string := by
          unfold Tr.isStr at hstr
          split at hstr
          · assumption
          · cases hstr
        cases xs with
        | nil => simp at h1
        | cons y ys =>
          exact s_ssl ho hu (by have := h2 0 (by simp) (by simp); simpa using this) (by simpa using h1) (fun i hi hi' => by
            have := h2 (i + 1) (by simpa using hi) (by simpa using hi')
            simpa using this) hp
      · obtain ⟨e, he, h⟩ := bind_some h
        obtain ⟨sz, hs, h⟩ := bind_some h
        obtain ⟨xs, hx, rfl⟩ := map_some h
        obtain ⟨h1, h2⟩ := RL hx
        cases xs with
        | nil => simp at h1
        | cons y ys =>
          exact s_slc ho he hs (by have := h2 0 (by simp) (by simp); simpa using this) (by simpa using h1) (fun i hi hi' => by
            have := h2 (i + 1) (by simpa using hi) (by simpa using hi')
            simpa using this) hp
  | convert src dst x =>
    rw [ho] at h
    simp only [Tr.pure] at h
    split at h
    · rename_i ks k hs hd
      obtain ⟨xs, hx, rfl⟩ := map_some h
      obtain ⟨x', rfl, hx'⟩ := opds1 hx
      exact s_cvi ho rfl hs hd hp (R hx')
    · rename_i e hs hd
      split at h
      · rename_i he
        obtain ⟨xs, hx, rfl⟩ := map_some h
        obtain ⟨x', rfl, hx'⟩ := opds1 hx
        exact s_b2s ho rfl hs hd he hp (R hx')
      · cases h
    · cases h
  | makeFunc fn first captured =>
    rw [ho] at h
    cases fn <;> simp only [Tr.pure, reduceCtorEq] at h
    split at h
    · rename_i f hsz
      obtain ⟨id, hid, h⟩ := bind_some h
      obtain ⟨xs, hx, rfl⟩ := map_some h
      obtain ⟨h1, h2⟩ := RL hx
      have hf : first = #[] := Array.eq_empty_of_size_eq_zero hsz
      subst hf
      exact s_mkf (T := T) ho (hν _ _ hid) (by simpa using h1) (fun i hi hi' => by
        have := h2 i hi (by simpa using hi')
        simpa using this) hp
    · cases h
  | _ => rw [ho] at h; simp [Tr.pure] at h

end Go.Av
