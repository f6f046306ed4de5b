/-
  From the model's code to the compact code. A function with results of type Option, run by the kernel on closed code.
-/
import Derived.Test.YtbgaobcgpkjjkaaAvCore
namespace Go.Av

def cellOf : Value → Option AV
  | .slice none 0 0 => some .nil
  | .slice .. => none
  | .agg _ => none
  | .tuple _ => none
  | x => some (.v x)
def avOf : Value → Option AV
  | .slice none 0 0 => some .nil
  | .slice .. => none
  | .agg cs => (cs.toList.mapM cellOf).map .agg
  | .tuple _ => none
  | x => some (.v x)

structure Tr where
  P : Program
  num : FuncId → Option Nat
  hint : List (Nat × Nat)
  nt : Nat

namespace Tr
variable (T : Tr)

def opd : Operand → Option Opd
  | .tmp t => if t < T.nt then some (.t t) else none
  | .const v => (avOf v).map .c
  | .func f => (T.num f).map .f
  | .global _ => none

def opds (l : List Operand) : Option (List Opd) := l.mapM T.opd

def sizeOf (t : TypeId) : Option Nat := (T.P.info? t).map (·.size)
def aggB (t : TypeId) : Option Bool := (T.P.underlying t).map fun
  | .struct _ | .array _ _ => true
  | _ => false
/-- How a variable of this type is loaded: one cell, or so many. -/
def shape (t : TypeId) : Option (Option Nat) :=
  match T.aggB t, T.sizeOf t with
  | some true, some n => some (some n)
  | some false, some 1 => some none
  | _, _ => none
def zero (t : TypeId) : Option (List AV) :=
  match T.P.info? t with
  | some i => (match i.zero with
    | some z => (avOf z).bind fun a => if a.cells.length = i.size ∧ a.cells.all AV.one then some a.cells else none
    | none => none)
  | none => none
def elem (t : TypeId) : Option TypeId :=
  match T.P.underlying t with
  | some (.slice e) => some e
  | _ => none
def isInt (t : TypeId) : Bool :=
  match T.P.underlying t with
  | some (.int _) => true
  | _ => false

def isStruct (t : TypeId) : Bool :=
  match T.P.underlying t with
  | some (.struct _) => true
  | _ => false
def isBool (t : TypeId) : Bool :=
  match T.P.underlying t with
  | some .bool => true
  | _ => false
/-- A struct of integers alone. -/
def fieldsB : Nat → List Field → Bool
  | _, [] => true
  | k, f :: r => f.name != "_" && f.offset == k && (match T.P.underlying f.type with | some (.int .i64) => true | _ => false) && (match T.shape f.type with | some none => true | _ => false) && fieldsB (k + 1) r
def intsB (t : TypeId) : Bool := T.fieldsB 0 (T.P.fieldsOf t).toList && !T.P.stoodInHeld t && !T.P.eqGuardType T.P.depth t

def pure (o : Op) : Option (PO × List Opd) :=
  match o with
  | .move x | .assign x => (T.opds [x]).map (.mov, ·)
  | .pick c a b => (T.opds [c, a, b]).map (.pick, ·)
  | .binOp op t x y _ => if T.isStruct t then (if T.intsB t && (op == .eql || op == .neq) then (T.opds [x, y]).map (.eqs (op == .neq) (T.P.fieldsOf t).size, ·) else none) else if T.isBool t then (if op == .eql || op == .neq then (T.opds [x, y]).map (.eqb (op == .neq), ·) else none) else (T.opds [x, y]).map (.bin op, ·)
  | .unOp .not _ x => (T.opds [x]).map (.bnot, ·)
  | .call { callee := .builtin .len, args, argTypes } =>
    (match args.toList, argTypes.toList with
    | [x], [t] => (T.elem t).bind fun _ => (T.opds [x]).map (.len, ·)
    | _, _ => none)
  | .fieldAddr s x f =>
    (match T.P.underlying s with
    | some (.struct fields) => (match fields[f]? with
      | some fl => (match T.sizeOf fl.type with
        | some (_ + 1) => (T.opds [x]).map (.fad fl.offset, ·)
        | _ => none)
      | none => none)
    | _ => none)
  | .indexAddr t x i => (T.elem t).bind fun e => (T.sizeOf e).bind fun sz => (T.opds [x, i]).map (.iad sz, ·)
  | .load t a => (T.shape t).bind fun n => (T.opds [a]).map (.ld n, ·)
  | .nilCheck x => (T.opds [x]).map (.nck, ·)
  | .extract x i => (T.opds [x]).map (.ext i, ·)
  | .field s x f =>
    (match T.P.underlying s with
    | some (.struct fields) => (match fields[f]? with
      | some fl => (T.shape fl.type).bind fun n => (T.opds [x]).map (.fld fl.offset n, ·)
      | none => none)
    | _ => none)
  | .build t parts =>
    (match T.P.underlying t with
    | some (.struct fields) => (T.zero t).bind fun z => (parts.toList.mapM fun p => (fields[p.1]?).bind fun fl => (T.sizeOf fl.type).map fun n => (fl.offset, n)).bind fun ps =>
        if fields.toList.all (fun fl => (T.sizeOf fl.type).isSome) then (T.opds (parts.toList.map (·.2))).map (.mka z ps, ·) else none
    | _ => none)
  | .buildSlice t len parts => (T.elem t).bind fun e => (T.sizeOf e).bind fun sz => (T.zero e).bind fun z =>
      if len * sz ≤ 256 ∧ 0 < sz ∧ (len = 0 → parts.size = 0) then (T.opds (parts.toList.map (·.2))).map (.msl len ((List.replicate len z).flatten) (parts.toList.map fun p => (p.1 * sz, sz)), ·) else none
  | .box _ x => (T.opds [x]).map (.box, ·)
  | .slice t x lo hi none => (T.elem t).bind fun e => (T.sizeOf e).bind fun sz => (T.opds (x :: (lo.toList ++ hi.toList))).map (.slc lo.isSome hi.isSome sz, ·)
  | .makeFunc (.func f) first captured => if first.size = 0 then (T.num f).bind fun id => (T.opds captured.toList).map (.mkf id, ·) else none
  | _ => none

def hintOf (d : Option Nat) : Nat := match d with | some d => (T.hint.lookup d).getD 0 | none => 0

def kind (o : Oper) : Option AK :=
  match o.op with
  | .call { callee := .value f, args, .. } => (T.opd f).bind fun f' => (T.opds args.toList).bind fun xs =>
    (match T.hintOf o.dst with
    | 0 => some (.call f' xs)
    | 1 => some (.callm f' xs)
    | 2 => some (.callo f' xs)
    | _ => none)
  | .call { callee := .builtin .append, args, argTypes } =>
    (match args.toList, argTypes.toList with
    | [x, y], [t, t'] => if t = t' then (T.elem t).bind fun e => (match T.P.info? e, T.zero e with
        | some i, some z => if 0 < i.size ∧ z.length = i.size ∧ i.bytes ≤ 128 then (T.opd x).bind fun x' => (T.opd y).map fun y' => .app i.size x' y' else none
        | _, _ => none) else none
    | _, _ => none)
  | .store t a v => (T.sizeOf t).bind fun n => (T.opd a).bind fun a' => (T.opd v).map fun v' => .st n a' v'
  | .alloc t => (T.zero t).map .new
  | .box t x => if T.hintOf o.dst = 3 then (T.sizeOf t).bind fun _ => (T.opd x).map .boxm else (T.pure o.op).map fun p => .p p.1 p.2
  | .makeSlice t l c => (T.elem t).bind fun e => (match T.P.info? e, T.zero e with
      | some i, some z => if 0 < z.length ∧ i.bytes ≤ 128 then (T.opd l).bind fun l' => (T.opd c).map fun c' => .mks z l' c' else none
      | _, _ => none)
  | .buildSlice t len parts => if T.hintOf o.dst = 3 then (T.elem t).bind fun e => (T.sizeOf e).bind fun sz => (T.zero e).bind fun z =>
      if (len + 1) * sz ≤ 256 ∧ 0 < sz ∧ 0 < len then (T.opds (parts.toList.map (·.2))).map (.mslm sz len ((List.replicate len z).flatten) (parts.toList.map fun p => (p.1 * sz, sz)) ·) else none
    else (T.pure o.op).map fun p => .p p.1 p.2
  | _ => (T.pure o.op).map fun p => .p p.1 p.2

def eff : AK → Bool
  | .p .. | .call .. => false
  | _ => true

/-- The masks of what each operation waits for, directly or through others. -/
def clo : List Oper → List Nat → List Nat
  | [], acc => acc
  | o :: r, acc => clo r (acc ++ [o.after.toList.foldl (fun s e => if Region.binds .any e then s ||| (1 <<< e.on) ||| acc.getD e.on 0 else s) 0])

def guard (ops : Array Oper) (o : Oper) : Option (Option (Nat × Bool)) :=
  match o.guard with
  | none => some none
  | some (j, want) => (match (ops[j]?).bind (·.dst) with
    | some d => if d < T.nt then some (some (d, want)) else none
    | none => none)

def dstB (nt : Nat) : Option Nat → Bool
  | some d => decide (d < nt)
  | none => true

def oper (ops : Array Oper) (h : Bool) (o : Oper) : Option Aop :=
  match T.kind o, T.guard ops o with
  | some k, some g => if dstB T.nt o.dst then some ⟨o.dst, g, k, h⟩ else none
  | _, _ => none

/-- For a region that draws its order: may operation i look at the objects? Only if every writing operation is ordered against it. -/
def hs (cl : List Nat) (effs : List Nat) (i : Nat) : Bool :=
  effs.all fun e => e == i || (cl.getD i 0).testBit e || (cl.getD e 0).testBit i

def zipH (cl effs : List Nat) (ops : Array Oper) : Nat → List Oper → Option (List Aop)
  | _, [] => some []
  | i, o :: r => (match T.oper ops (hs cl effs i) o, zipH cl effs ops (i + 1) r with
    | some a, some l => some (a :: l)
    | _, _ => none)

/-- The slots that an operation looks at. -/
def tm : Opd → List Nat
  | .t n => [n]
  | _ => []
def rdK : AK → List Nat
  | .p _ xs => xs.flatMap tm
  | .call f xs | .callm f xs | .callo f xs => tm f ++ xs.flatMap tm
  | .app _ x y => tm x ++ tm y
  | .st _ a v => tm a ++ tm v
  | .new _ => []
  | .boxm x => tm x
  | .mks _ n c => tm n ++ tm c
  | .mslm _ _ _ _ xs => xs.flatMap tm
def rd (o : Aop) : List Nat := rdK o.k ++ (match o.g with | some (g, _) => [g] | none => [])
def apartB (x y : Aop) : Bool :=
  (match x.dst with | some d => !(rd y).contains d && y.dst != some d | none => true) &&
  (match y.dst with | some d => !(rd x).contains d | none => true)
def isC : AK → Bool
  | .call .. | .callm .. | .callo .. => true
  | _ => false
def calmB (x y : Aop) : Bool := !(eff x.k && eff y.k) && !(eff x.k && y.h) && !(eff y.k && x.h) && !((isC x.k && isC y.k) && (eff x.k || eff y.k))
def mayB (x y : Aop) : Bool := apartB x y && calmB x y
/-- Each operation against those ahead of it. -/
def pairsB (mask : Nat) (y : Aop) : Nat → List Aop → Bool
  | _, [] => true
  | i, x :: r => (mask.testBit i || mayB x y) && pairsB mask y (i + 1) r
def regB (cl : List Nat) : Nat → List Aop → List Aop → Bool
  | _, _, [] => true
  | j, done, y :: r => pairsB (cl.getD j 0) y 0 done && regB cl (j + 1) (done ++ [y]) r
def backB : Nat → List Oper → Bool
  | _, [] => true
  | j, o :: r => o.after.toList.all (fun e => !Region.binds .any e || decide (e.on < j)) && backB (j + 1) r

def region (ops : Array Oper) (draw : Bool) : Option (List Aop) :=
  if draw then
    let ks := ops.toList.map T.kind
    let effs := (List.range ops.size).filter fun i => (match ks[i]? with | some (some k) => eff k | _ => false)
    let cl := clo ops.toList []
    match zipH T cl effs ops 0 ops.toList with
    | some l => if backB 0 ops.toList && regB cl 0 [] l && T.P.follows .mixedOrders then some l else none
    | none => none
  else ops.toList.mapM (T.oper ops true)

def enum : Nat → List Aop → List (Nat × Aop)
  | _, [] => []
  | k, x :: r => (k, x) :: enum (k + 1) r
def ins (A : Nat) (p : Nat × Aop) : List (Nat × Aop) → List (Nat × Aop)
  | [] => [p]
  | q :: r => if q.1 = A then p :: q :: r else q :: ins A p r
/-- Each operation against those ahead of it, but for one pair. -/
def ordB (cl : List Nat) (A B : Nat) : List (Nat × Aop) → List (Nat × Aop) → Bool
  | _, [] => true
  | done, p :: r => done.all (fun q => q.1 != p.1 && ((cl.getD p.1 0).testBit q.1 || mayB q.2 p.2 || (q.1 == A && p.1 == B))) && ordB cl A B (done ++ [p]) r
def zipG (h : Nat → Bool) (ops : Array Oper) : Nat → List Oper → Option (List Aop)
  | _, [] => some []
  | i, o :: r => (match T.oper ops (h i) o, zipG h ops (i + 1) r with
    | some a, some l => some (a :: l)
    | _, _ => none)
def confl (cl : List Nat) : List (Nat × Aop) → List (Nat × Aop) → List (Nat × Nat)
  | _, [] => []
  | done, p :: r => (done.filter fun q => !((cl.getD p.1 0).testBit q.1 || mayB q.2 p.2)).map (fun q => (q.1, p.1)) ++ confl cl (done ++ [p]) r
/-- A region with one pair of unordered operations that do not change places: both orders. -/
def region2 (ops : Array Oper) : Option (List Aop × List Aop) :=
  let ks := ops.toList.map T.kind
  let effs := (List.range ops.size).filter fun i => (match ks[i]? with | some (some k) => eff k | _ => false)
  let cl := clo ops.toList []
  match T.zipG (fun i => hs cl effs i || effs.contains i) ops 0 ops.toList with
  | some l =>
    (match confl cl [] (enum 0 l) with
    | [(A, B)] => (match (enum 0 l).find? (fun p => p.1 == B) with
      | some p => if A != B && backB 0 ops.toList && l.all (fun x => !isC x.k) && ordB cl A B [] (enum 0 l) && ordB cl B A [] (ins A p ((enum 0 l).filter fun q => q.1 != B)) && T.P.follows .mixedOrders
          then some (l, (ins A p ((enum 0 l).filter fun q => q.1 != B)).map (·.2)) else none
      | none => none)
    | _ => none)
  | none => none

def code : Code → Option Cd
  | .skip => some .skip
  | .region _ ops draw => (match T.region ops draw with
    | some l => some (.reg l draw)
    | none => if draw then (T.region2 ops).map fun p => .both (.reg p.1 true) (.reg p.2 true) else none)
  | .seq a b => (code a).bind fun a => (code b).map fun b => .seq a b
  | .cond c a b => (T.opd c).bind fun c => (code a).bind fun a => (code b).map fun b => .cond c a b
  | .block id b => (code b).map (.block id)
  | .loop b => (code b).map .loop
  | .exit id => some (.exit id)
  | .scope b => (code b).map .scope
  | .label _ => some .label
  | .ret => some .ret
  | _ => none

def rv : ResultVar → Option Rv
  | .tmp t => if t < T.nt then some (.tmp t) else none
  | .cell t ty => if t < T.nt then (T.shape ty).map (.cell t) else none
end Tr

/-- The compact form of a function. -/
def fd (P : Program) (num : FuncId → Option Nat) (hint : List (Nat × Nat)) (fn : Func) : Option Fd :=
  let T : Tr := ⟨P, num, hint, fn.ntmps⟩
  match fn.body with
  | some c => if fn.params.size + fn.nfree ≤ fn.ntmps then (T.code c).bind fun b => (fn.results.toList.mapM T.rv).map fun rs => ⟨fn.params.size + fn.nfree, fn.ntmps, rs, b⟩ else none
  | none => none

end Go.Av
