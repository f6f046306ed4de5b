/-
  The compact code once more, with copies gone, guards as branches and one number for each value: what is to be shown of it, and that this suffices.
-/
import Derived.Test.YtbgaobcgpkjjkaaAvCore
namespace Go.Av

inductive Vc where
  | op (h : Bool) (k : AK) (rest : Vc)
  | br (c : Nat) (a b : Vc)
  | both (a b : Vc)
  | loop (d : Nat) (init : List Opd) (body : Vc)
  | again (d : Nat) (es : List Opd)
  | ret (rs : List (Opd × Option (Option Nat)))

def puts (vars : Nat → AV) (n : Nat) : List AV → Nat → AV
  | [] => vars
  | u :: us => puts (put vars n u) (n + 1) us

def rets (vars : Nat → AV) (H : Hp) : List (Opd × Option (Option Nat)) → Option (List AV)
  | [] => some []
  | (x, none) :: r => (rets vars H r).map (ev vars x :: ·)
  | (x, some n) :: r => (match pLd H n [ev vars x] with | some u => (rets vars H r).map (u :: ·) | none => none)
def retOf (vars : Nat → AV) (H : Hp) (l : List (Opd × Option (Option Nat))) : Option AV :=
  match rets vars H l with
  | some [x] => some x
  | some xs => some (.tup xs)
  | none => none

abbrev Inv := List AV → Hp → Nat → Prop
def noInv : Nat → Inv := fun _ _ _ _ => False
def iput (Is : Nat → Inv) (d : Nat) (J : Inv) : Nat → Inv := fun t => if t = d then J else Is t

def den (C : Ct) (Φ : AV → Hp → Nat → Prop) : Vc → Nat → (Nat → AV) → Hp → Nat → (Nat → Inv) → Prop
  | .op h k rest, n, vars, H, nx, Is => stepK C ⟨some n, none, k, h⟩ ⟨vars, H, nx⟩ fun s' => den C Φ rest (n + 1) s'.env s'.heap s'.next Is
  | .br c a b, n, vars, H, nx, Is =>
    match vars c with
    | .v (.bool t) => (t = true → den C Φ a n vars H nx Is) ∧ (t = false → den C Φ b n vars H nx Is)
    | _ => False
  | .both a b, n, vars, H, nx, Is => den C Φ a n vars H nx Is ∧ den C Φ b n vars H nx Is
  | .loop d init body, n, vars, H, nx, Is => ∃ (I : Inv) (μ : List AV → Hp → Nat → Nat), I (init.map (ev vars)) H nx ∧
      ∀ us H' nx', us.length = init.length → I us H' nx' → den C Φ body (n + init.length) (puts vars n us) H' nx' (iput Is d fun us' H'' nx'' => I us' H'' nx'' ∧ μ us' H'' nx'' < μ us H' nx')
  | .again d es, _, vars, H, nx, Is => Is d (es.map (ev vars)) H nx
  | .ret rs, _, vars, H, nx, _ => ∃ r, retOf vars H rs = some r ∧ ∃ H', Sub H' H ∧ Φ r H' nx

/-- What is known of the slots: for each the value's number or the constant; and of which numbers the truth value is known. -/
structure Sg where
  σ : Nat → Option Opd
  ρ : List (Nat × Bool)

def Sg.put (g : Sg) (d : Option Nat) (x : Option Opd) : Sg :=
  match d with
  | some d => { g with σ := fun t => if t = d then x else g.σ t }
  | none => g
def Sg.opd (g : Sg) : Opd → Option Opd
  | .t n => g.σ n
  | x => some x
def Sg.opds (g : Sg) (l : List Opd) : Option (List Opd) := l.mapM g.opd

/-- What an atom is known to be as a truth value: known; or a number to part on. -/
inductive Tv where
  | known (b : Bool)
  | ask (i : Nat)
  | undef
def Sg.tv (g : Sg) : Opd → Option Tv
  | .t i => (match g.ρ.lookup i with | some b => some (.known b) | none => some (.ask i))
  | .c (.v (.bool b)) => some (.known b)
  | .c (.v _) => some .undef
  | _ => none
def Sg.know (g : Sg) (i : Nat) (b : Bool) : Sg := { g with ρ := (i, b) :: g.ρ }

def AK.sub (g : Sg) : AK → Option AK
  | .p op xs => (g.opds xs).map (.p op)
  | .call f xs => (g.opd f).bind fun f => (g.opds xs).map (.call f)
  | .callm f xs => (g.opd f).bind fun f => (g.opds xs).map (.callm f)
  | .callo f xs => (g.opd f).bind fun f => (g.opds xs).map (.callo f)
  | .app sz x y => (g.opd x).bind fun x => (g.opd y).map (.app sz x)
  | .st n a v => (g.opd a).bind fun a => (g.opd v).map (.st n a)
  | .new z => some (.new z)
  | .boxm x => (g.opd x).map .boxm
  | .mks z n c => (g.opd n).bind fun n => (g.opd c).map (.mks z n)
  | .mslm sz n z ps xs => (g.opds xs).map (.mslm sz n z ps)

abbrev Kt := Ex → Sg → Nat → Option Vc

/-- A pick between known alternatives, a copy: no operation. -/
def copyOf (g : Sg) : AK → Option Opd
  | .p .mov [x] => g.opd x
  | .p .pick [c, a, b] =>
    (match (g.opd c).bind g.tv with
    | some (.known true) => g.opd a
    | some (.known false) => g.opd b
    | _ => none)
  | _ => none

def symStep (o : Aop) (g : Sg) (n : Nat) (k : Sg → Nat → Option Vc) : Option Vc :=
  match copyOf g o.k with
  | some x => k (g.put o.dst (some x)) n
  | none => (o.k.sub g).bind fun ak => (k (g.put o.dst (some (.t n))) (n + 1)).map (.op o.h ak)

def symOp (o : Aop) (g : Sg) (n : Nat) (k : Sg → Nat → Option Vc) : Option Vc :=
  match o.g with
  | none => symStep o g n k
  | some (s, want) =>
    match (g.σ s).bind g.tv with
    | some (.known b) => if b = want then symStep o g n k else k (g.put o.dst (some (.c (.v undef)))) n
    | some .undef => k (g.put o.dst (some (.c (.v undef)))) n
    | some (.ask i) =>
      (symStep o (g.know i want) n k).bind fun y => (k ((g.know i (!want)).put o.dst (some (.c (.v undef)))) n).map fun z => if want then .br i y z else .br i z y
    | none => none

def symOps : List Aop → Sg → Nat → (Sg → Nat → Option Vc) → Option Vc
  | [], g, n, k => k g n
  | o :: r, g, n, k => symOp o g n fun g n => symOps r g n k

def dsts : List Aop → List Nat
  | [] => []
  | o :: r => (match o.dst with | some d => [d] | none => []) ++ dsts r
def mods : Cd → List Nat
  | .reg ops _ => dsts ops
  | .seq a b => mods a ++ mods b
  | .both a b => mods a ++ mods b
  | .cond _ a b => mods a ++ mods b
  | .block _ b | .loop b | .scope b => mods b
  | _ => []

def nub : List Nat → List Nat
  | [] => []
  | a :: r => if r.contains a then nub r else a :: nub r
def carried (ex : List Nat) (g : Sg) (ms : List Nat) : List Nat := (nub ms).filter fun t => (g.σ t).isSome && !ex.contains t

/-- The slots at a loop's head: the carried ones by new numbers, what the loop writes besides: forgotten. -/
def headσ (g : Sg) (ms cs : List Nat) (n : Nat) : Sg :=
  { g with σ := fun t => (match cs.idxOf? t with
      | some i => some (.t (n + i))
      | none => if ms.contains t then none else g.σ t) }

def sym (ex : List Nat) : Nat → Cd → Kt → Sg → Nat → Option Vc
  | _, .skip, k, g, n => k .normal g n
  | _, .reg ops _, k, g, n => symOps ops g n (k .normal)
  | d, .both a b, k, g, n => (sym ex d a k g n).bind fun y => (sym ex d b k g n).map fun z => .both y z
  | d, .seq a b, k, g, n => sym ex d a (fun e g n => match e with | .normal => sym ex d b k g n | e => k e g n) g n
  | d, .cond c a b, k, g, n =>
    (match (g.opd c).bind g.tv with
    | some (.known true) => sym ex d a k g n
    | some (.known false) => sym ex d b k g n
    | some (.ask i) => (sym ex d a k (g.know i true) n).bind fun y => (sym ex d b k (g.know i false) n).map fun z => .br i y z
    | _ => none)
  | d, .block id b, k, g, n => sym ex d b (fun e g n => match e with | .exit id' => if id' = id then k .normal g n else k (.exit id') g n | e => k e g n) g n
  | d, .loop b, k, g, n =>
    let ms := mods b
    let cs := carried ex g ms
    (cs.mapM g.σ).bind fun init =>
      (sym ex (d + 1) b (fun e g n => match e with | .normal => (cs.mapM g.σ).map (.again d) | e => k e g n) (headσ g ms cs n) (n + cs.length)).map (.loop d init)
  | _, .exit id, k, g, n => k (.exit id) g n
  | d, .scope b, k, g, n => sym ex d b k g n
  | _, .label, k, g, n => k .normal g n
  | _, .ret, k, g, n => k .ret g n

def symRet (res : List Rv) (g : Sg) : Option Vc :=
  (res.mapM fun (r : Rv) => match r with
    | .tmp t => (g.σ t).map fun x => (x, none)
    | .cell t n => (g.σ t).map fun x => (x, some n)).map .ret
def resTmps : List Rv → List Nat
  | [] => []
  | .tmp t :: r => t :: resTmps r
  | _ :: r => resTmps r
def symF (f : Fd) : Option Vc :=
  sym (resTmps f.res) 0 f.body (fun e g _ => match e with | .exit _ => none | _ => symRet f.res g) ⟨fun t => if t < f.np then some (.t t) else none, []⟩ f.np

end Go.Av
