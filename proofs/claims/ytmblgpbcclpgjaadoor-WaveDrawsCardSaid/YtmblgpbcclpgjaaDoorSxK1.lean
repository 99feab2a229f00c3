/- The typed evaluator of the model's code and its soundness, part 1: what is used to prove the law; it has no condition. -/
import GoSem.Machine.Start
import Derived.KernelRfl
import Derived.Below
import Derived.WalkKit
import Derived.Laws.AppendOwn
import Derived.Deep.MidRow
import Derived.Laws.StructEq
import Derived.Laws.Concat
import Derived.Laws.Cover1
-- SX: Prim
namespace Go.SX
set_option linter.unusedVariables false

/-- codes of types -/
inductive Ty where
  | int (k : IntKind) | bool | str
  | snil | scons (t r : Ty)
  | arr (n : Nat) (t : Ty)
  | slice (t : Ty)
  | vec (st : Bool) (t : Ty)      -- a slice that its object owns
  | bld (e u : Nat)               -- a strings.Builder: its type, its bytes' type
  deriving DecidableEq, Inhabited

/-- what a datum of a type is -/
@[reducible] def Ty.D : Ty → Type
  | .int _ => Int
  | .bool => Bool
  | .str => List Int
  | .snil => Unit
  | .scons t r => t.D × r.D
  | .arr _ t => List t.D
  | .slice t => List t.D
  | .vec _ t => List t.D
  | .bld _ _ => List Int

/-- the zero value -/
def Ty.dflt : (τ : Ty) → τ.D
  | .int _ => (0 : Int)
  | .bool => false
  | .str => ([] : List Int)
  | .snil => ()
  | .scons t r => (t.dflt, r.dflt)
  | .arr n t => List.replicate n t.dflt
  | .slice _ => []
  | .vec _ _ => []
  | .bld _ _ => ([] : List Int)

def iadd (k : IntKind) (x y : Int) : Int := k.wrap (x + y)
def isub (k : IntKind) (x y : Int) : Int := k.wrap (x - y)
def imul (k : IntKind) (x y : Int) : Int := k.wrap (x * y)
def iquo (k : IntKind) (x y : Int) : Int := k.wrap (x.tdiv y)
def irem (k : IntKind) (x y : Int) : Int := x.tmod y
def iand (k : IntKind) (x y : Int) : Int := k.wrap (BitVec.ofInt k.bits x &&& BitVec.ofInt k.bits y).toNat
def ior (k : IntKind) (x y : Int) : Int := k.wrap (BitVec.ofInt k.bits x ||| BitVec.ofInt k.bits y).toNat
def ixor (k : IntKind) (x y : Int) : Int := k.wrap (BitVec.ofInt k.bits x ^^^ BitVec.ofInt k.bits y).toNat
def iandn (k : IntKind) (x y : Int) : Int := k.wrap (BitVec.ofInt k.bits x &&& ~~~ BitVec.ofInt k.bits y).toNat
def ishl (k : IntKind) (x y : Int) : Int := k.wrap (x * 2 ^ (min y.toNat k.bits))
def ishr (k : IntKind) (x y : Int) : Int := x.fdiv (2 ^ (min y.toNat k.bits))
def iconv (k : IntKind) (x : Int) : Int := k.wrap x
def imin (x y : Int) : Int := if y < x then y else x
def imax (x y : Int) : Int := if y > x then y else x
def ieq (x y : Int) : Bool := x == y
def ilt (x y : Int) : Bool := decide (x < y)
def ile (x y : Int) : Bool := decide (x ≤ y)
def beqb (x y : Bool) : Bool := x == y
def bnot (x : Bool) : Bool := !x
def band (x y : Bool) : Bool := x && y
def bor (x y : Bool) : Bool := x || y
/-- strings are the lists of their bytes -/
def seq (x y : List Int) : Bool := x == y
def slt : List Int → List Int → Bool
  | _, [] => false
  | [], _ :: _ => true
  | a :: x, b :: y => decide (a < b) || (a == b && slt x y)
/-- is the index one? -/
def inb (i n : Int) : Bool := decide (0 ≤ i) && decide (i < n)
/-- are these bounds of a part, of n? -/
def inp (lo hi n : Int) : Bool := decide (0 ≤ lo) && (decide (lo ≤ hi) && decide (hi ≤ n))
def len {α : Type} (l : List α) : Int := (l.length : Int)
def rd (τ : Ty) (l : List τ.D) (i : Int) : τ.D := l.getD i.toNat τ.dflt
def upd {α : Type} (l : List α) (i : Int) (x : α) : List α := l.set i.toNat x
def app {α : Type} (l m : List α) : List α := l ++ m
def part {α : Type} (l : List α) (lo hi : Int) : List α := (l.take hi.toNat).drop lo.toNat
def zeros (τ : Ty) (n : Int) : List τ.D := List.replicate n.toNat τ.dflt
/-- the bound on what is put together -/
def appLim : Nat := 1099511627776
def fits {α β : Type} (l : List α) (m : List β) : Bool := decide (l.length + m.length < appLim)
def fitsN (n : Int) : Bool := decide (0 ≤ n) && decide (n < 1099511627776)

def eqD : (τ : Ty) → τ.D → τ.D → Bool
  | .int _, x, y => let a : Int := x; let b : Int := y; a == b
  | .bool, x, y => let a : Bool := x; let b : Bool := y; a == b
  | .str, x, y => let a : List Int := x; let b : List Int := y; a == b
  | .snil, _, _ => true
  | .scons t r, x, y => eqD t x.1 y.1 && eqD r x.2 y.2
  | .arr _ t, x, y => (List.zipWith (eqD t) x y).all id
  | .slice _, _, _ => false
  | .vec _ _, _, _ => false
  | .bld _ _, _, _ => false

/-- an index, as a number of its place -/
@[reducible] def tn (i : Int) : Nat := i.toNat
/-- go on, if it holds -/
def chk {R : Type} (b : Bool) (x : Option R) : Option R := bif b then x else none
/-- one way or the other -/
def br {R : Type} (b : Bool) (x y : Option R) : Option R := bif b then x else y
/-- go on with what a call, or a loop, answers -/
def obnd {A R : Type} (x : Option A) (f : A → Option R) : Option R := x.bind f
/-- what a loop answers: the function's results; or what there is behind the loop -/
inductive LR (ρ β : Type) where
  | ret (r : ρ)
  | out (b : β)
def lcase {ρ β R : Type} (x : LR ρ β) (f : ρ → Option R) (g : β → Option R) : Option R :=
  match x with
  | .ret r => f r
  | .out b => g b

end Go.SX

-- SX: Base
namespace Go.SX
set_option linter.unusedVariables false

def Ty.size : Ty → Nat
  | .snil => 0
  | .scons t r => t.size + r.size
  | .arr n t => n * t.size
  | .bld _ _ => 2
  | _ => 1

inductive PStep where
  | fld (i : Nat) | idx (i : Nat)

inductive V where
  | undef
  | dat (τ : Ty) (x : τ.D)
  | cst (v : Value)
  | nilsl
  | nilp
  | ptr (o : Nat) (τ : Ty) (path : List PStep)
  | ep (τ : Ty) (x : τ.D)
  | elp (t : Nat) (ver : Nat) (τ : Ty) (i : Nat) (path : List PStep)
  | own (τ : Ty) (l : List τ.D) (w ap : Bool) (ver : Nat)      -- w: may its elements be written? ap: may one append to it?
  | al (t : Nat) (ver : Nat)
  | vw (o : Nat) (τ : Ty) (path : List PStep) (lo hi : Int)
  | tup (vs : List V)
  | fn (f : Nat)
  deriving Inhabited

inductive Ob where
  | none
  | var (τ : Ty) (x : τ.D)
  | ro (τ : Ty) (x : τ.D)      -- only read
  | vob (τ : Ty) (x : τ.D) (k : Nat)     -- one that owns memory
  | gone                       -- a parameter's, of which nothing is known
  deriving Inhabited
def Ob.off : Ob → Bool
  | .none => true
  | .gone => true
  | _ => false

structure St where
  env : List V
  objs : List Ob
  used : List Bool      -- the numbers of slots' contents that have been given

def bytesD (b : ByteArray) : List Int := b.data.toList.map fun c => (c.toNat : Int)

def constV : Value → V
  | .bool b => .dat .bool b
  | .int k n => match decide (k.wrap n = n) with | true => .dat (.int k) n | false => .undef
  | .string s => match Nat.ble s.data.toList.length 1000000 with | true => .dat .str (bytesD s) | false => .undef
  | .slice Option.none 0 0 => .nilsl
  | .pointer Option.none => .nilp
  | v => .cst v

def St.get (s : St) (t : Nat) : V := s.env.getD t .undef
def St.put (s : St) (t : Nat) (v : V) : St := { s with env := s.env.set t v }
def St.ob (s : St) (o : Nat) : Ob := s.objs.getD o .none
def St.setOb (s : St) (o : Nat) (x : Ob) : St := { s with objs := s.objs.set o x }

def St.use (s : St) (n : Nat) : St := { s with used := s.used.set n true }

def cast? {τ' : Ty} (τ : Ty) (x : τ'.D) : Option τ.D := if h : τ' = τ then some (h ▸ x) else none
def castL {τ' : Ty} (τ : Ty) (x : List τ'.D) : Option (List τ.D) := if h : τ' = τ then some (h ▸ x) else none

/-- what an operation does: reads, checks, writes -/
inductive Cmd where
  | fail
  | ok (v : V)
  | get (t : Nat) (k : V → Cmd)
  | slot (t : Nat) (v : V) (k : Cmd)
  | ob (o : Nat) (k : Ob → Cmd)
  | setOb (o : Nat) (x : Ob) (k : Cmd)
  | fresh (n : Nat) (k : Cmd)
  | chk (b : Bool) (k : Cmd)
  | br (b : Bool) (k1 k2 : Cmd)
  | call (α : Ty) (x : Option α.D) (k : α.D → Cmd)

def Cmd.run {R : Type} : Cmd → St → (V → St → Option R) → Option R
  | .fail, _, _ => none
  | .ok v, s, K => K v s
  | .get t k, s, K => (k (s.get t)).run s K
  | .slot t v k, s, K => k.run (s.put t v) K
  | .ob o k, s, K => (k (s.ob o)).run s K
  | .setOb o x k, s, K => k.run (s.setOb o x) K
  | .fresh n k, s, K => match s.used.getD n true with
    | true => none
    | false => k.run (s.use n) K
  | .chk b k, s, K => SX.chk b (k.run s K)
  | .br b k1 k2, s, K => SX.br b (k1.run s K) (k2.run s K)
  | .call _ x k, s, K => obnd x fun y => (k y).run s K

def vget (x : Operand) (k : V → Cmd) : Cmd := match x with
  | .tmp t => .get t k
  | .const v => k (constV v)
  | .func f => k (.fn f)
  | .global _ => .fail

/-- a slot's content behind an alias -/
def slotOf (t ver : Nat) (k : (τ : Ty) → List τ.D → Bool → Bool → Cmd) : Cmd := .get t fun
  | .own τ l w ap ver' => match Nat.beq ver ver' with | true => k τ l w ap | false => .fail
  | _ => .fail

/-- the list of a slice: to be read at once -/
def aslist (τ : Ty) (v : V) (x : Operand) (k : List τ.D → Cmd) : Cmd := match v with
  | .dat (.slice τ') l => match castL τ l with | some l => k l | Option.none => .fail
  | .nilsl => k []
  | .own τ' l _ _ _ => match castL τ l with | some l => k l | Option.none => .fail
  | .al t ver => slotOf t ver fun τ' l _ _ => match castL τ l with | some l => k l | Option.none => .fail
  | _ => .fail

/-- has it a part that owns memory? -/
def hasOwn : Ty → Bool
  | .scons t r => hasOwn t || hasOwn r
  | .arr _ t => hasOwn t
  | .slice t => hasOwn t
  | .vec _ _ => true
  | .bld _ _ => true
  | _ => false

def isAggT : Ty → Bool
  | .snil => true
  | .scons _ _ => true
  | .arr _ _ => true
  | .bld _ _ => true
  | _ => false

/-- a constant's datum, of a type -/
def constD : (τ : Ty) → Value → Option τ.D
  | τ, .agg cs => match (aggD τ cs.toList) with
    | some (x, []) => some x
    | _ => Option.none
  | _, _ => Option.none
where
  aggD : (τ : Ty) → List Value → Option (τ.D × List Value)
  | .int k, vs => match vs with
    | .int k' n :: r => match decide (k = k' ∧ k.wrap n = n) with | true => some (n, r) | false => Option.none
    | _ => Option.none
  | .bool, vs => match vs with | .bool b :: r => some (b, r) | _ => Option.none
  | .str, vs => match vs with | .string s :: r => (match Nat.ble s.data.toList.length 1000000 with | true => some (bytesD s, r) | false => Option.none) | _ => Option.none
  | .snil, r => some ((), r)
  | .scons t q, r => match aggD t r with
    | some (x, r) => match aggD q r with
      | some (y, r) => some ((x, y), r)
      | Option.none => Option.none
    | Option.none => Option.none
  | .slice _, vs => match vs with | .slice Option.none 0 0 :: r => some ([], r) | _ => Option.none
  | .vec _ _, _ => Option.none
  | .bld _ _, _ => Option.none
  | .arr n t, r => rep (aggD t) n r
  rep {α : Type} (f : List Value → Option (α × List Value)) : Nat → List Value → Option (List α × List Value)
  | 0, r => some ([], r)
  | n + 1, r => match f r with
    | some (x, r) => match rep f n r with
      | some (l, r) => some (x :: l, r)
      | Option.none => Option.none
    | Option.none => Option.none

/-- a datum that is kept: a slot that it comes from is written no more -/
def keepD (τ : Ty) (v : V) (x : Operand) (k : τ.D → Cmd) : Cmd := match v with
  | .dat τ' y => match cast? τ y with | some y => k y | Option.none => .fail
  | .cst c => match isAggT τ, constD τ c with | true, some y => k y | _, _ => .fail
  | .nilsl => match τ, k with | .slice _, k => k [] | _, _ => .fail
  | .own τ' l w ap ver => match x with
    | .tmp t => match τ, k with
      | .slice τ1, k => match castL τ1 l with | some l' => .slot t (.own τ' l false ap ver) (k l') | Option.none => .fail
      | _, _ => .fail
    | _ => .fail
  | .al t ver => slotOf t ver fun τ' l w ap => match τ, k with
    | .slice τ1, k => match castL τ1 l with | some l' => .slot t (.own τ' l false ap ver) (k l') | Option.none => .fail
    | _, _ => .fail
  | _ => .fail

def projV : (τ : Ty) → τ.D → Nat → V
  | .scons t _, x, 0 => .dat t x.1
  | .scons _ r, x, i + 1 => projV r x.2 i
  | _, _, _ => .undef
def projE : (τ : Ty) → τ.D → Nat → V
  | .scons t _, x, 0 => .ep t x.1
  | .scons _ r, x, i + 1 => projE r x.2 i
  | _, _, _ => .undef

/-- the type of a field -/
def fldT : Ty → Nat → Option Ty
  | .scons t _, 0 => some t
  | .scons _ r, i + 1 => fldT r i
  | _, _ => Option.none
/-- the type at a path -/
def tyP : List PStep → Ty → Option Ty
  | [], τ => some τ
  | .fld i :: p, τ => match fldT τ i with
    | some t => tyP p t
    | Option.none => Option.none
  | .idx _ :: p, τ => match τ with
    | .arr _ t => tyP p t
    | _ => Option.none
termination_by structural p => p

def fldG {β : Type} : (τ : Ty) → τ.D → Nat → ((σ : Ty) → σ.D → β) → β → β
  | .scons t _, x, 0, k, _ => k t x.1
  | .scons _ r, x, i + 1, k, z => fldG r x.2 i k z
  | _, _, _, _, z => z
termination_by structural τ => τ
def getP {β : Type} : List PStep → (τ : Ty) → τ.D → ((σ : Ty) → σ.D → β) → β → β
  | [], τ, x, k, _ => k τ x
  | .fld i :: p, τ, x, k, z => fldG τ x i (fun σ y => getP p σ y k z) z
  | .idx i :: p, τ, x, k, z => match τ, x with
    | .arr _ t, x => getP p t (rd t x (i : Nat)) k z
    | _, _ => z
termination_by structural p => p

def fldS : (τ : Ty) → τ.D → Nat → ((σ : Ty) → σ.D → Option σ.D) → Option τ.D
  | .scons t _, x, 0, v => match v t x.1 with
    | some y => some (y, x.2)
    | Option.none => Option.none
  | .scons _ r, x, i + 1, v => match fldS r x.2 i v with
    | some y => some (x.1, y)
    | Option.none => Option.none
  | _, _, _, _ => Option.none
termination_by structural τ => τ
def setP : List PStep → (τ : Ty) → τ.D → ((σ : Ty) → Option σ.D) → Option τ.D
  | [], τ, _, v => v τ
  | .fld i :: p, τ, x, v => fldS τ x i (fun σ y => setP p σ y v)
  | .idx i :: p, τ, x, v => match τ, x with
    | .arr _ t, x => match setP p t (rd t x (i : Nat)) v with
      | some y => some (upd x (i : Nat) y)
      | Option.none => Option.none
    | _, _ => Option.none
termination_by structural p => p

end Go.SX

-- SX: Eval
namespace Go.SX
set_option linter.unusedVariables false

/-- how a parameter is handed over: by value; behind a pointer, and back; behind a pointer, to be read -/
inductive PK where
  | val (τ : Ty) | ref (τ : Ty) | ro (τ : Ty)
/-- a result: plain; a slice of the callee's own -/
inductive RK where
  | val (τ : Ty) | own (τ : Ty) (w : Bool)

@[reducible] def PK.ty : PK → Ty | .val τ => τ | .ref τ => τ | .ro τ => τ
@[reducible] def RK.ty : RK → Ty | .val τ => τ | .own τ _ => .slice τ
@[reducible] def argT : List PK → Ty
  | [] => .snil
  | p :: r => .scons p.ty (argT r)
@[reducible] def refT : List PK → Ty
  | [] => .snil
  | .ref τ :: r => .scons τ (refT r)
  | _ :: r => refT r
@[reducible] def resT : List RK → Ty → Ty
  | [], q => q
  | p :: r, q => .scons p.ty (resT r q)

def hasSlice : Ty → Bool
  | .slice _ => true
  | .scons t r => hasSlice t || hasSlice r
  | .arr _ t => hasSlice t
  | _ => false

structure Con where
  f : Nat
  ps : List PK
  rs : List RK
  F : (argT ps).D → Option (resT rs (refT ps)).D
  bk : Nat := 0       -- a strings.Builder's: 1 WriteString, 2 WriteByte, 3 String

def Con.keeps (c : Con) : Bool := hasSlice (resT c.rs (refT c.ps))

def readD (τ : Ty) (v : V) (x : Operand) (k : τ.D → Cmd) : Cmd := match v with
  | .dat τ' y => match cast? τ y with | some y => k y | Option.none => .fail
  | .cst c => match isAggT τ, constD τ c with | true, some y => k y | _, _ => .fail
  | .nilsl => match τ, k with | .slice _, k => k [] | _, _ => .fail
  | .own τ' l w ap ver => match τ, k with
    | .slice τ1, k => match castL τ1 l with | some l' => k l' | Option.none => .fail
    | _, _ => .fail
  | .al t ver => slotOf t ver fun τ' l w ap => match τ, k with
    | .slice τ1, k => match castL τ1 l with | some l' => k l' | Option.none => .fail
    | _, _ => .fail
  | _ => .fail

/-- a datum behind a pointer -/
def derefD (τ : Ty) (v : V) (k : τ.D → Cmd) : Cmd := match v with
  | .ptr o τo p => .ob o fun
    | .var τ1 y => match cast? τo y with
      | some y => getP p τo y (fun σ z => match cast? τ z with | some z => k z | Option.none => .fail) .fail
      | Option.none => .fail
    | .ro τ1 y => match cast? τo y with
      | some y => getP p τo y (fun σ z => match cast? τ z with | some z => k z | Option.none => .fail) .fail
      | Option.none => .fail
    | _ => .fail
  | _ => .fail

/-- a datum behind a pointer, of an object that may be written -/
def derefW (τ : Ty) (v : V) (k : τ.D → Cmd) : Cmd := match v with
  | .ptr o τo p => .ob o fun
    | .var τ1 y => match cast? τo y with
      | some y => getP p τo y (fun σ z => match cast? τ z with | some z => k z | Option.none => .fail) .fail
      | Option.none => .fail
    | _ => .fail
  | _ => .fail

/-- the arguments; beside them, the pointers -/
def gather (keep : Bool) : (ps : List PK) → List Operand → ((argT ps).D → List V → Cmd) → Cmd
  | [], [], k => k () []
  | .val τ :: ps, x :: xs, k => vget x fun v => match keep with
    | true => keepD τ v x fun y => gather keep ps xs fun r vs => k (y, r) vs
    | false => readD τ v x fun y => gather keep ps xs fun r vs => k (y, r) vs
  | .ref τ :: ps, x :: xs, k => vget x fun v => derefW τ v fun y => gather keep ps xs fun r vs => k (y, r) (v :: vs)
  | .ro τ :: ps, x :: xs, k => vget x fun v => derefD τ v fun y => gather keep ps xs fun r vs => k (y, r) (v :: vs)
  | _, _, _ => .fail

/-- a datum behind a pointer becomes another one -/
def storeD (τ : Ty) (v : V) (z : τ.D) (k : Cmd) : Cmd := match v with
  | .ptr o τo p => .ob o fun
    | .var τ1 y => match cast? τo y with
      | some y => match setP p τo y (fun σ => cast? σ z) with
        | some y => .setOb o (.var τo y) k
        | Option.none => .fail
      | Option.none => .fail
    | _ => .fail
  | _ => .fail

def giveRefs : (ps : List PK) → List V → (refT ps).D → Cmd → Cmd
  | [], _, _, k => k
  | .val _ :: ps, vs, r, k => giveRefs ps vs r k
  | .ro _ :: ps, _ :: vs, r, k => giveRefs ps vs r k
  | .ref τ :: ps, v :: vs, r, k => storeD τ v r.1 (giveRefs ps vs r.2 k)
  | _, _, _, _ => .fail

def resVs (d : Nat) : (rs : List RK) → (q : Ty) → (resT rs q).D → (List V → q.D → Cmd) → Cmd
  | [], _, r, k => k [] r
  | .val τ :: rs, q, r, k => resVs d rs q r.2 fun vs y => k (.dat τ r.1 :: vs) y
  | .own τ w :: rs, q, r, k => resVs d rs q r.2 fun vs y => k (.own τ r.1 w true d :: vs) y

def oneV : List V → V
  | [v] => v
  | vs => .tup vs

/-- the objects that are handed over are unlike -/
def objsOf : List V → List Nat
  | .ptr o _ _ :: vs => o :: objsOf vs
  | _ :: vs => objsOf vs
  | [] => []
def nodupB : List Nat → Bool
  | [] => true
  | a :: l => !(l.elem a) && nodupB l
/-- results of the callee's own take a number of their own each: the first takes 'd', the rest none -/
def ownNo : List RK → Nat
  | [] => 0
  | .own _ _ :: r => ownNo r + 1
  | _ :: r => ownNo r
def freshIf (b : Bool) (d : Nat) (k : Cmd) : Cmd := match b with | true => .fresh d k | false => k

/-- a builder -/
def bldOf (e u : Nat) (v : V) (k : Nat → List Int → Nat → Cmd) : Cmd := match v with
  | .ptr o (.bld e1 u1) [] => .ob o fun
    | .vob (.bld e2 u2) x n => match (Nat.beq e e1 && Nat.beq u u1) && (Nat.beq e e2 && Nat.beq u u2) with
      | true => k o x n
      | false => .fail
    | _ => .fail
  | _ => .fail
def bldCmd (bk e u : Nat) : List Operand → Cmd
  | [a, b] => vget a fun va => vget b fun vb => bldOf e u va fun o x n => match Nat.beq bk 1, Nat.beq bk 2, vb with
    | true, _, .dat .str s => .chk (fits (α := Int) (β := Int) x s) (.setOb o (.vob (.bld e u) (app (α := Int) x s) n) (.ok .undef))
    | _, true, .dat (.int .u8) c => .chk (fits (α := Int) (β := Int) x [c]) (.setOb o (.vob (.bld e u) (app (α := Int) x [c]) n) (.ok .undef))
    | _, _, _ => .fail
  | [a] => vget a fun va => bldOf e u va fun o x n => match Nat.beq bk 3 with
    | true => .ok (.dat .str x)
    | false => .fail
  | _ => .fail

def callCmd0 (c : Con) (d : Nat) (xs : List Operand) : Cmd :=
  gather c.keeps c.ps xs fun a vs => match nodupB (objsOf vs) with
    | true => .call (resT c.rs (refT c.ps)) (c.F a) fun r =>
        match Nat.ble (ownNo c.rs) 1 && Nat.ble c.rs.length 1000 with
        | true => freshIf (Nat.beq (ownNo c.rs) 1) d (resVs d c.rs (refT c.ps) r fun rs q => giveRefs c.ps vs q (.ok (oneV rs)))
        | false => .fail
    | false => .fail

def callCmd (c : Con) (d : Nat) (xs : List Operand) : Cmd := match Nat.beq c.bk 0 with
  | true => callCmd0 c d xs
  | false => match c.ps with
    | [.val (.bld e u)] => bldCmd c.bk e u xs
    | _ => .fail

/-- a struct, field by field, out of its zero value -/
def buildCmd (τ : Ty) : List (Nat × Operand) → τ.D → (τ.D → Cmd) → Cmd
  | [], x, k => k x
  | (i, o) :: ps, x, k => match fldT τ i with
    | some φ => vget o fun v => keepD φ v o fun y => match fldS τ x i (fun σ _ => cast? σ y) with
      | some x' => buildCmd τ ps x' k
      | Option.none => .fail
    | Option.none => .fail

/-- elements, one by one, out of zeros -/
def elemsCmd (τ : Ty) : List (Nat × Operand) → List τ.D → (List τ.D → Cmd) → Cmd
  | [], l, k => k l
  | (i, o) :: ps, l, k => match Nat.blt i l.length with
    | true => vget o fun v => keepD τ v o fun y => elemsCmd τ ps (l.set i y) k
    | false => .fail

/-- may two of them be held against each other? -/
def cmpT : Ty → Bool
  | .int _ => true
  | .bool => true
  | .str => true
  | .snil => true
  | .scons t r => cmpT t && cmpT r
  | _ => false

def nest : Ty → Nat
  | .scons t r => max (nest t + 1) (nest r)
  | _ => 1

def binCmd (T : List (Option Ty)) (op : BinOp) (xt : Nat) (x y : V) : Cmd :=
  match x, y with
  | .dat (.int k) a, .dat (.int k') b => match op with
    | .shl => .chk (ile 0 b) (.ok (.dat (.int k) (ishl k a b)))
    | .shr => .chk (ile 0 b) (.ok (.dat (.int k) (ishr k a b)))
    | op => match decide (k = k') with
      | true => match op with
        | .add => .ok (.dat (.int k) (iadd k a b))
        | .sub => .ok (.dat (.int k) (isub k a b))
        | .mul => .ok (.dat (.int k) (imul k a b))
        | .quo => .chk (bnot (ieq b 0)) (.ok (.dat (.int k) (iquo k a b)))
        | .rem => .chk (bnot (ieq b 0)) (.ok (.dat (.int k) (irem k a b)))
        | .and => .ok (.dat (.int k) (iand k a b))
        | .or => .ok (.dat (.int k) (ior k a b))
        | .xor => .ok (.dat (.int k) (ixor k a b))
        | .andNot => .ok (.dat (.int k) (iandn k a b))
        | .eql => .ok (.dat .bool (ieq a b))
        | .neq => .ok (.dat .bool (bnot (ieq a b)))
        | .lss => .ok (.dat .bool (ilt a b))
        | .leq => .ok (.dat .bool (ile a b))
        | .gtr => .ok (.dat .bool (ilt b a))
        | .geq => .ok (.dat .bool (ile b a))
        | _ => .fail
      | false => .fail
  | .dat .str a, .dat .str b => match op with
    | .add => .chk (fits (α := Int) (β := Int) a b) (.ok (.dat .str (app (α := Int) a b)))
    | .eql => .ok (.dat .bool (seq a b))
    | .neq => .ok (.dat .bool (bnot (seq a b)))
    | .lss => .ok (.dat .bool (slt a b))
    | .gtr => .ok (.dat .bool (slt b a))
    | _ => .fail
  | .dat .bool a, .dat .bool b => match T.getD xt Option.none with
    | some .bool => match op with
      | .eql => .ok (.dat .bool (beqb a b))
      | .neq => .ok (.dat .bool (bnot (beqb a b)))
      | _ => .fail
    | _ => .fail
  | .dat (.scons t r) a, .dat (.scons t' r') b => match cast? (.scons t r) (τ' := .scons t' r') b, cmpT (.scons t r) && (Nat.ble (nest (.scons t r)) 1000 && decide (T.getD xt Option.none = some (.scons t r))) with
    | some b, true => match op with
      | .eql => .ok (.dat .bool (eqD (.scons t r) a b))
      | .neq => .ok (.dat .bool (bnot (eqD (.scons t r) a b)))
      | _ => .fail
    | _, _ => .fail
  | _, _ => .fail

def asI (v : V) (k : IntKind → Int → Cmd) : Cmd := match v with
  | .dat (.int q) n => k q n
  | _ => .fail
def optI (x : Option Operand) (z : Int) (k : Int → Cmd) : Cmd := match x with
  | some x => vget x fun v => asI v fun _ n => k n
  | Option.none => k z

/-- a value that may be copied -/
def plainV : V → Bool
  | .own .. => false
  | .tup _ => false
  | _ => true
def opMove (x : Operand) : Cmd := vget x fun v => match v with
  | .own _ _ _ _ ver => match x with
    | .tmp t => .ok (.al t ver)
    | _ => .fail
  | .tup vs => match vs.all plainV with
    | true => .ok (.tup vs)
    | false => .fail
  | v => .ok v
def opAssign (x : Operand) : Cmd := vget x fun v => match v with
  | .own τ l w ap ver => match x with
    | .tmp t => .slot t .undef (.ok (.own τ l w ap ver))
    | _ => .fail
  | .al y ver => slotOf y ver fun τ l w ap => .slot y .undef (.ok (.own τ l w ap ver))
  | .tup _ => .fail
  | v => .ok v
def opPick (c a b : Operand) : Cmd := vget c fun vc => match vc with
  | .dat .bool q => vget a fun va => vget b fun vb => match plainV va && plainV vb with
    | true => .br q (.ok va) (.ok vb)
    | false => .fail
  | _ => .fail

/-- the table of types -/
abbrev Tab := List (Option Ty)
def Tab.ty (T : Tab) (t : Nat) : Option Ty := T.getD t Option.none

section
variable (T : Tab) (cons : List Con)

def opLoad (t : Nat) (a : Operand) : Cmd := match T.ty t with
  | some τ => vget a fun v => match v with
    | .ptr _ _ _ => derefD τ v fun y => .ok (.dat τ y)
    | .ep τ' y => match cast? τ y with | some y => .ok (.dat τ y) | Option.none => .fail
    | .elp s ver τs i p => slotOf s ver fun τ' l _ _ => match castL τs l with
      | some l => getP p τs (rd τs l (i : Nat)) (fun σ z => match cast? τ z with | some z => .ok (.dat τ z) | Option.none => .fail) .fail
      | Option.none => .fail
    | _ => .fail
  | Option.none => .fail

def opStore (t : Nat) (a x : Operand) : Cmd := match T.ty t with
  | some τ => vget a fun v => vget x fun vx => match v with
    | .ptr _ _ _ => keepD τ vx x fun z => storeD τ v z (.ok .undef)
    | .elp s ver τs i p => keepD τ vx x fun z => slotOf s ver fun τ' l w ap => match w, castL τs l with
      | true, some l => match setP p τs (rd τs l (i : Nat)) (fun σ => cast? σ z) with
        | some y => .slot s (.own τs (upd l (i : Nat) y) true ap ver) (.ok .undef)
        | Option.none => .fail
      | _, _ => .fail
    | _ => .fail
  | Option.none => .fail

def szPos : Ty → Bool
  | .snil => false
  | .scons t r => szPos t || szPos r
  | .arr n t => !(Nat.beq n 0) && szPos t
  | _ => true

def opFieldAddr (t : Nat) (x : Operand) (f : Nat) : Cmd := match T.ty t with
  | some τ => match fldT τ f with
    | some φ => match szPos φ with
      | true => vget x fun v => match v with
        | .ptr o τo p => match decide (tyP p τo = some τ) with
          | true => .ok (.ptr o τo (p ++ [.fld f]))
          | false => .fail
        | .ep τ' y => match cast? τ y with | some y => .ok (projE τ y f) | Option.none => .fail
        | .elp s ver τs i p => match decide (tyP p τs = some τ) with
          | true => .ok (.elp s ver τs i (p ++ [.fld f]))
          | false => .fail
        | _ => .fail
      | false => .fail
    | Option.none => .fail
  | Option.none => .fail

def opField (t : Nat) (x : Operand) (f : Nat) : Cmd := match T.ty t with
  | some τ => vget x fun v => match v with
    | .dat τ' y => match cast? τ y, fldT τ f with | some y, some _ => .ok (projV τ y f) | _, _ => .fail
    | _ => .fail
  | Option.none => .fail

def opIndexAddr (t : Nat) (x i : Operand) : Cmd := vget x fun v => vget i fun vi => asI vi fun _ n => match T.ty t with
  | some (.slice τ) => match szPos τ with
    | true => match v, x with
      | .dat (.slice τ') l, _ => match castL τ l with
        | some l => .chk (inb n (len l)) (.ok (.ep τ (rd τ l n)))
        | Option.none => .fail
      | .al s ver, _ => slotOf s ver fun τ' l _ _ => match castL τ l with
        | some l => .chk (inb n (len l)) (.ok (.elp s ver τ (tn n) []))
        | Option.none => .fail
      | .own τ' l _ _ ver, .tmp s => match castL τ l with
        | some l => .chk (inb n (len l)) (.ok (.elp s ver τ (tn n) []))
        | Option.none => .fail
      | _, _ => .fail
    | false => .fail
  | some (.arr m τ) => match szPos τ with
    | true => match v with
      | .ptr o τo p => match decide (tyP p τo = some (.arr m τ)) with
        | true => .chk (inb n (m : Int)) (.ok (.ptr o τo (p ++ [.idx (tn n)])))
        | false => .fail
      | .ep τ' l => match cast? (.arr m τ) l with
        | some l => .chk (inb n (m : Int)) (.ok (.ep τ (rd τ l n)))
        | Option.none => .fail
      | _ => .fail
    | false => .fail
  | _ => .fail

def opIndex (t : Nat) (x i : Operand) : Cmd := vget x fun v => vget i fun vi => asI vi fun _ n => match T.ty t with
  | some .str => match v with
    | .dat .str s => .chk (inb n (len (α := Int) s)) (.ok (.dat (.int .u8) (rd (.int .u8) s n)))
    | _ => .fail
  | some (.arr m τ) => match v with
    | .dat τ' l => match cast? (.arr m τ) l with
      | some l => .chk (inb n (m : Int)) (.ok (.dat τ (rd τ l n)))
      | Option.none => .fail
    | _ => .fail
  | _ => .fail

def opBuild (t : Nat) (ps : List (Nat × Operand)) : Cmd := match T.ty t with
  | some (.arr m τ) => elemsCmd τ ps (List.replicate m τ.dflt) fun l => .ok (.dat (.arr m τ) l)
  | some τ => match isAggT τ && !(hasOwn τ) with
    | true => buildCmd τ ps τ.dflt fun x => .ok (.dat τ x)
    | false => .fail
  | Option.none => .fail

def opBuildSlice (d : Nat) (t n : Nat) (ps : List (Nat × Operand)) : Cmd := match T.ty t with
  | some (.slice τ) => match szPos τ with
    | true => match Nat.ble n 1000 && Nat.ble τ.size 1000 with
      | true => elemsCmd τ ps (List.replicate n τ.dflt) fun l => .fresh d (.ok (.own τ l true true d))
      | false => .fail
    | false => .fail
  | _ => .fail

def opMakeSlice (d : Nat) (t : Nat) (l c : Operand) : Cmd := match T.ty t with
  | some (.slice τ) => match szPos τ with
    | true => vget l fun vl => vget c fun vc => asI vl fun _ n => asI vc fun _ m => .chk (inp n m 1099511627775) (.chk (ile 0 n) (.fresh d (.ok (.own τ (zeros τ n) true true d))))
    | false => .fail
  | _ => .fail

def opSlice (t : Nat) (x : Operand) (lo hi mx : Option Operand) : Cmd := vget x fun v => match T.ty t with
  | some .str => match v, mx with
    | .dat .str s, Option.none => optI lo 0 fun a => optI hi (len (α := Int) s) fun b => .chk (inp a b (len (α := Int) s)) (.ok (.dat .str (part (α := Int) s a b)))
    | _, _ => .fail
  | some (.slice τ) => match hi.isSome || mx.isNone with
    | false => .fail
    | true => keepD (.slice τ) v x fun l => optI lo 0 fun a => optI hi (len l) fun b => optI mx (len l) fun m => .chk (inp a b m) (.chk (ile m (len l)) (.ok (.dat (.slice τ) (part l a b))))
  | some (.arr m τ) => match v, mx with
    | .ptr o τo p, Option.none => match decide (tyP p τo = some (.arr m τ)) && Nat.ble m 1000000000 with
      | true => optI lo 0 fun a => optI hi (m : Int) fun b => .chk (inp a b (m : Int)) (.ok (.vw o τo p a b))
      | false => .fail
    | _, _ => .fail
  | _ => .fail

/-- the list of a slice, views too -/
def viewL (τ : Ty) (v : V) (x : Operand) (k : List τ.D → Cmd) : Cmd := match v with
  | .vw o τo p a b => .ob o fun
    | .var τ1 y => match cast? τo y with
      | some y => getP p τo y (fun σ z => match σ, z with
        | .arr m τ', z => match castL τ z with | some l => k (part l a b) | Option.none => .fail
        | _, _ => .fail) .fail
      | Option.none => .fail
    | _ => .fail
  | v => aslist τ v x k

def opConvert (d : Nat) (src dst : Nat) (x : Operand) : Cmd := vget x fun v => match T.ty src, T.ty dst with
  | some (.int _), some (.int k) => asI v fun _ n => .ok (.dat (.int k) (iconv k n))
  | some (.slice (.int .u8)), some .str => viewL (.int .u8) v x fun l => .ok (.dat .str l)
  | some .str, some (.slice (.int .u8)) => match v with
    | .dat .str s => .chk (fits (α := Int) (β := Int) s []) (.fresh d (.ok (.own (.int .u8) s true false d)))
    | _ => .fail
  | some .str, some .str => match v with
    | .dat .str s => .ok (.dat .str s)
    | _ => .fail
  | _, _ => .fail

def opUn (op : UnOp) (x : Operand) : Cmd := vget x fun v => match op, v with
  | .not, .dat .bool b => .ok (.dat .bool (bnot b))
  | .neg, .dat (.int k) n => .ok (.dat (.int k) (isub k 0 n))
  | .xor, .dat (.int k) n => .ok (.dat (.int k) (ixor k (match k.signed with | true => -1 | false => k.max) n))
  | _, _ => .fail

def opExtract (x : Operand) (i : Nat) : Cmd := vget x fun v => match v, x with
  | .tup vs, .tmp t => match Nat.blt i vs.length && Nat.blt i 1000 with
    | true => match vs.getD i .undef with
      | .own τ l w ap ver => .slot t (.tup (vs.set i .undef)) (.ok (.own τ l w ap ver))
      | v => .ok v
    | false => .fail
  | _, _ => .fail

def opLen (t : Nat) (x : Operand) : Cmd := match T.ty t with
  | some (.slice τ) => vget x fun v => viewL τ v x fun l => .ok (.dat (.int .i64) (len l))
  | some .str => vget x fun v => match v with
    | .dat .str s => .ok (.dat (.int .i64) (len (α := Int) s))
    | _ => .fail
  | some (.arr m _) => match Nat.ble m 1000000000 with | true => .ok (.dat (.int .i64) (m : Int)) | false => .fail
  | _ => .fail

def opAppend (d : Nat) (t t' : Nat) (a b : Operand) : Cmd := match T.ty t with
  | some (.slice τ) => match szPos τ with
    | true => vget a fun va => vget b fun vb =>
      let k : List τ.D → Cmd := fun xs => match va, a with
        | .nilsl, _ => .chk (fits ([] : List τ.D) xs) (.fresh d (.ok (.own τ xs true true d)))
        | .al y ver, _ => slotOf y ver fun τ' l w ap => match castL τ l, ap with
          | some l, true => .chk (fits l xs) (.slot y .undef (.fresh d (.ok (.own τ (app l xs) w true d))))
          | _, _ => .fail
        | .own τ' l w ap ver, .tmp y => match castL τ l, ap with
          | some l, true => .chk (fits l xs) (.slot y .undef (.fresh d (.ok (.own τ (app l xs) w true d))))
          | _, _ => .fail
        | _, _ => .fail
      match Nat.beq t t' with
      | true => viewL τ vb b k
      | false => .fail
    | false => .fail
  | _ => .fail

def opMinMax (mx : Bool) : List Operand → Cmd
  | [a, b] => vget a fun va => vget b fun vb => asI va fun k x => asI vb fun k' y => match decide (k = k') with
    | true => .ok (.dat (.int k) (match mx with | true => imax x y | false => imin x y))
    | false => .fail
  | _ => .fail

/-- an object that is made -/
def zeroOb : Ty → Ob
  | .bld e u => .vob (.bld e u) [] 0
  | τ => .var τ τ.dflt

def findCon (f : Nat) : List Con → Option Con
  | [] => Option.none
  | c :: r => match Nat.beq c.f f with | true => some c | false => findCon f r

def cmdOf (o : Oper) : Cmd :=
  let d := o.dst.getD 0
  match o.op with
  | .move x => opMove x
  | .assign x => opAssign x
  | .pick c a b => opPick c a b
  | .alloc t => match o.dst, T.ty t with
    | some d, some τ => .ob d fun
      | .none => .setOb d (zeroOb τ) (.ok (.ptr d τ []))
      | _ => .fail
    | _, _ => .fail
  | .box t x => match o.dst, T.ty t with
    | some d, some τ => vget x fun v => keepD τ v x fun y => .ob d fun
      | .none => .setOb d (.var τ y) (.ok (.ptr d τ []))
      | _ => .fail
    | _, _ => .fail
  | .build t ps => opBuild T t ps.toList
  | .buildSlice t n ps => opBuildSlice T d t n ps.toList
  | .load t a => opLoad T t a
  | .store t a x => opStore T t a x
  | .nilCheck x => vget x fun v => match v with
    | .ptr _ _ _ => .ok v
    | .ep _ _ => .ok v
    | .elp .. => .ok v
    | .fn _ => .ok v
    | _ => .fail
  | .binOp op xt x y _ => vget x fun vx => vget y fun vy => binCmd T op xt vx vy
  | .unOp op _ x => opUn op x
  | .convert src dst x => opConvert T d src dst x
  | .makeSlice t l c => opMakeSlice T d t l c
  | .slice t x lo hi mx => opSlice T t x lo hi mx
  | .fieldAddr t x f => opFieldAddr T t x f
  | .field t x f => opField T t x f
  | .indexAddr t x i => opIndexAddr T t x i
  | .index t x i => opIndex T t x i
  | .extract x i => opExtract x i
  | .call c => match c.callee with
    | .builtin .len => match c.args.toList, c.argTypes.toList with
      | [x], [t] => opLen T t x
      | _, _ => .fail
    | .builtin .append => match c.args.toList, c.argTypes.toList with
      | [a, b], [t, t'] => opAppend T d t t' a b
      | _, _ => .fail
    | .builtin .min => opMinMax false c.args.toList
    | .builtin .max => opMinMax true c.args.toList
    | .value x => match x with
      | .func f => match findCon f cons with
        | some con => callCmd con d c.args.toList
        | Option.none => .fail
      | _ => .fail
    | _ => .fail
  | _ => .fail

/-- is the operation's result a guard of another one? then its two values are two ways -/
def isGuard (ops : List Oper) (i : Nat) : Bool := ops.any fun o => match o.guard with | some (j, _) => Nat.beq j i | Option.none => false

def splitV {R : Type} (g : Bool) (v : V) (K : V → Option R) : Option R := match g, v with
  | true, .dat .bool b => br b (K (.dat .bool true)) (K (.dat .bool false))
  | _, v => K v

def putd (s : St) (d : Option Nat) (v : V) : St := match d with | some t => s.put t v | Option.none => s

/-- is the operation to be carried out? -/
def wantS (ops : List Oper) (o : Oper) (s : St) : Option Bool := match o.guard with
  | Option.none => some true
  | some (j, want) => match (ops[j]?).bind (·.dst) with
    | some t => match s.get t with
      | .dat .bool b => some (b == want)
      | .cst (.tuple _) => some false
      | _ => Option.none
    | Option.none => Option.none

/-- what a slot holds behind an operation that is left out -/
def skV : V := .cst (.tuple #[])

def evalOps {R : Type} (ops : List Oper) : Nat → List Oper → St → (St → Option R) → Option R
  | _, [], s, K => K s
  | i, o :: rest, s, K => match wantS ops o s with
    | some true => (cmdOf T cons o).run s fun v s => splitV (isGuard ops i) v fun v => evalOps ops (i + 1) rest (putd s o.dst v) K
    | some false => evalOps ops (i + 1) rest (putd s o.dst skV) K
    | Option.none => Option.none

/-! ### regions whose order is drawn: what each operation reads and writes -/
def tl (t : Nat) : Nat := 3 * t
def ol (o : Nat) : Nat := 3 * o + 1
def ul (n : Nat) : Nat := 3 * n + 2

def Cmd.runF {R : Type} : Cmd → St → List Nat → List Nat → (V → St → List Nat → List Nat → Option R) → Option R
  | .fail, _, _, _, _ => none
  | .ok v, s, rd, wr, K => K v s rd wr
  | .get t k, s, rd, wr, K => (k (s.get t)).runF s (tl t :: rd) wr K
  | .slot t v k, s, rd, wr, K => k.runF (s.put t v) rd (tl t :: wr) K
  | .ob o k, s, rd, wr, K => (k (s.ob o)).runF s (ol o :: rd) wr K
  | .setOb o x k, s, rd, wr, K => k.runF (s.setOb o x) rd (ol o :: wr) K
  | .fresh n k, s, rd, wr, K => match s.used.getD n true with
    | true => none
    | false => k.runF (s.use n) (ul n :: rd) (ul n :: wr) K
  | .chk b k, s, rd, wr, K => SX.chk b (k.runF s rd wr K)
  | .br b k1 k2, s, rd, wr, K => SX.br b (k1.runF s rd wr K) (k2.runF s rd wr K)
  | .call _ x k, s, rd, wr, K => obnd x fun y => (k y).runF s rd wr K

def memN (x : Nat) : List Nat → Bool
  | [] => false
  | y :: l => match Nat.beq x y with | true => true | false => memN x l
def disjN : List Nat → List Nat → Bool
  | [], _ => true
  | x :: l, m => match memN x m with | true => false | false => disjN l m

/-- an operation that has been carried out -/
structure Ft where
  i : Nat
  rd : List Nat
  wr : List Nat

/-- what comes before, by the edges: as bits -/
def edgeM (i : Nat) (ms : List Nat) : List Edge → Option Nat
  | [] => some 0
  | e :: l => match Region.binds .any e with
    | true => match Nat.blt e.on i, edgeM i ms l with
      | true, some m => some (m ||| (1 <<< e.on) ||| ms.getD e.on 0)
      | _, _ => Option.none
    | false => edgeM i ms l

/-- free of each other, unless the one comes before by the edges -/
def freeOf (m : Nat) (rd wr : List Nat) : List Ft → Bool
  | [] => true
  | f :: fs => match m.testBit f.i || (disjN f.wr rd && (disjN f.wr wr && disjN f.rd wr)) with
    | true => freeOf m rd wr fs
    | false => false

def guardRd (ops : List Oper) (o : Oper) : List Nat := match o.guard with
  | Option.none => []
  | some (j, _) => match (ops[j]?).bind (·.dst) with
    | some t => [tl t]
    | Option.none => []
def dstWr (o : Oper) : List Nat := match o.dst with | some t => [tl t] | Option.none => []

def evalOpsD {R : Type} (ops : List Oper) : Nat → List Oper → List Nat → List Ft → St → (St → Option R) → Option R
  | _, [], _, _, s, K => K s
  | i, o :: rest, ms, fs, s, K => match edgeM i ms o.after.toList with
    | Option.none => Option.none
    | some m => match wantS ops o s with
      | some true => (cmdOf T cons o).runF s (guardRd ops o) (dstWr o) fun v s rd wr => match freeOf m rd wr fs with
        | true => splitV (isGuard ops i) v fun v => evalOpsD ops (i + 1) rest (ms ++ [m]) (⟨i, rd, wr⟩ :: fs) (putd s o.dst v) K
        | false => Option.none
      | some false => match freeOf m (guardRd ops o) (dstWr o) fs with
        | true => evalOpsD ops (i + 1) rest (ms ++ [m]) (⟨i, guardRd ops o, dstWr o⟩ :: fs) (putd s o.dst skV) K
        | false => Option.none
      | Option.none => Option.none
end

inductive Ex where | norm | exit (id : Nat) | ret

abbrev LoopF (R : Type) := Nat → St → (Ex → St → Option R) → Option R

def evalC {R : Type} (T : Tab) (cons : List Con) (L : LoopF R) : Code → St → (Ex → St → Option R) → Option R
  | .skip, s, K => K .norm s
  | .region _ ops draw, s, K => match draw with
    | false => evalOps T cons ops.toList 0 ops.toList s fun s => K .norm s
    | true => evalOpsD T cons ops.toList 0 ops.toList [] [] s fun s => K .norm s
  | .seq a b, s, K => evalC T cons L a s fun e s => match e with
    | .norm => evalC T cons L b s K
    | .exit i => K (.exit i) s
    | .ret => K .ret s
  | .cond x a b, s, K => match x with
    | .tmp t => match s.get t with
      | .dat .bool c => br c (evalC T cons L a s K) (evalC T cons L b s K)
      | _ => none
    | _ => none
  | .block id (.loop _), s, K => L id s K
  | .block id a, s, K => evalC T cons L a s fun e s => match e with
    | .exit i => match Nat.beq i id with
      | true => K .norm s
      | false => K (.exit i) s
    | .norm => K .norm s
    | .ret => K .ret s
  | .exit id, s, K => K (.exit id) s
  | .ret, s, K => K .ret s
  | _, _, _ => none

/-! what is live at a loop's head, and behind it -/
inductive LK where
  | dat (t : Nat) (τ : Ty)
  | own (t : Nat) (τ : Ty) (w ap : Bool)
  | obj (o : Nat) (τ : Ty)
  | ptr (t o : Nat) (τ : Ty)

def LK.ty : LK → Option Ty
  | .dat _ τ => some τ
  | .own _ τ _ _ => some (.slice τ)
  | .obj _ τ => some τ
  | .ptr .. => Option.none
@[reducible] def liveT : List LK → Ty
  | [] => .snil
  | .dat _ τ :: r => .scons τ (liveT r)
  | .own _ τ _ _ :: r => .scons (.slice τ) (liveT r)
  | .obj _ τ :: r => .scons τ (liveT r)
  | .ptr .. :: r => liveT r

/-- no object lives; the parameters' are none that could be made -/
def objs0 : Nat → Nat → List Ob
  | _, 0 => []
  | 0, n + 1 => .none :: objs0 0 n
  | p + 1, n + 1 => .gone :: objs0 p n

def isBld : Ty → Bool
  | .bld _ _ => true
  | _ => false
/-- an object by its datum -/
def liveO : (τ : Ty) → τ.D → Ob
  | .bld e u, x => .vob (.bld e u) x 0
  | τ, x => .var τ x
/-- a state that holds this and nothing else -/
def unpack (n np : Nat) : (l : List LK) → (liveT l).D → St
  | [], _ => { env := List.replicate n .undef, objs := objs0 np n, used := List.replicate n false }
  | .dat t τ :: r, x => (unpack n np r x.2).put t (.dat τ x.1)
  | .own t τ w ap :: r, x => ((unpack n np r x.2).use t).put t (.own τ x.1 w ap t)
  | .obj o τ :: r, x => ((unpack n np r x.2).setOb o (liveO τ x.1)).put o (.ptr o τ [])
  | .ptr t o τ :: r, x => (unpack n np r x).put t (.ptr o τ [])

def leb (a b : Bool) : Bool := !a || b

def ownTs : List LK → List Nat
  | [] => []
  | .own t _ _ _ :: r => t :: ownTs r
  | _ :: r => ownTs r
def objsL : List LK → List Nat
  | [] => []
  | .obj o _ :: r => o :: objsL r
  | _ :: r => objsL r
def slotsL : List LK → List Nat
  | [] => []
  | .dat t _ :: r => t :: slotsL r
  | .own t _ _ _ :: r => t :: slotsL r
  | .obj o _ :: r => o :: slotsL r
  | .ptr t _ _ :: r => t :: slotsL r

/-- what a state holds of this -/
def pack {R : Type} : (l : List LK) → St → ((liveT l).D → Option R) → Option R
  | [], _, K => K ()
  | .dat t τ :: r, s, K => (keepD τ (s.get t) (.tmp t) fun y => .ok (.dat τ y)).run s fun v s => match v with
    | .dat τ' y => match cast? τ y with
      | some y => pack r s fun q => K (y, q)
      | Option.none => none
    | _ => none
  | .own t τ w ap :: r, s, K => match memN t (ownTs r) with
    | true => none
    | false => match s.get t with
      | .own τ' l w' ap' _ => match castL τ l, leb w w' && leb ap ap' with
        | some l, true => pack r (s.put t .undef) fun q => K (l, q)
        | _, _ => none
      | .nilsl => pack r s fun q => K ([], q)
      | .al y ver => match memN y (slotsL r), s.get y with
        | false, .own τ' l w' ap' ver' => match castL τ l, leb w w' && leb ap ap' && Nat.beq ver ver' with
          | some l, true => pack r (s.put y .undef) fun q => K (l, q)
          | _, _ => none
        | _, _ => none
      | _ => none
  | .obj o τ :: r, s, K => match memN o (objsL r) with
    | true => none
    | false => match s.get o with
      | .ptr o' τ1 [] => match Nat.beq o' o && decide (τ1 = τ), s.ob o with
        | true, .var τ' y => match cast? τ y, hasOwn τ with
          | some y, false => pack r s fun q => K (y, q)
          | _, _ => none
        | true, .vob τ' y _ => match cast? τ y, isBld τ with
          | some y, true => pack r s fun q => K (y, q)
          | _, _ => none
        | _, _ => none
      | _ => none
  | .ptr t o τ :: r, s, K => match memN o (objsL r), s.get t with
    | true, .ptr o' τ' [] => match Nat.beq o' o && decide (τ' = τ) with
      | true => pack r s K
      | false => none
    | _, _ => none

/-- a loop by what it answers -/
structure LoopS (ρ : Type) where
  inn : List LK
  out : List LK
  run : (liveT inn).D → Option (LR ρ (liveT out).D)

def loopF {ρ R : Type} (n np : Nat) (ls : Nat → Option (LoopS ρ)) (ret : ρ → Option R) : LoopF R := fun id s K => match ls id with
  | some L => pack L.inn s fun a => obnd (L.run a) fun r => lcase r ret fun b => K .norm (unpack n np L.out b)
  | Option.none => none

/-- the end of a function: its results, and what its pointers lead to -/
def endRefs {R : Type} : (ps : List PK) → Nat → St → ((refT ps).D → Option R) → Option R
  | [], _, _, K => K ()
  | .val _ :: ps, i, s, K => endRefs ps (i + 1) s K
  | .ro _ :: ps, i, s, K => endRefs ps (i + 1) s K
  | .ref τ :: ps, i, s, K => match s.ob i with
    | .var τ' y => match cast? τ y with
      | some y => endRefs ps (i + 1) s fun q => K (y, q)
      | Option.none => none
    | _ => none

def endVal {R : Type} (T : Tab) (rv : ResultVar) (τ : Ty) (s : St) (K : τ.D → St → Option R) : Option R := match rv with
  | .tmp t => (keepD τ (s.get t) (.tmp t) fun y => .ok (.dat τ y)).run s fun v s => match v with
    | .dat τ' y => match cast? τ y with
      | some y => K y s
      | Option.none => none
    | _ => none
  | .cell a t => match decide (T.ty t = some τ) with
    | true => (derefD τ (s.get a) fun y => .ok (.dat τ y)).run s fun v s => match v with
      | .dat τ' y => match cast? τ y with
        | some y => K y s
        | Option.none => none
      | _ => none
    | false => none

def endRes {R : Type} (T : Tab) (q : Ty) : (rs : List RK) → List ResultVar → St → ((s : St) → (q.D → Option R) → Option R) → ((resT rs q).D → Option R) → Option R
  | [], _, s, Q, K => Q s K
  | .val τ :: rs, rv :: rvs, s, Q, K => endVal T rv τ s fun y s => endRes T q rs rvs s Q fun r => K (y, r)
  | .own τ w :: rs, .tmp t :: rvs, s, Q, K => match s.get t with
    | .own τ' l w' true _ => match castL τ l, leb w w' with
      | some l, true => endRes T q rs rvs (s.put t .undef) Q fun r => K (l, r)
      | _, _ => none
    | .nilsl => endRes T q rs rvs s Q fun r => K ([], r)
    | _ => none
  | _, _, _, _, _ => none

def startS (n np : Nat) : (ps : List PK) → Nat → (argT ps).D → St
  | [], _, _ => { env := List.replicate n .undef, objs := objs0 np n, used := List.replicate n false }
  | .val τ :: ps, i, a => (startS n np ps (i + 1) a.2).put i (.dat τ a.1)
  | .ref τ :: ps, i, a => ((startS n np ps (i + 1) a.2).setOb i (.var τ a.1)).put i (.ptr i τ [])
  | .ro τ :: ps, i, a => ((startS n np ps (i + 1) a.2).setOb i (.ro τ a.1)).put i (.ptr i τ [])

def isExit (id : Nat) : Ex → Bool
  | .exit i => Nat.beq i id
  | _ => false

section
variable (T : Tab) (cons : List Con) (fn : Func) (ps : List PK) (rs : List RK) (ls : Nat → Option (LoopS (resT rs (refT ps)).D))

def endK (s : St) : Option (resT rs (refT ps)).D := endRes T (refT ps) rs fn.results.toList s (fun s K => endRefs ps 0 s K) fun r => some r

def evalF (a : (argT ps).D) : Option (resT rs (refT ps)).D := match fn.body with
  | some c => evalC T cons (loopF fn.ntmps ps.length ls some) c (startS fn.ntmps ps.length ps 0 a) fun e s => match e with
    | .norm => endK T fn ps rs s
    | .ret => endK T fn ps rs s
    | .exit _ => none
  | Option.none => none

/-- one round of a loop -/
def evalL (id : Nat) (body : Code) (inn out : List LK) (next : (liveT inn).D → Option (LR (resT rs (refT ps)).D (liveT out).D)) (a : (liveT inn).D) : Option (LR (resT rs (refT ps)).D (liveT out).D) :=
  evalC T cons (loopF fn.ntmps ps.length ls fun r => some (.ret r)) body (unpack fn.ntmps ps.length inn a) fun e s => match e with
    | .norm => pack inn s next
    | .ret => endRes T (refT ps) rs fn.results.toList s (fun s K => endRefs ps 0 s K) fun r => some (.ret r)
    | .exit i => match Nat.beq i id with
      | true => pack out s fun b => some (.out b)
      | false => none
end
end Go.SX

-- SX: Rep
namespace Go.SX
open Go.RowKit
set_option linter.unusedVariables false

def All2 {α β : Type} (R : α → β → Prop) : List α → List β → Prop
  | [], [] => True
  | a :: l, b :: m => R a b ∧ All2 R l m
  | _, _ => False

theorem All2.length {α β : Type} {R : α → β → Prop} : ∀ {l : List α} {m : List β}, All2 R l m → l.length = m.length
  | [], [], _ => rfl
  | _ :: l, _ :: m, h => by simp [All2.length h.2]
theorem All2.mono {α β : Type} {R R' : α → β → Prop} (hR : ∀ a b, R a b → R' a b) : ∀ {l : List α} {m : List β}, All2 R l m → All2 R' l m
  | [], [], _ => trivial
  | _ :: l, _ :: m, h => ⟨hR _ _ h.1, All2.mono hR h.2⟩
theorem All2.get {α β : Type} {R : α → β → Prop} : ∀ {l : List α} {m : List β}, All2 R l m → ∀ (i : Nat) (a : α), l[i]? = some a → ∃ b, m[i]? = some b ∧ R a b
  | a :: l, b :: m, h, 0, x, e => by simp at e; subst e; exact ⟨b, rfl, h.1⟩
  | a :: l, b :: m, h, i + 1, x, e => by simpa using All2.get h.2 i x (by simpa using e)
theorem All2.append {α β : Type} {R : α → β → Prop} : ∀ {l : List α} {m : List β} {l' : List α} {m' : List β}, All2 R l m → All2 R l' m' → All2 R (l ++ l') (m ++ m')
  | [], [], _, _, _, h' => h'
  | _ :: _, _ :: _, _, _, h, h' => ⟨h.1, All2.append h.2 h'⟩
theorem All2.set {α β : Type} {R : α → β → Prop} : ∀ {l : List α} {m : List β} (i : Nat) {a : α} {b : β}, All2 R l m → R a b → All2 R (l.set i a) (m.set i b)
  | [], [], i, a, b, h, _ => by cases i <;> trivial
  | _ :: l, _ :: m, 0, a, b, h, hr => ⟨hr, h.2⟩
  | _ :: l, _ :: m, i + 1, a, b, h, hr => ⟨h.1, All2.set i h.2 hr⟩
theorem All2.take {α β : Type} {R : α → β → Prop} : ∀ {l : List α} {m : List β} (i : Nat), All2 R l m → All2 R (l.take i) (m.take i)
  | _, _, 0, _ => by simp [All2]
  | [], [], i + 1, h => trivial
  | _ :: l, _ :: m, i + 1, h => ⟨h.1, All2.take i h.2⟩
theorem All2.drop {α β : Type} {R : α → β → Prop} : ∀ {l : List α} {m : List β} (i : Nat), All2 R l m → All2 R (l.drop i) (m.drop i)
  | _, _, 0, h => by simpa using h
  | [], [], i + 1, h => trivial
  | _ :: l, _ :: m, i + 1, h => by simpa using All2.drop i h.2
theorem All2.replicate {α β : Type} {R : α → β → Prop} {a : α} {b : β} (h : R a b) : ∀ n, All2 R (List.replicate n a) (List.replicate n b)
  | 0 => trivial
  | n + 1 => ⟨h, All2.replicate h n⟩

/-- the cells 'cs' lie from 'o' on in block 'b', and are not to be written -/
def Lies (w : World) (im : Nat → Nat → Prop) (b o : Nat) (cs : List Value) : Prop :=
  ∀ j v, cs[j]? = some v → w.cell? ⟨b, o + j, none⟩ = some v ∧ im b (o + j)

/-- a datum and its cells -/
def Rep (w : World) (im : Nat → Nat → Prop) : (τ : Ty) → τ.D → List Value → Prop
  | .int k, x, cs => cs = [.int k x] ∧ k.wrap x = x
  | .bool, x, cs => cs = [.bool x]
  | .str, x, cs => ∃ b, cs = [.string b] ∧ bytesD b = x ∧ b.size ≤ maxLen
  | .snil, _, cs => cs = []
  | .scons t r, x, cs => ∃ c1 c2, cs = c1 ++ c2 ∧ Rep w im t x.1 c1 ∧ Rep w im r x.2 c2
  | .arr n t, x, cs => List.length (α := t.D) x = n ∧ ∃ css, cs = List.flatten css ∧ All2 (Rep w im t) x css
  | .slice t, x, cs => ∃ a cap, cs = [.slice a (List.length (α := t.D) x) cap] ∧ List.length (α := t.D) x ≤ cap ∧ cap ≤ maxLen ∧ (x = [] ∨ ∃ b o, a = some ⟨b, o, none⟩ ∧ ∃ css, All2 (Rep w im t) x css ∧ Lies w im b o (List.flatten css))
  | .vec _ t, x, cs => ∃ a cap, cs = [.slice a (List.length (α := t.D) x) cap]
  | .bld _ _, x, cs => ∃ p a cap, cs = [.pointer p, .slice a (List.length (α := Int) x) cap]

theorem flatten_len {css : List (List Value)} {n : Nat} (h : ∀ c ∈ css, c.length = n) : css.flatten.length = css.length * n := by
  induction css with
  | nil => simp
  | cons c r ih =>
    simp only [List.flatten_cons, List.length_append, List.length_cons]
    rw [ih (fun d hd => h d (List.mem_cons_of_mem _ hd)), h c List.mem_cons_self, Nat.add_mul]
    omega

theorem All2.mem_right {α β : Type} {R : α → β → Prop} : ∀ {l : List α} {m : List β}, All2 R l m → ∀ b ∈ m, ∃ a, a ∈ l ∧ R a b
  | [], [], _, _, hb => by cases hb
  | a :: l, b :: m, h, c, hc => by
    rcases List.mem_cons.1 hc with rfl | hc
    · exact ⟨a, List.mem_cons_self, h.1⟩
    · obtain ⟨x, hx, hr⟩ := All2.mem_right h.2 c hc
      exact ⟨x, List.mem_cons_of_mem _ hx, hr⟩

theorem Rep.length {w : World} {im : Nat → Nat → Prop} : ∀ {τ : Ty} {x : τ.D} {cs : List Value}, Rep w im τ x cs → cs.length = τ.size
  | .int k, x, cs, h => by rw [h.1]; rfl
  | .bool, x, cs, h => by rw [show cs = _ from h]; rfl
  | .str, x, cs, h => by obtain ⟨b, rfl, _⟩ := h; rfl
  | .snil, x, cs, h => by rw [show cs = _ from h]; rfl
  | .scons t r, x, cs, h => by
    obtain ⟨c1, c2, rfl, h1, h2⟩ := h
    rw [List.length_append, h1.length, h2.length]; rfl
  | .arr n t, x, cs, h => by
    obtain ⟨hn, css, rfl, h⟩ := h
    rw [flatten_len (n := t.size) (fun c hc => by obtain ⟨a, _, ha⟩ := h.mem_right c hc; exact ha.length), ← h.length, hn]
    rfl
  | .slice t, x, cs, h => by obtain ⟨a, cap, rfl, _⟩ := h; rfl
  | .vec _ t, x, cs, h => by obtain ⟨a, cap, rfl⟩ := h; rfl
  | .bld _ _, x, cs, h => by obtain ⟨p, a, cap, rfl⟩ := h; rfl

theorem Lies.mono {w w' : World} {im im' : Nat → Nat → Prop} (hc : ∀ b i v, im b i → w.cell? ⟨b, i, none⟩ = some v → w'.cell? ⟨b, i, none⟩ = some v) (hi : ∀ b i, im b i → im' b i) {b o : Nat} {cs : List Value} (h : Lies w im b o cs) : Lies w' im' b o cs :=
  fun j v hv => ⟨hc _ _ _ (h j v hv).2 (h j v hv).1, hi _ _ (h j v hv).2⟩

theorem Rep.mono {w w' : World} {im im' : Nat → Nat → Prop} (hc : ∀ b i v, im b i → w.cell? ⟨b, i, none⟩ = some v → w'.cell? ⟨b, i, none⟩ = some v) (hi : ∀ b i, im b i → im' b i) :
    ∀ {τ : Ty} {x : τ.D} {cs : List Value}, Rep w im τ x cs → Rep w' im' τ x cs
  | .int k, x, cs, h => h
  | .bool, x, cs, h => h
  | .str, x, cs, h => h
  | .snil, x, cs, h => h
  | .scons t r, x, cs, h => by
    obtain ⟨c1, c2, rfl, h1, h2⟩ := h
    exact ⟨c1, c2, rfl, h1.mono hc hi, h2.mono hc hi⟩
  | .arr n t, x, cs, h => by
    obtain ⟨hn, css, rfl, h⟩ := h
    exact ⟨hn, css, rfl, h.mono fun a b hab => Rep.mono hc hi hab⟩
  | .slice t, x, cs, h => by
    obtain ⟨a, cap, rfl, hle, hmx, h⟩ := h
    refine ⟨a, cap, rfl, hle, hmx, h.imp id ?_⟩
    rintro ⟨b, o, rfl, css, h1, h2⟩
    exact ⟨b, o, rfl, css, h1.mono fun a b hab => Rep.mono hc hi hab, h2.mono hc hi⟩
  | .vec _ t, x, cs, h => h
  | .bld _ _, x, cs, h => h

/-- each cell holds one cell's value -/
theorem Rep.one {w : World} {im : Nat → Nat → Prop} : ∀ {τ : Ty} {x : τ.D} {cs : List Value}, Rep w im τ x cs → ∀ v ∈ cs, v.oneCell' = true
  | .int k, x, cs, h => by rw [h.1]; simp [Value.oneCell']
  | .bool, x, cs, h => by rw [show cs = _ from h]; simp [Value.oneCell']
  | .str, x, cs, h => by obtain ⟨b, rfl, _⟩ := h; simp [Value.oneCell']
  | .snil, x, cs, h => by rw [show cs = _ from h]; simp
  | .scons t r, x, cs, h => by
    obtain ⟨c1, c2, rfl, h1, h2⟩ := h
    intro v hv
    rcases List.mem_append.1 hv with hv | hv
    · exact h1.one v hv
    · exact h2.one v hv
  | .arr n t, x, cs, h => by
    obtain ⟨hn, css, rfl, h⟩ := h
    intro v hv
    obtain ⟨c, hc, hv⟩ := List.mem_flatten.1 hv
    obtain ⟨a, _, ha⟩ := h.mem_right c hc
    exact ha.one v hv
  | .slice t, x, cs, h => by obtain ⟨a, cap, rfl, _⟩ := h; simp [Value.oneCell']
  | .vec _ t, x, cs, h => by obtain ⟨a, cap, rfl⟩ := h; simp [Value.oneCell']
  | .bld _ _, x, cs, h => by obtain ⟨p, a, cap, rfl⟩ := h; simp [Value.oneCell']

/-- the value of a type's cells -/
def valOf (τ : Ty) (cs : List Value) : Value := match isAggT τ with
  | true => .agg cs.toArray
  | false => cs.headD undef

def RepV (w : World) (im : Nat → Nat → Prop) (τ : Ty) (x : τ.D) (v : Value) : Prop := ∃ cs, Rep w im τ x cs ∧ v = valOf τ cs

theorem RepV.mono {w w' : World} {im im' : Nat → Nat → Prop} (hc : ∀ b i v, im b i → w.cell? ⟨b, i, none⟩ = some v → w'.cell? ⟨b, i, none⟩ = some v) (hi : ∀ b i, im b i → im' b i) {τ : Ty} {x : τ.D} {v : Value} (h : RepV w im τ x v) : RepV w' im' τ x v := by
  obtain ⟨cs, h, rfl⟩ := h
  exact ⟨cs, h.mono hc hi, rfl⟩

theorem size_one {τ : Ty} (h : isAggT τ = false) : τ.size = 1 := by cases τ <;> simp_all [isAggT, Ty.size]

theorem Rep.cells {w : World} {im : Nat → Nat → Prop} {τ : Ty} {x : τ.D} {cs : List Value} (h : Rep w im τ x cs) : (valOf τ cs).cells = cs.toArray := by
  unfold valOf
  cases ha : isAggT τ with
  | true => rfl
  | false =>
    have hl := h.length
    rw [size_one ha] at hl
    match cs, hl with
    | [c], _ =>
      have h1 := h.one c (by simp)
      simp only [List.headD_cons]
      cases c <;> simp_all [Value.cells, Value.oneCell']

end Go.SX

-- SX: Sim
namespace Go.SX
open Go.RowKit
set_option linter.unusedVariables false

/-- what a table of types says of a program's types -/
def TyUnd (P : Program) (T : Tab) (t : Nat) : Ty → Prop
  | .int k => P.underlying t = some (.int k)
  | .bool => P.underlying t = some .bool
  | .str => P.underlying t = some .string
  | .slice τ => ∃ e i, P.underlying t = some (.slice e) ∧ T.ty e = some τ ∧ P.info? e = some i ∧ i.bytes ≤ 128
  | .arr n τ => ∃ e, P.underlying t = some (.array n e) ∧ T.ty e = some τ
  | .vec _ _ => False
  | .bld e _ => t = e ∧ ∃ fs, P.underlying t = some (.struct fs)
  | τ => ∃ fs, P.underlying t = some (.struct fs) ∧ FieldsOk T fs.toList 0 τ
where
  FieldsOk (T : Tab) : List Field → Nat → Ty → Prop
  | [], _, .snil => True
  | f :: fs, o, .scons t r => T.ty f.type = some t ∧ f.offset = o ∧ f.name ≠ "_" ∧ FieldsOk T fs (o + t.size) r
  | _, _, _ => False

def zeroCs : Ty → List Value
  | .int k => [.int k 0]
  | .bool => [.bool false]
  | .str => [.string ⟨#[]⟩]
  | .snil => []
  | .scons t r => zeroCs t ++ zeroCs r
  | .arr n t => (List.replicate n (zeroCs t)).flatten
  | .slice _ => [.slice none 0 0]
  | .vec _ _ => [.slice none 0 0]
  | .bld _ _ => [.pointer none, .slice none 0 0]

structure TyFact (P : Program) (T : Tab) (t : Nat) (τ : Ty) : Prop where
  info : ∃ i, P.info? t = some i ∧ i.size = τ.size ∧ i.zero = some (valOf τ (zeroCs τ))
  und : TyUnd P T t τ
  held : P.stoodInHeld t = false
  eqg : P.eqGuardType P.depth t = false

def TabOk (P : Program) (T : Tab) : Prop := ∀ t τ, T.ty t = some τ → TyFact P T t τ

/-- the package variable of the library's that any int may stand in -/
def GlobP (P : Program) (im : Nat → Nat → Prop) (w : World) : Prop := ∀ g, P.globals.findIdx? (·.name == "internal/bytealg.MaxLen") = some g → im g 0 ∧ ∃ m, w.cell? ⟨g, 0, none⟩ = some (.int .i64 m)

/-- a frame's constants -/
structure Frm where
  P : Program
  T : Tab
  W0 : World
  mu : Nat → Nat → Prop
  im0 : Nat → Nat → Prop
  N : Nat
  np : Nat
  par : Nat → Option (Nat × Nat × Ty)
  glob : GlobP P im0 W0
  mi : ∀ b i, mu b i → ¬ im0 b i

/-- what is known of memory beside -/
structure Gh where
  im : Nat → Nat → Prop
  site : Nat → Option (Nat × Nat × Ty)
  hd : Nat → Value
  ow : Nat → Option (Nat × Nat)

/-- of what was there, only the cells of 'mu' may have turned -/
structure Keep (mu : Nat → Nat → Prop) (w w' : World) : Prop where
  os : w'.os = w.os
  tape : w'.tape = w.tape
  output : w'.output = w.output
  size : w.heap.size ≤ w'.heap.size
  block : ∀ b, b < w.heap.size → (∀ i, ¬ mu b i) → w'.heap[b]? = w.heap[b]?
  cells : ∀ b c e fz, w.heap[b]? = some (.cells c e fz) → ∃ c', w'.heap[b]? = some (.cells c' e fz) ∧ c'.size = c.size ∧ ∀ i, ¬ mu b i → c'[i]? = c[i]?

theorem Keep.refl (mu : Nat → Nat → Prop) (w : World) : Keep mu w w := ⟨rfl, rfl, rfl, Nat.le_refl _, fun _ _ _ => rfl, fun b c e fz h => ⟨c, h, rfl, fun _ _ => rfl⟩⟩
theorem Keep.trans {mu : Nat → Nat → Prop} {a b c : World} (h : Keep mu a b) (k : Keep mu b c) : Keep mu a c := by
  refine ⟨k.os.trans h.os, k.tape.trans h.tape, k.output.trans h.output, Nat.le_trans h.size k.size, fun i hi hm => (k.block i (Nat.lt_of_lt_of_le hi h.size) hm).trans (h.block i hi hm), ?_⟩
  intro i c e fz hc
  obtain ⟨c1, h1, h2, h3⟩ := h.cells i c e fz hc
  obtain ⟨c2, k1, k2, k3⟩ := k.cells i c1 e fz h1
  exact ⟨c2, k1, k2.trans h2, fun j hj => (k3 j hj).trans (h3 j hj)⟩
theorem Keep.mono {mu mu' : Nat → Nat → Prop} {w w' : World} (h : Keep mu w w') (hm : ∀ b i, b < w.heap.size → mu b i → mu' b i) : Keep mu' w w' := by
  refine ⟨h.os, h.tape, h.output, h.size, fun b hb hn => h.block b hb fun i hi => hn i (hm b i hb hi), ?_⟩
  intro b c e fz hc
  obtain ⟨c', h1, h2, h3⟩ := h.cells b c e fz hc
  have hb : b < w.heap.size := by
    rcases Nat.lt_or_ge b w.heap.size with hb | hb
    · exact hb
    · rw [Array.getElem?_eq_none hb] at hc; cases hc
  exact ⟨c', h1, h2, fun i hi => h3 i fun h => hi (hm b i hb h)⟩
/-- a world whose old blocks are as they were -/
theorem Keep.of_blocks {mu : Nat → Nat → Prop} {w w' : World} (ho : w'.os = w.os) (ht : w'.tape = w.tape) (hp : w'.output = w.output) (hs : w.heap.size ≤ w'.heap.size) (hb : ∀ b, b < w.heap.size → w'.heap[b]? = w.heap[b]?) : Keep mu w w' := by
  refine ⟨ho, ht, hp, hs, fun b h _ => hb b h, fun b c e fz hc => ?_⟩
  have hlt : b < w.heap.size := by
    rcases Nat.lt_or_ge b w.heap.size with hb | hb
    · exact hb
    · rw [Array.getElem?_eq_none hb] at hc; cases hc
  exact ⟨c, by rw [hb b hlt, hc], rfl, fun _ _ => rfl⟩
theorem Keep.below {w w' : World} (h : Keep (fun _ _ => False) w w') : Below w.heap.size w w' :=
  ⟨h.os, h.tape, h.output, h.size, fun k hk => h.block k hk fun _ h => h⟩

def fldOff : Ty → Nat → Nat
  | .scons t r, i + 1 => t.size + fldOff r i
  | _, _ => 0
def offP : List PStep → Ty → Nat
  | [], _ => 0
  | .fld i :: p, τ => fldOff τ i + (match fldT τ i with
    | some t => offP p t
    | Option.none => 0)
  | .idx i :: p, τ => match τ with
    | .arr _ t => i * t.size + offP p t
    | _ => 0
/-- each index is one -/
def okP : List PStep → Ty → Prop
  | [], _ => True
  | .fld i :: p, τ => match fldT τ i with
    | some t => okP p t
    | Option.none => False
  | .idx i :: p, τ => match τ with
    | .arr n t => i < n ∧ okP p t
    | _ => False

/-- a slice of one's own: a block that nobody else leans on, but for what has been kept of it -/
def OwnR (w : World) (base : Nat) (im : Nat → Nat → Prop) (ow : Nat → Option (Nat × Nat)) (L : Nat × Nat) (τ : Ty) (l : List τ.D) (wf ap : Bool) (v : Value) : Prop :=
  (v = .slice none 0 0 ∧ l = []) ∨
  ∃ g cap cur e fz css, v = .slice (some ⟨g, 0, none⟩) l.length cap ∧ base ≤ g ∧ ow g = some L ∧ w.heap[g]? = some (.cells cur e fz) ∧ l.length ≤ cap ∧ cap ≤ maxLen ∧ cur.size = cap * τ.size ∧
    All2 (Rep w im τ) l css ∧ cur.toList.take (l.length * τ.size) = css.flatten ∧ (∀ i, i < cap * τ.size → ¬ (fz.1 ≤ i ∧ i < fz.2)) ∧ (ap = true → fz = (0, 0)) ∧
    (∀ i, l.length * τ.size ≤ i → ¬ im g i) ∧ (wf = true → ∀ i, ¬ im g i)

/-- the parts of a datum that own memory -/
inductive Lf where
  | vec (st : Bool) | bld (u : Nat)
/-- objects' labels begin here -/
def OBJ : Nat := 4294967296
def OwnL (w : World) (B : Nat → Prop) (im : Nat → Nat → Prop) (ow : Nat → Option (Nat × Nat)) (L : Nat × Nat) (τ : Ty) (l : List τ.D) (k : Lf) (v : Value) : Prop :=
  (v = .slice none 0 0 ∧ l = []) ∨
  ∃ g cap cur e fz css, v = .slice (some ⟨g, 0, none⟩) l.length cap ∧ B g ∧ ow g = some L ∧ w.heap[g]? = some (.cells cur e fz) ∧ l.length ≤ cap ∧ cap ≤ maxLen ∧ cur.size = cap * τ.size ∧
    All2 (Rep w im τ) l css ∧ cur.toList.take (l.length * τ.size) = css.flatten ∧ (match k with | .vec st => fz = (0, 0) ∧ (st = true → l ≠ []) | .bld u => fz.2 ≤ l.length ∧ e = u ∧ l ≠ []) ∧ ∀ i, ¬ im g i
def LeafsR (Q : Nat → (t : Ty) → List t.D → Lf → Value → Prop) : (τ : Ty) → τ.D → Nat → List Value → Prop
  | .vec st t, x, j, cs => ∀ v, cs[j]? = some v → Q j t x (.vec st) v
  | .bld _ u, x, j, cs => ∀ v, cs[j + 1]? = some v → Q (j + 1) (.int .u8) x (.bld u) v
  | .scons t r, x, j, cs => LeafsR Q t x.1 j cs ∧ LeafsR Q r x.2 (j + t.size) cs
  | .arr _ t, x, j, cs => ∀ (i : Nat) (y : t.D), (show List t.D from x)[i]? = some y → LeafsR Q t y (j + i * t.size) cs
  | _, _, _, _ => True
/-- a builder knows its own place -/
def Self (b off : Nat) (c : Array Value) (e : TypeId) (fz : Nat × Nat) : Ty → Prop
  | .bld t _ => off = 0 ∧ e = t ∧ c.size = 2 ∧ fz = (0, 0) ∧ (c[0]? = some (.pointer none) ∨ c[0]? = some (.pointer (some ⟨b, 0, none⟩)))
  | _ => True
/-- an object that owns memory: its cells, and what its parts own -/
def VobC (w : World) (B : Nat → Prop) (im : Nat → Nat → Prop) (ow : Nat → Option (Nat × Nat)) (o k0 b off : Nat) (τ : Ty) (x : τ.D) (wr : Bool) : Prop :=
  ∃ cs c e fz, Rep w im τ x cs ∧ w.heap[b]? = some (.cells c e fz) ∧ (∀ j, j < τ.size → c[off + j]? = cs[j]?) ∧
    (wr = true → (∀ j, j < τ.size → ¬ (fz.1 ≤ off + j ∧ off + j < fz.2)) ∧ ∀ j, j < τ.size → ¬ im b (off + j)) ∧
    LeafsR (fun j t l k v => OwnL w B im ow (o, OBJ + (k0 + j)) t l k v) τ x 0 cs ∧ Self b off c e fz τ
/-- what may be written: new blocks, and by leave -/
def Bw (F : Frm) (g : Nat) : Prop := F.W0.heap.size ≤ g

theorem LeafsR.mono {Q Q' : Nat → (t : Ty) → List t.D → Lf → Value → Prop} (hQ : ∀ j t l k v, Q j t l k v → Q' j t l k v) : ∀ {τ : Ty} {x : τ.D} {j : Nat} {cs : List Value}, LeafsR Q τ x j cs → LeafsR Q' τ x j cs
  | .vec st t, x, j, cs, h => fun v hv => hQ _ _ _ _ _ (h v hv)
  | .bld _ _, x, j, cs, h => fun v hv => hQ _ _ _ _ _ (h v hv)
  | .scons t r, x, j, cs, h => ⟨h.1.mono hQ, h.2.mono hQ⟩
  | .arr _ t, x, j, cs, h => fun i y hy => LeafsR.mono hQ (h i y hy)
  | .int _, x, j, cs, h => trivial
  | .bool, x, j, cs, h => trivial
  | .str, x, j, cs, h => trivial
  | .snil, x, j, cs, h => trivial
  | .slice _, x, j, cs, h => trivial

def RelC (F : Frm) (G : Gh) (w : World) (L : Nat × Nat) : V → Value → Prop
  | .undef, _ => True
  | .dat τ x, v => RepV w G.im τ x v
  | .cst c, v => v = c
  | .nilsl, v => v = .slice none 0 0
  | .nilp, v => v = .pointer none
  | .ptr o τ p, v => ∃ b off, G.site o = some (b, off, τ) ∧ okP p τ ∧ v = .pointer (some ⟨b, off + offP p τ, none⟩)
  | .ep τ x, v => ∃ b i cs, v = .pointer (some ⟨b, i, none⟩) ∧ Rep w G.im τ x cs ∧ Lies w G.im b i cs
  | .elp _ ver τ i p, v => ∃ b n cap, G.hd ver = .slice (some ⟨b, 0, none⟩) n cap ∧ i < n ∧ okP p τ ∧ v = .pointer (some ⟨b, i * τ.size + offP p τ, none⟩)
  | .own τ l wf ap ver, v => v = G.hd ver ∧ OwnR w F.W0.heap.size G.im G.ow L τ l wf ap v
  | .al _ ver, v => v = G.hd ver
  | .tup _, _ => False
  | .vw o τ p lo hi, v => ∃ b off n t i cap, G.site o = some (b, off, τ) ∧ okP p τ ∧ tyP p τ = some (.arr n t) ∧ 0 ≤ lo ∧ lo ≤ hi ∧ hi ≤ (n : Int) ∧ (lo < hi → i = off + offP p τ + lo.toNat * t.size) ∧ v = .slice (some ⟨b, i, none⟩) (hi - lo).toNat cap ∧ (hi - lo).toNat ≤ cap ∧ cap ≤ maxLen
  | .fn f, v => v = .func (.func f) #[] #[]

def RelV (F : Frm) (G : Gh) (w : World) (t : Nat) : V → Value → Prop
  | .tup vs, v => ∃ cs : List Value, v = .tuple cs.toArray ∧ (cs.length = vs.length ∧ vs.length ≤ 1000) ∧ ∀ i, RelC F G w (t, i + 1) (vs.getD i .undef) (cs.getD i undef)
  | x, v => RelC F G w (t, 0) x v

/-- the numbers of slots' contents that a value names -/
def namesC (n : Nat) : V → Prop
  | .own _ _ _ _ ver => ver = n
  | .al _ ver => ver = n
  | .elp _ ver _ _ _ => ver = n
  | _ => False
def names (n : Nat) : V → Prop
  | .tup vs => ∃ i, namesC n (vs.getD i .undef)
  | v => namesC n v

/-- an object's cells -/
def ObR (F : Frm) (G : Gh) (w : World) (b off : Nat) (τ : Ty) (x : τ.D) (wr : Bool) : Prop :=
  ∃ cs c e fz, Rep w G.im τ x cs ∧ w.heap[b]? = some (.cells c e fz) ∧ (∀ j, j < τ.size → c[off + j]? = cs[j]?) ∧
    (wr = true → (∀ j, j < τ.size → ¬ (fz.1 ≤ off + j ∧ off + j < fz.2)) ∧ (∀ j, j < τ.size → ¬ G.im b (off + j)) ∧ (F.W0.heap.size ≤ b ∨ ∀ j, j < τ.size → F.mu b (off + j)))

/-- objects that do not live have no place; a parameter's has its own place, or none -/
def Dead (F : Frm) (site : Nat → Option (Nat × Nat × Ty)) (ob : Nat → Ob) : Prop :=
  (∀ o, (ob o).off = true → site o = none) ∧ ∀ o x, F.par o = some x → o < F.np ∧ o < F.N ∧ ob o ≠ .none ∧ ∀ y, site o = some y → y = x

structure Sim (F : Frm) (G : Gh) (s : St) (a : Act) (w : World) : Prop where
  defers : a.defers = []
  tmps : a.tmps.size = F.N
  env : s.env.length = F.N
  obl : s.objs.length = F.N
  usl : s.used.length = F.N
  keep : Keep F.mu F.W0 w
  vals : ∀ t, RelV F G w t (s.get t) (a.tmps.getD t undef)
  vars : ∀ o τ x, s.ob o = .var τ x → ∃ b off, G.site o = some (b, off, τ) ∧ ObR F G w b off τ x true
  ros : ∀ o τ x, s.ob o = .ro τ x → ∃ b off, G.site o = some (b, off, τ) ∧ ObR F G w b off τ x false
  vobs : ∀ o τ x k, s.ob o = .vob τ x k → ∃ b off, G.site o = some (b, off, τ) ∧ VobC w (Bw F) G.im G.ow o 0 b off τ x true ∧ F.W0.heap.size ≤ b
  dead : Dead F G.site s.ob
  apart : ∀ o o' b off τ b' off' τ', o ≠ o' → G.site o = some (b, off, τ) → G.site o' = some (b', off', τ') → b ≠ b' ∨ off + τ.size ≤ off' ∨ off' + τ'.size ≤ off
  sow : ∀ o b off τ, G.site o = some (b, off, τ) → G.ow b = none
  imlt : ∀ b i, G.im b i → b < w.heap.size
  imb : ∀ b i, G.im b i → b < F.W0.heap.size → F.im0 b i
  im0 : ∀ b i, F.im0 b i → G.im b i
  owlt : ∀ b L, G.ow b = some L → (L.2 < OBJ → F.W0.heap.size ≤ b) ∧ b < w.heap.size
  used : ∀ n, s.used.getD n true = false → ∀ t, ¬ names n (s.get t)

/-! ### states -/
theorem St.get_put_same (s : St) (t : Nat) (v : V) (h : t < s.env.length) : (s.put t v).get t = v := by
  simp [St.get, St.put, List.getD_eq_getElem?_getD, h]
theorem St.get_put_ne (s : St) (t t' : Nat) (v : V) (h : t ≠ t') : (s.put t v).get t' = s.get t' := by
  simp [St.get, St.put, List.getD_eq_getElem?_getD, List.getElem?_set_ne h]
theorem St.get_put_out (s : St) (t : Nat) (v : V) (h : ¬ t < s.env.length) : s.put t v = s := by
  cases s; simp only [St.put, St.mk.injEq, and_true]; exact List.set_eq_of_length_le (by simpa using h)
@[simp] theorem St.ob_put (s : St) (t : Nat) (v : V) (o : Nat) : (s.put t v).ob o = s.ob o := rfl
@[simp] theorem St.used_put (s : St) (t : Nat) (v : V) : (s.put t v).used = s.used := rfl
@[simp] theorem St.objs_put (s : St) (t : Nat) (v : V) : (s.put t v).objs = s.objs := rfl
@[simp] theorem St.env_len_put (s : St) (t : Nat) (v : V) : (s.put t v).env.length = s.env.length := by simp [St.put]
@[simp] theorem St.get_setOb (s : St) (o : Nat) (x : Ob) (t : Nat) : (s.setOb o x).get t = s.get t := rfl
@[simp] theorem St.get_use (s : St) (n t : Nat) : (s.use n).get t = s.get t := rfl
@[simp] theorem St.ob_use (s : St) (n o : Nat) : (s.use n).ob o = s.ob o := rfl
theorem St.ob_setOb_same (s : St) (o : Nat) (x : Ob) (h : o < s.objs.length) : (s.setOb o x).ob o = x := by
  simp [St.ob, St.setOb, List.getD_eq_getElem?_getD, h]
theorem St.ob_setOb_ne (s : St) (o o' : Nat) (x : Ob) (h : o ≠ o') : (s.setOb o x).ob o' = s.ob o' := by
  simp [St.ob, St.setOb, List.getD_eq_getElem?_getD, List.getElem?_set_ne h]

theorem Act.getD_put_same (a : Act) (t : Nat) (u : Value) (h : t < a.tmps.size) : (a.put (some t) u).tmps.getD t undef = u := by
  simp [Act.put, Array.getD_eq_getD_getElem?, h]
theorem Act.getD_put_ne (a : Act) (t t' : Nat) (u : Value) (h : t ≠ t') : (a.put (some t) u).tmps.getD t' undef = a.tmps.getD t' undef := by
  simp [Act.put, Array.getD_eq_getD_getElem?, Array.getElem?_setIfInBounds_ne h]
@[simp] theorem Act.defers_put (a : Act) (d : Option Nat) (u : Value) : (a.put d u).defers = a.defers := by cases d <;> rfl
@[simp] theorem Act.size_put (a : Act) (d : Option Nat) (u : Value) : (a.put d u).tmps.size = a.tmps.size := by cases d <;> simp [Act.put]

end Go.SX

-- SX: Sim2
namespace Go.SX
open Go.RowKit
set_option linter.unusedVariables false

/-- a way through -/
def Path : Cmd → St → V → St → Prop
  | .fail, _, _, _ => False
  | .ok v0, s, v, s' => v = v0 ∧ s' = s
  | .get t k, s, v, s' => Path (k (s.get t)) s v s'
  | .slot t x k, s, v, s' => Path k (s.put t x) v s'
  | .ob o k, s, v, s' => Path (k (s.ob o)) s v s'
  | .setOb o x k, s, v, s' => Path k (s.setOb o x) v s'
  | .fresh n k, s, v, s' => s.used.getD n true = false ∧ Path k (s.use n) v s'
  | .chk b k, s, v, s' => b = true ∧ Path k s v s'
  | .br b k1 k2, s, v, s' => (b = true ∧ Path k1 s v s') ∨ (b = false ∧ Path k2 s v s')
  | .call _ x k, s, v, s' => ∃ y, x = some y ∧ Path (k y) s v s'

theorem chk_some {R : Type} {b : Bool} {x : Option R} {r : R} (h : chk b x = some r) : b = true ∧ x = some r := by
  cases b <;> simp_all [chk]
theorem br_some {R : Type} {b : Bool} {x y : Option R} {r : R} (h : br b x y = some r) : (b = true ∧ x = some r) ∨ (b = false ∧ y = some r) := by
  cases b <;> simp_all [br]
theorem obnd_some {A R : Type} {x : Option A} {f : A → Option R} {r : R} (h : obnd x f = some r) : ∃ y, x = some y ∧ f y = some r := by
  cases x <;> simp_all [obnd]

theorem Cmd.run_path {R : Type} : ∀ (c : Cmd) (s : St) (K : V → St → Option R) (r : R), c.run s K = some r → ∃ v s', Path c s v s' ∧ K v s' = some r
  | .fail, s, K, r, h => by simp [Cmd.run] at h
  | .ok v, s, K, r, h => ⟨v, s, ⟨rfl, rfl⟩, h⟩
  | .get t k, s, K, r, h => run_path (k (s.get t)) s K r h
  | .slot t x k, s, K, r, h => run_path k _ K r h
  | .ob o k, s, K, r, h => run_path (k (s.ob o)) s K r h
  | .setOb o x k, s, K, r, h => run_path k _ K r h
  | .fresh n k, s, K, r, h => by
    simp only [Cmd.run] at h
    split at h
    · cases h
    · rename_i e
      obtain ⟨v, s', hp, hk⟩ := run_path k _ K r h
      exact ⟨v, s', ⟨e, hp⟩, hk⟩
  | .chk b k, s, K, r, h => by
    obtain ⟨hb, h⟩ := chk_some h
    obtain ⟨v, s', hp, hk⟩ := run_path k s K r h
    exact ⟨v, s', ⟨hb, hp⟩, hk⟩
  | .br b k1 k2, s, K, r, h => by
    rcases br_some h with ⟨hb, h⟩ | ⟨hb, h⟩
    · obtain ⟨v, s', hp, hk⟩ := run_path k1 s K r h
      exact ⟨v, s', .inl ⟨hb, hp⟩, hk⟩
    · obtain ⟨v, s', hp, hk⟩ := run_path k2 s K r h
      exact ⟨v, s', .inr ⟨hb, hp⟩, hk⟩
  | .call α x k, s, K, r, h => by
    obtain ⟨y, hy, h⟩ := obnd_some h
    obtain ⟨v, s', hp, hk⟩ := run_path (k y) s K r h
    exact ⟨v, s', ⟨y, hy, hp⟩, hk⟩

section
variable {F : Frm} {G G' : Gh} {s : St} {a : Act} {w w' : World}

/-- what has to stay for a value to mean what it meant; X: places of slots that are left out -/
structure Stays (X : Nat × Nat → Prop) (G G' : Gh) (w w' : World) : Prop where
  cell : ∀ b i v, G.im b i → w.cell? ⟨b, i, none⟩ = some v → w'.cell? ⟨b, i, none⟩ = some v
  im : ∀ b i, G.im b i → G'.im b i
  ow : ∀ g L, G.ow g = some L → ¬ X L → G'.ow g = some L ∧ w'.heap[g]? = w.heap[g]? ∧ ∀ i, G'.im g i → G.im g i
  site : ∀ o x, G.site o = some x → G'.site o = some x

theorem Stays.refl (X : Nat × Nat → Prop) (G : Gh) (w : World) : Stays X G G w w := ⟨fun _ _ _ _ h => h, fun _ _ h => h, fun g L h _ => ⟨h, rfl, fun _ h => h⟩, fun _ _ h => h⟩

theorem OwnR.mono {X : Nat × Nat → Prop} {base : Nat} {L : Nat × Nat} {τ : Ty} {l : List τ.D} {wf ap : Bool} {v : Value} (hs : Stays X G G' w w') (hX : ¬ X L) (h : OwnR w base G.im G.ow L τ l wf ap v) : OwnR w' base G'.im G'.ow L τ l wf ap v := by
  rcases h with h | ⟨g, cap, cur, e, fz, css, h1, h2, h3, h4, h5, h6, h7, h8, h9, h10, h11, h12, h13⟩
  · exact .inl h
  · obtain ⟨k1, k2, k3⟩ := hs.ow g L h3 hX
    exact .inr ⟨g, cap, cur, e, fz, css, h1, h2, k1, k2.trans h4, h5, h6, h7, h8.mono fun _ _ h => h.mono hs.cell hs.im, h9, h10, h11, fun i hi hm => h12 i hi (k3 i hm), fun hw i hm => h13 hw i (k3 i hm)⟩

theorem OwnL.mono {X : Nat × Nat → Prop} {B : Nat → Prop} {L : Nat × Nat} {τ : Ty} {l : List τ.D} {k : Lf} {v : Value} (hs : Stays X G G' w w') (hX : ¬ X L) (h : OwnL w B G.im G.ow L τ l k v) : OwnL w' B G'.im G'.ow L τ l k v := by
  rcases h with h | ⟨g, cap, cur, e, fz, css, h1, h2, h3, h4, h5, h6, h7, h8, h9, h10, h11⟩
  · exact .inl h
  · obtain ⟨k1, k2, k3⟩ := hs.ow g L h3 hX
    exact .inr ⟨g, cap, cur, e, fz, css, h1, h2, k1, k2.trans h4, h5, h6, h7, h8.mono fun _ _ h => h.mono hs.cell hs.im, h9, h10, fun i hm => h11 i (k3 i hm)⟩

theorem VobC.mono {X : Nat × Nat → Prop} {B : Nat → Prop} {o k0 b off : Nat} {τ : Ty} {x : τ.D} {wr : Bool} (hs : Stays X G G' w w') (hX : ∀ j, ¬ X (o, OBJ + j))
    (hb : ∀ c e fz, w.heap[b]? = some (.cells c e fz) → ∃ c', w'.heap[b]? = some (.cells c' e fz) ∧ c'.size = c.size ∧ ∀ j, j < τ.size → c'[off + j]? = c[off + j]?) (him : ∀ j, j < τ.size → G'.im b (off + j) → G.im b (off + j))
    (h : VobC w B G.im G.ow o k0 b off τ x wr) : VobC w' B G'.im G'.ow o k0 b off τ x wr := by
  obtain ⟨cs, c, e, fz, h1, h2, h3, h4, h5, h6⟩ := h
  obtain ⟨c', m1, m2, m3⟩ := hb c e fz h2
  refine ⟨cs, c', e, fz, h1.mono hs.cell hs.im, m1, fun j hj => by rw [m3 j hj]; exact h3 j hj, fun hw => ⟨(h4 hw).1, fun j hj hm => (h4 hw).2 j hj (him j hj hm)⟩, h5.mono fun j t l k v hv => hv.mono hs (hX _), ?_⟩
  cases τ with
  | bld t u =>
    obtain ⟨k1, k2, k3, k4, k5⟩ := h6
    have := m3 0 (by simp [Ty.size])
    rw [k1, Nat.zero_add] at this
    exact ⟨k1, k2, m2.trans k3, k4, by rw [this]; exact k5⟩
  | _ => trivial
theorem VobC.mono0 {X : Nat × Nat → Prop} {B : Nat → Prop} {o k0 b off : Nat} {τ : Ty} {x : τ.D} {wr : Bool} (hs : Stays X G G' w w') (hX : ∀ j, ¬ X (o, OBJ + j)) (hb : w'.heap[b]? = w.heap[b]?) (him : ∀ i, G'.im b i → G.im b i)
    (h : VobC w B G.im G.ow o k0 b off τ x wr) : VobC w' B G'.im G'.ow o k0 b off τ x wr :=
  h.mono hs hX (fun c e fz hc => ⟨c, hb.trans hc, rfl, fun _ _ => rfl⟩) fun j _ hm => him _ hm
theorem VobC.lt {B : Nat → Prop} {im : Nat → Nat → Prop} {ow : Nat → Option (Nat × Nat)} {o k0 b off : Nat} {τ : Ty} {x : τ.D} {wr : Bool} (h : VobC w B im ow o k0 b off τ x wr) : b < w.heap.size := by
  obtain ⟨cs, c, e, fz, h1, h2, _⟩ := h
  rcases Nat.lt_or_ge b w.heap.size with hb | hb
  · exact hb
  · rw [Array.getElem?_eq_none hb] at h2; cases h2

theorem RelC.mono {X : Nat × Nat → Prop} {L : Nat × Nat} {v : V} {u : Value} (hs : Stays X G G' w w') (hX : ¬ X L) (hn : ∀ n, namesC n v → G'.hd n = G.hd n) (h : RelC F G w L v u) : RelC F G' w' L v u := by
  cases v with
  | undef => trivial
  | dat τ x => exact RepV.mono hs.cell hs.im h
  | cst c => exact h
  | nilsl => exact h
  | nilp => exact h
  | ptr o τ p => obtain ⟨b, off, h1, h2⟩ := h; exact ⟨b, off, hs.site _ _ h1, h2⟩
  | ep τ x => obtain ⟨b, i, cs, h1, h2, h3⟩ := h; exact ⟨b, i, cs, h1, h2.mono hs.cell hs.im, h3.mono hs.cell hs.im⟩
  | elp t ver τ i p => obtain ⟨b, n, cap, h1, h2⟩ := h; exact ⟨b, n, cap, (hn ver rfl).trans h1, h2⟩
  | own τ l wf ap ver => exact ⟨h.1.trans (hn ver rfl).symm, h.2.mono hs hX⟩
  | al t ver => exact Eq.trans h (hn ver rfl).symm
  | tup vs => exact h
  | vw o τ p lo hi => obtain ⟨b, off, n, t, i, cap, h1, h2⟩ := h; exact ⟨b, off, n, t, i, cap, hs.site _ _ h1, h2⟩
  | fn f => exact h

theorem RelV.eqC {t : Nat} {v : V} {u : Value} (hv : ∀ vs, v ≠ .tup vs) : RelV F G w t v u = RelC F G w (t, 0) v u := by
  cases v <;> first | rfl | exact absurd rfl (hv _)
theorem names_eqC {n : Nat} {v : V} (hv : ∀ vs, v ≠ .tup vs) : names n v = namesC n v := by
  cases v <;> first | rfl | exact absurd rfl (hv _)

theorem RelV.mono {X : Nat × Nat → Prop} {t : Nat} {v : V} {u : Value} (hs : Stays X G G' w w') (hX : ∀ i, i ≤ 1000 → ¬ X (t, i)) (hn : ∀ n, names n v → G'.hd n = G.hd n) (h : RelV F G w t v u) : RelV F G' w' t v u := by
  by_cases hv : ∃ vs, v = .tup vs
  · obtain ⟨vs, rfl⟩ := hv
    obtain ⟨cs, h1, h2, h3⟩ := h
    refine ⟨cs, h1, h2, fun i => ?_⟩
    by_cases hi : i < vs.length
    · exact (h3 i).mono hs (hX _ (by omega)) fun n hi => hn n ⟨i, hi⟩
    · have e : vs.getD i .undef = .undef := by simp [List.getD_eq_getElem?_getD, List.getElem?_eq_none (Nat.le_of_not_lt hi)]
      rw [e]; trivial
  · have hv' : ∀ vs, v ≠ .tup vs := fun vs e => hv ⟨vs, e⟩
    rw [RelV.eqC hv'] at h ⊢
    exact h.mono hs (hX _ (Nat.zero_le _)) fun n hi => hn n (by rw [names_eqC hv']; exact hi)

theorem Sim.put (h : Sim F G s a w) (t : Nat) (v : V) (u : Value) (hv : RelV F G w t v u) (hn : ∀ n, names n v → s.used.getD n true = true) : Sim F G (s.put t v) (a.put (some t) u) w := by
  by_cases ht : t < F.N
  · have hts : t < s.env.length := by rw [h.env]; exact ht
    have hta : t < a.tmps.size := by rw [h.tmps]; exact ht
    refine ⟨h.defers, by simp [h.tmps], by simp [h.env], h.obl, h.usl, h.keep, ?_, h.vars, h.ros, h.vobs, h.dead, h.apart, h.sow, h.imlt, h.imb, h.im0, h.owlt, ?_⟩
    · intro t'
      by_cases e : t = t'
      · subst e; rw [St.get_put_same _ _ _ hts, Act.getD_put_same _ _ _ hta]; exact hv
      · rw [St.get_put_ne _ _ _ _ e, Act.getD_put_ne _ _ _ _ e]; exact h.vals t'
    · intro n hu t' hn'
      by_cases e : t = t'
      · subst e; rw [St.get_put_same _ _ _ hts] at hn'; have := hn n hn'; rw [show s.used.getD n true = false from hu] at this; cases this
      · rw [St.get_put_ne _ _ _ _ e] at hn'; exact h.used n hu t' hn'
  · have e1 : s.put t v = s := St.get_put_out s t v (by rw [h.env]; exact ht)
    have e2 : a.put (some t) u = a := by
      have : ¬ t < a.tmps.size := by rw [h.tmps]; exact ht
      cases a
      simp only [Act.put, Act.mk.injEq, and_true]
      exact Array.setIfInBounds_eq_of_size_le (by simpa using this)
    rw [e1, e2]; exact h

theorem Sim.putd (h : Sim F G s a w) (d : Option Nat) (v : V) (u : Value) (hv : ∀ t, d = some t → RelV F G w t v u) (hn : ∀ n, names n v → s.used.getD n true = true) : Sim F G (putd s d v) (a.put d u) w := by
  cases d with
  | none => exact h
  | some t => exact h.put t v u (hv t rfl) hn

/-- less is known of a slot -/
theorem Sim.slot (h : Sim F G s a w) (t : Nat) (v : V) (hv : RelV F G w t v (a.tmps.getD t undef)) (hn : ∀ n, names n v → s.used.getD n true = true) : Sim F G (s.put t v) a w := by
  by_cases ht : t < F.N
  · have hts : t < s.env.length := by rw [h.env]; exact ht
    refine ⟨h.defers, h.tmps, by simp [h.env], h.obl, h.usl, h.keep, ?_, h.vars, h.ros, h.vobs, h.dead, h.apart, h.sow, h.imlt, h.imb, h.im0, h.owlt, ?_⟩
    · intro t'
      by_cases e : t = t'
      · subst e; rw [St.get_put_same _ _ _ hts]; exact hv
      · rw [St.get_put_ne _ _ _ _ e]; exact h.vals t'
    · intro n hu t' hn'
      by_cases e : t = t'
      · subst e; rw [St.get_put_same _ _ _ hts] at hn'; have := hn n hn'; rw [show s.used.getD n true = false from hu] at this; cases this
      · rw [St.get_put_ne _ _ _ _ e] at hn'; exact h.used n hu t' hn'
  · rw [St.get_put_out s t v (by rw [h.env]; exact ht)]; exact h

theorem Sim.named (h : Sim F G s a w) {t n : Nat} (hn : names n (s.get t)) : s.used.getD n true = true := by
  cases e : s.used.getD n true with
  | true => rfl
  | false => exact absurd hn (h.used n e t)

theorem used_use {s : St} {n m : Nat} (h : (s.use n).used.getD m true = false) : s.used.getD m true = false ∧ (n < s.used.length → m ≠ n) := by
  simp only [St.use, List.getD_eq_getElem?_getD] at h ⊢
  by_cases e : n = m
  · subst e
    by_cases hl : n < s.used.length
    · simp [hl] at h
    · simp [hl] at h
  · rw [List.getElem?_set_ne e] at h
    exact ⟨h, fun _ he => e he.symm⟩

theorem Sim.use (h : Sim F G s a w) (n : Nat) : Sim F G (s.use n) a w :=
  ⟨h.defers, h.tmps, h.env, h.obl, by simp [St.use, h.usl], h.keep, h.vals, h.vars, h.ros, h.vobs, h.dead, h.apart, h.sow, h.imlt, h.imb, h.im0, h.owlt, fun m hm t => h.used m (used_use hm).1 t⟩

theorem heap_lt {w : World} {b : Nat} {o : Obj} (h : w.heap[b]? = some o) : b < w.heap.size := by
  rcases Nat.lt_or_ge b w.heap.size with hb | hb
  · exact hb
  · rw [Array.getElem?_eq_none hb] at h; cases h
theorem cell_lt {w : World} {b i : Nat} {v : Value} (h : w.cell? ⟨b, i, none⟩ = some v) : b < w.heap.size := by
  unfold World.cell? at h
  split at h
  · rename_i c e f hb; exact heap_lt hb
  · cases h

/-- new blocks alone: what is known beside grows with them -/
structure Grows (s : St) (G G' : Gh) (w w' : World) : Prop where
  os : w'.os = w.os
  tape : w'.tape = w.tape
  output : w'.output = w.output
  size : w.heap.size ≤ w'.heap.size
  block : ∀ b, b < w.heap.size → w'.heap[b]? = w.heap[b]?
  im : ∀ b i, G.im b i → G'.im b i
  im' : ∀ b i, G'.im b i → (G.im b i ∨ w.heap.size ≤ b) ∧ b < w'.heap.size
  ow : ∀ b, b < w.heap.size → G'.ow b = G.ow b
  ow' : ∀ b L, G'.ow b = some L → b < w'.heap.size
  site : G'.site = G.site
  hd : ∀ n, s.used.getD n true = true → G'.hd n = G.hd n

theorem Grows.stays (h : Sim F G s a w) (g : Grows s G G' w w') : Stays (fun _ => False) G G' w w' := by
  refine ⟨fun b i v _ hc => ?_, g.im, fun b L hL _ => ?_, fun o x hx => by rw [g.site]; exact hx⟩
  · have := cell_lt hc
    rw [World.cell?_of_block (w := w) (g.block b this)]; exact hc
  · have hb := (h.owlt b L hL).2
    exact ⟨by rw [g.ow b hb]; exact hL, g.block b hb, fun i hi => ((g.im' b i hi).1).resolve_right (by omega)⟩

theorem Sim.grow (h : Sim F G s a w) (g : Grows s G G' w w') (hbase : F.W0.heap.size ≤ w.heap.size) : Sim F G' s a w' := by
  have hs := g.stays h
  have ob : ∀ b off τ x wr, ObR F G w b off τ x wr → ObR F G' w' b off τ x wr := by
    rintro b off τ x wr ⟨cs, c, e, fz, h1, h2, h3, h4⟩
    have hb := heap_lt h2
    refine ⟨cs, c, e, fz, h1.mono hs.cell hs.im, by rw [g.block b hb]; exact h2, h3, fun hw => ?_⟩
    obtain ⟨k1, k2, k3⟩ := h4 hw
    exact ⟨k1, fun j hj hm => k2 j hj (((g.im' _ _ hm).1).resolve_right (by omega)), k3⟩
  refine ⟨h.defers, h.tmps, h.env, h.obl, h.usl, h.keep.trans (Keep.of_blocks g.os g.tape g.output g.size g.block |>.mono fun _ _ _ h => h) , ?_, ?_, ?_, ?_, ?_, ?_, ?_, ?_, ?_, ?_, ?_, h.used⟩
  · intro t; exact (h.vals t).mono hs (fun _ _ => id) fun n hn => g.hd n (h.named hn)
  · intro o τ x hx; obtain ⟨b, off, h1, h2⟩ := h.vars o τ x hx; exact ⟨b, off, by rw [g.site]; exact h1, ob _ _ _ _ _ h2⟩
  · intro o τ x hx; obtain ⟨b, off, h1, h2⟩ := h.ros o τ x hx; exact ⟨b, off, by rw [g.site]; exact h1, ob _ _ _ _ _ h2⟩
  · intro o τ x k hx
    obtain ⟨b, off, h1, h2, h3⟩ := h.vobs o τ x k hx
    have hb := h2.lt
    exact ⟨b, off, by rw [g.site]; exact h1, h2.mono0 hs (fun _ => id) (g.block b hb) fun i hm => ((g.im' _ _ hm).1).resolve_right (by omega), h3⟩
  · rw [g.site]; exact h.dead
  · rw [g.site]; exact h.apart
  · intro o b off τ ho
    rw [g.site] at ho
    have hlt : b < w.heap.size := by
      cases e : s.ob o with
      | none => rw [h.dead.1 o (by rw [e]; rfl)] at ho; cases ho
      | gone => rw [h.dead.1 o (by rw [e]; rfl)] at ho; cases ho
      | var τ' x =>
        obtain ⟨b', off', h1, cs, c, e, fz, _, h2, _⟩ := h.vars o τ' x e
        rw [ho] at h1; cases h1; exact heap_lt h2
      | ro τ' x =>
        obtain ⟨b', off', h1, cs, c, e, fz, _, h2, _⟩ := h.ros o τ' x e
        rw [ho] at h1; cases h1; exact heap_lt h2
      | vob τ' x k =>
        obtain ⟨b', off', h1, h2, _⟩ := h.vobs o τ' x k e
        rw [ho] at h1; cases h1; exact h2.lt
    rw [g.ow b hlt]; exact h.sow o b off τ ho
  · intro b i hi; exact (g.im' b i hi).2
  · intro b i hi hb; exact h.imb b i (((g.im' b i hi).1).resolve_right (by omega)) hb
  · intro b i hi; exact g.im b i (h.im0 b i hi)
  · intro b L hL
    by_cases hb : b < w.heap.size
    · rw [g.ow b hb] at hL; exact ⟨(h.owlt b L hL).1, g.ow' b L (by rw [g.ow b hb]; exact hL)⟩
    · exact ⟨fun _ => by omega, g.ow' b L hL⟩

theorem Sim.base (h : Sim F G s a w) : F.W0.heap.size ≤ w.heap.size := h.keep.size
end
end Go.SX

-- SX: Sim3
namespace Go.SX
open Go.RowKit
set_option linter.unusedVariables false

section
variable {F : Frm} {G G' : Gh} {s s' : St} {a : Act} {w w' : World}

theorem Sim.reghost (h : Sim F G s a w) (t : Nat) (v : V) (st : Stays (fun L => L.1 = t ∧ L.2 < OBJ) G G' w w) (hv : RelV F G' w t v (a.tmps.getD t undef)) (hn : ∀ n, names n v → s.used.getD n true = true)
    (hsite : G'.site = G.site) (how : G'.ow = G.ow) (hhd : G'.hd = G.hd) (him' : ∀ b i, G'.im b i → G.im b i ∨ ∃ L, G.ow b = some L ∧ L.2 < OBJ) : Sim F G' (s.put t v) a w := by
  have ob : ∀ o b off τ x wr, G.site o = some (b, off, τ) → ObR F G w b off τ x wr → ObR F G' w b off τ x wr := by
    rintro o b off τ x wr ho ⟨cs, c, e, fz, h1, h2, h3, h4⟩
    refine ⟨cs, c, e, fz, h1.mono st.cell st.im, h2, h3, fun hw => ?_⟩
    obtain ⟨k1, k2, k3⟩ := h4 hw
    refine ⟨k1, fun j hj hm => ?_, k3⟩
    rcases him' _ _ hm with hm | ⟨L, hL, _⟩
    · exact k2 j hj hm
    · rw [h.sow o b off τ ho] at hL; cases hL
  have vals : ∀ t', t' ≠ t → RelV F G' w t' (s.get t') (a.tmps.getD t' undef) := fun t' ht' => (h.vals t').mono st (fun i _ e => ht' e.1) fun n _ => by rw [hhd]
  refine ⟨h.defers, h.tmps, by simp [h.env], h.obl, h.usl, h.keep, ?_, ?_, ?_, ?_, ?_, ?_, ?_, ?_, ?_, ?_, ?_, ?_⟩
  · intro t'
    by_cases e : t' = t
    · subst e
      by_cases ht : t' < s.env.length
      · rw [St.get_put_same _ _ _ ht]; exact hv
      · rw [St.get_put_out _ _ _ ht]
        have : s.get t' = .undef := by simp only [St.get, List.getD_eq_getElem?_getD]; rw [List.getElem?_eq_none (by omega)]; rfl
        rw [this]; trivial
    · rw [St.get_put_ne _ _ _ _ (Ne.symm e)]; exact vals t' e
  · intro o τ x hx; obtain ⟨b, off, h1, h2⟩ := h.vars o τ x hx; exact ⟨b, off, by rw [hsite]; exact h1, ob o _ _ _ _ _ h1 h2⟩
  · intro o τ x hx; obtain ⟨b, off, h1, h2⟩ := h.ros o τ x hx; exact ⟨b, off, by rw [hsite]; exact h1, ob o _ _ _ _ _ h1 h2⟩
  · intro o τ x k hx
    obtain ⟨b, off, h1, h2, h3⟩ := h.vobs o τ x k hx
    refine ⟨b, off, by rw [hsite]; exact h1, h2.mono0 st (fun j hj => by unfold OBJ at hj; omega) rfl fun i hm => ?_, h3⟩
    rcases him' _ _ hm with hm | ⟨L, hL, _⟩
    · exact hm
    · rw [h.sow o b off τ h1] at hL; cases hL
  · rw [hsite]; exact h.dead
  · rw [hsite]; exact h.apart
  · rw [hsite, how]; exact h.sow
  · intro b i hi
    rcases him' b i hi with hi | ⟨L, hL, _⟩
    · exact h.imlt b i hi
    · exact (h.owlt b L hL).2
  · intro b i hi hb
    rcases him' b i hi with hi | ⟨L, hL, hlt⟩
    · exact h.imb b i hi hb
    · have := (h.owlt b L hL).1 hlt; omega
  · intro b i hi; exact st.im b i (h.im0 b i hi)
  · rw [how]; exact h.owlt
  · intro n hu t' hn'
    by_cases ht : t < s.env.length
    · by_cases e : t = t'
      · subst e; rw [St.get_put_same _ _ _ ht] at hn'; have := hn n hn'; rw [show s.used.getD n true = false from hu] at this; cases this
      · rw [St.get_put_ne _ _ _ _ e] at hn'; exact h.used n hu t' hn'
    · rw [St.get_put_out _ _ _ ht] at hn'; exact h.used n hu t' hn'

/-- what is not to be written now: what has been kept, and the slots' blocks -/
def imr (G : Gh) : Nat → Nat → Prop := fun b i => G.im b i ∨ ∃ L, G.ow b = some L ∧ L.2 < OBJ

theorem cell_of_heap {w : World} {g : Nat} {cur : Array Value} {e : TypeId} {fz : Nat × Nat} (h : w.heap[g]? = some (.cells cur e fz)) (i : Nat) : w.cell? ⟨g, i, none⟩ = cur[i]? := by
  simp [World.cell?, h]

theorem OwnR.lies {base : Nat} {L : Nat × Nat} {τ : Ty} {l : List τ.D} {wf ap : Bool} {v : Value} (h : OwnR w base G.im G.ow L τ l wf ap v) :
    ∃ c : Option Addr, ∃ cap, v = .slice c l.length cap ∧ l.length ≤ cap ∧ cap ≤ maxLen ∧ (l = [] ∨ ∃ g css, c = some ⟨g, 0, none⟩ ∧ G.ow g = some L ∧ All2 (Rep w G.im τ) l css ∧ css.flatten.length = l.length * τ.size ∧ ∀ j u, css.flatten[j]? = some u → w.cell? ⟨g, 0 + j, none⟩ = some u) := by
  rcases h with ⟨rfl, rfl⟩ | ⟨g, cap, cur, e, fz, css, h1, h2, h3, h4, h5, h6, h7, h8, h9, h10, h11, h12, h13⟩
  · exact ⟨none, 0, rfl, Nat.le_refl _, Nat.zero_le _, .inl rfl⟩
  · refine ⟨_, cap, h1, h5, h6, .inr ⟨g, css, rfl, h3, h8, ?_, fun j u hj => ?_⟩⟩
    · rw [flatten_len (n := τ.size) (fun c hc => by obtain ⟨x, _, hx⟩ := h8.mem_right c hc; exact hx.length), ← h8.length]
    · rw [Nat.zero_add, cell_of_heap h4]
      rw [← h9, List.getElem?_take] at hj
      split at hj
      · simpa using hj
      · cases hj

/-- a slot's content, read at once -/
theorem OwnR.rep {base : Nat} {L : Nat × Nat} {τ : Ty} {l : List τ.D} {wf ap : Bool} {v : Value} {im' : Nat → Nat → Prop} (h : OwnR w base G.im G.ow L τ l wf ap v) (hi : ∀ b i, G.im b i → im' b i)
    (ho : ∀ g, G.ow g = some L → ∀ i, i < l.length * τ.size → im' g i) : RepV w im' (.slice τ) l v := by
  obtain ⟨c, cap, rfl, hle, hmx, hl⟩ := h.lies
  refine ⟨[.slice c l.length cap], ⟨c, cap, rfl, hle, hmx, hl.imp id ?_⟩, rfl⟩
  rintro ⟨g, css, rfl, h1, h2, h3, h4⟩
  refine ⟨g, 0, rfl, css, h2.mono fun _ _ hr => hr.mono (fun _ _ _ _ h => h) hi, fun j u hj => ⟨h4 j u hj, ho g h1 _ ?_⟩⟩
  rw [← h3, Nat.zero_add]
  rcases Nat.lt_or_ge j css.flatten.length with hlt | hge
  · exact hlt
  · rw [List.getElem?_eq_none hge] at hj; cases hj

theorem Sim.freeze (h : Sim F G s a w) {t : Nat} {τ : Ty} {l : List τ.D} {wf ap : Bool} {ver : Nat} (hs : s.get t = .own τ l wf ap ver) :
    ∃ G1, Sim F G1 (s.put t (.own τ l false ap ver)) a w ∧ Stays (fun L => L.1 = t ∧ L.2 < OBJ) G G1 w w ∧ G1.site = G.site ∧ G1.ow = G.ow ∧ G1.hd = G.hd ∧ RepV w G1.im (.slice τ) l (a.tmps.getD t undef) ∧ ∀ b i, G1.im b i → G.im b i ∨ ∃ L, G.ow b = some L ∧ L.2 < OBJ := by
  have hv := h.vals t
  rw [hs] at hv
  obtain ⟨e1, ho⟩ := hv
  let G1 : Gh := { G with im := fun b i => G.im b i ∨ (G.ow b = some (t, 0) ∧ i < l.length * τ.size) }
  have st : Stays (fun L => L.1 = t ∧ L.2 < OBJ) G G1 w w := by
    refine ⟨fun _ _ _ _ h => h, fun b i h => .inl h, fun g L hL hX => ⟨hL, rfl, fun i hi => ?_⟩, fun _ _ h => h⟩
    rcases hi with hi | ⟨hi, _⟩
    · exact hi
    · rw [hL] at hi; cases hi; exact absurd ⟨rfl, by simp [OBJ]⟩ hX
  have hrep : RepV w G1.im (.slice τ) l (a.tmps.getD t undef) := ho.rep (fun b i h => .inl h) fun g hg i hi => .inr ⟨hg, hi⟩
  have him' : ∀ b i, G1.im b i → G.im b i ∨ ∃ L, G.ow b = some L ∧ L.2 < OBJ := by
    intro b i hi
    rcases hi with hi | ⟨hi, _⟩
    · exact .inl hi
    · exact .inr ⟨_, hi, by simp [OBJ]⟩
  refine ⟨G1, h.reghost t _ st ⟨e1, ?_⟩ (fun n hn => h.named (t := t) (by rw [hs]; exact hn)) rfl rfl rfl him', st, rfl, rfl, rfl, hrep, him'⟩
  · rcases ho with ho | ⟨g, cap, cur, e, fz, css, h1, h2, h3, h4, h5, h6, h7, h8, h9, h10, h11, h12, h13⟩
    · exact .inl ho
    · refine .inr ⟨g, cap, cur, e, fz, css, h1, h2, h3, h4, h5, h6, h7, h8.mono fun _ _ hr => hr.mono (fun _ _ _ _ h => h) (fun _ _ h => .inl h), h9, h10, h11, fun i hi hm => ?_, fun hf => by cases hf⟩
      rcases hm with hm | ⟨_, hm⟩
      · exact h12 i hi hm
      · omega

/-! ### operands -/
theorem size_of_ble {b : ByteArray} (h : Nat.ble b.data.toList.length 1000000 = true) : b.size ≤ maxLen := by
  have h1 := Nat.le_of_ble_eq_true h
  have h2 : b.size = b.data.toList.length := rfl
  unfold maxLen; omega

theorem constV_rel (t : Nat) (c : Value) : RelV F G w t (constV c) c := by
  unfold constV
  split
  · exact ⟨[.bool _], rfl, rfl⟩
  · split
    · rename_i e; exact ⟨[.int _ _], ⟨rfl, of_decide_eq_true e⟩, rfl⟩
    · trivial
  · split
    · rename_i e
      exact ⟨[.string _], ⟨_, rfl, rfl, size_of_ble e⟩, rfl⟩
    · trivial
  · rfl
  · rfl
  · rfl

theorem constV_plain (c : Value) : (∀ vs, constV c ≠ .tup vs) ∧ (∀ n, ¬ names n (constV c)) := by
  unfold constV
  split <;> first | exact ⟨fun vs h => (by cases h), fun n h => h⟩ | skip
  all_goals (split <;> exact ⟨fun vs h => (by cases h), fun n h => h⟩)

/-- an operand's value: what stands for it, and where -/
structure Opd (F : Frm) (G : Gh) (s : St) (a : Act) (w : World) (x : Operand) (v : V) (t : Nat) : Prop where
  rel : RelV F G w t v (a.eval x)
  tmp : ∀ t', x = .tmp t' → t = t' ∧ v = s.get t'
  const : (∀ t', x ≠ .tmp t') → (∀ vs, v ≠ .tup vs) ∧ (∀ n, ¬ names n v)

theorem vget_path (h : Sim F G s a w) {x : Operand} {k : V → Cmd} {v : V} (hp : Path (vget x k) s v s') : ∃ vx t, Opd F G s a w x vx t ∧ Path (k vx) s v s' := by
  cases x with
  | tmp t => exact ⟨s.get t, t, ⟨h.vals t, fun t' e => by cases e; exact ⟨rfl, rfl⟩, fun hx => absurd rfl (hx t)⟩, hp⟩
  | const c => exact ⟨constV c, 0, ⟨constV_rel 0 c, fun t' e => (by cases e), fun _ => constV_plain c⟩, hp⟩
  | global g => exact hp.elim
  | func f => exact ⟨.fn f, 0, ⟨rfl, fun t' e => (by cases e), fun _ => ⟨fun vs e => (by cases e), fun n h => h⟩⟩, hp⟩

theorem Opd.named (h : Sim F G s a w) {x : Operand} {v : V} {t : Nat} (o : Opd F G s a w x v t) {n : Nat} (hn : names n v) : s.used.getD n true = true := by
  cases x with
  | tmp t' => obtain ⟨_, rfl⟩ := o.tmp t' rfl; exact h.named hn
  | _ => exact absurd hn ((o.const fun t' e => (by cases e)).2 n)

theorem cast_some {τ' τ : Ty} {x : τ'.D} {y : τ.D} (h : cast? τ x = some y) : ∃ e : τ' = τ, e ▸ x = y := by
  unfold cast? at h
  split at h
  · rename_i e; exact ⟨e, by simpa using h⟩
  · cases h
theorem castL_some {τ' τ : Ty} {x : List τ'.D} {y : List τ.D} (h : castL τ x = some y) : ∃ e : τ' = τ, e ▸ x = y := by
  unfold castL at h
  split at h
  · rename_i e; exact ⟨e, by simpa using h⟩
  · cases h

theorem slotOf_path {t ver : Nat} {k : (τ : Ty) → List τ.D → Bool → Bool → Cmd} {v : V} (hp : Path (slotOf t ver k) s v s') : ∃ τ l wf ap, s.get t = .own τ l wf ap ver ∧ Path (k τ l wf ap) s v s' := by
  unfold slotOf at hp
  simp only [Path] at hp
  split at hp
  · rename_i τ l wf ap ver' e
    split at hp
    · rename_i hb
      have := Nat.eq_of_beq_eq_true hb
      subst this
      exact ⟨τ, l, wf, ap, e, hp⟩
    · exact hp.elim
  · exact hp.elim

/-- a constant's datum -/
theorem aggRep {α : Type} {R : α → List Value → Prop} {f : List Value → Option (α × List Value)} (hf : ∀ vs x r, f vs = some (x, r) → ∃ cs, vs = cs ++ r ∧ R x cs) :
    ∀ (n : Nat) (vs : List Value) (l : List α) (r : List Value), constD.rep f n vs = some (l, r) → l.length = n ∧ ∃ css, vs = List.flatten css ++ r ∧ All2 R l css
  | 0, vs, l, r, h => by simp only [constD.rep, Option.some.injEq, Prod.mk.injEq] at h; obtain ⟨rfl, rfl⟩ := h; exact ⟨rfl, [], rfl, trivial⟩
  | n + 1, vs, l, r, h => by
    simp only [constD.rep] at h
    split at h
    · rename_i x r1 h1
      split at h
      · rename_i l2 r2 h2
        simp only [Option.some.injEq, Prod.mk.injEq] at h
        obtain ⟨rfl, rfl⟩ := h
        obtain ⟨cs, rfl, hr⟩ := hf _ _ _ h1
        obtain ⟨hl, css, rfl, ha⟩ := aggRep hf n _ _ _ h2
        exact ⟨by simp [hl], cs :: css, by simp, hr, ha⟩
      · cases h
    · cases h

theorem aggD_rep (im : Nat → Nat → Prop) : ∀ (τ : Ty) (vs : List Value) (x : τ.D) (r : List Value), constD.aggD τ vs = some (x, r) → ∃ cs, vs = cs ++ r ∧ Rep w im τ x cs
  | .int k, vs, x, r, h => by
    simp only [constD.aggD] at h
    split at h
    · split at h
      · rename_i e
        obtain ⟨rfl, e2⟩ := of_decide_eq_true e
        simp only [Option.some.injEq, Prod.mk.injEq] at h
        obtain ⟨rfl, rfl⟩ := h
        exact ⟨[_], rfl, rfl, e2⟩
      · cases h
    · cases h
  | .bool, vs, x, r, h => by
    simp only [constD.aggD] at h
    split at h
    · simp only [Option.some.injEq, Prod.mk.injEq] at h
      obtain ⟨rfl, rfl⟩ := h
      exact ⟨[_], rfl, rfl⟩
    · cases h
  | .str, vs, x, r, h => by
    simp only [constD.aggD] at h
    split at h
    · split at h
      · rename_i e
        simp only [Option.some.injEq, Prod.mk.injEq] at h
        obtain ⟨rfl, rfl⟩ := h
        exact ⟨[_], rfl, _, rfl, rfl, size_of_ble e⟩
      · cases h
    · cases h
  | .snil, vs, x, r, h => by
    simp only [constD.aggD, Option.some.injEq, Prod.mk.injEq] at h
    obtain ⟨_, rfl⟩ := h
    exact ⟨[], rfl, rfl⟩
  | .scons t q, vs, x, r, h => by
    simp only [constD.aggD] at h
    split at h
    · rename_i x1 r1 h1
      split at h
      · rename_i x2 r2 h2
        simp only [Option.some.injEq, Prod.mk.injEq] at h
        obtain ⟨rfl, rfl⟩ := h
        obtain ⟨c1, rfl, k1⟩ := aggD_rep im t _ _ _ h1
        obtain ⟨c2, rfl, k2⟩ := aggD_rep im q _ _ _ h2
        exact ⟨c1 ++ c2, by simp, c1, c2, rfl, k1, k2⟩
      · cases h
    · cases h
  | .slice t, vs, x, r, h => by
    simp only [constD.aggD] at h
    split at h
    · simp only [Option.some.injEq, Prod.mk.injEq] at h
      obtain ⟨rfl, rfl⟩ := h
      exact ⟨[_], rfl, none, 0, rfl, Nat.le_refl _, Nat.zero_le _, .inl rfl⟩
    · cases h
  | .vec _ _, vs, x, r, h => by simp [constD.aggD] at h
  | .bld _ _, vs, x, r, h => by simp [constD.aggD] at h
  | .arr n t, vs, x, r, h => by
    simp only [constD.aggD] at h
    obtain ⟨hl, css, rfl, ha⟩ := aggRep (aggD_rep im t) n _ _ _ h
    exact ⟨css.flatten, rfl, hl, css, rfl, ha⟩

theorem isAgg_of_aggD {τ : Ty} (h : isAggT τ = false) : True := trivial

theorem constD_rep (im : Nat → Nat → Prop) {τ : Ty} {c : Value} {x : τ.D} (ha : isAggT τ = true) (h : constD τ c = some x) : RepV w im τ x c := by
  unfold constD at h
  split at h
  · split at h
    · rename_i cs _ y heq
      simp only [Option.some.injEq] at h
      subst h
      obtain ⟨cs', e, hr⟩ := aggD_rep (w := w) im τ _ _ _ heq
      refine ⟨cs', hr, ?_⟩
      unfold valOf
      rw [ha]
      rw [List.append_nil] at e
      simp only [← e, Array.toArray_toList]
    · cases h
  · cases h

end
end Go.SX

-- SX: Sim4
namespace Go.SX
open Go.RowKit
set_option linter.unusedVariables false

/-! ### setCells -/
theorem setCell_heap {w : World} {b o : Nat} {v : Value} {c : Array Value} {e : TypeId} {fz : Nat × Nat} (h : w.heap[b]? = some (.cells c e fz)) : (w.setCell ⟨b, o, none⟩ v).heap[b]? = some (.cells (c.setIfInBounds o v) e fz) := by
  simp [World.setCell, Array.getElem?_modify, h]
theorem setCells_heap {b : Nat} {e : TypeId} {fz : Nat × Nat} : ∀ (vs : List Value) (o : Nat) (w : World) (c : Array Value), w.heap[b]? = some (.cells c e fz) →
    ∃ c', (w.setCells b o vs).heap[b]? = some (.cells c' e fz) ∧ c'.size = c.size ∧ (∀ i, i < o ∨ o + vs.length ≤ i → c'[i]? = c[i]?) ∧ (∀ j, j < vs.length → o + j < c.size → c'[o + j]? = vs[j]?)
  | [], o, w, c, h => ⟨c, h, rfl, fun _ _ => rfl, fun j hj => absurd hj (Nat.not_lt_zero _)⟩
  | v :: r, o, w, c, h => by
    obtain ⟨c', h1, h2, h3, h4⟩ := setCells_heap r (o + 1) (w.setCell ⟨b, o, none⟩ v) (c.setIfInBounds o v) (setCell_heap h)
    refine ⟨c', h1, by simpa using h2, fun i hi => ?_, fun j hj hlt => ?_⟩
    · rw [h3 i (by simp at hi; omega), Array.getElem?_setIfInBounds_ne (by simp at hi; omega)]
    · cases j with
      | zero =>
        rw [Nat.add_zero, h3 o (.inl (by omega))]
        have : o < c.size := by simpa using hlt
        simp [this]
      | succ j =>
        have := h4 j (by simpa using hj) (by simp; omega)
        rw [show o + (j + 1) = o + 1 + j by omega, this]; simp
theorem setCells_other {b : Nat} : ∀ (vs : List Value) (o : Nat) (w : World) (k : Nat), k ≠ b → (w.setCells b o vs).heap[k]? = w.heap[k]?
  | [], o, w, k, h => rfl
  | v :: r, o, w, k, h => by rw [World.setCells, setCells_other r (o + 1) _ k h]; exact Below.heap_setCell _ _ _ _ h
theorem setCells_size {b : Nat} : ∀ (vs : List Value) (o : Nat) (w : World), (w.setCells b o vs).heap.size = w.heap.size
  | [], o, w => rfl
  | v :: r, o, w => by rw [World.setCells, setCells_size r]; simp [World.setCell]
theorem setCells_same {b : Nat} : ∀ (vs : List Value) (o : Nat) (w : World), (w.setCells b o vs).os = w.os ∧ (w.setCells b o vs).tape = w.tape ∧ (w.setCells b o vs).output = w.output
  | [], o, w => ⟨rfl, rfl, rfl⟩
  | v :: r, o, w => by rw [World.setCells]; have := setCells_same r (o + 1) (w.setCell ⟨b, o, none⟩ v) (b := b); exact this

/-! ### paths -/
variable {w : World} {im : Nat → Nat → Prop}

theorem drop_take_sub {α : Type} (cs : List α) (a m b n : Nat) (h : ((((cs.drop a).take m).drop b).take n).length = n) : (((cs.drop a).take m).drop b).take n = (cs.drop (a + b)).take n := by
  rw [List.drop_take, List.drop_drop, List.take_take] at h ⊢
  rw [List.length_take] at h
  have : min n (m - b) = n := by omega
  rw [this]

theorem flatten_part {css : List (List Value)} {n : Nat} (h : ∀ c ∈ css, c.length = n) : ∀ (i : Nat) (c : List Value), css[i]? = some c → (css.flatten.drop (i * n)).take n = c := by
  induction css with
  | nil => intro i c hc; simp at hc
  | cons d r ih =>
    intro i c hc
    have hd := h d List.mem_cons_self
    cases i with
    | zero =>
      simp only [List.getElem?_cons_zero, Option.some.injEq] at hc
      subst hc
      rw [List.flatten_cons, Nat.zero_mul, List.drop_zero, ← hd, List.take_left]
    | succ i =>
      have := ih (fun e he => h e (List.mem_cons_of_mem _ he)) i c (by simpa using hc)
      rw [List.flatten_cons, show (i + 1) * n = d.length + i * n by rw [hd, Nat.add_mul]; omega, ← List.drop_drop, List.drop_left]
      exact this

theorem All2.lens {τ : Ty} {l : List τ.D} {css : List (List Value)} (h : All2 (Rep w im τ) l css) : ∀ c ∈ css, c.length = τ.size := fun c hc => by
  obtain ⟨x, _, hx⟩ := h.mem_right c hc; exact hx.length

theorem fldG_rep {k : (σ : Ty) → σ.D → Cmd} {s s' : St} {r : V} : ∀ (τ : Ty) (x : τ.D) (i : Nat), Path (fldG τ x i k .fail) s r s' → ∃ σ y, fldT τ i = some σ ∧ Path (k σ y) s r s' ∧ ∀ cs, Rep w im τ x cs → Rep w im σ y ((cs.drop (fldOff τ i)).take σ.size)
  | .scons t q, x, 0, h => by
    refine ⟨t, x.1, rfl, h, fun cs hr => ?_⟩
    obtain ⟨c1, c2, rfl, h1, h2⟩ := hr
    have := h1.length
    simp only [fldOff, List.drop_zero, ← this, List.take_left]
    exact h1
  | .scons t q, x, i + 1, h => by
    obtain ⟨σ, y, h1, h2, h3⟩ := fldG_rep q x.2 i h
    refine ⟨σ, y, h1, h2, fun cs hr => ?_⟩
    obtain ⟨c1, c2, rfl, k1, k2⟩ := hr
    have := h3 c2 k2
    simp only [fldOff, ← k1.length, ← List.drop_drop, List.drop_left]
    exact this
  | .int _, x, i, h => by cases i <;> exact h.elim
  | .bool, x, i, h => by cases i <;> exact h.elim
  | .str, x, i, h => by cases i <;> exact h.elim
  | .snil, x, i, h => by cases i <;> exact h.elim
  | .arr _ _, x, i, h => by cases i <;> exact h.elim
  | .slice _, x, i, h => by cases i <;> exact h.elim

theorem rd_rep {t : Ty} {l : List t.D} {css : List (List Value)} (h : All2 (Rep w im t) l css) {i : Nat} (hi : i < l.length) : Rep w im t (rd t l (i : Nat)) ((css.flatten.drop (i * t.size)).take t.size) := by
  have hx : l[i]? = some l[i] := List.getElem?_eq_getElem hi
  obtain ⟨c, hc, hr⟩ := h.get i _ hx
  rw [flatten_part h.lens i c hc]
  have : rd t l (i : Nat) = l[i] := by simp [rd, List.getD_eq_getElem?_getD, hx]
  rw [this]; exact hr

theorem getP_rep {k : (σ : Ty) → σ.D → Cmd} {s s' : St} {r : V} : ∀ (p : List PStep) (τ : Ty) (x : τ.D), Path (getP p τ x k .fail) s r s' → ∃ σ y, tyP p τ = some σ ∧ Path (k σ y) s r s' ∧ ∀ cs, okP p τ → Rep w im τ x cs → Rep w im σ y ((cs.drop (offP p τ)).take σ.size)
  | [], τ, x, h => ⟨τ, x, rfl, h, fun cs _ hr => by
      have := hr.length
      simp only [offP, List.drop_zero, ← this, List.take_length]; exact hr⟩
  | .fld i :: p, τ, x, h => by
    simp only [getP] at h
    obtain ⟨σ, y, h1, h2, h3⟩ := fldG_rep (w := w) (im := im) τ x i h
    obtain ⟨φ, z, k1, k2, k3⟩ := getP_rep p σ y h2
    refine ⟨φ, z, by simp only [tyP, h1, k1], k2, fun cs hok hr => ?_⟩
    simp only [okP, h1] at hok
    have := k3 _ hok (h3 cs hr)
    have hl := this.length
    rw [drop_take_sub _ _ _ _ _ hl] at this
    simp only [offP, h1]
    exact this
  | .idx i :: p, τ, x, h => by
    cases τ with
    | arr n t =>
      simp only [getP] at h
      obtain ⟨φ, z, k1, k2, k3⟩ := getP_rep p t _ h
      refine ⟨φ, z, by simp only [tyP, k1], k2, fun cs hok hr => ?_⟩
      simp only [okP] at hok
      obtain ⟨hn, css, rfl, ha⟩ := hr
      have := k3 _ hok.2 (rd_rep ha (i := i) (by rw [hn]; exact hok.1))
      have hl := this.length
      rw [drop_take_sub _ _ _ _ _ hl] at this
      simp only [offP]
      exact this
    | _ => exact h.elim

theorem Rep.splice_left {c1 c2 cs : List Value} {a m : Nat} (h : m ≤ c1.length) (ha : a + cs.length = m) : (c1 ++ c2).take a ++ cs ++ (c1 ++ c2).drop m = (c1.take a ++ cs ++ c1.drop m) ++ c2 := by
  rw [List.take_append_of_le_length (by omega), List.drop_append_of_le_length h]
  simp
theorem Rep.splice_right {c1 c2 cs : List Value} {a m : Nat} : (c1 ++ c2).take (c1.length + a) ++ cs ++ (c1 ++ c2).drop (c1.length + m) = c1 ++ (c2.take a ++ cs ++ c2.drop m) := by
  rw [List.take_append, List.drop_append]
  simp [List.take_of_length_le, List.drop_of_length_le]

theorem fldS_rep {v : (σ : Ty) → σ.D → Option σ.D} : ∀ (τ : Ty) (x x' : τ.D) (i : Nat), fldS τ x i v = some x' →
    ∃ σ y y', fldT τ i = some σ ∧ v σ y = some y' ∧ ∀ cs, Rep w im τ x cs → Rep w im σ y ((cs.drop (fldOff τ i)).take σ.size) ∧ fldOff τ i + σ.size ≤ cs.length ∧
      ∀ cz, Rep w im σ y' cz → Rep w im τ x' (cs.take (fldOff τ i) ++ cz ++ cs.drop (fldOff τ i + σ.size))
  | .scons t q, x, x', 0, h => by
    simp only [fldS] at h
    split at h
    · rename_i y hy
      simp only [Option.some.injEq] at h; subst h
      refine ⟨t, x.1, y, rfl, hy, fun cs hr => ?_⟩
      obtain ⟨c1, c2, rfl, h1, h2⟩ := hr
      have hl := h1.length
      refine ⟨by simp only [fldOff, List.drop_zero, ← hl, List.take_left]; exact h1, by simp [fldOff, hl], fun cz hz => ?_⟩
      simp only [fldOff, List.take_zero, List.nil_append, Nat.zero_add, ← hl, List.drop_left]
      exact ⟨cz, c2, rfl, hz, h2⟩
    · cases h
  | .scons t q, x, x', i + 1, h => by
    simp only [fldS] at h
    split at h
    · rename_i y hy
      simp only [Option.some.injEq] at h; subst h
      obtain ⟨σ, z, z', h1, h2, h3⟩ := fldS_rep q x.2 y i hy
      refine ⟨σ, z, z', h1, h2, fun cs hr => ?_⟩
      obtain ⟨c1, c2, rfl, k1, k2⟩ := hr
      obtain ⟨m1, m2, m3⟩ := h3 c2 k2
      refine ⟨by simp only [fldOff, ← k1.length, ← List.drop_drop, List.drop_left]; exact m1, by simp [fldOff, k1.length]; omega, fun cz hz => ?_⟩
      simp only [fldOff, ← k1.length, Nat.add_assoc]
      rw [Rep.splice_right]
      exact ⟨c1, _, rfl, k1, m3 cz hz⟩
    · cases h
  | .int _, x, x', i, h => by cases i <;> cases h
  | .bool, x, x', i, h => by cases i <;> cases h
  | .str, x, x', i, h => by cases i <;> cases h
  | .snil, x, x', i, h => by cases i <;> cases h
  | .arr _ _, x, x', i, h => by cases i <;> cases h
  | .slice _, x, x', i, h => by cases i <;> cases h

theorem flatten_set {css : List (List Value)} {n : Nat} (h : ∀ c ∈ css, c.length = n) (i : Nat) (c : List Value) (hc : c.length = n) (hi : i < css.length) : (css.set i c).flatten = css.flatten.take (i * n) ++ c ++ css.flatten.drop (i * n + n) := by
  induction css generalizing i with
  | nil => simp at hi
  | cons d r ih =>
    have hd := h d List.mem_cons_self
    cases i with
    | zero => simp [← hd]
    | succ i =>
      rw [List.set_cons_succ, List.flatten_cons, List.flatten_cons, ih (fun e he => h e (List.mem_cons_of_mem _ he)) i (by simpa using hi)]
      rw [show (i + 1) * n = d.length + i * n by rw [hd, Nat.add_mul]; omega, Nat.add_assoc, Rep.splice_right]

theorem splice_splice {cs cz : List Value} {a m b n : Nat} (h1 : a + m ≤ cs.length) (h2 : b + n ≤ m) :
    cs.take a ++ (((cs.drop a).take m).take b ++ cz ++ ((cs.drop a).take m).drop (b + n)) ++ cs.drop (a + m) = cs.take (a + b) ++ cz ++ cs.drop (a + b + n) := by
  have e1 : cs.take (a + b) = cs.take a ++ (cs.drop a).take b := by rw [List.take_add]
  have e2 : ((cs.drop a).take m).take b = (cs.drop a).take b := by rw [List.take_take]; congr 1; omega
  have e4 : cs.drop (a + m) = (cs.drop (a + b + n)).drop (m - (b + n)) := by rw [List.drop_drop]; congr 1; omega
  have e5 : ((cs.drop a).take m).drop (b + n) = (cs.drop (a + b + n)).take (m - (b + n)) := by rw [List.drop_take, List.drop_drop, Nat.add_assoc a b n]
  have e3 : ((cs.drop a).take m).drop (b + n) ++ cs.drop (a + m) = cs.drop (a + b + n) := by rw [e4, e5, List.take_append_drop]
  rw [e1, e2, List.append_assoc, List.append_assoc, List.append_assoc, e3]
  simp

theorem setP_rep {v : (σ : Ty) → Option σ.D} : ∀ (p : List PStep) (τ : Ty) (x x' : τ.D), setP p τ x v = some x' →
    ∃ σ y', tyP p τ = some σ ∧ v σ = some y' ∧ ∀ cs, okP p τ → Rep w im τ x cs → offP p τ + σ.size ≤ cs.length ∧ ∀ cz, Rep w im σ y' cz → Rep w im τ x' (cs.take (offP p τ) ++ cz ++ cs.drop (offP p τ + σ.size))
  | [], τ, x, x', h => ⟨τ, x', rfl, h, fun cs _ hr => by
      have := hr.length
      refine ⟨by simp [offP, this], fun cz hz => ?_⟩
      simp only [offP, List.take_zero, List.nil_append, Nat.zero_add, ← this, List.drop_length, List.append_nil]; exact hz⟩
  | .fld i :: p, τ, x, x', h => by
    simp only [setP] at h
    obtain ⟨σ, y, y', h1, h2, h3⟩ := fldS_rep (w := w) (im := im) τ x x' i h
    obtain ⟨φ, z', k1, k2, k3⟩ := setP_rep p σ y y' h2
    refine ⟨φ, z', by simp only [tyP, h1, k1], k2, fun cs hok hr => ?_⟩
    simp only [okP, h1] at hok
    obtain ⟨m1, m2, m3⟩ := h3 cs hr
    obtain ⟨q1, q2⟩ := k3 _ hok m1
    have hml := m1.length
    rw [hml] at q1
    simp only [offP, h1]
    refine ⟨by omega, fun cz hz => ?_⟩
    have := m3 _ (q2 cz hz)
    rw [splice_splice m2 q1] at this
    exact this
  | .idx i :: p, τ, x, x', h => by
    cases τ with
    | arr n t =>
      simp only [setP] at h
      split at h
      · rename_i y hy
        simp only [Option.some.injEq] at h; subst h
        obtain ⟨φ, z', k1, k2, k3⟩ := setP_rep p t _ y hy
        refine ⟨φ, z', by simp only [tyP, k1], k2, fun cs hok hr => ?_⟩
        simp only [okP] at hok
        obtain ⟨hn, css, rfl, ha⟩ := hr
        have hi : i < List.length (α := t.D) x := by rw [hn]; exact hok.1
        have hr0 := rd_rep ha hi
        obtain ⟨q1, q2⟩ := k3 _ hok.2 hr0
        have hml := hr0.length
        rw [hml] at q1
        have hfl := flatten_len ha.lens
        have hcl : css.length = n := by rw [← ha.length, hn]
        have hbig : i * t.size + t.size ≤ css.flatten.length := by
          rw [hfl, hcl, ← Nat.succ_mul]; exact Nat.mul_le_mul_right _ hok.1
        simp only [offP]
        refine ⟨by omega, fun cz hz => ?_⟩
        have hnew := q2 cz hz
        refine ⟨by simp [upd, hn], css.set i _, ?_, ha.set i hnew⟩
        rw [flatten_set ha.lens i _ hnew.length (by rw [hcl]; exact hok.1), splice_splice hbig q1]
      · cases h
    | _ => cases h

end Go.SX

-- SX: Sim5
namespace Go.SX
open Go.RowKit
set_option linter.unusedVariables false
set_option linter.unusedSimpArgs false

/-- the operation hands back a value, and a world, of which R holds -/
def Does (P : Program) (o : Oper) (a : Act) (w : World) (R : Value → World → Prop) : Prop :=
  ∀ (next : Act → World → Prop) (Q : Exit → Act → World → Prop), (∀ u w', R u w' → next (a.put o.dst u) w') → o.wp P a w next Q

theorem Does.value {P : Program} {o : Oper} {a : Act} {w w' : World} {R : Value → World → Prop} {u : Value} (h : (execOp a.eval o).run P w = .ok (.value u) w') (hR : R u w') : Does P o a w R := by
  intro next Q hn
  unfold Oper.wp; rw [h]; exact hn _ _ hR
theorem Does.skip {P : Program} {o : Oper} {a : Act} {w w' : World} {R : Value → World → Prop} (h : (execOp a.eval o).run P w = .ok .skip w') (hR : R undef w') : Does P o a w R := by
  intro next Q hn
  unfold Oper.wp; rw [h]; exact hn _ _ hR
theorem Does.call {P : Program} {o : Oper} {a : Act} {w w' : World} {R : Value → World → Prop} {f : FuncId} {args : Array Value} (h : (execOp a.eval o).run P w = .ok (.enter f args) w')
    (hc : Calls P f args w' fun e w'' => ∃ u, e = .returned u ∧ R u w'') : Does P o a w R := by
  intro next Q hn
  unfold Oper.wp; rw [h]
  exact hc.mono fun e w'' ⟨u, he, hr⟩ => by subst he; exact hn _ _ hr
theorem Does.mono {P : Program} {o : Oper} {a : Act} {w : World} {R R' : Value → World → Prop} (h : Does P o a w R) (hr : ∀ u w', R u w' → R' u w') : Does P o a w R' :=
  fun next Q hn => h next Q fun u w' hu => hn u w' (hr u w' hu)

section
variable {F : Frm} {G G' : Gh} {s s' : St} {a : Act} {w w' : World}

/-- keeping more does nothing else -/
structure Kept (F : Frm) (G : Gh) (s : St) (a : Act) (w : World) (G1 : Gh) (s1 : St) : Prop where
  sim : Sim F G1 s1 a w
  im : ∀ b i, G.im b i → G1.im b i
  site : G1.site = G.site
  ow : G1.ow = G.ow
  hd : G1.hd = G.hd
  objs : s1.objs = s.objs
  used : s1.used = s.used
  len : s1.env.length = s.env.length
  im' : ∀ b i, G1.im b i → G.im b i ∨ ∃ L, G.ow b = some L ∧ L.2 < OBJ

theorem Kept.refl (h : Sim F G s a w) : Kept F G s a w G s := ⟨h, fun _ _ h => h, rfl, rfl, rfl, rfl, rfl, rfl, fun _ _ h => .inl h⟩

theorem Kept.rep {G1 : Gh} {s1 : St} (k : Kept F G s a w G1 s1) {τ : Ty} {x : τ.D} {cs : List Value} (h : Rep w G.im τ x cs) : Rep w G1.im τ x cs := h.mono (fun _ _ _ _ h => h) k.im
theorem Kept.repV {G1 : Gh} {s1 : St} (k : Kept F G s a w G1 s1) {τ : Ty} {x : τ.D} {u : Value} (h : RepV w G.im τ x u) : RepV w G1.im τ x u := h.mono (fun _ _ _ _ h => h) k.im
theorem Kept.trans {G1 G2 : Gh} {s1 s2 : St} (k : Kept F G s a w G1 s1) (k' : Kept F G1 s1 a w G2 s2) : Kept F G s a w G2 s2 :=
  ⟨k'.sim, fun b i h => k'.im b i (k.im b i h), k'.site.trans k.site, k'.ow.trans k.ow, k'.hd.trans k.hd, k'.objs.trans k.objs, k'.used.trans k.used, k'.len.trans k.len, fun b i h => (k'.im' b i h).elim (k.im' b i) fun ⟨L, hL⟩ => .inr ⟨L, by rw [← k.ow]; exact hL⟩⟩

theorem imr_im (G : Gh) {b i : Nat} (h : G.im b i) : imr G b i := .inl h

/-- al: what stands behind it -/
theorem al_content (h : Sim F G s a w) {t0 ver : Nat} {τ' : Ty} {l : List τ'.D} {wf ap : Bool} (hs : s.get t0 = .own τ' l wf ap ver) : a.tmps.getD t0 undef = G.hd ver ∧ OwnR w F.W0.heap.size G.im G.ow (t0, 0) τ' l wf ap (a.tmps.getD t0 undef) := by
  have := h.vals t0
  rw [hs] at this
  exact this

theorem own_now {base : Nat} {L : Nat × Nat} {τ : Ty} {l : List τ.D} {wf ap : Bool} {v : Value} (h : OwnR w base G.im G.ow L τ l wf ap v) (hL : L.2 < OBJ := by simp [OBJ]) : RepV w (imr G) (.slice τ) l v :=
  h.rep (fun b i h => .inl h) fun g hg i hi => .inr ⟨_, hg, hL⟩

theorem readD_path (h : Sim F G s a w) {x : Operand} {v : V} {t : Nat} (o : Opd F G s a w x v t) {τ : Ty} {k : τ.D → Cmd} {r : V} (hp : Path (readD τ v x k) s r s') : ∃ y, RepV w (imr G) τ y (a.eval x) ∧ Path (k y) s r s' := by
  have hrel := o.rel
  unfold readD at hp
  split at hp
  · rename_i τ' y
    split at hp
    · rename_i z hz
      obtain ⟨rfl, rfl⟩ := cast_some hz
      exact ⟨_, RepV.mono (fun _ _ _ _ h => h) (fun b i h => .inl h) hrel, hp⟩
    · exact hp.elim
  · rename_i c
    split at hp
    · rename_i y ha hy
      refine ⟨_, ?_, hp⟩
      rw [show a.eval x = c from hrel]
      exact constD_rep (imr G) ha hy
    · exact hp.elim
  · split at hp
    · refine ⟨_, ?_, hp⟩
      rw [show a.eval x = _ from hrel]
      exact ⟨[_], ⟨none, 0, rfl, Nat.le_refl _, Nat.zero_le _, .inl rfl⟩, rfl⟩
    · exact hp.elim
  · rename_i τ' l wf ap ver
    split at hp
    · split at hp
      · rename_i hz
        obtain ⟨rfl, rfl⟩ := castL_some hz
        exact ⟨_, own_now hrel.2, hp⟩
      · exact hp.elim
    · exact hp.elim
  · rename_i t0 ver
    obtain ⟨τ', l, wf, ap, hs, hp⟩ := slotOf_path hp
    split at hp
    · split at hp
      · rename_i hz
        obtain ⟨rfl, rfl⟩ := castL_some hz
        obtain ⟨e1, e2⟩ := al_content h hs
        rw [e1] at e2
        refine ⟨_, ?_, hp⟩
        rw [show a.eval x = G.hd ver from hrel]
        exact own_now e2
      · exact hp.elim
    · exact hp.elim
  · exact hp.elim

theorem Sim.keepSlot (h : Sim F G s a w) {t0 ver : Nat} {τ : Ty} {l : List τ.D} {wf ap : Bool} (hs : s.get t0 = .own τ l wf ap ver) :
    ∃ G1, Kept F G s a w G1 (s.put t0 (.own τ l false ap ver)) ∧ RepV w G1.im (.slice τ) l (a.tmps.getD t0 undef) := by
  obtain ⟨G1, h1, st, e1, e2, e3, h2, h3⟩ := h.freeze hs
  exact ⟨G1, ⟨h1, st.im, e1, e2, e3, rfl, rfl, by simp, h3⟩, h2⟩

theorem keepD_path (h : Sim F G s a w) {x : Operand} {v : V} {t : Nat} (o : Opd F G s a w x v t) {τ : Ty} {k : τ.D → Cmd} {r : V} (hp : Path (keepD τ v x k) s r s') : ∃ y G1 s1, Kept F G s a w G1 s1 ∧ RepV w G1.im τ y (a.eval x) ∧ Path (k y) s1 r s' := by
  have hrel := o.rel
  unfold keepD at hp
  split at hp
  · rename_i τ' y
    split at hp
    · rename_i z hz
      obtain ⟨rfl, rfl⟩ := cast_some hz
      exact ⟨_, G, s, .refl h, hrel, hp⟩
    · exact hp.elim
  · rename_i c
    split at hp
    · rename_i y ha hy
      refine ⟨_, G, s, .refl h, ?_, hp⟩
      rw [show a.eval x = c from hrel]
      exact constD_rep G.im ha hy
    · exact hp.elim
  · split at hp
    · refine ⟨_, G, s, .refl h, ?_, hp⟩
      rw [show a.eval x = _ from hrel]
      exact ⟨[_], ⟨none, 0, rfl, Nat.le_refl _, Nat.zero_le _, .inl rfl⟩, rfl⟩
    · exact hp.elim
  · rename_i τ' l wf ap ver
    split at hp
    · rename_i t0
      obtain ⟨rfl, hs⟩ := o.tmp t0 rfl
      split at hp
      · split at hp
        · rename_i hz
          obtain ⟨rfl, rfl⟩ := castL_some hz
          obtain ⟨G1, k1, k2⟩ := h.keepSlot hs.symm
          exact ⟨_, G1, _, k1, k2, hp⟩
        · exact hp.elim
      · exact hp.elim
    · exact hp.elim
  · rename_i t0 ver
    obtain ⟨τ', l, wf, ap, hs, hp⟩ := slotOf_path hp
    split at hp
    · split at hp
      · rename_i hz
        obtain ⟨rfl, rfl⟩ := castL_some hz
        obtain ⟨G1, k1, k2⟩ := h.keepSlot hs
        rw [(al_content h hs).1] at k2
        refine ⟨_, G1, _, k1, ?_, hp⟩
        rw [show a.eval x = G.hd ver from hrel]
        exact k2
      · exact hp.elim
    · exact hp.elim
  · exact hp.elim

/-- where a pointer into an object leads -/
theorem deref_site (h : Sim F G s a w) {o : Nat} {τo τ1 : Ty} {p : List PStep} {u : Value} (hu : RelC F G w (0, 0) (.ptr o τo p) u) : ∃ b off, G.site o = some (b, off, τo) ∧ okP p τo ∧ u = .pointer (some ⟨b, off + offP p τo, none⟩) := hu

theorem objR (h : Sim F G s a w) {o : Nat} {b off : Nat} {τo : Ty} (hs : G.site o = some (b, off, τo)) : (∃ x, s.ob o = .var τo x ∧ ObR F G w b off τo x true) ∨ (∃ x, s.ob o = .ro τo x ∧ ObR F G w b off τo x false) ∨ ∃ x k, s.ob o = .vob τo x k ∧ VobC w (Bw F) G.im G.ow o 0 b off τo x true := by
  cases e : s.ob o with
  | none => rw [h.dead.1 o (by rw [e]; rfl)] at hs; cases hs
  | gone => rw [h.dead.1 o (by rw [e]; rfl)] at hs; cases hs
  | var τ x =>
    obtain ⟨b', off', h1, h2⟩ := h.vars o τ x e
    rw [hs] at h1; cases h1
    exact .inl ⟨x, rfl, h2⟩
  | ro τ x =>
    obtain ⟨b', off', h1, h2⟩ := h.ros o τ x e
    rw [hs] at h1; cases h1
    exact .inr (.inl ⟨x, rfl, h2⟩)
  | vob τ x k =>
    obtain ⟨b', off', h1, h2, _⟩ := h.vobs o τ x k e
    rw [hs] at h1; cases h1
    exact .inr (.inr ⟨x, k, rfl, h2⟩)

theorem ObR.range {b off : Nat} {τ : Ty} {x : τ.D} {wr : Bool} (h : ObR F G w b off τ x wr) : ∃ cs, Rep w G.im τ x cs ∧ w.rangeAt b off cs := by
  obtain ⟨cs, c, e, fz, h1, h2, h3, _⟩ := h
  refine ⟨cs, h1, fun j v hj => ?_⟩
  have hlt : j < τ.size := by
    rw [← h1.length]
    rcases Nat.lt_or_ge j cs.length with hl | hl
    · exact hl
    · rw [List.getElem?_eq_none hl] at hj; cases hj
  rw [cell_of_heap h2, h3 j hlt, hj]

theorem rangeAt_part {b o : Nat} {cs : List Value} (h : w.rangeAt b o cs) (k n : Nat) : w.rangeAt b (o + k) ((cs.drop k).take n) := by
  intro j v hj
  rw [List.getElem?_take] at hj
  split at hj
  · rw [List.getElem?_drop] at hj
    rw [Nat.add_assoc]; exact h _ _ hj
  · cases hj

/-- what derefD reads lies there -/
theorem derefD_path (h : Sim F G s a w) {v : V} {u : Value} {t : Nat} (hrel : RelV F G w t v u) {τ : Ty} {k : τ.D → Cmd} {r : V} (hp : Path (derefD τ v k) s r s') :
    ∃ y o τo p b off, v = .ptr o τo p ∧ G.site o = some (b, off, τo) ∧ okP p τo ∧ tyP p τo = some τ ∧ u = .pointer (some ⟨b, off + offP p τo, none⟩) ∧
      (∃ cs, Rep w G.im τ y cs ∧ w.rangeAt b (off + offP p τo) cs) ∧ Path (k y) s r s' := by
  unfold derefD at hp
  split at hp
  · rename_i o τo p
    obtain ⟨b, off, hs, hok, hu⟩ := hrel
    have fin : ∀ (y : τo.D) (wr : Bool), ObR F G w b off τo y wr → Path (getP p τo y (fun σ z => match cast? τ z with | some z => k z | Option.none => .fail) .fail) s r s' →
        ∃ y, (∃ cs, Rep w G.im τ y cs ∧ w.rangeAt b (off + offP p τo) cs) ∧ tyP p τo = some τ ∧ Path (k y) s r s' := by
      intro y wr ho hp
      obtain ⟨cs, h1, h2⟩ := ho.range
      obtain ⟨σ, z, k1, k2, k3⟩ := getP_rep (w := w) (im := G.im) p τo y hp
      split at k2
      · rename_i z' hz
        obtain ⟨rfl, rfl⟩ := cast_some hz
        exact ⟨_, ⟨_, k3 cs hok h1, rangeAt_part h2 _ _⟩, k1, k2⟩
      · exact k2.elim
    simp only [Path] at hp
    split at hp
    · rename_i τ1 y e
      obtain ⟨b', off', h1, h2⟩ := h.vars o τ1 y e
      rw [hs] at h1; cases h1
      split at hp
      · rename_i y' hy
        obtain ⟨e1, e2⟩ := cast_some hy
        cases e1
        simp only at e2; subst e2
        obtain ⟨y2, k1, k2, k3⟩ := fin _ _ h2 hp
        exact ⟨y2, o, _, p, b, off, rfl, hs, hok, k2, hu, k1, k3⟩
      · exact hp.elim
    · rename_i τ1 y e
      obtain ⟨b', off', h1, h2⟩ := h.ros o τ1 y e
      rw [hs] at h1; cases h1
      split at hp
      · rename_i y' hy
        obtain ⟨e1, e2⟩ := cast_some hy
        cases e1
        simp only at e2; subst e2
        obtain ⟨y2, k1, k2, k3⟩ := fin _ _ h2 hp
        exact ⟨y2, o, _, p, b, off, rfl, hs, hok, k2, hu, k1, k3⟩
      · exact hp.elim
    · exact hp.elim
  · exact hp.elim

/-! ### loads, stores -/
theorem und_row {P : Program} {T : Tab} {t : Nat} {τ : Ty} (h : TyUnd P T t τ) : ∃ d, P.underlying t = some d ∧ d.isRow = isAggT τ := by
  cases τ with
  | int k => exact ⟨_, h, rfl⟩
  | bool => exact ⟨_, h, rfl⟩
  | str => exact ⟨_, h, rfl⟩
  | slice τ => obtain ⟨e, i, h, _⟩ := h; exact ⟨_, h, rfl⟩
  | arr n τ => obtain ⟨e, h, _⟩ := h; exact ⟨_, h, rfl⟩
  | snil => obtain ⟨fs, h, _⟩ := h; exact ⟨_, h, rfl⟩
  | scons a b => obtain ⟨fs, h, _⟩ := h; exact ⟨_, h, rfl⟩
  | vec st τ => exact h.elim
  | bld e u => obtain ⟨_, fs, h⟩ := h; exact ⟨_, h, rfl⟩

theorem run_isAgg {P : Program} {T : Tab} {t : Nat} {τ : Ty} (h : TyFact P T t τ) (w : World) : (isAgg t).run P w = .ok (isAggT τ) w := by
  obtain ⟨d, hd, he⟩ := und_row h.und
  unfold isAgg
  rw [Sem.run_bind, run_underlying hd w]
  rw [← he]
  cases d <;> simp [TypeDesc.isRow, Result.andThen]

theorem run_sizeOf' {P : Program} {T : Tab} {t : Nat} {τ : Ty} (h : TyFact P T t τ) (w : World) : (sizeOf t).run P w = .ok τ.size w := by
  obtain ⟨i, h1, h2, _⟩ := h.info
  simp [sizeOf, typeInfo, h1, h2]

theorem run_loadVar {P : Program} {T : Tab} {t : Nat} {τ : Ty} (ht : TyFact P T t τ) {b o : Nat} {cs : List Value} (hc : w.rangeAt b o cs) (hl : cs.length = τ.size) :
    (loadVar t ⟨b, o, none⟩).run P w = .ok (valOf τ cs) w := by
  have hagg := run_isAgg ht w
  have hsz := run_sizeOf' ht w
  unfold valOf
  cases ha : isAggT τ with
  | true =>
    have hld : (loadCells ⟨b, o, none⟩ cs.length).run P w = .ok cs.toArray w :=
      run_loadCells_list (P := P) w ⟨b, o, none⟩ cs (fun j v hv => by rw [Addr.add_mid]; exact hc j v hv)
    rw [hl] at hld
    rw [ha] at hagg
    simp [loadVar, Sem.run_bind, hagg, hsz, hld, Result.andThen]
  | false =>
    rw [ha] at hagg
    rw [size_one ha] at hl
    match cs, hl with
    | [c], _ =>
      have := hc 0 c rfl
      rw [Nat.add_zero] at this
      simp [loadVar, Sem.run_bind, hagg, Result.andThen, load, Sem.run, this]

theorem run_loadAt {P : Program} {T : Tab} {t : Nat} {τ : Ty} (ht : TyFact P T t τ) {b o : Nat} {cs : List Value} (hc : w.rangeAt b o cs) (hl : cs.length = τ.size) :
    (Instr.loadAt t (.pointer (some ⟨b, o, none⟩))).run P w = .ok (valOf τ cs) w := by
  simp only [Instr.loadAt, Instr.sureAddr, Sem.run_bind, Sem.run_pure, Result.andThen_ok, run_loadVar ht hc hl]

theorem run_storeAt {P : Program} {T : Tab} {t : Nat} {τ : Ty} (ht : TyFact P T t τ) {im : Nat → Nat → Prop} {x : τ.D} {b o : Nat} {cs : List Value} (hr : Rep w im τ x cs) (hth : w.there b o τ.size) :
    (Instr.storeAt t (.pointer (some ⟨b, o, none⟩)) (valOf τ cs)).run P w = .ok () (w.setCells b o cs) := by
  have hsz := run_sizeOf' ht w
  have hl := hr.length
  have hst := run_storeCells_cells (P := P) b o cs 0 w (fun j hj => by simpa using (hth j (by omega)).1) (fun j hj => by simpa using (hth j (by omega)).2) hr.one
  simp only [Nat.add_zero] at hst
  have hne : ¬ (cs.toArray.size ≠ τ.size) := by simp [hl]
  simp only [Instr.storeAt, Instr.sureAddr, storeVar, Sem.run_bind, Sem.run_pure, Result.andThen_ok, hsz, Result.andThen, hr.cells, if_neg hne]
  simpa using hst
end
end Go.SX

-- SX: Sim6
namespace Go.SX
open Go.RowKit
set_option linter.unusedVariables false
set_option linter.unusedSimpArgs false

section
variable {F : Frm} {G G' : Gh} {s s' s1 : St} {a : Act} {w w' : World} {T : Tab} {cons : List Con}

/-- no slot's content of its own: it means the same wherever it stands -/
def freeV : V → Prop
  | .own .. => False
  | .tup _ => False
  | _ => True
theorem RelV.free {v : V} {u : Value} {t : Nat} (hf : freeV v) (h : RelV F G w t v u) (t' : Nat) : RelV F G w t' v u := by
  cases v <;> first | exact hf.elim | exact h
theorem RelC.free {v : V} {u : Value} {L : Nat × Nat} (hf : freeV v) (h : RelC F G w L v u) (t' : Nat) : RelV F G w t' v u := by
  cases v <;> first | exact hf.elim | exact h

/-- the goal of every operation -/
abbrev Good (F : Frm) (o : Oper) (a : Act) (w : World) (s' : St) (v : V) : Prop := Does F.P o a w fun u w' => ∃ G', Sim F G' (putd s' o.dst v) (a.put o.dst u) w'

theorem good_same {o : Oper} (h : Sim F G s' a w) {v : V} {u : Value} (hrun : (execOp a.eval o).run F.P w = .ok (.value u) w) (hrel : ∀ t, RelV F G w t v u) (hn : ∀ n, names n v → s'.used.getD n true = true) : Good F o a w s' v :=
  .value hrun ⟨G, h.putd o.dst v u (fun t _ => hrel t) hn⟩

theorem good_dat {o : Oper} (h : Sim F G s' a w) {τ : Ty} {x : τ.D} {u : Value} (hrun : (execOp a.eval o).run F.P w = .ok (.value u) w) (hrel : RepV w G.im τ x u) : Good F o a w s' (.dat τ x) :=
  good_same h hrun (fun _ => hrel) fun n hn => hn.elim

/-- a slot's content moves -/
def reloc (G : Gh) (L L' : Nat × Nat) : Gh := { G with ow := fun g => if G.ow g = some L then some L' else G.ow g }

theorem reloc_stays (G : Gh) (w : World) (L L' : Nat × Nat) : Stays (fun M => M = L) G (reloc G L L') w w :=
  ⟨fun _ _ _ _ h => h, fun _ _ h => h, fun g M hM hX => ⟨by simp only [reloc, hM]; rw [if_neg]; intro e; cases e; exact hX rfl, rfl, fun _ h => h⟩, fun _ _ h => h⟩

theorem Sim.reloc (h : Sim F G s a w) (t i : Nat) (L' : Nat × Nat) (v : V) (hv : RelV F (SX.reloc G (t, i) L') w t v (a.tmps.getD t undef)) (hn : ∀ n, names n v → s.used.getD n true = true) (hi : i < OBJ := by simp [OBJ]) : Sim F (SX.reloc G (t, i) L') (s.put t v) a w := by
  have st := reloc_stays G w (t, i) L'
  have ob : ∀ b off τ x wr, ObR F G w b off τ x wr → ObR F (SX.reloc G (t, i) L') w b off τ x wr := fun b off τ x wr h => h
  refine ⟨h.defers, h.tmps, by simp [h.env], h.obl, h.usl, h.keep, ?_, h.vars, h.ros, fun o τ x k hx => ?_, h.dead, h.apart, ?_, h.imlt, h.imb, h.im0, ?_, ?_⟩
  · intro t'
    by_cases e : t' = t
    · subst e
      by_cases ht : t' < s.env.length
      · rw [St.get_put_same _ _ _ ht]; exact hv
      · rw [St.get_put_out _ _ _ ht]
        have : s.get t' = .undef := by simp only [St.get, List.getD_eq_getElem?_getD]; rw [List.getElem?_eq_none (by omega)]; rfl
        rw [this]; trivial
    · rw [St.get_put_ne _ _ _ _ (Ne.symm e)]
      exact (h.vals t').mono st (fun j _ hj => e (congrArg Prod.fst hj)) fun n _ => rfl
  · obtain ⟨b, off, h1, h2, h3⟩ := h.vobs o τ x k hx
    exact ⟨b, off, h1, h2.mono0 st (fun j hj => by injection hj with e1 e2; omega) rfl (fun _ h => h), h3⟩
  · intro o b off τ ho
    have := h.sow o b off τ ho
    simp only [SX.reloc, this]; simp
  · intro b L hL
    simp only [SX.reloc] at hL
    split at hL
    · rename_i e; exact ⟨fun _ => (h.owlt b _ e).1 hi, (h.owlt b _ e).2⟩
    · exact h.owlt b L hL
  · intro n hu t' hn'
    by_cases ht : t < s.env.length
    · by_cases e : t = t'
      · subst e; rw [St.get_put_same _ _ _ ht] at hn'; have := hn n hn'; rw [show s.used.getD n true = false from hu] at this; cases this
      · rw [St.get_put_ne _ _ _ _ e] at hn'; exact h.used n hu t' hn'
    · rw [St.get_put_out _ _ _ ht] at hn'; exact h.used n hu t' hn'

theorem OwnR.reloc {base : Nat} {L L' : Nat × Nat} {τ : Ty} {l : List τ.D} {wf ap : Bool} {v : Value} (h : OwnR w base G.im G.ow L τ l wf ap v) : OwnR w base (SX.reloc G L L').im (SX.reloc G L L').ow L' τ l wf ap v := by
  rcases h with h | ⟨g, cap, cur, e, fz, css, h1, h2, h3, h4⟩
  · exact .inl h
  · exact .inr ⟨g, cap, cur, e, fz, css, h1, h2, by simp only [SX.reloc, h3, if_true], h4⟩

/-- a slot's content goes into another place -/
theorem Sim.moveOwn (h : Sim F G s a w) {t i : Nat} {τ : Ty} {l : List τ.D} {wf ap : Bool} {ver : Nat} {u : Value} (hu : u = G.hd ver) (ho : OwnR w F.W0.heap.size G.im G.ow (t, i) τ l wf ap u) (hn : s.used.getD ver true = true)
    (d : Nat) (vt : V) (hvt : RelV F (SX.reloc G (t, i) (d, 0)) w t vt (a.tmps.getD t undef)) (hnt : ∀ n, names n vt → s.used.getD n true = true) (hi : i < OBJ := by simp [OBJ]) :
    ∃ G', Sim F G' ((s.put t vt).put d (.own τ l wf ap ver)) (a.put (some d) u) w :=
  ⟨_, (h.reloc t i (d, 0) vt hvt hnt hi).put d _ u ⟨hu, ho.reloc⟩ fun n hn' => by cases hn'; exact hn⟩

theorem vget_tmp {t : Nat} {k : V → Cmd} : vget (.tmp t) k = .get t k := rfl

theorem exec_move {x : Operand} {o : Oper} (ho : o.op = .move x) : (execOp a.eval o).run F.P w = .ok (.value (a.eval x)) w := by
  simp [execOp, ho]
theorem exec_assign {x : Operand} {o : Oper} (ho : o.op = .assign x) : (execOp a.eval o).run F.P w = .ok (.value (a.eval x)) w := by
  simp [execOp, ho]

theorem plainV_free {v : V} (h : plainV v = true) : freeV v := by cases v <;> first | trivial | cases h
theorem RelC.free2 {v : V} {u : Value} {L : Nat × Nat} (hf : freeV v) (h : RelC F G w L v u) (L' : Nat × Nat) : RelC F G w L' v u := by cases v <;> first | exact hf.elim | exact h

theorem plain_tup {vs : List V} (h : vs.all plainV = true) (i : Nat) : freeV (vs.getD i .undef) := by
  rw [List.getD_eq_getElem?_getD]
  cases hi : vs[i]? with
  | none => trivial
  | some v => exact plainV_free (List.all_eq_true.1 h v (List.mem_of_getElem? hi))

theorem move_good (h : Sim F G s a w) {o : Oper} {x : Operand} (ho : o.op = .move x) {v : V} (hp : Path (opMove x) s v s') : Good F o a w s' v := by
  obtain ⟨vx, t, hx, hp⟩ := vget_path h hp
  have free : freeV vx → Path (.ok vx) s v s' → Good F o a w s' v := by
    rintro hf ⟨rfl, rfl⟩
    exact good_same h (exec_move ho) (fun t' => hx.rel.free hf t') fun n hn => hx.named h hn
  cases vx with
  | own τ l wf ap ver =>
    cases x with
    | tmp t0 =>
      obtain ⟨rfl, rfl⟩ := hp
      obtain ⟨rfl, e⟩ := hx.tmp t0 rfl
      exact good_same h (exec_move ho) (fun _ => hx.rel.1) fun n hn => h.named (t := t) (by rw [← e]; exact hn)
    | _ => exact hp.elim
  | tup vs =>
    dsimp only at hp
    cases hall : vs.all plainV with
    | true =>
      rw [hall] at hp
      obtain ⟨rfl, rfl⟩ := hp
      refine good_same h (exec_move ho) (fun t' => ?_) fun n hn => hx.named h hn
      obtain ⟨cs, k1, k2, k3⟩ := hx.rel
      refine ⟨cs, k1, k2, fun i => RelC.free2 (plain_tup hall i) (k3 i) _⟩
    | false => rw [hall] at hp; exact hp.elim
  | _ => exact free trivial hp

theorem assign_good (h : Sim F G s a w) {o : Oper} {x : Operand} (ho : o.op = .assign x) {v : V} (hp : Path (opAssign x) s v s') : Good F o a w s' v := by
  obtain ⟨vx, t, hx, hp⟩ := vget_path h hp
  have free : freeV vx → Path (.ok vx) s v s' → Good F o a w s' v := by
    rintro hf ⟨rfl, rfl⟩
    exact good_same h (exec_assign ho) (fun t' => hx.rel.free hf t') fun n hn => hx.named h hn
  have moved : ∀ (t0 ver : Nat) (τ : Ty) (l : List τ.D) (wf ap : Bool), s.get t0 = .own τ l wf ap ver → a.eval x = a.tmps.getD t0 undef → Path (.slot t0 .undef (.ok (.own τ l wf ap ver))) s v s' → Good F o a w s' v := by
    intro t0 ver τ l wf ap hs hev hp
    obtain ⟨rfl, rfl⟩ := hp
    obtain ⟨e1, e2⟩ := al_content h hs
    have hn : s.used.getD ver true = true := h.named (t := t0) (by rw [hs]; rfl)
    refine .value (exec_assign ho) ?_
    rw [hev]
    cases hd : o.dst with
    | none => exact ⟨G, h.slot t0 .undef trivial fun n hn => hn.elim⟩
    | some d => exact h.moveOwn e1 e2 hn d .undef trivial fun n hn => hn.elim
  cases vx with
  | own τ l wf ap ver =>
    cases x with
    | tmp t0 =>
      obtain ⟨_, e⟩ := hx.tmp t0 rfl
      exact moved t0 ver τ l wf ap e.symm rfl hp
    | _ => exact hp.elim
  | al y ver =>
    obtain ⟨τ, l, wf, ap, hs, hp⟩ := slotOf_path hp
    exact moved y ver τ l wf ap hs ((show a.eval x = G.hd ver from hx.rel).trans (al_content h hs).1.symm) hp
  | tup vs => exact hp.elim
  | _ => exact free trivial hp


theorem pick_good (h : Sim F G s a w) {o : Oper} {c x y : Operand} (ho : o.op = .pick c x y) {v : V} (hp : Path (opPick c x y) s v s') : Good F o a w s' v := by
  obtain ⟨vc, t, hc, hp⟩ := vget_path h hp
  split at hp
  · rename_i q
    obtain ⟨va, ta, hva, hp⟩ := vget_path h hp
    obtain ⟨vb, tb, hvb, hp⟩ := vget_path h hp
    split at hp
    · rename_i hpl
      simp only [Bool.and_eq_true] at hpl
      have hcv : a.eval c = .bool q := by
        obtain ⟨cs, hr, hv⟩ := hc.rel
        rw [hv, show cs = _ from hr]; rfl
      have hrun : (execOp a.eval o).run F.P w = .ok (.value (if q then a.eval x else a.eval y)) w := by
        simp [execOp, ho, hcv, asBool]
      rcases hp with ⟨rfl, rfl, rfl⟩ | ⟨rfl, rfl, rfl⟩
      · exact good_same h hrun (fun t' => hva.rel.free (plainV_free hpl.1) t') fun n hn => hva.named h hn
      · exact good_same h hrun (fun t' => hvb.rel.free (plainV_free hpl.2) t') fun n hn => hvb.named h hn
    · exact hp.elim
  · exact hp.elim

theorem dat_int {k : IntKind} {n : Int} {u : Value} {im : Nat → Nat → Prop} (h : RepV w im (.int k) n u) : u = .int k n ∧ k.wrap n = n := by
  obtain ⟨cs, hr, hv⟩ := h
  exact ⟨by rw [hv, hr.1]; rfl, hr.2⟩
theorem dat_bool {b : Bool} {u : Value} {im : Nat → Nat → Prop} (h : RepV w im .bool b u) : u = .bool b := by
  obtain ⟨cs, hr, hv⟩ := h
  rw [hv, show cs = _ from hr]; rfl
theorem dat_str {x : List Int} {u : Value} {im : Nat → Nat → Prop} (h : RepV w im .str x u) : ∃ b, u = .string b ∧ bytesD b = x ∧ b.size ≤ maxLen := by
  obtain ⟨cs, ⟨b, hr, hb, hm⟩, hv⟩ := h
  exact ⟨b, by rw [hv, hr]; rfl, hb, hm⟩
theorem mk_int {im : Nat → Nat → Prop} (k : IntKind) (n : Int) (h : k.wrap n = n) : RepV w im (.int k) n (.int k n) := ⟨[_], ⟨rfl, h⟩, rfl⟩
theorem mk_bool {im : Nat → Nat → Prop} (b : Bool) : RepV w im .bool b (.bool b) := ⟨[_], rfl, rfl⟩
theorem mk_str {im : Nat → Nat → Prop} (b : ByteArray) (h : b.size ≤ maxLen) : RepV w im .str (bytesD b) (.string b) := ⟨[_], ⟨b, rfl, rfl, h⟩, rfl⟩
theorem rep_of_V {im : Nat → Nat → Prop} {τ : Ty} {x : τ.D} {u : Value} (h : RepV w im τ x u) : Rep w im τ x u.cells.toList := by
  obtain ⟨cs, hr, rfl⟩ := h
  rw [hr.cells]; exact hr
theorem V_of_rep {im : Nat → Nat → Prop} {τ : Ty} {x : τ.D} {cs : List Value} (h : Rep w im τ x cs) : RepV w im τ x (valOf τ cs) := ⟨cs, h, rfl⟩

theorem nilCheck_good (h : Sim F G s a w) {o : Oper} {x : Operand} (ho : o.op = .nilCheck x) {v : V} (hp : Path (vget x fun v => match v with
    | .ptr _ _ _ => .ok v
    | .ep _ _ => .ok v
    | .elp .. => .ok v
    | .fn _ => .ok v
    | _ => .fail) s v s') : Good F o a w s' v := by
  obtain ⟨vx, t, hx, hp⟩ := vget_path h hp
  have fin : ∀ u, a.eval x = u → (∃ p, u = .pointer (some p)) ∨ (∃ f, u = .func (.func f) #[] #[]) → freeV vx → Path (.ok vx) s v s' → Good F o a w s' v := by
    rintro u e hu hf ⟨rfl, rfl⟩
    have hrun : (execOp a.eval o).run F.P w = .ok (.value (a.eval x)) w := by
      rcases hu with ⟨p, rfl⟩ | ⟨f, rfl⟩ <;> simp [execOp, ho, e]
    exact good_same h hrun (fun t' => hx.rel.free hf t') fun n hn => hx.named h hn
  have hrel := hx.rel
  cases vx with
  | ptr o' τ p => obtain ⟨b, off, _, _, e⟩ := hrel; exact fin _ e (.inl ⟨_, rfl⟩) trivial hp
  | ep τ x' => obtain ⟨b, i, cs, e, _⟩ := hrel; exact fin _ e (.inl ⟨_, rfl⟩) trivial hp
  | elp t0 ver τ i p => obtain ⟨b, n, cap, _, _, _, e⟩ := hrel; exact fin _ e (.inl ⟨_, rfl⟩) trivial hp
  | fn f => exact fin _ hrel (.inr ⟨_, rfl⟩) trivial hp
  | _ => exact hp.elim

theorem load_good (hT : TabOk F.P T) (h : Sim F G s a w) {o : Oper} {t : Nat} {x : Operand} (ho : o.op = .load t x) {v : V} (hp : Path (opLoad T t x) s v s') : Good F o a w s' v := by
  unfold opLoad at hp
  split at hp
  · rename_i τ hτ
    have ht := hT t τ hτ
    obtain ⟨vx, t0, hx, hp⟩ := vget_path h hp
    have fin : ∀ (b off : Nat) (y : τ.D) (cs : List Value), a.eval x = .pointer (some ⟨b, off, none⟩) → Rep w G.im τ y cs → w.rangeAt b off cs → Path (.ok (.dat τ y)) s v s' → Good F o a w s' v := by
      rintro b off y cs e hr hc ⟨rfl, rfl⟩
      have hrun : (execOp a.eval o).run F.P w = .ok (.value (valOf τ cs)) w := by
        simp [execOp, ho, e, run_loadAt ht hc hr.length]
      exact good_dat h hrun (V_of_rep hr)
    have hrel := hx.rel
    cases vx with
    | ptr o' τo p =>
      obtain ⟨y, _, _, _, b, off, _, _, _, _, e, ⟨cs, hr, hc⟩, hp⟩ := derefD_path h hrel hp
      exact fin _ _ y cs e hr hc hp
    | ep τ' y =>
      obtain ⟨b, i, cs, e, hr, hl⟩ := hrel
      simp only at hp
      split at hp
      · rename_i z hz
        obtain ⟨rfl, rfl⟩ := cast_some hz
        exact fin _ _ _ cs e hr (fun j u hj => (hl j u hj).1) hp
      · exact hp.elim
    | elp s0 ver τs i p =>
      obtain ⟨b, n, cap, ehd, hin, hok, e⟩ := hrel
      obtain ⟨τ', l, wf, ap, hs, hp⟩ := slotOf_path hp
      split at hp
      · rename_i hz
        obtain ⟨rfl, rfl⟩ := castL_some hz
        obtain ⟨e1, e2⟩ := al_content h hs
        obtain ⟨σ, z, k1, k2, k3⟩ := getP_rep (w := w) (im := G.im) p _ _ hp
        split at k2
        · rename_i z' hz'
          obtain ⟨rfl, rfl⟩ := cast_some hz'
          obtain ⟨c, cap', e3, _, _, hl⟩ := e2.lies
          rw [e1, ehd] at e3
          simp only [Value.slice.injEq] at e3
          obtain ⟨rfl, e4, rfl⟩ := e3
          rcases hl with rfl | ⟨g, css, e5, _, hall, hlen, hcell⟩
          · simp at e4; omega
          · simp only [Option.some.injEq, Addr.mk.injEq, and_true] at e5
            subst e5
            have hil : i < l.length := by omega
            have hel := rd_rep hall hil
            have hr := k3 _ hok hel
            have hc : w.rangeAt b (i * τ'.size + offP p τ') (((((css.flatten.drop (i * τ'.size)).take τ'.size).drop (offP p τ')).take σ.size)) := by
              have h0 : w.rangeAt b 0 css.flatten := fun j u hj => hcell j u hj
              have h1 := rangeAt_part h0 (i * τ'.size) τ'.size
              have h2 := rangeAt_part h1 (offP p τ') σ.size
              rw [Nat.zero_add] at h2
              exact h2
            exact fin _ _ _ _ e hr hc k2
        · exact k2.elim
      · exact hp.elim
    | _ => exact hp.elim
  · exact hp.elim
end
end Go.SX

-- SX: Sim7
namespace Go.SX
open Go.RowKit
set_option linter.unusedVariables false
set_option linter.unusedSimpArgs false

section
variable {F : Frm} {G G' : Gh} {s s' s1 : St} {a : Act} {w w' : World} {T : Tab} {cons : List Con}

theorem wrap_wrap (k : IntKind) (n : Int) : k.wrap (k.wrap n) = k.wrap n := by
  have hp : (0 : Int) < 2 ^ k.bits := by cases k <;> decide
  have h2 : (2 : Int) ^ k.bits = 2 * 2 ^ (k.bits - 1) := by cases k <;> decide
  have h3 : (0 : Int) < 2 ^ (k.bits - 1) := by cases k <;> decide
  have h1 := Int.emod_nonneg n (Int.ne_of_gt hp)
  have h4 := Int.emod_lt_of_pos n hp
  unfold IntKind.wrap
  generalize (2 : Int) ^ k.bits = M at *
  generalize (2 : Int) ^ (k.bits - 1) = H at *
  simp only
  by_cases hs : (k.signed && decide (n % M ≥ H)) = true
  · rw [if_pos hs]
    simp only [Bool.and_eq_true, decide_eq_true_eq] at hs
    have e : (n % M - M) % M = n % M := by rw [Int.sub_emod_right, Int.emod_emod_of_dvd n (Int.dvd_refl M)]
    rw [e, if_pos (by simp [hs.1, hs.2])]
  · rw [if_neg hs]
    have e : (n % M) % M = n % M := Int.emod_emod_of_dvd n (Int.dvd_refl M)
    rw [e, if_neg hs]

theorem bytesD_inj {x y : ByteArray} : (bytesD x == bytesD y) = (x.toList == y.toList) := by
  rw [ByteArray.toList_eq, ByteArray.toList_eq, Bool.eq_iff_iff, beq_iff_eq, beq_iff_eq]
  unfold bytesD
  constructor
  · intro h
    exact (List.map_inj_right fun c d hcd => UInt8.toNat_inj.1 (Int.ofNat_inj.1 hcd)).1 h
  · intro h; rw [h]

theorem slt_bytes : ∀ (x y : List UInt8), slt (x.map fun c => (c.toNat : Int)) (y.map fun c => (c.toNat : Int)) = Op.bytesLess x y
  | x, [] => by cases x <;> rfl
  | [], _ :: _ => rfl
  | c :: x, d :: y => by
    simp only [List.map_cons, slt, Op.bytesLess, slt_bytes x y]
    have e1 : decide ((c.toNat : Int) < (d.toNat : Int)) = decide (c < d) := by
      rw [decide_eq_decide, Int.ofNat_lt, UInt8.lt_iff_toNat_lt]
    have e2 : ((c.toNat : Int) == (d.toNat : Int)) = (c == d) := by
      rw [Bool.eq_iff_iff, beq_iff_eq, beq_iff_eq, Int.ofNat_inj, UInt8.toNat_inj]
    rw [e1, e2]

theorem fieldsOf_eq {P : Program} {t : Nat} {fs : Array Field} (h : P.underlying t = some (.struct fs)) : P.fieldsOf t = fs := by
  simp [Program.fieldsOf, h]

theorem run_part {P : Program} {t : Nat} {τ : Ty} (ht : TyFact P T t τ) (cs : List Value) (off : Nat) (hl : off + τ.size ≤ cs.length) : (Go.part t cs.toArray off).run P w = .ok (valOf τ ((cs.drop off).take τ.size)) w := by
  have hagg := run_isAgg ht w
  have hsz := run_sizeOf' ht w
  unfold valOf
  cases ha : isAggT τ with
  | true =>
    rw [ha] at hagg
    simp only [Go.part, Sem.run_bind, hagg, hsz, Result.andThen, if_true, Sem.run_pure]
    congr 2
    simp [List.extract_eq_take_drop]
  | false =>
    rw [ha] at hagg
    rw [size_one ha] at hl ⊢
    have hlt : off < cs.length := by omega
    simp only [Go.part, Sem.run_bind, hagg, Result.andThen, Bool.false_eq_true, if_false]
    simp [hlt, List.getElem?_drop, List.head?_take, List.head?_drop]

/-- two data held against each other -/
theorem run_equal {P : Program} (hT : TabOk P T) (w : World) {im1 im2 : Nat → Nat → Prop} : ∀ (τ : Ty), cmpT τ = true →
    (∀ (d t : Nat) (x y : τ.D) (c1 c2 : List Value), nest τ ≤ d → T.ty t = some τ → Rep w im1 τ x c1 → Rep w im2 τ y c2 → (Op.equalIn d t (valOf τ c1) (valOf τ c2)).run P w = .ok (eqD τ x y) w) ∧
    (∀ (d off : Nat) (fs : List Field) (x y : τ.D) (p1 p2 c1 c2 : List Value), nest τ ≤ d + 1 → TyUnd.FieldsOk T fs off τ → p1.length = off → p2.length = off → Rep w im1 τ x c1 → Rep w im2 τ y c2 →
      (Op.eqFields d (p1 ++ c1).toArray (p2 ++ c2).toArray fs).run P w = .ok (eqD τ x y) w)
  | .int k, hc => by
    refine ⟨fun d t x y c1 c2 hd ht h1 h2 => ?_, fun d off fs x y p1 p2 c1 c2 _ hf => ?_⟩
    · obtain ⟨d, rfl⟩ : ∃ e, d = e + 1 := ⟨d - 1, by simp [nest] at hd; omega⟩
      rw [h1.1, h2.1]
      exact run_equalIn_int (P := P) w d t k k x y (hT t _ ht).und
    · cases fs <;> exact hf.elim
  | .bool, hc => by
    refine ⟨fun d t x y c1 c2 hd ht h1 h2 => ?_, fun d off fs x y p1 p2 c1 c2 _ hf => ?_⟩
    · obtain ⟨d, rfl⟩ : ∃ e, d = e + 1 := ⟨d - 1, by simp [nest] at hd; omega⟩
      rw [show c1 = _ from h1, show c2 = _ from h2]
      exact run_equalIn_bool (P := P) w d t x y (hT t _ ht).und
    · cases fs <;> exact hf.elim
  | .str, hc => by
    refine ⟨fun d t x y c1 c2 hd ht h1 h2 => ?_, fun d off fs x y p1 p2 c1 c2 _ hf => ?_⟩
    · obtain ⟨d, rfl⟩ : ∃ e, d = e + 1 := ⟨d - 1, by simp [nest] at hd; omega⟩
      obtain ⟨b1, rfl, rfl, _⟩ := h1
      obtain ⟨b2, rfl, rfl, _⟩ := h2
      have := run_equalIn_string (P := P) w d t b1 b2 (hT t _ ht).und
      rw [show eqD .str (bytesD b1) (bytesD b2) = (bytesD b1 == bytesD b2) from rfl, bytesD_inj]
      exact this
    · cases fs <;> exact hf.elim
  | .snil, hc => by
    have hB : ∀ (d off : Nat) (fs : List Field) (x y : Ty.snil.D) (p1 p2 c1 c2 : List Value), nest .snil ≤ d + 1 → TyUnd.FieldsOk T fs off .snil → p1.length = off → p2.length = off → Rep w im1 .snil x c1 → Rep w im2 .snil y c2 →
      (Op.eqFields d (p1 ++ c1).toArray (p2 ++ c2).toArray fs).run P w = .ok (eqD .snil x y) w := by
      intro d off fs x y p1 p2 c1 c2 _ hf _ _ h1 h2
      cases fs with
      | nil => simp [Op.eqFields, eqD]
      | cons => exact hf.elim
    refine ⟨fun d t x y c1 c2 hd ht h1 h2 => ?_, hB⟩
    obtain ⟨d, rfl⟩ : ∃ e, d = e + 1 := ⟨d - 1, by simp [nest] at hd; omega⟩
    obtain ⟨fs, hu, hf⟩ := (hT t _ ht).und
    rw [show valOf .snil c1 = .agg c1.toArray from rfl, show valOf .snil c2 = .agg c2.toArray from rfl, run_equalIn_struct w d t _ _ (by rw [fieldsOf_eq hu]; exact hu) (hT t _ ht).held, fieldsOf_eq hu]
    exact hB d 0 fs.toList x y [] [] c1 c2 (by simpa using hd) hf rfl rfl h1 h2
  | .scons t r, hc => by
    simp only [cmpT, Bool.and_eq_true] at hc
    have iht := run_equal hT w (im1 := im1) (im2 := im2) t hc.1
    have ihr := run_equal hT w (im1 := im1) (im2 := im2) r hc.2
    have hB : ∀ (d off : Nat) (fs : List Field) (x y : (Ty.scons t r).D) (p1 p2 c1 c2 : List Value), nest (.scons t r) ≤ d + 1 → TyUnd.FieldsOk T fs off (.scons t r) → p1.length = off → p2.length = off → Rep w im1 (.scons t r) x c1 → Rep w im2 (.scons t r) y c2 →
      (Op.eqFields d (p1 ++ c1).toArray (p2 ++ c2).toArray fs).run P w = .ok (eqD (.scons t r) x y) w := by
      intro d off fs x y p1 p2 c1 c2 hd hf hp1 hp2 h1 h2
      cases fs with
      | nil => exact hf.elim
      | cons f fs =>
        obtain ⟨hft, hfo, hfn, hf⟩ := hf
        obtain ⟨a1, a2, rfl, k1, k2⟩ := h1
        obtain ⟨b1, b2, rfl, m1, m2⟩ := h2
        simp only [nest] at hd
        have e1 := run_part (w := w) (hT _ _ hft) (p1 ++ (a1 ++ a2)) off (by simp [hp1, k1.length])
        have e2 := run_part (w := w) (hT _ _ hft) (p2 ++ (b1 ++ b2)) off (by simp [hp2, m1.length])
        rw [← hp1, List.drop_left, ← k1.length, List.take_left] at e1
        rw [← hp2, List.drop_left, ← m1.length, List.take_left] at e2
        rw [hp1] at e1; rw [hp2] at e2
        have e3 := iht.1 d f.type x.1 y.1 a1 b1 (by omega) hft k1 m1
        have e4 := ihr.2 d (off + t.size) fs x.2 y.2 (p1 ++ a1) (p2 ++ b1) a2 b2 (by omega) hf (by simp [hp1, k1.length]) (by simp [hp2, m1.length]) k2 m2
        rw [List.append_assoc, List.append_assoc] at e4
        simp only [Op.eqFields, if_pos hfn, hfo, Sem.run_bind, e1, e2, e3, Result.andThen_ok, Sem.run_ite]
        simp only [eqD]
        cases hq : eqD t x.1 y.1
        · simp
        · simp [e4]
    refine ⟨fun d t' x y c1 c2 hd ht h1 h2 => ?_, hB⟩
    obtain ⟨d, rfl⟩ : ∃ e, d = e + 1 := ⟨d - 1, by simp only [nest] at hd; omega⟩
    obtain ⟨fs, hu, hf⟩ := (hT t' _ ht).und
    rw [show valOf (.scons t r) c1 = .agg c1.toArray from rfl, show valOf (.scons t r) c2 = .agg c2.toArray from rfl, run_equalIn_struct w d t' _ _ (by rw [fieldsOf_eq hu]; exact hu) (hT t' _ ht).held, fieldsOf_eq hu]
    exact hB d 0 fs.toList x y [] [] c1 c2 hd hf rfl rfl h1 h2
  | .arr _ _, hc => by cases hc
  | .slice _, hc => by cases hc
end
end Go.SX

-- SX: Sim8
namespace Go.SX
open Go.RowKit
set_option linter.unusedVariables false
set_option linter.unusedSimpArgs false

section
variable {F : Frm} {G G' : Gh} {s s' s1 : St} {a : Act} {w w' : World} {T : Tab} {cons : List Con}

theorem exec_bin {o : Oper} {op : BinOp} {xt yt : Nat} {x y : Operand} {r : Value} (ho : o.op = .binOp op xt x y yt) (hg : (eqGuard op xt x y (a.eval x) (a.eval y)).run F.P w = .ok () w)
    (hb : (binOp op xt (a.eval x) (a.eval y)).run F.P w = .ok r w) : (execOp a.eval o).run F.P w = .ok (.value r) w := by
  simp [execOp, ho, hg, hb]

theorem guard_int {P : Program} {op : BinOp} {xt : Nat} {x y : Operand} {k k' : IntKind} {m n : Int} : (eqGuard op xt x y (.int k m) (.int k' n)).run P w = .ok () w := by
  cases op <;> simp [eqGuard]
theorem guard_bool {P : Program} {op : BinOp} {xt : Nat} {x y : Operand} {m n : Bool} : (eqGuard op xt x y (.bool m) (.bool n)).run P w = .ok () w := by
  cases op <;> simp [eqGuard]
theorem guard_str {P : Program} {op : BinOp} {xt : Nat} {x y : Operand} {m n : ByteArray} : (eqGuard op xt x y (.string m) (.string n)).run P w = .ok () w := by
  cases op <;> simp [eqGuard]
theorem guard_ptr {P : Program} {op : BinOp} {xt : Nat} {x y : Operand} {m n : Option Addr} : (eqGuard op xt x y (.pointer m) (.pointer n)).run P w = .ok () w := by
  cases op <;> simp [eqGuard]

theorem bytesD_add (x y : ByteArray) : bytesD (x ++ y) = bytesD x ++ bytesD y := by
  unfold bytesD; rw [← List.map_append]; congr 1
theorem bytesD_len (x : ByteArray) : (bytesD x).length = x.size := by unfold bytesD; rw [List.length_map]; rfl

theorem guard_of {P : Program} {op : BinOp} {xt : Nat} {x y : Operand} {u1 u2 : Value} (h : (∃ k m k' n, u1 = .int k m ∧ u2 = .int k' n) ∨ (∃ m n, u1 = .bool m ∧ u2 = .bool n) ∨ (∃ m n, u1 = .string m ∧ u2 = .string n) ∨ ∃ m n, u1 = .pointer m ∧ u2 = .pointer n) :
    (eqGuard op xt x y u1 u2).run P w = .ok () w := by
  rcases h with ⟨_, _, _, _, rfl, rfl⟩ | ⟨_, _, rfl, rfl⟩ | ⟨_, _, rfl, rfl⟩ | ⟨_, _, rfl, rfl⟩
  · exact guard_int
  · exact guard_bool
  · exact guard_str
  · exact guard_ptr

section
variable {o : Oper} {op : BinOp} {xt yt : Nat} {x y : Operand} (ho : o.op = .binOp op xt x y yt) (h : Sim F G s a w) {v : V}

include ho h in
theorem res_int {u1 u2 : Value} (ex : a.eval x = u1) (ey : a.eval y = u2) (hg : (eqGuard op xt x y u1 u2).run F.P w = .ok () w) (q : IntKind) (r : Int) (hb : (binOp op xt u1 u2).run F.P w = .ok (.int q r) w) (hw : q.wrap r = r) (hp : Path (.ok (.dat (.int q) r)) s v s') : Good F o a w s' v := by
  obtain ⟨rfl, rfl⟩ := hp
  exact good_dat h (exec_bin ho (by rw [ex, ey]; exact hg) (by rw [ex, ey]; exact hb)) (mk_int q r hw)
include ho h in
theorem res_bool {u1 u2 : Value} (ex : a.eval x = u1) (ey : a.eval y = u2) (hg : (eqGuard op xt x y u1 u2).run F.P w = .ok () w) (r : Bool) (hb : (binOp op xt u1 u2).run F.P w = .ok (.bool r) w) (hp : Path (.ok (.dat .bool r)) s v s') : Good F o a w s' v := by
  obtain ⟨rfl, rfl⟩ := hp
  exact good_dat h (exec_bin ho (by rw [ex, ey]; exact hg) (by rw [ex, ey]; exact hb)) (mk_bool r)

theorem wrap_range {k : IntKind} {n : Int} : k.wrap n = n ↔ k.min ≤ n ∧ n ≤ k.max := by
  have key : ∀ (M H : Int), M = 2 * H → 0 < H → ∀ sg : Bool, (if sg && decide (n % M ≥ H) then n % M - M else n % M) = n ↔ (if sg then -H ≤ n ∧ n ≤ H - 1 else 0 ≤ n ∧ n ≤ M - 1) := by
    intro M H hM hH sg
    have hp : 0 < M := by omega
    have h1 := Int.emod_nonneg n (Int.ne_of_gt hp)
    have h2 := Int.emod_lt_of_pos n hp
    have h3 := Int.emod_add_mul_ediv n M
    cases sg with
    | false =>
      simp only [Bool.false_and, Bool.false_eq_true, if_false]
      exact ⟨fun h => by omega, fun h => Int.emod_eq_of_lt h.1 (by omega)⟩
    | true =>
      simp only [Bool.true_and, decide_eq_true_eq, if_true]
      constructor
      · intro h
        split at h <;> omega
      · intro h
        by_cases hn : 0 ≤ n
        · rw [Int.emod_eq_of_lt hn (by omega), if_neg (by omega)]
        · have : n % M = n + M := by
            have e : (n + M) % M = n % M := by simp
            rw [← e, Int.emod_eq_of_lt (by omega) (by omega)]
          rw [this, if_pos (by omega)]; omega
  unfold IntKind.wrap IntKind.min IntKind.max
  have := key (2 ^ k.bits) (2 ^ (k.bits - 1)) (by cases k <;> decide) (by cases k <;> decide) k.signed
  simp only at this ⊢
  rw [this]
  cases k.signed <;> simp

theorem fdiv_range {k : IntKind} {n m : Int} (h : k.wrap n = n) (hm : 1 ≤ m) : k.wrap (n.fdiv m) = n.fdiv m := by
  rw [wrap_range] at h ⊢
  have h0 : k.min ≤ 0 := by cases k <;> decide
  have h1 : 0 ≤ k.max := by cases k <;> decide
  have e := Int.mul_fdiv_add_fmod n m
  have f1 := Int.fmod_nonneg_of_pos n (show 0 < m by omega)
  have f2 := Int.fmod_lt_of_pos n (show 0 < m by omega)
  generalize n.fdiv m = q at *
  generalize n.fmod m = f at *
  constructor
  · by_cases hq : 0 ≤ q
    · omega
    · have h2 : (m - 1) * (q + 1) ≤ 0 := Int.mul_nonpos_of_nonneg_of_nonpos (by omega) (by omega)
      have h3 : (m - 1) * (q + 1) = m * q + m - q - 1 := by rw [Int.sub_mul, Int.mul_add]; omega
      omega
  · by_cases hq : q ≤ 0
    · omega
    · have : q ≤ m * q := by
        have : 1 * q ≤ m * q := Int.mul_le_mul_of_nonneg_right hm (by omega)
        omega
      omega

theorem tmod_range {k : IntKind} {n m : Int} (h : k.wrap n = n) : k.wrap (n.tmod m) = n.tmod m := by
  rw [wrap_range] at h ⊢
  have h0 : k.min ≤ 0 := by cases k <;> decide
  have h1 : 0 ≤ k.max := by cases k <;> decide
  have hle : (n.tmod m).natAbs ≤ n.natAbs := by rw [Int.natAbs_tmod]; exact Nat.mod_le _ _
  by_cases hn : 0 ≤ n
  · have a1 := Int.tmod_nonneg m hn
    omega
  · have a1 : (-n).tmod m = -(n.tmod m) := Int.neg_tmod n m
    have a2 := Int.tmod_nonneg m (show 0 ≤ -n by omega)
    omega

include ho h in
theorem bin_int {k k' : IntKind} {m n : Int} (ex : a.eval x = .int k m) (wx : k.wrap m = m) (ey : a.eval y = .int k' n) (wy : k'.wrap n = n) (hp : Path (binCmd T op xt (.dat (.int k) m) (.dat (.int k') n)) s v s') : Good F o a w s' v := by
  have hg : (eqGuard op xt x y (.int k m) (.int k' n)).run F.P w = .ok () w := guard_int
  have ri := res_int (s' := s') (v := v) ho h ex ey hg
  have rb := res_bool (s' := s') (v := v) ho h ex ey hg
  simp only [binCmd] at hp
  split at hp
  · obtain ⟨hc, hp⟩ := hp
    have hn : ¬ n < 0 := by simp only [ile, decide_eq_true_eq] at hc; omega
    exact ri k _ (by simp [binOp, Op.shift, hn, ishl]) (wrap_wrap _ _) hp
  · obtain ⟨hc, hp⟩ := hp
    have hn : ¬ n < 0 := by simp only [ile, decide_eq_true_eq] at hc; omega
    refine ri k _ (by simp [binOp, Op.shift, hn, ishr]) ?_ hp
    refine fdiv_range wx ?_
    have : (0 : Int) < 2 ^ (min n.toNat k.bits) := Int.pow_pos (by decide)
    omega
  · split at hp
    · rename_i hk
      have hk := of_decide_eq_true hk
      subst hk
      split at hp
      · exact ri k _ (by simp [binOp, Op.intArith, iadd]) (wrap_wrap _ _) hp
      · exact ri k _ (by simp [binOp, Op.intArith, isub]) (wrap_wrap _ _) hp
      · exact ri k _ (by simp [binOp, Op.intArith, imul]) (wrap_wrap _ _) hp
      · obtain ⟨hc, hp⟩ := hp
        have hn : ¬ n = 0 := by simpa [bnot, ieq] using hc
        exact ri k _ (by simp [binOp, Op.intDiv, hn, iquo]) (wrap_wrap _ _) hp
      · obtain ⟨hc, hp⟩ := hp
        have hn : ¬ n = 0 := by simpa [bnot, ieq] using hc
        exact ri k _ (by simp [binOp, Op.intDiv, hn, irem]) (tmod_range wx) hp
      · exact ri k _ (by simp [binOp, Op.intBits, iand]) (wrap_wrap _ _) hp
      · exact ri k _ (by simp [binOp, Op.intBits, ior]) (wrap_wrap _ _) hp
      · exact ri k _ (by simp [binOp, Op.intBits, ixor]) (wrap_wrap _ _) hp
      · exact ri k _ (by simp [binOp, Op.intBits, iandn]) (wrap_wrap _ _) hp
      · exact rb _ (by simp [binOp, Op.intCmp, ieq]) hp
      · exact rb _ (by simp [binOp, Op.intCmp, ieq, bnot, bne]) hp
      · exact rb _ (by simp [binOp, Op.intCmp, ilt]) hp
      · exact rb _ (by simp [binOp, Op.intCmp, ile]) hp
      · exact rb _ (by simp [binOp, Op.intCmp, ilt]) hp
      · exact rb _ (by simp [binOp, Op.intCmp, ile]) hp
      · exact hp.elim
    · exact hp.elim

theorem bytesLess_total : ∀ (x y : List UInt8), (!(Op.bytesLess x y || x == y)) = Op.bytesLess y x
  | [], [] => rfl
  | [], _ :: _ => rfl
  | _ :: _, [] => rfl
  | c :: x, d :: y => by
    have ih := bytesLess_total x y
    simp only [Op.bytesLess, List.cons_beq_cons]
    by_cases e : c = d
    · subst e
      have hl : (decide (c < c)) = false := by simp
      simp only [hl, beq_self_eq_true, Bool.false_or, Bool.true_and, ih]
    · have hcd : (c == d) = false := by simpa using e
      have hdc : (d == c) = false := by simpa using fun h => e h.symm
      simp only [hcd, hdc, Bool.false_and, Bool.or_false]
      rw [Bool.eq_iff_iff]
      simp only [Bool.not_eq_true', decide_eq_false_iff_not, decide_eq_true_eq, UInt8.lt_iff_toNat_lt]
      have : c.toNat ≠ d.toNat := fun h => e (UInt8.toNat_inj.1 h)
      omega

include ho h in
theorem bin_str {bx by_ : ByteArray} (ex : a.eval x = .string bx) (ey : a.eval y = .string by_) (hp : Path (binCmd T op xt (.dat .str (bytesD bx)) (.dat .str (bytesD by_))) s v s') : Good F o a w s' v := by
  have hg : (eqGuard op xt x y (.string bx) (.string by_)).run F.P w = .ok () w := guard_str
  have rb := res_bool (s' := s') (v := v) ho h ex ey hg
  simp only [binCmd] at hp
  split at hp
  · obtain ⟨hc, rfl, rfl⟩ := hp
    have hlen : bx.size + by_.size ≤ 9223372036854775807 := by
      simp only [fits, decide_eq_true_eq, bytesD_len, appLim] at hc; omega
    refine good_dat h (exec_bin (r := .string (bx ++ by_)) ho (by rw [ex, ey]; exact guard_str) (by rw [ex, ey, binOp_string_add]; exact run_string_add_sum w bx by_ hlen)) ?_
    rw [app, ← bytesD_add]; exact mk_str _ (by rw [ByteArray.size_append]; unfold maxLen; exact hlen)
  · exact rb _ (by rw [binOp_string_eql]; simp [seq, bytesD_inj]) hp
  · exact rb _ (by rw [binOp_string_neq]; simp [seq, bytesD_inj, bnot]) hp
  · exact rb _ (by rw [binOp_string_lss, ByteArray.toList_eq, ByteArray.toList_eq]; simp [bytesD, slt_bytes]) hp
  · refine rb _ ?_ hp
    rw [binOp_string_gtr, ByteArray.toList_eq, ByteArray.toList_eq, bytesLess_total]
    simp [bytesD, slt_bytes]
  · exact hp.elim

include ho h in
theorem bin_bool (hT : TabOk F.P T) {m n : Bool} (ex : a.eval x = .bool m) (ey : a.eval y = .bool n) (hp : Path (binCmd T op xt (.dat .bool m) (.dat .bool n)) s v s') : Good F o a w s' v := by
  have hg : (eqGuard op xt x y (.bool m) (.bool n)).run F.P w = .ok () w := guard_bool
  have rb := res_bool (s' := s') (v := v) ho h ex ey hg
  simp only [binCmd] at hp
  split at hp
  · rename_i hxt
    have he : (Op.equal xt (.bool m) (.bool n)).run F.P w = .ok (m == n) w := run_equalIn_bool (P := F.P) w 9999 xt m n (hT xt _ hxt).und
    split at hp
    · exact rb _ (by simp [binOp, he, beqb]) hp
    · exact rb _ (by simp [binOp, he, beqb, bnot]) hp
    · exact hp.elim
  · exact hp.elim

include ho h in
theorem bin_struct (hT : TabOk F.P T) {t r t' r' : Ty} {m : (Ty.scons t r).D} {n : (Ty.scons t' r').D} (hx : RepV w G.im (.scons t r) m (a.eval x)) (hy : RepV w G.im (.scons t' r') n (a.eval y)) (hp : Path (binCmd T op xt (.dat (.scons t r) m) (.dat (.scons t' r') n)) s v s') : Good F o a w s' v := by
  simp only [binCmd] at hp
  split at hp
  · rename_i b hb hc
    obtain ⟨e, eb⟩ := cast_some hb
    cases e
    simp only at eb; subst eb
    simp only [Bool.and_eq_true, decide_eq_true_eq] at hc
    obtain ⟨hcm, hn, hxt⟩ := hc
    have hn := Nat.le_of_ble_eq_true hn
    obtain ⟨c1, h1, e1⟩ := hx
    obtain ⟨c2, h2, e2⟩ := hy
    have he := (run_equal hT w _ hcm).1 10000 xt m n c1 c2 (by omega) hxt h1 h2
    have e1' : a.eval x = .agg c1.toArray := e1
    have e2' : a.eval y = .agg c2.toArray := e2
    have he' : (Op.equalIn 10000 xt (.agg c1.toArray) (.agg c2.toArray)).run F.P w = .ok (eqD (.scons t r) m n) w := he
    have hg : (eqGuard op xt x y (.agg c1.toArray) (.agg c2.toArray)).run F.P w = .ok () w := run_eqGuard_agg w op xt x y _ _ (hT xt _ hxt).eqg
    have rb := res_bool (s' := s') (v := v) ho h e1' e2' hg
    split at hp
    · exact rb _ (by rw [run_eql_struct, he']; rfl) hp
    · exact rb _ (by rw [run_neq_struct, he']; rfl) hp
    · exact hp.elim
  · exact hp.elim

end

theorem bin_good (hT : TabOk F.P T) (h : Sim F G s a w) {o : Oper} {op : BinOp} {xt yt : Nat} {x y : Operand} (ho : o.op = .binOp op xt x y yt) {v : V}
    (hp : Path (vget x fun vx => vget y fun vy => binCmd T op xt vx vy) s v s') : Good F o a w s' v := by
  obtain ⟨vx, tx, hx, hp⟩ := vget_path h hp
  obtain ⟨vy, ty, hy, hp⟩ := vget_path h hp
  have hrx := hx.rel
  have hry := hy.rel
  cases vx with
  | dat τ m =>
    cases vy with
    | dat τ' n =>
      cases τ with
      | int k =>
        cases τ' with
        | int k' =>
          obtain ⟨ex, wx⟩ := dat_int hrx
          obtain ⟨ey, wy⟩ := dat_int hry
          exact bin_int ho h ex wx ey wy hp
        | _ => exact hp.elim
      | bool =>
        cases τ' with
        | bool => exact bin_bool ho h hT (dat_bool hrx) (dat_bool hry) hp
        | _ => exact hp.elim
      | str =>
        cases τ' with
        | str =>
          obtain ⟨bx, ex, rfl, _⟩ := dat_str hrx
          obtain ⟨by_, ey, rfl, _⟩ := dat_str hry
          exact bin_str ho h ex ey hp
        | _ => exact hp.elim
      | scons t r =>
        cases τ' with
        | scons t' r' => exact bin_struct ho h hT hrx hry hp
        | _ => exact hp.elim
      | _ => cases τ' <;> exact hp.elim
    | _ => cases τ <;> exact hp.elim
  | _ => cases vy <;> exact hp.elim

theorem un_good (h : Sim F G s a w) {o : Oper} {op : UnOp} {t : Nat} {x : Operand} (ho : o.op = .unOp op t x) {v : V} (hp : Path (opUn op x) s v s') : Good F o a w s' v := by
  obtain ⟨vx, tx, hx, hp1⟩ := vget_path h hp
  clear hp
  have hrx := hx.rel
  split at hp1
  · rename_i b
    have ex := dat_bool hrx
    obtain ⟨rfl, rfl⟩ := hp1
    exact good_dat h (u := .bool (!b)) (by simp [execOp, ho, ex, Op.unary]) (mk_bool _)
  · rename_i k n
    obtain ⟨ex, wx⟩ := dat_int hrx
    obtain ⟨rfl, rfl⟩ := hp1
    exact good_dat h (u := .int k (isub k 0 n)) (by simp [execOp, ho, ex, Op.unary, Op.intArith, isub]) (mk_int _ _ (wrap_wrap _ _))
  · rename_i k n
    obtain ⟨ex, wx⟩ := dat_int hrx
    obtain ⟨rfl, rfl⟩ := hp1
    have em : (match k.signed with | true => (-1 : Int) | false => k.max) = if k.signed then -1 else k.max := by cases k.signed <;> rfl
    exact good_dat h (u := .int k (ixor k (match k.signed with | true => -1 | false => k.max) n)) (by rw [em]; simp [execOp, ho, ex, Op.unary, Op.intBits, ixor]) (mk_int _ _ (wrap_wrap _ _))
  · exact hp1.elim

theorem asI_path {v : V} {k : IntKind → Int → Cmd} {r : V} (hp : Path (asI v k) s r s') : ∃ q n, v = .dat (.int q) n ∧ Path (k q n) s r s' := by
  unfold asI at hp
  split at hp
  · exact ⟨_, _, rfl, hp⟩
  · exact hp.elim

theorem minmax_good (h : Sim F G s a w) {o : Oper} {mx : Bool} {xs : Array Operand} {ts : Array TypeId} (ho : o.op = .call { callee := .builtin (if mx then .max else .min), args := xs, argTypes := ts }) {v : V} (hp : Path (opMinMax mx xs.toList) s v s') : Good F o a w s' v := by
  unfold opMinMax at hp
  split at hp
  · rename_i x y hxs
    obtain ⟨vx, tx, hx, hp1⟩ := vget_path h hp
    clear hp
    obtain ⟨vy, ty, hy, hp2⟩ := vget_path h hp1
    clear hp1
    obtain ⟨k, m, e1, hp3⟩ := asI_path hp2
    clear hp2
    obtain ⟨k', n, e2, hp4⟩ := asI_path hp3
    clear hp3
    subst e1; subst e2
    obtain ⟨ex, wx⟩ := dat_int hx.rel
    obtain ⟨ey, wy⟩ := dat_int hy.rel
    split at hp4
    · rename_i hk
      have hk := of_decide_eq_true hk
      subst hk
      obtain ⟨rfl, rfl⟩ := hp4
      have exs : xs = #[x, y] := by rw [← hxs]
      subst exs
      cases mx with
      | true => exact good_dat h (u := .int k (imax m n)) (by simp [execOp, ho, resolve, invoke, builtin, ex, ey, Builtin.max_, Builtin.max2, imax]) (mk_int _ _ (by simp only [imax]; split <;> assumption))
      | false => exact good_dat h (u := .int k (imin m n)) (by simp [execOp, ho, resolve, invoke, builtin, ex, ey, Builtin.min_, Builtin.min2, imin]) (mk_int _ _ (by simp only [imin]; split <;> assumption))
    · exact hp4.elim
  · exact hp.elim
end
end Go.SX

-- SX: Sim9
namespace Go.SX
open Go.RowKit
set_option linter.unusedVariables false
set_option linter.unusedSimpArgs false

section
variable {F : Frm} {G G' : Gh} {s s' s1 : St} {a : Act} {w w' : World} {T : Tab} {cons : List Con}

theorem fieldsOk_get {T : Tab} : ∀ (fs : List Field) (off : Nat) (τ : Ty) (i : Nat) (φ : Ty), TyUnd.FieldsOk T fs off τ → fldT τ i = some φ → ∃ f, fs[i]? = some f ∧ T.ty f.type = some φ ∧ f.offset = off + fldOff τ i
  | f :: fs, off, .scons t r, 0, φ, h, e => by
    simp only [fldT, Option.some.injEq] at e; subst e
    exact ⟨f, rfl, h.1, by simp [fldOff, h.2.1]⟩
  | f :: fs, off, .scons t r, i + 1, φ, h, e => by
    obtain ⟨g, h1, h2, h3⟩ := fieldsOk_get fs (off + t.size) r i φ h.2.2.2 e
    exact ⟨g, by simpa using h1, h2, by rw [h3]; simp [fldOff]; omega⟩
  | [], _, .scons _ _, _, _, h, _ => h.elim
  | _, _, .int _, i, _, _, e => by cases i <;> cases e
  | _, _, .bool, i, _, _, e => by cases i <;> cases e
  | _, _, .str, i, _, _, e => by cases i <;> cases e
  | _, _, .snil, i, _, _, e => by cases i <;> cases e
  | _, _, .arr _ _, i, _, _, e => by cases i <;> cases e
  | _, _, .slice _, i, _, _, e => by cases i <;> cases e

theorem struct_of_fld {P : Program} {t : Nat} {τ φ : Ty} {i : Nat} (h : TyUnd P T t τ) (e : fldT τ i = some φ) : ∃ fs : Array Field, P.underlying t = some (.struct fs) ∧ ∃ f, fs[i]? = some f ∧ T.ty f.type = some φ ∧ f.offset = fldOff τ i := by
  have key : ∀ fs : Array Field, TyUnd.FieldsOk T fs.toList 0 τ → ∃ f, fs[i]? = some f ∧ T.ty f.type = some φ ∧ f.offset = fldOff τ i := by
    intro fs hf
    obtain ⟨f, h1, h2, h3⟩ := fieldsOk_get fs.toList 0 τ i φ hf e
    exact ⟨f, by simpa using h1, h2, by omega⟩
  cases τ with
  | scons t r => obtain ⟨fs, h1, h2⟩ := h; exact ⟨fs, h1, key fs h2⟩
  | snil => obtain ⟨fs, h1, h2⟩ := h; exact ⟨fs, h1, key fs h2⟩
  | _ => cases i <;> cases e

theorem projV_rep {im : Nat → Nat → Prop} : ∀ (τ : Ty) (x : τ.D) (i : Nat) (φ : Ty), fldT τ i = some φ → ∃ y : φ.D, projV τ x i = .dat φ y ∧ projE τ x i = .ep φ y ∧ ∀ cs, Rep w im τ x cs → fldOff τ i + φ.size ≤ cs.length ∧ Rep w im φ y ((cs.drop (fldOff τ i)).take φ.size)
  | .scons t q, x, 0, φ, h => by
    simp only [fldT, Option.some.injEq] at h; subst h
    refine ⟨x.1, rfl, rfl, fun cs hr => ?_⟩
    obtain ⟨c1, c2, rfl, h1, h2⟩ := hr
    have := h1.length
    refine ⟨by simp [fldOff, this], ?_⟩
    simp only [fldOff, List.drop_zero, ← this, List.take_left]
    exact h1
  | .scons t q, x, i + 1, φ, h => by
    obtain ⟨y, h1, h2, h3⟩ := projV_rep q x.2 i φ h
    refine ⟨y, h1, h2, fun cs hr => ?_⟩
    obtain ⟨c1, c2, rfl, k1, k2⟩ := hr
    obtain ⟨m1, m2⟩ := h3 c2 k2
    refine ⟨by simp [fldOff, k1.length]; omega, ?_⟩
    simp only [fldOff, ← k1.length, ← List.drop_drop, List.drop_left]
    exact m2
  | .int _, x, i, _, h => by cases i <;> cases h
  | .bool, x, i, _, h => by cases i <;> cases h
  | .str, x, i, _, h => by cases i <;> cases h
  | .snil, x, i, _, h => by cases i <;> cases h
  | .arr _ _, x, i, _, h => by cases i <;> cases h
  | .slice _, x, i, _, h => by cases i <;> cases h

theorem isAgg_of_fld {τ φ : Ty} {i : Nat} (h : fldT τ i = some φ) : isAggT τ = true := by
  cases τ with
  | scons t r => rfl
  | _ => cases i <;> cases h

theorem field_good (hT : TabOk F.P T) (h : Sim F G s a w) {o : Oper} {t f : Nat} {x : Operand} (ho : o.op = .field t x f) {v : V} (hp : Path (opField T t x f) s v s') : Good F o a w s' v := by
  unfold opField at hp
  split at hp
  · rename_i τ hτ
    obtain ⟨vx, tx, hx, hp1⟩ := vget_path h hp
    clear hp
    split at hp1
    · rename_i τ' y
      split at hp1
      · rename_i y' φ hy hφ
        obtain ⟨e1, e2⟩ := cast_some hy
        subst e1; simp only at e2; subst e2
        obtain ⟨rfl, rfl⟩ := hp1
        obtain ⟨cs, hr, hv⟩ := hx.rel
        obtain ⟨z, e1, _, hz⟩ := projV_rep (w := w) (im := G.im) _ y f φ hφ
        obtain ⟨k1, k2⟩ := hz cs hr
        obtain ⟨fs, hu, fd, hf1, hf2, hf3⟩ := struct_of_fld (hT t _ hτ).und hφ
        rw [e1]
        have hpart := run_part (w := w) (hT _ _ hf2) cs (fldOff _ f) k1
        have ev : a.eval x = .agg cs.toArray := by rw [hv]; simp only [valOf, isAgg_of_fld hφ]
        refine good_dat h (u := valOf φ ((cs.drop (fldOff _ f)).take φ.size)) ?_ (V_of_rep k2)
        simp [execOp, ho, Instr.field, run_underlying hu, hf1, ev, asAgg, hf3, hpart]
      · exact hp1.elim
    · exact hp1.elim
  · exact hp.elim

theorem szPos_pos : ∀ {τ : Ty}, szPos τ = true → 0 < τ.size
  | .int _, _ => Nat.one_pos
  | .bool, _ => Nat.one_pos
  | .str, _ => Nat.one_pos
  | .slice _, _ => Nat.one_pos
  | .vec _ _, _ => Nat.one_pos
  | .bld _ _, _ => by simp [Ty.size]
  | .snil, h => by cases h
  | .scons t r, h => by
    simp only [szPos, Bool.or_eq_true] at h
    simp only [Ty.size]
    rcases h with h | h
    · have := szPos_pos h; omega
    · have := szPos_pos h; omega
  | .arr n t, h => by
    simp only [szPos, Bool.and_eq_true, Bool.not_eq_true'] at h
    exact Nat.mul_pos (Nat.pos_of_ne_zero (by rintro rfl; cases h.1)) (szPos_pos h.2)

theorem path_fld : ∀ (p : List PStep) (τ σ φ : Ty) (i : Nat), tyP p τ = some σ → fldT σ i = some φ → okP p τ → tyP (p ++ [.fld i]) τ = some φ ∧ okP (p ++ [.fld i]) τ ∧ offP (p ++ [.fld i]) τ = offP p τ + fldOff σ i
  | [], τ, σ, φ, i, h, e, _ => by
    simp only [tyP, Option.some.injEq] at h; subst h
    simp [tyP, okP, offP, e]
  | .fld j :: p, τ, σ, φ, i, h, e, hok => by
    simp only [tyP] at h
    cases hj : fldT τ j with
    | none => rw [hj] at h; cases h
    | some t =>
      rw [hj] at h
      simp only [okP, hj] at hok
      obtain ⟨k1, k2, k3⟩ := path_fld p t σ φ i h e hok
      simp only [List.cons_append, tyP, okP, offP, hj]
      exact ⟨k1, k2, by omega⟩
  | .idx j :: p, τ, σ, φ, i, h, e, hok => by
    cases τ with
    | arr n t =>
      simp only [tyP] at h
      simp only [okP] at hok
      obtain ⟨k1, k2, k3⟩ := path_fld p t σ φ i h e hok.2
      simp only [List.cons_append, tyP, okP, offP]
      exact ⟨k1, ⟨hok.1, k2⟩, by omega⟩
    | _ => cases h

theorem path_idx : ∀ (p : List PStep) (τ t : Ty) (n i : Nat), tyP p τ = some (.arr n t) → i < n → okP p τ → tyP (p ++ [.idx i]) τ = some t ∧ okP (p ++ [.idx i]) τ ∧ offP (p ++ [.idx i]) τ = offP p τ + i * t.size
  | [], τ, t, n, i, h, e, _ => by
    simp only [tyP, Option.some.injEq] at h; subst h
    simp [tyP, okP, offP, e]
  | .fld j :: p, τ, t, n, i, h, e, hok => by
    simp only [tyP] at h
    cases hj : fldT τ j with
    | none => rw [hj] at h; cases h
    | some t' =>
      rw [hj] at h
      simp only [okP, hj] at hok
      obtain ⟨k1, k2, k3⟩ := path_idx p t' t n i h e hok
      simp only [List.cons_append, tyP, okP, offP, hj]
      exact ⟨k1, k2, by omega⟩
  | .idx j :: p, τ, t, n, i, h, e, hok => by
    cases τ with
    | arr n' t' =>
      simp only [tyP] at h
      simp only [okP] at hok
      obtain ⟨k1, k2, k3⟩ := path_idx p t' t n i h e hok.2
      simp only [List.cons_append, tyP, okP, offP]
      exact ⟨k1, ⟨hok.1, k2⟩, by omega⟩
    | _ => cases h

theorem run_fieldAt (hT : TabOk F.P T) {t f b o : Nat} {τ φ : Ty} (hτ : T.ty t = some τ) (hφ : fldT τ f = some φ) (hs : szPos φ = true) : (Instr.fieldAt t (.pointer (some ⟨b, o, none⟩)) f).run F.P w = .ok (.pointer (some ⟨b, o + fldOff τ f, none⟩)) w := by
  obtain ⟨fs, hu, fd, hf1, hf2, hf3⟩ := struct_of_fld (hT t _ hτ).und hφ
  have hsz := run_sizeOf' (hT _ _ hf2) w
  have hne : ¬ φ.size = 0 := by have := szPos_pos hs; omega
  simp [Instr.fieldAt, run_underlying hu, hf1, Instr.sureAddr, fieldPlace, hsz, hne, Addr.add_mid, hf3]

theorem fieldAddr_good (hT : TabOk F.P T) (h : Sim F G s a w) {o : Oper} {t f : Nat} {x : Operand} (ho : o.op = .fieldAddr t x f) {v : V} (hp : Path (opFieldAddr T t x f) s v s') : Good F o a w s' v := by
  unfold opFieldAddr at hp
  split at hp
  · rename_i τ hτ
    split at hp
    · rename_i φ hφ
      split at hp
      · rename_i hs
        obtain ⟨vx, tx, hx, hp1⟩ := vget_path h hp
        clear hp
        have run : ∀ b off, a.eval x = .pointer (some ⟨b, off, none⟩) → (execOp a.eval o).run F.P w = .ok (.value (.pointer (some ⟨b, off + fldOff τ f, none⟩))) w := by
          intro b off e
          simp [execOp, ho, e, run_fieldAt hT hτ hφ hs]
        have hrel := hx.rel
        split at hp1
        · rename_i o' τo p
          split at hp1
          · rename_i hty
            have hty := of_decide_eq_true hty
            obtain ⟨rfl, rfl⟩ := hp1
            obtain ⟨b, off, h1, h2, h3⟩ := hrel
            obtain ⟨k1, k2, k3⟩ := path_fld p τo τ φ f hty hφ h2
            refine good_same h (run _ _ h3) (fun t' => ⟨b, off, h1, k2, ?_⟩) fun n hn => hn.elim
            rw [k3, Nat.add_assoc]
          · exact hp1.elim
        · rename_i τ' y
          split at hp1
          · rename_i y' hy
            obtain ⟨e1, e2⟩ := cast_some hy
            subst e1; simp only at e2; subst e2
            obtain ⟨rfl, rfl⟩ := hp1
            obtain ⟨b, i, cs, h1, h2, h3⟩ := hrel
            obtain ⟨z, _, e1, hz⟩ := projV_rep (w := w) (im := G.im) _ y f φ hφ
            obtain ⟨k1, k2⟩ := hz cs h2
            rw [e1]
            refine good_same h (run _ _ h1) (fun t' => ⟨b, _, _, rfl, k2, fun j u hj => ?_⟩) fun n hn => hn.elim
            rw [List.getElem?_take] at hj
            split at hj
            · rw [List.getElem?_drop] at hj
              rw [Nat.add_assoc]; exact h3 _ _ hj
            · cases hj
          · exact hp1.elim
        · rename_i s0 ver τs i p
          split at hp1
          · rename_i hty
            have hty := of_decide_eq_true hty
            obtain ⟨rfl, rfl⟩ := hp1
            obtain ⟨b, n, cap, h1, h2, h3, h4⟩ := hrel
            obtain ⟨k1, k2, k3⟩ := path_fld p τs τ φ f hty hφ h3
            refine good_same h (run _ _ h4) (fun t' => ⟨b, n, cap, h1, h2, k2, ?_⟩) fun n hn => hx.named h hn
            rw [k3, Nat.add_assoc]
          · exact hp1.elim
        · exact hp1.elim
      · exact hp.elim
    · exact hp.elim
  · exact hp.elim

theorem inb_spec {i n : Int} (h : inb i n = true) : 0 ≤ i ∧ i < n := by simpa [inb] using h
theorem inp_spec {a b n : Int} (h : inp a b n = true) : 0 ≤ a ∧ a ≤ b ∧ b ≤ n := by simpa [inp] using h

theorem rd_nat (τ : Ty) (l : List τ.D) (i : Int) : rd τ l i = rd τ l ((i.toNat : Nat) : Int) := by unfold rd; rw [Int.toNat_natCast]

theorem und_slice {P : Program} {T : Tab} (hT : TabOk P T) {t : Nat} {τ : Ty} (hτ : T.ty t = some (.slice τ)) : ∃ e, P.underlying t = some (.slice e) ∧ T.ty e = some τ := by
  obtain ⟨e, i, h1, h2, _⟩ := (hT t _ hτ).und; exact ⟨e, h1, h2⟩

theorem run_indexSlice (hT : TabOk F.P T) {t : Nat} {τ : Ty} (hτ : T.ty t = some (.slice τ)) {b o len cap : Nat} {k : IntKind} {i : Int} (h0 : 0 ≤ i) (h1 : i < len) :
    (Instr.indexAt t (.slice (some ⟨b, o, none⟩) len cap) (.int k i)).run F.P w = .ok (.pointer (some ⟨b, o + i.toNat * τ.size, none⟩)) w := by
  obtain ⟨e, hu, he⟩ := und_slice hT hτ
  have hsz := run_sizeOf' (hT _ _ he) w
  have hc : 0 ≤ i ∧ i < (len : Int) := ⟨h0, h1⟩
  simp [Instr.indexAt, asIntOf, run_underlying hu, hsz, hc, Addr.add_mid]

theorem run_indexArr (hT : TabOk F.P T) {t : Nat} {τ : Ty} {m : Nat} (hτ : T.ty t = some (.arr m τ)) {b o : Nat} {k : IntKind} {i : Int} (h0 : 0 ≤ i) (h1 : i < m) :
    (Instr.indexAt t (.pointer (some ⟨b, o, none⟩)) (.int k i)).run F.P w = .ok (.pointer (some ⟨b, o + i.toNat * τ.size, none⟩)) w := by
  obtain ⟨e, hu, he⟩ := (hT t _ hτ).und
  have hsz := run_sizeOf' (hT _ _ he) w
  have hc : 0 ≤ i ∧ i < (m : Int) := ⟨h0, h1⟩
  simp [Instr.indexAt, asIntOf, run_underlying hu, hsz, hc, Addr.add_mid, Instr.sureAddr]

theorem indexAddr_good (hT : TabOk F.P T) (h : Sim F G s a w) {o : Oper} {t : Nat} {x ix : Operand} (ho : o.op = .indexAddr t x ix) {v : V} (hp : Path (opIndexAddr T t x ix) s v s') : Good F o a w s' v := by
  unfold opIndexAddr at hp
  obtain ⟨vx, tx, hx, hp1⟩ := vget_path h hp
  clear hp
  obtain ⟨vi, ti, hi, hp2⟩ := vget_path h hp1
  clear hp1
  obtain ⟨k, n, e, hp3⟩ := asI_path hp2
  clear hp2
  subst e
  obtain ⟨ei, wi⟩ := dat_int hi.rel
  have hrel := hx.rel
  -- an own slice behind its name
  have slot : ∀ (s0 ver : Nat) (τ : Ty) (l : List τ.D) (wf ap : Bool), T.ty t = some (.slice τ) → s.get s0 = .own τ l wf ap ver → a.eval x = G.hd ver → Path (.chk (inb n (len l)) (.ok (.elp s0 ver τ n.toNat []))) s v s' → Good F o a w s' v := by
    intro s0 ver τ l wf ap hτ hs hev hp
    obtain ⟨hc, rfl, rfl⟩ := hp
    obtain ⟨h0, h1⟩ := inb_spec hc
    obtain ⟨e1, e2⟩ := al_content h hs
    obtain ⟨c, cap, e3, _, _, hl⟩ := e2.lies
    rw [e1] at e3
    have hne : l ≠ [] := by rintro rfl; simp [len] at h1; omega
    rcases hl with hl | ⟨g, css, rfl, _⟩
    · exact absurd hl hne
    · have hrun := run_indexSlice (w := w) hT hτ (b := g) (o := 0) (len := l.length) (cap := cap) (k := k) h0 h1
      refine good_same h (u := .pointer (some ⟨g, 0 + n.toNat * τ.size, none⟩)) (by simp [execOp, ho, hev, e3, ei, hrun]) (fun t' => ⟨g, l.length, cap, e3, by simp [len] at h1; omega, trivial, ?_⟩) fun m hm => ?_
      · simp [offP]
      · exact h.named (t := s0) (by rw [hs]; exact hm)
  split at hp3
  · rename_i τ hτ
    split at hp3
    · split at hp3
      · rename_i τ' l
        split at hp3
        · rename_i l' hl'
          obtain ⟨e1, e2⟩ := castL_some hl'
          subst e1; simp only at e2; subst e2
          obtain ⟨hc, rfl, rfl⟩ := hp3
          obtain ⟨h0, h1⟩ := inb_spec hc
          obtain ⟨cs, ⟨c, cap, rfl, _, _, hl⟩, hv⟩ := hrel
          rcases hl with hl | ⟨b, ofs, rfl, css, hall, hlies⟩
          · subst hl; simp [len] at h1; omega
          · have hrun := run_indexSlice (w := w) hT hτ (b := b) (o := ofs) (len := l.length) (cap := cap) (k := k) h0 h1
            have hil : n.toNat < l.length := by simp [len] at h1; omega
            have hel := rd_rep hall hil
            refine good_same h (u := .pointer (some ⟨b, ofs + n.toNat * τ'.size, none⟩)) (by simp [execOp, ho, hv, valOf, isAggT, ei, hrun]) (fun t' => ⟨b, _, _, rfl, by rw [rd_nat]; exact hel, fun j u hj => ?_⟩) fun m hm => hm.elim
            rw [List.getElem?_take] at hj
            split at hj
            · rw [List.getElem?_drop] at hj
              rw [Nat.add_assoc]; exact hlies _ _ hj
            · cases hj
        · exact hp3.elim
      · rename_i s0 ver
        obtain ⟨τ', l, wf, ap, hs, hp4⟩ := slotOf_path hp3
        clear hp3
        split at hp4
        · rename_i l' hl'
          obtain ⟨e1, e2⟩ := castL_some hl'
          subst e1; simp only at e2; subst e2
          exact slot _ _ _ _ _ _ hτ hs hrel hp4
        · exact hp4.elim
      · rename_i τ' l wf ap ver s0
        obtain ⟨e0, hs⟩ := hx.tmp s0 rfl
        split at hp3
        · rename_i l' hl'
          obtain ⟨e1, e2⟩ := castL_some hl'
          subst e1; simp only at e2; subst e2
          exact slot _ _ _ _ _ _ hτ hs.symm hrel.1 hp3
        · exact hp3.elim
      · exact hp3.elim
    · exact hp3.elim
  · rename_i m τ hτ
    split at hp3
    · split at hp3
      · rename_i o' τo p
        split at hp3
        · rename_i hty
          have hty := of_decide_eq_true hty
          obtain ⟨hc, rfl, rfl⟩ := hp3
          obtain ⟨h0, h1⟩ := inb_spec hc
          obtain ⟨b, off, k1, k2, k3⟩ := hrel
          obtain ⟨q1, q2, q3⟩ := path_idx p τo τ m n.toNat hty (by omega) k2
          have hrun := run_indexArr (w := w) hT hτ (b := b) (o := off + offP p τo) (k := k) h0 h1
          refine good_same h (u := .pointer (some ⟨b, off + offP p τo + n.toNat * τ.size, none⟩)) (by simp [execOp, ho, k3, ei, hrun]) (fun t' => ⟨b, off, k1, q2, ?_⟩) fun m hm => hm.elim
          rw [q3, Nat.add_assoc]
        · exact hp3.elim
      · rename_i τ' l
        split at hp3
        · rename_i l' hl'
          obtain ⟨e1, e2⟩ := cast_some hl'
          subst e1; simp only at e2; subst e2
          obtain ⟨hc, rfl, rfl⟩ := hp3
          obtain ⟨h0, h1⟩ := inb_spec hc
          obtain ⟨b, i0, cs, k1, ⟨hln, css, rfl, hall⟩, k3⟩ := hrel
          have hrun := run_indexArr (w := w) hT hτ (b := b) (o := i0) (k := k) h0 h1
          have hel := rd_rep hall (i := n.toNat) (by rw [hln]; omega)
          refine good_same h (u := .pointer (some ⟨b, i0 + n.toNat * τ.size, none⟩)) (by simp [execOp, ho, k1, ei, hrun]) (fun t' => ⟨b, _, _, rfl, by rw [rd_nat]; exact hel, fun j u hj => ?_⟩) fun m hm => hm.elim
          rw [List.getElem?_take] at hj
          split at hj
          · rw [List.getElem?_drop] at hj
            rw [Nat.add_assoc]; exact k3 _ _ hj
          · cases hj
        · exact hp3.elim
      · exact hp3.elim
    · exact hp3.elim
  · exact hp3.elim
end
end Go.SX
