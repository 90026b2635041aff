/- A small deterministic machine beside the model's: values with typed contents, a heap of the frame's own blocks, and what a code owes ('swp'). Definitions alone. -/
import Derived.Calls
import Derived.KernelRfl
namespace Go.Proofs.Ytjoiadaogppmkaa.Sh
open Go
set_option linter.unusedVariables false

/-! ## Types of data -/
inductive Ty where
  | int (k : IntKind)
  | bool
  | pair (a b : Ty)
  | sl (a : Ty)
  deriving DecidableEq

@[reducible] def Ty.D : Ty → Type
  | .int _ => Int
  | .bool => Bool
  | .pair a b => a.D × b.D
  | .sl a => List a.D

def Ty.size : Ty → Nat
  | .pair a b => a.size + b.size
  | _ => 1

def Ty.zero : (t : Ty) → t.D
  | .int _ => (0 : Int)
  | .bool => false
  | .pair a b => (a.zero, b.zero)
  | .sl a => ([] : List a.D)

def Ty.isPair : Ty → Bool
  | .pair _ _ => true
  | _ => false

/-- all leaves integers of one kind -/
def Ty.hom : Ty → Option IntKind
  | .int k => some k
  | .pair a b => match a.hom, b.hom with
    | some k, some k' => if k = k' then some k else none
    | _, _ => none
  | _ => none

def Ty.ints : (t : Ty) → t.D → List Int
  | .int _, n => [n]
  | .pair a b, x => a.ints x.1 ++ b.ints x.2
  | .bool, _ => []
  | .sl _, _ => []

/-! ## Cells, values, blocks -/
inductive Cell where
  | undef
  | bool (b : Bool)
  | int (k : IntKind) (n : Int)
  | nil
  | ro (t : Ty) (l : List t.D)
  | sl (b : Nat) (win : Option (Nat × Nat))
  | ptr (b i o : Nat)
  | rp (t : Ty) (x : t.D) (o : Nat)
  | fn (f : Nat) (caps : List Nat)

inductive W where
  | one (c : Cell)
  | agg (cs : List Cell)

inductive V where
  | any
  | w (x : W)
  | tup (xs : List W)
  | ifc (t : Nat) (x : W)

inductive RS where
  | var | own | moved | frz | frzM
  deriving DecidableEq

inductive Blk where
  | row (t : Ty) (l : List t.D) (s : RS)
  | box (cs : List Cell)

abbrev Heap := List Blk

structure St where
  m : List (Nat × V)
  h : Heap

def V.u : V := .any
def W.cells : W → List Cell
  | .one c => [c]
  | .agg cs => cs
def mkW (agg : Bool) (cs : List Cell) : W :=
  match agg, cs with
  | false, [c] => .one c
  | _, cs => .agg cs

def getM : List (Nat × V) → Nat → V
  | [], _ => V.u
  | (k, v) :: r, t => match Nat.beq k t with | true => v | false => getM r t
def St.get (σ : St) (t : Nat) : V := getM σ.m t
def St.put (σ : St) (d : Option Nat) (v : V) : St :=
  match d with
  | some d => ⟨(d, v) :: σ.m, σ.h⟩
  | none => σ

/-- one cell out of a datum of one cell -/
def cell1 : (t : Ty) → t.D → Cell
  | .int k, n => .int k n
  | .bool, b => .bool b
  | .sl a, l => .ro a l
  | .pair _ _, _ => .undef

def cellsD : (t : Ty) → t.D → List Cell
  | .pair a b, x => cellsD a x.1 ++ cellsD b x.2
  | .int k, n => [.int k n]
  | .bool, b => [.bool b]
  | .sl a, l => [.ro a l]

def wD (t : Ty) (x : t.D) : W := mkW t.isPair (cellsD t x)

/-- a datum out of cells -/
def parse : (t : Ty) → List Cell → Option (t.D × List Cell)
  | .pair a b, cs => match parse a cs with
    | some (x, r) => match parse b r with
      | some (y, r') => some ((x, y), r')
      | none => none
    | none => none
  | .int k, .int k' n :: r => if k = k' then some (n, r) else none
  | .bool, .bool b :: r => some (b, r)
  | .sl _, .nil :: r => some ([], r)
  | .sl a, .ro a' l :: r => if h : a' = a then some (h ▸ l, r) else none
  | _, _ => none

def parseW (t : Ty) (cs : List Cell) : Option t.D :=
  match parse t cs with
  | some (x, []) => some x
  | _ => none

/-! ## The type table -/
inductive TK where
  | cell
  | struct (fields : List (Nat × Nat))   -- offset, type
  | arr (n elem : Nat)
  | slice (elem : Nat)
  | ptr (elem : Nat)
  | func

structure TI where
  kind : TK
  size : Nat
  bytes : Nat
  ty : Option Ty
  zero : List Cell
  agg : Bool

/-! ## What a callee gives back -/
inductive CP where
  | c (t : Ty)
  | own (t : Ty)
  | bx (t : Ty)   -- a pointer to a new variable
  | sub (j : Nat)   -- the begin of lent block j
inductive RP where
  | one (p : CP)
  | agg (ps : List CP)
inductive BP where
  | same
  | row (t : Ty) (s : RS)
  | box (ps : List CP)
  | rowIf (t : Ty) (s : RS)   -- as 'row', where the block is a row (not a variable); else the same
  | boxIf (ps : List CP)   -- as 'box', but a cell that holds a slice already keeps it

@[reducible] def CP.D : CP → Type
  | .c t => t.D
  | .own t => List t.D
  | .bx t => t.D
  | .sub _ => Nat
@[reducible] def PD : List CP → Type
  | [] => Unit
  | [p] => p.D
  | p :: q :: r => p.D × PD (q :: r)

structure Sig where
  ret : List RP
  lent : List BP := []
  lend : Bool := false

def RP.cps : RP → List CP
  | .one p => [p]
  | .agg ps => ps
def BP.cps : BP → List CP
  | .same => []
  | .row t _ => [.c (.sl t)]
  | .box ps => ps
  | .rowIf t _ => [.c (.sl t)]
  | .boxIf ps => ps
def Sig.cps (s : Sig) : List CP := s.lent.flatMap BP.cps ++ s.ret.flatMap RP.cps

end Go.Proofs.Ytjoiadaogppmkaa.Sh
