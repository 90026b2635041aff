/- What one operation, a region, a code owe in the small machine ('swp'). Definitions alone. -/
import Derived.Test.YtjoiadaogppmkaaShBase
namespace Go.Proofs.Ytjoiadaogppmkaa.Sh
open Go
set_option linter.unusedVariables false

def Ck (b : Bool) (K : Prop) : Prop := match b with | true => K | false => False
def Br (b : Bool) (A B : Prop) : Prop := match b with | true => A | false => B


def inL (b : Nat) : List Nat → Bool
  | [] => false
  | c :: r => match Nat.beq c b with | true => true | false => inL b r

def constC : Value → Option Cell
  | .bool b => some (.bool b)
  | .int k n => some (.int k n)
  | .slice none 0 0 => some .nil
  | _ => none
def constCs : List Value → Option (List Cell)
  | [] => some []
  | v :: r => match constC v, constCs r with
    | some c, some cs => some (c :: cs)
    | _, _ => none
def constV : Value → V
  | .agg cs => match constCs cs.toList with
    | some cs => .w (.agg cs)
    | none => .any
  | v => match constC v with
    | some c => .w (.one c)
    | none => .any

def ev (σ : St) : Operand → V
  | .tmp t => σ.get t
  | .const v => constV v
  | .func f => .w (.one (.fn f []))
  | .global _ => V.u

def win {α : Type} : Option (Nat × Nat) → List α → List α
  | none, l => l
  | some (o, n), l => (l.drop o).take n

def castL {t t' : Ty} (l : List t.D) : Option (List t'.D) := if h : t = t' then some (h ▸ l) else none

/-- the list that a slice shows -/
def dataAs (t : Ty) (h : Heap) : Cell → Option (List t.D)
  | .nil => some []
  | .ro t' l => castL l
  | .sl b w => match h[b]? with
    | some (.row _ l _) => castL (win w l)
    | _ => none
  | _ => none
def lenC (h : Heap) : Cell → Option Nat
  | .nil => some 0
  | .ro _ l => some l.length
  | .sl _ (some (_, n)) => some n
  | .sl b none => match h[b]? with
    | some (.row _ l _) => some l.length
    | _ => none
  | _ => none

/-! ## References -/
def refsC : Cell → List Nat
  | .sl b _ => [b]
  | .ptr b _ _ => [b]
  | .fn _ caps => caps
  | _ => []
def refsCs (cs : List Cell) : List Nat := cs.flatMap refsC
def refsB : Option Blk → List Nat
  | some (.box cs) => refsCs cs
  | _ => []
def reach (h : Heap) : Nat → List Nat → List Nat → List Nat
  | 0, _, seen => seen
  | _ + 1, [], seen => seen
  | n + 1, b :: todo, seen => match inL b seen with
    | true => reach h n todo seen
    | false => reach h n (refsB h[b]? ++ todo) (seen ++ [b])
def idx (b : Nat) : List Nat → Option Nat
  | [] => none
  | c :: r => match Nat.beq c b with
    | true => some 0
    | false => match idx b r with
      | some i => some (i + 1)
      | none => none
def mapAll (m : Nat → Option Nat) : List Nat → Option (List Nat)
  | [] => some []
  | b :: r => match m b, mapAll m r with
    | some c, some s => some (c :: s)
    | _, _ => none
/-- blocks renamed; what has no new name is forgotten -/
def renC (m : Nat → Option Nat) : Cell → Cell
  | .sl b w => match m b with | some c => .sl c w | none => .undef
  | .ptr b i o => match m b with | some c => .ptr c i o | none => .undef
  | .fn f caps => match mapAll m caps with | some s => .fn f s | none => .undef
  | c => c
def renW (m : Nat → Option Nat) : W → W
  | .one c => .one (renC m c)
  | .agg cs => .agg (cs.map (renC m))
def renV (m : Nat → Option Nat) : V → V
  | .any => .any
  | .w x => .w (renW m x)
  | .tup xs => .tup (xs.map (renW m))
  | .ifc t x => .ifc t (renW m x)
def renB (m : Nat → Option Nat) : Blk → Blk
  | .box cs => .box (cs.map (renC m))
  | b => b
/-- all but one block keep their names -/
def but (b : Nat) (c : Nat) : Option Nat := match Nat.beq b c with | true => none | false => some c
def butL (bs : List Nat) (c : Nat) : Option Nat := match inL c bs with | true => none | false => some c
def eraseM (bs : List Nat) (m : List (Nat × V)) : List (Nat × V) := m.map fun p => (p.1, renV (butL bs) p.2)
def eraseH (bs : List Nat) (h : Heap) : Heap := h.map (renB (butL bs))

def setB (h : Heap) (b : Nat) (x : Blk) : Heap := h.set b x

def freeze1 (h : Heap) (b : Nat) : Heap := match h[b]? with
  | some (.row t l .own) => h.set b (.row t l .frz)
  | some (.row t l .moved) => h.set b (.row t l .frzM)
  | _ => h
def canFreeze (h : Heap) (b : Nat) : Bool := match h[b]? with
  | some (.row _ _ .var) => false
  | some (.row _ _ _) => true
  | _ => false
/-- the slices of one's own that stand in cells become frozen data -/
def absorbC (h : Heap) : Cell → Cell × Heap
  | .sl b w => match canFreeze h b with
    | true => match h[b]? with
      | some (.row t l _) => (.ro t (win w l), freeze1 h b)
      | _ => (.undef, h)
    | false => (.undef, h)
  | c => (c, h)
def absorb (h : Heap) : List Cell → List Cell × Heap
  | [] => ([], h)
  | c :: r => match absorbC h c with
    | (c, h) => match absorb h r with
      | (r, h) => (c :: r, h)

/-! ## Memory -/
def homC : List Cell → Option (IntKind × List Int)
  | [.int k n] => some (k, [n])
  | .int k n :: r => match homC r with
    | some (k', ns) => if k = k' then some (k, n :: ns) else none
    | none => none
  | _ => none
def newBlk (cs : List Cell) : Blk := match homC cs with
  | some (k, ns) => .row (.int k) ns .var
  | none => .box cs
def splice (cs : List Cell) (o : Nat) (xs : List Cell) : List Cell := cs.take o ++ xs ++ cs.drop (o + xs.length)

/-- 'n' cells of a datum from cell 'o' on -/
def partD (t : Ty) (x : t.D) (o n : Nat) (agg : Bool) (K : W → Prop) : Prop :=
  match t.isPair with
  | false => Ck (Nat.beq o 0 && Nat.beq n 1 && !agg) (K (.one (cell1 t x)))
  | true => match Nat.beq n t.size && Nat.beq o 0 with
    | true => K (mkW agg (cellsD t x))
    | false => match agg, t.hom with
      | false, some k => Ck (Nat.beq n 1) (Ck (Nat.blt o t.size) (K (.one (.int k ((t.ints x).getD o 0)))))
      | _, _ => Ck (Nat.ble (o + n) t.size) (K (mkW agg (((cellsD t x).drop o).take n)))

def loadK (T : Nat → Option TI) (h : Heap) (tid : Nat) (p : Cell) (K : W → Prop) : Prop :=
  match T tid with
  | none => False
  | some ti => match p with
    | .rp t x o => partD t x o ti.size ti.agg K
    | .ptr b i o => match h[b]? with
      | some (.box cs) => Ck (Nat.beq i 0) (Ck (Nat.ble (o + ti.size) cs.length) (K (mkW ti.agg ((cs.drop o).take ti.size))))
      | some (.row t l _) => match t.isPair with
        | true => Ck (Nat.blt i l.length) (partD t (l.getD i t.zero) o ti.size ti.agg K)
        | false => Ck (Nat.beq o 0) (Ck (Nat.ble (i + ti.size) l.length) (K (mkW ti.agg ((List.range ti.size).map fun j => cell1 t (l.getD (i + j) t.zero)))))
      | _ => False
    | _ => False

def parseMany (t : Ty) : List Cell → Option (List t.D)
  | [] => some []
  | c :: r => match parseW t [c], parseMany t r with
    | some x, some xs => some (x :: xs)
    | _, _ => none
def setMany {α : Type} (l : List α) (i : Nat) : List α → List α
  | [] => l
  | x :: xs => setMany (l.set i x) (i + 1) xs

def storeK (T : Nat → Option TI) (σ : St) (tid : Nat) (p : Cell) (v : W) (K : St → Prop) : Prop :=
  match T tid with
  | none => False
  | some ti => Ck (Nat.beq v.cells.length ti.size) <| match p with
    | .ptr b i o => match σ.h[b]? with
      | some (.box cs) => Ck (Nat.beq i 0) (Ck (Nat.ble (o + ti.size) cs.length) (K ⟨σ.m, σ.h.set b (.box (splice cs o v.cells))⟩))
      | some (.row _ _ s0) => match s0 with
        | .frz => False
        | .frzM => False
        | s => match absorb σ.h v.cells with
          | (cs, h) => match h[b]? with
            | some (.row t l s') => Ck (decide (s' = s)) <| match t.isPair with
              | false => match parseMany t cs with
                | some xs => Ck (Nat.beq o 0) (Ck (Nat.ble (i + ti.size) l.length) (K ⟨σ.m, h.set b (.row t (setMany l i xs) s)⟩))
                | none => False
              | true => match Nat.beq o 0 && Nat.beq ti.size t.size with
                | true => match parseW t cs with
                  | some x => Ck (Nat.blt i l.length) (K ⟨σ.m, h.set b (.row t (l.set i x) s)⟩)
                  | none => False
                | false => match parseW t (splice (cellsD t (l.getD i t.zero)) o cs) with
                  | some x => Ck (Nat.ble (o + ti.size) t.size) (Ck (Nat.blt i l.length) (K ⟨σ.m, h.set b (.row t (l.set i x) s)⟩))
                  | none => False
            | _ => False
      | _ => False
    | _ => False

def offOf (fs : List (Nat × Nat)) (f : Nat) : Option (Nat × Nat) := fs[f]?

def sizeT (T : Nat → Option TI) (t : Nat) : Nat := match T t with | some ti => ti.size | none => 0

def fieldAddrK (T : Nat → Option TI) (h : Heap) (s : Nat) (p : Cell) (f : Nat) (K : Cell → Prop) : Prop :=
  match T s with
  | some ⟨.struct fs, _, _, _, _, _⟩ => match fs[f]? with
    | some (off, ft) => Ck (Nat.blt 0 (sizeT T ft)) <| match p with
      | .rp t x o => K (.rp t x (o + off))
      | .ptr b i o => match h[b]? with
        | some (.row t _ _) => match t.isPair with
          | true => K (.ptr b i (o + off))
          | false => K (.ptr b (i + off) o)
        | some (.box _) => K (.ptr b i (o + off))
        | none => False
      | _ => False
    | none => False
  | _ => False

/-- the element's size as the type tells it and as the data do -/
def szOk (es : Nat) (h : Heap) : Cell → Bool
  | .nil => Nat.blt 0 es
  | .ro t _ => Nat.beq es t.size
  | .sl b _ => match h[b]? with
    | some (.row t _ _) => Nat.beq es t.size
    | _ => false
  | _ => false

def indexAddrK (T : Nat → Option TI) (h : Heap) (tid : Nat) (p : Cell) (i : Int) (K : Cell → Prop) : Prop :=
  match T tid with
  | some ⟨.slice e, _, _, _, _, _⟩ => Ck (szOk (sizeT T e) h p) <| match p with
    | .ro t l => Ck (decide (0 ≤ i)) (Ck (decide (i < (l.length : Int))) (K (.rp t (l.getD i.toNat t.zero) 0)))
    | .sl b none => match h[b]? with
      | some (.row _ l _) => Ck (decide (0 ≤ i)) (Ck (decide (i < (l.length : Int))) (K (.ptr b i.toNat 0)))
      | _ => False
    | .sl b (some (o, n)) => Ck (decide (0 ≤ i)) (Ck (decide (i < (n : Int))) (K (.ptr b (o + i.toNat) 0)))
    | _ => False
  | some ⟨.arr n e, _, _, _, _, _⟩ => Ck (decide (0 ≤ i)) <| Ck (decide (i < (n : Int))) <| Ck (Nat.blt 0 (sizeT T e)) <| match p with
    | .rp t x o => K (.rp t x (o + i.toNat * sizeT T e))
    | .ptr b j o => match h[b]? with
      | some (.row t _ _) => match t.isPair with
        | true => K (.ptr b j (o + i.toNat * sizeT T e))
        | false => K (.ptr b (j + i.toNat * sizeT T e) o)
      | some (.box _) => K (.ptr b j (o + i.toNat * sizeT T e))
      | none => False
    | _ => False
  | _ => False

/-! ## Arithmetic -/
def tyOf (T : Nat → Option TI) (t : Nat) : Option Ty := match T t with | some ti => ti.ty | none => none

def I (k : IntKind) (n : Int) : V := .w (.one (.int k n))
def B (b : Bool) : V := .w (.one (.bool b))

def xorI (k : IntKind) (a b : Int) : Int := k.wrap ((BitVec.ofInt k.bits a ^^^ BitVec.ofInt k.bits b).toNat : Int)
def andI (k : IntKind) (a b : Int) : Int := k.wrap ((BitVec.ofInt k.bits a &&& BitVec.ofInt k.bits b).toNat : Int)
def arithK (op : BinOp) (k : IntKind) (a b : Int) (K : V → Prop) : Prop :=
  match op with
  | .add => K (I k (k.wrap (a + b)))
  | .sub => K (I k (k.wrap (a - b)))
  | .mul => K (I k (k.wrap (a * b)))
  | .quo => Ck (!decide (b = 0)) (K (I k (k.wrap (a.tdiv b))))
  | .rem => Ck (!decide (b = 0)) (K (I k (a.tmod b)))
  | .lss => K (B (decide (a < b)))
  | .leq => K (B (decide (a ≤ b)))
  | .gtr => K (B (decide (b < a)))
  | .geq => K (B (decide (b ≤ a)))
  | .eql => K (B (decide (a = b)))
  | .neq => K (B (!decide (a = b)))
  | .xor => K (I k (xorI k a b))
  | .and => K (I k (andI k a b))
  | .shr => Ck (decide (0 ≤ b) && decide (b ≤ (k.bits : Int))) (K (I k (a / 2 ^ b.toNat)))
  | _ => False

def eqInts : List Int → List Int → Option Bool
  | [], [] => some true
  | [a], [b] => some (decide (a = b))
  | a :: r, b :: s => match eqInts r s with
    | some t => some (decide (a = b) && t)
    | none => none
  | _, _ => none
def eqAgg (xs ys : List Cell) : Option Bool :=
  match homC xs, homC ys with
  | some (.i64, a), some (.i64, b) => eqInts a b
  | _, _ => none

/-- a slice against nil: known where it is the literal, or not empty -/
def nilK (h : Heap) (c : Cell) (K : Bool → Prop) : Prop :=
  match c with
  | .nil => K true
  | c => match lenC h c with
    | some n => ∀ b, (Nat.blt 0 n = true → b = false) → K b
    | none => False

def binK (T : Nat → Option TI) (eqs : List Nat) (h : Heap) (op : BinOp) (xt : Nat) (x y : V) (K : V → Prop) : Prop :=
  match x, y with
  | .w (.one (.int k a)), .w (.one (.int k' b)) => match decide (k = k') with
    | true => arithK op k a b K
    | false => False
  | .w (.one (.bool a)), .w (.one (.bool b)) => Ck (decide (tyOf T xt = some .bool)) <| match op with
    | .eql => K (B (a == b))
    | .neq => K (B (a != b))
    | _ => False
  | .w (.agg xs), .w (.agg ys) => Ck (inL xt eqs && Nat.beq xs.length (sizeT T xt) && Nat.beq ys.length (sizeT T xt)) <| match op, eqAgg xs ys with
    | .eql, some b => K (B b)
    | .neq, some b => K (B (!b))
    | _, _ => False
  | .w (.one c), .w (.one .nil) => match T xt with
    | some ⟨.slice _, _, _, _, _, _⟩ => match op with
      | .eql => nilK h c fun b => K (B b)
      | .neq => nilK h c fun b => K (B (!b))
      | _ => False
    | _ => False
  | _, _ => False

def unK (op : UnOp) (x : V) (K : V → Prop) : Prop :=
  match op, x with
  | .not, .w (.one (.bool b)) => K (B (!b))
  | .neg, .w (.one (.int k n)) => K (I k (k.wrap (0 - n)))
  | _, _ => False

/-! ## Slices -/
def asI : V → Option Int
  | .w (.one (.int _ n)) => some n
  | _ => none
def asW : V → Option W
  | .w x => some x
  | _ => none
def asC : V → Option Cell
  | .w (.one c) => some c
  | _ => none

def sliceC (c : Cell) (len : Nat) (lo hi : Int) : Cell :=
  match c with
  | .ro t l => .ro t ((l.drop lo.toNat).take (hi.toNat - lo.toNat))
  | .sl b none => .sl b (some (lo.toNat, hi.toNat - lo.toNat))
  | .sl b (some (o, _)) => .sl b (some (o + lo.toNat, hi.toNat - lo.toNat))
  | c => c
def ckLo (lo hi : Int) (K : Prop) : Prop := Ck (decide (0 ≤ lo)) (Ck (decide (lo ≤ hi)) K)
def optI (x : Option V) (d : Int) (K : Int → Prop) : Prop :=
  match x with
  | none => K d
  | some v => match asI v with
    | some n => K n
    | none => False
/-- x[lo:hi:max]: nothing beyond the length is looked at -/
def sliceK (es : Nat) (h : Heap) (c : Cell) (lo hi mx : Option V) (K : Cell → Prop) : Prop :=
  Ck (szOk es h c) <| match lenC h c with
  | none => False
  | some n => optI mx n fun m => optI hi n fun hi => optI lo 0 fun lo =>
    Ck (decide (0 ≤ lo)) <| Ck (decide (lo ≤ hi)) <| Ck (decide (hi ≤ m)) <| Ck (decide (m ≤ (n : Int))) <| K (sliceC c n lo hi)

def elemOf (T : Nat → Option TI) (t : Nat) : Option Nat := match T t with | some ⟨.slice e, _, _, _, _, _⟩ => some e | _ => none
def bytesOf (T : Nat → Option TI) (t : Nat) : Nat := match T t with | some ti => ti.bytes | none => 0

def roomy : Nat := 1099511627776

/-- what is appended is known -/
def appendL (T : Nat → Option TI) (σ : St) (e : Nat) (t : Ty) (new : List t.D) (s : Cell) (K : St → Cell → Prop) : Prop :=
  match s with
  | .nil => Ck (Nat.ble (new.length * bytesOf T e) roomy) (K ⟨σ.m, σ.h ++ [.row t new .own]⟩ (.sl σ.h.length none))
  | .sl b w => match σ.h[b]? with
    | some (.row _ l s) => match s with
      | .own | .moved => match castL (t' := t) (win w l) with
        | some old => Ck (Nat.ble ((old.length + new.length) * bytesOf T e) roomy)
            (K ⟨eraseM [b] σ.m, (eraseH [b] σ.h).set b (.row t (old ++ new) .moved)⟩ (.sl b none))
        | none => False
      | _ => False
    | _ => False
  | _ => False
def appendK (T : Nat → Option TI) (σ : St) (tid : Nat) (s x : Cell) (K : St → Cell → Prop) : Prop :=
  match elemOf T tid with
  | none => False
  | some e => match tyOf T e with
    | none => False
    | some t => match dataAs t σ.h x with
      | none => False
      | some new => appendL T σ e t new s K
/-- append(s, make([]T, n)...) -/
def appendZ (T : Nat → Option TI) (σ : St) (tid : Nat) (s : Cell) (n : Int) (K : St → Cell → Prop) : Prop :=
  match elemOf T tid with
  | none => False
  | some e => match tyOf T e with
    | none => False
    | some t => Ck (decide (0 ≤ n)) (appendL T σ e t (List.replicate n.toNat t.zero) s K)

def makeK (T : Nat → Option TI) (σ : St) (tid : Nat) (l c : V) (K : St → Cell → Prop) : Prop :=
  match elemOf T tid with
  | none => False
  | some e => match tyOf T e, asI l, asI c with
    | some t, some n, some m => Ck (decide (0 ≤ n)) <| Ck (decide (n ≤ m)) <| Ck (decide (m * (bytesOf T e : Int) ≤ (roomy : Int))) <|
        K ⟨σ.m, σ.h ++ [.row t (List.replicate n.toNat t.zero) .own]⟩ (.sl σ.h.length none)
    | _, _, _ => False

def fillD (t : Ty) : List (Nat × List Cell) → List t.D → Option (List t.D)
  | [], l => some l
  | (i, cs) :: r, l => match parseW t cs with
    | some x => fillD t r (l.set i x)
    | none => none
def absorbP (h : Heap) : List (Nat × List Cell) → List (Nat × List Cell) × Heap
  | [] => ([], h)
  | (i, cs) :: r => match absorb h cs with
    | (cs, h) => match absorbP h r with
      | (r, h) => ((i, cs) :: r, h)
def evParts (σ : St) : List (Nat × Operand) → Option (List (Nat × List Cell))
  | [] => some []
  | (i, x) :: r => match asW (ev σ x), evParts σ r with
    | some w, some s => some ((i, w.cells) :: s)
    | _, _ => none
def buildSliceK (T : Nat → Option TI) (σ : St) (tid n : Nat) (parts : List (Nat × Operand)) (K : St → Cell → Prop) : Prop :=
  match elemOf T tid with
  | none => False
  | some e => match tyOf T e, evParts σ parts with
    | some t, some ps => match absorbP σ.h ps with
      | (ps, h) => match fillD t ps (List.replicate n t.zero) with
        | some l => Ck (Nat.ble (n * t.size) 65536) (Ck (ps.all fun p => Nat.blt p.1 n) (K ⟨σ.m, h ++ [.row t l .own]⟩ (.sl h.length none)))
        | none => False
    | _, _ => False

def fillC (T : Nat → Option TI) (k : TK) : List (Nat × List Cell) → List Cell → Option (List Cell)
  | [], cs => some cs
  | (i, xs) :: r, cs => match k with
    | .struct fs => match fs[i]? with
      | some (off, ft) => match Nat.beq xs.length (sizeT T ft) && Nat.ble (off + xs.length) cs.length with
        | true => fillC T k r (splice cs off xs)
        | false => none
      | none => none
    | .arr _ e => match Nat.beq xs.length (sizeT T e) && Nat.ble (i * sizeT T e + xs.length) cs.length with
      | true => fillC T k r (splice cs (i * sizeT T e) xs)
      | false => none
    | _ => none
def buildK (T : Nat → Option TI) (σ : St) (tid : Nat) (parts : List (Nat × Operand)) (K : W → Prop) : Prop :=
  match T tid, evParts σ parts with
  | some ti, some ps => Ck (match ti.kind with | .struct fs => fs.all fun p => Nat.blt 0 (sizeT T p.2) | .arr _ e => Nat.blt 0 (sizeT T e) | _ => false) <| match fillC T ti.kind ps ti.zero with
    | some cs => K (.agg cs)
    | none => False
  | _, _ => False

def fieldK (T : Nat → Option TI) (s : Nat) (x : V) (f : Nat) (K : W → Prop) : Prop :=
  match T s, x with
  | some ⟨.struct fs, _, _, _, _, _⟩, .w (.agg cs) => match fs[f]? with
    | some (off, ft) => match T ft with
      | some ti => Ck (Nat.ble (off + ti.size) cs.length) (K (mkW ti.agg ((cs.drop off).take ti.size)))
      | none => False
    | none => False
  | _, _ => False

def indexK (T : Nat → Option TI) (tid : Nat) (x : V) (i : Int) (K : W → Prop) : Prop :=
  match T tid, x with
  | some ⟨.arr n e, _, _, _, _, _⟩, .w (.agg cs) => match T e, homC cs with
    | some ti, some (k, ns) => Ck (Nat.beq ti.size 1 && !ti.agg && Nat.beq cs.length n) <| Ck (decide (0 ≤ i)) <| Ck (decide (i < (n : Int))) <|
        K (.one (.int k (ns.getD i.toNat 0)))
    | _, _ => False
  | _, _ => False

def copyWin (σ : St) (b : Nat) (t : Ty) (l src : List t.D) (st : RS) (K : St → V → Prop) : Option (Nat × Nat) → Prop
  | none => K ⟨σ.m, σ.h.set b (.row t (src.take l.length ++ l.drop (min src.length l.length)) st)⟩ (I .i64 ((min src.length l.length : Nat) : Int))
  | some (o, n) => K ⟨σ.m, σ.h.set b (.row t (l.take o ++ src.take n ++ l.drop (o + min src.length n)) st)⟩ (I .i64 ((min src.length n : Nat) : Int))
def copyK (σ : St) (d s : Cell) (K : St → V → Prop) : Prop :=
  match d with
  | .sl b w => match σ.h[b]? with
    | some (.row t l st) => match st with
      | .frz => False
      | .frzM => False
      | st => match dataAs t σ.h s with
        | none => False
        | some src => copyWin σ b t l src st K w
    | _ => False
  | _ => False
def clearWin (σ : St) (b : Nat) (t : Ty) (l : List t.D) (st : RS) (K : St → Prop) : Option (Nat × Nat) → Prop
  | none => K ⟨σ.m, σ.h.set b (.row t (List.replicate l.length t.zero) st)⟩
  | some (o, n) => K ⟨σ.m, σ.h.set b (.row t (l.take o ++ List.replicate n t.zero ++ l.drop (o + n)) st)⟩
def clearK (σ : St) (d : Cell) (K : St → Prop) : Prop :=
  match d with
  | .sl b w => match σ.h[b]? with
    | some (.row t l st) => match st with
      | .frz => False
      | .frzM => False
      | st => clearWin σ b t l st K w
    | _ => False
  | _ => False
/-- the type of the elements is known to be the block's -/
def rowTy (T : Nat → Option TI) (e : Nat) (h : Heap) : Cell → Bool
  | .sl b _ => match h[b]? with
    | some (.row t _ _) => decide (tyOf T e = some t)
    | _ => false
  | _ => false

end Go.Proofs.Ytjoiadaogppmkaa.Sh
