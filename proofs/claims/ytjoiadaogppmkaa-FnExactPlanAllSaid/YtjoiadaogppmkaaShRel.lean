/- How the small machine's states stand to the model's worlds; what a call of a function is known to do ('SC'). Definitions alone. -/
import Derived.Below
import Derived.Test.YtjoiadaogppmkaaShStep
namespace Go.Proofs.Ytjoiadaogppmkaa.Sh
open Go
set_option linter.unusedVariables false

inductive All2 {α β : Type} (R : α → β → Prop) : List α → List β → Prop
  | nil : All2 R [] []
  | cons {a b as bs} : R a b → All2 R as bs → All2 R (a :: as) (b :: bs)

def at_ (w : World) (r o : Nat) : Option Value := w.cell? ⟨r, o, none⟩

/-- These cells, from here on, are a datum of the type; what it leads to lies outside 'av'. -/
def RD (w : World) (av : Nat → Prop) : (t : Ty) → t.D → List Value → Prop
  | .int k, n, vs => vs = [.int k n]
  | .bool, b, vs => vs = [.bool b]
  | .pair a b, x, vs => ∃ l r, vs = l ++ r ∧ RD w av a x.1 l ∧ RD w av b x.2 r
  | .sl a, l, vs => ∃ ad c, vs = [.slice ad l.length c] ∧ l.length ≤ c ∧ ∀ i x, l[i]? = some x →
      ∃ r o cs, ad = some ⟨r, o, none⟩ ∧ ¬ av r ∧ RD w av a x cs ∧ ∀ j v, cs[j]? = some v → at_ w r (o + i * a.size + j) = some v

def blkLen : Blk → Nat
  | .row _ l _ => l.length
  | .box cs => cs.length
def blkStride : Blk → Nat
  | .row t _ _ => t.size
  | .box _ => 0
def isFrz : Blk → Bool
  | .row _ _ .frz => true
  | .row _ _ .frzM => true
  | _ => false
def isMoved : Blk → Bool
  | .row _ _ .moved => true
  | .row _ _ .frzM => true
  | _ => false
def isBox : Blk → Bool
  | .box _ => true
  | _ => false

/-- a block that keeps its place keeps its form -/
def SameShape : Blk → Blk → Prop
  | .row t l _, .row t' l' _ => t = t' ∧ l.length = l'.length
  | .box _, .box _ => True
  | _, _ => False

abbrev Rho := Nat → Option (Nat × Nat)

def SlOk (w : World) (ρ : Rho) (h : Heap) (b : Nat) (wn : Option (Nat × Nat)) (v : Value) : Prop :=
  ∃ t l s o n ad c, h[b]? = some (.row t l s) ∧ (o, n) = wn.getD (0, l.length) ∧ o + n ≤ l.length ∧ v = .slice ad n c ∧ n ≤ c ∧
    (c = 0 ∨ ∃ r base cs e fz, ρ b = some (r, base) ∧ ad = some ⟨r, base + o * t.size, none⟩ ∧ w.heap[r]? = some (.cells cs e fz) ∧ base + (o + c) * t.size ≤ cs.size)

def RelC (w : World) (av : Nat → Prop) (ρ : Rho) (h : Heap) : Cell → Value → Prop
  | .undef, v => (∀ cs, v ≠ .agg cs) ∧ (∀ vs, v ≠ .tuple vs)
  | .bool b, v => v = .bool b
  | .int k n, v => v = .int k n
  | .nil, v => v = .slice none 0 0
  | .ro t l, v => RD w av (.sl t) l [v]
  | .sl b wn, v => SlOk w ρ h b wn v
  | .ptr b i o, v => ∃ blk r base, h[b]? = some blk ∧ ρ b = some (r, base) ∧ v = .pointer (some ⟨r, base + (i * blkStride blk + o), none⟩)
  | .rp t x o, v => ∃ r p cs, ¬ av r ∧ RD w av t x cs ∧ (∀ j u, cs[j]? = some u → at_ w r (p + j) = some u) ∧ v = .pointer (some ⟨r, p + o, none⟩)
  | .fn f caps, v => ∃ arr : Array Value, v = .func (.func f) #[] arr ∧ All2 (fun b u => ∃ blk r base, h[b]? = some blk ∧ ρ b = some (r, base) ∧ u = .pointer (some ⟨r, base, none⟩)) caps arr.toList

def RelW (w : World) (av : Nat → Prop) (ρ : Rho) (h : Heap) : W → Value → Prop
  | .one c, v => RelC w av ρ h c v
  | .agg cs, v => ∃ arr : Array Value, v = .agg arr ∧ All2 (RelC w av ρ h) cs arr.toList

def RelV (w : World) (av : Nat → Prop) (ρ : Rho) (h : Heap) : V → Value → Prop
  | .any, _ => True
  | .w x, v => RelW w av ρ h x v
  | .tup xs, v => ∃ arr : Array Value, v = .tuple arr ∧ All2 (RelW w av ρ h) xs arr.toList
  | .ifc t x, v => ∃ u, v = .iface t u ∧ RelW w av ρ h x u

def RelB (w : World) (av : Nat → Prop) (ρ : Rho) (h : Heap) (b : Nat) : Blk → Prop
  | .row t l s => (∀ r base, ρ b = some (r, base) → ∃ cs e, w.heap[r]? = some (.cells cs e (0, 0)) ∧
        ∀ i x, l[i]? = some x → ∃ vs, RD w av t x vs ∧ ∀ j u, vs[j]? = some u → cs[base + i * t.size + j]? = some u) ∧
      (l ≠ [] → ∃ r base, ρ b = some (r, base)) ∧ (s = .var → ∃ r base, ρ b = some (r, base))
  | .box cells => ∃ r cs e, ρ b = some (r, 0) ∧ w.heap[r]? = some (.cells cs e (0, 0)) ∧ All2 (RelC w av ρ h) cells cs.toList

/-- The blocks that may be written. -/
def own (ρ : Rho) (h : Heap) (r : Nat) : Prop := ∃ b blk base, h[b]? = some blk ∧ isFrz blk = false ∧ ρ b = some (r, base)
def avs (A : Nat → Prop) (ρ : Rho) (h : Heap) (r : Nat) : Prop := A r ∨ own ρ h r

/-- What was there stays, but for the blocks 'L'. -/
structure Frame (L : Nat → Prop) (w w' : World) : Prop where
  os : w'.os = w.os
  tape : w'.tape = w.tape
  output : w'.output = w.output
  size : w.heap.size ≤ w'.heap.size
  block : ∀ k, k < w.heap.size → ¬ L k → w'.heap[k]? = w.heap[k]?
  room : ∀ (k : Nat) (cs : Array Value) (e : TypeId) (fz : Nat × Nat), w.heap[k]? = some (.cells cs e fz) → ∃ (cs' : Array Value) (e' : TypeId) (fz' : Nat × Nat), w'.heap[k]? = some (.cells cs' e' fz') ∧ cs'.size = cs.size

structure RelH (A : Nat → Prop) (ρ : Rho) (h : Heap) (w : World) : Prop where
  inj : ∀ b b' r base base', b < h.length → b' < h.length → ρ b = some (r, base) → ρ b' = some (r, base') → b = b'
  blk : ∀ b x, h[b]? = some x → RelB w (avs A ρ h) ρ h b x
  out : ∀ b r base, b < h.length → ρ b = some (r, base) → r < w.heap.size ∧ ¬ A r
  A : ∀ r, A r → r < w.heap.size

/-- 'f', called with these arguments over these blocks, returns this and leaves the blocks so (and new ones behind them). -/
def SC (P : Program) (f : Nat) (args : List W) (lent : Heap) (res : List W) (lent' : Heap) : Prop :=
  ∀ (w : World) (vs : Array Value) (ρ : Rho) (A : Nat → Prop), RelH A ρ lent w → All2 (RelW w (avs A ρ lent) ρ lent) args vs.toList →
    Calls P f vs w fun e w' => ∃ v ρ', e = .returned v ∧ RelH A ρ' lent' w' ∧
      (match res with
        | [x] => RelW w' (avs A ρ' lent') ρ' lent' x v
        | xs => ∃ arr : Array Value, v = .tuple arr ∧ All2 (RelW w' (avs A ρ' lent') ρ' lent') xs arr.toList) ∧
      Frame (own ρ lent) w w' ∧ lent.length ≤ lent'.length ∧
      (∀ b x, lent'[b]? = some x → b < lent.length → isMoved x = false → ρ' b = ρ b) ∧
      (∀ b r base, b < lent.length → ρ' b = some (r, base) → (∃ base', ρ b = some (r, base')) ∨ w.heap.size ≤ r) ∧
      (∀ b r base, lent.length ≤ b → b < lent'.length → ρ' b = some (r, base) → w.heap.size ≤ r) ∧
      (∀ (b : Nat) (x : Blk), lent[b]? = some x → ∃ x', lent'[b]? = some x' ∧ (isFrz x = true → isFrz x' = true) ∧ (isMoved x' = false → SameShape x x'))

end Go.Proofs.Ytjoiadaogppmkaa.Sh
