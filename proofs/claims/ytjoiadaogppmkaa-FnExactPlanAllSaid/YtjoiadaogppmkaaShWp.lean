/- What a code owes in the small machine: 'swp'. Definitions alone. -/
import Derived.Test.YtjoiadaogppmkaaShRel
namespace Go.Proofs.Ytjoiadaogppmkaa.Sh
open Go
set_option linter.unusedVariables false

/-- What a function's evaluation is given: the program (it stands in 'SC' alone), the types, what callees give back. -/
structure Env where
  P : Program
  T : Nat → Option TI
  sig : Nat → Option Sig
  eqs : List Nat := []

/-- a tmp that lives on at a cut, and in which form: 0 as it is, 1 a slice as data, 2 nil as a slice of one's own -/
abbrev Live := List (Nat × Nat × Ty)
/-- orders of a region that draws: one, or, behind one, two -/
inductive OT where
  | lin (l : List Nat)
  | fork (l : List Nat) (i : Nat) (a : OT) (j : Nat) (b : OT)
  | fork3 (l : List Nat) (i : Nat) (a : OT) (j : Nat) (b : OT) (k : Nat) (c : OT)
def OT.depth : OT → Nat
  | .lin l => l.length
  | .fork l _ a _ b => l.length + (max a.depth b.depth + 1)
  | .fork3 l _ a _ b _ c => l.length + (max a.depth (max b.depth c.depth) + 1)
structure Hint where
  live : List Live := []          -- by loop, in the text's order
  cut : List (Nat × Live) := []   -- by region
  ord : List (Nat × List Nat) := []   -- by region that draws: the order
  inv : List (Nat × Nat) := []   -- by slot: the method that is called
  ret : List RP := []   -- the results' forms, where they are to be brought into them
  loose : List Nat := []   -- regions that draw and whose calls are lent memory
  forks : List (Nat × OT) := []   -- by region that draws: the orders, where there are two

/-! ## Cuts -/
def freezeW (h : Heap) : W → W × Heap
  | .one c => match absorbC h c with | (c, h) => (.one c, h)
  | .agg cs => match absorb h cs with | (cs, h) => (.agg cs, h)
def keepLive (σ : St) : Live → List (Nat × V) × Heap
  | [] => ([], σ.h)
  | (t, md, ty) :: r => match keepLive σ r with
    | (m, h) => match md with
      | 0 => ((t, σ.get t) :: m, h)
      | 1 => match σ.get t with
        | .w x => match freezeW h x with | (x, h) => ((t, .w x) :: m, h)
        | _ => ((t, .any) :: m, h)
      | _ => match σ.get t with
        | .w (.one .nil) => ((t, .w (.one (.sl h.length none))) :: m, h ++ [.row ty [] .own])
        | v => ((t, v) :: m, h)
def refsW (w : W) : List Nat := refsCs w.cells
def refsV : V → List Nat
  | .w x => refsW x
  | .ifc _ x => refsW x
  | _ => []
def fuelR : Nat := 64
def unmoveB : Blk → Blk
  | .row t l .moved => .row t l .own
  | .row t l .frzM => .row t l .frz
  | b => b
/-- a block of the frame's own has no other place -/
def tidyB (n b : Nat) (x : Blk) : Blk := match Nat.blt b n with | true => x | false => unmoveB x
/-- only what lives on is kept; the frame's first 'n' blocks keep their numbers -/
def pack (n : Nat) (m : List (Nat × V)) (h : Heap) : St :=
  match reach h fuelR (((List.range n).flatMap fun b => refsB h[b]?) ++ m.flatMap fun p => refsV p.2) (List.range n) with
  | ids => ⟨m.map fun p => (p.1, renV (fun b => idx b ids) p.2), ids.map fun b => match h[b]? with | some x => tidyB n b (renB (fun b => idx b ids) x) | none => .box []⟩
def cutAt (n : Nat) (lv : Live) (σ : St) : St := match keepLive σ lv with | (m, h) => pack n m h

/-! ## Calls -/
def Ty.hasSl : Ty → Bool
  | .sl _ => true
  | .pair a b => a.hasSl || b.hasSl
  | _ => false
def CP.hasRo : CP → Bool
  | .c t => t.hasSl
  | .own t => t.hasSl
  | .bx t => t.hasSl
  | .sub _ => false
def viewC (h : Heap) : Cell → Cell
  | .sl b w => match h[b]? with
    | some (.row t l _) => .ro t (win w l)
    | _ => .undef
  | c => c
def viewW (h : Heap) : W → W
  | .one c => .one (viewC h c)
  | .agg cs => .agg (cs.map (viewC h))
def viewedC : Cell → List Nat
  | .sl b _ => [b]
  | _ => []
def flatC : Cell → Bool
  | .ro _ _ => false
  | .rp _ _ _ => false
  | _ => true
def flatB : Blk → Bool
  | .row t _ _ => !t.hasSl
  | .box cs => cs.all flatC
def disjL : List Nat → List Nat → Bool
  | [], _ => true
  | b :: r, l => match inL b l with | true => false | false => disjL r l
def freezeAll : Heap → List Nat → Heap
  | h, [] => h
  | h, b :: r => freezeAll (freeze1 h b) r

def buildC : (p : CP) → p.D → Nat → List Cell × List Blk
  | .c t, x, _ => (cellsD t x, [])
  | .own t, l, n => ([.sl n none], [.row t l .own])
  | .bx t, x, n => ([.ptr n 0 0], [.box (cellsD t x)])
  | .sub j, x, n => ([.sl j (some (0, x))], [])
def buildG : (ps : List CP) → PD ps → Nat → List (List Cell) × List Blk
  | [], _, _ => ([], [])
  | [p], x, n => match buildC p x n with
    | (g, bs) => ([g], bs)
  | p :: q :: r, x, n => match buildC p x.1 n with
    | (g, bs) => match buildG (q :: r) x.2 (n + bs.length) with
      | (g', bs') => (g :: g', bs ++ bs')

def takeCells : Nat → List (List Cell) → List Cell × List (List Cell)
  | 0, gs => ([], gs)
  | n + 1, g :: gs => match takeCells n gs with
    | (cs, gs) => (g ++ cs, gs)
  | _ + 1, [] => ([], [])
def keepSl : List Cell → List Cell → List Cell
  | .sl b w :: os, _ :: cs => .sl b w :: keepSl os cs
  | _ :: os, c :: cs => c :: keepSl os cs
  | _, cs => cs
/-- the lent blocks as they come back -/
def backBlks : List BP → Heap → List (List Cell) → Heap × List (List Cell)
  | .same :: ps, b :: h, gs => match backBlks ps h gs with
    | (h, gs) => (b :: h, gs)
  | .row t s :: ps, _ :: h, gs => match gs with
    | [.ro t' l] :: gs => match backBlks ps h gs with
      | (h, gs) => ((if e : t' = t then .row t (e ▸ l) s else .box []) :: h, gs)
    | gs => ([], gs)
  | .box qs :: ps, _ :: h, gs => match takeCells qs.length gs with
    | (cs, gs) => match backBlks ps h gs with
      | (h, gs) => (.box cs :: h, gs)
  | .rowIf t s :: ps, b :: h, gs => match gs with
    | [.ro t' l] :: gs => match backBlks ps h gs with
      | (h, gs) => ((match b with
        | .row _ _ .var => b
        | .row _ _ _ => if e : t' = t then .row t (e ▸ l) s else .box []
        | b => b) :: h, gs)
    | gs => ([], gs)
  | .boxIf qs :: ps, b :: h, gs => match takeCells qs.length gs with
    | (cs, gs) => match backBlks ps h gs with
      | (h, gs) => (.box (keepSl (match b with | .box os => os | _ => []) cs) :: h, gs)
  | [], h, gs => (h, gs)
  | .rowIf _ _ :: ps, [], _ :: gs => backBlks ps [] gs
  | _ :: _, [], gs => ([], gs)
def backRes : List RP → List (List Cell) → List W
  | [], _ => []
  | .one _ :: ps, g :: gs => (match g with | [c] => .one c | cs => .agg cs) :: backRes ps gs
  | .one _ :: _, [] => []
  | .agg qs :: ps, gs => match takeCells qs.length gs with
    | (cs, gs) => .agg cs :: backRes ps gs

def movedIds : List Nat → Heap → List Nat
  | i :: ids, b :: h => (match isMoved b with | true => i :: movedIds ids h | false => movedIds ids h)
  | _, _ => []
def markM : Blk → Blk
  | .row t l .frz => .row t l .frzM
  | .row t l .frzM => .row t l .frzM
  | .row t l _ => .row t l .moved
  | b => b
def remoteB (orig x : Blk) : Blk := match isMoved orig with | true => markM x | false => x
def lentOf (h : Heap) (ids : List Nat) : Heap := ids.map fun b => match h[b]? with | some x => unmoveB (renB (fun b => idx b ids) x) | none => .box []
def backMap (ids : List Nat) (hl j : Nat) : Option Nat := match Nat.blt j ids.length with | true => ids[j]? | false => some (hl + (j - ids.length))
def mergeAt (ids : List Nat) (back : Nat → Option Nat) (lent1 : Heap) (c : Nat) (x : Blk) : Blk :=
  match idx c ids with
  | some i => (match lent1[i]? with
    | some b => remoteB x (renB back b)
    | none => x)
  | none => x
def mergeB (ids : List Nat) (back : Nat → Option Nat) (lent1 : Heap) : Nat → Heap → Heap
  | _, [] => []
  | c, x :: r => mergeAt ids back lent1 c x :: mergeB ids back lent1 (c + 1) r
def flatW (w : W) : Bool := w.cells.all flatC

def resV : List W → V
  | [x] => .w x
  | xs => .tup xs

/-- behind the call -/
def afterCall (σ : St) (viewed ids : List Nat) (lent1 news : Heap) (res : List W) (K : St → V → Prop) : Prop :=
  match res.all flatW && (lent1 ++ news).all flatB with
  | true => (match movedIds ids lent1 with
    | mv => K ⟨eraseM mv σ.m, mergeB ids (backMap ids σ.h.length) lent1 0 (eraseH mv σ.h) ++ news.map (renB (backMap ids σ.h.length))⟩ (resV (res.map (renW (backMap ids σ.h.length)))))
  | false => Ck (viewed.all (canFreeze σ.h)) (match movedIds ids lent1 with
    | mv => K ⟨eraseM mv σ.m, mergeB ids (backMap ids σ.h.length) lent1 0 (eraseH mv (freezeAll σ.h viewed)) ++ news.map (renB (backMap ids σ.h.length))⟩ (resV (res.map (renW (backMap ids σ.h.length)))))

def callWith (P : Program) (dr : Bool) (s : Sig) (f : Nat) (args' : List W) (viewed : List Nat) (σ : St) (K : St → V → Prop) : Prop :=
  match reach σ.h fuelR (args'.flatMap refsW) [] with
  | ids => Ck (disjL viewed ids) <| Ck (!dr || Nat.beq ids.length 0) <| ∃ x : PD s.cps, match buildG s.cps x ids.length with
    | (gs, news) => match backBlks s.lent (lentOf σ.h ids) gs with
      | (lent1, gs) => Ck (Nat.beq lent1.length ids.length) <|
        SC P f (args'.map (renW fun b => idx b ids)) (lentOf σ.h ids) (backRes s.ret gs) (lent1 ++ news) ∧ afterCall σ viewed ids lent1 news (backRes s.ret gs) K
def callK (E : Env) (dr : Bool) (f : Nat) (args : List W) (σ : St) (K : St → V → Prop) : Prop :=
  match E.sig f with
  | none => False
  | some s => match s.lend with
    | true => callWith E.P dr s f args [] σ K
    | false => callWith E.P dr s f (args.map (viewW σ.h)) (args.flatMap fun a => a.cells.flatMap viewedC) σ K

/-! ## Operations -/
def evWs (σ : St) : List Operand → Option (List W)
  | [] => some []
  | x :: r => match asW (ev σ x), evWs σ r with
    | some w, some s => some (w :: s)
    | _, _ => none
def capsOf (σ : St) : List Operand → Option (List Nat)
  | [] => some []
  | x :: r => match ev σ x, capsOf σ r with
    | .w (.one (.ptr b 0 0)), some s => some (b :: s)
    | _, _ => none

def lookN (k : Nat) : List (Nat × Nat) → Option Nat
  | [] => none
  | (a, b) :: r => match Nat.beq a k with | true => some b | false => lookN k r
/-- a method of a type, called on a value of it -/
def MethodIs (P : Program) (t : Nat) (name : String) (f : Nat) : Prop := ∀ (v : Value) (w : World), (method (P.types.size + Made.depth) t v name).run P w = .ok (f, v) w

def opK (E : Env) (H : Hint) (dr : Bool) (o : Oper) (σ : St) (K : St → Prop) : Prop :=
  let val (v : V) : Prop := K (σ.put o.dst v)
  let cel (c : Cell) : Prop := K (σ.put o.dst (.w (.one c)))
  match o.op with
  | .move x | .assign x => val (ev σ x)
  | .pick c a b => match ev σ c with
    | .w (.one (.bool t)) => Br t (val (ev σ a)) (val (ev σ b))
    | _ => False
  | .alloc e => match E.T e with
    | some ti => K ((⟨σ.m, σ.h ++ [newBlk ti.zero]⟩ : St).put o.dst (.w (.one (.ptr σ.h.length 0 0))))
    | none => False
  | .box _ x => match ev σ x with
    | .w x => K ((⟨σ.m, σ.h ++ [newBlk x.cells]⟩ : St).put o.dst (.w (.one (.ptr σ.h.length 0 0))))
    | _ => False
  | .build t ps => buildK E.T σ t ps.toList fun w => val (.w w)
  | .buildSlice t n ps => buildSliceK E.T σ t n ps.toList fun σ c => K (σ.put o.dst (.w (.one c)))
  | .load t a => match asC (ev σ a) with
    | some c => loadK E.T σ.h t c fun w => val (.w w)
    | none => False
  | .store t a x => match asC (ev σ a), asW (ev σ x) with
    | some c, some w => storeK E.T σ t c w fun σ => K (σ.put o.dst (.tup []))
    | _, _ => False
  | .nilCheck x => match asC (ev σ x) with
    | some (.ptr b i o) => cel (.ptr b i o)
    | some (.rp t x o) => cel (.rp t x o)
    | _ => False
  | .binOp op xt x y _ => binK E.T E.eqs σ.h op xt (ev σ x) (ev σ y) val
  | .unOp op _ x => unK op (ev σ x) val
  | .convert s d x => match ev σ x with
    | .w (.one (.int _ n)) => match E.T s, tyOf E.T d with
      | some _, some (.int k) => val (I k (k.wrap n))
      | _, _ => False
    | _ => False
  | .makeFunc (.func f) fs cs => match fs.toList, capsOf σ cs.toList with
    | [], some caps => cel (.fn f caps)
    | _, _ => False
  | .makeSlice t l c => makeK E.T σ t (ev σ l) (ev σ c) fun σ c => K (σ.put o.dst (.w (.one c)))
  | .slice t x lo hi mx => match E.T t with
    | some ⟨.slice e, _, _, _, _, _⟩ => match asC (ev σ x) with
      | some c => Ck (mx.isNone || hi.isSome) (sliceK (sizeT E.T e) σ.h c (lo.map (ev σ)) (hi.map (ev σ)) (mx.map (ev σ)) cel)
      | none => False
    | some ⟨.arr n e, _, _, _, _, _⟩ => match asC (ev σ x), lo, hi, mx with
      | some (.ptr b i 0), none, none, none => match σ.h[b]? with
        | some (.row u l .var) => Ck (Nat.beq u.size (sizeT E.T e)) (Ck (Nat.ble (i + n) l.length) (cel (.sl b (some (i, n)))))
        | _ => False
      | _, _, _, _ => False
    | _ => False
  | .fieldAddr s x f => match asC (ev σ x) with
    | some c => fieldAddrK E.T σ.h s c f cel
    | none => False
  | .field s x f => fieldK E.T s (ev σ x) f fun w => val (.w w)
  | .indexAddr t x i => match asC (ev σ x), asI (ev σ i) with
    | some c, some i => indexAddrK E.T σ.h t c i cel
    | _, _ => False
  | .index t x i => match asI (ev σ i) with
    | some i => match x with
      | .const (.string s) => E.P.underlying t = some .string ∧ Ck (decide (0 ≤ i)) (match s[i.toNat]? with | some b => val (I .u8 b.toNat) | none => False)
      | x => indexK E.T t (ev σ x) i fun w => val (.w w)
    | none => False
  | .extract x i => match ev σ x with
    | .tup xs => match xs[i]? with
      | some w => val (.w w)
      | none => False
    | _ => False
  | .call c => match c.callee with
    | .builtin b => match evWs σ c.args.toList, c.argTypes.toList with
      | some ws, ts => match b, ws, ts with
        | .len, [w], [t] => match E.T t with
          | some ⟨.slice _, _, _, _, _, _⟩ => match w with
            | .one x => match lenC σ.h x with
              | some n => val (I .i64 n)
              | none => False
            | _ => False
          | some ⟨.arr n _, _, _, _, _, _⟩ => val (I .i64 n)
          | _ => False
        | .cap, [.one .nil], [t] => match E.T t with
          | some ⟨.slice _, _, _, _, _, _⟩ => val (I .i64 0)
          | _ => False
        | .append, [.one s, .one x], [t, t'] => match E.T t' with
          | some ⟨.slice _, _, _, _, _, _⟩ => appendK E.T σ t s x fun σ c => K (σ.put o.dst (.w (.one c)))
          | some ⟨.cell, _, _, some (.int _), _, _⟩ => match x with
            | .int .i64 n => appendZ E.T σ t s n fun σ c => K (σ.put o.dst (.w (.one c)))
            | _ => False
          | _ => False
        | .copy, [.one d, .one s], [t, _] => match E.T t with
          | some ⟨.slice e, _, _, _, _, _⟩ => Ck (szOk (sizeT E.T e) σ.h d) (copyK σ d s fun σ v => K (σ.put o.dst v))
          | _ => False
        | .clear, [.one d], [t] => match E.T t with
          | some ⟨.slice e, _, _, _, _, _⟩ => Ck (szOk (sizeT E.T e) σ.h d) (Ck (rowTy E.T e σ.h d) (clearK σ d fun σ => K (σ.put o.dst (.tup []))))
          | _ => False
        | .min, [.one (.int k a), .one (.int k' b)], _ => Ck (decide (k = k')) (val (I k (min a b)))
        | .max, [.one (.int k a), .one (.int k' b)], _ => Ck (decide (k = k')) (val (I k (max a b)))
        | _, _, _ => False
      | none, _ => False
    | .value f => match asC (ev σ f), evWs σ c.args.toList with
      | some (.fn g caps), some ws => callK E dr g (ws ++ caps.map fun b => .one (.ptr b 0 0)) σ fun σ v => K (σ.put o.dst v)
      | _, _ => False
    | .invoke r name => match ev σ r, o.dst, evWs σ c.args.toList with
      | .ifc t x, some d, some ws => match lookN d H.inv with
        | some f => MethodIs E.P t name f ∧ callK E dr f (x :: ws) σ fun σ v => K (σ.put o.dst v)
        | none => False
      | _, _, _ => False
  | .makeInterface t x => match ev σ x, E.T t with
    | .w x, some _ => val (.ifc t x)
    | _, _ => False
  | _ => False

/-- the operations of a region, in the text's order; a guard's outcome is written down where it is found -/
def opsK (E : Env) (H : Hint) (dr : Bool) (all : List Oper) : List Oper → St → (St → Prop) → Prop
  | [], σ, K => K σ
  | o :: r, σ, K => match o.guard with
    | none => opK E H dr o σ fun σ => opsK E H dr all r σ K
    | some (j, want) => match all[j]? with
      | some g => match g.dst with
        | some d => match σ.get d with
          | .w (.one (.bool t)) => Br t
              (match want with
                | true => opK E H dr o (σ.put (some d) (B true)) fun σ => opsK E H dr all r σ K
                | false => opsK E H dr all r ((σ.put (some d) (B true)).put o.dst (.tup [])) K)
              (match want with
                | true => opsK E H dr all r ((σ.put (some d) (B false)).put o.dst (.tup [])) K
                | false => opK E H dr o (σ.put (some d) (B false)) fun σ => opsK E H dr all r σ K)
          | .tup [] => opsK E H dr all r (σ.put o.dst (.tup [])) K
          | _ => False
        | none => False
      | none => False

/-! ## Codes -/
inductive Ex where
  | normal
  | exit (id : Nat)
  | ret

abbrev Q := Ex → St → Prop
def thenK (n : St → Prop) (q : Q) : Q
  | .normal, σ => n σ
  | e, σ => q e σ
def blockK (id : Nat) (q : Q) : Q
  | .exit id', σ => match Nat.beq id' id with | true => q .normal σ | false => q (.exit id') σ
  | e, σ => q e σ

/-- the number of loops in a code -/
def loops : Code → Nat
  | .seq a b => loops a + loops b
  | .cond _ a b => loops a + loops b
  | .block _ c => loops c
  | .loop c => loops c + 1
  | _ => 0

/-- the least that is closed under a round -/
def LoopWp (body : Q → St → Prop) (g : St → St) (q : Q) (σ : St) : Prop := ∀ R : St → Prop, (∀ σ, body (thenK (fun σ' => R (g σ')) q) σ → R σ) → R σ

def ordOf (id : Nat) : List (Nat × List Nat) → Option (List Nat)
  | [] => none
  | (k, l) :: r => match Nat.beq k id with | true => some l | false => ordOf id r
def pickOps (ops : List Oper) : List Nat → List Oper
  | [] => []
  | i :: r => match ops[i]? with
    | some o => o :: pickOps ops r
    | none => pickOps ops r
/-- it draws, and no call of it is lent memory -/
def drOf (H : Hint) (id : Nat) : Bool → Bool
  | true => !inL id H.loose
  | false => false
/-- a region's operations in the order in which they are taken -/
def inOrder (H : Hint) (id : Nat) (ops : List Oper) : List Oper := match ordOf id H.ord with
  | some l => pickOps ops l
  | none => ops
def forkOf (id : Nat) : List (Nat × OT) → Option OT
  | [] => none
  | (k, l) :: r => match Nat.beq k id with | true => some l | false => forkOf id r
def treeK (E : Env) (H : Hint) (dr : Bool) (all : List Oper) : OT → St → (St → Prop) → Prop
  | .lin l, σ, K => opsK E H dr all (pickOps all l) σ K
  | .fork l i a j b, σ, K => opsK E H dr all (pickOps all l) σ fun σ => opsK E H dr all (pickOps all [i]) σ (fun σ => treeK E H dr all a σ K) ∧ opsK E H dr all (pickOps all [j]) σ (fun σ => treeK E H dr all b σ K)
  | .fork3 l i a j b k c, σ, K => opsK E H dr all (pickOps all l) σ fun σ => opsK E H dr all (pickOps all [i]) σ (fun σ => treeK E H dr all a σ K) ∧ opsK E H dr all (pickOps all [j]) σ (fun σ => treeK E H dr all b σ K) ∧ opsK E H dr all (pickOps all [k]) σ (fun σ => treeK E H dr all c σ K)
/-- the operations of a region -/
def regK (E : Env) (H : Hint) (id : Nat) (dr : Bool) (ops : List Oper) (σ : St) (K : St → Prop) : Prop := match forkOf id H.forks with
  | some t => treeK E H (drOf H id dr) ops t σ K
  | none => opsK E H (drOf H id dr) ops (inOrder H id ops) σ K
def cutOf (id : Nat) : List (Nat × Live) → Option Live
  | [] => none
  | (k, l) :: r => match Nat.beq k id with | true => some l | false => cutOf id r

section
variable (E : Env) (n : Nat) (H : Hint)

/-- 'k' loops stand ahead of this code -/
def swp (k : Nat) : Code → Q → St → Prop
  | .skip, q, σ => q .normal σ
  | .region id ops dr, q, σ => regK E H id dr ops.toList (match cutOf id H.cut with | some lv => cutAt n lv σ | none => σ) fun σ => q .normal σ
  | .seq a b, q, σ => swp k a (thenK (swp (k + loops a) b q) q) σ
  | .cond c a b, q, σ => match ev σ c with
    | .w (.one (.bool t)) => Br t (swp k a q σ) (swp (k + loops a) b q σ)
    | _ => False
  | .block id c, q, σ => swp k c (blockK id q) σ
  | .loop c, q, σ => LoopWp (swp (k + 1) c) (cutAt n (H.live.getD k [])) q (cutAt n (H.live.getD k []) σ)
  | .exit id, q, σ => q (.exit id) σ
  | .ret, q, σ => q .ret σ
  | _, _, _ => False

/-- from the head of loop 'j' on -/
def atLoop (j k : Nat) : Code → Q → St → Prop
  | .seq a b, q, σ => match Nat.blt j (k + loops a) with
    | true => atLoop j k a (thenK (swp E n H (k + loops a) b q) q) σ
    | false => atLoop j (k + loops a) b q σ
  | .cond _ a b, q, σ => match Nat.blt j (k + loops a) with
    | true => atLoop j k a q σ
    | false => atLoop j (k + loops a) b q σ
  | .block id c, q, σ => atLoop j k c (blockK id q) σ
  | .loop c, q, σ => match Nat.beq j k with
    | true => LoopWp (swp E n H (k + 1) c) (cutAt n (H.live.getD k [])) q σ
    | false => atLoop j (k + 1) c (thenK (fun σ' => LoopWp (swp E n H (k + 1) c) (cutAt n (H.live.getD k [])) q (cutAt n (H.live.getD k []) σ')) q) σ
  | _, _, _ => False

/-- the same, the loop's first round begun -/
def atLoop1 (j k : Nat) : Code → Q → St → Prop
  | .seq a b, q, σ => match Nat.blt j (k + loops a) with
    | true => atLoop1 j k a (thenK (swp E n H (k + loops a) b q) q) σ
    | false => atLoop1 j (k + loops a) b q σ
  | .cond _ a b, q, σ => match Nat.blt j (k + loops a) with
    | true => atLoop1 j k a q σ
    | false => atLoop1 j (k + loops a) b q σ
  | .block id c, q, σ => atLoop1 j k c (blockK id q) σ
  | .loop c, q, σ => match Nat.beq j k with
    | true => swp E n H (k + 1) c (thenK (fun σ' => LoopWp (swp E n H (k + 1) c) (cutAt n (H.live.getD k [])) q (cutAt n (H.live.getD k []) σ')) q) σ
    | false => atLoop1 j (k + 1) c (thenK (fun σ' => LoopWp (swp E n H (k + 1) c) (cutAt n (H.live.getD k [])) q (cutAt n (H.live.getD k []) σ')) q) σ
  | _, _, _ => False

def hasRegion (id : Nat) : Code → Bool
  | .region i _ _ => Nat.beq i id
  | .seq a b => hasRegion id a || hasRegion id b
  | .cond _ a b => hasRegion id a || hasRegion id b
  | .block _ c => hasRegion id c
  | .loop c => hasRegion id c
  | _ => false

/-- from region 'j' on (a cut) -/
def atCut (j k : Nat) : Code → Q → St → Prop
  | .region id ops dr, q, σ => regK E H id dr ops.toList σ fun σ => q .normal σ
  | .seq a b, q, σ => match hasRegion j a with
    | true => atCut j k a (thenK (swp E n H (k + loops a) b q) q) σ
    | false => atCut j (k + loops a) b q σ
  | .cond _ a b, q, σ => match hasRegion j a with
    | true => atCut j k a q σ
    | false => atCut j (k + loops a) b q σ
  | .block id c, q, σ => atCut j k c (blockK id q) σ
  | .loop c, q, σ => atCut j (k + 1) c (thenK (fun σ' => LoopWp (swp E n H (k + 1) c) (cutAt n (H.live.getD k [])) q (cutAt n (H.live.getD k []) σ')) q) σ
  | _, _, _ => False
end

/-! ## A function -/
def Ret (r : List W) (lent' : Heap) (r' : List W) (h' : Heap) : Prop := r' = r ∧ h' = lent'
def resultsK (T : Nat → Option TI) (σ : St) : List ResultVar → (List W → Prop) → Prop
  | [], K => K []
  | .tmp t :: r, K => match asW (σ.get t) with
    | some w => resultsK T σ r fun ws => K (w :: ws)
    | none => False
  | .cell a ty :: r, K => match asC (σ.get a) with
    | some c => loadK T σ.h ty c fun w => resultsK T σ r fun ws => K (w :: ws)
    | none => False
/-- a result brought into its form: nil as a slice of one's own, a slice of one's own as data -/
def coerceC (p : CP) (h : Heap) (c : Cell) : Cell × Heap := match p with
  | .own t => (match c with
    | .nil => (.sl h.length none, h ++ [.row t [] .own])
    | c => (c, h))
  | .c _ => absorbC h c
  | .bx _ => (c, h)
  | .sub _ => (match c with
    | .sl b none => (match h[b]? with
      | some (.row t l s) => (.sl b (some (0, l.length)), h)
      | _ => (c, h))
    | c => (c, h))
def coerceCs : List CP → List Cell → Heap → List Cell × Heap
  | p :: ps, c :: cs, h => match coerceC p h c with
    | (c, h) => match coerceCs ps cs h with
      | (cs, h) => (c :: cs, h)
  | _, cs, h => (cs, h)
def coerceW (p : RP) (w : W) (h : Heap) : W × Heap := match p, w with
  | .one p, .one c => (match coerceC p h c with | (c, h) => (.one c, h))
  | .agg ps, .agg cs => (match coerceCs ps cs h with | (cs, h) => (.agg cs, h))
  | _, w => (w, h)
def coerceWs : List RP → List W → Heap → List W × Heap
  | p :: ps, w :: ws, h => match coerceW p w h with
    | (w, h) => match coerceWs ps ws h with
      | (ws, h) => (w :: ws, h)
  | _, ws, h => (ws, h)
/-- a result that is the begin of a block of the frame's own: the block ends there, and nothing else names it -/
def truncWs (n : Nat) : Nat → Nat → List W → Heap → List W × Heap
  | 0, _, ws, h => (ws, h)
  | q + 1, j, ws, h => match ws[j]? with
    | some (.one (.sl b (some (o, k)))) => (match Nat.beq o 0 && Nat.ble n b, h[b]? with
      | true, some (.row t l s) => (match isFrz (.row t l s) with
        | true => truncWs n q (j + 1) ws h
        | false => truncWs n q (j + 1) ((ws.map (renW (butL [b]))).set j (.one (.sl b none))) ((eraseH [b] h).set b (.row t (l.take k) .moved)))
      | _, _ => truncWs n q (j + 1) ws h)
    | _ => truncWs n q (j + 1) ws h
def packRes (n : Nat) (ws : List W) (h : Heap) : List W × Heap :=
  match reach h fuelR (((List.range n).flatMap fun b => refsB h[b]?) ++ ws.flatMap refsW) (List.range n) with
    | ids => (ws.map (renW fun b => idx b ids), ids.map fun b => match h[b]? with | some x => tidyB n b (renB (fun b => idx b ids) x) | none => .box [])
def retK (E : Env) (H : Hint) (n : Nat) (fn : Func) (r : List W) (lent' : Heap) : Q
  | .normal, σ | .ret, σ => resultsK E.T σ fn.results.toList fun ws => match coerceWs H.ret ws σ.h with | (ws, h) => match truncWs n ws.length 0 ws h with | (ws, h) => match packRes n ws h with | (r', h') => Ret r lent' r' h'
  | _, _ => False

def argsM : Nat → List W → List (Nat × V)
  | _, [] => []
  | i, w :: r => (i, .w w) :: argsM (i + 1) r

/-- the function's body, from its begin -/
def FB (E : Env) (H : Hint) (fn : Func) (args : List W) (lent : Heap) (r : List W) (lent' : Heap) : Prop :=
  match fn.body with
  | some c => swp E lent.length H 0 c (retK E H lent.length fn r lent') ⟨argsM 0 args, lent⟩
  | none => False
/-- from the head of its loop 'j' on -/
def FL (E : Env) (H : Hint) (fn : Func) (n : Nat) (r : List W) (lent' : Heap) (j : Nat) (σ : St) : Prop :=
  match fn.body with
  | some c => atLoop E n H j 0 c (retK E H n fn r lent') σ
  | none => False
def FL1 (E : Env) (H : Hint) (fn : Func) (n : Nat) (r : List W) (lent' : Heap) (j : Nat) (σ : St) : Prop :=
  match fn.body with
  | some c => atLoop1 E n H j 0 c (retK E H n fn r lent') σ
  | none => False
/-- from its cut at region 'j' on -/
def FC (E : Env) (H : Hint) (fn : Func) (n : Nat) (r : List W) (lent' : Heap) (j : Nat) (σ : St) : Prop :=
  match fn.body with
  | some c => atCut E n H j 0 c (retK E H n fn r lent') σ
  | none => False

end Go.Proofs.Ytjoiadaogppmkaa.Sh
