/- A seat's tables, checked by computing. -/
import Derived.ChangeKeysEq
import Derived.Laws.BitsLemmas
import Derived.Test.YtjoiadaogppmkaaShCode
import Derived.Test.YtjoiadaogppmkaaShMono
namespace Go.Proofs.Ytjoiadaogppmkaa.Sh
open Go
set_option linter.unusedVariables false
set_option linter.unusedSimpArgs false

def lookT {α : Type} (k : Nat) : List (Nat × α) → Option α
  | [] => none
  | (a, x) :: r => match Nat.beq a k with | true => some x | false => lookT k r
theorem lookT_mem {α : Type} {k : Nat} {x : α} : ∀ {l : List (Nat × α)}, lookT k l = some x → (k, x) ∈ l
  | [], h => by simp [lookT] at h
  | (a, y) :: r, h => by
    simp only [lookT] at h
    split at h
    · rename_i e
      have := Nat.eq_of_beq_eq_true e
      cases h
      subst this
      simp
    · exact List.mem_cons_of_mem _ (lookT_mem h)

def constRelB : Cell → Value → Bool
  | .bool b, .bool b' => b == b'
  | .int k n, .int k' n' => decide (k = k') && decide (n = n')
  | .nil, .slice none 0 0 => true
  | .undef, .agg _ => false
  | .undef, .tuple _ => false
  | .undef, _ => true
  | _, _ => false
theorem constRelB_sound {c : Cell} {v : Value} (h : constRelB c v = true) : constRel c v := by
  unfold constRelB at h
  split at h
  · simp at h; subst h; rfl
  · simp at h; obtain ⟨rfl, rfl⟩ := h; rfl
  · rfl
  · cases h
  · cases h
  · rename_i h1 h2
    exact ⟨fun cs e => h1 _ e, fun vs e => h2 _ e⟩
  · cases h
def allRelB : List Cell → List Value → Bool
  | [], [] => true
  | c :: cs, v :: vs => constRelB c v && allRelB cs vs
  | _, _ => false
theorem allRelB_sound : ∀ {cs : List Cell} {vs : List Value}, allRelB cs vs = true → All2 constRel cs vs
  | [], [], _ => .nil
  | c :: cs, v :: vs, h => by
    simp only [allRelB, Bool.and_eq_true] at h
    exact .cons (constRelB_sound h.1) (allRelB_sound h.2)
  | [], _ :: _, h => by cases h
  | _ :: _, [], h => by cases h

/-- the cells of a type's zero, taken off a list -/
def zeroOff : Ty → List Value → Option (List Value)
  | .int k, .int k' n :: r => match decide (k = k') && decide (n = 0) with | true => some r | false => none
  | .bool, .bool b :: r => match b with | true => none | false => some r
  | .sl _, .slice none 0 0 :: r => some r
  | .pair a b, vs => match zeroOff a vs with | some r => zeroOff b r | none => none
  | _, _ => none
theorem zeroOff_sound : ∀ (t : Ty) {vs r : List Value}, zeroOff t vs = some r → ∃ l, vs = l ++ r ∧ ∀ w av, RD w av t t.zero l
  | .int k, vs, r, h => by
    cases vs with
    | nil => simp [zeroOff] at h
    | cons v vs =>
      cases v <;> simp only [zeroOff] at h <;> try cases h
      rename_i k' n
      split at h
      · rename_i e
        simp at e
        obtain ⟨rfl, rfl⟩ := e
        cases h
        exact ⟨[.int k 0], rfl, fun w av => rfl⟩
      · cases h
  | .bool, vs, r, h => by
    cases vs with
    | nil => simp [zeroOff] at h
    | cons v vs =>
      cases v <;> simp only [zeroOff] at h <;> try cases h
      rename_i b
      cases b
      · cases h; exact ⟨[.bool false], rfl, fun w av => rfl⟩
      · cases h
  | .sl a, vs, r, h => by
    unfold zeroOff at h
    split at h
    · rename_i e; cases e
    · rename_i e; cases e
    · cases h
      exact ⟨[.slice none 0 0], rfl, fun w av => ⟨none, 0, rfl, Nat.le_refl _, fun i x hx => by simp [Ty.zero] at hx⟩⟩
    · rename_i e; cases e
    · cases h
  | .pair a b, vs, r, h => by
    simp only [zeroOff] at h
    split at h
    · rename_i r1 h1
      obtain ⟨l1, e1, g1⟩ := zeroOff_sound a h1
      obtain ⟨l2, e2, g2⟩ := zeroOff_sound b h
      exact ⟨l1 ++ l2, by rw [e1, e2, List.append_assoc], fun w av => ⟨l1, l2, rfl, g1 w av, g2 w av⟩⟩
    · cases h

def fieldsB : List Field → List (Nat × Nat) → Bool
  | [], [] => true
  | f :: fs, p :: ps => Nat.beq f.offset p.1 && Nat.beq f.type p.2 && fieldsB fs ps
  | _, _ => false
theorem fieldsB_sound : ∀ {fs : List Field} {ps : List (Nat × Nat)}, fieldsB fs ps = true → fs.map (fun f => (f.offset, f.type)) = ps
  | [], [], _ => rfl
  | f :: fs, (a, b) :: ps, h => by
    simp only [fieldsB, Bool.and_eq_true] at h
    rw [List.map_cons, fieldsB_sound h.2, Nat.eq_of_beq_eq_true h.1.1, Nat.eq_of_beq_eq_true h.1.2]
  | [], _ :: _, h => by cases h
  | _ :: _, [], h => by cases h
def kindB : TK → TypeDesc → Bool
  | .struct ps, .struct fs => fieldsB fs.toList ps
  | .arr n e, .array n' e' => Nat.beq n n' && Nat.beq e e'
  | .slice e, .slice e' => Nat.beq e e'
  | .ptr e, .pointer e' => Nat.beq e e'
  | .cell, d => !isAggD d
  | .func, d => !isAggD d
  | _, _ => false
theorem kindB_sound {k : TK} {d : TypeDesc} (h : kindB k d = true) : kindOk k d := by
  cases k with
  | struct ps => cases d <;> simp only [kindB] at h <;> try cases h
                 exact ⟨_, rfl, fieldsB_sound h⟩
  | arr n e => cases d <;> simp only [kindB] at h <;> try cases h
               rw [Bool.and_eq_true] at h
               rw [kindOk, Nat.eq_of_beq_eq_true h.1, Nat.eq_of_beq_eq_true h.2]
  | slice e => cases d <;> simp only [kindB] at h <;> try cases h
               rw [kindOk, Nat.eq_of_beq_eq_true h]
  | ptr e => cases d <;> simp only [kindB] at h <;> try cases h
             rw [kindOk, Nat.eq_of_beq_eq_true h]
  | cell => simp only [kindB, Bool.not_eq_true'] at h; exact h
  | func => simp only [kindB, Bool.not_eq_true'] at h; exact h
def dataB : Option Ty → TypeDesc → Bool
  | some (.int k), .int k' => decide (k = k')
  | some (.int _), _ => false
  | some .bool, .bool => true
  | some .bool, _ => false
  | _, _ => true
theorem dataB_sound {o : Option Ty} {d : TypeDesc} (h : dataB o d = true) : (∀ k, o = some (.int k) → d = .int k) ∧ (o = some .bool → d = .bool) := by
  refine ⟨fun k e => ?_, fun e => ?_⟩
  · subst e
    cases d <;> simp only [dataB] at h <;> try cases h
    have := of_decide_eq_true h
    rw [this]
  · subst e
    cases d <;> simp only [dataB] at h <;> first | rfl | cases h
def isIface : TypeDesc → Bool
  | .interface _ => true
  | _ => false
def tokB (oi : Option TypeInfo) (od : Option TypeDesc) (ti : TI) : Bool :=
  match oi, od with
  | some i, some d => (match i.zero with
    | some z => Nat.beq i.size ti.size && Nat.beq i.bytes ti.bytes && allRelB ti.zero z.cells.toList && Nat.beq z.cells.size ti.size &&
        (match ti.ty with | some ty => Nat.beq ty.size ti.size && (match zeroOff ty z.cells.toList with | some [] => true | _ => false) | none => true)
    | none => false) && (ti.agg || Nat.beq ti.size 1) && Nat.blt 0 ti.size && Nat.blt 0 ti.bytes && !isIface d && kindB ti.kind d && (isAggD d == ti.agg) && dataB ti.ty d
  | _, _ => false
theorem tokB_sound {P : Program} {t : Nat} {ti : TI} (h : tokB (P.info? t) (P.underlying t) ti = true) : TOk1 P t ti := by
  unfold tokB at h
  split at h
  · rename_i i d hi hd
    simp only [Bool.and_eq_true] at h
    obtain ⟨⟨⟨⟨⟨⟨⟨h1, h2⟩, h3⟩, h4⟩, h5⟩, h6⟩, h7⟩, h8⟩ := h
    split at h1
    · rename_i z hz
      simp only [Bool.and_eq_true] at h1
      obtain ⟨⟨⟨⟨a1, a2⟩, a3⟩, a4⟩, a5⟩ := h1
      refine ⟨⟨i, z, hi, hz, Nat.eq_of_beq_eq_true a1, Nat.eq_of_beq_eq_true a2, allRelB_sound a3, Nat.eq_of_beq_eq_true a4, ?_⟩, ?_, blt_iff h3, blt_iff h4, ?_, d, hd, kindB_sound h6, ?_, dataB_sound h8⟩
      · intro ty hty
        rw [hty] at a5
        simp only [Bool.and_eq_true] at a5
        refine ⟨Nat.eq_of_beq_eq_true a5.1, fun w av => ?_⟩
        have a6 := a5.2
        split at a6
        · rename_i hz0
          obtain ⟨l, e, hl⟩ := zeroOff_sound ty hz0
          rw [List.append_nil] at e
          rw [e]; exact hl w av
        · cases a6
      · intro hagg
        rw [hagg] at h2
        exact Nat.eq_of_beq_eq_true (by simpa using h2)
      · intro ms e
        rw [hd] at e
        have := Option.some.inj e
        subst this
        simp [isIface] at h5
      · simpa using h7
    · cases h1
  · cases h

def TabOk (P : Program) : List (Nat × TI) → Prop
  | [] => True
  | (t, ti) :: r => tokB (P.info? t) (P.underlying t) ti = true ∧ TabOk P r
theorem TabOk.tok {P : Program} : ∀ {l : List (Nat × TI)}, TabOk P l → ∀ p ∈ l, TOk1 P p.1 p.2
  | [], _, p, hp => by simp at hp
  | (t, ti) :: r, h, p, hp => by
    rcases List.mem_cons.1 hp with rfl | hp
    · exact tokB_sound h.1
    · exact TabOk.tok h.2 p hp
def fnB (of : Option Func) : Bool := match of with
  | some fn => !(fn.name == "runtime.NumGoroutine") && !fn.body.isNone
  | none => false
def FnsOk (P : Program) : List (Nat × Sig) → Prop
  | [] => True
  | (f, _) :: r => fnB P.funcs[f]? = true ∧ FnsOk P r
theorem FnsOk.fns {P : Program} : ∀ {l : List (Nat × Sig)}, FnsOk P l → ∀ p ∈ l, ∃ fn, P.funcs[p.1]? = some fn ∧ (fn.name == "runtime.NumGoroutine") = false ∧ fn.body.isNone = false
  | [], _, p, hp => by simp at hp
  | (f, s) :: r, h, p, hp => by
    rcases List.mem_cons.1 hp with rfl | hp
    · have h1 := h.1
      unfold fnB at h1
      split at h1
      · rename_i fn hf
        simp only [Bool.and_eq_true, Bool.not_eq_true'] at h1
        exact ⟨fn, hf, h1.1, h1.2⟩
      · cases h1
    · exact FnsOk.fns h.2 p hp

/-- the environment of a seat -/
def envOf (P : Program) (tt : List (Nat × TI)) (ss : List (Nat × Sig)) (eqs : List Nat) : Env := ⟨P, fun t => lookT t tt, fun f => lookT f ss, eqs⟩
theorem envOf_ok {P : Program} {tt : List (Nat × TI)} {ss : List (Nat × Sig)} {eqs : List Nat} (ht : TabOk P tt) (hs : FnsOk P ss) (he : ∀ t ∈ eqs, EqOk P t (sizeT (fun t => lookT t tt) t)) (hm : P.follows .mixedOrders = true) : EOk (envOf P tt ss eqs) :=
  ⟨fun t ti h => ht.tok _ (lookT_mem h), he, hm, fun f s h => hs.fns _ (lookT_mem h)⟩

/-! ## Steps of a proof over an equation -/
theorem Br_d {p : Prop} [Decidable p] {A B : Prop} (ha : p → A) (hb : ¬ p → B) : Br (decide p) A B := by
  by_cases h : p
  · rw [decide_eq_true h]; exact ha h
  · rw [decide_eq_false h]; exact hb h
theorem Br_b {c : Bool} {A B : Prop} (ha : c = true → A) (hb : c = false → B) : Br c A B := by
  cases c
  · exact hb rfl
  · exact ha rfl
theorem Ck_d {p : Prop} [Decidable p] {K : Prop} (h : p) (k : K) : Ck (decide p) K := by rw [decide_eq_true h]; exact k
theorem Ck_b {b : Bool} {K : Prop} (h : b = true) (k : K) : Ck b K := by rw [h]; exact k
theorem wrap64 {n : Int} (h1 : -9223372036854775808 ≤ n) (h2 : n < 9223372036854775808) : IntKind.wrap .i64 n = n := by
  rw [IntKind.wrap_i64]
  omega

/-! ## from ShEq -/
def intT (P : Program) (t : Nat) : Bool := match P.underlying t with
  | some (.int _) => true
  | _ => false
theorem intT_iff {P : Program} {t : Nat} (h : intT P t = true) : ∃ k, P.underlying t = some (.int k) := by
  unfold intT at h
  split at h
  · exact ⟨_, by assumption⟩
  · cases h
theorem intT_plain {P : Program} {t : Nat} (h : intT P t = true) : P.plainKey t = true := by
  obtain ⟨k, hk⟩ := intT_iff h
  simp [Program.plainKey, hk]
def intFields (P : Program) : List Field → Nat → Bool
  | [], _ => true
  | f :: fs, off => ((f.name != "_") && Nat.beq f.offset off && intT P f.type) && intFields P fs (off + 1)
theorem drop_eq_iff {ns ms : List Int} {off : Nat} (h1 : off < ns.length) (h2 : off < ms.length) : decide (ns.drop off = ms.drop off) = (decide (ns[off] = ms[off]) && decide (ns.drop (off + 1) = ms.drop (off + 1))) := by
  rw [List.drop_eq_getElem_cons h1, List.drop_eq_getElem_cons h2, ← Bool.decide_and]
  exact decide_eq_decide.2 (by rw [List.cons.injEq])
theorem eqFields_ints {P : Program} (w : World) (d : Nat) {ns ms : List Int} : ∀ (fs : List Field) (off : Nat), intFields P fs off = true → ns.length = off + fs.length → ms.length = off + fs.length →
    (Op.eqFields (d + 1) (ns.map (Value.int .i64)).toArray (ms.map (Value.int .i64)).toArray fs).run P w = .ok (decide (ns.drop off = ms.drop off)) w
  | [], off, h, h1, h2 => by
    rw [List.drop_eq_nil_of_le (by simp at h1; omega), List.drop_eq_nil_of_le (by simp at h2; omega)]
    simp [Op.eqFields]
  | f :: fs, off, h, h1, h2 => by
    unfold intFields at h
    simp only [Bool.and_eq_true] at h
    obtain ⟨⟨⟨hname, hoff⟩, hint⟩, hrest⟩ := h
    have hoff := Nat.eq_of_beq_eq_true hoff
    have l1 : off < ns.length := by simp at h1; omega
    have l2 : off < ms.length := by simp at h2; omega
    obtain ⟨k, hk⟩ := intT_iff hint
    have g1 := run_part_plain w (intT_plain hint) (xs := (ns.map (Value.int .i64)).toArray) (off := f.offset) (v := .int .i64 ns[off]) (by subst hoff; simp [l1])
    have g2 := run_part_plain w (intT_plain hint) (xs := (ms.map (Value.int .i64)).toArray) (off := f.offset) (v := .int .i64 ms[off]) (by subst hoff; simp [l2])
    have ih := eqFields_ints (P := P) w d (ns := ns) (ms := ms) fs (off + 1) hrest (by simp at h1; omega) (by simp at h2; omega)
    have hne : f.name ≠ "_" := by simpa using hname
    rw [Op.eqFields, if_pos hne]
    simp only [Sem.run_bind, g1, g2, Result.andThen_ok, run_equalIn_int w d f.type .i64 k _ _ hk]
    rw [drop_eq_iff l1 l2]
    by_cases he : ns[off] = ms[off]
    · simp only [he, beq_self_eq_true, Bool.not_true, Bool.false_eq_true, if_false, decide_true, Bool.true_and]
      exact ih
    · simp [he]
theorem eqOk_struct {P : Program} {t : Nat} (hS : P.underlying t = some (.struct (P.fieldsOf t))) (hp : P.stoodInHeld t = false) (hm : P.eqGuardType P.depth t = false) (hf : intFields P (P.fieldsOf t).toList 0 = true) :
    EqOk P t (P.fieldsOf t).toList.length := by
  intro ns ms h1 h2 w
  refine ⟨?_, fun op x y => run_eqGuard_agg w op t x y _ _ hm⟩
  rw [show Op.equal t = Op.equalIn 10000 t from rfl, show (10000 : Nat) = 9998 + 1 + 1 from rfl, run_equalIn_struct w (9998 + 1) t _ _ hS hp]
  have := eqFields_ints (P := P) w 9998 (ns := ns) (ms := ms) (P.fieldsOf t).toList 0 hf (by omega) (by omega)
  simpa using this
theorem eqItems_ints {P : Program} (w : World) (d : Nat) {e : Nat} (he : intT P e = true) (hc : P.cellsOf e = 1) {ns ms : List Int} : ∀ (n off : Nat), ns.length = off + n → ms.length = off + n →
    (Op.eqItems (d + 1) e (P.cellsOf e) (ns.map (Value.int .i64)).toArray (ms.map (Value.int .i64)).toArray (List.range' off n)).run P w = .ok (decide (ns.drop off = ms.drop off)) w
  | 0, off, h1, h2 => by
    rw [List.drop_eq_nil_of_le (by omega), List.drop_eq_nil_of_le (by omega)]
    simp [Op.eqItems]
  | n + 1, off, h1, h2 => by
    have l1 : off < ns.length := by omega
    have l2 : off < ms.length := by omega
    obtain ⟨k, hk⟩ := intT_iff he
    have g1 := run_part_plain w (intT_plain he) (xs := (ns.map (Value.int .i64)).toArray) (off := off * P.cellsOf e) (v := .int .i64 ns[off]) (by rw [hc, Nat.mul_one]; simp [l1])
    have g2 := run_part_plain w (intT_plain he) (xs := (ms.map (Value.int .i64)).toArray) (off := off * P.cellsOf e) (v := .int .i64 ms[off]) (by rw [hc, Nat.mul_one]; simp [l2])
    have ih := eqItems_ints (P := P) w d he hc (ns := ns) (ms := ms) n (off + 1) (by omega) (by omega)
    rw [List.range'_succ, Op.eqItems]
    simp only [Sem.run_bind, g1, g2, Result.andThen_ok, run_equalIn_int w d e .i64 k _ _ hk]
    rw [drop_eq_iff l1 l2]
    by_cases he : ns[off] = ms[off]
    · simp only [he, beq_self_eq_true, Bool.not_true, Bool.false_eq_true, if_false, decide_true, Bool.true_and]
      exact ih
    · simp [he]
theorem eqOk_a {P : Program} {t n : Nat} (e : Nat) (hu : P.underlying t = some (.array n e)) (hs : (P.info? e).isSome = true) (he : intT P e = true) (hc : P.cellsOf e = 1) (hm : P.eqGuardType P.depth t = false) : EqOk P t n := by
  intro ns ms h1 h2 w
  obtain ⟨i, hi⟩ := Option.isSome_iff_exists.1 hs
  refine ⟨?_, fun op x y => run_eqGuard_agg w op t x y _ _ hm⟩
  rw [show Op.equal t = Op.equalIn 10000 t from rfl, show (10000 : Nat) = 9998 + 1 + 1 from rfl, run_equalIn_array w (9998 + 1) _ _ hu hi, List.range_eq_range']
  have := eqItems_ints (P := P) w 9998 he hc (ns := ns) (ms := ms) n 0 (by omega) (by omega)
  simpa using this
def EqsOk (P : Program) (sz : Nat → Nat) : List Nat → Prop
  | [] => True
  | t :: ts => EqOk P t (sz t) ∧ EqsOk P sz ts
theorem EqsOk.all {P : Program} {sz : Nat → Nat} : ∀ {l : List Nat}, EqsOk P sz l → ∀ t ∈ l, EqOk P t (sz t)
  | [], _, _, h => by cases h
  | t :: ts, ⟨h, hs⟩, u, hu => by
    rcases List.mem_cons.1 hu with rfl | hu
    · exact h
    · exact EqsOk.all hs u hu
theorem eqOk_s {P : Program} {t n : Nat} (hn : n = (P.fieldsOf t).toList.length) (hS : P.underlying t = some (.struct (P.fieldsOf t))) (hp : P.stoodInHeld t = false) (hm : P.eqGuardType P.depth t = false) (hf : intFields P (P.fieldsOf t).toList 0 = true) : EqOk P t n := by
  subst hn
  exact eqOk_struct hS hp hm hf

end Go.Proofs.Ytjoiadaogppmkaa.Sh
