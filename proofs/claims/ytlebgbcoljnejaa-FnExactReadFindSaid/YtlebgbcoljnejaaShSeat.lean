/- A seat's tables, checked by computing. -/
import Derived.Laws.BitsLemmas
import Derived.Test.YtlebgbcoljnejaaShCode
import Derived.Test.YtlebgbcoljnejaaShMono
namespace Go.Proofs.Ytlebgbcoljnejaa.Sh
open Go
set_option linter.unusedVariables false
set_option linter.unusedSimpArgs false

def lookT {α : Type} (k : Nat) : List (Nat × α) → Option α
  | [] => none
  | (a, x) :: r => match Nat.beq a k with | true => some x | false => lookT k r
theorem lookT_mem {α : Type} {k : Nat} {x : α} : ∀ {l : List (Nat × α)}, lookT k l = some x → (k, x) ∈ l
  | [], h => by simp [lookT] at h
  | (a, y) :: r, h => by
    simp only [lookT] at h
    split at h
    · rename_i e
      have := Nat.eq_of_beq_eq_true e
      cases h
      subst this
      simp
    · exact List.mem_cons_of_mem _ (lookT_mem h)

def constRelB : Cell → Value → Bool
  | .bool b, .bool b' => b == b'
  | .int k n, .int k' n' => decide (k = k') && decide (n = n')
  | .nil, .slice none 0 0 => true
  | .undef, .agg _ => false
  | .undef, .tuple _ => false
  | .undef, _ => true
  | _, _ => false
theorem constRelB_sound {c : Cell} {v : Value} (h : constRelB c v = true) : constRel c v := by
  unfold constRelB at h
  split at h
  · simp at h; subst h; rfl
  · simp at h; obtain ⟨rfl, rfl⟩ := h; rfl
  · rfl
  · cases h
  · cases h
  · rename_i h1 h2
    exact ⟨fun cs e => h1 _ e, fun vs e => h2 _ e⟩
  · cases h
def allRelB : List Cell → List Value → Bool
  | [], [] => true
  | c :: cs, v :: vs => constRelB c v && allRelB cs vs
  | _, _ => false
theorem allRelB_sound : ∀ {cs : List Cell} {vs : List Value}, allRelB cs vs = true → All2 constRel cs vs
  | [], [], _ => .nil
  | c :: cs, v :: vs, h => by
    simp only [allRelB, Bool.and_eq_true] at h
    exact .cons (constRelB_sound h.1) (allRelB_sound h.2)
  | [], _ :: _, h => by cases h
  | _ :: _, [], h => by cases h

/-- the cells of a type's zero, taken off a list -/
def zeroOff : Ty → List Value → Option (List Value)
  | .int k, .int k' n :: r => match decide (k = k') && decide (n = 0) with | true => some r | false => none
  | .bool, .bool b :: r => match b with | true => none | false => some r
  | .sl _, .slice none 0 0 :: r => some r
  | .pair a b, vs => match zeroOff a vs with | some r => zeroOff b r | none => none
  | _, _ => none
theorem zeroOff_sound : ∀ (t : Ty) {vs r : List Value}, zeroOff t vs = some r → ∃ l, vs = l ++ r ∧ ∀ w av, RD w av t t.zero l
  | .int k, vs, r, h => by
    cases vs with
    | nil => simp [zeroOff] at h
    | cons v vs =>
      cases v <;> simp only [zeroOff] at h <;> try cases h
      rename_i k' n
      split at h
      · rename_i e
        simp at e
        obtain ⟨rfl, rfl⟩ := e
        cases h
        exact ⟨[.int k 0], rfl, fun w av => rfl⟩
      · cases h
  | .bool, vs, r, h => by
    cases vs with
    | nil => simp [zeroOff] at h
    | cons v vs =>
      cases v <;> simp only [zeroOff] at h <;> try cases h
      rename_i b
      cases b
      · cases h; exact ⟨[.bool false], rfl, fun w av => rfl⟩
      · cases h
  | .sl a, vs, r, h => by
    unfold zeroOff at h
    split at h
    · rename_i e; cases e
    · rename_i e; cases e
    · cases h
      exact ⟨[.slice none 0 0], rfl, fun w av => ⟨none, 0, rfl, Nat.le_refl _, fun i x hx => by simp [Ty.zero] at hx⟩⟩
    · rename_i e; cases e
    · cases h
  | .pair a b, vs, r, h => by
    simp only [zeroOff] at h
    split at h
    · rename_i r1 h1
      obtain ⟨l1, e1, g1⟩ := zeroOff_sound a h1
      obtain ⟨l2, e2, g2⟩ := zeroOff_sound b h
      exact ⟨l1 ++ l2, by rw [e1, e2, List.append_assoc], fun w av => ⟨l1, l2, rfl, g1 w av, g2 w av⟩⟩
    · cases h

def fieldsB : List Field → List (Nat × Nat) → Bool
  | [], [] => true
  | f :: fs, p :: ps => Nat.beq f.offset p.1 && Nat.beq f.type p.2 && fieldsB fs ps
  | _, _ => false
theorem fieldsB_sound : ∀ {fs : List Field} {ps : List (Nat × Nat)}, fieldsB fs ps = true → fs.map (fun f => (f.offset, f.type)) = ps
  | [], [], _ => rfl
  | f :: fs, (a, b) :: ps, h => by
    simp only [fieldsB, Bool.and_eq_true] at h
    rw [List.map_cons, fieldsB_sound h.2, Nat.eq_of_beq_eq_true h.1.1, Nat.eq_of_beq_eq_true h.1.2]
  | [], _ :: _, h => by cases h
  | _ :: _, [], h => by cases h
def kindB : TK → TypeDesc → Bool
  | .struct ps, .struct fs => fieldsB fs.toList ps
  | .arr n e, .array n' e' => Nat.beq n n' && Nat.beq e e'
  | .slice e, .slice e' => Nat.beq e e'
  | .ptr e, .pointer e' => Nat.beq e e'
  | .cell, d => !isAggD d
  | .func, d => !isAggD d
  | _, _ => false
theorem kindB_sound {k : TK} {d : TypeDesc} (h : kindB k d = true) : kindOk k d := by
  cases k with
  | struct ps => cases d <;> simp only [kindB] at h <;> try cases h
                 exact ⟨_, rfl, fieldsB_sound h⟩
  | arr n e => cases d <;> simp only [kindB] at h <;> try cases h
               rw [Bool.and_eq_true] at h
               rw [kindOk, Nat.eq_of_beq_eq_true h.1, Nat.eq_of_beq_eq_true h.2]
  | slice e => cases d <;> simp only [kindB] at h <;> try cases h
               rw [kindOk, Nat.eq_of_beq_eq_true h]
  | ptr e => cases d <;> simp only [kindB] at h <;> try cases h
             rw [kindOk, Nat.eq_of_beq_eq_true h]
  | cell => simp only [kindB, Bool.not_eq_true'] at h; exact h
  | func => simp only [kindB, Bool.not_eq_true'] at h; exact h
def dataB : Option Ty → TypeDesc → Bool
  | some (.int k), .int k' => decide (k = k')
  | some (.int _), _ => false
  | some .bool, .bool => true
  | some .bool, _ => false
  | _, _ => true
theorem dataB_sound {o : Option Ty} {d : TypeDesc} (h : dataB o d = true) : (∀ k, o = some (.int k) → d = .int k) ∧ (o = some .bool → d = .bool) := by
  refine ⟨fun k e => ?_, fun e => ?_⟩
  · subst e
    cases d <;> simp only [dataB] at h <;> try cases h
    have := of_decide_eq_true h
    rw [this]
  · subst e
    cases d <;> simp only [dataB] at h <;> first | rfl | cases h
def isIface : TypeDesc → Bool
  | .interface _ => true
  | _ => false
def tokB (oi : Option TypeInfo) (od : Option TypeDesc) (ti : TI) : Bool :=
  match oi, od with
  | some i, some d => (match i.zero with
    | some z => Nat.beq i.size ti.size && Nat.beq i.bytes ti.bytes && allRelB ti.zero z.cells.toList && Nat.beq z.cells.size ti.size &&
        (match ti.ty with | some ty => Nat.beq ty.size ti.size && (match zeroOff ty z.cells.toList with | some [] => true | _ => false) | none => true)
    | none => false) && (ti.agg || Nat.beq ti.size 1) && Nat.blt 0 ti.size && Nat.blt 0 ti.bytes && !isIface d && kindB ti.kind d && (isAggD d == ti.agg) && dataB ti.ty d
  | _, _ => false
theorem tokB_sound {P : Program} {t : Nat} {ti : TI} (h : tokB (P.info? t) (P.underlying t) ti = true) : TOk1 P t ti := by
  unfold tokB at h
  split at h
  · rename_i i d hi hd
    simp only [Bool.and_eq_true] at h
    obtain ⟨⟨⟨⟨⟨⟨⟨h1, h2⟩, h3⟩, h4⟩, h5⟩, h6⟩, h7⟩, h8⟩ := h
    split at h1
    · rename_i z hz
      simp only [Bool.and_eq_true] at h1
      obtain ⟨⟨⟨⟨a1, a2⟩, a3⟩, a4⟩, a5⟩ := h1
      refine ⟨⟨i, z, hi, hz, Nat.eq_of_beq_eq_true a1, Nat.eq_of_beq_eq_true a2, allRelB_sound a3, Nat.eq_of_beq_eq_true a4, ?_⟩, ?_, blt_iff h3, blt_iff h4, ?_, d, hd, kindB_sound h6, ?_, dataB_sound h8⟩
      · intro ty hty
        rw [hty] at a5
        simp only [Bool.and_eq_true] at a5
        refine ⟨Nat.eq_of_beq_eq_true a5.1, fun w av => ?_⟩
        have a6 := a5.2
        split at a6
        · rename_i hz0
          obtain ⟨l, e, hl⟩ := zeroOff_sound ty hz0
          rw [List.append_nil] at e
          rw [e]; exact hl w av
        · cases a6
      · intro hagg
        rw [hagg] at h2
        exact Nat.eq_of_beq_eq_true (by simpa using h2)
      · intro ms e
        rw [hd] at e
        have := Option.some.inj e
        subst this
        simp [isIface] at h5
      · simpa using h7
    · cases h1
  · cases h

def TabOk (P : Program) : List (Nat × TI) → Prop
  | [] => True
  | (t, ti) :: r => tokB (P.info? t) (P.underlying t) ti = true ∧ TabOk P r
theorem TabOk.tok {P : Program} : ∀ {l : List (Nat × TI)}, TabOk P l → ∀ p ∈ l, TOk1 P p.1 p.2
  | [], _, p, hp => by simp at hp
  | (t, ti) :: r, h, p, hp => by
    rcases List.mem_cons.1 hp with rfl | hp
    · exact tokB_sound h.1
    · exact TabOk.tok h.2 p hp
def fnB (of : Option Func) : Bool := match of with
  | some fn => !(fn.name == "runtime.NumGoroutine") && !fn.body.isNone
  | none => false
def FnsOk (P : Program) : List (Nat × Sig) → Prop
  | [] => True
  | (f, _) :: r => fnB P.funcs[f]? = true ∧ FnsOk P r
theorem FnsOk.fns {P : Program} : ∀ {l : List (Nat × Sig)}, FnsOk P l → ∀ p ∈ l, ∃ fn, P.funcs[p.1]? = some fn ∧ (fn.name == "runtime.NumGoroutine") = false ∧ fn.body.isNone = false
  | [], _, p, hp => by simp at hp
  | (f, s) :: r, h, p, hp => by
    rcases List.mem_cons.1 hp with rfl | hp
    · have h1 := h.1
      unfold fnB at h1
      split at h1
      · rename_i fn hf
        simp only [Bool.and_eq_true, Bool.not_eq_true'] at h1
        exact ⟨fn, hf, h1.1, h1.2⟩
      · cases h1
    · exact FnsOk.fns h.2 p hp

/-- the environment of a seat -/
def envOf (P : Program) (tt : List (Nat × TI)) (ss : List (Nat × Sig)) (eqs : List Nat) : Env := ⟨P, fun t => lookT t tt, fun f => lookT f ss, eqs⟩
theorem envOf_ok {P : Program} {tt : List (Nat × TI)} {ss : List (Nat × Sig)} {eqs : List Nat} (ht : TabOk P tt) (hs : FnsOk P ss) (he : ∀ t ∈ eqs, EqOk P t (sizeT (fun t => lookT t tt) t)) (hm : P.follows .mixedOrders = true) : EOk (envOf P tt ss eqs) :=
  ⟨fun t ti h => ht.tok _ (lookT_mem h), he, hm, fun f s h => hs.fns _ (lookT_mem h)⟩

/-! ## Steps of a proof over an equation -/
theorem Br_d {p : Prop} [Decidable p] {A B : Prop} (ha : p → A) (hb : ¬ p → B) : Br (decide p) A B := by
  by_cases h : p
  · rw [decide_eq_true h]; exact ha h
  · rw [decide_eq_false h]; exact hb h
theorem Br_b {c : Bool} {A B : Prop} (ha : c = true → A) (hb : c = false → B) : Br c A B := by
  cases c
  · exact hb rfl
  · exact ha rfl
theorem Ck_d {p : Prop} [Decidable p] {K : Prop} (h : p) (k : K) : Ck (decide p) K := by rw [decide_eq_true h]; exact k
theorem Ck_b {b : Bool} {K : Prop} (h : b = true) (k : K) : Ck b K := by rw [h]; exact k
theorem wrap64 {n : Int} (h1 : -9223372036854775808 ≤ n) (h2 : n < 9223372036854775808) : IntKind.wrap .i64 n = n := by
  rw [IntKind.wrap_i64]
  omega

end Go.Proofs.Ytlebgbcoljnejaa.Sh
