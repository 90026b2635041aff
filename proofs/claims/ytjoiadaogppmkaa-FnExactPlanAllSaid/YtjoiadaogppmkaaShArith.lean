/- Arithmetic and comparisons; what an operand stands for. -/
import Derived.Laws.Cover3
import Derived.Laws.StructEq
import Derived.Test.YtjoiadaogppmkaaShOps2
namespace Go.Proofs.Ytjoiadaogppmkaa.Sh
open Go
set_option linter.unusedVariables false
set_option linter.unusedSimpArgs false

/-- Values of this type, all of whose cells are int, are compared cell by cell. -/
def EqOk (P : Program) (t n : Nat) : Prop := ∀ (ns ms : List Int), ns.length = n → ms.length = n → ∀ (w : World),
  (Op.equal t (.agg (ns.map (.int .i64)).toArray) (.agg (ms.map (.int .i64)).toArray)).run P w = .ok (decide (ns = ms)) w ∧
  ∀ op x y, (eqGuard op t x y (.agg (ns.map (.int .i64)).toArray) (.agg (ms.map (.int .i64)).toArray)).run P w = .ok () w

structure EOk (E : Env) : Prop where
  T : TOk E.P E.T
  eqs : ∀ t ∈ E.eqs, EqOk E.P t (sizeT E.T t)
  mixed : E.P.follows .mixedOrders = true
  fns : ∀ f s, E.sig f = some s → ∃ fn, E.P.funcs[f]? = some fn ∧ (fn.name == "runtime.NumGoroutine") = false ∧ fn.body.isNone = false

theorem constC_sound {v : Value} {c : Cell} (h : constC v = some c) : constRel c v := by
  unfold constC at h
  split at h <;> simp at h <;> subst h <;> simp [constRel]
theorem constCs_sound : ∀ {vs : List Value} {cs : List Cell}, constCs vs = some cs → All2 constRel cs vs
  | [], cs, h => by simp [constCs] at h; subst h; exact .nil
  | v :: vs, cs, h => by
    simp only [constCs] at h
    split at h
    · rename_i c cs' h1 h2
      simp at h; subst h
      exact .cons (constC_sound h1) (constCs_sound h2)
    · cases h
theorem constV_sound (v : Value) (w : World) (av : Nat → Prop) (ρ : Rho) (h : Heap) : RelV w av ρ h (constV v) v := by
  unfold constV
  split
  · rename_i cs
    split
    · rename_i l hl
      exact ⟨cs, rfl, constAll (constCs_sound hl) w av ρ h⟩
    · trivial
  · rename_i v' hne
    split
    · rename_i c hc
      exact (constC_sound hc).rel w av ρ h
    · trivial

theorem ev_sound {X : Ctx} {ρ : Rho} {σ : St} {a : Act} {w : World} (hF : RelF X ρ σ a w) (x : Operand) : RelV w (avs X.A ρ σ.h) ρ σ.h (ev σ x) (a.eval x) := by
  cases x with
  | tmp t => exact hF.m t
  | const v => exact constV_sound v _ _ _ _
  | global g => trivial
  | func f => exact ⟨#[], rfl, .nil⟩

theorem eqInts_sound : ∀ {a b : List Int} {r : Bool}, eqInts a b = some r → r = decide (a = b)
  | [], [], r, h => by simp [eqInts] at h; subst h; rfl
  | [x], [y], r, h => by simp [eqInts] at h; subst h; simp
  | [], _ :: _, r, h => by simp [eqInts] at h
  | [x], [], r, h => by simp [eqInts] at h
  | [x], y :: z :: s, r, h => by simp [eqInts] at h
  | x :: x' :: s, [], r, h => by simp [eqInts] at h
  | x :: x' :: s, [y], r, h => by simp [eqInts] at h
  | x :: x' :: s, y :: y' :: s', r, h => by
    simp only [eqInts] at h
    split at h
    · rename_i t e
      have := eqInts_sound (a := x' :: s) (b := y' :: s') e
      simp at h; subst h
      subst this
      by_cases h1 : x = y <;> simp [h1]
    · cases h

theorem eqGuard_other {P : Program} {op : BinOp} {t : Nat} {x y : Operand} {a b : Value} (ha : ∀ cs, a ≠ .agg cs) (hn : a ≠ .nilIface) (w : World) : (eqGuard op t x y a b).run P w = .ok () w := by
  unfold eqGuard
  by_cases h : op = .eql ∨ op = .neq
  · rcases h with rfl | rfl <;> simp <;> split <;> simp_all
  · cases op <;> first | (exact absurd (.inl rfl) h) | (exact absurd (.inr rfl) h) | rfl

theorem arithK_sound {P : Program} {op : BinOp} {t : Nat} {k : IntKind} {n m : Int} {K : V → Prop} (hK : arithK op k n m K) {w : World} {av : Nat → Prop} {ρ : Rho} {h : Heap} :
    ∃ y v, K y ∧ (∀ w', (binOp op t (.int k n) (.int k m)).run P w' = .ok v w') ∧ RelV w av ρ h y v := by
  cases op <;> simp only [arithK] at hK <;> try exact hK.elim
  case add => exact ⟨_, _, hK, fun w' => by simp [binOp, Op.intArith], rfl⟩
  case sub => exact ⟨_, _, hK, fun w' => by simp [binOp, Op.intArith], rfl⟩
  case mul => exact ⟨_, _, hK, fun w' => by simp [binOp, Op.intArith], rfl⟩
  case quo =>
    obtain ⟨h1, hK1⟩ := Ck_iff hK
    have hne : m ≠ 0 := by simpa using h1
    exact ⟨_, _, hK1, fun w' => by simp [binOp, Op.intDiv, hne], rfl⟩
  case rem =>
    obtain ⟨h1, hK1⟩ := Ck_iff hK
    have hne : m ≠ 0 := by simpa using h1
    exact ⟨_, _, hK1, fun w' => by simp [binOp, Op.intDiv, hne], rfl⟩
  case eql => exact ⟨_, _, hK, fun w' => by simp [binOp, Op.intCmp]; rfl, rfl⟩
  case neq => exact ⟨_, _, hK, fun w' => by simp [binOp, Op.intCmp]; rfl, rfl⟩
  case xor => exact ⟨_, _, hK, fun w' => by simp [binOp, Op.intBits, xorI], rfl⟩
  case shr =>
    obtain ⟨h1, hK1⟩ := Ck_iff hK
    rw [Bool.and_eq_true, decide_eq_true_iff, decide_eq_true_iff] at h1
    exact ⟨_, _, hK1, fun w' => by rw [binOp_shr, shift_shr _ _ _ _ h1.1 (by omega)]; rfl, rfl⟩
  case and => exact ⟨_, _, hK, fun w' => by simp [binOp, Op.intBits, andI], rfl⟩
  case lss => exact ⟨_, _, hK, fun w' => by simp [binOp, Op.intCmp], rfl⟩
  case leq => exact ⟨_, _, hK, fun w' => by simp [binOp, Op.intCmp], rfl⟩
  case gtr => exact ⟨_, _, hK, fun w' => by simp [binOp, Op.intCmp], rfl⟩
  case geq => exact ⟨_, _, hK, fun w' => by simp [binOp, Op.intCmp], rfl⟩

theorem nilK_sound {P : Program} {t e : Nat} (hd : P.underlying t = some (.slice e)) {w : World} {av : Nat → Prop} {ρ : Rho} {h : Heap} {c : Cell} {K : Bool → Prop} (hK : nilK h c K) {u : Value} (hc : RelC w av ρ h c u) :
    ∃ b, K b ∧ ∀ w', (Op.equal t u (.slice none 0 0)).run P w' = .ok b w' := by
  have hrun : ∀ ad n cp w', (Op.equal t (.slice ad n cp) (.slice none 0 0)).run P w' = .ok ad.isNone w' := by
    intro ad n cp w'
    exact run_equal_slice_nil w' t e ad n cp hd
  cases c <;> simp only [nilK, lenC] at hK <;> try exact hK.elim
  case nil =>
    simp only [RelC] at hc; subst hc
    exact ⟨true, hK, hrun none 0 0⟩
  case ro t' l =>
    obtain ⟨ad, cp, e1, hcp, hx⟩ := hc
    simp at e1; subst e1
    refine ⟨ad.isNone, hK _ (fun h0 => ?_), hrun ad _ cp⟩
    obtain ⟨r, o, cs, e2, _⟩ := hx 0 _ (getD_some t'.zero (blt_iff h0))
    rw [e2]; rfl
  case sl b wn =>
    obtain ⟨t', l, s, o, n, ad, cp, hb, hw, ho, e1, hn, hcp⟩ := hc
    subst e1
    have key : ∃ n', lenC h (.sl b wn) = some n' ∧ n' = n := by
      cases wn with
      | none => simp at hw; simp [lenC, hb]; omega
      | some p => obtain ⟨o2, n2⟩ := p; simp at hw; simp [lenC]; omega
    obtain ⟨n', h1, rfl⟩ := key
    have hK' : ∀ b', (Nat.blt 0 n' = true → b' = false) → K b' := by
      have h2 := h1
      cases wn with
      | none => simp only [lenC, hb] at h2; simp only [hb] at hK; injection h2 with h2; rw [← h2]; exact hK
      | some p => obtain ⟨o2, n2⟩ := p; simp only [lenC] at h2; injection h2 with h2; rw [← h2]; exact hK
    refine ⟨ad.isNone, hK' _ (fun h0 => ?_), hrun ad _ cp⟩
    have := blt_iff h0
    rcases hcp with hcp | ⟨r, base, cs, e2, fz, h4, h5, h6, h7⟩
    · omega
    · rw [h5]; rfl

theorem binK_sound {E : Env} (hE : EOk E) {w : World} {av : Nat → Prop} {ρ : Rho} {h : Heap} {op : BinOp} {xt : Nat} {x y : V} {K : V → Prop} (hK : binK E.T E.eqs h op xt x y K) {ox oy : Operand} {u v : Value} (hx : RelV w av ρ h x u) (hy : RelV w av ρ h y v) :
    ∃ z r, K z ∧ (∀ w', (do eqGuard op xt ox oy u v; binOp op xt u v : Sem Value).run E.P w' = .ok r w') ∧ RelV w av ρ h z r := by
  unfold binK at hK
  split at hK
  · rename_i k n k' m
    simp only [RelV, RelW, RelC] at hx hy
    subst hx; subst hy
    split at hK
    · rename_i hk
      have hk := of_decide_eq_true hk
      subst hk
      obtain ⟨z, r, h1, h2, h3⟩ := arithK_sound (P := E.P) (t := xt) hK (w := w) (av := av) (ρ := ρ) (h := h)
      refine ⟨z, r, h1, fun w' => ?_, h3⟩
      rw [Sem.run_bind, eqGuard_other (by simp) (by simp)]
      exact h2 w'
    · exact hK.elim
  · rename_i a b
    simp only [RelV, RelW, RelC] at hx hy
    subst hx; subst hy
    obtain ⟨h1, hK1⟩ := Ck_iff hK
    obtain ⟨ti, hti, hty⟩ := tyOf_some (of_decide_eq_true h1)
    obtain ⟨d, hd, _, _, _, hb⟩ := (hE.T _ _ hti).desc
    have hb := hb hty
    subst hb
    have hrun : ∀ w', (Op.equal xt (.bool a) (.bool b)).run E.P w' = .ok (a == b) w' := fun w' => run_equal_bool w' xt a b hd
    cases op <;> simp only at hK1 <;> try exact hK1.elim
    · refine ⟨_, _, hK1, fun w' => ?_, rfl⟩
      rw [Sem.run_bind, eqGuard_other (by simp) (by simp)]
      simp [binOp, hrun]
    · refine ⟨_, .bool (a != b), hK1, fun w' => ?_, rfl⟩
      rw [Sem.run_bind, eqGuard_other (by simp) (by simp)]
      simp [binOp, hrun, bne]
  · rename_i xs ys
    obtain ⟨h1, hK1⟩ := Ck_iff hK
    simp only [Bool.and_eq_true] at h1
    obtain ⟨⟨hin, hl1⟩, hl2⟩ := h1
    have hl1 := beq_iff hl1
    have hl2 := beq_iff hl2
    have heq := hE.eqs xt ((inL_iff _ _).1 hin)
    obtain ⟨ax, rfl, hax⟩ := hx
    obtain ⟨ay, rfl, hay⟩ := hy
    have key : ∀ t', eqAgg xs ys = some t' → ∃ ns ms : List Int, ax = (ns.map (.int .i64)).toArray ∧ ay = (ms.map (.int .i64)).toArray ∧ ns.length = sizeT E.T xt ∧ ms.length = sizeT E.T xt ∧ t' = decide (ns = ms) := by
      intro t' ht
      unfold eqAgg at ht
      split at ht
      · rename_i ns ms e1 e2
        have v1 := homC_sound e1 hax
        have v2 := homC_sound e2 hay
        have g1 := hax.length
        have g2 := hay.length
        rw [v1] at g1
        rw [v2] at g2
        simp at g1 g2
        exact ⟨ns, ms, by rw [← v1], by rw [← v2], by omega, by omega, eqInts_sound ht⟩
      · cases ht
    split at hK1
    · rename_i t' e1
      obtain ⟨ns, ms, rfl, rfl, n1, n2, rfl⟩ := key _ e1
      refine ⟨_, _, hK1, fun w' => ?_, rfl⟩
      obtain ⟨q1, q2⟩ := heq ns ms n1 n2 w'
      rw [Sem.run_bind, q2]
      simp [binOp, q1]
    · rename_i t' e1
      obtain ⟨ns, ms, rfl, rfl, n1, n2, rfl⟩ := key _ e1
      refine ⟨_, .bool (!decide (ns = ms)), hK1, fun w' => ?_, rfl⟩
      obtain ⟨q1, q2⟩ := heq ns ms n1 n2 w'
      rw [Sem.run_bind, q2]
      simp [binOp, q1]
    · exact hK1.elim
  · rename_i c _
    simp only [RelV, RelW] at hx
    have hy' : v = .slice none 0 0 := hy
    subst hy'
    split at hK
    · rename_i e _ _ _ _ _ hs
      obtain ⟨d, hd, hk, _⟩ := (hE.T _ _ hs).desc
      have hk : d = .slice e := hk
      subst hk
      have hone := RelC.one hx
      have hbo : ∀ op, (binOp op xt u (.slice none 0 0) : Sem Value) = (match op with | .eql => do pure (.bool (← Op.equal xt u (.slice none 0 0))) | .neq => do pure (.bool (!(← Op.equal xt u (.slice none 0 0)))) | _ => binOp op xt u (.slice none 0 0)) := by
        intro op
        cases op <;> first | rfl | (cases u <;> rfl)
      have hg : ∀ w', (eqGuard op xt ox oy u (.slice none 0 0)).run E.P w' = .ok () w' := by
        intro w'
        unfold eqGuard
        cases op <;> first | rfl | (cases u <;> rfl)
      split at hK
      · obtain ⟨b, h1, h2⟩ := nilK_sound (P := E.P) hd hK hx
        refine ⟨_, _, h1, fun w' => ?_, rfl⟩
        rw [Sem.run_bind, hg, hbo]
        simp [h2]
      · obtain ⟨b, h1, h2⟩ := nilK_sound (P := E.P) hd hK hx
        refine ⟨_, .bool (!b), h1, fun w' => ?_, rfl⟩
        rw [Sem.run_bind, hg, hbo]
        simp [h2]
      · exact hK.elim
    · exact hK.elim
  · exact hK.elim

theorem unK_sound {P : Program} {w : World} {av : Nat → Prop} {ρ : Rho} {h : Heap} {op : UnOp} {x : V} {K : V → Prop} (hK : unK op x K) {u : Value} (hx : RelV w av ρ h x u) :
    ∃ y v, K y ∧ (∀ w', (Op.unary op u).run P w' = .ok v w') ∧ RelV w av ρ h y v := by
  unfold unK at hK
  split at hK
  · simp only [RelV, RelW, RelC] at hx
    subst hx
    exact ⟨_, _, hK, fun w' => rfl, rfl⟩
  · simp only [RelV, RelW, RelC] at hx
    subst hx
    exact ⟨_, _, hK, fun w' => rfl, rfl⟩
  · exact hK.elim

end Go.Proofs.Ytjoiadaogppmkaa.Sh
