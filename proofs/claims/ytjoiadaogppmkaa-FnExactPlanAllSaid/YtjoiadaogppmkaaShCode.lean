/- Codes and whole functions: what the small machine shows holds of the model's. -/
import Derived.Test.YtjoiadaogppmkaaShCut
namespace Go.Proofs.Ytjoiadaogppmkaa.Sh
open Go
set_option linter.unusedVariables false
set_option linter.unusedSimpArgs false

/-- what a region's text must meet -/
def regOk (H : Hint) (N id : Nat) (ops : List Oper) (dr : Bool) : Bool :=
  ops.all (fun o => match o.dst with | some d => Nat.blt d N | none => true) &&
  (match dr with
   | true => (match forkOf id H.forks with
     | some t => ops.all notSel && treeOk (inL id H.loose) ops [] t && Nat.ble t.depth ops.length
     | none => (match ordOf id H.ord with
       | some l => ops.all notSel && orderOk (inL id H.loose) ops [] l && Nat.ble l.length ops.length
       | none => false))
   | false => (match forkOf id H.forks with
     | some _ => false
     | none => (match ordOf id H.ord with | some _ => false | none => true)))
def codeOk (H : Hint) (N : Nat) : Code → Bool
  | .region id ops dr => regOk H N id ops.toList dr
  | .seq a b => codeOk H N a && codeOk H N b
  | .cond _ a b => codeOk H N a && codeOk H N b
  | .block _ c => codeOk H N c
  | .loop c => codeOk H N c
  | _ => true

def toExit : Ex → Go.Exit
  | .normal => .normal
  | .exit id => .exit id
  | .ret => .ret

/-- from a loop's body on -/
def InLoop (P : Program) (c : Code) (Q : Go.Exit → Act → World → Prop) (a : Act) (w : World) : Prop :=
  ∀ (b : Go.Frame) (k : List Item) (cs : List Go.Frame), ∃ e a' w', Q e a' w' ∧ Arrives P (lone (b.at a (.code c :: .inLoop c :: k)) cs w) b k cs e a' w'
theorem inLoop_round {P : Program} {c : Code} {Q : Go.Exit → Act → World → Prop} {a : Act} {w : World} (h : c.wp P (Exit.then (InLoop P c Q) Q) a w) : InLoop P c Q a w := by
  intro b k cs
  obtain ⟨e, a₁, w₁, hq, harr⟩ := h b (.inLoop c :: k) cs
  have out : e ≠ .normal → Q e a₁ w₁ → ∃ e a' w', Q e a' w' ∧ Arrives P (lone (b.at a (.code c :: .inLoop c :: k)) cs w) b k cs e a' w' := by
    intro hne hq'
    cases e with
    | normal => exact absurd rfl hne
    | _ => exact ⟨_, a₁, w₁, hq', .pass (x := .inLoop c) rfl (fun _ _ => .inl (by simp)) harr⟩
  cases e with
  | normal =>
    obtain ⟨e₂, a₂, w₂, hq₂, harr₂⟩ := hq b k cs
    exact ⟨e₂, a₂, w₂, hq₂, .of_steps (Steps.trans harr (.one step_inLoop)) harr₂⟩
  | _ => exact out (by simp) hq
theorem wp_of_inLoop {P : Program} {c : Code} {Q : Go.Exit → Act → World → Prop} {a : Act} {w : World} (h : InLoop P c Q a w) : (Code.loop c).wp P Q a w :=
  fun b k cs => let ⟨e, a', w', hq, harr⟩ := h b k cs; ⟨e, a', w', hq, .of_steps (.one step_loop) harr⟩

theorem swp_sound {E : Env} (hE : EOk E) {n : Nat} {H : Hint} {X : Ctx} (hX : X.n = n) {N : Nat} (hN : N ≤ X.N) : ∀ (c : Code) (k : Nat) (q : Q) (Q : Go.Exit → Act → World → Prop) (σ : St) (ρ : Rho) (a : Act) (w : World),
    codeOk H N c = true → swp E n H k c q σ → RelF X ρ σ a w → (∀ e σ' ρ' a' w', q e σ' → RelF X ρ' σ' a' w' → Q (toExit e) a' w') → (∀ ch a w, ¬ Q (.panic ch) a w) → c.wp E.P Q a w := by
  intro c
  induction c with
  | skip => intro k q Q σ ρ a w _ h hF hQ _; exact wp_skip (hQ .normal σ ρ a w h hF)
  | exit id => intro k q Q σ ρ a w _ h hF hQ _; exact wp_exit (hQ (.exit id) σ ρ a w h hF)
  | ret => intro k q Q σ ρ a w _ h hF hQ _; exact wp_ret (hQ .ret σ ρ a w h hF)
  | region id ops dr =>
    intro k q Q σ ρ a w hok h hF hQ hp
    simp only [swp] at h
    simp only [codeOk, regOk, Bool.and_eq_true] at hok
    obtain ⟨hd, hord⟩ := hok
    have hdst : ∀ o ∈ ops.toList, ∀ k, o.dst = some k → k < X.N := by
      intro o ho k hk
      have := List.all_eq_true.1 hd o ho
      rw [hk] at this
      exact Nat.lt_of_lt_of_le (blt_iff this) hN
    have hcut : ∃ ρ', RelF X ρ' (match cutOf id H.cut with | some lv => cutAt n lv σ | none => σ) a w := by
      split
      · exact cutAt_sound hX hF _
      · exact ⟨ρ, hF⟩
    obtain ⟨ρ', hF'⟩ := hcut
    have hn : ∀ σ' ρ' a' w', q .normal σ' → RelF X ρ' σ' a' w' → Q .normal a' w' := fun σ' ρ' a' w' h1 h2 => hQ .normal σ' ρ' a' w' h1 h2
    cases dr with
    | true =>
      simp only at hord
      unfold regK at h
      cases hf : forkOf id H.forks with
      | some t =>
        rw [hf] at hord h
        simp only [Bool.and_eq_true] at hord
        exact wp_tree hE hdst hord.1.1 hord.1.2 (by have := ble_iff hord.2; simpa using this) hp hn hF' h
      | none =>
        rw [hf] at hord h
        simp only at hord h
        unfold inOrder at h
        cases ho : ordOf id H.ord with
        | none => rw [ho] at hord; cases hord
        | some l =>
          rw [ho] at hord h
          simp only [Bool.and_eq_true] at hord
          exact wp_draw hE hdst hord.1.1 hord.1.2 (by have := ble_iff hord.2; simpa using this) hp hn hF' h
    | false =>
      simp only at hord
      unfold regK at h
      cases hf : forkOf id H.forks with
      | some t => rw [hf] at hord; cases hord
      | none =>
        rw [hf] at hord h
        simp only at hord h
        unfold inOrder at h
        cases ho : ordOf id H.ord with
        | some l => rw [ho] at hord; cases hord
        | none =>
          rw [ho] at h
          exact wp_plain hE hdst hn hF' h
  | seq x y ihx ihy =>
    intro k q Q σ ρ a w hok h hF hQ hp
    simp only [codeOk, Bool.and_eq_true] at hok
    refine wp_seq (ihx k _ _ σ ρ a w hok.1 h hF ?_ (fun ch a w => hp ch a w))
    intro e σ' ρ' a' w' he hF'
    cases e with
    | normal => exact ihy _ _ _ σ' ρ' a' w' hok.2 he hF' hQ hp
    | exit id => exact hQ (.exit id) _ _ _ _ he hF'
    | ret => exact hQ .ret _ _ _ _ he hF'
  | cond c x y ihx ihy =>
    intro k q Q σ ρ a w hok h hF hQ hp
    simp only [codeOk, Bool.and_eq_true] at hok
    simp only [swp] at h
    split at h
    · rename_i t ht
      have hv := ev_sound hF c
      rw [ht] at hv
      have hv' : a.eval c = .bool t := hv
      refine wp_cond hv' ?_
      cases t with
      | true => exact ihx _ _ _ _ _ _ _ hok.1 h hF hQ hp
      | false => exact ihy _ _ _ _ _ _ _ hok.2 h hF hQ hp
    · exact h.elim
  | block id c ih =>
    intro k q Q σ ρ a w hok h hF hQ hp
    refine wp_block (ih k _ _ σ ρ a w hok h hF ?_ (fun ch a w => hp ch a w))
    intro e σ' ρ' a' w' he hF'
    cases e with
    | normal => exact hQ .normal _ _ _ _ he hF'
    | ret => exact hQ .ret _ _ _ _ he hF'
    | exit id' =>
      simp only [blockK] at he
      simp only [toExit, Exit.inBlock]
      by_cases hid : id' = id
      · subst hid
        simp at he
        rw [if_pos rfl]
        exact hQ .normal _ _ _ _ he hF'
      · have hb : Nat.beq id' id = false := by
          cases hb : Nat.beq id' id with
          | false => rfl
          | true => exact absurd (Nat.eq_of_beq_eq_true hb) hid
        rw [hb] at he
        rw [if_neg hid]
        exact hQ (.exit id') _ _ _ _ he hF'
  | loop c ih =>
    intro k q Q σ ρ a w hok h hF hQ hp
    obtain ⟨ρ', hF'⟩ := cutAt_sound hX hF (H.live.getD k [])
    refine wp_of_inLoop (h (fun σ => ∀ ρ a w, RelF X ρ σ a w → InLoop E.P c Q a w) ?_ ρ' a w hF')
    intro σ1 hround ρ1 a1 w1 hF1
    refine inLoop_round (ih (k + 1) _ _ σ1 ρ1 a1 w1 hok hround hF1 ?_ (fun ch a w => hp ch a w))
    intro e σ' ρ' a' w' he hF'
    cases e with
    | normal =>
      obtain ⟨ρ2, hF2⟩ := cutAt_sound hX hF' (H.live.getD k [])
      exact he ρ2 a' w' hF2
    | exit id => exact hQ (.exit id) _ _ _ _ he hF'
    | ret => exact hQ .ret _ _ _ _ he hF'
  | _ => intro k q Q σ ρ a w _ h _ _ _; exact h.elim

/-! ## What a function hands back -/
theorem loadVar_of {P : Program} {t : Nat} {u v : Value} {w : World} (h : (Instr.loadAt t u).run P w = .ok v w) : (do loadVar t (← asAddr u) : Sem Value).run P w = .ok v w := by
  unfold Instr.loadAt at h
  cases u with
  | pointer a =>
    cases a with
    | none => simp [Instr.sureAddr] at h
    | some a => simpa [Instr.sureAddr, asAddr] using h
  | _ => simp [Instr.sureAddr] at h

def resAt (tmps : Array Value) : ResultVar → Sem Value
  | .tmp t => pure (tmps.getD t undef)
  | .cell a t => do loadVar t (← asAddr (tmps.getD a undef))

theorem resultsK_sound {P : Program} {T : Nat → Option TI} (hT : TOk P T) {X : Ctx} {ρ : Rho} {σ : St} {a : Act} {w : World} (hF : RelF X ρ σ a w) : ∀ (rs : List ResultVar) {K : List W → Prop}, resultsK T σ rs K →
    ∃ ws vs, K ws ∧ (rs.mapM (resAt a.tmps)).run P w = .ok vs w ∧ All2 (RelW w (avs X.A ρ σ.h) ρ σ.h) ws vs
  | [], K, h => ⟨[], [], h, by simp, .nil⟩
  | .tmp t :: r, K, h => by
    simp only [resultsK] at h
    split at h
    · rename_i x hx
      obtain ⟨ws, vs, h1, h2, h3⟩ := resultsK_sound hT hF r h
      have hr := asW_rel hx (hF.m t)
      refine ⟨x :: ws, _ :: vs, h1, ?_, .cons hr h3⟩
      rw [List.mapM_cons]
      simp only [resAt, Sem.run_bind, Sem.run_pure, Result.andThen_ok, h2]
    · exact h.elim
  | .cell s ty :: r, K, h => by
    simp only [resultsK] at h
    split at h
    · rename_i c hc
      obtain ⟨y, v, g1, g2, g3⟩ := loadK_sound hT hF.H h (asC_rel hc (hF.m s))
      obtain ⟨ws, vs, h1, h2, h3⟩ := resultsK_sound hT hF r g1
      refine ⟨y :: ws, v :: vs, h1, ?_, .cons g3 h3⟩
      rw [List.mapM_cons]
      have := loadVar_of (g2 w (Mono.refl w))
      rw [Sem.run_bind]
      have e : (resAt a.tmps (.cell s ty)).run P w = .ok v w := this
      rw [e]
      simp only [Sem.run_bind, Sem.run_pure, Result.andThen_ok, h2]
    · exact h.elim

theorem run_results {P : Program} {fn : Func} {tmps : Array Value} {w : World} {vs : List Value} (h : (fn.results.toList.mapM (resAt tmps)).run P w = .ok vs w) :
    (results fn tmps).run P w = .ok (match vs with | [v] => v | vs => .tuple vs.toArray) w := by
  have e : results fn tmps = (do let vs ← fn.results.mapM (resAt tmps); pure (if h : vs.size = 1 then vs[0] else .tuple vs) : Sem Value) := by
    unfold results
    congr 1
  rw [e, Array.mapM_eq_mapM_toList]
  simp only [map_eq_pure_bind, bind_assoc, pure_bind, Sem.run_bind, h, Result.andThen_ok, Sem.run_pure]
  match vs with
  | [] => rfl
  | [v] => rfl
  | v :: u :: r => simp

theorem argsM_get : ∀ (ws : List W) (i t : Nat), getM (argsM i ws) t = if i ≤ t then (match ws[t - i]? with | some x => .w x | none => .any) else .any
  | [], i, t => by simp [argsM, getM]; rfl
  | x :: r, i, t => by
    simp only [argsM, getM_put, argsM_get r (i + 1) t]
    by_cases e : i = t
    · subst e; simp
    · rw [if_neg e]
      by_cases h : i ≤ t
      · rw [if_pos h, if_pos (by omega)]
        have : t - i = (t - (i + 1)) + 1 := by omega
        rw [this]; rfl
      · rw [if_neg h, if_neg (by omega)]

theorem RelW.pushNone {w : World} {A : Nat → Prop} {ρ : Rho} {h : Heap} {t : Ty} {s : RS} {c : W} {v : Value} (hc : RelW w (avs A ρ h) ρ h c v) :
    RelW w (avs A (rhoPut ρ h.length none) (h ++ [.row t [] s])) (rhoPut ρ h.length none) (h ++ [.row t [] s]) c v := RelV.pushNone (c := .w c) hc

/-- What stays true of other values while results are brought into their forms. -/
def Keeps (X : Ctx) (w : World) (ρ : Rho) (h : Heap) (ρ' : Rho) (h' : Heap) : Prop := ∀ (x : W) (v : Value), RelW w (avs X.A ρ h) ρ h x v → RelW w (avs X.A ρ' h') ρ' h' x v

theorem coerceC_sound {X : Ctx} {ρ : Rho} {m : List (Nat × V)} {h : Heap} {a : Act} {w : World} (hF : RelF X ρ ⟨m, h⟩ a w) {p : CP} {c c' : Cell} {h' : Heap} {v : Value} (hc : RelC w (avs X.A ρ h) ρ h c v) (he : coerceC p h c = (c', h')) :
    ∃ ρ', RelF X ρ' ⟨m, h'⟩ a w ∧ RelC w (avs X.A ρ' h') ρ' h' c' v ∧ Keeps X w ρ h ρ' h' := by
  cases p with
  | c t =>
    simp only [coerceC] at he
    obtain ⟨h1, h2, bs, rfl⟩ := absorbC_sound hF hc he
    exact ⟨ρ, h1, h2, fun x u hx => RelW.freezeAll bs hx⟩
  | own t =>
    simp only [coerceC] at he
    split at he
    · obtain ⟨rfl, rfl⟩ := Prod.mk.inj he
      refine ⟨_, hF.pushNone t .own (by simp) rfl, ?_, fun x u hx => RelW.pushNone hx⟩
      have hv : v = .slice none 0 0 := hc
      subst hv
      exact ⟨t, [], .own, 0, 0, none, 0, by simp, rfl, Nat.le_refl _, rfl, Nat.le_refl _, .inl rfl⟩
    · obtain ⟨rfl, rfl⟩ := Prod.mk.inj he
      exact ⟨ρ, hF, hc, fun x u hx => hx⟩
  | bx t =>
    simp only [coerceC] at he
    obtain ⟨rfl, rfl⟩ := Prod.mk.inj he
    exact ⟨ρ, hF, hc, fun x u hx => hx⟩
  | sub j =>
    simp only [coerceC] at he
    split at he
    · rename_i b
      split at he
      · rename_i t l s hb
        obtain ⟨rfl, rfl⟩ := Prod.mk.inj he
        refine ⟨ρ, hF, ?_, fun x u hx => hx⟩
        obtain ⟨t', l', s', o, n, ad, c, g1, g2, g3⟩ := hc
        rw [hb] at g1
        cases g1
        exact ⟨t, l, s, o, n, ad, c, hb, g2, g3⟩
      · obtain ⟨rfl, rfl⟩ := Prod.mk.inj he
        exact ⟨ρ, hF, hc, fun x u hx => hx⟩
    · obtain ⟨rfl, rfl⟩ := Prod.mk.inj he
      exact ⟨ρ, hF, hc, fun x u hx => hx⟩

theorem coerceCs_sound {X : Ctx} {m : List (Nat × V)} {a : Act} {w : World} : ∀ {ps : List CP} {cs cs' : List Cell} {h h' : Heap} {ρ : Rho} {vs : List Value}, RelF X ρ ⟨m, h⟩ a w → All2 (RelC w (avs X.A ρ h) ρ h) cs vs → coerceCs ps cs h = (cs', h') →
    ∃ ρ', RelF X ρ' ⟨m, h'⟩ a w ∧ All2 (RelC w (avs X.A ρ' h') ρ' h') cs' vs ∧ Keeps X w ρ h ρ' h'
  | [], cs, cs', h, h', ρ, vs, hF, ha, he => by
    simp only [coerceCs] at he
    obtain ⟨rfl, rfl⟩ := Prod.mk.inj he
    exact ⟨ρ, hF, ha, fun x u hx => hx⟩
  | p :: ps, [], cs', h, h', ρ, vs, hF, ha, he => by
    simp only [coerceCs] at he
    obtain ⟨rfl, rfl⟩ := Prod.mk.inj he
    exact ⟨ρ, hF, ha, fun x u hx => hx⟩
  | p :: ps, c :: cs, cs', h, h', ρ, vs, hF, ha, he => by
    simp only [coerceCs] at he
    generalize e1 : coerceC p h c = p1 at he
    obtain ⟨c1, g1⟩ := p1
    dsimp only at he
    generalize e2 : coerceCs ps cs g1 = p2 at he
    obtain ⟨cs1, g2⟩ := p2
    obtain ⟨rfl, rfl⟩ := Prod.mk.inj he
    cases ha with
    | cons h1 h2 =>
      obtain ⟨ρ1, k1, k2, k3⟩ := coerceC_sound hF h1 e1
      obtain ⟨ρ2, j1, j2, j3⟩ := coerceCs_sound k1 (h2.mono fun c v _ hc => (k3 (.one c) v hc : RelW _ _ _ _ (.one c) v)) e2
      exact ⟨ρ2, j1, .cons (j3 (.one c1) _ k2) j2, fun x u hx => j3 x u (k3 x u hx)⟩

theorem coerceW_sound {X : Ctx} {ρ : Rho} {m : List (Nat × V)} {h : Heap} {a : Act} {w : World} (hF : RelF X ρ ⟨m, h⟩ a w) {p : RP} {x x' : W} {h' : Heap} {v : Value} (hx : RelW w (avs X.A ρ h) ρ h x v) (he : coerceW p x h = (x', h')) :
    ∃ ρ', RelF X ρ' ⟨m, h'⟩ a w ∧ RelW w (avs X.A ρ' h') ρ' h' x' v ∧ Keeps X w ρ h ρ' h' := by
  unfold coerceW at he
  split at he
  · rename_i p c
    generalize e1 : coerceC p h c = p1 at he
    obtain ⟨c1, g1⟩ := p1
    obtain ⟨rfl, rfl⟩ := Prod.mk.inj he
    exact coerceC_sound hF hx e1
  · rename_i ps cs
    generalize e1 : coerceCs ps cs h = p1 at he
    obtain ⟨c1, g1⟩ := p1
    obtain ⟨rfl, rfl⟩ := Prod.mk.inj he
    obtain ⟨arr, e, ha⟩ := hx
    obtain ⟨ρ', h1, h2, h3⟩ := coerceCs_sound hF ha e1
    exact ⟨ρ', h1, ⟨arr, e, h2⟩, h3⟩
  · obtain ⟨rfl, rfl⟩ := Prod.mk.inj he
    exact ⟨ρ, hF, hx, fun x u hx => hx⟩

theorem coerceWs_sound {X : Ctx} {m : List (Nat × V)} {a : Act} {w : World} : ∀ {ps : List RP} {ws ws' : List W} {h h' : Heap} {ρ : Rho} {vs : List Value}, RelF X ρ ⟨m, h⟩ a w → All2 (RelW w (avs X.A ρ h) ρ h) ws vs → coerceWs ps ws h = (ws', h') →
    ∃ ρ', RelF X ρ' ⟨m, h'⟩ a w ∧ All2 (RelW w (avs X.A ρ' h') ρ' h') ws' vs ∧ Keeps X w ρ h ρ' h'
  | [], ws, ws', h, h', ρ, vs, hF, ha, he => by
    simp only [coerceWs] at he
    obtain ⟨rfl, rfl⟩ := Prod.mk.inj he
    exact ⟨ρ, hF, ha, fun x u hx => hx⟩
  | p :: ps, [], ws', h, h', ρ, vs, hF, ha, he => by
    simp only [coerceWs] at he
    obtain ⟨rfl, rfl⟩ := Prod.mk.inj he
    exact ⟨ρ, hF, ha, fun x u hx => hx⟩
  | p :: ps, x :: ws, ws', h, h', ρ, vs, hF, ha, he => by
    simp only [coerceWs] at he
    generalize e1 : coerceW p x h = p1 at he
    obtain ⟨c1, g1⟩ := p1
    dsimp only at he
    generalize e2 : coerceWs ps ws g1 = p2 at he
    obtain ⟨cs1, g2⟩ := p2
    obtain ⟨rfl, rfl⟩ := Prod.mk.inj he
    cases ha with
    | cons h1 h2 =>
      obtain ⟨ρ1, k1, k2, k3⟩ := coerceW_sound hF h1 e1
      obtain ⟨ρ2, j1, j2, j3⟩ := coerceWs_sound k1 (h2.mono fun c v _ hc => k3 c v hc) e2
      exact ⟨ρ2, j1, .cons (j3 c1 _ k2) j2, fun x u hx => j3 x u (k3 x u hx)⟩

theorem All2.setAt {α β : Type} {R : α → β → Prop} {as : List α} {bs : List β} (h : All2 R as bs) {j : Nat} {a : α} {b : β} (hb : bs[j]? = some b) (hr : R a b) : All2 R (as.set j a) bs := by
  induction h generalizing j with
  | nil => simp at hb
  | cons h1 h2 ih =>
    cases j with
    | zero => simp at hb; subst hb; exact .cons hr h2
    | succ j => exact .cons h1 (ih (by simpa using hb))

/-- a block of the frame's own ends where its only name says -/
theorem RelF.trunc {X : Ctx} {m : List (Nat × V)} {ρ : Rho} {h : Heap} {a : Act} {w : World} (hF : RelF X ρ ⟨m, h⟩ a w) {b : Nat} {t : Ty} {l : List t.D} {s : RS} (hb : h[b]? = some (.row t l s)) (hz : isFrz (.row t l s) = false) (k : Nat) :
    RelF X ρ ⟨eraseM [b] m, (eraseH [b] h).set b (.row t (l.take k) .moved)⟩ a w ∧
    (∀ (x : W) (v : Value), RelW w (avs X.A ρ h) ρ h x v → RelW w (avs X.A ρ ((eraseH [b] h).set b (.row t (l.take k) .moved))) ρ ((eraseH [b] h).set b (.row t (l.take k) .moved)) (renW (butL [b]) x) v) ∧
    (∀ v, RelC w (avs X.A ρ h) ρ h (.sl b (some (0, k))) v → RelC w (avs X.A ρ ((eraseH [b] h).set b (.row t (l.take k) .moved))) ρ ((eraseH [b] h).set b (.row t (l.take k) .moved)) (.sl b none) v) := by
  have hF1 : RelF X ρ ⟨eraseM [b] m, eraseH [b] h⟩ a w := hF.forget (butL [b]) fun c d e => (butL_spec e).1
  have hb1 : (eraseH [b] h)[b]? = some (.row t l s) := by simp only [eraseH, get_map, hb]; rfl
  have hB := hF.H.blk b _ hb
  obtain ⟨hB1, hB2, _⟩ := hB
  have hput : rhoPut ρ b (ρ b) = ρ := by funext c; simp only [rhoPut]; split <;> simp_all
  have key := RelF.swap (w' := w) hF1 (noRef_erase ⟨m, h⟩ b) hb1 hz (t := t) (l := l.take k) (y := ρ b) rfl rfl rfl (Nat.le_refl _) (fun _ _ _ => rfl) (fun q cs e fz hq => ⟨cs, e, fz, hq, rfl⟩) (by
    cases hρ : ρ b with
    | none =>
      left
      refine ⟨rfl, ?_⟩
      by_cases hl : l = []
      · rw [hl]; simp
      · obtain ⟨r, base, e⟩ := hB2 hl
        rw [hρ] at e; cases e
    | some p =>
      obtain ⟨r, base⟩ := p
      obtain ⟨cs, e, h1, h2⟩ := hB1 r base hρ
      refine .inr ⟨r, base, cs, e, rfl, .inl ⟨base, rfl⟩, h1, fun i z hz => ?_⟩
      rw [List.getElem?_take] at hz
      split at hz
      · obtain ⟨vs, g1, g2⟩ := h2 i z hz
        refine ⟨vs, ?_, g2⟩
        refine RD.mono (fun r _ h => ?_) (fun r o v _ h => h) _ _ _ g1
        have h' : avs X.A ρ (eraseH [b] _) r := h
        unfold avs at h' ⊢
        rwa [eraseH, own_map] at h'
      · cases hz)
  rw [hput] at key
  have hav : ∀ r, r < w.heap.size → avs X.A ρ ((eraseH [b] h).set b (.row t (l.take k) .moved)) r → avs X.A ρ h r := by
    intro r _ hr
    rcases hr with hr | ⟨c, z, base, hc, hz', hρ⟩
    · exact .inl hr
    · rw [get_set] at hc
      split at hc
      · rename_i ec
        subst ec
        exact .inr ⟨c, _, base, hb, hz, hρ⟩
      · refine .inr ((own_map (butL [b]) r).1 ⟨c, z, base, hc, hz', hρ⟩)
  have hlt := lt_of_get hb1
  refine ⟨key, fun x v hx => ?_, fun v hv => ?_⟩
  · refine RelW.ren hav (fun r o v _ h => h) (butL [b]) (fun c _ c' e => ?_) hx
    obtain ⟨rfl, hn⟩ := butL_spec e
    have hne : c' ≠ b := by simpa using hn
    have s1 : Sim w w ρ ρ h (eraseH [b] h) c' c' := Sim.map _ _
    refine ⟨fun t l s e => ?_, fun cs e => ?_, rfl, s1.room⟩
    · rw [get_set, if_neg hne]; exact s1.row _ _ _ e
    · rw [get_set, if_neg hne]; exact s1.box _ e
  · obtain ⟨t', l', s', o, n, ad, c, g1, g2, g3, g4, g5, g6⟩ := hv
    rw [hb] at g1
    cases g1
    simp only [Option.getD_some, Prod.mk.injEq] at g2
    obtain ⟨rfl, rfl⟩ := g2
    refine ⟨t, l.take n, .moved, 0, n, ad, c, by rw [get_set, if_pos rfl, if_pos hlt], ?_, ?_, g4, g5, g6⟩
    · simp; omega
    · simp; omega

theorem truncWs_sound {X : Ctx} {a : Act} {w : World} (n : Nat) : ∀ (q j : Nat) {m : List (Nat × V)} {ρ : Rho} {h h' : Heap} {ws ws' : List W} {vs : List Value}, RelF X ρ ⟨m, h⟩ a w → All2 (RelW w (avs X.A ρ h) ρ h) ws vs → truncWs n q j ws h = (ws', h') →
    ∃ m', RelF X ρ ⟨m', h'⟩ a w ∧ All2 (RelW w (avs X.A ρ h') ρ h') ws' vs
  | 0, j, m, ρ, h, h', ws, ws', vs, hF, ha, he => by
    simp only [truncWs] at he
    obtain ⟨rfl, rfl⟩ := Prod.mk.inj he
    exact ⟨m, hF, ha⟩
  | q + 1, j, m, ρ, h, h', ws, ws', vs, hF, ha, he => by
    rw [truncWs] at he
    split at he
    · rename_i b o k hj
      split at he
      · split at he
        · exact truncWs_sound n q (j + 1) hF ha he
        · rename_i t l s hc hb _ hz
          rw [Bool.and_eq_true] at hc
          have ho := Nat.eq_of_beq_eq_true hc.1
          subst ho
          obtain ⟨h1, h2, h3⟩ := hF.trunc hb hz k
          obtain ⟨v, hv, hr⟩ := ha.get j _ hj
          exact truncWs_sound n q (j + 1) h1 ((All2.map ha fun x v _ hx => h2 x v hx).setAt hv (show RelW _ _ _ _ (.one (.sl b none)) v from h3 v hr)) he
      · exact truncWs_sound n q (j + 1) hF ha he
    · exact truncWs_sound n q (j + 1) hF ha he

theorem SC_of_FB {E : Env} (hE : EOk E) {H : Hint} {f : Nat} {fn : Func} {args res : List W} {lent lent' : Heap} (hf : E.P.funcs[f]? = some fn) (hok : (match fn.body with | some c => codeOk H fn.ntmps c | none => false) = true)
    (h : FB E H fn args lent res lent') : SC E.P f args lent res lent' := by
  intro w vs ρ A hH hargs
  unfold FB at h
  cases hb : fn.body with
  | none => rw [hb] at h; exact h.elim
  | some c =>
    rw [hb] at h hok
    dsimp only at h hok
    let X : Ctx := ⟨A, own ρ lent, w, lent.length, ρ, (vs ++ Array.replicate (fn.ntmps - vs.size) undef).size, lent⟩
    have hF : RelF X ρ ⟨argsM 0 args, lent⟩ { tmps := vs ++ Array.replicate (fn.ntmps - vs.size) undef, defers := [] } w := by
      refine ⟨hH, fun t => ?_, Frame.refl _ w, fun b r base hb e => .inl ⟨hb, base, e⟩, fun b x r base hx hz e => .inl ⟨b, x, base, hx, hz, e⟩, fun _ _ _ _ _ => rfl, Nat.le_refl _, rfl, rfl, fun b x hx _ => ⟨x, hx, id, fun _ => ?_⟩⟩
      · simp only [St.get, argsM_get, Nat.zero_le, if_true, Nat.sub_zero]
        cases hx : args[t]? with
        | none => trivial
        | some x =>
          obtain ⟨u, hu, hxu⟩ := hargs.get t x hx
          have : (vs ++ Array.replicate (fn.ntmps - vs.size) undef).getD t undef = u := by
            rw [Array.getElem?_toList] at hu
            have hlt : t < vs.size := (Array.getElem?_eq_some_iff.1 hu).1
            simp only [Array.getD_eq_getD_getElem?, Array.getElem?_append_left hlt, hu, Option.getD_some]
          rw [this]
          exact hxu
      · cases x <;> simp [SameShape]
    refine calls_of_wp hf hb (swp_sound hE (X := X) rfl (N := fn.ntmps) (by simp [X]; omega) c 0 _ _ _ ρ _ w hok h hF ?_ ?_)
    · intro e σ' ρ' a' w' he hF'
      have fin : resultsK E.T σ' fn.results.toList (fun ws => match coerceWs H.ret ws σ'.h with | (ws, h) => match truncWs lent.length ws.length 0 ws h with | (ws, h) => match packRes lent.length ws h with | (r', h') => Ret res lent' r' h') →
          a'.defers = [] ∧ ∃ v, (results fn a'.tmps).run E.P w' = .ok v w' ∧ ∃ v' ρ', Ending.returned v = .returned v' ∧ RelH A ρ' lent' w' ∧
            (match (generalizing := false) res with | [x] => RelW w' (avs A ρ' lent') ρ' lent' x v' | xs => ∃ arr : Array Value, v' = .tuple arr ∧ All2 (RelW w' (avs A ρ' lent') ρ' lent') xs arr.toList) ∧
            Frame (own ρ lent) w w' ∧ lent.length ≤ lent'.length ∧
            (∀ b x, lent'[b]? = some x → b < lent.length → isMoved x = false → ρ' b = ρ b) ∧
            (∀ b r base, b < lent.length → ρ' b = some (r, base) → (∃ base', ρ b = some (r, base')) ∨ w.heap.size ≤ r) ∧
            (∀ b r base, lent.length ≤ b → b < lent'.length → ρ' b = some (r, base) → w.heap.size ≤ r) ∧
            (∀ (b : Nat) (x : Blk), lent[b]? = some x → ∃ x', lent'[b]? = some x' ∧ (isFrz x = true → isFrz x' = true) ∧ (isMoved x' = false → SameShape x x')) := by
        intro hres
        obtain ⟨ws0, us, h1, h2, h30⟩ := resultsK_sound hE.T hF' _ hres
        dsimp only at h1
        generalize ec : coerceWs H.ret ws0 σ'.h = pc at h1
        obtain ⟨wsc, hcc⟩ := pc
        dsimp only at h1
        obtain ⟨ρc, hFcc, h3c, _⟩ := coerceWs_sound hF' h30 ec
        generalize et : truncWs lent.length wsc.length 0 wsc hcc = pt at h1
        obtain ⟨ws, hc'⟩ := pt
        dsimp only at h1
        obtain ⟨mt, hFc, h3⟩ := truncWs_sound lent.length _ 0 hFcc h3c et
        clear hF'
        have hF' := hFc
        clear hFc
        obtain ⟨sm, sh⟩ := σ'
        generalize hσ : (⟨mt, hc'⟩ : St) = σ' at hF'
        have hσh : σ'.h = hc' := by rw [← hσ]
        rw [← hσh] at h1 h3
        generalize ρc = ρ' at hF' h3
        refine ⟨hF'.df, _, run_results h2, _, rhoOf ρ' (reach σ'.h fuelR (((List.range lent.length).flatMap fun b => refsB σ'.h[b]?) ++ ws.flatMap refsW) (List.range lent.length)), rfl, ?_⟩
        unfold packRes at h1
        dsimp only at h1
        generalize hids : reach σ'.h fuelR (((List.range lent.length).flatMap fun b => refsB σ'.h[b]?) ++ ws.flatMap refsW) (List.range lent.length) = ids at h1 ⊢
        obtain ⟨e1, e2⟩ := h1
        have e2' : packB lent.length σ'.h ids = lent' := e2
        have hnle : lent.length ≤ σ'.h.length := hF'.n
        have hbox : ∀ b, b < σ'.h.length → ∀ c ∈ refsB σ'.h[b]?, c < σ'.h.length := by
          intro b hb c hc
          rw [List.getElem?_eq_getElem hb] at hc
          exact (hF'.H.blk b _ (List.getElem?_eq_getElem hb)).refs_lt c hc
        have hnd : ids.Nodup := by rw [← hids]; exact reach_nodup _ _ _ _ List.nodup_range
        have hws : ∀ {ws : List W} {us : List Value}, All2 (RelW w' (avs X.A ρ' σ'.h) ρ' σ'.h) ws us → ∀ x ∈ ws, ∀ b ∈ refsW x, b < σ'.h.length := by
          intro ws us hh
          induction hh with
          | nil => simp
          | cons h1 _ ih =>
            intro x hx
            rcases List.mem_cons.1 hx with rfl | hx
            · exact h1.refs_lt
            · exact ih x hx
        have hlt : ∀ b ∈ ids, b < σ'.h.length := by
          rw [← hids]
          refine reach_lt hbox _ _ _ (fun b hb => ?_) (fun b hb => by rw [List.mem_range] at hb; omega)
          rcases List.mem_append.1 hb with hb | hb
          · obtain ⟨c, hc, hb⟩ := List.mem_flatMap.1 hb
            exact hbox c (by rw [List.mem_range] at hc; omega) b hb
          · obtain ⟨x, hx, hb⟩ := List.mem_flatMap.1 hb
            exact hws h3 x hx b hb
        obtain ⟨more, hpre⟩ : ∃ more, ids = List.range lent.length ++ more := by rw [← hids]; exact reach_seen _ _ _ _
        have hfst : ∀ b, b < lent.length → ids[b]? = some b := by
          intro b hb
          rw [hpre, List.getElem?_append_left (by simp; exact hb)]
          simp [hb]
        have hnl : lent.length ≤ ids.length := by rw [hpre]; simp
        have hlen : lent'.length = ids.length := by rw [← e2']; simp [packB]
        have hav : ∀ r, r < w'.heap.size → avs X.A (rhoOf ρ' ids) (packB lent.length σ'.h ids) r → avs X.A ρ' σ'.h r := fun r _ h => h.imp id (own_pack hlt)
        have hrel : All2 (RelW w' (avs A (rhoOf ρ' ids) lent') (rhoOf ρ' ids) lent') res us := by
          rw [← e1, ← e2']
          exact All2.map h3 fun x u _ hxu => RelW.ren hav (fun r o v _ h => h) _ (fun b _ b' e => Sim.pack hlt e) hxu
        refine ⟨?_, ?_, hF'.fr, by rw [hlen]; exact hnl, ?_, ?_, ?_, ?_⟩
        · rw [← e2']; exact hF'.H.pack hnd hlt
        · match res, us, hrel with
          | [], [], _ => exact ⟨#[], rfl, .nil⟩
          | [x], [u], .cons h _ => exact h
          | x :: y :: r, u :: v :: s, hrel => exact ⟨(u :: v :: s).toArray, rfl, hrel⟩
        · intro b x hx hbn hm
          rw [← e2'] at hx
          obtain ⟨c, y, hc, hy, rfl⟩ := packB_inv hlt hx
          rw [hfst b hbn] at hc
          have := Option.some.inj hc
          subst this
          simp only [rhoOf, hfst b hbn]
          rw [tidyB_old hbn] at hm
          exact hF'.keep b y hy hbn (by rwa [isMoved_renB] at hm)
        · intro b r base hbn e
          obtain ⟨c, hc, e1⟩ := rhoOf_inv e
          rw [hfst b hbn] at hc
          have := Option.some.inj hc
          subst this
          rcases hF'.src b r base (by omega) e1 with ⟨_, h2⟩ | h1
          · exact .inl h2
          · exact .inr h1
        · intro b r base hbn hbl e
          obtain ⟨c, hc, e1⟩ := rhoOf_inv e
          rcases hF'.src c r base (hlt c (List.mem_of_getElem? hc)) e1 with ⟨h2, _⟩ | h1
          · have h2 : c < lent.length := h2
            have := nodup_get hnd hc (hfst c h2)
            omega
          · exact h1
        · intro b x hx
          have hbn := lt_of_get hx
          obtain ⟨x', g1, g2, g3⟩ := hF'.shp b x hx hbn
          obtain ⟨x2, k1, k2⟩ := packB_get (n := lent.length) hlt (hfst b hbn)
          rw [tidyB_old hbn] at k2
          rw [g1] at k1
          have := Option.some.inj k1
          subst this
          rw [e2'] at k2
          exact ⟨_, k2, fun hz => by rw [isFrz_renB]; exact g2 hz, fun hm => SameShape.renB _ (g3 (by rwa [isMoved_renB] at hm))⟩
      cases e with
      | normal => exact fin he
      | ret => exact fin he
      | exit id => exact he.elim
    · intro ch a w h
      obtain ⟨_, v, ρ, e, _⟩ := h
      cases e

end Go.Proofs.Ytjoiadaogppmkaa.Sh
