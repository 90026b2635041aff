/- Regions: in the text's order, and in whatever order. -/
import Derived.OrdersHeld
import Derived.Test.YtjoiadaogppmkaaShLoud
namespace Go.Proofs.Ytjoiadaogppmkaa.Sh
open Go
set_option linter.unusedVariables false
set_option linter.unusedSimpArgs false

theorem RelF.setσ {X : Ctx} {ρ : Rho} {σ : St} {a : Act} {w : World} (h : RelF X ρ σ a w) {v : V} {d : Nat} (hv : RelV w (avs X.A ρ σ.h) ρ σ.h v (a.tmps.getD d undef)) : RelF X ρ (σ.put (some d) v) a w := by
  refine ⟨h.H, fun t => ?_, h.fr, h.src, h.srcO, h.keep, h.n, h.sz, h.df, h.shp⟩
  simp only [St.put, St.get, getM_put]
  by_cases e : d = t
  · subst e; rw [if_pos rfl]; exact hv
  · rw [if_neg e]; exact h.m t

theorem skip_rel {X : Ctx} {ρ : Rho} {σ : St} {a : Act} {w : World} (h : RelF X ρ σ a w) {d : Option Nat} (hd : ∀ k, d = some k → k < X.N) : RelF X ρ (σ.put d (.tup [])) (a.put d undef) w :=
  h.put (v := .tup []) ⟨#[], rfl, .nil⟩ hd

/-- What a region's next operation comes to: it is wanted, or it is passed over. -/
theorem guard_step {E : Env} {H : Hint} {dr : Bool} {ops : Array Oper} {o : Oper} {r : List Oper} {X : Ctx} {ρ : Rho} {σ : St} {a : Act} {w : World} {K : St → Prop} (hd : ∀ k, o.dst = some k → k < X.N)
    (hF : RelF X ρ σ a w) (hK : opsK E H dr ops.toList (o :: r) σ K) :
    (Region.wanted o (yielded ops a.tmps) = true ∧ ∃ σ1, RelF X ρ σ1 a w ∧ opK E H dr o σ1 fun σ => opsK E H dr ops.toList r σ K) ∨
    (Region.wanted o (yielded ops a.tmps) = false ∧ ∃ σ1, RelF X ρ σ1 (a.put o.dst undef) w ∧ opsK E H dr ops.toList r σ1 K) := by
  simp only [opsK] at hK
  cases hg : o.guard with
  | none =>
    rw [hg] at hK
    exact .inl ⟨by simp [Region.wanted, hg], σ, hF, hK⟩
  | some gw =>
    obtain ⟨j, want⟩ := gw
    rw [hg] at hK
    dsimp only at hK
    split at hK
    · rename_i g hgj
      split at hK
      · rename_i d hgd
        rw [Array.getElem?_toList] at hgj
        have hm := hF.m d
        have hy : ∀ t, a.tmps.getD d undef = .bool t → yielded ops a.tmps j = some t := by
          intro t ht
          simp only [yielded, hgj, Option.bind_some, hgd]
          simp only [Array.getD_eq_getD_getElem?] at ht
          cases hq : a.tmps[d]? with
          | none => rw [hq] at ht; cases ht
          | some u => rw [hq] at ht; simp at ht; subst ht; rfl
        split at hK
        · rename_i t ht
          rw [ht] at hm
          have hm' : a.tmps.getD d undef = .bool t := hm
          have hw : Region.wanted o (yielded ops a.tmps) = (t == want) := by
            simp only [Region.wanted, hg, hy t hm']
            cases t <;> cases want <;> rfl
          rw [hw]
          have hset : RelF X ρ (σ.put (some d) (B t)) a w := hF.setσ (v := B t) hm'
          cases t <;> cases want <;> simp only [Br] at hK
          · exact .inl ⟨rfl, _, hset, hK⟩
          · exact .inr ⟨rfl, _, skip_rel hset hd, hK⟩
          · exact .inr ⟨rfl, _, skip_rel hset hd, hK⟩
          · exact .inl ⟨rfl, _, hset, hK⟩
        · rename_i ht
          rw [ht] at hm
          obtain ⟨arr, e, ha⟩ := hm
          have hw : Region.wanted o (yielded ops a.tmps) = false := by
            have : yielded ops a.tmps j = none := by
              simp only [yielded, hgj, Option.bind_some, hgd]
              simp only [Array.getD_eq_getD_getElem?] at e
              cases hq : a.tmps[d]? with
              | none => rfl
              | some u => rw [hq] at e; simp at e; subst e; rfl
            simp [Region.wanted, hg, this]
          exact .inr ⟨hw, _, skip_rel hF hd, hK⟩
        · exact hK.elim
      · exact hK.elim
    · exact hK.elim

def isCallB : Op → Bool
  | .call c => (match c.callee with | .builtin _ => false | _ => true)
  | _ => false
/-- what may turn memory: where calls are lent memory they are among it -/
def effX (lo : Bool) (o : Op) : Bool := effB o || (lo && isCallB o)
theorem opK_dr {E : Env} {H : Hint} {o : Oper} (h : isCallB o.op = false) {σ : St} {K : St → Prop} (hK : opK E H false o σ K) : opK E H true o σ K := by
  obtain ⟨dst, op, ty, pos, after, guard⟩ := o
  cases op with
  | call c =>
    obtain ⟨callee, args, argTypes⟩ := c
    cases callee with
    | builtin b => exact hK
    | value f => simp [isCallB] at h
    | invoke r name => simp [isCallB] at h
  | makeFunc fn fs cs => cases fn <;> exact hK
  | _ => exact hK

/-- One operation of a region, whatever it is. -/
theorem step_op {E : Env} (hE : EOk E) {H : Hint} {dr : Bool} {ops : Array Oper} {i : Nat} {o : Oper} {r : List Oper} {X : Ctx} {ρ : Rho} {σ : St} {a : Act} {w : World} {K : St → Prop} {Q : Exit → Act → World → Prop}
    (hi : ops[i]? = some o) (hd : ∀ k, o.dst = some k → k < X.N) (hF : RelF X ρ σ a w) (hK : opsK E H dr ops.toList (o :: r) σ K) {next : Act → World → Prop}
    (hn : ∀ σ' ρ' a' w', opsK E H dr ops.toList r σ' K → RelF X ρ' σ' a' w' → (effX (!dr) o.op = false → Mono w w') → next a' w') : wpOp E.P ops Q i next a w := by
  unfold wpOp
  simp only [hi]
  rcases guard_step hd hF hK with ⟨hw, σ1, hF1, hK1⟩ | ⟨hw, σ1, hF1, hK1⟩
  · rw [hw]
    simp only [if_true]
    refine .inl ?_
    unfold Oper.wp
    cases hq : quietB o.op with
    | true =>
      obtain ⟨x, v, h1, h2, h3⟩ := opK_take hE hq hF1 hK1
      rw [h2 w (fun _ => Mono.refl w)]
      exact hn _ _ _ _ h1 (hF1.put h3 hd) (fun _ => Mono.refl w)
    | false =>
      cases dr with
      | true => exact opK_loud hE hq hd hF1 hK1 fun σ' ρ' a' w' h1 h2 h3 => hn σ' ρ' a' w' h1 h2 fun he => h3 (by simpa [effX] using he) rfl
      | false =>
        cases hc : isCallB o.op with
        | false => exact opK_loud hE hq hd hF1 (opK_dr hc hK1) fun σ' ρ' a' w' h1 h2 h3 => hn σ' ρ' a' w' h1 h2 fun he => h3 (by simp only [effX, hc, Bool.and_false, Bool.or_false] at he; exact he) rfl
        | true => exact opK_loud hE hq hd hF1 hK1 fun σ' ρ' a' w' h1 h2 h3 => hn σ' ρ' a' w' h1 h2 fun he => by simp [effX, hc] at he
  · rw [hw]
    simp only [Bool.false_eq_true, if_false]
    exact hn _ _ _ _ hK1 hF1 (fun _ => Mono.refl w)

theorem seq_ops {E : Env} (hE : EOk E) {H : Hint} {dr : Bool} {ops : Array Oper} {X : Ctx} {K : St → Prop} {Q : Exit → Act → World → Prop} (hN : ∀ o ∈ ops.toList, ∀ k, o.dst = some k → k < X.N)
    (hn : ∀ σ' ρ' a' w', K σ' → RelF X ρ' σ' a' w' → Q .normal a' w') : ∀ (l : List Nat) (σ : St) (ρ : Rho) (a : Act) (w : World), RelF X ρ σ a w → opsK E H dr ops.toList (pickOps ops.toList l) σ K → wpOps E.P ops Q l a w
  | [], σ, ρ, a, w, hF, hK => hn σ ρ a w hK hF
  | i :: l, σ, ρ, a, w, hF, hK => by
    rw [wpOps_cons]
    simp only [pickOps] at hK
    cases hi : ops[i]? with
    | none =>
      rw [Array.getElem?_toList, hi] at hK
      unfold wpOp
      simp only [hi]
      exact seq_ops hE hN hn l σ ρ a w hF hK
    | some o =>
      rw [Array.getElem?_toList, hi] at hK
      exact step_op hE hi (hN o (by rw [Array.mem_toList_iff]; exact Array.mem_of_getElem? hi)) hF hK fun σ' ρ' a' w' h1 h2 _ => seq_ops hE hN hn l σ' ρ' a' w' h2 h1

theorem pick_range (l : List Oper) : pickOps l (List.range l.length) = l := by
  have key : ∀ (n : Nat) (pre : List Oper), pre.length + n = l.length → l.take pre.length = pre → pickOps l ((List.range n).map (pre.length + ·)) = l.drop pre.length := by
    intro n
    induction n with
    | zero =>
      intro pre h _
      rw [List.drop_of_length_le (by omega)]
      rfl
    | succ n ih =>
      intro pre h hp
      rw [List.range_succ_eq_map, List.map_cons, List.map_map]
      have hlt : pre.length < l.length := by omega
      simp only [pickOps, Nat.add_zero, List.getElem?_eq_getElem hlt]
      have := ih (pre ++ [l[pre.length]]) (by simp; omega) (by simp [List.take_add_one, hp, List.getElem?_eq_getElem hlt])
      rw [List.drop_eq_getElem_cons hlt]
      congr 1
      rw [List.length_append, List.length_singleton] at this
      rw [← this]
      congr 1
      apply List.map_congr_left
      intro k _
      simp only [Function.comp]
      omega
  have := key l.length [] (by simp) (by simp)
  simpa using this

/-! ## In whatever order -/
def effAt (lo : Bool) (ops : Array Oper) (i : Nat) : Bool := match ops[i]? with | some o => effX lo o.op | none => false

def wpAnyM (lo : Bool) (P : Program) (md : Region.Mode) (ops : Array Oper) (Q : Exit → Act → World → Prop) : Nat → Array Bool → Act → World → Prop
  | 0, listed, a, w => Region.ready md ops listed = [] ∧ Q .normal a w
  | fuel + 1, listed, a, w =>
    (Region.ready md ops listed = [] → Q .normal a w) ∧
    ∀ i ∈ Region.ready md ops listed, wpOp P ops Q i (fun a' w' => (effAt lo ops i = false → Mono w w') ∧ wpAnyM lo P md ops Q fuel (listed.setIfInBounds i true) a' w') a w

theorem wpAny_of_M {lo : Bool} {P : Program} {md : Region.Mode} {ops : Array Oper} {Q : Exit → Act → World → Prop} : ∀ (fuel : Nat) (listed : Array Bool) (a : Act) (w : World), wpAnyM lo P md ops Q fuel listed a w → wpAny P md ops Q fuel listed a w
  | 0, _, _, _, h => h
  | fuel + 1, _, _, _, h => ⟨h.1, fun i hi => wpOp_mono (fun a' w' h' => wpAny_of_M fuel _ a' w' h'.2) (h.2 i hi)⟩

def Sm (rd : Bool) (w : World) (w' : World) : Prop := rd = true → Mono w w'

theorem YieldsIf.moved {P : Program} {ops : Array Oper} {rd : Bool} {w w' : World} (hm : rd = true → Mono w w') {o : Oper} {v : Value} {a : Act} (h : YieldsIf P ops (Sm rd w) o v a) : YieldsIf P ops (Sm rd w') o v a :=
  h.imp (fun ⟨h1, h2⟩ => ⟨h1, fun w'' hw => h2 w'' fun hr => (hm hr).trans (hw hr)⟩) id

theorem wpAnyM_first {lo : Bool} {P : Program} {md : Region.Mode} {ops : Array Oper} {Q : Exit → Act → World → Prop} {i : Nat} {oi : Oper} {v : Value} {rd : Bool} (D : Nat → Prop) (hD : ∀ j oj, ops[j]? = some oj → D j → ∃ e ∈ oj.after, Region.binds md e = true ∧ (e.on = i ∨ D e.on)) (hi : ops[i]? = some oi) (hsel : ∀ (j : Nat) (o : Oper) cs b, ops[j]? = some o → o.op ≠ .select cs b)
    (hQ : ∀ c a w, ¬ Q (.panic c) a w) :
    ∀ (fuel : Nat) (listed : Array Bool) (a : Act) (w : World),
      (∀ j, D j → j < listed.size ∧ listed.getD j true = false) →
      (∀ j oj, ops[j]? = some oj → j ≠ i → listed.getD j true = false → ¬ D j → oi.apart ops oj = true ∧ (rd = true → effX lo oj.op = false)) →
      i ∈ Region.ready md ops listed → YieldsIf P ops (Sm rd w) oi v a →
      wpAnyM lo P md ops Q fuel (listed.setIfInBounds i true) (a.put oi.dst v) w → wpAnyM lo P md ops Q (fuel + 1) listed a w := by
  intro fuel
  induction fuel with
  | zero =>
    intro listed a w _ _ hr hy H
    refine ⟨fun h => (by rw [h] at hr; cases hr), fun j hj => ?_⟩
    by_cases hji : j = i
    · subst hji; exact hy.wpOp hi (fun _ => Mono.refl w) ⟨fun _ => Mono.refl w, H⟩
    · have := ready_mono hj hji
      rw [H.1] at this
      cases this
  | succ fuel ih =>
    intro listed a w hDl hfree hr hy H
    refine ⟨fun h => (by rw [h] at hr; cases hr), fun j hj => ?_⟩
    by_cases hji : j = i
    · subst hji; exact hy.wpOp hi (fun _ => Mono.refl w) ⟨fun _ => Mono.refl w, H⟩
    · have h1 := H.2 j (ready_mono hj hji)
      obtain ⟨hjun, oj, hoj, hall⟩ := mem_ready.1 hj
      have hnot : ∀ e ∈ oj.after, Region.binds md e = true → e.on ≠ i := fun e he hb heq => by
        have h1 := hall e he hb
        have h0 := (mem_ready.1 hr).1
        rw [heq] at h1
        rcases Nat.lt_or_ge i listed.size with h' | h'
        · simp [h'] at h0 h1; rw [h0] at h1; cases h1
        · simp [Array.getElem?_eq_none h'] at h1
      have hnD : ¬ D j := fun hDj => by
        obtain ⟨e, he, hb, h4 | h4⟩ := hD j oj hoj hDj
        · exact hnot e he hb h4
        · have h5 := hall e he hb
          obtain ⟨h6, h7⟩ := hDl _ h4
          simp [h6] at h5 h7
          rw [h7] at h5; cases h5
      have hap := hfree j oj hoj hji hjun hnD
      have h2 := wpOp_putIf hoj hap.1 (fun cs b => hsel i oi cs b hi) (fun cs b => hsel j oj cs b hoj) (fun c a w h => absurd h (hQ c _ w)) hy h1
      have hDl' : ∀ k, D k → k < (listed.setIfInBounds j true).size ∧ (listed.setIfInBounds j true).getD k true = false := fun k hk => by
        obtain ⟨h6, h7⟩ := hDl k hk
        refine ⟨by simpa using h6, ?_⟩
        have hjk : j ≠ k := fun e => hnD (e ▸ hk)
        rw [getD_set_ne true hjk]; exact h7
      have hfree' : ∀ k ok, ops[k]? = some ok → k ≠ i → (listed.setIfInBounds j true).getD k true = false →
          ¬ D k → oi.apart ops ok = true ∧ (rd = true → effX lo ok.op = false) := fun k ok hk hki hun hno => by
        refine hfree k ok hk hki ?_ hno
        by_cases hjk : j = k
        · subst hjk; exact hjun
        · rw [getD_set_ne true hjk] at hun; exact hun
      refine wpOp_mono (fun a' w' h3 => ⟨h3.2.1, ih (listed.setIfInBounds j true) a' w' hDl' hfree' (ready_mono hr (Ne.symm hji)) (YieldsIf.moved (fun hrd => h3.2.1 (by simp only [effAt, hoj]; exact hap.2 hrd)) h3.1) ?_⟩) h2
      rw [Array.setIfInBounds_comm _ _ hji]
      exact h3.2.2

/-! ## An order that will do -/
def guardDst (all : List Oper) (g : Nat) : Option Nat := match all[g]? with | some o => o.dst | none => none
def looksL (all : List Oper) (o : Oper) (d : Nat) : Bool :=
  o.op.operands.toList.any (fun x => match x with | .tmp t => Nat.beq t d | _ => false) ||
  (match o.guard with
   | some (g, _) => (match guardDst all g with | some t => Nat.beq t d | none => false)
   | none => false)
def isDst (y : Oper) (d : Nat) : Bool := match y.dst with | some e => Nat.beq e d | none => false
def apartL (all : List Oper) (x y : Oper) : Bool :=
  (match x.dst with | some d => !looksL all y d && !isDst y d | none => true) && (match y.dst with | some d => !looksL all x d | none => true)
def waitsOn (o : Oper) (i : Nat) : Bool := o.after.toList.any fun e => Region.binds .any e && Nat.beq e.on i
def readyL (o : Oper) (done : List Nat) : Bool := o.after.toList.all fun e => !Region.binds .any e || inL e.on done
def notSel (o : Oper) : Bool := match o.op with | .select .. => false | _ => true
/-- it waits for 'i', or for one of these -/
def hangs (i : Nat) (D : List Nat) (o : Oper) : Bool := o.after.toList.any fun e => Region.binds .any e && (Nat.beq e.on i || inL e.on D)
def depsL (i : Nat) : Nat → List Oper → List Nat → List Nat
  | _, [], D => D
  | j, o :: r, D => depsL i (j + 1) r (match hangs i D o with | true => j :: D | false => D)
/-- of the operations from number 'j' on -/
def freeL (lo : Bool) (all : List Oper) (done : List Nat) (D : List Nat) (i : Nat) (oi : Oper) : Nat → List Oper → Bool
  | _, [] => true
  | j, o :: r => (Nat.beq j i || inL j done || inL j D || (apartL all oi o && (!readsB oi.op || !effX lo o.op))) && freeL lo all done D i oi (j + 1) r
def soleL (done : List Nat) (i : Nat) : Nat → List Oper → Bool
  | _, [] => true
  | j, o :: r => (Nat.beq j i || inL j done || !readyL o done) && soleL done i (j + 1) r
def orderOk (lo : Bool) (all : List Oper) (done : List Nat) : List Nat → Bool
  | [] => (List.range all.length).all fun j => inL j done
  | i :: r => match all[i]? with
    | some o => !inL i done && readyL o done && (match quietB o.op with | true => (match depsL i 0 all [] with | D => D.all (fun j => !inL j done) && freeL lo all done D i o 0 all) | false => soleL done i 0 all) && orderOk lo all (i :: done) r
    | none => false

def orderP (lo : Bool) (all : List Oper) (done : List Nat) : List Nat → Bool
  | [] => true
  | i :: r => match all[i]? with
    | some o => !inL i done && readyL o done && (match quietB o.op with | true => (match depsL i 0 all [] with | D => D.all (fun j => !inL j done) && freeL lo all done D i o 0 all) | false => soleL done i 0 all) && orderP lo all (i :: done) r
    | none => false
def pairL (done cs : List Nat) : Nat → List Oper → Bool
  | _, [] => true
  | q, o :: r => (inL q cs || inL q done || !readyL o done) && pairL done cs (q + 1) r
def onL (all : List Oper) (done : List Nat) (i : Nat) : Bool := match all[i]? with
  | some o => !inL i done && readyL o done
  | none => false
def treeOk (lo : Bool) (all : List Oper) (done : List Nat) : OT → Bool
  | .lin l => orderOk lo all done l
  | .fork l i a j b => orderP lo all done l && (onL all (l.reverse ++ done) i && onL all (l.reverse ++ done) j && pairL (l.reverse ++ done) [i, j] 0 all) && (treeOk lo all (i :: (l.reverse ++ done)) a && treeOk lo all (j :: (l.reverse ++ done)) b)
  | .fork3 l i a j b k c => orderP lo all done l && (onL all (l.reverse ++ done) i && onL all (l.reverse ++ done) j && onL all (l.reverse ++ done) k && pairL (l.reverse ++ done) [i, j, k] 0 all) && (treeOk lo all (i :: (l.reverse ++ done)) a && treeOk lo all (j :: (l.reverse ++ done)) b && treeOk lo all (k :: (l.reverse ++ done)) c)

theorem looksL_spec {ops : Array Oper} {o : Oper} {d : Nat} (h : looksL ops.toList o d = false) : d ∉ o.looksAt ops := by
  intro hm
  unfold Oper.looksAt at hm
  simp only [looksL, Bool.or_eq_false_iff] at h
  rcases List.mem_append.1 hm with hm | hm
  · obtain ⟨x, hx, e⟩ := List.mem_filterMap.1 hm
    have := List.any_eq_false.1 h.1 x hx
    cases x with
    | tmp t => simp at e; subst e; simp at this
    | _ => cases e
  · have h2 := h.2
    split at hm
    · rename_i g wt hg
      rw [hg] at h2
      simp only [guardDst, Array.getElem?_toList] at h2
      cases hgo : ops[g]? with
      | none => rw [hgo] at hm; simp at hm
      | some og =>
        rw [hgo] at hm h2
        simp at hm
        simp only [hm] at h2
        simp at h2
    · simp at hm

theorem apartL_spec {ops : Array Oper} {x y : Oper} (h : apartL ops.toList x y = true) : x.apart ops y = true := by
  unfold apartL at h
  unfold Oper.apart
  rw [Bool.and_eq_true] at h ⊢
  refine ⟨?_, ?_⟩
  · cases hx : x.dst with
    | none => rfl
    | some d =>
      have h1 := h.1
      rw [hx] at h1
      simp only [Bool.and_eq_true, Bool.not_eq_true'] at h1
      have h2 := looksL_spec h1.1
      have h3 : y.dst ≠ some d := by
        intro e
        have := h1.2
        simp [isDst, e] at this
      simp only [Bool.and_eq_true, Bool.not_eq_true', List.contains_eq_mem, decide_eq_false_iff_not, bne_iff_ne, ne_eq]
      exact ⟨h2, h3⟩
  · cases hy : y.dst with
    | none => rfl
    | some d =>
      have h1 := h.2
      rw [hy] at h1
      simp only [Bool.not_eq_true'] at h1
      have h2 := looksL_spec h1
      simp only [Bool.not_eq_true', List.contains_eq_mem, decide_eq_false_iff_not]
      exact h2

theorem hangs_mono {i : Nat} {D D' : List Nat} (h : ∀ q ∈ D, q ∈ D') {o : Oper} (ho : hangs i D o = true) : hangs i D' o = true := by
  obtain ⟨e, he, h2⟩ := List.any_eq_true.1 ho
  refine List.any_eq_true.2 ⟨e, he, ?_⟩
  rw [Bool.and_eq_true, Bool.or_eq_true] at h2 ⊢
  exact ⟨h2.1, h2.2.imp id fun h3 => (inL_iff _ _).2 (h _ ((inL_iff _ _).1 h3))⟩
theorem depsL_mono {i : Nat} : ∀ {r : List Oper} {j : Nat} {D : List Nat}, ∀ q ∈ D, q ∈ depsL i j r D
  | [], j, D, q, h => h
  | o :: r, j, D, q, h => by
    rw [depsL]
    refine depsL_mono q ?_
    split
    · exact List.mem_cons_of_mem _ h
    · exact h
theorem depsL_spec {all : List Oper} {i : Nat} : ∀ {r : List Oper} {j : Nat} {D : List Nat}, all.drop j = r → (∀ q ∈ D, ∃ o, all[q]? = some o ∧ hangs i D o = true) → ∀ q ∈ depsL i j r D, ∃ o, all[q]? = some o ∧ hangs i (depsL i j r D) o = true
  | [], j, D, hr, hD, q, hq => hD q hq
  | o :: r, j, D, hr, hD, q, hq => by
    rw [depsL] at hq ⊢
    have ho : all[j]? = some o := by
      have := List.getElem?_drop (xs := all) (i := j) (j := 0)
      rw [hr] at this
      simpa using this.symm
    have hr' : all.drop (j + 1) = r := by
      have := List.drop_drop (i := 1) (j := j) (l := all)
      rw [hr] at this
      simpa using this.symm
    refine depsL_spec hr' ?_ q hq
    split
    · rename_i hh
      intro q hq
      rcases List.mem_cons.1 hq with rfl | hq
      · exact ⟨o, ho, hangs_mono (fun q h => List.mem_cons_of_mem _ h) hh⟩
      · obtain ⟨o', h1, h2⟩ := hD q hq
        exact ⟨o', h1, hangs_mono (fun q h => List.mem_cons_of_mem _ h) h2⟩
    · exact hD
theorem freeL_spec {lo : Bool} {all : List Oper} {done : List Nat} {D : List Nat} {i : Nat} {oi : Oper} : ∀ {l : List Oper} {k : Nat}, freeL lo all done D i oi k l = true → ∀ (j : Nat) (o : Oper), l[j]? = some o →
    (Nat.beq (k + j) i || inL (k + j) done || inL (k + j) D || (apartL all oi o && (!readsB oi.op || !effX lo o.op))) = true
  | [], k, _, j, o, h => by simp at h
  | x :: r, k, hf, j, o, h => by
    simp only [freeL] at hf
    rw [Bool.and_eq_true] at hf
    cases j with
    | zero => simp at h; subst h; exact hf.1
    | succ j =>
      have := freeL_spec hf.2 j o (by simpa using h)
      rw [show k + 1 + j = k + (j + 1) by omega] at this
      exact this
theorem soleL_spec {done : List Nat} {i : Nat} : ∀ {l : List Oper} {k : Nat}, soleL done i k l = true → ∀ (j : Nat) (o : Oper), l[j]? = some o → (Nat.beq (k + j) i || inL (k + j) done || !readyL o done) = true
  | [], k, _, j, o, h => by simp at h
  | x :: r, k, hf, j, o, h => by
    simp only [soleL] at hf
    rw [Bool.and_eq_true] at hf
    cases j with
    | zero => simp at h; subst h; exact hf.1
    | succ j =>
      have := soleL_spec hf.2 j o (by simpa using h)
      rw [show k + 1 + j = k + (j + 1) by omega] at this
      exact this

/-- 'listed' is 'done' -/
structure Lists (ops : Array Oper) (done : List Nat) (listed : Array Bool) : Prop where
  size : listed.size = ops.size
  get : ∀ j, j < ops.size → listed.getD j false = inL j done

theorem Lists.getT {ops : Array Oper} {done : List Nat} {listed : Array Bool} (h : Lists ops done listed) {j : Nat} (hj : j < ops.size) : listed.getD j true = inL j done := by
  rw [← h.get j hj]
  have : j < listed.size := by rw [h.size]; exact hj
  simp [Array.getD, this]

theorem Lists.next {ops : Array Oper} {done : List Nat} {listed : Array Bool} (h : Lists ops done listed) (i : Nat) (hi : i < ops.size) : Lists ops (i :: done) (listed.setIfInBounds i true) := by
  refine ⟨by simp [h.size], fun j hj => ?_⟩
  simp only [inL]
  by_cases e : i = j
  · subst e
    have : i < listed.size := by rw [h.size]; exact hi
    simp [this]
  · rw [getD_set_ne false e, h.get j hj]
    have : Nat.beq i j = false := by
      cases hb : Nat.beq i j with
      | false => rfl
      | true => exact absurd (Nat.eq_of_beq_eq_true hb) e
    rw [this]

theorem readyL_iff {ops : Array Oper} {done : List Nat} {listed : Array Bool} (h : Lists ops done listed) (hdone : ∀ j ∈ done, j < ops.size) {o : Oper} :
    readyL o done = true ↔ ∀ e ∈ o.after, Region.binds .any e = true → listed.getD e.on false = true := by
  have conv : ∀ k, listed.getD k false = inL k done := by
    intro k
    by_cases hk : k < ops.size
    · exact h.get k hk
    · have h1 : listed.getD k false = false := by
        have : ¬ k < listed.size := by rw [h.size]; exact hk
        simp [Array.getD, this]
      rw [h1]
      cases hi : inL k done with
      | false => rfl
      | true => exact absurd (hdone k ((inL_iff k done).1 hi)) hk
  unfold readyL
  rw [List.all_eq_true]
  constructor
  · intro hall e he hb
    have := hall e (by rw [Array.mem_toList_iff]; exact he)
    rw [hb] at this
    simp at this
    rw [conv]; exact this
  · intro hall e he
    cases hb : Region.binds .any e with
    | false => rfl
    | true =>
      have := hall e (by rw [← Array.mem_toList_iff]; exact he) hb
      rw [conv] at this
      simp [this]

theorem draw_ops {lo : Bool} {E : Env} (hE : EOk E) {H : Hint} {ops : Array Oper} {X : Ctx} {K : St → Prop} {Q : Exit → Act → World → Prop} (hN : ∀ o ∈ ops.toList, ∀ k, o.dst = some k → k < X.N) (hsel : ops.toList.all notSel = true)
    (hQ : ∀ c a w, ¬ Q (.panic c) a w) (hn : ∀ σ' ρ' a' w', K σ' → RelF X ρ' σ' a' w' → Q .normal a' w') :
    ∀ (l : List Nat) (done : List Nat) (listed : Array Bool) (fuel : Nat) (σ : St) (ρ : Rho) (a : Act) (w : World), Lists ops done listed → (∀ j ∈ done, j < ops.size) → orderOk lo ops.toList done l = true → l.length ≤ fuel →
      RelF X ρ σ a w → opsK E H (!lo) ops.toList (pickOps ops.toList l) σ K → wpAnyM lo E.P .any ops Q fuel listed a w := by
  have hs : ∀ (j : Nat) (o : Oper) cs b, ops[j]? = some o → o.op ≠ .select cs b := by
    intro j o cs b hj e
    have := List.all_eq_true.1 hsel o (by rw [Array.mem_toList_iff]; exact Array.mem_of_getElem? hj)
    simp [notSel, e] at this
  intro l
  induction l with
  | nil =>
    intro done listed fuel σ ρ a w hL hdone hok _ hF hK
    have hr : Region.ready .any ops listed = [] := by
      apply List.eq_nil_iff_forall_not_mem.2
      intro j hj
      obtain ⟨h1, o, ho, _⟩ := mem_ready.1 hj
      have hjl : j < ops.size := (Array.getElem?_eq_some_iff.1 ho).1
      rw [hL.getT hjl] at h1
      have := List.all_eq_true.1 hok j (by simp; exact hjl)
      rw [h1] at this
      cases this
    have hq := hn _ _ _ _ hK hF
    cases fuel with
    | zero => exact ⟨hr, hq⟩
    | succ fuel => exact ⟨fun _ => hq, by rw [hr]; simp⟩
  | cons i l ih =>
    intro done listed fuel σ ρ a w hL hdone hok hfuel hF hK
    simp only [orderOk] at hok
    simp only [pickOps] at hK
    cases hi : ops[i]? with
    | none => rw [Array.getElem?_toList, hi] at hok; cases hok
    | some o =>
      rw [Array.getElem?_toList, hi] at hok hK
      simp only [Bool.and_eq_true, Bool.not_eq_true'] at hok
      obtain ⟨⟨⟨hnd, hrd⟩, hkind⟩, hrest⟩ := hok
      have hil : i < ops.size := (Array.getElem?_eq_some_iff.1 hi).1
      have hd := hN o (by rw [Array.mem_toList_iff]; exact Array.mem_of_getElem? hi)
      have hready : i ∈ Region.ready .any ops listed := mem_ready.2 ⟨by rw [hL.getT hil]; exact hnd, o, hi, (readyL_iff hL hdone).1 hrd⟩
      have hdone' : ∀ j ∈ i :: done, j < ops.size := by
        intro j hj
        rcases List.mem_cons.1 hj with rfl | hj
        · exact hil
        · exact hdone j hj
      obtain ⟨fuel, rfl⟩ : ∃ f, fuel = f + 1 := ⟨fuel - 1, by simp at hfuel; omega⟩
      have hfuel' : l.length ≤ fuel := by simp at hfuel; omega
      have hL' := hL.next i hil
      cases hq : quietB o.op with
      | true =>
        rw [hq] at hkind
        dsimp only at hkind
        rw [Bool.and_eq_true] at hkind
        have hDs := depsL_spec (all := ops.toList) (i := i) (r := ops.toList) (j := 0) (D := []) (by simp) (by simp)
        generalize hDe : depsL i 0 ops.toList [] = D at hkind hDs
        have hD : ∀ j oj, ops[j]? = some oj → j ∈ D → ∃ e ∈ oj.after, Region.binds .any e = true ∧ (e.on = i ∨ e.on ∈ D) := by
          intro j oj hj hjD
          obtain ⟨o', h1, h2⟩ := hDs j hjD
          rw [Array.getElem?_toList, hj] at h1
          cases h1
          obtain ⟨e, he, h3⟩ := List.any_eq_true.1 h2
          rw [Bool.and_eq_true, Bool.or_eq_true] at h3
          exact ⟨e, by rw [← Array.mem_toList_iff]; exact he, h3.1, h3.2.imp Nat.eq_of_beq_eq_true (inL_iff _ _).1⟩
        have hDl : ∀ j, j ∈ D → j < listed.size ∧ listed.getD j true = false := by
          intro j hjD
          obtain ⟨o', h1, h2⟩ := hDs j hjD
          rw [Array.getElem?_toList] at h1
          have hjl : j < ops.size := (Array.getElem?_eq_some_iff.1 h1).1
          have := List.all_eq_true.1 hkind.1 j hjD
          refine ⟨by rw [hL.size]; exact hjl, ?_⟩
          rw [hL.getT hjl]
          simpa using this
        have hfree : ∀ j oj, ops[j]? = some oj → j ≠ i → listed.getD j true = false → ¬ j ∈ D → o.apart ops oj = true ∧ (readsB o.op = true → effX lo oj.op = false) := by
          intro j oj hj hji hun hno
          have hjl : j < ops.size := (Array.getElem?_eq_some_iff.1 hj).1
          rw [hL.getT hjl] at hun
          have := freeL_spec hkind.2 j oj (by rw [Array.getElem?_toList]; exact hj)
          rw [Nat.zero_add, hun] at this
          have hb : Nat.beq j i = false := by
            cases hb : Nat.beq j i with
            | false => rfl
            | true => exact absurd (Nat.eq_of_beq_eq_true hb) hji
          rw [hb] at this
          simp only [Bool.false_or, Bool.or_eq_true] at this
          rcases this with this | this
          · exact absurd ((inL_iff _ _).1 this) hno
          · rw [Bool.and_eq_true] at this
            refine ⟨apartL_spec this.1, fun hr => ?_⟩
            have := this.2
            rw [hr] at this
            simpa using this
        rcases guard_step hd hF hK with ⟨hw, σ1, hF1, hK1⟩ | ⟨hw, σ1, hF1, hK1⟩
        · obtain ⟨x, v, h1, h2, h3⟩ := opK_take hE hq hF1 hK1
          refine wpAnyM_first (rd := readsB o.op) (v := v) (· ∈ D) hD hi hs hQ fuel listed a w hDl hfree hready (.inl ⟨hw, fun w' hw' => h2 w' hw'⟩) ?_
          exact ih _ _ _ _ _ _ _ hL' hdone' hrest hfuel' (hF1.put h3 hd) h1
        · refine wpAnyM_first (rd := readsB o.op) (v := undef) (· ∈ D) hD hi hs hQ fuel listed a w hDl hfree hready (.inr ⟨hw, rfl⟩) ?_
          exact ih _ _ _ _ _ _ _ hL' hdone' hrest hfuel' hF1 hK1
      | false =>
        rw [hq] at hkind
        refine ⟨fun h => (by rw [h] at hready; cases hready), fun j hj => ?_⟩
        have hji : j = i := by
          obtain ⟨h1, oj, hoj, hall⟩ := mem_ready.1 hj
          have hjl : j < ops.size := (Array.getElem?_eq_some_iff.1 hoj).1
          rw [hL.getT hjl] at h1
          have := soleL_spec hkind j oj (by rw [Array.getElem?_toList]; exact hoj)
          rw [Nat.zero_add, h1, (readyL_iff hL hdone).2 hall] at this
          simp at this
          exact Nat.eq_of_beq_eq_true (by simpa using this)
        subst hji
        refine step_op hE hi hd hF hK fun σ' ρ' a' w' h1 h2 h3 => ⟨fun he => ?_, ?_⟩
        · simp only [effAt, hi] at he
          exact h3 (by simpa using he)
        · exact ih _ _ _ _ _ _ _ hL' hdone' hrest hfuel' h2 h1

theorem draw_pre {lo : Bool} {E : Env} (hE : EOk E) {H : Hint} {ops : Array Oper} {X : Ctx} {K' : St → Prop} {m : Nat} {Q : Exit → Act → World → Prop} (hN : ∀ o ∈ ops.toList, ∀ k, o.dst = some k → k < X.N) (hsel : ops.toList.all notSel = true)
    (hQ : ∀ c a w, ¬ Q (.panic c) a w) :
    ∀ (l : List Nat) (done : List Nat) (listed : Array Bool) (fuel : Nat) (σ : St) (ρ : Rho) (a : Act) (w : World), Lists ops done listed → (∀ j ∈ done, j < ops.size) → orderP lo ops.toList done l = true → l.length + m ≤ fuel →
      (∀ (listed' : Array Bool) (fuel' : Nat) (σ' : St) (ρ' : Rho) (a' : Act) (w' : World), Lists ops (l.reverse ++ done) listed' → (∀ j ∈ l.reverse ++ done, j < ops.size) → m ≤ fuel' → RelF X ρ' σ' a' w' → K' σ' → wpAnyM lo E.P .any ops Q fuel' listed' a' w') →
      RelF X ρ σ a w → opsK E H (!lo) ops.toList (pickOps ops.toList l) σ K' → wpAnyM lo E.P .any ops Q fuel listed a w := by
  have hs : ∀ (j : Nat) (o : Oper) cs b, ops[j]? = some o → o.op ≠ .select cs b := by
    intro j o cs b hj e
    have := List.all_eq_true.1 hsel o (by rw [Array.mem_toList_iff]; exact Array.mem_of_getElem? hj)
    simp [notSel, e] at this
  intro l
  induction l with
  | nil =>
    intro done listed fuel σ ρ a w hL hdone hok hfuel hnx hF hK
    exact hnx listed fuel σ ρ a w (by simpa using hL) (by simpa using hdone) (by simpa using hfuel) hF hK
  | cons i l ih =>
    intro done listed fuel σ ρ a w hL hdone hok hfuel hnx0 hF hK
    have hnx : ∀ (listed' : Array Bool) (fuel' : Nat) (σ' : St) (ρ' : Rho) (a' : Act) (w' : World), Lists ops (l.reverse ++ i :: done) listed' → (∀ j ∈ l.reverse ++ i :: done, j < ops.size) → m ≤ fuel' → RelF X ρ' σ' a' w' → K' σ' → wpAnyM lo E.P .any ops Q fuel' listed' a' w' := by
      simpa [List.reverse_cons, List.append_assoc] using hnx0
    simp only [orderP] at hok
    simp only [pickOps] at hK
    cases hi : ops[i]? with
    | none => rw [Array.getElem?_toList, hi] at hok; cases hok
    | some o =>
      rw [Array.getElem?_toList, hi] at hok hK
      simp only [Bool.and_eq_true, Bool.not_eq_true'] at hok
      obtain ⟨⟨⟨hnd, hrd⟩, hkind⟩, hrest⟩ := hok
      have hil : i < ops.size := (Array.getElem?_eq_some_iff.1 hi).1
      have hd := hN o (by rw [Array.mem_toList_iff]; exact Array.mem_of_getElem? hi)
      have hready : i ∈ Region.ready .any ops listed := mem_ready.2 ⟨by rw [hL.getT hil]; exact hnd, o, hi, (readyL_iff hL hdone).1 hrd⟩
      have hdone' : ∀ j ∈ i :: done, j < ops.size := by
        intro j hj
        rcases List.mem_cons.1 hj with rfl | hj
        · exact hil
        · exact hdone j hj
      obtain ⟨fuel, rfl⟩ : ∃ f, fuel = f + 1 := ⟨fuel - 1, by simp at hfuel; omega⟩
      have hfuel' : l.length + m ≤ fuel := by simp at hfuel; omega
      have hL' := hL.next i hil
      cases hq : quietB o.op with
      | true =>
        rw [hq] at hkind
        dsimp only at hkind
        rw [Bool.and_eq_true] at hkind
        have hDs := depsL_spec (all := ops.toList) (i := i) (r := ops.toList) (j := 0) (D := []) (by simp) (by simp)
        generalize hDe : depsL i 0 ops.toList [] = D at hkind hDs
        have hD : ∀ j oj, ops[j]? = some oj → j ∈ D → ∃ e ∈ oj.after, Region.binds .any e = true ∧ (e.on = i ∨ e.on ∈ D) := by
          intro j oj hj hjD
          obtain ⟨o', h1, h2⟩ := hDs j hjD
          rw [Array.getElem?_toList, hj] at h1
          cases h1
          obtain ⟨e, he, h3⟩ := List.any_eq_true.1 h2
          rw [Bool.and_eq_true, Bool.or_eq_true] at h3
          exact ⟨e, by rw [← Array.mem_toList_iff]; exact he, h3.1, h3.2.imp Nat.eq_of_beq_eq_true (inL_iff _ _).1⟩
        have hDl : ∀ j, j ∈ D → j < listed.size ∧ listed.getD j true = false := by
          intro j hjD
          obtain ⟨o', h1, h2⟩ := hDs j hjD
          rw [Array.getElem?_toList] at h1
          have hjl : j < ops.size := (Array.getElem?_eq_some_iff.1 h1).1
          have := List.all_eq_true.1 hkind.1 j hjD
          refine ⟨by rw [hL.size]; exact hjl, ?_⟩
          rw [hL.getT hjl]
          simpa using this
        have hfree : ∀ j oj, ops[j]? = some oj → j ≠ i → listed.getD j true = false → ¬ j ∈ D → o.apart ops oj = true ∧ (readsB o.op = true → effX lo oj.op = false) := by
          intro j oj hj hji hun hno
          have hjl : j < ops.size := (Array.getElem?_eq_some_iff.1 hj).1
          rw [hL.getT hjl] at hun
          have := freeL_spec hkind.2 j oj (by rw [Array.getElem?_toList]; exact hj)
          rw [Nat.zero_add, hun] at this
          have hb : Nat.beq j i = false := by
            cases hb : Nat.beq j i with
            | false => rfl
            | true => exact absurd (Nat.eq_of_beq_eq_true hb) hji
          rw [hb] at this
          simp only [Bool.false_or, Bool.or_eq_true] at this
          rcases this with this | this
          · exact absurd ((inL_iff _ _).1 this) hno
          · rw [Bool.and_eq_true] at this
            refine ⟨apartL_spec this.1, fun hr => ?_⟩
            have := this.2
            rw [hr] at this
            simpa using this
        rcases guard_step hd hF hK with ⟨hw, σ1, hF1, hK1⟩ | ⟨hw, σ1, hF1, hK1⟩
        · obtain ⟨x, v, h1, h2, h3⟩ := opK_take hE hq hF1 hK1
          refine wpAnyM_first (rd := readsB o.op) (v := v) (· ∈ D) hD hi hs hQ fuel listed a w hDl hfree hready (.inl ⟨hw, fun w' hw' => h2 w' hw'⟩) ?_
          exact ih _ _ _ _ _ _ _ hL' hdone' hrest hfuel' hnx (hF1.put h3 hd) h1
        · refine wpAnyM_first (rd := readsB o.op) (v := undef) (· ∈ D) hD hi hs hQ fuel listed a w hDl hfree hready (.inr ⟨hw, rfl⟩) ?_
          exact ih _ _ _ _ _ _ _ hL' hdone' hrest hfuel' hnx hF1 hK1
      | false =>
        rw [hq] at hkind
        refine ⟨fun h => (by rw [h] at hready; cases hready), fun j hj => ?_⟩
        have hji : j = i := by
          obtain ⟨h1, oj, hoj, hall⟩ := mem_ready.1 hj
          have hjl : j < ops.size := (Array.getElem?_eq_some_iff.1 hoj).1
          rw [hL.getT hjl] at h1
          have := soleL_spec hkind j oj (by rw [Array.getElem?_toList]; exact hoj)
          rw [Nat.zero_add, h1, (readyL_iff hL hdone).2 hall] at this
          simp at this
          exact Nat.eq_of_beq_eq_true (by simpa using this)
        subst hji
        refine step_op hE hi hd hF hK fun σ' ρ' a' w' h1 h2 h3 => ⟨fun he => ?_, ?_⟩
        · simp only [effAt, hi] at he
          exact h3 (by simpa using he)
        · exact ih _ _ _ _ _ _ _ hL' hdone' hrest hfuel' hnx h2 h1


theorem pairL_spec {done cs : List Nat} : ∀ {l : List Oper} {k : Nat}, pairL done cs k l = true → ∀ (q : Nat) (o : Oper), l[q]? = some o → (inL (k + q) cs || inL (k + q) done || !readyL o done) = true
  | [], k, _, q, o, h => by cases h
  | x :: r, k, hf, q, o, h => by
    simp only [pairL] at hf
    rw [Bool.and_eq_true] at hf
    cases q with
    | zero => simp at h; subst h; exact hf.1
    | succ q =>
      have := pairL_spec hf.2 q o (by simpa using h)
      rw [show k + 1 + q = k + (q + 1) by omega] at this
      exact this
theorem draw_tree {lo : Bool} {E : Env} (hE : EOk E) {H : Hint} {ops : Array Oper} {X : Ctx} {K : St → Prop} {Q : Exit → Act → World → Prop} (hN : ∀ o ∈ ops.toList, ∀ k, o.dst = some k → k < X.N) (hsel : ops.toList.all notSel = true)
    (hQ : ∀ c a w, ¬ Q (.panic c) a w) (hn : ∀ σ' ρ' a' w', K σ' → RelF X ρ' σ' a' w' → Q .normal a' w') :
    ∀ (t : OT) (done : List Nat) (listed : Array Bool) (fuel : Nat) (σ : St) (ρ : Rho) (a : Act) (w : World), Lists ops done listed → (∀ j ∈ done, j < ops.size) → treeOk lo ops.toList done t = true → t.depth ≤ fuel →
      RelF X ρ σ a w → treeK E H (!lo) ops.toList t σ K → wpAnyM lo E.P .any ops Q fuel listed a w
  | .lin l, done, listed, fuel, σ, ρ, a, w, hL, hd, hok, hf, hF, hK => draw_ops hE hN hsel hQ hn l done listed fuel σ ρ a w hL hd hok hf hF hK
  | .fork l i x j y, done, listed, fuel, σ, ρ, a, w, hL, hd, hok, hf, hF, hK => by
    simp only [treeOk, Bool.and_eq_true] at hok
    obtain ⟨⟨hpre, ⟨hi, hj⟩, hpair⟩, hx, hy⟩ := hok
    simp only [OT.depth] at hf
    refine draw_pre (m := max x.depth y.depth + 1) hE hN hsel hQ l done listed fuel σ ρ a w hL hd hpre hf ?_ hF hK
    intro listed' fuel' σ' ρ' a' w' hL' hd' hm hF' hK'
    generalize l.reverse ++ done = dn at hi hj hpair hx hy hL' hd'
    obtain ⟨fuel', rfl⟩ : ∃ f, fuel' = f + 1 := ⟨fuel' - 1, by omega⟩
    have on : ∀ q, onL ops.toList dn q = true → ∃ o, ops[q]? = some o ∧ inL q dn = false ∧ readyL o dn = true := by
      intro q hq
      unfold onL at hq
      rw [Array.getElem?_toList] at hq
      cases ho : ops[q]? with
      | none => rw [ho] at hq; cases hq
      | some o =>
        rw [ho] at hq
        simp only [Bool.and_eq_true, Bool.not_eq_true'] at hq
        exact ⟨o, rfl, hq.1, hq.2⟩
    obtain ⟨oi, hoi, hni, hri⟩ := on i hi
    obtain ⟨oj, hoj, hnj, hrj⟩ := on j hj
    have hil : i < ops.size := (Array.getElem?_eq_some_iff.1 hoi).1
    have hready : i ∈ Region.ready .any ops listed' := mem_ready.2 ⟨by rw [hL'.getT hil]; exact hni, oi, hoi, (readyL_iff hL' hd').1 hri⟩
    have go : ∀ (q : Nat) (oq : Oper) (t : OT), ops[q]? = some oq → t.depth ≤ fuel' → treeOk lo ops.toList (q :: dn) t = true → opsK E H (!lo) ops.toList (pickOps ops.toList [q]) σ' (fun σ => treeK E H (!lo) ops.toList t σ K) →
        (∀ (listed : Array Bool) (σ : St) (ρ : Rho) (a : Act) (w : World), Lists ops (q :: dn) listed → (∀ j ∈ q :: dn, j < ops.size) → RelF X ρ σ a w → treeK E H (!lo) ops.toList t σ K → wpAnyM lo E.P .any ops Q fuel' listed a w) →
        wpOp E.P ops Q q (fun a'' w'' => (effAt lo ops q = false → Mono w' w'') ∧ wpAnyM lo E.P .any ops Q fuel' (listed'.setIfInBounds q true) a'' w'') a' w' := by
      intro q oq t hoq hdep htok hk ih
      have hql : q < ops.size := (Array.getElem?_eq_some_iff.1 hoq).1
      have hdq := hN oq (by rw [Array.mem_toList_iff]; exact Array.mem_of_getElem? hoq)
      simp only [pickOps, Array.getElem?_toList, hoq] at hk
      refine step_op hE hoq hdq hF' hk fun σ'' ρ'' a'' w'' h1 h2 h3 => ⟨fun he => ?_, ?_⟩
      · simp only [effAt, hoq] at he
        exact h3 (by simpa using he)
      · refine ih _ _ _ _ _ (hL'.next q hql) ?_ h2 h1
        intro k hk
        rcases List.mem_cons.1 hk with rfl | hk
        · exact hql
        · exact hd' k hk
    refine ⟨fun h => (by rw [h] at hready; cases hready), fun q hq => ?_⟩
    have hqe : q = i ∨ q = j := by
      obtain ⟨h1, oq, hoq, hall⟩ := mem_ready.1 hq
      have hql : q < ops.size := (Array.getElem?_eq_some_iff.1 hoq).1
      rw [hL'.getT hql] at h1
      have := pairL_spec hpair q oq (by rw [Array.getElem?_toList]; exact hoq)
      rw [Nat.zero_add, h1, (readyL_iff hL' hd').2 hall] at this
      simp only [Bool.or_false, Bool.not_true] at this
      simpa using (inL_iff _ _).1 this
    rcases hqe with rfl | rfl
    · exact go q oi x hoi (by omega) hx hK'.1 fun listed σ ρ a w h1 h2 h3 h4 => draw_tree hE hN hsel hQ hn x _ listed _ σ ρ a w h1 h2 hx (by omega) h3 h4
    · exact go q oj y hoj (by omega) hy hK'.2 fun listed σ ρ a w h1 h2 h3 h4 => draw_tree hE hN hsel hQ hn y _ listed _ σ ρ a w h1 h2 hy (by omega) h3 h4
  | .fork3 l i x j y k z, done, listed, fuel, σ, ρ, a, w, hL, hd, hok, hf, hF, hK => by
    simp only [treeOk, Bool.and_eq_true] at hok
    obtain ⟨⟨hpre, ⟨⟨hi, hj⟩, hk⟩, hpair⟩, ⟨hx, hy⟩, hz⟩ := hok
    simp only [OT.depth] at hf
    refine draw_pre (m := max x.depth (max y.depth z.depth) + 1) hE hN hsel hQ l done listed fuel σ ρ a w hL hd hpre hf ?_ hF hK
    intro listed' fuel' σ' ρ' a' w' hL' hd' hm hF' hK'
    generalize l.reverse ++ done = dn at hi hj hk hpair hx hy hz hL' hd'
    obtain ⟨fuel', rfl⟩ : ∃ f, fuel' = f + 1 := ⟨fuel' - 1, by omega⟩
    have on : ∀ q, onL ops.toList dn q = true → ∃ o, ops[q]? = some o ∧ inL q dn = false ∧ readyL o dn = true := by
      intro q hq
      unfold onL at hq
      rw [Array.getElem?_toList] at hq
      cases ho : ops[q]? with
      | none => rw [ho] at hq; cases hq
      | some o =>
        rw [ho] at hq
        simp only [Bool.and_eq_true, Bool.not_eq_true'] at hq
        exact ⟨o, rfl, hq.1, hq.2⟩
    obtain ⟨oi, hoi, hni, hri⟩ := on i hi
    obtain ⟨oj, hoj, hnj, hrj⟩ := on j hj
    obtain ⟨ok, hok, hnk, hrk⟩ := on k hk
    have hil : i < ops.size := (Array.getElem?_eq_some_iff.1 hoi).1
    have hready : i ∈ Region.ready .any ops listed' := mem_ready.2 ⟨by rw [hL'.getT hil]; exact hni, oi, hoi, (readyL_iff hL' hd').1 hri⟩
    have go : ∀ (q : Nat) (oq : Oper) (t : OT), ops[q]? = some oq → t.depth ≤ fuel' → treeOk lo ops.toList (q :: dn) t = true → opsK E H (!lo) ops.toList (pickOps ops.toList [q]) σ' (fun σ => treeK E H (!lo) ops.toList t σ K) →
        (∀ (listed : Array Bool) (σ : St) (ρ : Rho) (a : Act) (w : World), Lists ops (q :: dn) listed → (∀ j ∈ q :: dn, j < ops.size) → RelF X ρ σ a w → treeK E H (!lo) ops.toList t σ K → wpAnyM lo E.P .any ops Q fuel' listed a w) →
        wpOp E.P ops Q q (fun a'' w'' => (effAt lo ops q = false → Mono w' w'') ∧ wpAnyM lo E.P .any ops Q fuel' (listed'.setIfInBounds q true) a'' w'') a' w' := by
      intro q oq t hoq hdep htok hk ih
      have hql : q < ops.size := (Array.getElem?_eq_some_iff.1 hoq).1
      have hdq := hN oq (by rw [Array.mem_toList_iff]; exact Array.mem_of_getElem? hoq)
      simp only [pickOps, Array.getElem?_toList, hoq] at hk
      refine step_op hE hoq hdq hF' hk fun σ'' ρ'' a'' w'' h1 h2 h3 => ⟨fun he => ?_, ?_⟩
      · simp only [effAt, hoq] at he
        exact h3 (by simpa using he)
      · refine ih _ _ _ _ _ (hL'.next q hql) ?_ h2 h1
        intro k hk
        rcases List.mem_cons.1 hk with rfl | hk
        · exact hql
        · exact hd' k hk
    refine ⟨fun h => (by rw [h] at hready; cases hready), fun q hq => ?_⟩
    have hqe : q = i ∨ q = j ∨ q = k := by
      obtain ⟨h1, oq, hoq, hall⟩ := mem_ready.1 hq
      have hql : q < ops.size := (Array.getElem?_eq_some_iff.1 hoq).1
      rw [hL'.getT hql] at h1
      have := pairL_spec hpair q oq (by rw [Array.getElem?_toList]; exact hoq)
      rw [Nat.zero_add, h1, (readyL_iff hL' hd').2 hall] at this
      simp only [Bool.or_false, Bool.not_true] at this
      simpa using (inL_iff _ _).1 this
    rcases hqe with rfl | rfl | rfl
    · exact go q oi x hoi (by omega) hx hK'.1 fun listed σ ρ a w h1 h2 h3 h4 => draw_tree hE hN hsel hQ hn x _ listed _ σ ρ a w h1 h2 hx (by omega) h3 h4
    · exact go q oj y hoj (by omega) hy hK'.2.1 fun listed σ ρ a w h1 h2 h3 h4 => draw_tree hE hN hsel hQ hn y _ listed _ σ ρ a w h1 h2 hy (by omega) h3 h4
    · exact go q ok z hok (by omega) hz hK'.2.2 fun listed σ ρ a w h1 h2 h3 h4 => draw_tree hE hN hsel hQ hn z _ listed _ σ ρ a w h1 h2 hz (by omega) h3 h4
theorem wp_tree {lo : Bool} {E : Env} (hE : EOk E) {H : Hint} {id : Nat} {ops : Array Oper} {t : OT} {X : Ctx} {K : St → Prop} {Q : Exit → Act → World → Prop} (hN : ∀ o ∈ ops.toList, ∀ k, o.dst = some k → k < X.N) (hsel : ops.toList.all notSel = true)
    (hok : treeOk lo ops.toList [] t = true) (hlen : t.depth ≤ ops.size) (hQ : ∀ c a w, ¬ Q (.panic c) a w) (hn : ∀ σ' ρ' a' w', K σ' → RelF X ρ' σ' a' w' → Q .normal a' w')
    {σ : St} {ρ : Rho} {a : Act} {w : World} (hF : RelF X ρ σ a w) (hK : treeK E H (!lo) ops.toList t σ K) : (Code.region id ops true).wp E.P Q a w := by
  refine wp_region_any hE.mixed (wpAny_of_M _ _ _ _ (draw_tree hE hN hsel hQ hn t [] _ _ σ ρ a _ ⟨by simp, fun j hj => ?_⟩ (by simp) hok hlen (RelF.still (w := w) (w' := { w with drawn := w.drawn + 1 }) ⟨rfl, rfl, rfl, rfl⟩ hF) hK))
  simp [inL, hj]

theorem wp_draw {lo : Bool} {E : Env} (hE : EOk E) {H : Hint} {id : Nat} {ops : Array Oper} {l : List Nat} {X : Ctx} {K : St → Prop} {Q : Exit → Act → World → Prop} (hN : ∀ o ∈ ops.toList, ∀ k, o.dst = some k → k < X.N) (hsel : ops.toList.all notSel = true)
    (hok : orderOk lo ops.toList [] l = true) (hlen : l.length ≤ ops.size) (hQ : ∀ c a w, ¬ Q (.panic c) a w) (hn : ∀ σ' ρ' a' w', K σ' → RelF X ρ' σ' a' w' → Q .normal a' w')
    {σ : St} {ρ : Rho} {a : Act} {w : World} (hF : RelF X ρ σ a w) (hK : opsK E H (!lo) ops.toList (pickOps ops.toList l) σ K) : (Code.region id ops true).wp E.P Q a w := by
  refine wp_region_any hE.mixed (wpAny_of_M _ _ _ _ (draw_ops hE hN hsel hQ hn l [] _ _ σ ρ a _ ⟨by simp, fun j hj => ?_⟩ (by simp) hok hlen (RelF.still (w := w) (w' := { w with drawn := w.drawn + 1 }) ⟨rfl, rfl, rfl, rfl⟩ hF) hK))
  simp [inL, hj]

theorem wp_plain {E : Env} (hE : EOk E) {H : Hint} {dr : Bool} {id : Nat} {ops : Array Oper} {X : Ctx} {K : St → Prop} {Q : Exit → Act → World → Prop} (hN : ∀ o ∈ ops.toList, ∀ k, o.dst = some k → k < X.N)
    (hn : ∀ σ' ρ' a' w', K σ' → RelF X ρ' σ' a' w' → Q .normal a' w')
    {σ : St} {ρ : Rho} {a : Act} {w : World} (hF : RelF X ρ σ a w) (hK : opsK E H dr ops.toList ops.toList σ K) : (Code.region id ops false).wp E.P Q a w := by
  refine wp_region (seq_ops (H := H) (dr := dr) hE hN hn _ σ ρ a w hF ?_)
  rw [← Array.length_toList, pick_range]
  exact hK

end Go.Proofs.Ytjoiadaogppmkaa.Sh
