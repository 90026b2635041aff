/- A call: what is lent, what comes back. -/
import Derived.Test.YtjoiadaogppmkaaShArith
namespace Go.Proofs.Ytjoiadaogppmkaa.Sh
open Go
set_option linter.unusedVariables false
set_option linter.unusedSimpArgs false

/-! ## Lists of names -/
theorem idx_get {b : Nat} : ∀ {l : List Nat} {i : Nat}, idx b l = some i → l[i]? = some b
  | [], i, h => by simp [idx] at h
  | c :: r, i, h => by
    simp only [idx] at h
    cases hc : Nat.beq c b with
    | true =>
      rw [hc] at h
      simp at h; subst h
      rw [Nat.eq_of_beq_eq_true hc]; rfl
    | false =>
      rw [hc] at h
      simp only at h
      split at h
      · rename_i j e
        simp at h; subst h
        simpa using idx_get e
      · cases h
theorem idx_mem {b : Nat} : ∀ {l : List Nat}, b ∈ l → ∃ i, idx b l = some i
  | c :: r, h => by
    simp only [idx]
    cases hc : Nat.beq c b with
    | true => exact ⟨0, rfl⟩
    | false =>
      have hne : b ≠ c := fun e => by subst e; simp at hc
      rcases List.mem_cons.1 h with h | h
      · exact absurd h hne
      · obtain ⟨i, e⟩ := idx_mem h
        rw [e]
        exact ⟨i + 1, rfl⟩
theorem nodup_get {l : List Nat} (hn : l.Nodup) {i j b : Nat} (hi : l[i]? = some b) (hj : l[j]? = some b) : i = j := by
  induction l generalizing i j with
  | nil => simp at hi
  | cons c r ih =>
    rw [List.nodup_cons] at hn
    cases i with
    | zero =>
      simp at hi; subst hi
      cases j with
      | zero => rfl
      | succ j => simp at hj; exact absurd (List.mem_of_getElem? hj) hn.1
    | succ i =>
      simp at hi
      cases j with
      | zero => simp at hj; subst hj; exact absurd (List.mem_of_getElem? hi) hn.1
      | succ j => simp at hj; rw [ih hn.2 hi hj]
theorem idx_of {l : List Nat} (hn : l.Nodup) {i b : Nat} (hi : l[i]? = some b) : idx b l = some i := by
  obtain ⟨j, e⟩ := idx_mem (List.mem_of_getElem? hi)
  rw [e, nodup_get hn (idx_get e) hi]

theorem reach_nodup (h : Heap) : ∀ (n : Nat) (todo seen : List Nat), seen.Nodup → (reach h n todo seen).Nodup
  | 0, _, _, hs => hs
  | n + 1, [], _, hs => hs
  | n + 1, b :: todo, seen, hs => by
    simp only [reach]
    cases hb : inL b seen with
    | true => exact reach_nodup h n todo seen hs
    | false =>
      refine reach_nodup h n _ _ ?_
      rw [List.nodup_append]
      refine ⟨hs, by simp, fun x hx y hy => ?_⟩
      simp at hy; subst hy
      intro e; subst e
      rw [(inL_iff x seen).2 hx] at hb
      cases hb
theorem reach_lt {h : Heap} {N : Nat} (hbox : ∀ b, b < N → ∀ c ∈ refsB h[b]?, c < N) : ∀ (n : Nat) (todo seen : List Nat), (∀ b ∈ todo, b < N) → (∀ b ∈ seen, b < N) → ∀ b ∈ reach h n todo seen, b < N
  | 0, _, _, _, hs => hs
  | n + 1, [], _, _, hs => hs
  | n + 1, b :: todo, seen, ht, hs => by
    simp only [reach]
    cases hb : inL b seen with
    | true => exact reach_lt hbox n todo seen (fun c hc => ht c (by simp [hc])) hs
    | false =>
      refine reach_lt hbox n _ _ (fun c hc => ?_) (fun c hc => ?_)
      · rcases List.mem_append.1 hc with hc | hc
        · exact hbox b (ht b (by simp)) c hc
        · exact ht c (by simp [hc])
      · rcases List.mem_append.1 hc with hc | hc
        · exact hs c hc
        · simp at hc; subst hc; exact ht c (by simp)
theorem reach_seen (h : Heap) : ∀ (n : Nat) (todo seen : List Nat), ∃ more, reach h n todo seen = seen ++ more
  | 0, _, seen => ⟨[], by simp [reach]⟩
  | n + 1, [], seen => ⟨[], by simp [reach]⟩
  | n + 1, b :: todo, seen => by
    simp only [reach]
    cases inL b seen with
    | true => exact reach_seen h n todo seen
    | false =>
      obtain ⟨m, e⟩ := reach_seen h n (refsB h[b]? ++ todo) (seen ++ [b])
      exact ⟨b :: m, by rw [e]; simp⟩

theorem disj_spec : ∀ {l ids : List Nat}, disjL l ids = true → ∀ b ∈ l, b ∉ ids
  | [], ids, _, b, hb => by simp at hb
  | c :: r, ids, h, b, hb => by
    simp only [disjL] at h
    cases hc : inL c ids with
    | true => rw [hc] at h; cases h
    | false =>
      rw [hc] at h
      rcases List.mem_cons.1 hb with rfl | hb
      · intro hm; rw [(inL_iff b ids).2 hm] at hc; cases hc
      · exact disj_spec h b hb

theorem merge_get (ids : List Nat) (back : Nat → Option Nat) (lent1 : Heap) : ∀ (h : Heap) (k c : Nat), (mergeB ids back lent1 k h)[c]? = (h[c]?).map (mergeAt ids back lent1 (k + c))
  | [], k, c => by simp [mergeB]
  | x :: r, k, c => by
    cases c with
    | zero => simp only [mergeB, List.getElem?_cons_zero, Option.map_some, Nat.add_zero]
    | succ c =>
      simp only [mergeB, List.getElem?_cons_succ, merge_get ids back lent1 r (k + 1) c]
      rw [show k + 1 + c = k + (c + 1) by omega]
theorem merge_length (ids : List Nat) (back : Nat → Option Nat) (lent1 : Heap) : ∀ (h : Heap) (k : Nat), (mergeB ids back lent1 k h).length = h.length
  | [], k => rfl
  | x :: r, k => by simp [mergeB, merge_length ids back lent1 r]

theorem movedIds_spec : ∀ {ids : List Nat} {h : Heap} {i b : Nat} {x : Blk}, ids[i]? = some b → h[i]? = some x → isMoved x = true → b ∈ movedIds ids h
  | [], h, i, b, x, hi, _, _ => by simp at hi
  | c :: ids, [], i, b, x, _, hx, _ => by simp at hx
  | c :: ids, y :: h, i, b, x, hi, hx, hm => by
    simp only [movedIds]
    cases i with
    | zero =>
      simp at hi hx
      subst hi; subst hx
      rw [hm]
      simp
    | succ i =>
      have ih := movedIds_spec (ids := ids) (h := h) (i := i) (by simpa using hi) (by simpa using hx) hm
      cases isMoved y <;> simp [ih]

/-! ## Forms of blocks -/
theorem unmove_facts (x : Blk) : isFrz (unmoveB x) = isFrz x ∧ isMoved (unmoveB x) = false ∧ blkStride (unmoveB x) = blkStride x ∧ refsB (some (unmoveB x)) = refsB (some x) := by
  cases x with
  | row t l s => cases s <;> simp [unmoveB, isFrz, isMoved, blkStride, refsB]
  | box cs => simp [unmoveB, isFrz, isMoved, blkStride, refsB]
theorem remote_row (o : Blk) (t : Ty) (l : List t.D) (s : RS) : ∃ s', remoteB o (.row t l s) = .row t l s' ∧ isFrz (.row t l s') = isFrz (.row t l s) ∧ (isMoved (.row t l s') = false → isMoved o = false ∧ isMoved (.row t l s) = false) ∧ (s' = .var → s = .var) := by
  unfold remoteB
  cases ho : isMoved o with
  | false => exact ⟨s, rfl, rfl, fun h => ⟨rfl, h⟩, id⟩
  | true => cases s <;> exact ⟨_, rfl, rfl, (fun h => by simp [isMoved] at h), (fun h => by cases h)⟩

theorem RelB.status {w : World} {av : Nat → Prop} {ρ : Rho} {h : Heap} {b : Nat} {t : Ty} {l : List t.D} {s s' : RS} (hs : s' = .var → s = .var) (hB : RelB w av ρ h b (.row t l s)) : RelB w av ρ h b (.row t l s') :=
  ⟨hB.1, hB.2.1, fun e => hB.2.2 (hs e)⟩

/-! ## What bears no data that lead to memory -/
theorem RD.flat {w w' : World} {av av' : Nat → Prop} : ∀ (t : Ty), t.hasSl = false → ∀ (x : t.D) (vs : List Value), RD w av t x vs → RD w' av' t x vs
  | .int _, _, _, _, h => h
  | .bool, _, _, _, h => h
  | .sl a, h, _, _, _ => by simp [Ty.hasSl] at h
  | .pair a b, h, x, vs, ⟨l, r, e, h1, h2⟩ => by
    simp [Ty.hasSl] at h
    exact ⟨l, r, e, RD.flat a h.1 _ _ h1, RD.flat b h.2 _ _ h2⟩

theorem RelC.ren_flat {w w' : World} {av av' : Nat → Prop} {ρ ρ' : Rho} {h h' : Heap} (m : Nat → Option Nat) {c : Cell} {v : Value} (hf : flatC c = true)
    (hs : ∀ b ∈ refsC c, ∀ b', m b = some b' → Sim w w' ρ ρ' h h' b b') (hc : RelC w av ρ h c v) : RelC w' av' ρ' h' (renC m c) v := by
  have h1 := hc.one
  cases c with
  | ro t l => cases hf
  | rp t x o => cases hf
  | undef => exact hc
  | bool b => exact hc
  | int k n => exact hc
  | nil => exact hc
  | sl b wn =>
    simp only [renC]
    split
    · rename_i b' hb
      exact SlOk.sim (hs b (by simp [refsC]) b' hb) hc
    · exact h1
  | ptr b i o =>
    simp only [renC]
    split
    · rename_i b' hb
      have hsim := hs b (by simp [refsC]) b' hb
      obtain ⟨x, r, base, hx, hρ, e⟩ := hc
      obtain ⟨x', hx', hst⟩ := hsim.blk hx
      exact ⟨x', r, base, hx', by rw [hsim.rho]; exact hρ, by rw [hst]; exact e⟩
    · exact h1
  | fn f caps =>
    simp only [renC]
    split
    · rename_i s hm
      obtain ⟨arr, e, ha⟩ := hc
      refine ⟨arr, e, All2.trans' (mapAll_all2 hm) ha ?_⟩
      intro b b' u hb hbb ⟨x, r, base, hx, hρ, eu⟩
      have hsim := hs b (by simpa [refsC] using hb) b' hbb
      obtain ⟨x', hx', _⟩ := hsim.blk hx
      exact ⟨x', r, base, hx', by rw [hsim.rho]; exact hρ, eu⟩
    · exact h1
theorem RelW.ren_flat {w w' : World} {av av' : Nat → Prop} {ρ ρ' : Rho} {h h' : Heap} (m : Nat → Option Nat) {x : W} {v : Value} (hf : flatW x = true)
    (hs : ∀ b ∈ refsW x, ∀ b', m b = some b' → Sim w w' ρ ρ' h h' b b') (hx : RelW w av ρ h x v) : RelW w' av' ρ' h' (renW m x) v := by
  cases x with
  | one c => exact RelC.ren_flat m (by simpa [flatW, W.cells] using hf) (fun b hb => hs b (by simpa [refsW, W.cells, refsCs] using hb)) hx
  | agg cs =>
    obtain ⟨arr, e, ha⟩ := hx
    refine ⟨arr, e, All2.map ha fun c u hc hcu => RelC.ren_flat m (List.all_eq_true.1 hf c hc) (fun b hb => hs b ?_) hcu⟩
    simp only [refsW, W.cells, refsCs, List.mem_flatMap]
    exact ⟨c, hc, hb⟩
theorem RelB.ren_flat {w w' : World} {av av' : Nat → Prop} {ρ ρ' : Rho} {h h' : Heap} (m : Nat → Option Nat) {b b' : Nat} {x : Blk} (hf : flatB x = true) (hρ : ρ' b' = ρ b)
    (hb : ∀ r base, ρ b = some (r, base) → w'.heap[r]? = w.heap[r]?)
    (hs : ∀ c ∈ refsB (some x), ∀ c', m c = some c' → Sim w w' ρ ρ' h h' c c') (hx : RelB w av ρ h b x) : RelB w' av' ρ' h' b' (renB m x) := by
  cases x with
  | row t l s =>
    obtain ⟨h1, h2, h3⟩ := hx
    simp only [renB, RelB, hρ]
    refine ⟨fun r base e => ?_, h2, h3⟩
    obtain ⟨cs, e', hw, hc⟩ := h1 r base e
    exact ⟨cs, e', by rw [hb _ _ e]; exact hw, fun i y hi => let ⟨vs, hv, hj⟩ := hc i y hi; ⟨vs, RD.flat t (by simpa [flatB] using hf) _ _ hv, hj⟩⟩
  | box cs =>
    obtain ⟨r, c, e, h1, h2, h3⟩ := hx
    refine ⟨r, c, e, by rw [hρ]; exact h1, by rw [hb _ _ h1]; exact h2, All2.map h3 fun c u hc hcu => RelC.ren_flat m (List.all_eq_true.1 hf c hc) (fun b hb => hs b ?_) hcu⟩
    simp only [refsB, refsCs, List.mem_flatMap]
    exact ⟨c, hc, hb⟩

/-! ## What is lent -/
/-- the caller's names of the lent blocks, and the memory behind them -/
def rhoOf (ρ : Rho) (ids : List Nat) : Rho := fun i => match ids[i]? with | some b => ρ b | none => none

theorem lent_get {h : Heap} {ids : List Nat} (hlt : ∀ b ∈ ids, b < h.length) {i b : Nat} (hi : ids[i]? = some b) : ∃ x, h[b]? = some x ∧ (lentOf h ids)[i]? = some (unmoveB (renB (fun b => idx b ids) x)) := by
  have hb := hlt b (List.mem_of_getElem? hi)
  refine ⟨h[b], List.getElem?_eq_getElem hb, ?_⟩
  simp [lentOf, hi, List.getElem?_eq_getElem hb]

theorem lent_length (h : Heap) (ids : List Nat) : (lentOf h ids).length = ids.length := by simp [lentOf]

theorem Sim.lent {w : World} {ρ : Rho} {h : Heap} {ids : List Nat} (hlt : ∀ b ∈ ids, b < h.length) {b b' : Nat} (hb : idx b ids = some b') : Sim w w ρ (rhoOf ρ ids) h (lentOf h ids) b b' := by
  have hi := idx_get hb
  obtain ⟨x, hx, hl⟩ := lent_get hlt hi
  refine ⟨fun t l s e => ?_, fun cs e => ?_, by simp [rhoOf, hi], fun r base cs e fz _ hw => ⟨cs, e, fz, hw, rfl⟩⟩
  · rw [hx] at e
    cases e
    rw [hl]
    cases s <;> exact ⟨_, _, rfl, rfl⟩
  · rw [hx] at e
    cases e
    exact ⟨_, hl⟩

theorem own_lent {ρ : Rho} {h : Heap} {ids : List Nat} (hlt : ∀ b ∈ ids, b < h.length) {r : Nat} (ho : own (rhoOf ρ ids) (lentOf h ids) r) : ∃ b x base, b ∈ ids ∧ h[b]? = some x ∧ isFrz x = false ∧ ρ b = some (r, base) := by
  obtain ⟨i, y, base, hi, hz, hρ⟩ := ho
  have hil := lt_of_get hi
  rw [lent_length] at hil
  have hb : ids[i]? = some ids[i] := List.getElem?_eq_getElem hil
  obtain ⟨x, hx, hl⟩ := lent_get hlt hb
  rw [hl] at hi
  simp at hi; subst hi
  refine ⟨_, x, base, List.mem_of_getElem? hb, hx, ?_, by simpa [rhoOf, hb] using hρ⟩
  rw [(unmove_facts _).1, isFrz_renB] at hz
  exact hz

/-- What a callee must keep off. -/
def offOf' (A : Nat → Prop) (ρ : Rho) (h : Heap) (bs : List Nat) (r : Nat) : Prop := A r ∨ (own ρ h r ∧ ¬ ∃ b ∈ bs, ∃ base, ρ b = some (r, base))

theorem lent_rel {X : Ctx} {ρ : Rho} {σ : St} {a : Act} {w : World} (hF : RelF X ρ σ a w) {ids bs : List Nat} (hn : ids.Nodup) (hlt : ∀ b ∈ ids, b < σ.h.length) (hsub : ∀ b ∈ ids, b ∈ bs) :
    RelH (offOf' X.A ρ σ.h bs) (rhoOf ρ ids) (lentOf σ.h ids) w := by
  have hav : ∀ r, r < w.heap.size → avs (offOf' X.A ρ σ.h bs) (rhoOf ρ ids) (lentOf σ.h ids) r → avs X.A ρ σ.h r := by
    intro r _ h
    rcases h with h | h
    · exact h.imp id (·.1)
    · obtain ⟨b, x, base, _, hx, hz, hρ⟩ := own_lent hlt h
      exact .inr ⟨b, x, base, hx, hz, hρ⟩
  have hrd : Reads w w (avs X.A ρ σ.h) := fun r o v _ h => h
  have hrho : ∀ {i r base}, rhoOf ρ ids i = some (r, base) → ∃ b, ids[i]? = some b ∧ ρ b = some (r, base) := by
    intro i r base e
    unfold rhoOf at e
    split at e
    · rename_i b hb; exact ⟨b, hb, e⟩
    · cases e
  refine ⟨?_, ?_, ?_, ?_⟩
  · intro i j r b1 b2 hi hj h1 h2
    obtain ⟨b, hb, e1⟩ := hrho h1
    obtain ⟨c, hc, e2⟩ := hrho h2
    have := hF.H.inj b c r b1 b2 (hlt b (List.mem_of_getElem? hb)) (hlt c (List.mem_of_getElem? hc)) e1 e2
    subst this
    exact nodup_get hn hb hc
  · intro i y hi
    have hil := lt_of_get hi
    rw [lent_length] at hil
    have hb : ids[i]? = some ids[i] := List.getElem?_eq_getElem hil
    obtain ⟨x, hx, hl⟩ := lent_get hlt hb
    rw [hl] at hi
    simp at hi; subst hi
    have hB := hF.H.blk _ x hx
    have h2 : RelB w (avs (offOf' X.A ρ σ.h bs) (rhoOf ρ ids) (lentOf σ.h ids)) (rhoOf ρ ids) (lentOf σ.h ids) i (renB (fun b => idx b ids) x) :=
      RelB.ren hav hrd _ (by simp [rhoOf, hb]) (fun _ _ _ => rfl) (fun c _ c' e => Sim.lent hlt e) hB
    cases x with
    | box cs => exact h2
    | row t l s => cases s <;> exact RelB.status (by simp) h2
  · intro i r base hi e
    obtain ⟨b, hb, e1⟩ := hrho e
    have hbm := List.mem_of_getElem? hb
    have := hF.H.out b r base (hlt b hbm) e1
    refine ⟨this.1, fun h => ?_⟩
    rcases h with h | ⟨_, h⟩
    · exact this.2 h
    · exact h ⟨b, hsub b hbm, base, e1⟩
  · intro r h
    rcases h with h | ⟨⟨b, x, base, hx, _, hρ⟩, _⟩
    · exact hF.H.A r h
    · exact (hF.H.out b r base (lt_of_get hx) hρ).1

/-- An argument as the callee sees it. -/
theorem view_rel {X : Ctx} {ρ : Rho} {σ : St} {a : Act} {w : World} (hF : RelF X ρ σ a w) {ids viewed bs : List Nat} (hlt : ∀ b ∈ ids, b < σ.h.length) (hsub : ∀ b ∈ viewed, b ∈ bs) (hdis : ∀ b ∈ viewed, b ∉ ids)
    {c : Cell} {v : Value} (hv : ∀ b ∈ viewedC c, b ∈ viewed) (hc : RelC w (avs X.A ρ σ.h) ρ σ.h c v) :
    RelC w (avs (offOf' X.A ρ σ.h bs) (rhoOf ρ ids) (lentOf σ.h ids)) (rhoOf ρ ids) (lentOf σ.h ids) (renC (fun b => idx b ids) (viewC σ.h c)) v := by
  have hav : ∀ r, avs (offOf' X.A ρ σ.h bs) (rhoOf ρ ids) (lentOf σ.h ids) r → avs X.A ρ σ.h r := by
    intro r h
    rcases h with h | h
    · exact h.imp id (·.1)
    · obtain ⟨b, x, base, _, hx, hz, hρ⟩ := own_lent hlt h
      exact .inr ⟨b, x, base, hx, hz, hρ⟩
  have hrd : Reads w w (avs X.A ρ σ.h) := fun r o v _ h => h
  cases c with
  | sl b wn =>
    have hbv : b ∈ viewed := hv b (by simp [viewedC])
    obtain ⟨t, l, s, o, n, ad, c, hb, _⟩ := hc
    have hc' : SlOk w ρ σ.h b wn v := ⟨t, l, s, o, n, ad, c, hb, by assumption⟩
    simp only [viewC, hb, renC]
    refine sl_data hc' hb (hF.H.blk b _ hb) (fun r base e h => ?_) hav
    rcases h with h | h
    · rcases h with h | ⟨_, h⟩
      · exact (hF.H.out b r base (lt_of_get hb) e).2 h
      · exact h ⟨b, hsub b hbv, base, e⟩
    · obtain ⟨b', x, base', hb', hx, _, hρ⟩ := own_lent hlt h
      have := hF.H.inj b b' r base base' (lt_of_get hb) (lt_of_get hx) e hρ
      subst this
      exact hdis b hbv hb'
  | _ => exact RelC.ren (fun r _ h => hav r h) hrd _ (fun b _ b' e => Sim.lent hlt e) hc

end Go.Proofs.Ytjoiadaogppmkaa.Sh
