/- A frame's state behind a store, an append, a freezing. -/
import Derived.Test.YtjoiadaogppmkaaShFrame
namespace Go.Proofs.Ytjoiadaogppmkaa.Sh
open Go
set_option linter.unusedVariables false
set_option linter.unusedSimpArgs false

structure Wrote (w w' : World) (r : Nat) (cs : Array Value) (e : TypeId) : Prop where
  os : w'.os = w.os
  tape : w'.tape = w.tape
  output : w'.output = w.output
  size : w'.heap.size = w.heap.size
  same : w'.heap[r]? = some (.cells cs e (0, 0))
  other : ∀ k, k ≠ r → w'.heap[k]? = w.heap[k]?

theorem get_set {α : Type} (l : List α) (b : Nat) (x : α) (i : Nat) : (l.set b x)[i]? = if i = b then (if b < l.length then some x else none) else l[i]? := by
  rw [List.getElem?_set]
  by_cases h : b = i
  · subst h; simp
  · rw [if_neg h, if_neg (fun e => h e.symm)]

def UpdOk (w : World) (av : Nat → Prop) (ρ : Rho) (h : Heap) (base : Nat) (cs : Array Value) (x x' : Blk) : Prop :=
  (∃ t l l' s, x = .row t l s ∧ x' = .row t l' s ∧ l'.length = l.length ∧
    ∀ i y, l'[i]? = some y → ∃ vs, RD w av t y vs ∧ ∀ j u, vs[j]? = some u → cs[base + i * t.size + j]? = some u) ∨
  (∃ cl cl', x = .box cl ∧ x' = .box cl' ∧ All2 (RelC w av ρ h) cl' cs.toList)

theorem UpdOk.frz {w : World} {av : Nat → Prop} {ρ : Rho} {h : Heap} {base : Nat} {cs : Array Value} {x x' : Blk} (hu : UpdOk w av ρ h base cs x x') : isFrz x' = isFrz x ∧ isMoved x' = isMoved x := by
  rcases hu with ⟨t, l, l', s, rfl, rfl, _⟩ | ⟨cl, cl', rfl, rfl, _⟩
  · cases s <;> simp [isFrz, isMoved]
  · simp [isFrz, isMoved]

theorem own_set {ρ : Rho} {h : Heap} {b : Nat} {x x' : Blk} (hb : h[b]? = some x) (hz : isFrz x' = isFrz x) (r : Nat) : own ρ (h.set b x') r ↔ own ρ h r := by
  constructor
  · rintro ⟨c, y, base, hc, hy, hρ⟩
    rw [get_set] at hc
    split at hc
    · rename_i e
      subst e
      rw [if_pos (lt_of_get hb)] at hc
      simp at hc; subst hc
      exact ⟨c, x, base, hb, by rw [← hz]; exact hy, hρ⟩
    · exact ⟨c, y, base, hc, hy, hρ⟩
  · rintro ⟨c, y, base, hc, hy, hρ⟩
    by_cases e : c = b
    · subst e
      rw [hb] at hc
      simp at hc; subst hc
      exact ⟨c, x', base, by rw [get_set, if_pos rfl, if_pos (lt_of_get hb)], by rw [hz]; exact hy, hρ⟩
    · exact ⟨c, y, base, by rw [get_set, if_neg e]; exact hc, hy, hρ⟩

theorem Sim.set {w w' : World} {ρ : Rho} {h : Heap} {b r base : Nat} {x x' : Blk} {cs cs' : Array Value} {e : TypeId} (hb : h[b]? = some x) (hw : w.heap[r]? = some (.cells cs e (0, 0))) (hW : Wrote w w' r cs' e) (hsz : cs'.size = cs.size)
    (hx : (∃ t l l' s, x = .row t l s ∧ x' = .row t l' s ∧ l'.length = l.length) ∨ (∃ cl cl', x = .box cl ∧ x' = .box cl')) (c : Nat) : Sim w w' ρ ρ h (h.set b x') c c := by
  refine ⟨fun t l s hc => ?_, fun cs hc => ?_, rfl, fun r' base' c' e' fz hρ hr' => ?_⟩
  · by_cases ec : c = b
    · subst ec
      rcases hx with ⟨t', l0, l', s', e1, e2, e3⟩ | ⟨cl, cl', e1, e2⟩
      · rw [hb] at hc
        have hc := Option.some.inj hc
        rw [e1] at hc
        cases hc
        exact ⟨l', s, by rw [get_set, if_pos rfl, if_pos (lt_of_get hb), e2], e3⟩
      · rw [hb] at hc
        have hc := Option.some.inj hc
        rw [e1] at hc
        cases hc
    · exact ⟨l, s, by rw [get_set, if_neg ec]; exact hc, rfl⟩
  · by_cases ec : c = b
    · subst ec
      rcases hx with ⟨t', l0, l', s', e1, e2, e3⟩ | ⟨cl, cl', e1, e2⟩
      · rw [hb] at hc
        have hc := Option.some.inj hc
        rw [e1] at hc
        cases hc
      · exact ⟨cl', by rw [get_set, if_pos rfl, if_pos (lt_of_get hb), e2]⟩
    · exact ⟨cs, by rw [get_set, if_neg ec]; exact hc⟩
  · by_cases er : r' = r
    · subst er
      rw [hw] at hr'
      simp at hr'
      obtain ⟨rfl, rfl, rfl⟩ := hr'
      exact ⟨cs', e, (0, 0), hW.same, hsz⟩
    · exact ⟨c', e', fz, by rw [hW.other _ er]; exact hr', rfl⟩

theorem RelF.upd {X : Ctx} {ρ : Rho} {σ : St} {a : Act} {w w' : World} (hF : RelF X ρ σ a w) {b r base : Nat} {x x' : Blk} {cs cs' : Array Value} {e : TypeId} (hb : σ.h[b]? = some x) (hz : isFrz x = false) (hρ : ρ b = some (r, base))
    (hw : w.heap[r]? = some (.cells cs e (0, 0))) (hW : Wrote w w' r cs' e) (hsz : cs'.size = cs.size) (hbox : isBox x = true → base = 0)
    (hx : UpdOk w (avs X.A ρ σ.h) ρ σ.h base cs' x x') : RelF X ρ ⟨σ.m, σ.h.set b x'⟩ a w' := by
  have hfz := hx.frz
  have hav : ∀ r, avs X.A ρ (σ.h.set b x') r ↔ avs X.A ρ σ.h r := fun r => by unfold avs; rw [own_set hb hfz.1 r]
  have hav' : ∀ r', r' < w.heap.size → avs X.A ρ (σ.h.set b x') r' → avs X.A ρ σ.h r' := fun r' _ h => (hav r').1 h
  have hown : avs X.A ρ σ.h r := .inr ⟨b, x, base, hb, hz, hρ⟩
  have hrd : Reads w w' (avs X.A ρ σ.h) := fun r' o v hn hv => by
    rw [at_same (hW.other r' (fun e => hn (e ▸ hown)))]; exact hv
  have hxs : (∃ t l l' s, x = .row t l s ∧ x' = .row t l' s ∧ l'.length = l.length) ∨ (∃ cl cl', x = .box cl ∧ x' = .box cl') := by
    rcases hx with ⟨t, l, l', s, h1, h2, h3, _⟩ | ⟨cl, cl', h1, h2, _⟩
    · exact .inl ⟨t, l, l', s, h1, h2, h3⟩
    · exact .inr ⟨cl, cl', h1, h2⟩
  have hsim : ∀ c, Sim w w' ρ ρ σ.h (σ.h.set b x') c c := Sim.set (base := base) hb hw hW hsz hxs
  have hlen : (σ.h.set b x').length = σ.h.length := List.length_set
  refine ⟨⟨?_, ?_, ?_, ?_⟩, ?_, ?_, ?_, ?_, ?_, ?_, hF.sz, hF.df, ?shp⟩
  case shp =>
    intro c y hy hcn
    obtain ⟨y', h1, h2, h3⟩ := hF.shp c y hy hcn
    by_cases ec : c = b
    · subst ec
      rw [hb] at h1
      have h1 := Option.some.inj h1
      subst h1
      refine ⟨x', by rw [get_set, if_pos rfl, if_pos (lt_of_get hb)], fun h => by rw [hfz.1]; exact h2 h, fun h => ?_⟩
      have h4 := h3 (by rw [← hfz.2]; exact h)
      rcases hxs with ⟨t, l, l', s, rfl, rfl, hl⟩ | ⟨cl, cl', rfl, rfl⟩
      · cases y with
        | row t' l2 s2 => simp only [SameShape] at h4 ⊢; exact ⟨h4.1, by rw [hl]; exact h4.2⟩
        | box _ => simp [SameShape] at h4
      · cases y with
        | row _ _ _ => simp [SameShape] at h4
        | box _ => simp [SameShape]
    · exact ⟨y', by rw [get_set, if_neg ec]; exact h1, h2, h3⟩
  · intro c c' r' b1 b2 h1 h2
    simp only [hlen] at h1 h2
    exact hF.H.inj c c' r' b1 b2 h1 h2
  · intro c y hc
    simp only at hc
    rw [get_set] at hc
    split at hc
    · rename_i ec
      subst ec
      rw [if_pos (lt_of_get hb)] at hc
      simp at hc; subst hc
      have hB := hF.H.blk c x hb
      rcases hx with ⟨t, l, l', s, rfl, rfl, hl, hcont⟩ | ⟨cl, cl', rfl, rfl, hcont⟩
      · obtain ⟨h1, h2, h3⟩ := hB
        refine ⟨fun r' base' e1 => ?_, fun _ => ⟨_, _, hρ⟩, h3⟩
        rw [hρ] at e1
        simp at e1
        obtain ⟨rfl, rfl⟩ := e1
        exact ⟨cs', e, hW.same, fun i y hi => let ⟨vs, h4, h5⟩ := hcont i y hi; ⟨vs, RD.mono hav' hrd _ _ _ h4, h5⟩⟩
      · have hb0 : base = 0 := hbox rfl
        subst hb0
        exact ⟨r, cs', e, hρ, hW.same, hcont.mono fun c' u hc' hcu => RelC.mono hav' hrd (fun b' _ => hsim b') hcu⟩
    · rename_i ec
      have hB := hF.H.blk c y hc
      refine RelB.mono hav' hrd rfl (fun r' base' e1 => hW.other r' ?_) (fun c' _ => hsim c') hB
      intro er
      subst er
      exact ec (hF.H.inj c b r' base' base (lt_of_get hc) (lt_of_get hb) e1 hρ)
  · intro c r' b1 h1 h2
    simp only [hlen] at h1
    rw [hW.size]
    exact hF.H.out c r' b1 h1 h2
  · intro r' hr'; rw [hW.size]; exact hF.H.A r' hr'
  · intro t
    exact RelV.mono hav' hrd (fun b' _ => hsim b') (hF.m t)
  · refine hF.fr.trans ⟨hW.os, hW.tape, hW.output, by rw [hW.size]; exact Nat.le_refl _, fun k hk hL => hW.other k ?_, fun k c0 e0 fz hk => ?_⟩
    · intro ek
      subst ek
      exact hL (hF.srcO b x k base hb hz hρ)
    · by_cases ek : k = r
      · subst ek
        rw [hw] at hk
        simp at hk
        obtain ⟨rfl, rfl, rfl⟩ := hk
        exact ⟨cs', e, (0, 0), hW.same, hsz⟩
      · exact ⟨c0, e0, fz, by rw [hW.other k ek]; exact hk, rfl⟩
  · intro c r' b1 h1 h2
    simp only [hlen] at h1
    exact hF.src c r' b1 h1 h2
  · intro c y r' b1 hc hy h1
    simp only at hc
    rw [get_set] at hc
    split at hc
    · rename_i ec
      subst ec
      rw [if_pos (lt_of_get hb)] at hc
      simp at hc; subst hc
      exact hF.srcO c x r' b1 hb hz h1
    · exact hF.srcO c y r' b1 hc hy h1
  · intro c y hc hn hmv
    simp only at hc
    rw [get_set] at hc
    split at hc
    · rename_i ec
      subst ec
      rw [if_pos (lt_of_get hb)] at hc
      simp at hc; subst hc
      exact hF.keep c x hb hn (by rw [← hfz.2]; exact hmv)
    · exact hF.keep c y hc hn hmv
  · simp only [hlen]; exact hF.n

/-! ## Forgetting -/
theorem getM_map (m : List (Nat × V)) (f : V → V) (hf : f .any = .any) (t : Nat) : getM (m.map fun p => (p.1, f p.2)) t = f (getM m t) := by
  induction m with
  | nil => simp [getM, V.u, hf]
  | cons p r ih =>
    obtain ⟨k, v⟩ := p
    simp only [List.map_cons, getM]
    cases Nat.beq k t <;> simp [ih]

theorem get_map {α β : Type} (l : List α) (f : α → β) (i : Nat) : (l.map f)[i]? = (l[i]?).map f := List.getElem?_map

theorem isFrz_renB (m : Nat → Option Nat) (x : Blk) : isFrz (renB m x) = isFrz x := by cases x <;> rfl
theorem isMoved_renB (m : Nat → Option Nat) (x : Blk) : isMoved (renB m x) = isMoved x := by cases x <;> rfl
theorem isBox_renB (m : Nat → Option Nat) (x : Blk) : isBox (renB m x) = isBox x := by cases x <;> rfl

theorem SameShape.renB (m : Nat → Option Nat) {x y : Blk} (h : SameShape x y) : SameShape x (Sh.renB m y) := by
  cases x <;> cases y <;> simp_all [SameShape, Sh.renB]

theorem Sim.map {w : World} {ρ : Rho} {h : Heap} (m : Nat → Option Nat) (b : Nat) : Sim w w ρ ρ h (h.map (renB m)) b b := by
  refine ⟨fun t l s e => ⟨l, s, by rw [get_map, e]; rfl, rfl⟩, fun cs e => ⟨cs.map (renC m), by rw [get_map, e]; rfl⟩, rfl, fun r base cs e fz _ hw => ⟨cs, e, fz, hw, rfl⟩⟩

theorem own_map {ρ : Rho} {h : Heap} (m : Nat → Option Nat) (r : Nat) : own ρ (h.map (renB m)) r ↔ own ρ h r := by
  constructor
  · rintro ⟨b, x, base, hb, hz, hρ⟩
    rw [get_map] at hb
    cases e : h[b]? with
    | none => rw [e] at hb; simp at hb
    | some y =>
      rw [e] at hb
      simp at hb
      subst hb
      exact ⟨b, y, base, e, by rw [isFrz_renB] at hz; exact hz, hρ⟩
  · rintro ⟨b, x, base, hb, hz, hρ⟩
    exact ⟨b, renB m x, base, by rw [get_map, hb]; rfl, by rw [isFrz_renB]; exact hz, hρ⟩

/-- Names may be forgotten: 'm' keeps a block's name or drops it. -/
theorem RelF.forget {X : Ctx} {ρ : Rho} {σ : St} {a : Act} {w : World} (hF : RelF X ρ σ a w) (m : Nat → Option Nat) (hm : ∀ b c, m b = some c → c = b) :
    RelF X ρ ⟨σ.m.map fun p => (p.1, renV m p.2), σ.h.map (renB m)⟩ a w := by
  have hav : ∀ r, r < w.heap.size → avs X.A ρ (σ.h.map (renB m)) r → avs X.A ρ σ.h r := fun r _ h => by unfold avs at *; rwa [own_map] at h
  have hrd : Reads w w (avs X.A ρ σ.h) := fun r o v _ h => h
  have hsim : ∀ b c, m b = some c → Sim w w ρ ρ σ.h (σ.h.map (renB m)) b c := fun b c e => by rw [hm b c e]; exact Sim.map m b
  have hlen : (σ.h.map (renB m)).length = σ.h.length := List.length_map ..
  have hget : ∀ b y, (σ.h.map (renB m))[b]? = some y → ∃ x, σ.h[b]? = some x ∧ y = renB m x := fun b y h => by
    rw [get_map] at h
    cases e : σ.h[b]? with
    | none => rw [e] at h; simp at h
    | some x => rw [e] at h; simp at h; exact ⟨x, e, h.symm⟩
  refine ⟨⟨?_, ?_, ?_, hF.H.A⟩, ?_, hF.fr, ?_, ?_, ?_, ?_, hF.sz, hF.df, ?shp⟩
  case shp =>
    intro c y hy hcn
    obtain ⟨y', h1, h2, h3⟩ := hF.shp c y hy hcn
    exact ⟨renB m y', by simp only [get_map, h1]; rfl, fun h => by rw [isFrz_renB]; exact h2 h, fun h => SameShape.renB m (h3 (by rwa [isMoved_renB] at h))⟩
  · intro c c' r b1 b2 h1 h2
    simp only [hlen] at h1 h2
    exact hF.H.inj c c' r b1 b2 h1 h2
  · intro b y hb
    obtain ⟨x, hx, rfl⟩ := hget b y hb
    exact RelB.ren hav hrd m rfl (fun _ _ _ => rfl) (fun c _ c' e => hsim c c' e) (hF.H.blk b x hx)
  · intro c r b1 h1 h2
    simp only [hlen] at h1
    exact hF.H.out c r b1 h1 h2
  · intro t
    simp only [St.get]
    rw [getM_map _ _ rfl]
    exact RelV.ren hav hrd m (fun b _ b' e => hsim b b' e) (hF.m t)
  · intro c r b1 h1 h2
    simp only [hlen] at h1
    exact hF.src c r b1 h1 h2
  · intro b y r b1 hb hy h1
    obtain ⟨x, hx, rfl⟩ := hget b y hb
    exact hF.srcO b x r b1 hx (by rw [isFrz_renB] at hy; exact hy) h1
  · intro b y hb hn hmv
    obtain ⟨x, hx, rfl⟩ := hget b y hb
    exact hF.keep b x hx hn (by rw [isMoved_renB] at hmv; exact hmv)
  · simp only [hlen]; exact hF.n

/-! ## A block that nothing names changes hands -/
structure NoRef (σ : St) (b : Nat) : Prop where
  m : ∀ t, b ∉ refsV' (σ.get t)
  h : ∀ (c : Nat) (x : Blk), σ.h[c]? = some x → b ∉ refsB (some x)

theorem Sim.swap {w w' : World} {ρ : Rho} {h : Heap} {b : Nat} {x' : Blk} {y : Option (Nat × Nat)} {c : Nat} (hc : c ≠ b) (hroom : ∀ r base, ρ c = some (r, base) → w'.heap[r]? = w.heap[r]?) :
    Sim w w' ρ (rhoPut ρ b y) h (h.set b x') c c :=
  ⟨fun t l s e => ⟨l, s, by rw [get_set, if_neg hc]; exact e, rfl⟩, fun cs e => ⟨cs, by rw [get_set, if_neg hc]; exact e⟩, rhoPut_ne _ _ _ hc,
    fun r base cs e fz hρ hw => ⟨cs, e, fz, by rw [hroom r base hρ]; exact hw, rfl⟩⟩

theorem RelF.swap {X : Ctx} {ρ : Rho} {σ : St} {a : Act} {w w' : World} (hF : RelF X ρ σ a w) {b : Nat} (hn : NoRef σ b) {x : Blk} (hb : σ.h[b]? = some x) (hz : isFrz x = false)
    {t : Ty} {l : List t.D} {y : Option (Nat × Nat)}
    (hos : w'.os = w.os) (htape : w'.tape = w.tape) (hout : w'.output = w.output) (hsize : w.heap.size ≤ w'.heap.size)
    (hold : ∀ k, k < w.heap.size → (∀ base, ρ b ≠ some (k, base)) → w'.heap[k]? = w.heap[k]?)
    (hroom : ∀ (k : Nat) (cs : Array Value) (e : TypeId) (fz : Nat × Nat), w.heap[k]? = some (.cells cs e fz) → ∃ (cs' : Array Value) (e' : TypeId) (fz' : Nat × Nat), w'.heap[k]? = some (.cells cs' e' fz') ∧ cs'.size = cs.size)
    (hy : (y = none ∧ l = []) ∨ ∃ r base cs e, y = some (r, base) ∧ ((∃ base', ρ b = some (r, base')) ∨ w.heap.size ≤ r) ∧ w'.heap[r]? = some (.cells cs e (0, 0)) ∧
      ∀ i z, l[i]? = some z → ∃ vs, RD w (avs X.A ρ σ.h) t z vs ∧ ∀ j u, vs[j]? = some u → cs[base + i * t.size + j]? = some u) :
    RelF X (rhoPut ρ b y) ⟨σ.m, σ.h.set b (.row t l .moved)⟩ a w' := by
  have hblt := lt_of_get hb
  have hlen : (σ.h.set b (Blk.row t l .moved)).length = σ.h.length := List.length_set
  have hyr : ∀ r base, y = some (r, base) → (∃ base', ρ b = some (r, base')) ∨ w.heap.size ≤ r := by
    intro r base e
    rcases hy with ⟨h1, _⟩ | ⟨r', base', cs, e', h1, h2, _⟩
    · rw [h1] at e; cases e
    · rw [h1] at e
      simp at e
      obtain ⟨rfl, rfl⟩ := e
      exact h2
  have hav : ∀ r, r < w.heap.size → avs X.A (rhoPut ρ b y) (σ.h.set b (.row t l .moved)) r → avs X.A ρ σ.h r := by
    intro r hr h
    rcases h with h | ⟨c, z, base, hc, hz', hρ⟩
    · exact .inl h
    · rw [get_set] at hc
      split at hc
      · rename_i ec
        subst ec
        rw [rhoPut_same] at hρ
        rcases hyr _ _ hρ with ⟨base', h⟩ | h
        · exact .inr ⟨c, x, base', hb, hz, h⟩
        · omega
      · rename_i ec
        rw [rhoPut_ne _ _ _ ec] at hρ
        exact .inr ⟨c, z, base, hc, hz', hρ⟩
  have hrd : Reads w w' (avs X.A ρ σ.h) := fun r o v hnot hv => by
    rw [at_same (hold r (at_lt hv) (fun base e => hnot (.inr ⟨b, x, base, hb, hz, e⟩)))]; exact hv
  have hother : ∀ c, c < σ.h.length → c ≠ b → ∀ r base, ρ c = some (r, base) → w'.heap[r]? = w.heap[r]? := fun c hcl hc r base e =>
    hold r (hF.H.out c r base hcl e).1 (fun base' e' => hc (hF.H.inj c b r base base' hcl hblt e e'))
  have hsim : ∀ c, c < σ.h.length → c ≠ b → Sim w w' ρ (rhoPut ρ b y) σ.h (σ.h.set b (.row t l .moved)) c c := fun c hcl hc => Sim.swap hc (hother c hcl hc)
  have hsrcb : ∀ r base, y = some (r, base) → X.L r ∨ X.w0.heap.size ≤ r := by
    intro r base e
    rcases hyr _ _ e with ⟨base', h⟩ | h
    · exact hF.srcO b x r base' hb hz h
    · have := hF.fr.size; exact .inr (by omega)
  refine ⟨⟨?_, ?_, ?_, ?_⟩, ?_, ?_, ?_, ?_, ?_, ?_, hF.sz, hF.df, ?shp⟩
  case shp =>
    intro c y0 hy0 hcn
    obtain ⟨y', h1, h2, h3⟩ := hF.shp c y0 hy0 hcn
    by_cases ec : c = b
    · subst ec
      rw [hb] at h1
      have h1 := Option.some.inj h1
      subst h1
      exact ⟨_, by rw [get_set, if_pos rfl, if_pos hblt], fun h => by rw [h2 h] at hz; (cases hz), fun h => by simp [isMoved] at h⟩
    · exact ⟨y', by rw [get_set, if_neg ec]; exact h1, h2, h3⟩
  · intro c c' r b1 b2 h1 h2 e1 e2
    simp only [hlen] at h1 h2
    by_cases ec : c = b
    · by_cases ec' : c' = b
      · rw [ec, ec']
      · subst ec
        rw [rhoPut_same] at e1
        rw [rhoPut_ne _ _ _ ec'] at e2
        rcases hyr _ _ e1 with ⟨base', h⟩ | h
        · exact hF.H.inj c c' r base' b2 h1 h2 h e2
        · have := (hF.H.out c' r b2 h2 e2).1; omega
    · by_cases ec' : c' = b
      · subst ec'
        rw [rhoPut_same] at e2
        rw [rhoPut_ne _ _ _ ec] at e1
        rcases hyr _ _ e2 with ⟨base', h⟩ | h
        · exact hF.H.inj c c' r b1 base' h1 h2 e1 h
        · have := (hF.H.out c r b1 h1 e1).1; omega
      · rw [rhoPut_ne _ _ _ ec] at e1
        rw [rhoPut_ne _ _ _ ec'] at e2
        exact hF.H.inj c c' r b1 b2 h1 h2 e1 e2
  · intro c z hc
    simp only at hc
    rw [get_set] at hc
    split at hc
    · rename_i ec
      subst ec
      (try rw [if_pos hblt] at hc)
      simp at hc; subst hc
      refine ⟨fun r base e1 => ?_, fun hl => ?_, fun h => by cases h⟩
      · rw [rhoPut_same] at e1
        rcases hy with ⟨h1, _⟩ | ⟨r', base', cs, e', h1, h2, h3, h4⟩
        · rw [h1] at e1; cases e1
        · rw [h1] at e1
          simp at e1
          obtain ⟨rfl, rfl⟩ := e1
          exact ⟨cs, e', h3, fun i z hi => let ⟨vs, h5, h6⟩ := h4 i z hi; ⟨vs, RD.mono hav hrd _ _ _ h5, h6⟩⟩
      · rcases hy with ⟨_, h1⟩ | ⟨r', base', cs, e', h1, _⟩
        · exact absurd h1 hl
        · exact ⟨r', base', by rw [rhoPut_same]; exact h1⟩
    · rename_i ec
      have hcl := lt_of_get hc
      have hB := hF.H.blk c z hc
      refine RelB.mono hav hrd (rhoPut_ne _ _ _ ec) (hother c hcl ec) (fun c' hc' => hsim c' (hB.refs_lt c' hc') ?_) hB
      intro e
      subst e
      exact hn.h c z hc hc'
  · intro c r b1 h1 e1
    simp only [hlen] at h1
    by_cases ec : c = b
    · subst ec
      rw [rhoPut_same] at e1
      rcases hy with ⟨h2, _⟩ | ⟨r', base', cs, e', h2, h3, h4, _⟩
      · rw [h2] at e1; cases e1
      · rw [h2] at e1
        simp at e1
        obtain ⟨rfl, rfl⟩ := e1
        refine ⟨?_, ?_⟩
        · rcases Nat.lt_or_ge r' w'.heap.size with h' | h'
          · exact h'
          · simp [Array.getElem?_eq_none h'] at h4
        · rcases h3 with ⟨base', h3⟩ | h3
          · exact (hF.H.out c r' base' h1 h3).2
          · intro hA; have := hF.H.A r' hA; omega
    · rw [rhoPut_ne _ _ _ ec] at e1
      have := hF.H.out c r b1 h1 e1
      exact ⟨by omega, this.2⟩
  · intro r hr; have := hF.H.A r hr; omega
  · intro t'
    have hV := hF.m t'
    refine RelV.mono hav hrd (fun c hc => hsim c (hV.refs_lt c hc) ?_) hV
    intro e
    subst e
    exact hn.m t' hc
  · refine hF.fr.trans ⟨hos, htape, hout, hsize, fun k hk hL => hold k hk ?_, hroom⟩
    intro base e
    exact hL (hF.srcO b x k base hb hz e)
  · intro c r b1 h1 e1
    simp only [hlen] at h1
    by_cases ec : c = b
    · subst ec
      rw [rhoPut_same] at e1
      rcases hyr _ _ e1 with ⟨base', h⟩ | h
      · exact hF.src c r base' h1 h
      · have := hF.fr.size; exact .inr (by omega)
    · rw [rhoPut_ne _ _ _ ec] at e1
      exact hF.src c r b1 h1 e1
  · intro c z r b1 hc hz' e1
    simp only at hc
    rw [get_set] at hc
    split at hc
    · rename_i ec
      subst ec
      rw [rhoPut_same] at e1
      exact hsrcb _ _ e1
    · rename_i ec
      rw [rhoPut_ne _ _ _ ec] at e1
      exact hF.srcO c z r b1 hc hz' e1
  · intro c z hc hcn hmv
    simp only at hc
    rw [get_set] at hc
    split at hc
    · rename_i ec
      subst ec
      (try rw [if_pos hblt] at hc)
      simp at hc; subst hc
      simp [isMoved] at hmv
    · rename_i ec
      rw [rhoPut_ne _ _ _ ec]
      exact hF.keep c z hc hcn hmv
  · simp only [hlen]; exact hF.n

theorem inL_iff (b : Nat) : ∀ l : List Nat, inL b l = true ↔ b ∈ l
  | [] => by simp [inL]
  | c :: r => by
    simp only [inL]
    cases h : Nat.beq c b with
    | true => have := Nat.eq_of_beq_eq_true h; subst this; simp
    | false =>
      have : c ≠ b := fun e => by subst e; simp at h
      simp [inL_iff b r, this.symm]
theorem butL_spec {bs : List Nat} {b c : Nat} (h : butL bs b = some c) : c = b ∧ b ∉ bs := by
  unfold butL at h
  split at h
  · cases h
  · rename_i h'
    simp at h
    exact ⟨h.symm, fun hb => by rw [(inL_iff b bs).2 hb] at h'; cases h'⟩

theorem refsC_ren {m : Nat → Option Nat} {c : Cell} {b : Nat} (h : b ∈ refsC (renC m c)) : ∃ b', m b' = some b := by
  cases c <;> simp only [renC] at h
  case sl b0 wn => split at h <;> simp [refsC] at h; rename_i e; subst h; exact ⟨_, e⟩
  case ptr b0 i o => split at h <;> simp [refsC] at h; rename_i e; subst h; exact ⟨_, e⟩
  case fn f caps =>
    split at h <;> simp [refsC] at h
    rename_i s e
    obtain ⟨i, hi⟩ := List.getElem?_of_mem h
    have ha := mapAll_all2 e
    have : ∀ {as bs : List Nat}, All2 (fun b c => m b = some c) as bs → ∀ (i x : Nat), bs[i]? = some x → ∃ b', m b' = some x := by
      intro as bs ha
      induction ha with
      | nil => intro i x h; simp at h
      | cons h _ ih =>
        intro i x hi
        cases i with
        | zero => simp at hi; subst hi; exact ⟨_, h⟩
        | succ i => exact ih i x (by simpa using hi)
    exact this ha i b hi
  all_goals simp [refsC] at h
theorem refsCs_ren {m : Nat → Option Nat} {cs : List Cell} {b : Nat} (h : b ∈ refsCs (cs.map (renC m))) : ∃ b', m b' = some b := by
  simp only [refsCs, List.mem_flatMap, List.mem_map] at h
  obtain ⟨_, ⟨c, _, rfl⟩, h⟩ := h
  exact refsC_ren h
theorem refsW_ren {m : Nat → Option Nat} {x : W} {b : Nat} (h : b ∈ refsW (renW m x)) : ∃ b', m b' = some b := by
  cases x with
  | one c => exact refsC_ren (by simpa [refsW, renW, W.cells, refsCs] using h)
  | agg cs => exact refsCs_ren h
theorem refsV_ren {m : Nat → Option Nat} {x : V} {b : Nat} (h : b ∈ refsV' (renV m x)) : ∃ b', m b' = some b := by
  cases x with
  | any => simp [renV, refsV'] at h
  | w x => exact refsW_ren h
  | tup xs =>
    simp only [renV, refsV', List.mem_flatMap, List.mem_map] at h
    obtain ⟨_, ⟨x, _, rfl⟩, h⟩ := h
    exact refsW_ren h
  | ifc t x => exact refsW_ren h

/-- Behind the forgetting nothing names the block. -/
theorem noRef_erase (σ : St) (b : Nat) : NoRef ⟨eraseM [b] σ.m, eraseH [b] σ.h⟩ b := by
  constructor
  · intro t h
    simp only [St.get, eraseM] at h
    rw [getM_map _ _ rfl] at h
    obtain ⟨b', e⟩ := refsV_ren h
    have := butL_spec e
    simp [this.1] at this
  · intro c x hc h
    simp only [eraseH] at hc
    rw [get_map] at hc
    cases e : σ.h[c]? with
    | none => rw [e] at hc; simp at hc
    | some y =>
      rw [e] at hc
      simp at hc
      subst hc
      cases y with
      | row t l s => simp [renB, refsB] at h
      | box cs =>
        obtain ⟨b', e⟩ := refsCs_ren h
        have := butL_spec e
        simp [this.1] at this

/-! ## Freezing -/
theorem freeze1_get (h : Heap) (b c : Nat) (y : Blk) (hc : (freeze1 h b)[c]? = some y) : ∃ x, h[c]? = some x ∧ (y = x ∨ ∃ t l s s', x = .row t l s ∧ y = .row t l s' ∧ isFrz y = true ∧ isMoved y = isMoved x ∧ s ≠ .var) := by
  unfold freeze1 at hc
  split at hc
  · rename_i t l e
    rw [get_set] at hc
    split at hc
    · rename_i ec; subst ec
      rw [if_pos (lt_of_get e)] at hc
      simp at hc; subst hc
      exact ⟨_, e, .inr ⟨t, l, _, _, rfl, rfl, rfl, rfl, by simp⟩⟩
    · exact ⟨y, hc, .inl rfl⟩
  · rename_i t l e
    rw [get_set] at hc
    split at hc
    · rename_i ec; subst ec
      rw [if_pos (lt_of_get e)] at hc
      simp at hc; subst hc
      exact ⟨_, e, .inr ⟨t, l, _, _, rfl, rfl, rfl, rfl, by simp⟩⟩
    · exact ⟨y, hc, .inl rfl⟩
  · exact ⟨y, hc, .inl rfl⟩
theorem freeze1_length (h : Heap) (b : Nat) : (freeze1 h b).length = h.length := by
  unfold freeze1; split <;> simp
theorem freeze1_some (h : Heap) (b c : Nat) (x : Blk) (hc : h[c]? = some x) : ∃ y, (freeze1 h b)[c]? = some y ∧ (y = x ∨ ∃ t l s s', x = .row t l s ∧ y = .row t l s') := by
  have hl : c < (freeze1 h b).length := by rw [freeze1_length]; exact lt_of_get hc
  obtain ⟨x', hx, hy⟩ := freeze1_get h b c _ (List.getElem?_eq_getElem hl)
  rw [hc] at hx
  simp at hx
  subst hx
  refine ⟨_, List.getElem?_eq_getElem hl, ?_⟩
  rcases hy with hy | ⟨t, l, s, s', h1, h2, _⟩
  · exact .inl hy
  · exact .inr ⟨t, l, s, s', h1, h2⟩

theorem Sim.freeze1 {w : World} {ρ : Rho} {h : Heap} (b c : Nat) : Sim w w ρ ρ h (freeze1 h b) c c := by
  refine ⟨fun t l s e => ?_, fun cs e => ?_, rfl, fun r base cs e fz _ hw => ⟨cs, e, fz, hw, rfl⟩⟩
  · obtain ⟨y, hy, h1⟩ := freeze1_some h b c _ e
    rcases h1 with rfl | ⟨t', l', s1, s2, e1, rfl⟩
    · exact ⟨l, s, hy, rfl⟩
    · cases e1; exact ⟨_, _, hy, rfl⟩
  · obtain ⟨y, hy, h1⟩ := freeze1_some h b c _ e
    rcases h1 with rfl | ⟨t', l', s1, s2, e1, _⟩
    · exact ⟨cs, hy⟩
    · cases e1

theorem own_freeze1 {ρ : Rho} {h : Heap} {b r : Nat} (ho : own ρ (freeze1 h b) r) : own ρ h r := by
  obtain ⟨c, y, base, hc, hz, hρ⟩ := ho
  obtain ⟨x, hx, h1⟩ := freeze1_get h b c y hc
  rcases h1 with rfl | ⟨t, l, s, s', rfl, rfl, hf, _⟩
  · exact ⟨c, y, base, hx, hz, hρ⟩
  · rw [hf] at hz; cases hz

theorem RelF.freeze1 {X : Ctx} {ρ : Rho} {σ : St} {a : Act} {w : World} (hF : RelF X ρ σ a w) (b : Nat) : RelF X ρ ⟨σ.m, freeze1 σ.h b⟩ a w := by
  have hav : ∀ r, r < w.heap.size → avs X.A ρ (Sh.freeze1 σ.h b) r → avs X.A ρ σ.h r := fun r _ h => h.imp id own_freeze1
  have hrd : Reads w w (avs X.A ρ σ.h) := fun r o v _ h => h
  have hsim : ∀ c, Sim w w ρ ρ σ.h (Sh.freeze1 σ.h b) c c := Sim.freeze1 b
  have hlen := freeze1_length σ.h b
  refine ⟨⟨?_, ?_, ?_, hF.H.A⟩, fun t => RelV.mono hav hrd (fun c _ => hsim c) (hF.m t), hF.fr, ?_, ?_, ?_, ?_, hF.sz, hF.df, ?shp⟩
  case shp =>
    intro c y hy hcn
    obtain ⟨y', h1, h2, h3⟩ := hF.shp c y hy hcn
    have hl : c < (Sh.freeze1 σ.h b).length := by rw [hlen]; exact lt_of_get h1
    obtain ⟨z, hz, h4⟩ := freeze1_get σ.h b c _ (List.getElem?_eq_getElem hl)
    rw [h1] at hz
    have hz := Option.some.inj hz
    subst hz
    refine ⟨_, List.getElem?_eq_getElem hl, ?_⟩
    rcases h4 with h4 | ⟨t, l, s, s', e1, e2, h5, h6, _⟩
    · rw [h4]; exact ⟨h2, h3⟩
    · refine ⟨fun _ => h5, fun h => ?_⟩
      rw [h6] at h
      have h7 := h3 h
      rw [e2]
      rw [e1] at h7
      cases y <;> simp_all [SameShape]
  · intro c c' r b1 b2 h1 h2
    simp only [hlen] at h1 h2
    exact hF.H.inj c c' r b1 b2 h1 h2
  · intro c y hc
    obtain ⟨x, hx, h1⟩ := freeze1_get σ.h b c y hc
    have hB := hF.H.blk c x hx
    rcases h1 with rfl | ⟨t, l, s, s', rfl, rfl, hf, _, hv⟩
    · exact RelB.mono hav hrd rfl (fun _ _ _ => rfl) (fun c _ => hsim c) hB
    · have hB' : RelB w (avs X.A ρ (Sh.freeze1 σ.h b)) ρ (Sh.freeze1 σ.h b) c (.row t l s) := RelB.mono hav hrd rfl (fun _ _ _ => rfl) (fun c _ => hsim c) hB
      obtain ⟨h2, h3, h4⟩ := hB'
      exact ⟨h2, h3, fun e => by subst e; simp [isFrz] at hf⟩
  · intro c r b1 h1 h2
    simp only [hlen] at h1
    exact hF.H.out c r b1 h1 h2
  · intro c r b1 h1 h2
    simp only [hlen] at h1
    exact hF.src c r b1 h1 h2
  · intro c y r b1 hc hz h1
    obtain ⟨x, hx, h2⟩ := freeze1_get σ.h b c y hc
    rcases h2 with rfl | ⟨t, l, s, s', rfl, rfl, hf, _⟩
    · exact hF.srcO c y r b1 hx hz h1
    · rw [hf] at hz; cases hz
  · intro c y hc hn hmv
    obtain ⟨x, hx, h2⟩ := freeze1_get σ.h b c y hc
    rcases h2 with rfl | ⟨t, l, s, s', rfl, rfl, hf, hm, _⟩
    · exact hF.keep c y hx hn hmv
    · exact hF.keep c _ hx hn (by rw [← hm]; exact hmv)
  · simp only [hlen]; exact hF.n

end Go.Proofs.Ytjoiadaogppmkaa.Sh
