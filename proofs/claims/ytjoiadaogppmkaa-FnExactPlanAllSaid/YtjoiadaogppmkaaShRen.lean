/- The small machine's relations carried from world to world and through a renaming of blocks. -/
import Derived.Test.YtjoiadaogppmkaaShWp
namespace Go.Proofs.Ytjoiadaogppmkaa.Sh
open Go
set_option linter.unusedVariables false
set_option linter.unusedSimpArgs false

/-! ## Lists in pairs -/
theorem All2.mono {α β : Type} {R S : α → β → Prop} {as : List α} {bs : List β} (h : All2 R as bs) (f : ∀ a b, a ∈ as → R a b → S a b) : All2 S as bs := by
  induction h with
  | nil => exact .nil
  | cons h _ ih => exact .cons (f _ _ (by simp) h) (ih fun a b ha => f a b (by simp [ha]))
theorem All2.map {α α' β : Type} {R : α → β → Prop} {S : α' → β → Prop} {g : α → α'} {as : List α} {bs : List β} (h : All2 R as bs) (f : ∀ a b, a ∈ as → R a b → S (g a) b) : All2 S (as.map g) bs := by
  induction h with
  | nil => exact .nil
  | cons h _ ih => exact .cons (f _ _ (by simp) h) (ih fun a b ha => f a b (by simp [ha]))
theorem All2.length {α β : Type} {R : α → β → Prop} {as : List α} {bs : List β} (h : All2 R as bs) : as.length = bs.length := by
  induction h with
  | nil => rfl
  | cons _ _ ih => simp [ih]
theorem All2.get {α β : Type} {R : α → β → Prop} {as : List α} {bs : List β} (h : All2 R as bs) : ∀ (i : Nat) (a : α), as[i]? = some a → ∃ b, bs[i]? = some b ∧ R a b := by
  induction h with
  | nil => intro i a h; simp at h
  | cons h _ ih =>
    intro i a hi
    cases i with
    | zero => simp at hi; subst hi; exact ⟨_, rfl, h⟩
    | succ i => exact ih i a (by simpa using hi)
theorem All2.append {α β : Type} {R : α → β → Prop} {as as' : List α} {bs bs' : List β} (h : All2 R as bs) (h' : All2 R as' bs') : All2 R (as ++ as') (bs ++ bs') := by
  induction h with
  | nil => exact h'
  | cons h _ ih => exact .cons h ih
theorem All2.drop {α β : Type} {R : α → β → Prop} {as : List α} {bs : List β} (h : All2 R as bs) : ∀ n, All2 R (as.drop n) (bs.drop n) := by
  induction h with
  | nil => intro n; simp; exact .nil
  | cons h t ih =>
    intro n
    cases n with
    | zero => exact .cons h t
    | succ n => exact ih n
theorem All2.take {α β : Type} {R : α → β → Prop} {as : List α} {bs : List β} (h : All2 R as bs) : ∀ n, All2 R (as.take n) (bs.take n) := by
  induction h with
  | nil => intro n; simp; exact .nil
  | cons h t ih =>
    intro n
    cases n with
    | zero => exact .nil
    | succ n => exact .cons h (ih n)

/-! ## Cells of the world -/
theorem at_some {w : World} {r o : Nat} {v : Value} (h : at_ w r o = some v) : ∃ cs e fz, w.heap[r]? = some (.cells cs e fz) ∧ cs[o]? = some v := by
  unfold at_ World.cell? at h
  split at h
  · rename_i c e fz hc
    simp at h
    exact ⟨c, e, fz, hc, h⟩
  · simp at h
theorem at_of {w : World} {r o : Nat} {v : Value} {cs : Array Value} {e : TypeId} {fz : Nat × Nat} (h : w.heap[r]? = some (.cells cs e fz)) (hv : cs[o]? = some v) : at_ w r o = some v := by
  simp [at_, World.cell?, h, hv]
theorem at_lt {w : World} {r o : Nat} {v : Value} (h : at_ w r o = some v) : r < w.heap.size := by
  obtain ⟨cs, e, fz, h, _⟩ := at_some h
  rcases Nat.lt_or_ge r w.heap.size with h' | h'
  · exact h'
  · simp [Array.getElem?_eq_none h'] at h
theorem at_same {w w' : World} {r : Nat} (h : w'.heap[r]? = w.heap[r]?) (o : Nat) : at_ w' r o = at_ w r o := by
  simp [at_, World.cell?, h]

/-- One world reads, off 'av', as another. -/
def Reads (w w' : World) (av : Nat → Prop) : Prop := ∀ r o v, ¬ av r → at_ w r o = some v → at_ w' r o = some v

theorem Ty.size_pos : ∀ t : Ty, 0 < t.size
  | .int _ => Nat.one_pos
  | .bool => Nat.one_pos
  | .pair a b => Nat.lt_of_lt_of_le (Ty.size_pos a) (Nat.le_add_right _ _)
  | .sl _ => Nat.one_pos

theorem RD.size {w : World} {av : Nat → Prop} : ∀ (t : Ty) (x : t.D) (vs : List Value), RD w av t x vs → vs.length = t.size
  | .int _, _, _, h => by simp only [RD] at h; subst h; rfl
  | .bool, _, _, h => by simp only [RD] at h; subst h; rfl
  | .pair a b, x, vs, ⟨l, r, e, h1, h2⟩ => by subst e; simp [Ty.size, RD.size a _ _ h1, RD.size b _ _ h2]
  | .sl a, l, vs, ⟨ad, c, e, hc, h⟩ => by subst e; rfl

theorem RD.lt {w : World} {av : Nat → Prop} {t : Ty} {x : t.D} {vs : List Value} (h : RD w av t x vs) {r o : Nat} (hj : ∀ j v, vs[j]? = some v → at_ w r (o + j) = some v) : r < w.heap.size := by
  have h1 := h.size
  have h2 := t.size_pos
  cases vs with
  | nil => simp at h1; omega
  | cons v _ => exact at_lt (hj 0 v rfl)

theorem RD.mono {w w' : World} {av av' : Nat → Prop} (hav : ∀ r, r < w.heap.size → av' r → av r) (hr : Reads w w' av) : ∀ (t : Ty) (x : t.D) (vs : List Value), RD w av t x vs → RD w' av' t x vs
  | .int _, _, _, h => h
  | .bool, _, _, h => h
  | .pair a b, x, vs, ⟨l, r, e, h1, h2⟩ => ⟨l, r, e, RD.mono hav hr a _ _ h1, RD.mono hav hr b _ _ h2⟩
  | .sl a, l, vs, ⟨ad, c, e, hc, h⟩ => ⟨ad, c, e, hc, fun i x hi =>
      let ⟨r, o, cs, e1, n1, h1, h2⟩ := h i x hi
      ⟨r, o, cs, e1, fun h => n1 (hav _ (h1.lt h2) h), RD.mono hav hr a _ _ h1, fun j v hj => hr _ _ _ n1 (h2 j v hj)⟩⟩

def one_ (v : Value) : Prop := (∀ cs, v ≠ .agg cs) ∧ (∀ vs, v ≠ .tuple vs)
theorem RD.one {w : World} {av : Nat → Prop} : ∀ (t : Ty) (x : t.D) (vs : List Value), RD w av t x vs → ∀ v ∈ vs, one_ v
  | .int _, _, _, h, v, hv => by simp only [RD] at h; subst h; simp at hv; subst hv; simp [one_]
  | .bool, _, _, h, v, hv => by simp only [RD] at h; subst h; simp at hv; subst hv; simp [one_]
  | .pair a b, x, vs, ⟨l, r, e, h1, h2⟩, v, hv => by
    subst e
    rcases List.mem_append.1 hv with h | h
    · exact RD.one a _ _ h1 v h
    · exact RD.one b _ _ h2 v h
  | .sl a, l, vs, ⟨ad, c, e, hc, h⟩, v, hv => by subst e; simp at hv; subst hv; simp [one_]

theorem RelC.one {w : World} {av : Nat → Prop} {ρ : Rho} {h : Heap} {c : Cell} {v : Value} (hc : RelC w av ρ h c v) : one_ v := by
  cases c <;> simp only [RelC] at hc
  case undef => exact hc
  case bool => subst hc; simp [one_]
  case int => subst hc; simp [one_]
  case nil => subst hc; simp [one_]
  case ro => exact RD.one _ _ _ hc _ (by simp)
  case sl => obtain ⟨_, _, _, _, _, _, _, _, _, _, e, _⟩ := hc; subst e; simp [one_]
  case ptr => obtain ⟨_, _, _, _, _, e⟩ := hc; subst e; simp [one_]
  case rp => obtain ⟨_, _, _, _, _, _, e⟩ := hc; subst e; simp [one_]
  case fn => obtain ⟨_, e, _⟩ := hc; subst e; simp [one_]

/-! ## Renaming -/
/-- Block b' of a heap in a world stands for what block b stood for. -/
structure Sim (w w' : World) (ρ ρ' : Rho) (h h' : Heap) (b b' : Nat) : Prop where
  row : ∀ t l s, h[b]? = some (.row t l s) → ∃ l' s', h'[b']? = some (.row t l' s') ∧ l'.length = l.length
  box : ∀ cs, h[b]? = some (.box cs) → ∃ cs', h'[b']? = some (.box cs')
  rho : ρ' b' = ρ b
  room : ∀ r base cs e fz, ρ b = some (r, base) → w.heap[r]? = some (.cells cs e fz) → ∃ cs' e' fz', w'.heap[r]? = some (.cells cs' e' fz') ∧ cs'.size = cs.size

theorem Sim.refl (w : World) (ρ : Rho) (h : Heap) (b : Nat) : Sim w w ρ ρ h h b b :=
  ⟨fun t l s e => ⟨l, s, e, rfl⟩, fun cs e => ⟨cs, e⟩, rfl, fun r base cs e fz _ hw => ⟨cs, e, fz, hw, rfl⟩⟩

theorem SlOk.sim {w w' : World} {ρ ρ' : Rho} {h h' : Heap} {b b' : Nat} (hs : Sim w w' ρ ρ' h h' b b') {wn : Option (Nat × Nat)} {v : Value} (hv : SlOk w ρ h b wn v) : SlOk w' ρ' h' b' wn v := by
  obtain ⟨t, l, s, o, n, ad, c, hb, hw, ho, hv, hn, hc⟩ := hv
  obtain ⟨l', s', hb', hl⟩ := hs.row _ _ _ hb
  refine ⟨t, l', s', o, n, ad, c, hb', by rw [hl]; exact hw, by omega, hv, hn, ?_⟩
  rcases hc with hc | ⟨r, base, cs, e, fz, h1, h2, h3, h4⟩
  · exact .inl hc
  · obtain ⟨cs', e', fz', h5, h6⟩ := hs.room _ _ _ _ _ h1 h3
    exact .inr ⟨r, base, cs', e', fz', by rw [hs.rho]; exact h1, h2, h5, by rw [h6]; exact h4⟩

theorem Sim.blk {w w' : World} {ρ ρ' : Rho} {h h' : Heap} {b b' : Nat} (hs : Sim w w' ρ ρ' h h' b b') {x : Blk} (hx : h[b]? = some x) :
    ∃ x', h'[b']? = some x' ∧ blkStride x' = blkStride x := by
  cases x with
  | row t l s => obtain ⟨l', s', e, _⟩ := hs.row _ _ _ hx; exact ⟨_, e, rfl⟩
  | box cs => obtain ⟨cs', e⟩ := hs.box _ hx; exact ⟨_, e, rfl⟩

theorem mapAll_all2 {m : Nat → Option Nat} : ∀ {l s : List Nat}, mapAll m l = some s → All2 (fun b c => m b = some c) l s
  | [], s, h => by simp [mapAll] at h; subst h; exact .nil
  | b :: r, s, h => by
    simp only [mapAll] at h
    split at h
    · rename_i c s' h1 h2
      simp at h; subst h
      exact .cons h1 (mapAll_all2 h2)
    · simp at h

theorem All2.trans' {α β γ : Type} {R : α → β → Prop} {S : α → γ → Prop} {T : β → γ → Prop} {as : List α} {bs : List β} {cs : List γ} (h : All2 R as bs) (k : All2 S as cs) (f : ∀ a b c, a ∈ as → R a b → S a c → T b c) : All2 T bs cs := by
  induction h generalizing cs with
  | nil => cases k; exact .nil
  | cons h _ ih =>
    cases k with
    | cons k1 k2 => exact .cons (f _ _ _ (by simp) h k1) (ih k2 fun a b c ha => f a b c (by simp [ha]))

theorem RelC.ren {w w' : World} {av av' : Nat → Prop} {ρ ρ' : Rho} {h h' : Heap} (hav : ∀ r, r < w.heap.size → av' r → av r) (hr : Reads w w' av) (m : Nat → Option Nat) {c : Cell} {v : Value}
    (hs : ∀ b ∈ refsC c, ∀ b', m b = some b' → Sim w w' ρ ρ' h h' b b') (hc : RelC w av ρ h c v) : RelC w' av' ρ' h' (renC m c) v := by
  have h1 := hc.one
  cases c with
  | undef => exact hc
  | bool b => exact hc
  | int k n => exact hc
  | nil => exact hc
  | ro t l => exact RD.mono hav hr _ _ _ hc
  | rp t x o =>
    obtain ⟨r, p, cs, n1, h2, h3, e⟩ := hc
    exact ⟨r, p, cs, fun h => n1 (hav _ (h2.lt h3) h), RD.mono hav hr _ _ _ h2, fun j u hj => hr _ _ _ n1 (h3 j u hj), e⟩
  | sl b wn =>
    simp only [renC]
    split
    · rename_i b' hb
      exact SlOk.sim (hs b (by simp [refsC]) b' hb) hc
    · exact h1
  | ptr b i o =>
    simp only [renC]
    split
    · rename_i b' hb
      have hsim := hs b (by simp [refsC]) b' hb
      obtain ⟨x, r, base, hx, hρ, e⟩ := hc
      obtain ⟨x', hx', hst⟩ := hsim.blk hx
      exact ⟨x', r, base, hx', by rw [hsim.rho]; exact hρ, by rw [hst]; exact e⟩
    · exact h1
  | fn f caps =>
    simp only [renC]
    split
    · rename_i s hm
      obtain ⟨arr, e, ha⟩ := hc
      refine ⟨arr, e, All2.trans' (mapAll_all2 hm) ha ?_⟩
      intro b b' u hb hbb ⟨x, r, base, hx, hρ, eu⟩
      have hsim := hs b (by simpa [refsC] using hb) b' hbb
      obtain ⟨x', hx', _⟩ := hsim.blk hx
      exact ⟨x', r, base, hx', by rw [hsim.rho]; exact hρ, eu⟩
    · exact h1

theorem mapAll_some : ∀ l, mapAll some l = some l
  | [] => rfl
  | b :: r => by simp [mapAll, mapAll_some r]
theorem renC_id (c : Cell) : renC some c = c := by
  cases c <;> simp [renC, mapAll_some]
theorem renW_id (x : W) : renW some x = x := by
  cases x <;> simp [renW, renC_id]
  · rename_i cs
    induction cs <;> simp_all [renC_id]

theorem RelC.mono {w w' : World} {av av' : Nat → Prop} {ρ ρ' : Rho} {h h' : Heap} (hav : ∀ r, r < w.heap.size → av' r → av r) (hr : Reads w w' av) {c : Cell} {v : Value}
    (hs : ∀ b ∈ refsC c, Sim w w' ρ ρ' h h' b b) (hc : RelC w av ρ h c v) : RelC w' av' ρ' h' c v := by
  have := RelC.ren hav hr some (fun b hb b' e => by cases e; exact hs b hb) hc
  rwa [renC_id] at this

def refsWs (xs : List W) : List Nat := xs.flatMap refsW
def refsV' : V → List Nat
  | .any => []
  | .w x => refsW x
  | .tup xs => xs.flatMap refsW
  | .ifc _ x => refsW x

theorem RelW.ren {w w' : World} {av av' : Nat → Prop} {ρ ρ' : Rho} {h h' : Heap} (hav : ∀ r, r < w.heap.size → av' r → av r) (hr : Reads w w' av) (m : Nat → Option Nat) {x : W} {v : Value}
    (hs : ∀ b ∈ refsW x, ∀ b', m b = some b' → Sim w w' ρ ρ' h h' b b') (hx : RelW w av ρ h x v) : RelW w' av' ρ' h' (renW m x) v := by
  cases x with
  | one c => exact RelC.ren hav hr m (fun b hb => hs b (by simpa [refsW, W.cells, refsCs] using hb)) hx
  | agg cs =>
    obtain ⟨arr, e, ha⟩ := hx
    refine ⟨arr, e, All2.map ha fun c u hc hcu => RelC.ren hav hr m (fun b hb => hs b ?_) hcu⟩
    simp only [refsW, W.cells, refsCs, List.mem_flatMap]
    exact ⟨c, hc, hb⟩
theorem RelW.mono {w w' : World} {av av' : Nat → Prop} {ρ ρ' : Rho} {h h' : Heap} (hav : ∀ r, r < w.heap.size → av' r → av r) (hr : Reads w w' av) {x : W} {v : Value}
    (hs : ∀ b ∈ refsW x, Sim w w' ρ ρ' h h' b b) (hx : RelW w av ρ h x v) : RelW w' av' ρ' h' x v := by
  have := RelW.ren hav hr some (fun b hb b' e => by cases e; exact hs b hb) hx
  rwa [renW_id] at this

theorem RelV.ren {w w' : World} {av av' : Nat → Prop} {ρ ρ' : Rho} {h h' : Heap} (hav : ∀ r, r < w.heap.size → av' r → av r) (hr : Reads w w' av) (m : Nat → Option Nat) {x : V} {v : Value}
    (hs : ∀ b ∈ refsV' x, ∀ b', m b = some b' → Sim w w' ρ ρ' h h' b b') (hx : RelV w av ρ h x v) : RelV w' av' ρ' h' (renV m x) v := by
  cases x with
  | any => trivial
  | w x => exact RelW.ren hav hr m hs hx
  | tup xs =>
    obtain ⟨arr, e, ha⟩ := hx
    refine ⟨arr, e, All2.map ha fun c u hc hcu => RelW.ren hav hr m (fun b hb => hs b ?_) hcu⟩
    simp only [refsV', List.mem_flatMap]
    exact ⟨c, hc, hb⟩
  | ifc t x =>
    obtain ⟨u, e, hu⟩ := hx
    exact ⟨u, e, RelW.ren hav hr m hs hu⟩
theorem renV_id (x : V) : renV some x = x := by
  cases x <;> simp [renV, renW_id]
  · rename_i xs
    induction xs <;> simp_all [renW_id]
theorem RelV.mono {w w' : World} {av av' : Nat → Prop} {ρ ρ' : Rho} {h h' : Heap} (hav : ∀ r, r < w.heap.size → av' r → av r) (hr : Reads w w' av) {x : V} {v : Value}
    (hs : ∀ b ∈ refsV' x, Sim w w' ρ ρ' h h' b b) (hx : RelV w av ρ h x v) : RelV w' av' ρ' h' x v := by
  have := RelV.ren hav hr some (fun b hb b' e => by cases e; exact hs b hb) hx
  rwa [renV_id] at this

/-- A block's content, in a world that reads as before and in which the block itself lies as it lay. -/
theorem RelB.ren {w w' : World} {av av' : Nat → Prop} {ρ ρ' : Rho} {h h' : Heap} (hav : ∀ r, r < w.heap.size → av' r → av r) (hr : Reads w w' av) (m : Nat → Option Nat) {b b' : Nat} {x : Blk} (hρ : ρ' b' = ρ b)
    (hb : ∀ r base, ρ b = some (r, base) → w'.heap[r]? = w.heap[r]?)
    (hs : ∀ c ∈ refsB (some x), ∀ c', m c = some c' → Sim w w' ρ ρ' h h' c c') (hx : RelB w av ρ h b x) : RelB w' av' ρ' h' b' (renB m x) := by
  cases x with
  | row t l s =>
    obtain ⟨h1, h2, h3⟩ := hx
    simp only [renB, RelB, hρ]
    refine ⟨fun r base e => ?_, h2, h3⟩
    obtain ⟨cs, e', hw, hc⟩ := h1 r base e
    exact ⟨cs, e', by rw [hb _ _ e]; exact hw, fun i y hi => let ⟨vs, hv, hj⟩ := hc i y hi; ⟨vs, RD.mono hav hr _ _ _ hv, hj⟩⟩
  | box cs =>
    obtain ⟨r, c, e, h1, h2, h3⟩ := hx
    refine ⟨r, c, e, by rw [hρ]; exact h1, by rw [hb _ _ h1]; exact h2, All2.map h3 fun c u hc hcu => RelC.ren hav hr m (fun b hb => hs b ?_) hcu⟩
    simp only [refsB, refsCs, List.mem_flatMap]
    exact ⟨c, hc, hb⟩
theorem renB_id (x : Blk) : renB some x = x := by
  cases x <;> simp [renB]
  rename_i cs
  induction cs <;> simp_all [renC_id]
theorem RelB.mono {w w' : World} {av av' : Nat → Prop} {ρ ρ' : Rho} {h h' : Heap} (hav : ∀ r, r < w.heap.size → av' r → av r) (hr : Reads w w' av) {b b' : Nat} {x : Blk} (hρ : ρ' b' = ρ b)
    (hb : ∀ r base, ρ b = some (r, base) → w'.heap[r]? = w.heap[r]?)
    (hs : ∀ c ∈ refsB (some x), Sim w w' ρ ρ' h h' c c) (hx : RelB w av ρ h b x) : RelB w' av' ρ' h' b' x := by
  have := RelB.ren (b' := b') hav hr some hρ hb (fun c hc c' e => by cases e; exact hs c hc) hx
  rwa [renB_id] at this

end Go.Proofs.Ytjoiadaogppmkaa.Sh
