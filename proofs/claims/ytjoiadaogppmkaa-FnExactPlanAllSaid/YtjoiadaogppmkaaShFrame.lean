/- A frame's state beside the model's: how it stands behind each kind of step. -/
import Derived.Test.YtjoiadaogppmkaaShRen
namespace Go.Proofs.Ytjoiadaogppmkaa.Sh
open Go
set_option linter.unusedVariables false
set_option linter.unusedSimpArgs false

structure Ctx where
  A : Nat → Prop
  L : Nat → Prop
  w0 : World
  n : Nat
  ρ0 : Rho
  N : Nat
  h0 : Heap

structure RelF (X : Ctx) (ρ : Rho) (σ : St) (a : Act) (w : World) : Prop where
  H : RelH X.A ρ σ.h w
  m : ∀ t, RelV w (avs X.A ρ σ.h) ρ σ.h (σ.get t) (a.tmps.getD t undef)
  fr : Frame X.L X.w0 w
  src : ∀ b r base, b < σ.h.length → ρ b = some (r, base) → (b < X.n ∧ ∃ base', X.ρ0 b = some (r, base')) ∨ X.w0.heap.size ≤ r
  srcO : ∀ b x r base, σ.h[b]? = some x → isFrz x = false → ρ b = some (r, base) → X.L r ∨ X.w0.heap.size ≤ r
  keep : ∀ b x, σ.h[b]? = some x → b < X.n → isMoved x = false → ρ b = X.ρ0 b
  n : X.n ≤ σ.h.length
  sz : a.tmps.size = X.N
  df : a.defers = []
  shp : ∀ (b : Nat) (x : Blk), X.h0[b]? = some x → b < X.n → ∃ x', σ.h[b]? = some x' ∧ (isFrz x = true → isFrz x' = true) ∧ (isMoved x' = false → SameShape x x')

/-! ## A value put into a slot -/
theorem getM_put (m : List (Nat × V)) (d t : Nat) (v : V) : getM ((d, v) :: m) t = if d = t then v else getM m t := by
  simp only [getM]
  by_cases h : d = t
  · subst h; simp
  · have : Nat.beq d t = false := by
      cases h' : Nat.beq d t with
      | false => rfl
      | true => exact absurd (Nat.eq_of_beq_eq_true h') h
    rw [this]; simp [h]

theorem RelF.put {X : Ctx} {ρ : Rho} {σ : St} {a : Act} {w : World} (h : RelF X ρ σ a w) {v : V} {u : Value} (hv : RelV w (avs X.A ρ σ.h) ρ σ.h v u) {d : Option Nat} (hd : ∀ k, d = some k → k < X.N) :
    RelF X ρ (σ.put d v) (a.put d u) w := by
  cases d with
  | none => exact h
  | some d =>
    have hd := hd d rfl
    refine ⟨h.H, fun t => ?_, h.fr, h.src, h.srcO, h.keep, h.n, by simp [Act.put, h.sz], h.df, h.shp⟩
    simp only [St.put, St.get, getM_put, Act.put]
    by_cases e : d = t
    · subst e
      rw [if_pos rfl]
      have : (a.tmps.setIfInBounds d u).getD d undef = u := by
        have : d < a.tmps.size := by rw [h.sz]; exact hd
        simp [Array.getD, this]
      rw [this]
      exact hv
    · rw [if_neg e]
      have : (a.tmps.setIfInBounds d u).getD t undef = a.tmps.getD t undef := by
        simp only [Array.getD_eq_getD_getElem?, Array.getElem?_setIfInBounds, if_neg e]
      rw [this]
      exact h.m t

/-! ## Another world with the same memory -/
structure Still (w w' : World) : Prop where
  os : w'.os = w.os
  tape : w'.tape = w.tape
  output : w'.output = w.output
  heap : w'.heap = w.heap

theorem Still.refl (w : World) : Still w w := ⟨rfl, rfl, rfl, rfl⟩
theorem Frame.refl (L : Nat → Prop) (w : World) : Frame L w w := ⟨rfl, rfl, rfl, Nat.le_refl _, fun _ _ _ => rfl, fun _ cs e fz h => ⟨cs, e, fz, h, rfl⟩⟩
theorem Frame.trans {L : Nat → Prop} {a b c : World} (h : Frame L a b) (k : Frame (fun r => L r ∨ a.heap.size ≤ r) b c) : Frame L a c :=
  ⟨k.os.trans h.os, k.tape.trans h.tape, k.output.trans h.output, Nat.le_trans h.size k.size, fun r hr hL => by
    rw [k.block r (by have := h.size; omega) (by intro h'; rcases h' with h' | h'; exact hL h'; omega), h.block r hr hL], fun r cs e fz hr =>
    let ⟨_, _, _, h1, h2⟩ := h.room r cs e fz hr
    let ⟨cs', e', fz', h3, h4⟩ := k.room r _ _ _ h1
    ⟨cs', e', fz', h3, by rw [h4, h2]⟩⟩
theorem Frame.of_still {L : Nat → Prop} {w w' : World} (h : Still w w') : Frame L w w' := ⟨h.os, h.tape, h.output, by rw [h.heap]; exact Nat.le_refl _, fun _ _ _ => by rw [h.heap], fun k cs e fz hk => ⟨cs, e, fz, by rw [h.heap]; exact hk, rfl⟩⟩

theorem at_still {w w' : World} (h : w'.heap = w.heap) (r o : Nat) : at_ w' r o = at_ w r o := at_same (by rw [h]) o
theorem Reads.of_heap {w w' : World} (h : w'.heap = w.heap) (av : Nat → Prop) : Reads w w' av := fun r o v _ hv => by rw [at_still h]; exact hv
theorem Sim.of_heap {w w' : World} (h : w'.heap = w.heap) (ρ : Rho) (hp : Heap) (b : Nat) : Sim w w' ρ ρ hp hp b b :=
  ⟨fun t l s e => ⟨l, s, e, rfl⟩, fun cs e => ⟨cs, e⟩, rfl, fun r base cs e fz _ hw => ⟨cs, e, fz, by rw [h]; exact hw, rfl⟩⟩

theorem RelH.still {A : Nat → Prop} {ρ : Rho} {h : Heap} {w w' : World} (hs : w'.heap = w.heap) (hH : RelH A ρ h w) : RelH A ρ h w' :=
  ⟨hH.inj, fun b x hx => RelB.mono (fun _ _ h => h) (Reads.of_heap hs _) rfl (fun r base _ => by rw [hs]) (fun c _ => Sim.of_heap hs ρ h c) (hH.blk b x hx),
    fun b r base hb e => by rw [hs]; exact hH.out b r base hb e, fun r hr => by rw [hs]; exact hH.A r hr⟩

theorem RelF.still {X : Ctx} {ρ : Rho} {σ : St} {a : Act} {w w' : World} (hs : Still w w') (h : RelF X ρ σ a w) : RelF X ρ σ a w' :=
  ⟨h.H.still hs.heap, fun t => RelV.mono (fun _ _ h => h) (Reads.of_heap hs.heap _) (fun b _ => Sim.of_heap hs.heap ρ σ.h b) (h.m t),
    h.fr.trans (Frame.of_still hs), h.src, h.srcO, h.keep, h.n, h.sz, h.df, h.shp⟩

/-! ## A world in which more memory stands -/
abbrev Mono (w w' : World) : Prop := Frame (fun _ => False) w w'
theorem Mono.refl (w : World) : Mono w w := Frame.refl _ w
theorem Mono.old {w w' : World} (h : Mono w w') {k : Nat} (hk : k < w.heap.size) : w'.heap[k]? = w.heap[k]? := h.block k hk (fun h => h)
theorem Mono.at' {w w' : World} (h : Mono w w') {r o : Nat} {v : Value} (hv : at_ w r o = some v) : at_ w' r o = some v := by
  rw [at_same (h.old (at_lt hv))]; exact hv
theorem Mono.trans {a b c : World} (h : Mono a b) (k : Mono b c) : Mono a c :=
  ⟨k.os.trans h.os, k.tape.trans h.tape, k.output.trans h.output, Nat.le_trans h.size k.size, fun r hr _ => by
    rw [k.old (by have := h.size; omega), h.old hr], fun r cs e fz hr =>
    let ⟨_, _, _, h1, h2⟩ := h.room r cs e fz hr
    let ⟨cs', e', fz', h3, h4⟩ := k.room r _ _ _ h1
    ⟨cs', e', fz', h3, by rw [h4, h2]⟩⟩

/-! ## A new block -/
structure Pushed (w w' : World) (o : Obj) : Prop where
  os : w'.os = w.os
  tape : w'.tape = w.tape
  output : w'.output = w.output
  heap : w'.heap = w.heap.push o

theorem Pushed.old {w w' : World} {o : Obj} (h : Pushed w w' o) {k : Nat} (hk : k < w.heap.size) : w'.heap[k]? = w.heap[k]? := by
  rw [h.heap, Array.getElem?_push, if_neg (by omega)]
theorem Pushed.new {w w' : World} {o : Obj} (h : Pushed w w' o) : w'.heap[w.heap.size]? = some o := by
  rw [h.heap]; simp
theorem Pushed.reads {w w' : World} {o : Obj} (h : Pushed w w' o) (av : Nat → Prop) : Reads w w' av := fun r p v _ hv => by
  rw [at_same (h.old (at_lt hv))]; exact hv
theorem Pushed.frame {L : Nat → Prop} {w w' : World} {o : Obj} (h : Pushed w w' o) : Frame L w w' :=
  ⟨h.os, h.tape, h.output, by rw [h.heap]; simp, fun k hk _ => h.old hk, fun k cs e fz hk => ⟨cs, e, fz, by
    rw [h.old]
    · exact hk
    · rcases Nat.lt_or_ge k w.heap.size with h' | h'
      · exact h'
      · simp [Array.getElem?_eq_none h'] at hk, rfl⟩⟩

theorem get_snoc {α : Type} (l : List α) (x : α) (i : Nat) : (l ++ [x])[i]? = if i < l.length then l[i]? else if i = l.length then some x else none := by
  by_cases h : i < l.length
  · rw [if_pos h, List.getElem?_append_left h]
  · rw [if_neg h, List.getElem?_append_right (by omega)]
    by_cases e : i = l.length
    · subst e; simp
    · rw [if_neg e]
      have : ∃ k, i - l.length = k + 1 := ⟨i - l.length - 1, by omega⟩
      obtain ⟨k, hk⟩ := this
      rw [hk]; simp

def rhoPut (ρ : Rho) (b : Nat) (x : Option (Nat × Nat)) : Rho := fun c => if c = b then x else ρ c
theorem rhoPut_same (ρ : Rho) (b : Nat) (x : Option (Nat × Nat)) : rhoPut ρ b x b = x := by simp [rhoPut]
theorem rhoPut_ne (ρ : Rho) (b : Nat) (x : Option (Nat × Nat)) {c : Nat} (h : c ≠ b) : rhoPut ρ b x c = ρ c := by simp [rhoPut, h]

theorem lt_of_get {α : Type} {l : List α} {i : Nat} {x : α} (h : l[i]? = some x) : i < l.length := by
  rcases Nat.lt_or_ge i l.length with h' | h'
  · exact h'
  · simp [List.getElem?_eq_none h'] at h

/-- What holds of cells under a heap holds under a longer one. -/
theorem Sim.push {w w' : World} {ρ : Rho} {h : Heap} {x : Blk} {y : Option (Nat × Nat)} (hr : ∀ k, k < w.heap.size → w'.heap[k]? = w.heap[k]?) {b : Nat} (hb : b < h.length)
    : Sim w w' ρ (rhoPut ρ h.length y) h (h ++ [x]) b b := by
  have hne : b ≠ h.length := by omega
  refine ⟨fun t l s e => ⟨l, s, by rw [get_snoc, if_pos hb]; exact e, rfl⟩, fun cs e => ⟨cs, by rw [get_snoc, if_pos hb]; exact e⟩, rhoPut_ne _ _ _ hne, fun r base cs e fz _ hw => ⟨cs, e, fz, ?_, rfl⟩⟩
  rw [hr r]
  · exact hw
  · rcases Nat.lt_or_ge r w.heap.size with h' | h'
    · exact h'
    · simp [Array.getElem?_eq_none h'] at hw

theorem SlOk.lt {w : World} {ρ : Rho} {h : Heap} {b : Nat} {wn : Option (Nat × Nat)} {v : Value} (hv : SlOk w ρ h b wn v) : b < h.length := by
  obtain ⟨t, l, s, o, n, ad, c, hb, _⟩ := hv
  exact lt_of_get hb
theorem RelC.refs_lt {w : World} {av : Nat → Prop} {ρ : Rho} {h : Heap} {c : Cell} {v : Value} (hc : RelC w av ρ h c v) : ∀ b ∈ refsC c, b < h.length := by
  intro b hb
  cases c <;> simp [refsC] at hb
  · subst hb; exact SlOk.lt hc
  · subst hb; obtain ⟨x, r, base, hx, _⟩ := hc; exact lt_of_get hx
  · obtain ⟨arr, _, ha⟩ := hc
    obtain ⟨i, hi⟩ := List.getElem?_of_mem hb
    obtain ⟨u, _, x, r, base, hx, _⟩ := ha.get i b hi
    exact lt_of_get hx
theorem All2.refs_lt {w : World} {av : Nat → Prop} {ρ : Rho} {h : Heap} {cs : List Cell} {vs : List Value} (ha : All2 (RelC w av ρ h) cs vs) : ∀ b ∈ refsCs cs, b < h.length := by
  intro b hb
  simp only [refsCs, List.mem_flatMap] at hb
  obtain ⟨c, hc, hb⟩ := hb
  obtain ⟨i, hi⟩ := List.getElem?_of_mem hc
  obtain ⟨u, _, hr⟩ := ha.get i c hi
  exact hr.refs_lt b hb
theorem RelW.refs_lt {w : World} {av : Nat → Prop} {ρ : Rho} {h : Heap} {x : W} {v : Value} (hx : RelW w av ρ h x v) : ∀ b ∈ refsW x, b < h.length := by
  intro b hb
  cases x with
  | one c => exact RelC.refs_lt hx b (by simpa [refsW, W.cells, refsCs] using hb)
  | agg cs => obtain ⟨arr, _, ha⟩ := hx; exact ha.refs_lt b hb
theorem RelV.refs_lt {w : World} {av : Nat → Prop} {ρ : Rho} {h : Heap} {x : V} {v : Value} (hx : RelV w av ρ h x v) : ∀ b ∈ refsV' x, b < h.length := by
  intro b hb
  cases x with
  | any => simp [refsV'] at hb
  | w x => exact RelW.refs_lt hx b hb
  | tup xs =>
    obtain ⟨arr, _, ha⟩ := hx
    simp only [refsV', List.mem_flatMap] at hb
    obtain ⟨c, hc, hb⟩ := hb
    obtain ⟨i, hi⟩ := List.getElem?_of_mem hc
    obtain ⟨u, _, hr⟩ := ha.get i c hi
    exact hr.refs_lt b hb
  | ifc t x =>
    obtain ⟨u, _, hu⟩ := hx
    exact RelW.refs_lt hu b hb
theorem RelB.refs_lt {w : World} {av : Nat → Prop} {ρ : Rho} {h : Heap} {b : Nat} {x : Blk} (hx : RelB w av ρ h b x) : ∀ c ∈ refsB (some x), c < h.length := by
  intro c hc
  cases x with
  | row t l s => simp [refsB] at hc
  | box cs => obtain ⟨r, c', e, _, _, ha⟩ := hx; exact ha.refs_lt c hc

/-- What is asked of a new block's content, in the world before. -/
def NewOk (w : World) (av : Nat → Prop) (ρ : Rho) (h : Heap) (cs : Array Value) : Blk → Prop
  | .row t l s => ∀ i y, l[i]? = some y → ∃ vs, RD w av t y vs ∧ ∀ j u, vs[j]? = some u → cs[i * t.size + j]? = some u
  | .box cl => All2 (RelC w av ρ h) cl cs.toList

theorem own_push {ρ : Rho} {h : Heap} {x : Blk} {y : Option (Nat × Nat)} {r : Nat} (hr : own (rhoPut ρ h.length y) (h ++ [x]) r) : own ρ h r ∨ (∃ base, y = some (r, base) ∧ isFrz x = false) := by
  obtain ⟨b, z, base, hb, hz, hρ⟩ := hr
  rw [get_snoc] at hb
  split at hb
  · rename_i hlt
    rw [rhoPut_ne _ _ _ (by omega)] at hρ
    exact .inl ⟨b, z, base, hb, hz, hρ⟩
  · split at hb
    · rename_i e
      simp at hb; subst hb; subst e
      rw [rhoPut_same] at hρ
      exact .inr ⟨base, hρ, hz⟩
    · simp at hb

theorem shp_push {h0 h : Heap} {n : Nat} {y : Blk} (hs : ∀ (b : Nat) (x : Blk), h0[b]? = some x → b < n → ∃ x', h[b]? = some x' ∧ (isFrz x = true → isFrz x' = true) ∧ (isMoved x' = false → SameShape x x')) :
    ∀ (b : Nat) (x : Blk), h0[b]? = some x → b < n → ∃ x', (h ++ [y])[b]? = some x' ∧ (isFrz x = true → isFrz x' = true) ∧ (isMoved x' = false → SameShape x x') := fun b x hb hn =>
  let ⟨x', h1, h2⟩ := hs b x hb hn
  ⟨x', by rw [List.getElem?_append_left (lt_of_get h1)]; exact h1, h2⟩

theorem RelF.push {X : Ctx} {ρ : Rho} {σ : St} {a : Act} {w w' : World} (hF : RelF X ρ σ a w) {x : Blk} {cs : Array Value} {e : TypeId} (hp : Pushed w w' (.cells cs e (0, 0)))
    (hx : NewOk w (avs X.A ρ σ.h) ρ σ.h cs x) (hm : isMoved x = false) : RelF X (rhoPut ρ σ.h.length (some (w.heap.size, 0))) ⟨σ.m, σ.h ++ [x]⟩ a w' := by
  have hav : ∀ r, r < w.heap.size → avs X.A (rhoPut ρ σ.h.length (some (w.heap.size, 0))) (σ.h ++ [x]) r → avs X.A ρ σ.h r := by
    intro r hr h
    rcases h with h | h
    · exact .inl h
    · rcases own_push h with h | ⟨base, h, _⟩
      · exact .inr h
      · simp at h; omega
  have hrd := hp.reads (avs X.A ρ σ.h)
  have hsim : ∀ b, b < σ.h.length → Sim w w' ρ (rhoPut ρ σ.h.length (some (w.heap.size, 0))) σ.h (σ.h ++ [x]) b b := fun b hb => Sim.push (fun k hk => hp.old hk) hb
  have hw0 : X.w0.heap.size ≤ w.heap.size := hF.fr.size
  have hsz' : w.heap.size < w'.heap.size := by rw [hp.heap]; simp
  refine ⟨⟨?_, ?_, ?_, ?_⟩, ?_, ?_, ?_, ?_, ?_, ?_, hF.sz, hF.df, shp_push hF.shp⟩
  · -- inj
    intro b b' r base base' hb hb' h1 h2
    simp only [List.length_append, List.length_singleton] at hb hb'
    by_cases e1 : b = σ.h.length
    · by_cases e2 : b' = σ.h.length
      · rw [e1, e2]
      · subst e1
        rw [rhoPut_same] at h1
        rw [rhoPut_ne _ _ _ e2] at h2
        simp at h1
        have := (hF.H.out b' r base' (by omega) h2).1
        omega
    · by_cases e2 : b' = σ.h.length
      · subst e2
        rw [rhoPut_same] at h2
        rw [rhoPut_ne _ _ _ e1] at h1
        simp at h2
        have := (hF.H.out b r base (by omega) h1).1
        omega
      · rw [rhoPut_ne _ _ _ e1] at h1
        rw [rhoPut_ne _ _ _ e2] at h2
        exact hF.H.inj b b' r base base' (by omega) (by omega) h1 h2
  · -- blk
    intro b y hy
    simp only at hy
    rw [get_snoc] at hy
    split at hy
    · rename_i hlt
      have hB := hF.H.blk b y hy
      refine RelB.mono hav hrd (rhoPut_ne _ _ _ (by omega)) (fun r base e => hp.old (hF.H.out b r base hlt e).1) (fun c hc => hsim c (hB.refs_lt c hc)) hB
    · split at hy
      · rename_i e1
        simp at hy; subst hy; subst e1
        cases x with
        | row t l s =>
          refine ⟨fun r base e1 => ?_, fun _ => ⟨_, _, rhoPut_same _ _ _⟩, fun _ => ⟨_, _, rhoPut_same _ _ _⟩⟩
          rw [rhoPut_same] at e1
          simp at e1
          obtain ⟨rfl, rfl⟩ := e1
          refine ⟨cs, e, hp.new, fun i y hy => ?_⟩
          obtain ⟨vs, h1, h2⟩ := hx i y hy
          exact ⟨vs, RD.mono hav hrd _ _ _ h1, fun j u hj => by rw [Nat.zero_add]; exact h2 j u hj⟩
        | box cl =>
          have hx' : All2 (RelC w (avs X.A ρ σ.h) ρ σ.h) cl cs.toList := hx
          exact ⟨w.heap.size, cs, e, rhoPut_same _ _ _, hp.new, hx'.mono fun c u hc hcu => RelC.mono hav hrd (fun b hb => hsim b (hcu.refs_lt b hb)) hcu⟩
      · simp at hy
  · -- out
    intro b r base hb h1
    simp only [List.length_append, List.length_singleton] at hb
    by_cases e1 : b = σ.h.length
    · subst e1
      rw [rhoPut_same] at h1
      simp at h1
      obtain ⟨rfl, rfl⟩ := h1
      exact ⟨hsz', fun h => by have := hF.H.A _ h; omega⟩
    · rw [rhoPut_ne _ _ _ e1] at h1
      have := hF.H.out b r base (by omega) h1
      exact ⟨by omega, this.2⟩
  · intro r hr; have := hF.H.A r hr; omega
  · -- slots
    intro t
    have hV := hF.m t
    exact RelV.mono hav hrd (fun b hb => hsim b (hV.refs_lt b hb)) hV
  · exact hF.fr.trans hp.frame
  · intro b r base hb h1
    simp only [List.length_append, List.length_singleton] at hb
    by_cases e1 : b = σ.h.length
    · subst e1
      rw [rhoPut_same] at h1
      simp at h1
      obtain ⟨rfl, rfl⟩ := h1
      exact .inr hw0
    · rw [rhoPut_ne _ _ _ e1] at h1
      exact hF.src b r base (by omega) h1
  · intro b y r base hy hz h1
    simp only at hy
    rw [get_snoc] at hy
    split at hy
    · rename_i hlt
      rw [rhoPut_ne _ _ _ (by omega)] at h1
      exact hF.srcO b y r base hy hz h1
    · split at hy
      · rename_i e1
        subst e1
        rw [rhoPut_same] at h1
        simp at h1
        obtain ⟨rfl, rfl⟩ := h1
        exact .inr hw0
      · simp at hy
  · intro b y hy hb hmv
    simp only at hy
    rw [get_snoc] at hy
    split at hy
    · rename_i hlt
      rw [rhoPut_ne _ _ _ (by omega)]
      exact hF.keep b y hy hb hmv
    · have := hF.n; omega
  · have := hF.n; simp; omega

/-- An empty slice that has no memory. -/
theorem RelF.pushNone {X : Ctx} {ρ : Rho} {σ : St} {a : Act} {w : World} (hF : RelF X ρ σ a w) (t : Ty) (s : RS) (hs : s ≠ .var) (hm : isMoved (.row t [] s) = false) :
    RelF X (rhoPut ρ σ.h.length none) ⟨σ.m, σ.h ++ [.row t [] s]⟩ a w := by
  have hav : ∀ r, r < w.heap.size → avs X.A (rhoPut ρ σ.h.length none) (σ.h ++ [.row t [] s]) r → avs X.A ρ σ.h r := by
    intro r hr h
    rcases h with h | h
    · exact .inl h
    · rcases own_push h with h | ⟨base, h, _⟩
      · exact .inr h
      · simp at h
  have hrd : Reads w w (avs X.A ρ σ.h) := fun r o v _ h => h
  have hsim : ∀ b, b < σ.h.length → Sim w w ρ (rhoPut ρ σ.h.length none) σ.h (σ.h ++ [.row t [] s]) b b := fun b hb => Sim.push (fun k hk => rfl) hb
  refine ⟨⟨?_, ?_, ?_, hF.H.A⟩, ?_, hF.fr, ?_, ?_, ?_, ?_, hF.sz, hF.df, shp_push hF.shp⟩
  · intro b b' r base base' hb hb' h1 h2
    simp only [List.length_append, List.length_singleton] at hb hb'
    by_cases e1 : b = σ.h.length
    · subst e1; rw [rhoPut_same] at h1; simp at h1
    · by_cases e2 : b' = σ.h.length
      · subst e2; rw [rhoPut_same] at h2; simp at h2
      · rw [rhoPut_ne _ _ _ e1] at h1
        rw [rhoPut_ne _ _ _ e2] at h2
        exact hF.H.inj b b' r base base' (by omega) (by omega) h1 h2
  · intro b y hy
    simp only at hy
    rw [get_snoc] at hy
    split at hy
    · rename_i hlt
      have hB := hF.H.blk b y hy
      exact RelB.mono hav hrd (rhoPut_ne _ _ _ (by omega)) (fun r base e => rfl) (fun c hc => hsim c (hB.refs_lt c hc)) hB
    · split at hy
      · rename_i e1
        simp at hy; subst hy; subst e1
        refine ⟨fun r base e1 => ?_, fun h => absurd rfl h, fun h => absurd h hs⟩
        rw [rhoPut_same] at e1
        simp at e1
      · simp at hy
  · intro b r base hb h1
    simp only [List.length_append, List.length_singleton] at hb
    by_cases e1 : b = σ.h.length
    · subst e1; rw [rhoPut_same] at h1; simp at h1
    · rw [rhoPut_ne _ _ _ e1] at h1
      exact hF.H.out b r base (by omega) h1
  · intro t'
    have hV := hF.m t'
    exact RelV.mono hav hrd (fun b hb => hsim b (hV.refs_lt b hb)) hV
  · intro b r base hb h1
    simp only [List.length_append, List.length_singleton] at hb
    by_cases e1 : b = σ.h.length
    · subst e1; rw [rhoPut_same] at h1; simp at h1
    · rw [rhoPut_ne _ _ _ e1] at h1
      exact hF.src b r base (by omega) h1
  · intro b y r base hy hz h1
    simp only at hy
    rw [get_snoc] at hy
    split at hy
    · rw [rhoPut_ne _ _ _ (by omega)] at h1
      exact hF.srcO b y r base hy hz h1
    · split at hy
      · rename_i e1
        subst e1
        rw [rhoPut_same] at h1
        simp at h1
      · simp at hy
  · intro b y hy hb hmv
    simp only at hy
    rw [get_snoc] at hy
    split at hy
    · rw [rhoPut_ne _ _ _ (by omega)]
      exact hF.keep b y hy hb hmv
    · have := hF.n; omega
  · have := hF.n; simp; omega

end Go.Proofs.Ytjoiadaogppmkaa.Sh
