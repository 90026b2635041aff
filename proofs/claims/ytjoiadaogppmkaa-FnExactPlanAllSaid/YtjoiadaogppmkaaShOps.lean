/- The other operations: new blocks, literals, copy, clear, parts of values, arithmetic. -/
import Derived.Test.YtjoiadaogppmkaaShMake
namespace Go.Proofs.Ytjoiadaogppmkaa.Sh
open Go
set_option linter.unusedVariables false
set_option linter.unusedSimpArgs false

/-! ## A new block of cells -/
theorem homC_sound {w : World} {av : Nat → Prop} {ρ : Rho} {h : Heap} : ∀ {cs : List Cell} {k : IntKind} {ns : List Int} {vs : List Value}, homC cs = some (k, ns) → All2 (RelC w av ρ h) cs vs → vs = ns.map (.int k)
  | [], k, ns, vs, hc, ha => by simp [homC] at hc
  | [c], k, ns, vs, hc, ha => by
    cases c <;> simp [homC] at hc
    obtain ⟨rfl, rfl⟩ := hc
    cases ha with
    | cons h1 h2 => cases h2; simp only [RelC] at h1; subst h1; rfl
  | c :: c' :: cs, k, ns, vs, hc, ha => by
    cases c <;> simp only [homC] at hc <;> try cases hc
    rename_i k0 n0
    split at hc
    · rename_i k1 ns1 e1
      split at hc
      · rename_i ek
        simp at hc
        obtain ⟨rfl, rfl⟩ := hc
        cases ha with
        | cons h1 h2 =>
          simp only [RelC] at h1
          subst h1
          rw [homC_sound e1 h2, ek]
          rfl
      · cases hc
    · cases hc

theorem newBlk_ok {w : World} {av : Nat → Prop} {ρ : Rho} {h : Heap} {cs : List Cell} {ar : Array Value} (ha : All2 (RelC w av ρ h) cs ar.toList) : NewOk w av ρ h ar (newBlk cs) ∧ isMoved (newBlk cs) = false := by
  unfold newBlk
  split
  · rename_i k ns e
    refine ⟨fun i y hi => ⟨[.int k y], rfl, fun j u hj => ?_⟩, rfl⟩
    cases j with
    | succ j => simp at hj
    | zero =>
      simp at hj; subst hj
      have := homC_sound e ha
      rw [← Array.getElem?_toList, this, List.getElem?_map]
      simp only [Ty.size, Nat.mul_one, Nat.add_zero, hi]
      rfl
  · exact ⟨ha, rfl⟩

theorem newBlk_stride (cs : List Cell) : ∃ n, blkStride (newBlk cs) = n := ⟨_, rfl⟩

theorem push_ptr {w : World} {av : Nat → Prop} {ρ : Rho} {h : Heap} {x : Blk} {r : Nat} : RelC w av (rhoPut ρ h.length (some (r, 0))) (h ++ [x]) (.ptr h.length 0 0) (.pointer (some ⟨r, 0, none⟩)) :=
  ⟨x, r, 0, by simp, rhoPut_same _ _ _, by simp⟩

theorem alloc_sound {X : Ctx} {ρ : Rho} {σ : St} {a : Act} {w : World} (hF : RelF X ρ σ a w) {cs : List Cell} {ar : Array Value} (ha : All2 (RelC w (avs X.A ρ σ.h) ρ σ.h) cs ar.toList) (e : TypeId) :
    RelF X (rhoPut ρ σ.h.length (some (w.heap.size, 0))) ⟨σ.m, σ.h ++ [newBlk cs]⟩ a { w with heap := w.heap.push (.cells ar e) } :=
  hF.push (x := newBlk cs) (cs := ar) (e := e) ⟨rfl, rfl, rfl, rfl⟩ (newBlk_ok ha).1 (newBlk_ok ha).2

theorem constAll {cs : List Cell} {vs : List Value} (h : All2 constRel cs vs) (w : World) (av : Nat → Prop) (ρ : Rho) (hp : Heap) : All2 (RelC w av ρ hp) cs vs := h.mono fun c v _ hc => hc.rel w av ρ hp

/-! ## make -/
theorem made_get (z : Array Value) (n q : Nat) (hq : q < n) (hz : 0 < z.size) : (madeCells z n)[q]? = z[q % z.size]? := by
  have hm : q % z.size < z.size := Nat.mod_lt _ hz
  simp [madeCells, hq, getElem!_pos z (q % z.size) hm, Array.getElem?_eq_getElem hm]
theorem zeroCells_made (z : Array Value) (n : Nat) : Builtin.zeroCells z n = madeCells z (n * z.size) := rfl
theorem mod_elem (i j n : Nat) (hj : j < n) : (i * n + j) % n = j := by
  rw [Nat.add_comm, Nat.add_mul_mod_self_right, Nat.mod_eq_of_lt hj]

theorem made_elem {z : Array Value} {n m : Nat} {i j : Nat} (hz : z.size = n) (hj : j < n) (hi : i < m) : (madeCells z (m * n))[i * n + j]? = z[j]? := by
  have h1 : i * n + j < m * n := by
    have := Nat.mul_le_mul_right n (show i + 1 ≤ m by omega)
    rw [Nat.succ_mul] at this
    omega
  rw [made_get z _ _ h1 (by omega), hz, mod_elem i j n hj]

theorem makeK_sound {P : Program} {T : Nat → Option TI} (hT : TOk P T) {X : Ctx} {ρ : Rho} {σ : St} {a : Act} {w : World} (hF : RelF X ρ σ a w) {tid : Nat} {vl vc : V} {K : St → Cell → Prop} (hK : makeK T σ tid vl vc K)
    {ul uc : Value} (hl : RelV w (avs X.A ρ σ.h) ρ σ.h vl ul) (hc : RelV w (avs X.A ρ σ.h) ρ σ.h vc uc) :
    ∃ σ' c v w' ρ', K σ' c ∧ (Instr.makeSlice tid ul uc).run P w = .ok v w' ∧ Mono w w' ∧ RelF X ρ' σ' a w' ∧ RelC w' (avs X.A ρ' σ'.h) ρ' σ'.h c v := by
  unfold makeK at hK
  split at hK
  · exact hK.elim
  rename_i e he
  obtain ⟨_, _, _, _, _, hTt⟩ := elemOf_some he
  obtain ⟨d, hd, hk, _⟩ := (hT _ _ hTt).desc
  have hk : d = .slice e := hk
  subst hk
  split at hK
  · rename_i t n m hty hn hm
    obtain ⟨i, z, hE⟩ := elem_info hT hty
    obtain ⟨c1, hK1⟩ := Ck_iff hK
    obtain ⟨c2, hK2⟩ := Ck_iff hK1
    obtain ⟨c3, hK3⟩ := Ck_iff hK2
    have c1 := of_decide_eq_true c1
    have c2 := of_decide_eq_true c2
    have c3 := of_decide_eq_true c3
    have asI_int : ∀ {v : V} {u : Value} {n : Int}, asI v = some n → RelV w (avs X.A ρ σ.h) ρ σ.h v u → ∃ k, u = .int k n := by
      intro v u n h1 h2
      unfold asI at h1
      split at h1
      · rename_i k n'
        simp at h1; subst h1
        exact ⟨k, h2⟩
      · cases h1
    obtain ⟨kl, rfl⟩ := asI_int hn hl
    obtain ⟨kc, rfl⟩ := asI_int hm hc
    have hbp := hE.bpos
    have hmr : m ≤ (roomy : Int) := by
      have h1 : m * 1 ≤ m * (bytesOf T e : Int) := Int.mul_le_mul_of_nonneg_left (by omega) (by omega)
      omega
    have hb : (i.bytes : Int) * m ≤ 281474976710656 := by
      rw [hE.bytes, Int.mul_comm]
      simp only [roomy] at c3
      omega
    have hrun := run_make (P := P) w tid e i z hd hE.info hE.zero kl kc n m c1 c2 hb (by simp only [roomy] at hmr; omega)
    have hF' := hF.push (x := .row t (List.replicate n.toNat t.zero) .own) (alloc_pushed w (.cells (madeCells z.cells (m.toNat * i.size)) e)) (by
      intro q y hq
      have hql := lt_of_get hq
      rw [List.length_replicate] at hql
      rw [List.getElem?_replicate, if_pos hql] at hq
      simp at hq; subst hq
      have hz := hE.zrd w (avs X.A ρ σ.h)
      refine ⟨_, hz, fun j u hj => ?_⟩
      have hjl := lt_of_get hj
      rw [hz.size] at hjl
      rw [hE.size, made_elem hE.zsize hjl (by omega), ← Array.getElem?_toList]
      exact hj) rfl
    refine ⟨_, _, _, _, _, hK3, hrun, (alloc_pushed w _).frame, hF', t, List.replicate n.toNat t.zero, .own, 0, n.toNat, _, m.toNat, by simp, by simp, by simp, rfl, by omega, .inr ⟨w.heap.size, 0, _, e, (0, 0), rhoPut_same _ _ _, by simp, (alloc_pushed w _).new, ?_⟩⟩
    rw [size_madeCells, hE.size]
    simp
  · exact hK.elim

/-! ## A slice written out -/
theorem evParts_sound {X : Ctx} {ρ : Rho} {σ : St} {a : Act} {w : World} (hev : ∀ x, RelV w (avs X.A ρ σ.h) ρ σ.h (ev σ x) (a.eval x)) : ∀ {ps : List (Nat × Operand)} {qs : List (Nat × List Cell)}, evParts σ ps = some qs →
    All2 (fun (q : Nat × List Cell) (p : Nat × Value) => q.1 = p.1 ∧ All2 (RelC w (avs X.A ρ σ.h) ρ σ.h) q.2 p.2.cells.toList ∧ (∀ u ∈ p.2.cells.toList, one_ u)) qs (ps.map fun p => (p.1, a.eval p.2))
  | [], qs, h => by simp [evParts] at h; subst h; exact .nil
  | (i, x) :: ps, qs, h => by
    simp only [evParts] at h
    split at h
    · rename_i x' s e1 e2
      simp at h; subst h
      have hx := hev x
      have hw : RelW w (avs X.A ρ σ.h) ρ σ.h x' (a.eval x) := by
        unfold asW at e1
        split at e1
        · rename_i y ey
          simp at e1; subst e1
          rw [ey] at hx
          exact hx
        · cases e1
      exact .cons ⟨rfl, hw.cells.1, hw.cells.2⟩ (evParts_sound hev e2)
    · cases h

theorem absorbP_sound {X : Ctx} {ρ : Rho} {a : Act} {w : World} : ∀ {qs qs' : List (Nat × List Cell)} {σ : St} {h' : Heap} {ps : List (Nat × Value)}, RelF X ρ σ a w →
    All2 (fun (q : Nat × List Cell) (p : Nat × Value) => q.1 = p.1 ∧ All2 (RelC w (avs X.A ρ σ.h) ρ σ.h) q.2 p.2.cells.toList ∧ (∀ u ∈ p.2.cells.toList, one_ u)) qs ps → absorbP σ.h qs = (qs', h') →
    RelF X ρ ⟨σ.m, h'⟩ a w ∧ All2 (fun (q : Nat × List Cell) (p : Nat × Value) => q.1 = p.1 ∧ All2 (RelC w (avs X.A ρ h') ρ h') q.2 p.2.cells.toList ∧ (∀ u ∈ p.2.cells.toList, one_ u)) qs' ps ∧ (∃ bs : List Nat, h' = freezeAll σ.h bs)
  | [], qs', σ, h', ps, hF, ha, he => by
    simp [absorbP] at he
    obtain ⟨rfl, rfl⟩ := he
    cases ha
    exact ⟨hF, .nil, [], rfl⟩
  | (i, cs) :: qs, qs', σ, h', ps, hF, ha, he => by
    cases ha with
    | @cons _ p _ ps' h1 h2 =>
      unfold absorbP at he
      generalize e1 : absorb σ.h cs = p1 at he
      obtain ⟨c1, g1⟩ := p1
      simp only at he
      generalize e2 : absorbP g1 qs = p2 at he
      obtain ⟨cs1, g2⟩ := p2
      simp at he
      obtain ⟨rfl, rfl⟩ := he
      obtain ⟨hF1, hc1, bs1, rfl⟩ := absorb_sound hF h1.2.1 e1
      obtain ⟨hF2, ha2, bs2, rfl⟩ := absorbP_sound hF1 (h2.mono fun q p _ hq => ⟨hq.1, hq.2.1.mono fun c v _ hc => RelC.freezeAll bs1 hc, hq.2.2⟩) e2
      exact ⟨hF2, .cons ⟨h1.1, hc1.mono (fun c v _ hc => RelC.freezeAll bs2 hc), h1.2.2⟩ ha2, bs1 ++ bs2, (freezeAll_append _ _ _).symm⟩

/-- 'fill' puts values over a row's cells. -/
theorem foldl_put (off : Nat) : ∀ (vs : List Value) (k : Nat) (cs : Array Value), off + k + vs.length ≤ cs.size →
    (vs.zipIdx k).foldl (fun cs (c, j) => cs.setIfInBounds (off + j) c) cs = putAt cs (off + k) vs
  | [], k, cs, h => by apply Array.ext'; simp [putAt]
  | v :: vs, k, cs, h => by
    simp only [List.zipIdx_cons, List.foldl_cons, List.length_cons] at h ⊢
    rw [foldl_put off vs (k + 1) _ (by simp; omega)]
    apply Array.ext_getElem?
    intro q
    rw [putAt_get _ _ _ (by simp; omega), putAt_get _ _ _ (by simpa using h)]
    by_cases h1 : off + (k + 1) ≤ q ∧ q < off + (k + 1) + vs.length
    · rw [if_pos h1, if_pos (by simp; omega), show q - (off + k) = (q - (off + (k + 1))) + 1 by omega]
      simp
    · rw [if_neg h1]
      by_cases h2 : q = off + k
      · subst h2
        have hlt : off + k < cs.size := by omega
        rw [if_pos (by simp), Nat.sub_self]
        simp [Array.getElem?_setIfInBounds, hlt]
      · rw [if_neg (by simp; omega), Array.getElem?_setIfInBounds_ne (by omega)]

theorem fill_run (place : Nat → Option (Nat × Nat)) (i off size : Nat) (v : Value) (rest : List (Nat × Value)) (cells : Array Value) (hp : place i = some (off, size)) (hs : v.cells.size = size) (ho : off + size ≤ cells.size) :
    Instr.fill place cells ((i, v) :: rest) = Instr.fill place (putAt cells off v.cells.toList) rest := by
  simp only [Instr.fill, hp]
  rw [if_neg (by simp [hs]; omega)]
  congr 1
  have := foldl_put off v.cells.toList 0 cells (by simpa [hs] using ho)
  rw [← Array.foldl_toList]
  simpa using this

theorem fillD_sound {w : World} {av : Nat → Prop} {ρ : Rho} {h : Heap} {t : Ty} {n : Nat} : ∀ {qs : List (Nat × List Cell)} {l l' : List t.D} {ps : List (Nat × Value)} {cells : Array Value}, fillD t qs l = some l' → l.length = n → (∀ q ∈ qs, q.1 < n) →
    cells.size = n * t.size → (∀ i x, l[i]? = some x → ∃ vs, RD w av t x vs ∧ ∀ j u, vs[j]? = some u → cells[i * t.size + j]? = some u) →
    All2 (fun (q : Nat × List Cell) (p : Nat × Value) => q.1 = p.1 ∧ All2 (RelC w av ρ h) q.2 p.2.cells.toList ∧ (∀ u ∈ p.2.cells.toList, one_ u)) qs ps →
    ∃ cells', Instr.fill (fun i => some (i * t.size, t.size)) cells ps = some cells' ∧ l'.length = n ∧ cells'.size = n * t.size ∧ (∀ i x, l'[i]? = some x → ∃ vs, RD w av t x vs ∧ ∀ j u, vs[j]? = some u → cells'[i * t.size + j]? = some u)
  | [], l, l', ps, cells, hf, hl, hq, hs, hc, ha => by
    simp [fillD] at hf; subst hf
    cases ha
    exact ⟨cells, rfl, hl, hs, hc⟩
  | (i, cs) :: qs, l, l', ps, cells, hf, hl, hq, hs, hc, ha => by
    simp only [fillD] at hf
    split at hf
    · rename_i x hx
      cases ha with
      | @cons _ p _ ps' h1 h2 =>
        obtain ⟨pi, pv⟩ := p
        obtain ⟨rfl, h3, h4⟩ := h1
        have hi : i < n := hq (i, cs) (by simp)
        have hrd := parseW_sound hx h3
        have hsz : pv.cells.toList.length = t.size := hrd.size
        have hbound : i * t.size + t.size ≤ n * t.size := by
          have := Nat.mul_le_mul_right t.size (show i + 1 ≤ n by omega)
          rwa [Nat.succ_mul] at this
        have hpv : pv.cells.size = t.size := by rw [← hsz]; simp
        rw [fill_run (fun i => some (i * t.size, t.size)) i (i * t.size) t.size pv ps' cells rfl hpv (by omega)]
        have hbd : i * t.size + pv.cells.toList.length ≤ cells.size := by rw [hsz]; omega
        refine fillD_sound hf (by simp [hl]) (fun q hq' => hq q (by simp [hq'])) (by rw [putAt_size _ _ _ hbd, hs]) (fun q y hy => ?_) h2
        rw [get_set] at hy
        split at hy
        · rename_i eq
          subst eq
          rw [if_pos (by omega)] at hy
          simp at hy; subst hy
          refine ⟨_, hrd, fun j u hj => ?_⟩
          have hjl : j < pv.cells.toList.length := lt_of_get hj
          rw [putAt_get _ _ _ hbd, if_pos (by omega), ← hj]
          congr 1
          omega
        · rename_i hne
          obtain ⟨vs, h5, h6⟩ := hc q y hy
          refine ⟨vs, h5, fun j u hj => ?_⟩
          have hjl := lt_of_get hj
          rw [h5.size] at hjl
          rw [putAt_get _ _ _ hbd, if_neg]
          · exact h6 j u hj
          · intro hcon
            rcases apart (n := t.size) hne with h7 | h7 <;> omega
    · cases hf

theorem buildSliceK_sound {P : Program} {T : Nat → Option TI} (hT : TOk P T) {X : Ctx} {ρ : Rho} {σ : St} {a : Act} {w : World} (hF : RelF X ρ σ a w) (hev : ∀ x, RelV w (avs X.A ρ σ.h) ρ σ.h (ev σ x) (a.eval x)) {tid n : Nat} {ps : List (Nat × Operand)} {K : St → Cell → Prop}
    (hK : buildSliceK T σ tid n ps K) :
    ∃ σ' c v w' ρ', K σ' c ∧ (Instr.buildSlice tid n (ps.map fun p => (p.1, a.eval p.2)).toArray).run P w = .ok v w' ∧ Mono w w' ∧ RelF X ρ' σ' a w' ∧ RelC w' (avs X.A ρ' σ'.h) ρ' σ'.h c v := by
  unfold buildSliceK at hK
  split at hK
  · exact hK.elim
  rename_i e he
  obtain ⟨_, _, _, _, _, hTt⟩ := elemOf_some he
  obtain ⟨d, hd, hk, _⟩ := (hT _ _ hTt).desc
  have hk : d = .slice e := hk
  subst hk
  split at hK
  · rename_i t qs hty hqs
    obtain ⟨i, z, hE⟩ := elem_info hT hty
    have hparts := evParts_sound hev hqs
    generalize eab : absorbP σ.h qs = pab at hK
    obtain ⟨qs', h'⟩ := pab
    simp only at hK
    obtain ⟨hF', hparts', bs, rfl⟩ := absorbP_sound hF hparts eab
    split at hK
    · rename_i l hl
      obtain ⟨c1, hK1⟩ := Ck_iff hK
      obtain ⟨c2, hK2⟩ := Ck_iff hK1
      have hn := ble_iff c1
      have hall : ∀ q ∈ qs', q.1 < n := fun q hq => blt_iff (List.all_eq_true.1 c2 q hq)
      have hz0 := hE.zrd w (avs X.A ρ (freezeAll σ.h bs))
      obtain ⟨cells', hfill, hl', hs', hc'⟩ := fillD_sound (cells := madeCells z.cells (n * t.size)) hl (by simp) hall (by rw [size_madeCells]) (fun q y hq => by
        have hql := lt_of_get hq
        rw [List.length_replicate] at hql
        rw [List.getElem?_replicate, if_pos hql] at hq
        simp at hq; subst hq
        refine ⟨_, hz0, fun j u hj => ?_⟩
        have hjl := lt_of_get hj
        rw [hz0.size] at hjl
        rw [made_elem hE.zsize hjl hql, ← Array.getElem?_toList]
        exact hj) hparts'
      have hrun : (Instr.buildSlice tid n (ps.map fun p => (p.1, a.eval p.2)).toArray).run P w = .ok (.slice (some ⟨w.heap.size, 0, none⟩) n n) (w.alloc (.cells cells' e)) := by
        have hle : ¬ (n * t.size > 2 ^ 24) := by omega
        by_cases h0 : n * t.size = 0
        · have hmade : (Array.range (n * t.size)).map (fun i => (#[] : Array Value)[i % (#[] : Array Value).size]!) = madeCells z.cells (n * t.size) := by
            rw [h0]; simp [madeCells]
          simp only [Instr.buildSlice, Sem.run_bind, run_underlying hd, Result.andThen_ok, run_sizeOf hE.info, hE.size, Sem.run_ite, if_neg hle, Sem.run_pure, if_pos h0, hmade, hfill, newRow, run_newObj]
          rfl
        · have hmade : (Array.range (n * t.size)).map (fun i => z.cells[i % z.cells.size]!) = madeCells z.cells (n * t.size) := rfl
          simp only [Instr.buildSlice, Sem.run_bind, run_underlying hd, Result.andThen_ok, run_sizeOf hE.info, hE.size, Sem.run_ite, if_neg hle, Sem.run_pure, if_neg h0, zeroValue, typeInfo, run_program, hE.info, hE.zero, hmade, hfill, newRow, run_newObj]
          rfl
      have hF2 := hF'.push (x := .row t l .own) (alloc_pushed w (.cells cells' e)) (fun q y hq => hc' q y hq) rfl
      refine ⟨_, _, _, _, _, hK2, hrun, (alloc_pushed w _).frame, hF2, t, l, .own, 0, n, _, n, by simp, by simp [hl'], by omega, rfl, Nat.le_refl _, .inr ⟨w.heap.size, 0, cells', e, (0, 0), rhoPut_same _ _ _, by simp, (alloc_pushed w _).new, by rw [hs']; simp⟩⟩
    · exact hK.elim
  · exact hK.elim

end Go.Proofs.Ytjoiadaogppmkaa.Sh
