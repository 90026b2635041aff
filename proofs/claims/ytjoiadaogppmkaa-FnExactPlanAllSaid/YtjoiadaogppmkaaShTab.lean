/- The type table against the program; what loads and addresses come to. -/
import Derived.Laws.Slices
import Derived.Laws.CopyRow
import Derived.Laws.MakeOwn
import Derived.ArgAppend
import Derived.WalkKit
import Derived.Test.YtjoiadaogppmkaaShFrame2
namespace Go.Proofs.Ytjoiadaogppmkaa.Sh
open Go
set_option linter.unusedVariables false
set_option linter.unusedSimpArgs false

def isAggD : TypeDesc → Bool
  | .struct _ => true
  | .array _ _ => true
  | _ => false
def kindOk : TK → TypeDesc → Prop
  | .struct fs, d => ∃ fields : Array Field, d = .struct fields ∧ fields.toList.map (fun f => (f.offset, f.type)) = fs
  | .arr n e, d => d = .array n e
  | .slice e, d => d = .slice e
  | .ptr e, d => d = .pointer e
  | .cell, d => isAggD d = false
  | .func, d => isAggD d = false

def constRel : Cell → Value → Prop
  | .bool b, v => v = .bool b
  | .int k n, v => v = .int k n
  | .nil, v => v = .slice none 0 0
  | .undef, v => one_ v
  | _, _ => False

structure TOk1 (P : Program) (t : Nat) (ti : TI) : Prop where
  info : ∃ i z, P.info? t = some i ∧ i.zero = some z ∧ i.size = ti.size ∧ i.bytes = ti.bytes ∧ All2 constRel ti.zero z.cells.toList ∧ z.cells.size = ti.size ∧
    (∀ ty, ti.ty = some ty → ty.size = ti.size ∧ ∀ w av, RD w av ty ty.zero z.cells.toList)
  one : ti.agg = false → ti.size = 1
  pos : 0 < ti.size
  posb : 0 < ti.bytes
  conc : ∀ ms, P.underlying t ≠ some (.interface ms)
  desc : ∃ d, P.underlying t = some d ∧ kindOk ti.kind d ∧ isAggD d = ti.agg ∧ (∀ k, ti.ty = some (.int k) → d = .int k) ∧ (ti.ty = some .bool → d = .bool)
def TOk (P : Program) (T : Nat → Option TI) : Prop := ∀ t ti, T t = some ti → TOk1 P t ti

theorem constRel.rel {c : Cell} {v : Value} (h : constRel c v) (w : World) (av : Nat → Prop) (ρ : Rho) (hp : Heap) : RelC w av ρ hp c v := by
  cases c <;> simp only [constRel] at h <;> first | exact h | exact h.elim

theorem run_sizeOf {P : Program} {t : Nat} {i : TypeInfo} (h : P.info? t = some i) (w : World) : (Go.sizeOf t).run P w = .ok i.size w := by
  simp [Go.sizeOf, typeInfo, h]
theorem run_isAgg {P : Program} {t : Nat} {d : TypeDesc} (h : P.underlying t = some d) (w : World) : (isAgg t).run P w = .ok (isAggD d) w := by
  simp only [isAgg, Sem.run_bind, run_underlying h, Result.andThen_ok]
  cases d <;> rfl

theorem add_at (r o j : Nat) : (⟨r, o, none⟩ : Addr).add j = ⟨r, o + j, none⟩ := by
  unfold Addr.add
  split
  · rename_i h; subst h; rfl
  · rfl

/-- a value out of these cells, as a load hands it back -/
def Shows (agg : Bool) (vs : List Value) (v : Value) : Prop := (agg = true → v = .agg vs.toArray) ∧ (agg = false → vs = [v])

theorem run_loadVar {P : Program} {t : Nat} {ti : TI} (hT : TOk1 P t ti) {w : World} {r o : Nat} {vs : List Value} (hl : vs.length = ti.size) (hc : ∀ j v, vs[j]? = some v → at_ w r (o + j) = some v) :
    ∃ v, (∀ w', Mono w w' → (loadVar t ⟨r, o, none⟩).run P w' = .ok v w') ∧ Shows ti.agg vs v := by
  obtain ⟨i, z, hi, _, hs, _⟩ := hT.info
  obtain ⟨d, hd, _, hag, _⟩ := hT.desc
  have hcells : ∀ w', Mono w w' → (loadCells ⟨r, o, none⟩ i.size).run P w' = .ok vs.toArray w' := fun w' hw => by
    have := run_loadCells_list (P := P) w' ⟨r, o, none⟩ vs (fun j v hj => by rw [add_at]; exact hw.at' (hc j v hj))
    rwa [hl, ← hs] at this
  cases ha : ti.agg with
  | true =>
    refine ⟨.agg vs.toArray, fun w' hw => ?_, ⟨(fun _ => rfl), (fun h => by cases h)⟩⟩
    simp only [loadVar, Sem.run_bind, run_isAgg hd, Result.andThen_ok, hag, ha, if_true, run_sizeOf hi, hcells w' hw, Sem.run_pure]
  | false =>
    have hl1 : vs.length = 1 := by rw [hl]; exact hT.one ha
    match vs, hl1 with
    | [v], _ =>
      refine ⟨v, fun w' hw => ?_, ⟨(fun h => by cases h), (fun _ => rfl)⟩⟩
      have := hw.at' (hc 0 v rfl)
      simp only [loadVar, Sem.run_bind, run_isAgg hd, Result.andThen_ok, hag, ha, Bool.false_eq_true, if_false, run_load]
      simp only [at_, Nat.add_zero] at this
      rw [this]

theorem mkW_rel {w : World} {av : Nat → Prop} {ρ : Rho} {h : Heap} {agg : Bool} {cs : List Cell} {vs : List Value} {v : Value} (hc : All2 (RelC w av ρ h) cs vs) (hv : Shows agg vs v) : RelW w av ρ h (mkW agg cs) v := by
  cases agg with
  | true =>
    have := hv.1 rfl
    subst this
    exact ⟨_, rfl, by simpa using hc⟩
  | false =>
    have := hv.2 rfl
    subst this
    cases hc with
    | cons h1 h2 => cases h2; exact h1

theorem cellsD_rel {w : World} {av : Nat → Prop} {ρ : Rho} {h : Heap} : ∀ (t : Ty) (x : t.D) (vs : List Value), RD w av t x vs → All2 (RelC w av ρ h) (cellsD t x) vs
  | .int k, x, vs, hx => by simp only [RD] at hx; subst hx; exact .cons rfl .nil
  | .bool, x, vs, hx => by simp only [RD] at hx; subst hx; exact .cons rfl .nil
  | .pair a b, x, vs, ⟨l, r, e, h1, h2⟩ => by subst e; exact (cellsD_rel a x.1 l h1).append (cellsD_rel b x.2 r h2)
  | .sl a, x, vs, hx => by
    obtain ⟨ad, c, e, hc, h'⟩ := hx
    subst e
    exact .cons ⟨ad, c, rfl, hc, h'⟩ .nil

theorem cell1_rel {w : World} {av : Nat → Prop} {ρ : Rho} {h : Heap} (t : Ty) (ht : t.isPair = false) (x : t.D) (vs : List Value) (hx : RD w av t x vs) : ∃ v, vs = [v] ∧ RelC w av ρ h (cell1 t x) v := by
  cases t with
  | int k => simp only [RD] at hx; exact ⟨_, hx, rfl⟩
  | bool => simp only [RD] at hx; exact ⟨_, hx, rfl⟩
  | pair a b => simp [Ty.isPair] at ht
  | sl a =>
    obtain ⟨ad, c, e, hc, h'⟩ := hx
    exact ⟨_, e, ⟨ad, c, rfl, hc, h'⟩⟩

theorem ints_rel {w : World} {av : Nat → Prop} {k : IntKind} : ∀ (t : Ty), t.hom = some k → ∀ (x : t.D) (vs : List Value), RD w av t x vs → vs = (t.ints x).map (.int k)
  | .int k', h, x, vs, hx => by simp [Ty.hom] at h; subst h; exact hx
  | .bool, h, x, vs, hx => by simp [Ty.hom] at h
  | .sl a, h, x, vs, hx => by simp [Ty.hom] at h
  | .pair a b, h, x, vs, ⟨l, r, e, h1, h2⟩ => by
    simp only [Ty.hom] at h
    split at h
    · rename_i k1 k2 e1 e2
      split at h
      · rename_i ek
        simp at h; subst h; subst ek
        subst e
        simp [Ty.ints, ints_rel a e1 x.1 l h1, ints_rel b e2 x.2 r h2]
      · cases h
    · cases h

theorem Ck_iff {b : Bool} {K : Prop} (h : Ck b K) : b = true ∧ K := by
  cases b
  · exact h.elim
  · exact ⟨rfl, h⟩
theorem ble_iff {a b : Nat} (h : Nat.ble a b = true) : a ≤ b := Nat.le_of_ble_eq_true h
theorem blt_iff {a b : Nat} (h : Nat.blt a b = true) : a < b := Nat.le_of_ble_eq_true h
theorem beq_iff {a b : Nat} (h : Nat.beq a b = true) : a = b := Nat.eq_of_beq_eq_true h

/-- A part of a datum that lies in memory, loaded. -/
theorem partD_sound {P : Program} {tid : Nat} {ti : TI} (hT : TOk1 P tid ti) {w : World} {av : Nat → Prop} {ρ : Rho} {h : Heap} {t : Ty} {x : t.D} {o : Nat} {K : W → Prop} (hK : partD t x o ti.size ti.agg K)
    {vs : List Value} (hx : RD w av t x vs) {r p : Nat} (hc : ∀ j v, vs[j]? = some v → at_ w r (p + j) = some v) :
    ∃ y v, K y ∧ (∀ w', Mono w w' → (loadVar tid ⟨r, p + o, none⟩).run P w' = .ok v w') ∧ RelW w av ρ h y v := by
  have hlen := hx.size
  have hsub : ∀ n, ∀ j v, ((vs.drop o).take n)[j]? = some v → at_ w r (p + o + j) = some v := by
    intro n j v hj
    rw [List.getElem?_take] at hj
    split at hj
    · rw [List.getElem?_drop] at hj
      have := hc _ _ hj
      rwa [← Nat.add_assoc] at this
    · cases hj
  unfold partD at hK
  split at hK
  · rename_i hp
    obtain ⟨h1, hK1⟩ := Ck_iff hK
    simp only [Bool.and_eq_true, Bool.not_eq_true'] at h1
    obtain ⟨⟨ho, hn⟩, hag⟩ := h1
    have ho := beq_iff ho
    have hn := beq_iff hn
    obtain ⟨v0, e, hr⟩ := cell1_rel (ρ := ρ) (h := h) t hp x vs hx
    subst e
    obtain ⟨v, hv, hs⟩ := run_loadVar hT (w := w) (r := r) (o := p) (vs := [v0]) (by simpa using hn.symm) hc
    have hv0 := hs.2 hag
    simp at hv0
    subst hv0
    refine ⟨_, _, hK1, ?_, hr⟩
    rw [ho, Nat.add_zero]
    exact hv
  · rename_i hp
    have hcs := cellsD_rel (ρ := ρ) (h := h) t x vs hx
    split at hK
    · rename_i h1
      simp only [Bool.and_eq_true] at h1
      have ho := beq_iff h1.2
      have hn := beq_iff h1.1
      obtain ⟨v, hv, hs⟩ := run_loadVar hT (w := w) (r := r) (o := p) (vs := vs) (by rw [hlen, hn]) hc
      refine ⟨_, v, hK, ?_, mkW_rel hcs hs⟩
      rw [ho, Nat.add_zero]
      exact hv
    · split at hK
      · rename_i k hag hk
        obtain ⟨h1, hK1⟩ := Ck_iff hK
        obtain ⟨h2, hK2⟩ := Ck_iff hK1
        have hn := beq_iff h1
        have ho := blt_iff h2
        have hi := ints_rel t hk x vs hx
        have hlt : o < vs.length := by rw [hlen]; exact ho
        have hg : vs[o]? = some (.int k ((t.ints x).getD o 0)) := by
          rw [hi, List.getElem?_map]
          have : o < (t.ints x).length := by rw [hi] at hlt; simpa using hlt
          simp [List.getD, List.getElem?_eq_getElem this]
        have h1c : ((vs.drop o).take 1) = [.int k ((t.ints x).getD o 0)] := by
          apply List.ext_getElem?
          intro j
          rw [List.getElem?_take]
          cases j with
          | zero => simp [hg]
          | succ j => simp
        obtain ⟨v, hv, hs⟩ := run_loadVar hT (w := w) (r := r) (o := p + o) (vs := (vs.drop o).take 1) (by rw [h1c, hn]; rfl) (hsub 1)
        have hv0 := hs.2 hag
        rw [h1c] at hv0
        simp at hv0
        subst hv0
        exact ⟨_, _, hK2, hv, rfl⟩
      · obtain ⟨h1, hK1⟩ := Ck_iff hK
        have hle := ble_iff h1
        have hl2 : ((vs.drop o).take ti.size).length = ti.size := by simp; omega
        obtain ⟨v, hv, hs⟩ := run_loadVar hT (w := w) (r := r) (o := p + o) hl2 (hsub ti.size)
        exact ⟨_, v, hK1, hv, mkW_rel ((hcs.drop o).take ti.size) hs⟩

theorem getD_some {α : Type} {l : List α} {i : Nat} (d : α) (h : i < l.length) : l[i]? = some (l.getD i d) := by
  simp [List.getD, List.getElem?_eq_getElem h]

/-- The cells of a block's element, read. -/
theorem row_read {w : World} {av : Nat → Prop} {ρ : Rho} {h : Heap} {b r base : Nat} {t : Ty} {l : List t.D} {s : RS} (hB : RelB w av ρ h b (.row t l s)) (hρ : ρ b = some (r, base)) {i : Nat} {x : t.D} (hi : l[i]? = some x) :
    ∃ vs, RD w av t x vs ∧ ∀ j v, vs[j]? = some v → at_ w r (base + i * t.size + j) = some v := by
  obtain ⟨h1, _, _⟩ := hB
  obtain ⟨cs, e, hw, hc⟩ := h1 r base hρ
  obtain ⟨vs, hv, hj⟩ := hc i x hi
  exact ⟨vs, hv, fun j v hjv => at_of hw (hj j v hjv)⟩

theorem size_one {t : Ty} (h : t.isPair = false) : t.size = 1 := by cases t <;> simp_all [Ty.isPair, Ty.size]

theorem loadK_sound {P : Program} {T : Nat → Option TI} (hT : TOk P T) {w : World} {A : Nat → Prop} {ρ : Rho} {h : Heap} (hH : RelH A ρ h w) {tid : Nat} {c : Cell} {K : W → Prop} (hK : loadK T h tid c K)
    {u : Value} (hc : RelC w (avs A ρ h) ρ h c u) : ∃ y v, K y ∧ (∀ w', Mono w w' → (Instr.loadAt tid u).run P w' = .ok v w') ∧ RelW w (avs A ρ h) ρ h y v := by
  unfold loadK at hK
  split at hK
  · exact hK.elim
  · rename_i ti hti
    have hT1 := hT _ _ hti
    split at hK
    · rename_i t x o
      obtain ⟨r, p, cs, hn, hx, hj, e⟩ := hc
      subst e
      obtain ⟨y, v, h1, h2, h3⟩ := partD_sound (ρ := ρ) (h := h) hT1 hK hx hj
      exact ⟨y, v, h1, fun w' hw => by simpa [Instr.loadAt, Instr.sureAddr] using h2 w' hw, h3⟩
    · rename_i b i o
      obtain ⟨blk, r, base, hb, hρ, e⟩ := hc
      subst e
      rw [hb] at hK
      have hB := hH.blk b blk hb
      cases blk with
      | box cs =>
        simp only at hK
        obtain ⟨h1, hK1⟩ := Ck_iff hK
        obtain ⟨h2, hK2⟩ := Ck_iff hK1
        have hi := beq_iff h1
        have hle := ble_iff h2
        obtain ⟨r', c', e', h3, h4, h5⟩ := hB
        rw [hρ] at h3
        simp at h3
        obtain ⟨rfl, rfl⟩ := h3
        have hl := h5.length
        have hl2 : ((c'.toList.drop o).take ti.size).length = ti.size := by simp at hl ⊢; omega
        obtain ⟨v, hv, hs⟩ := run_loadVar hT1 (w := w) (r := r) (o := o) hl2 (by
          intro j v hj
          rw [List.getElem?_take] at hj
          split at hj
          · rw [List.getElem?_drop] at hj
            exact at_of h4 (by simpa using hj)
          · cases hj)
        refine ⟨_, v, hK2, fun w' hw => ?_, mkW_rel ((h5.drop o).take ti.size) hs⟩
        simpa [Instr.loadAt, Instr.sureAddr, blkStride] using hv w' hw
      | row t l s =>
        simp only at hK
        split at hK
        · rename_i hp
          obtain ⟨h1, hK1⟩ := Ck_iff hK
          have hi := blt_iff h1
          obtain ⟨vs, hx, hj⟩ := row_read hB hρ (getD_some t.zero hi)
          obtain ⟨y, v, h2, h3, h4⟩ := partD_sound (ρ := ρ) (h := h) hT1 hK1 hx hj
          exact ⟨y, v, h2, fun w' hw => by simpa [Instr.loadAt, Instr.sureAddr, blkStride, Nat.add_assoc] using h3 w' hw, h4⟩
        · rename_i hp
          obtain ⟨h1, hK1⟩ := Ck_iff hK
          obtain ⟨h2, hK2⟩ := Ck_iff hK1
          have ho := beq_iff h1
          have hle := ble_iff h2
          have hs1 := size_one hp
          have hcell : ∀ j, j < ti.size → ∃ u, at_ w r (base + i + j) = some u ∧ RelC w (avs A ρ h) ρ h (cell1 t (l.getD (i + j) t.zero)) u := by
            intro j hj
            obtain ⟨vs, hx, hjv⟩ := row_read hB hρ (getD_some t.zero (show i + j < l.length by omega))
            obtain ⟨u, e, hr⟩ := cell1_rel (ρ := ρ) (h := h) t hp _ vs hx
            subst e
            refine ⟨u, ?_, hr⟩
            have := hjv 0 u rfl
            rw [hs1] at this
            rw [show base + i + j = base + (i + j) * 1 + 0 by omega]
            exact this
          have hall : ∀ n, n ≤ ti.size → ∃ vs : List Value, All2 (RelC w (avs A ρ h) ρ h) ((List.range n).map fun j => cell1 t (l.getD (i + j) t.zero)) vs ∧ ∀ j v, vs[j]? = some v → at_ w r (base + i + j) = some v := by
            intro n
            induction n with
            | zero => intro _; exact ⟨[], .nil, fun j v h => by simp at h⟩
            | succ n ih =>
              intro hn
              obtain ⟨vs, h3, h4⟩ := ih (by omega)
              obtain ⟨u, h5, h6⟩ := hcell n (by omega)
              have hl := h3.length
              simp at hl
              refine ⟨vs ++ [u], ?_, fun j v hj => ?_⟩
              · rw [List.range_succ, List.map_append]
                exact h3.append (.cons h6 .nil)
              · rw [get_snoc] at hj
                split at hj
                · exact h4 j v hj
                · split at hj
                  · rename_i e
                    simp at hj; subst hj
                    rw [e, ← hl]; exact h5
                  · cases hj
          obtain ⟨vs, h3, h4⟩ := hall ti.size (Nat.le_refl _)
          have hl := h3.length
          simp at hl
          obtain ⟨v, hv, hs⟩ := run_loadVar hT1 (w := w) (r := r) (o := base + i) hl.symm h4
          refine ⟨_, v, hK2, fun w' hw => ?_, mkW_rel h3 hs⟩
          subst ho
          simpa [Instr.loadAt, Instr.sureAddr, blkStride, hs1] using hv w' hw
    · exact hK.elim

end Go.Proofs.Ytjoiadaogppmkaa.Sh
