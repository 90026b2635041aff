/- Addresses of fields and elements; slicing. -/
import Derived.Test.YtjoiadaogppmkaaShMem
namespace Go.Proofs.Ytjoiadaogppmkaa.Sh
open Go
set_option linter.unusedVariables false
set_option linter.unusedSimpArgs false

theorem sizeT_some {T : Nat → Option TI} {t : Nat} (h : 0 < sizeT T t) : ∃ ti, T t = some ti ∧ ti.size = sizeT T t := by
  unfold sizeT at h ⊢
  cases e : T t with
  | none => rw [e] at h; simp at h
  | some ti => exact ⟨ti, rfl, rfl⟩
theorem info_of {P : Program} {T : Nat → Option TI} (hT : TOk P T) {t : Nat} (h : 0 < sizeT T t) : ∃ i, P.info? t = some i ∧ i.size = sizeT T t := by
  obtain ⟨ti, h1, h2⟩ := sizeT_some h
  obtain ⟨i, z, hi, _, hs, _⟩ := (hT t ti h1).info
  exact ⟨i, hi, by rw [hs, h2]⟩

theorem fieldAddrK_sound {P : Program} {T : Nat → Option TI} (hT : TOk P T) {w : World} {av : Nat → Prop} {ρ : Rho} {h : Heap} {s : Nat} {c : Cell} {f : Nat} {K : Cell → Prop} (hK : fieldAddrK T h s c f K)
    {u : Value} (hc : RelC w av ρ h c u) : ∃ y v, K y ∧ (∀ w', (Instr.fieldAt s u f).run P w' = .ok v w') ∧ RelC w av ρ h y v := by
  unfold fieldAddrK at hK
  split at hK
  · rename_i fs _ _ _ _ _ hs
    obtain ⟨d, hd, hk, _⟩ := (hT _ _ hs).desc
    obtain ⟨fields, rfl, hmap⟩ := hk
    split at hK
    · rename_i off ft hf
      obtain ⟨h1, hK1⟩ := Ck_iff hK
      have hpos := blt_iff h1
      obtain ⟨i, hi, hsz⟩ := info_of hT hpos
      obtain ⟨fd, hfd, hoff, hft⟩ : ∃ fd, fields[f]? = some fd ∧ fd.offset = off ∧ fd.type = ft := by
        rw [← hmap, List.getElem?_map] at hf
        cases e : fields.toList[f]? with
        | none => rw [e] at hf; simp at hf
        | some fd =>
          rw [e] at hf
          simp at hf
          exact ⟨fd, by rw [← Array.getElem?_toList]; exact e, hf.1, hf.2⟩
      have hrun : ∀ r o w, (Instr.fieldAt s (.pointer (some ⟨r, o, none⟩)) f).run P w = .ok (.pointer (some ⟨r, o + off, none⟩)) w := by
        intro r o w
        have hne : i.size ≠ 0 := by omega
        simp [Instr.fieldAt, Instr.sureAddr, run_underlying hd, hfd, fieldPlace, hft, run_sizeOf hi, hne, hoff, add_at]
      split at hK1
      · rename_i t x o
        obtain ⟨r, p, cs, hn, hx, hj, e⟩ := hc
        subst e
        exact ⟨_, _, hK1, hrun r (p + o), r, p, cs, hn, hx, hj, by rw [Nat.add_assoc]⟩
      · rename_i b i' o
        obtain ⟨blk, r, base, hb, hρ, e⟩ := hc
        subst e
        rw [hb] at hK1
        cases blk with
        | box cs => exact ⟨_, _, hK1, hrun r _, .box cs, r, base, hb, hρ, by simp [blkStride, Nat.add_assoc]⟩
        | row t l s' =>
          simp only at hK1
          split at hK1
          · exact ⟨_, _, hK1, hrun r _, _, r, base, hb, hρ, by simp [blkStride, Nat.add_assoc]⟩
          · rename_i hp
            have := size_one hp
            exact ⟨_, _, hK1, hrun r _, _, r, base, hb, hρ, by simp only [blkStride, this]; congr 3; omega⟩
      · exact hK1.elim
    · exact hK.elim
  · exact hK.elim

theorem szOk_pos {es : Nat} {h : Heap} {c : Cell} (hs : szOk es h c = true) : 0 < es := by
  cases c <;> simp only [szOk] at hs
  case nil => exact blt_iff hs
  case ro t l => have := beq_iff hs; have := t.size_pos; omega
  case sl b wn =>
    split at hs
    · rename_i t l s e
      have := beq_iff hs; have := t.size_pos; omega
    · cases hs
  all_goals cases hs

theorem indexAddrK_sound {P : Program} {T : Nat → Option TI} (hT : TOk P T) {w : World} {av : Nat → Prop} {ρ : Rho} {h : Heap} {tid : Nat} {c : Cell} {n : Int} {K : Cell → Prop} (hK : indexAddrK T h tid c n K) {k : IntKind}
    {u : Value} (hc : RelC w av ρ h c u) : ∃ y v, K y ∧ (∀ w', (Instr.indexAt tid u (.int k n)).run P w' = .ok v w') ∧ RelC w av ρ h y v := by
  unfold indexAddrK at hK
  split at hK
  · rename_i e _ _ _ _ _ hs
    obtain ⟨d, hd, hk, _⟩ := (hT _ _ hs).desc
    have hk : d = .slice e := hk
    subst hk
    obtain ⟨h1, hK1⟩ := Ck_iff hK
    obtain ⟨i, hi, hsz⟩ := info_of hT (szOk_pos h1)
    have hrun : ∀ (r o len cp : Nat), 0 ≤ n → n < (len : Int) → ∀ w, (Instr.indexAt tid (.slice (some ⟨r, o, none⟩) len cp) (.int k n)).run P w = .ok (.pointer (some ⟨r, o + n.toNat * i.size, none⟩)) w := by
      intro r o len cp h0 h1 w
      simp [Instr.indexAt, asIntOf, run_underlying hd, h0, h1, run_sizeOf hi, add_at]
    split at hK1
    · rename_i t l
      obtain ⟨h2, hK2⟩ := Ck_iff hK1
      obtain ⟨h3, hK3⟩ := Ck_iff hK2
      have h0 := of_decide_eq_true h2
      have hlt := of_decide_eq_true h3
      have hes := beq_iff h1
      have hl : n.toNat < l.length := by omega
      obtain ⟨ad, cp, e1, hcp, hx⟩ := hc
      simp at e1
      subst e1
      obtain ⟨r, o, cs, e2, hn, hrd, hj⟩ := hx n.toNat _ (getD_some t.zero hl)
      subst e2
      refine ⟨_, _, hK3, hrun r o _ cp h0 hlt, r, _, cs, hn, hrd, hj, ?_⟩
      rw [hsz, hes, Nat.add_zero]
    · rename_i b
      split at hK1
      · rename_i t l s hb
        obtain ⟨h2, hK2⟩ := Ck_iff hK1
        obtain ⟨h3, hK3⟩ := Ck_iff hK2
        have h0 := of_decide_eq_true h2
        have hlt := of_decide_eq_true h3
        simp only [szOk, hb] at h1
        have hes := beq_iff h1
        obtain ⟨t', l', s', o, m, ad, cp, hb', hw, ho, e1, hm, hcp⟩ := hc
        rw [hb] at hb'
        cases hb'
        simp at hw
        obtain ⟨rfl, rfl⟩ := hw
        subst e1
        rcases hcp with hcp | ⟨r, base, cs, e2, fz, h4, h5, h6, h7⟩
        · omega
        · subst h5
          refine ⟨_, _, hK3, hrun r _ _ cp h0 hlt, _, r, base, hb, h4, ?_⟩
          rw [hsz, hes]
          simp [blkStride]
      · exact hK1.elim
    · rename_i b o' n'
      obtain ⟨h2, hK2⟩ := Ck_iff hK1
      obtain ⟨h3, hK3⟩ := Ck_iff hK2
      have h0 := of_decide_eq_true h2
      have hlt := of_decide_eq_true h3
      obtain ⟨t, l, s, o, m, ad, cp, hb, hw, ho, e1, hm, hcp⟩ := hc
      simp at hw
      obtain ⟨rfl, rfl⟩ := hw
      simp only [szOk, hb] at h1
      have hes := beq_iff h1
      subst e1
      rcases hcp with hcp | ⟨r, base, cs, e2, fz, h4, h5, h6, h7⟩
      · omega
      · subst h5
        refine ⟨_, _, hK3, hrun r _ _ cp h0 hlt, _, r, base, hb, h4, ?_⟩
        rw [hsz, hes]
        simp [blkStride, Nat.add_mul, Nat.add_assoc]
    · exact hK1.elim
  · rename_i len e _ _ _ _ _ hs
    obtain ⟨d, hd, hk, _⟩ := (hT _ _ hs).desc
    have hk : d = .array len e := hk
    subst hk
    obtain ⟨h2, hK2⟩ := Ck_iff hK
    obtain ⟨h3, hK3⟩ := Ck_iff hK2
    obtain ⟨h4, hK4⟩ := Ck_iff hK3
    have h0 := of_decide_eq_true h2
    have hlt := of_decide_eq_true h3
    obtain ⟨i, hi, hsz⟩ := info_of hT (blt_iff h4)
    have hrun : ∀ r o w, (Instr.indexAt tid (.pointer (some ⟨r, o, none⟩)) (.int k n)).run P w = .ok (.pointer (some ⟨r, o + n.toNat * i.size, none⟩)) w := by
      intro r o w
      simp [Instr.indexAt, Instr.sureAddr, asIntOf, run_underlying hd, h0, hlt, run_sizeOf hi, add_at]
    split at hK4
    · rename_i t x o
      obtain ⟨r, p, cs, hn, hx, hj, e1⟩ := hc
      subst e1
      exact ⟨_, _, hK4, hrun r (p + o), r, p, cs, hn, hx, hj, by rw [hsz, Nat.add_assoc]⟩
    · rename_i b j o
      obtain ⟨blk, r, base, hb, hρ, e1⟩ := hc
      subst e1
      rw [hb] at hK4
      cases blk with
      | box cs => exact ⟨_, _, hK4, hrun r _, .box cs, r, base, hb, hρ, by simp [blkStride, Nat.add_assoc, hsz]⟩
      | row t l s' =>
        simp only at hK4
        split at hK4
        · exact ⟨_, _, hK4, hrun r _, _, r, base, hb, hρ, by simp [blkStride, Nat.add_assoc, hsz]⟩
        · rename_i hp
          have := size_one hp
          exact ⟨_, _, hK4, hrun r _, _, r, base, hb, hρ, by simp only [blkStride, this, hsz]; congr 3; omega⟩
    · exact hK4.elim
  · exact hK.elim

/-! ## Slicing -/
/-- a bound as it stands beside the model's -/
def BoundIs (x : Option V) (d : Int) (m : Int) (u : Option Value) : Prop :=
  match u with
  | none => x = none ∧ m = d
  | some v => ∃ k, v = .int k m

theorem optI_sound {w : World} {av : Nat → Prop} {ρ : Rho} {h : Heap} {x : Option V} {d : Int} {K : Int → Prop} (hK : optI x d K) {u : Option Value} (hx : (x = none ∧ u = none) ∨ ∃ y v, x = some y ∧ u = some v ∧ RelV w av ρ h y v) :
    ∃ m, K m ∧ BoundIs x d m u := by
  rcases hx with ⟨rfl, rfl⟩ | ⟨y, v, rfl, rfl, hv⟩
  · exact ⟨d, hK, rfl, rfl⟩
  · simp only [optI] at hK
    split at hK
    · rename_i m hm
      unfold asI at hm
      split at hm
      · rename_i k m'
        simp at hm; subst hm
        exact ⟨m', hK, k, hv⟩
      · cases hm
    · exact hK.elim

theorem run_sliceBound {P : Program} {w : World} {k : IntKind} {n : Int} {y : Nat} {code : BoundsCode} (h0 : 0 ≤ n) (h1 : n ≤ y) : (Instr.sliceBound (.int k n) y code).run P w = .ok n.toNat w := by
  simp [Instr.sliceBound, asIntOf, h0, h1]

theorem run_sliceBounds {P : Program} {len cap : Nat} {xlo xhi xmx : Option V} {lo hi mx : Option Value} {l h m : Int} (hl : BoundIs xlo 0 l lo) (hh : BoundIs xhi len h hi) (hm : BoundIs xmx len m mx)
    (h0 : 0 ≤ l) (h1 : l ≤ h) (h2 : h ≤ m) (h3 : m ≤ len) (h4 : len ≤ cap) (hmx : ∀ v, mx = some v → ∃ u, hi = some u) :
    ∃ mm, (∀ w, (Instr.sliceBounds true len cap lo hi mx).run P w = .ok (l.toNat, h.toNat, mm) w) ∧ h.toNat ≤ mm ∧ mm ≤ cap := by
  have hlo : ∀ w, (match lo with | some v => Instr.sliceBound v h.toNat (if mx.isSome then BoundsCode.slice3C else .sliceB) | none => pure 0 : Sem Nat).run P w = .ok l.toNat w := by
    intro w
    cases lo with
    | none => have := hl.2; subst this; rfl
    | some v => obtain ⟨k, rfl⟩ := hl; exact run_sliceBound h0 (by omega)
  cases mx with
  | none =>
    cases hi with
    | none =>
      have := hh.2
      subst this
      refine ⟨cap, fun w => ?_, by omega, Nat.le_refl _⟩
      simp only [Instr.sliceBounds, Sem.run_bind, Sem.run_pure, Result.andThen_ok]
      have hlo := hlo w
      simp only [Int.toNat_natCast] at hlo
      cases lo with
      | none => simp at hlo ⊢; exact hlo
      | some v => simp at hlo ⊢; rw [hlo]; rfl
    | some v =>
      obtain ⟨k, rfl⟩ := hh
      refine ⟨cap, fun w => ?_, by omega, Nat.le_refl _⟩
      have hlo := hlo w
      have hb : ∀ code, (Instr.sliceBound (.int k h) cap code).run P w = .ok h.toNat w := fun code => run_sliceBound (by omega) (by omega)
      simp only [Instr.sliceBounds, Sem.run_bind, Sem.run_pure, Result.andThen_ok, hb]
      cases lo with
      | none => simp at hlo ⊢; exact hlo
      | some v => simp at hlo ⊢; rw [hlo]; rfl
  | some v =>
    obtain ⟨k, rfl⟩ := hm
    obtain ⟨u, rfl⟩ := hmx _ rfl
    obtain ⟨k', rfl⟩ := hh
    refine ⟨m.toNat, fun w => ?_, by omega, by omega⟩
    have hlo := hlo w
    have hb : ∀ code, (Instr.sliceBound (.int k m) cap code).run P w = .ok m.toNat w := fun code => run_sliceBound (by omega) (by omega)
    have hb' : ∀ code, (Instr.sliceBound (.int k' h) m.toNat code).run P w = .ok h.toNat w := fun code => run_sliceBound (by omega) (by omega)
    simp only [Instr.sliceBounds, Sem.run_bind, Sem.run_pure, Result.andThen_ok, hb, hb']
    cases lo with
    | none => simp at hlo ⊢; exact hlo
    | some v => simp at hlo ⊢; rw [hlo]; rfl

theorem sliceK_sound {P : Program} {T : Nat → Option TI} (hT : TOk P T) {w : World} {av : Nat → Prop} {ρ : Rho} {hp : Heap} {tid e : Nat} (hd : P.underlying tid = some (.slice e)) {c : Cell} {xlo xhi xmx : Option V} {K : Cell → Prop}
    (hK : sliceK (sizeT T e) hp c xlo xhi xmx K) {u : Value} (hc : RelC w av ρ hp c u) {lo hi mx : Option Value}
    (hlo : (xlo = none ∧ lo = none) ∨ ∃ y v, xlo = some y ∧ lo = some v ∧ RelV w av ρ hp y v)
    (hhi : (xhi = none ∧ hi = none) ∨ ∃ y v, xhi = some y ∧ hi = some v ∧ RelV w av ρ hp y v)
    (hmx : (xmx = none ∧ mx = none) ∨ ∃ y v, xmx = some y ∧ mx = some v ∧ RelV w av ρ hp y v) (hboth : ∀ v, mx = some v → ∃ u, hi = some u) :
    ∃ y v, K y ∧ (∀ w', (Instr.sliceAt tid u lo hi mx).run P w' = .ok v w') ∧ RelC w av ρ hp y v := by
  unfold sliceK at hK
  obtain ⟨hsz, hK0⟩ := Ck_iff hK
  obtain ⟨i, hi0, hisz⟩ := info_of hT (szOk_pos hsz)
  split at hK0
  · exact hK0.elim
  · rename_i n hn
    obtain ⟨m, hK1, hm⟩ := optI_sound hK0 hmx
    obtain ⟨h, hK2, hh⟩ := optI_sound hK1 hhi
    obtain ⟨l, hK3, hl⟩ := optI_sound hK2 hlo
    obtain ⟨d1, hK4⟩ := Ck_iff hK3
    obtain ⟨d2, hK5⟩ := Ck_iff hK4
    obtain ⟨d3, hK6⟩ := Ck_iff hK5
    obtain ⟨d4, hK7⟩ := Ck_iff hK6
    have c1 := of_decide_eq_true d1
    have c2 := of_decide_eq_true d2
    have c3 := of_decide_eq_true d3
    have c4 := of_decide_eq_true d4
    have hrun : ∀ (ad : Option Addr) (cap : Nat), n ≤ cap → ∃ mm, (∀ w, (Instr.sliceAt tid (.slice ad n cap) lo hi mx).run P w = .ok (.slice (if mm = l.toNat then ad else ad.map (·.add (l.toNat * i.size))) (h.toNat - l.toNat) (mm - l.toNat)) w) ∧ h.toNat ≤ mm ∧ mm ≤ cap := by
      intro ad cap hcap
      obtain ⟨mm, h1, h2, h3⟩ := run_sliceBounds (P := P) hl hh hm c1 c2 c3 c4 hcap hboth
      refine ⟨mm, fun w => ?_, h2, h3⟩
      simp [Instr.sliceAt, Instr.slice, run_underlying hd, h1, run_sizeOf hi0]
    cases c <;> simp only [lenC] at hn <;> try cases hn
    case nil.refl =>
      simp only [RelC] at hc
      subst hc
      obtain ⟨mm, h1, h2, h3⟩ := hrun none 0 (Nat.le_refl _)
      refine ⟨_, _, hK7, h1, ?_⟩
      have : mm = 0 := by omega
      subst this
      simp [sliceC, RelC]
      omega
    case ro.refl =>
      rename_i t l0
      obtain ⟨ad, cap, e1, hcap, hx⟩ := hc
      simp at e1
      subst e1
      obtain ⟨mm, h1, h2, h3⟩ := hrun ad cap hcap
      refine ⟨_, _, hK7, h1, ?_⟩
      have hes := beq_iff hsz
      have hlen : ((l0.drop l.toNat).take (h.toNat - l.toNat)).length = h.toNat - l.toNat := by simp; omega
      refine ⟨_, _, by rw [hlen], by rw [hlen]; omega, fun q x hq => ?_⟩
      rw [List.getElem?_take] at hq
      split at hq
      · rename_i hqlt
        rw [List.getElem?_drop] at hq
        obtain ⟨r, o, cs, e2, hnot, hrd, hj⟩ := hx _ x hq
        subst e2
        rw [if_neg (by omega)]
        refine ⟨r, o + l.toNat * t.size, cs, ?_, hnot, hrd, fun j v hv => ?_⟩
        · rw [hisz, hes]; simp [add_at]
        · have := hj j v hv
          rw [Nat.add_mul, ← Nat.add_assoc] at this
          exact this
      · cases hq
    case sl b wn =>
      obtain ⟨t, l0, s, o, m', ad, cap, hb, hw, ho, e1, hm', hcp⟩ := hc
      have hnm : n = m' := by
        cases wn with
        | none =>
          simp only [lenC, hb] at hn
          simp at hw
          injection hn with hn
          omega
        | some p =>
          obtain ⟨o2, n2⟩ := p
          simp only [lenC] at hn
          simp at hw
          injection hn with hn
          omega
      subst hnm
      subst e1
      simp only [szOk, hb] at hsz
      have hes := beq_iff hsz
      obtain ⟨mm, h1, h2, h3⟩ := hrun ad cap hm'
      refine ⟨_, _, hK7, h1, ?_⟩
      have hnew : SlOk w ρ hp b (some (o + l.toNat, h.toNat - l.toNat)) (.slice (if mm = l.toNat then ad else ad.map (·.add (l.toNat * i.size))) (h.toNat - l.toNat) (mm - l.toNat)) := by
        refine ⟨t, l0, s, o + l.toNat, h.toNat - l.toNat, _, _, hb, rfl, by omega, rfl, by omega, ?_⟩
        by_cases hz : mm = l.toNat
        · exact .inl (by omega)
        · rcases hcp with hcp | ⟨r, base, cs, e2, fz, h4, h5, h6, h7⟩
          · omega
          · refine .inr ⟨r, base, cs, e2, fz, h4, ?_, h6, ?_⟩
            · subst h5
              rw [if_neg hz, hisz, hes]
              simp [add_at, Nat.add_mul, Nat.add_assoc]
            · have : (o + l.toNat + (mm - l.toNat)) * t.size ≤ (o + cap) * t.size := Nat.mul_le_mul_right _ (by omega)
              omega
      cases wn with
      | none =>
        simp at hw
        obtain ⟨rfl, _⟩ := hw
        simp only [sliceC, RelC]
        simpa using hnew
      | some p =>
        obtain ⟨o2, n2⟩ := p
        simp at hw
        obtain ⟨rfl, _⟩ := hw
        exact hnew

end Go.Proofs.Ytjoiadaogppmkaa.Sh
