/- Aggregates, copy, clear, arithmetic. -/
import Derived.Laws.Tables
import Derived.Test.YtjoiadaogppmkaaShOps
namespace Go.Proofs.Ytjoiadaogppmkaa.Sh
open Go
set_option linter.unusedVariables false
set_option linter.unusedSimpArgs false

def fillPlace (T : Nat → Option TI) : TK → Nat → Option (Nat × Nat)
  | .struct fs, i => (fs[i]?).map fun p => (p.1, sizeT T p.2)
  | .arr _ e, i => some (i * sizeT T e, sizeT T e)
  | _, _ => none

theorem fillC_sound {T : Nat → Option TI} {w : World} {av : Nat → Prop} {ρ : Rho} {h : Heap} {k : TK} {place : Nat → Option (Nat × Nat)} (hpl : ∀ i x, fillPlace T k i = some x → place i = some x) : ∀ {qs : List (Nat × List Cell)} {cs cs' : List Cell} {ps : List (Nat × Value)} {cells : Array Value},
    fillC T k qs cs = some cs' → All2 (RelC w av ρ h) cs cells.toList →
    All2 (fun (q : Nat × List Cell) (p : Nat × Value) => q.1 = p.1 ∧ All2 (RelC w av ρ h) q.2 p.2.cells.toList ∧ (∀ u ∈ p.2.cells.toList, one_ u)) qs ps →
    ∃ cells', Instr.fill place cells ps = some cells' ∧ All2 (RelC w av ρ h) cs' cells'.toList
  | [], cs, cs', ps, cells, hf, hc, ha => by
    simp [fillC] at hf; subst hf
    cases ha
    exact ⟨cells, rfl, hc⟩
  | (i, xs) :: qs, cs, cs', ps, cells, hf, hc, ha => by
    cases ha with
    | @cons _ p _ ps' h1 h2 =>
      obtain ⟨pi, pv⟩ := p
      obtain ⟨rfl, h3, h4⟩ := h1
      have hl := hc.length
      have hxl : xs.length = pv.cells.toList.length := h3.length
      have key : ∃ off size, fillPlace T k i = some (off, size) ∧ xs.length = size ∧ off + xs.length ≤ cs.length ∧ fillC T k qs (splice cs off xs) = some cs' := by
        simp only [fillC] at hf
        split at hf
        · rename_i fs
          split at hf
          · rename_i off ft he
            split at hf
            · rename_i hb
              simp only [Bool.and_eq_true] at hb
              exact ⟨off, sizeT T ft, by simp [fillPlace, he], beq_iff hb.1, ble_iff hb.2, hf⟩
            · cases hf
          · cases hf
        · rename_i n e
          split at hf
          · rename_i hb
            simp only [Bool.and_eq_true] at hb
            exact ⟨i * sizeT T e, sizeT T e, rfl, beq_iff hb.1, ble_iff hb.2, hf⟩
          · cases hf
        · cases hf
      obtain ⟨off, size, hp, hs, hle, hf'⟩ := key
      have hpv : pv.cells.size = size := by rw [← hs, hxl]; simp
      have hle2 : off + pv.cells.toList.length ≤ cells.size := by simp only [Array.length_toList] at hl hxl ⊢; omega
      rw [fill_run place i off size pv ps' cells (hpl _ _ hp) hpv (by rw [← hpv]; simpa using hle2)]
      refine fillC_sound hpl hf' ?_ h2
      have := splice_all2 hc h3 off
      simpa [putAt] using this

theorem mapM_fields {P : Program} {T : Nat → Option TI} (hT : TOk P T) : ∀ (fields : List Field), (∀ f ∈ fields, 0 < sizeT T f.type) →
    fields.mapM (fun f => (P.info? f.type).map fun i => (f.offset, i.size)) = some (fields.map fun f => (f.offset, sizeT T f.type))
  | [], _ => rfl
  | f :: fs, h => by
    obtain ⟨i, hi, hs⟩ := info_of hT (h f (by simp))
    have ih := mapM_fields hT fs (fun g hg => h g (by simp [hg]))
    simp [List.mapM_cons, hi, hs, ih]

theorem buildK_sound {P : Program} {T : Nat → Option TI} (hT : TOk P T) {X : Ctx} {ρ : Rho} {σ : St} {a : Act} {w : World} (hev : ∀ x, RelV w (avs X.A ρ σ.h) ρ σ.h (ev σ x) (a.eval x)) {tid : Nat} {ps : List (Nat × Operand)} {K : W → Prop}
    (hK : buildK T σ tid ps K) : ∃ y v, K y ∧ (∀ w', (Instr.build tid (ps.map fun p => (p.1, a.eval p.2)).toArray).run P w' = .ok v w') ∧ RelW w (avs X.A ρ σ.h) ρ σ.h y v := by
  unfold buildK at hK
  split at hK
  · rename_i ti qs hti hqs
    have hT1 := hT _ _ hti
    obtain ⟨i, z, hi, hz, hs, _, hzc, _⟩ := hT1.info
    obtain ⟨d, hd, hk, _⟩ := hT1.desc
    have hparts := evParts_sound hev hqs
    obtain ⟨hck, hK1⟩ := Ck_iff hK
    split at hK1
    · rename_i cs hcs
      cases hkind : ti.kind with
      | struct fs =>
        rw [hkind] at hk hck hcs
        obtain ⟨fields, rfl, hmap⟩ := hk
        have hall : ∀ f ∈ fields.toList, 0 < sizeT T f.type := fun f hf => by
          have := List.all_eq_true.1 hck (f.offset, f.type) (by rw [← hmap]; exact List.mem_map_of_mem hf)
          exact blt_iff this
        have hmM := mapM_fields hT fields.toList hall
        have hfs : fields.toList.map (fun f => (f.offset, sizeT T f.type)) = fs.map fun p => (p.1, sizeT T p.2) := by rw [← hmap]; simp
        obtain ⟨cells', hfill, hrel⟩ := fillC_sound (place := fun j => (fields.toList.map fun f => (f.offset, sizeT T f.type)).toArray[j]?) (by
          intro j x hx
          simp only [fillPlace] at hx
          rw [List.getElem?_toArray, hfs, List.getElem?_map]
          exact hx) hcs (constAll hzc w (avs X.A ρ σ.h) ρ σ.h) hparts
        refine ⟨_, _, hK1, fun w' => run_build w' tid _ cells' ?_, cells', rfl, hrel⟩
        simp only [Program.built, hi, hd, hz, hmM]
        exact hfill
      | arr n e =>
        rw [hkind] at hk hck hcs
        have hk : d = .array n e := hk
        subst hk
        obtain ⟨ie, hie, hse⟩ := info_of hT (blt_iff hck)
        obtain ⟨cells', hfill, hrel⟩ := fillC_sound (place := fun j => some (j * ie.size, ie.size)) (by
          intro j x hx
          simp only [fillPlace] at hx
          rw [hse]; exact hx) hcs (constAll hzc w (avs X.A ρ σ.h) ρ σ.h) hparts
        refine ⟨_, _, hK1, fun w' => run_build w' tid _ cells' ?_, cells', rfl, hrel⟩
        simp only [Program.built, hi, hd, hz, hie]
        exact hfill
      | _ => rw [hkind] at hck; cases hck
    · exact hK1.elim
  · exact hK.elim

/-! ## Parts of values -/
theorem run_part {P : Program} {T : Nat → Option TI} (hT : TOk P T) {t : Nat} {ti : TI} (hti : T t = some ti) {cs : List Cell} {arr : Array Value} {w : World} {av : Nat → Prop} {ρ : Rho} {h : Heap} (ha : All2 (RelC w av ρ h) cs arr.toList) {off : Nat} (hle : off + ti.size ≤ cs.length) :
    ∃ v, (∀ w', (part t arr off).run P w' = .ok v w') ∧ RelW w av ρ h (mkW ti.agg ((cs.drop off).take ti.size)) v := by
  have hT1 := hT _ _ hti
  obtain ⟨i, z, hi, _, hs, _⟩ := hT1.info
  obtain ⟨d, hd, _, hag, _⟩ := hT1.desc
  have hl := ha.length
  have hsub := (ha.drop off).take ti.size
  cases hagg : ti.agg with
  | true =>
    refine ⟨.agg (arr.extract off (off + ti.size)), fun w' => ?_, ?_⟩
    · simp only [part, Sem.run_bind, run_isAgg hd, Result.andThen_ok, hag, hagg, if_true, run_sizeOf hi, hs, Sem.run_pure]
    · refine ⟨_, rfl, ?_⟩
      rw [Array.toList_extract]
      simpa [List.extract] using hsub
  | false =>
    have h1 := hT1.one hagg
    simp only [Array.length_toList] at hl
    have hlt : off < arr.size := by omega
    refine ⟨arr[off], fun w' => ?_, ?_⟩
    · simp only [part, Sem.run_bind, run_isAgg hd, Result.andThen_ok, hag, hagg, Bool.false_eq_true, if_false, Array.getElem?_eq_getElem hlt, Sem.run_pure]
    · refine mkW_rel hsub ⟨(fun h => by cases h), (fun _ => ?_)⟩
      rw [h1]
      apply List.ext_getElem?
      intro j
      rw [List.getElem?_take, List.getElem?_drop, Array.getElem?_toList]
      cases j with
      | zero => simp [hlt]
      | succ j => simp

theorem fieldK_sound {P : Program} {T : Nat → Option TI} (hT : TOk P T) {w : World} {av : Nat → Prop} {ρ : Rho} {h : Heap} {s : Nat} {x : V} {f : Nat} {K : W → Prop} (hK : fieldK T s x f K) {u : Value} (hx : RelV w av ρ h x u) :
    ∃ y v, K y ∧ (∀ w', (Instr.field s u f).run P w' = .ok v w') ∧ RelW w av ρ h y v := by
  unfold fieldK at hK
  split at hK
  · rename_i fs _ _ _ _ _ cs hs
    obtain ⟨d, hd, hk, _⟩ := (hT _ _ hs).desc
    obtain ⟨fields, rfl, hmap⟩ := hk
    obtain ⟨arr, rfl, ha⟩ := hx
    split at hK
    · rename_i off ft hf
      split at hK
      · rename_i ti hti
        obtain ⟨h1, hK1⟩ := Ck_iff hK
        obtain ⟨v, hv, hr⟩ := run_part hT hti ha (ble_iff h1)
        obtain ⟨fd, hfd, hoff, hft⟩ : ∃ fd, fields[f]? = some fd ∧ fd.offset = off ∧ fd.type = ft := by
          rw [← hmap, List.getElem?_map] at hf
          cases e : fields.toList[f]? with
          | none => rw [e] at hf; simp at hf
          | some fd =>
            rw [e] at hf
            simp at hf
            exact ⟨fd, by rw [← Array.getElem?_toList]; exact e, hf.1, hf.2⟩
        refine ⟨_, v, hK1, fun w' => ?_, hr⟩
        simp [Instr.field, run_underlying hd, hfd, asAgg, hft, hoff, hv]
      · exact hK.elim
    · exact hK.elim
  · exact hK.elim

theorem indexK_sound {P : Program} {T : Nat → Option TI} (hT : TOk P T) {w : World} {av : Nat → Prop} {ρ : Rho} {h : Heap} {tid : Nat} {x : V} {n : Int} {k : IntKind} {K : W → Prop} (hK : indexK T tid x n K) {u : Value} (hx : RelV w av ρ h x u) :
    ∃ y v, K y ∧ (∀ w', (Instr.index tid u (.int k n)).run P w' = .ok v w') ∧ RelW w av ρ h y v := by
  unfold indexK at hK
  split at hK
  · rename_i len e _ _ _ _ _ cs hs
    obtain ⟨d, hd, hk, _⟩ := (hT _ _ hs).desc
    have hk : d = .array len e := hk
    subst hk
    obtain ⟨arr, rfl, ha⟩ := hx
    split at hK
    · rename_i ti k' ns hti hh
      obtain ⟨h1, hK1⟩ := Ck_iff hK
      obtain ⟨h2, hK2⟩ := Ck_iff hK1
      obtain ⟨h3, hK3⟩ := Ck_iff hK2
      simp only [Bool.and_eq_true, Bool.not_eq_true'] at h1
      obtain ⟨⟨hs1, hag⟩, hcl⟩ := h1
      have hs1 := beq_iff hs1
      have hcl := beq_iff hcl
      have h0 := of_decide_eq_true h2
      have hlt := of_decide_eq_true h3
      have hvs := homC_sound hh ha
      have hl := ha.length
      obtain ⟨i, z, hi, _, hsz, _⟩ := (hT _ _ hti).info
      obtain ⟨d', hd', _, hag', _⟩ := (hT _ _ hti).desc
      have hnl : n.toNat < ns.length := by
        have : ns.length = cs.length := by rw [hl, hvs]; simp
        omega
      have hget : arr[n.toNat]? = some (.int k' (ns.getD n.toNat 0)) := by
        rw [← Array.getElem?_toList, hvs, List.getElem?_map, getD_some 0 hnl]; rfl
      refine ⟨_, _, hK3, fun w' => ?_, rfl⟩
      simp only [Instr.index, asIntOf, Sem.run_bind, Sem.run_pure, Result.andThen_ok, run_underlying hd]
      simp only [h0, hlt, and_self, if_true, Sem.run_bind, run_sizeOf hi, Result.andThen_ok, part, run_isAgg hd', hag', hag, Bool.false_eq_true, if_false, hsz, hs1, Nat.mul_one, hget, Sem.run_pure]
    · exact hK.elim
  · exact hK.elim

/-! ## copy, clear -/
theorem set_same {α : Type} (l : List α) (b : Nat) (x : α) (h : l[b]? = some x) : l.set b x = l := by
  apply List.ext_getElem?
  intro i
  rw [get_set]
  split
  · rename_i e; subst e; rw [if_pos (lt_of_get h), h]
  · rfl

/-- The store of whole elements, one behind the other. -/
theorem store_elems {X : Ctx} {ρ : Rho} {σ : St} {a : Act} {w : World} (hF : RelF X ρ σ a w) {P : Program} {b r base : Nat} {t : Ty} {l : List t.D} {s : RS} (hb : σ.h[b]? = some (.row t l s)) (hz : isFrz (.row t l s) = false) (hρ : ρ b = some (r, base))
    {o : Nat} {new : List t.D} {news : List Value} (hfl : Flat w (avs X.A ρ σ.h) t new news) (ho : o + new.length ≤ l.length) :
    ∃ w', (storeCells ⟨r, base + o * t.size, none⟩ news).run P w = .ok () w' ∧ RelF X ρ ⟨σ.m, σ.h.set b (.row t (l.take o ++ new ++ l.drop (o + new.length)) s)⟩ a w' := by
  by_cases hnew : new = []
  · subst hnew
    have hnews : news = [] := by have := hfl.len; simpa using this
    subst hnews
    refine ⟨w, rfl, ?_⟩
    have e1 : l.take o ++ [] ++ l.drop (o + ([] : List t.D).length) = l := by simp
    rw [e1, set_same _ _ _ hb]
    exact hF
  have hnpos : 0 < new.length := List.length_pos_iff.2 hnew
  have hB := hF.H.blk b _ hb
  obtain ⟨cs, e, hw, hc, hsz⟩ := block_row hB hρ
  have hbd : base + o * t.size + news.length ≤ cs.size := by
    rw [hfl.len]
    have := hsz (o + new.length - 1) (by omega)
    have e1 : (o + new.length) * t.size = (o + new.length - 1) * t.size + t.size := by
      rw [← Nat.succ_mul]; congr 1; omega
    rw [Nat.add_mul] at e1
    omega
  have hst := run_storeCells_at (P := P) r (base + o * t.size) e news 0 cs w hw (by simpa using hbd) (fun u hu => oneCell_of (hfl.one u hu))
  simp only [Nat.add_zero] at hst
  have hW := setRow_wrote w r cs (putAt cs (base + o * t.size) news) e hw
  have hlen : (l.take o ++ new ++ l.drop (o + new.length)).length = l.length := by simp; omega
  refine ⟨_, hst, hF.upd hb hz hρ hw hW (putAt_size _ _ _ hbd) (fun h => by simp [isBox] at h) (.inl ⟨t, l, _, s, rfl, rfl, hlen, fun q y hq => ?_⟩)⟩
  by_cases h1 : q < o
  · rw [List.append_assoc, List.getElem?_append_left (by simp; omega), List.getElem?_take, if_pos h1] at hq
    obtain ⟨vs, h2, h3⟩ := hc q y hq
    refine ⟨vs, h2, fun j u hj => ?_⟩
    have hjl := lt_of_get hj
    rw [h2.size] at hjl
    have := Nat.mul_le_mul_right t.size h1
    rw [Nat.succ_mul] at this
    rw [putAt_get _ _ _ hbd, if_neg (by omega)]
    exact h3 j u hj
  · by_cases h2 : q < o + new.length
    · rw [List.getElem?_append_left (by simp; omega), List.getElem?_append_right (by simp; omega)] at hq
      have e1 : q - (l.take o).length = q - o := by simp; omega
      rw [e1] at hq
      obtain ⟨vs, h3, h4⟩ := hfl.get _ y hq
      refine ⟨vs, h3, fun j u hj => ?_⟩
      have h5 := h4 j u hj
      have h6 := lt_of_get h5
      have e2 : q * t.size = o * t.size + (q - o) * t.size := by rw [← Nat.add_mul]; congr 1; omega
      rw [putAt_get _ _ _ hbd, if_pos (by omega), ← h5]
      congr 1
      omega
    · rw [List.getElem?_append_right (by simp; omega), List.getElem?_drop] at hq
      have e1 : o + new.length + (q - (l.take o ++ new).length) = q := by simp; omega
      rw [e1] at hq
      obtain ⟨vs, h3, h4⟩ := hc q y hq
      refine ⟨vs, h3, fun j u hj => ?_⟩
      have := Nat.mul_le_mul_right t.size (show o + new.length ≤ q by omega)
      rw [Nat.add_mul] at this
      have hfl' := hfl.len
      rw [putAt_get _ _ _ hbd, if_neg (by omega)]
      exact h4 j u hj


theorem storeCells_none {P : Program} {w : World} (a : Addr) : (storeCells a []).run P w = .ok () w := rfl

/-- A store through a slice of one's own, from its first element on. -/
theorem store_slice {X : Ctx} {ρ : Rho} {σ : St} {a : Act} {w : World} (hF : RelF X ρ σ a w) {P : Program} {b : Nat} {wn : Option (Nat × Nat)} {t : Ty} {l : List t.D} {s : RS} (hb : σ.h[b]? = some (.row t l s)) (hz : isFrz (.row t l s) = false)
    {v : Value} (hs : SlOk w ρ σ.h b wn v) {new : List t.D} {news : List Value} (hfl : Flat w (avs X.A ρ σ.h) t new news) {o n : Nat} (hw : (o, n) = wn.getD (0, l.length)) (hn : new.length ≤ n) :
    ∃ ad c w', v = .slice ad n c ∧ (match ad with | some x => storeCells x news | none => pure () : Sem Unit).run P w = .ok () w' ∧ RelF X ρ ⟨σ.m, σ.h.set b (.row t (l.take o ++ new ++ l.drop (o + new.length)) s)⟩ a w' := by
  obtain ⟨t', l', s', o', n', ad, c, hb', hw', ho, hv, hnc, hc⟩ := hs
  rw [hb] at hb'
  cases hb'
  rw [← hw] at hw'
  simp at hw'
  obtain ⟨rfl, rfl⟩ := hw'
  rcases hc with hc | ⟨r, base, cs, e, fz, h3, h4, h5, h6⟩
  · have hnew : new = [] := List.eq_nil_of_length_eq_zero (by omega)
    subst hnew
    have hnews : news = [] := by have := hfl.len; simpa using this
    subst hnews
    refine ⟨ad, c, w, hv, by cases ad <;> rfl, ?_⟩
    have e1 : l.take o' ++ [] ++ l.drop (o' + ([] : List t.D).length) = l := by simp
    rw [e1, set_same _ _ _ hb]
    exact hF
  · obtain ⟨w', hrun, hF'⟩ := store_elems (P := P) hF hb hz h3 hfl (o := o') (by omega)
    subst h4
    exact ⟨_, c, w', hv, hrun, hF'⟩

theorem run_lenOf {P : Program} {w : World} {ad : Option Addr} {n c : Nat} : (Builtin.lenOf (.slice ad n c)).run P w = .ok n w := rfl

theorem copyK_sound {P : Program} {T : Nat → Option TI} (hT : TOk P T) {X : Ctx} {ρ : Rho} {σ : St} {a : Act} {w : World} (hF : RelF X ρ σ a w) {tid e tx ty : Nat} {d s : Cell} {K : St → V → Prop} (hd : P.underlying tid = some (.slice e))
    (hK : Ck (szOk (sizeT T e) σ.h d) (copyK σ d s K)) {ud us : Value} (hrd : RelC w (avs X.A ρ σ.h) ρ σ.h d ud) (hrs : RelC w (avs X.A ρ σ.h) ρ σ.h s us) :
    ∃ σ' y v w', K σ' y ∧ (Builtin.copy_ #[tid, tx] ty #[ud, us]).run P w = .ok v w' ∧ RelF X ρ σ' a w' ∧ RelV w' (avs X.A ρ σ'.h) ρ σ'.h y v := by
  obtain ⟨hsz, hK0⟩ := Ck_iff hK
  unfold copyK at hK0
  split at hK0
  · rename_i b wn
    split at hK0
    · rename_i t l st hb
      have hst : isFrz (.row t l st) = false ∧ ∃ src, dataAs t σ.h s = some src ∧ copyWin σ b t l src st K wn := by
        cases st <;> simp only at hK0 <;> try exact hK0.elim
        all_goals
          obtain ⟨src, hda⟩ : ∃ src, dataAs t σ.h s = some src := by
            cases h : dataAs t σ.h s with
            | none => rw [h] at hK0; exact hK0.elim
            | some src => exact ⟨src, rfl⟩
          rw [hda] at hK0
          exact ⟨rfl, src, hda, hK0⟩
      obtain ⟨hz, src, hsrc, hK1⟩ := hst
      obtain ⟨ads, cs, news, hsh⟩ := dataAs_shown hF.H hsrc hrs
      have hus := hsh.val
      subst hus
      obtain ⟨i, hi, his⟩ := info_of hT (szOk_pos hsz)
      simp only [szOk, hb] at hsz
      have hes := beq_iff hsz
      obtain ⟨o, n, hon⟩ : ∃ o n, (o, n) = wn.getD (0, l.length) := ⟨_, _, rfl⟩
      have hfl := hsh.flat.take (min src.length n)
      have hlt : (src.take (min src.length n)).length = min src.length n := by simp
      obtain ⟨ad, c, w', hv, hrun, hF'⟩ := store_slice (P := P) hF hb hz hrd hfl hon (by rw [hlt]; omega)
      subst hv
      have hfc : (Builtin.firstCells i.size (min src.length n) (.slice ads src.length cs)).run P w = .ok (news.take (min src.length n * t.size)).toArray w := by
        refine run_firstCells' (by rw [hfl.len, hlt, his, hes]) (fun a' e' j u hj => ?_) (fun e' => by rw [hsh.none e']; simp)
        rw [List.getElem?_take] at hj
        split at hj
        · exact hsh.at' a' e' j u hj
        · cases hj
      have hcopy : (Builtin.copy_ #[tid, tx] ty #[.slice ad n c, .slice ads src.length cs]).run P w = .ok (.int .i64 (min src.length n : Nat)) w' := by
        have hmin : Nat.min src.length n = min src.length n := rfl
        cases ad with
        | none =>
          simp only at hrun
          simp [Builtin.copy_, run_underlying hd, run_lenOf, run_sizeOf hi, hmin, hfc, goInt]
          simpa using hrun
        | some x =>
          simp only at hrun
          simp [Builtin.copy_, run_underlying hd, run_lenOf, run_sizeOf hi, hmin, hfc, goInt, hrun]
      have htk : ∀ m, src.take (min src.length m) = src.take m := fun m => by
        rcases Nat.le_total src.length m with h | h
        · rw [Nat.min_eq_left h, List.take_of_length_le h, List.take_of_length_le (Nat.le_refl _)]
        · rw [Nat.min_eq_right h]
      rw [hlt, htk] at hF'
      cases wn with
      | none =>
        simp at hon; obtain ⟨rfl, rfl⟩ := hon
        simp only [List.take_zero, List.nil_append, Nat.zero_add] at hF'
        exact ⟨_, _, _, w', hK1, hcopy, hF', by simp [RelV, I, RelW, RelC]⟩
      | some p =>
        obtain ⟨o2, n2⟩ := p
        simp at hon; obtain ⟨rfl, rfl⟩ := hon
        exact ⟨_, _, _, w', hK1, hcopy, hF', by simp [RelV, I, RelW, RelC]⟩
    · exact hK0.elim
  · exact hK0.elim

theorem clearK_sound {P : Program} {T : Nat → Option TI} (hT : TOk P T) {X : Ctx} {ρ : Rho} {σ : St} {a : Act} {w : World} (hF : RelF X ρ σ a w) {tid e ty : Nat} {d : Cell} {K : St → Prop} (hd : P.underlying tid = some (.slice e))
    (hK : Ck (szOk (sizeT T e) σ.h d) (Ck (rowTy T e σ.h d) (clearK σ d K))) {ud : Value} (hrd : RelC w (avs X.A ρ σ.h) ρ σ.h d ud) :
    ∃ σ' w', K σ' ∧ (Builtin.clear_ #[tid] ty #[ud]).run P w = .ok (.tuple #[]) w' ∧ RelF X ρ σ' a w' := by
  obtain ⟨hsz, hK00⟩ := Ck_iff hK
  obtain ⟨hty, hK0⟩ := Ck_iff hK00
  unfold clearK at hK0
  split at hK0
  · rename_i b wn
    split at hK0
    · rename_i t l st hb
      simp only [rowTy, hb] at hty
      have hty := of_decide_eq_true hty
      have hst : isFrz (.row t l st) = false ∧ clearWin σ b t l st K wn := by
        cases st <;> simp only at hK0 <;> try exact hK0.elim
        all_goals exact ⟨rfl, hK0⟩
      obtain ⟨hz, hK1⟩ := hst
      obtain ⟨i, z, hE⟩ := elem_info hT hty
      obtain ⟨o, n, hon⟩ : ∃ o n, (o, n) = wn.getD (0, l.length) := ⟨_, _, rfl⟩
      have hfl : Flat w (avs X.A ρ σ.h) t (List.replicate n t.zero) (Builtin.zeroCells z.cells n).toList := by
        have hz0 := hE.zrd w (avs X.A ρ σ.h)
        rw [zeroCells_made, hE.zsize]
        refine ⟨by simp [size_madeCells], fun u hu => ?_, fun q y hq => ?_⟩
        · obtain ⟨j, hj⟩ := List.getElem?_of_mem hu
          rw [Array.getElem?_toList] at hj
          have hjl : j < n * t.size := by
            rcases Nat.lt_or_ge j (madeCells z.cells (n * t.size)).size with h | h
            · rwa [size_madeCells] at h
            · rw [Array.getElem?_eq_none h] at hj; cases hj
          rw [made_get _ _ _ hjl (by rw [hE.zsize]; exact t.size_pos), ← Array.getElem?_toList] at hj
          exact RD.one _ _ _ hz0 u (List.mem_of_getElem? hj)
        · have hql := lt_of_get hq
          rw [List.length_replicate] at hql
          rw [List.getElem?_replicate, if_pos hql] at hq
          simp at hq; subst hq
          refine ⟨_, hz0, fun j u hj => ?_⟩
          have hjl := lt_of_get hj
          rw [hz0.size] at hjl
          rw [Array.getElem?_toList, made_elem hE.zsize hjl hql, ← Array.getElem?_toList]
          exact hj
      obtain ⟨ad, c, w', hv, hrun, hF'⟩ := store_slice (P := P) hF hb hz hrd hfl hon (by simp)
      subst hv
      have hclear : (Builtin.clear_ #[tid] ty #[.slice ad n c]).run P w = .ok (.tuple #[]) w' := by
        cases ad with
        | none =>
          simp only [Sem.run_pure] at hrun
          simp [Builtin.clear_, run_underlying hd]
          simpa using hrun
        | some x =>
          simp only at hrun
          cases n with
          | zero =>
            have h0 : (Builtin.zeroCells z.cells 0).toList = [] := by simp [Builtin.zeroCells]
            rw [h0] at hrun
            simp [Builtin.clear_, run_underlying hd]
            rw [storeCells_none] at hrun
            simpa using hrun
          | succ n =>
            simp [Builtin.clear_, run_underlying hd, zeroValue, typeInfo, hE.info, hE.zero, hrun]
      cases wn with
      | none =>
        simp at hon; obtain ⟨rfl, rfl⟩ := hon
        refine ⟨_, w', hK1, hclear, ?_⟩
        simpa using hF'
      | some p =>
        obtain ⟨o2, n2⟩ := p; simp at hon; obtain ⟨rfl, rfl⟩ := hon
        refine ⟨_, w', hK1, hclear, ?_⟩
        simpa using hF'
    · exact hK0.elim
  · exact hK0.elim

/-! ## zeros appended -/
theorem flat_zeros {P : Program} {T : Nat → Option TI} {e : Nat} {t : Ty} {i : TypeInfo} {z : Value} (hE : ElemInfo P T e t i z) (w : World) (av : Nat → Prop) (n : Nat) : Flat w av t (List.replicate n t.zero) (Builtin.zeroCells z.cells n).toList := by
  have hz0 := hE.zrd w av
  rw [zeroCells_made, hE.zsize]
  refine ⟨by simp [size_madeCells], fun u hu => ?_, fun q y hq => ?_⟩
  · obtain ⟨j, hj⟩ := List.getElem?_of_mem hu
    rw [Array.getElem?_toList] at hj
    have hjl : j < n * t.size := by
      rcases Nat.lt_or_ge j (madeCells z.cells (n * t.size)).size with h | h
      · rwa [size_madeCells] at h
      · rw [Array.getElem?_eq_none h] at hj; cases hj
    rw [made_get _ _ _ hjl (by rw [hE.zsize]; exact t.size_pos), ← Array.getElem?_toList] at hj
    exact RD.one _ _ _ hz0 u (List.mem_of_getElem? hj)
  · have hql := lt_of_get hq
    rw [List.length_replicate] at hql
    rw [List.getElem?_replicate, if_pos hql] at hq
    simp at hq; subst hq
    refine ⟨_, hz0, fun j u hj => ?_⟩
    have hjl := lt_of_get hj
    rw [hz0.size] at hjl
    rw [Array.getElem?_toList, made_elem hE.zsize hjl hql, ← Array.getElem?_toList]
    exact hj

theorem appendZ_sound {P : Program} {T : Nat → Option TI} (hT : TOk P T) {X : Ctx} {ρ : Rho} {σ : St} {a : Act} {w : World} (hF : RelF X ρ σ a w) {tid tx ty : Nat} {kx : IntKind} {s : Cell} {n : Int} {K : St → Cell → Prop} (hK : appendZ T σ tid s n K)
    (htx : P.underlying tx = some (.int kx)) {us : Value} (hs : RelC w (avs X.A ρ σ.h) ρ σ.h s us) :
    ∃ σ' c v w' ρ', K σ' c ∧ (Builtin.append_ #[tid, tx] ty #[us, .int .i64 n]).run P w = .ok v w' ∧ RelF X ρ' σ' a w' ∧ RelC w' (avs X.A ρ' σ'.h) ρ' σ'.h c v := by
  unfold appendZ at hK
  split at hK
  · exact hK.elim
  rename_i e he
  obtain ⟨_, _, _, _, _, hTt⟩ := elemOf_some he
  obtain ⟨d, hd, hk, _⟩ := (hT _ _ hTt).desc
  have hk : d = .slice e := hk
  subst hk
  split at hK
  · exact hK.elim
  rename_i t hty
  obtain ⟨i, z, hE⟩ := elem_info hT hty
  obtain ⟨h0, hK1⟩ := Ck_iff hK
  have h0 := of_decide_eq_true h0
  obtain ⟨k, rfl⟩ : ∃ k : Nat, n = (k : Int) := ⟨n.toNat, (Int.toNat_of_nonneg h0).symm⟩
  rw [Int.toNat_natCast] at hK1
  refine appendL_sound hF hE hK1 hs fun hroom => ⟨(Builtin.zeroCells z.cells k).toList, ?_⟩
  have hfl := flat_zeros hE w (avs X.A ρ σ.h) k
  have hlen : (List.replicate k t.zero).length = k := List.length_replicate
  rw [hlen] at hroom
  have hn : k ≤ roomy := Nat.le_trans (Nat.le_mul_of_pos_right _ hE.bpos) hroom
  have hw : IntKind.i64.wrap (k : Int) = (k : Int) := by
    rw [IntKind.wrap_i64]
    simp only [roomy] at hn
    omega
  have h1 : ¬ (k : Int) < 0 := by omega
  have h2 : ¬ (281474976710656 < (k : Int) * (i.bytes : Int)) := by
    rw [hE.bytes]
    have e2 : ((k * bytesOf T e : Nat) : Int) = (k : Int) * (bytesOf T e : Int) := Int.natCast_mul _ _
    have h3 : k * bytesOf T e ≤ 1099511627776 := hroom
    omega
  have hz : k * i.size = 0 → (Builtin.zeroCells z.cells k) = #[] := by
    intro h
    have := hfl.len
    rw [hlen, ← hE.size, h] at this
    exact Array.toList_eq_nil_iff.1 (List.eq_nil_of_length_eq_zero this)
  refine ⟨hfl, fun ty base m cap h => ?_, fun ty base m cap olds g1 g2 g3 g4 => ?_⟩
  · rw [hlen] at h ⊢
    by_cases c : k * i.size = 0
    · cases base <;> simp [Builtin.append_, run_underlying hd, run_underlying htx, Go.sizeOf, typeInfo, hE.info, asInt, asIntOf, hw, h1, h2, h, c, hz c]
    · cases base <;> simp [Builtin.append_, run_underlying hd, run_underlying htx, Go.sizeOf, typeInfo, hE.info, asInt, asIntOf, hw, h1, h2, h, c, zeroValue, hE.zero]
  · rw [hlen] at g2 g3 g4 ⊢
    have hn' : ¬ (m + k ≤ cap) := by omega
    have h63' : ¬ (9223372036854775807 < ((m : Int) + (k : Int))) := by omega
    have h48' : ¬ (281474976710656 < Builtin.nextslicecap (m + k) cap * i.bytes) := by omega
    by_cases c : k * i.size = 0
    · simp [Builtin.append_, run_underlying hd, run_underlying htx, Go.sizeOf, typeInfo, zeroValue, hE.info, hE.zero, asInt, asIntOf, hw, h1, h2, hn', h63', h48', Question.forced, g1, newRow, grownCap, c, hz c]
    · simp [Builtin.append_, run_underlying hd, run_underlying htx, Go.sizeOf, typeInfo, zeroValue, hE.info, hE.zero, asInt, asIntOf, hw, h1, h2, hn', h63', h48', Question.forced, g1, newRow, grownCap, c]

end Go.Proofs.Ytjoiadaogppmkaa.Sh
