/- The caller's state behind a call. -/
import Derived.Test.YtjoiadaogppmkaaShCall
namespace Go.Proofs.Ytjoiadaogppmkaa.Sh
open Go
set_option linter.unusedVariables false
set_option linter.unusedSimpArgs false

/-- A block frozen, or as it was. -/
def FrzOf (x y : Blk) : Prop := y = x ∨ ∃ t l s s', x = .row t l s ∧ y = .row t l s' ∧ isFrz y = true ∧ isMoved y = isMoved x ∧ s ≠ .var

theorem freezeAll_get : ∀ (bs : List Nat) (h : Heap) (c : Nat) (y : Blk), (freezeAll h bs)[c]? = some y → ∃ x, h[c]? = some x ∧ FrzOf x y
  | [], h, c, y, hc => ⟨y, hc, .inl rfl⟩
  | b :: bs, h, c, y, hc => by
    obtain ⟨z, h1, h2⟩ := freezeAll_get bs (freeze1 h b) c y hc
    obtain ⟨x, h3, h4⟩ := freeze1_get h b c z h1
    refine ⟨x, h3, ?_⟩
    rcases h2 with rfl | ⟨t, l, s, s', e1, e2, e3, e4, e5⟩
    · exact h4
    · rcases h4 with rfl | ⟨t', l', s1, s2, f1, f2, f3, f4, f5⟩
      · exact .inr ⟨t, l, s, s', e1, e2, e3, e4, e5⟩
      · rw [e1] at f2
        cases f2
        exact .inr ⟨t, l, s1, s', f1, e2, e3, by rw [e4, f4], f5⟩
theorem freezeAll_length (bs : List Nat) (h : Heap) : (freezeAll h bs).length = h.length := by
  induction bs generalizing h with
  | nil => rfl
  | cons b bs ih => simp [freezeAll, ih, freeze1_length]

theorem freezeAll_frz : ∀ (bs : List Nat) (h : Heap), (∀ b ∈ bs, canFreeze h b = true) → ∀ b ∈ bs, ∀ y, (freezeAll h bs)[b]? = some y → isFrz y = true
  | c :: bs, h, hall, b, hb, y, hy => by
    have hcan : ∀ b' ∈ bs, canFreeze (freeze1 h c) b' = true := by
      intro b' hb'
      have h1 := hall b' (by simp [hb'])
      obtain ⟨t, l, s, h2, h3⟩ := canFreeze_row h1
      obtain ⟨z, h4, h5⟩ := freeze1_some h c b' _ h2
      unfold canFreeze
      rw [h4]
      rcases h5 with rfl | ⟨t', l', s1, s2, e1, rfl⟩
      · cases s <;> first | rfl | (exact absurd rfl h3)
      · have hl : b' < (freeze1 h c).length := by rw [freeze1_length]; exact lt_of_get h2
        obtain ⟨x0, g1, g2⟩ := freeze1_get h c b' _ h4
        rw [h2] at g1
        cases g1
        rcases g2 with g2 | ⟨_, _, _, _, _, _, g3, _⟩
        · cases g2; cases s <;> first | rfl | (exact absurd rfl h3)
        · cases s2 <;> first | rfl | (simp [isFrz] at g3)
    rcases List.mem_cons.1 hb with rfl | hb
    · obtain ⟨t, l, s, h2, h3⟩ := canFreeze_row (hall b (by simp))
      obtain ⟨s', h4, h5⟩ := freeze1_frz h2 h3
      obtain ⟨z, g1, g2⟩ := freezeAll_get bs (freeze1 h b) b y hy
      rw [h4] at g1
      cases g1
      rcases g2 with rfl | ⟨_, _, _, _, _, _, g3, _⟩
      · exact h5
      · exact g3
    · exact freezeAll_frz bs (freeze1 h c) hcan b hb y hy

/-- What is known of a call that came back. -/
structure Back (A : Nat → Prop) (ρ : Rho) (lent : Heap) (w : World) (ρ' : Rho) (lent' : Heap) (w' : World) : Prop where
  H : RelH A ρ' lent' w'
  fr : Frame (own ρ lent) w w'
  len : lent.length ≤ lent'.length
  keep : ∀ (b : Nat) (x : Blk), lent'[b]? = some x → b < lent.length → isMoved x = false → ρ' b = ρ b
  src : ∀ b r base, b < lent.length → ρ' b = some (r, base) → (∃ base', ρ b = some (r, base')) ∨ w.heap.size ≤ r
  new : ∀ b r base, lent.length ≤ b → b < lent'.length → ρ' b = some (r, base) → w.heap.size ≤ r
  shp : ∀ (b : Nat) (x : Blk), lent[b]? = some x → ∃ x', lent'[b]? = some x' ∧ (isFrz x = true → isFrz x' = true) ∧ (isMoved x' = false → SameShape x x')

def rhoBack (ρ ρ' : Rho) (ids : List Nat) (hl : Nat) : Rho := fun c => match idx c ids with
  | some i => ρ' i
  | none => if c < hl then ρ c else ρ' (ids.length + (c - hl))

theorem after_call {X : Ctx} {ρ : Rho} {σ : St} {a : Act} {w : World} (hF : RelF X ρ σ a w) {ids viewed : List Nat} (hnd : ids.Nodup) (hlt : ∀ b ∈ ids, b < σ.h.length) (hdis : ∀ b ∈ viewed, b ∉ ids)
    {lent1 news h1 : Heap} {res : List W} (hlen : lent1.length = ids.length) {ρ' : Rho} {w' : World}
    (hB : Back (offOf' X.A ρ σ.h (ids ++ viewed)) (rhoOf ρ ids) (lentOf σ.h ids) w ρ' (lent1 ++ news) w')
    (hcase : (res.all flatW = true ∧ (lent1 ++ news).all flatB = true ∧ h1 = σ.h) ∨ (h1 = freezeAll σ.h viewed ∧ ∀ b ∈ viewed, canFreeze σ.h b = true)) :
    RelF X (rhoBack ρ ρ' ids σ.h.length) ⟨eraseM (movedIds ids lent1) σ.m, mergeB ids (backMap ids σ.h.length) lent1 0 (eraseH (movedIds ids lent1) h1) ++ news.map (renB (backMap ids σ.h.length))⟩ a w' ∧
    ∀ x v, x ∈ res → RelW w' (avs (offOf' X.A ρ σ.h (ids ++ viewed)) ρ' (lent1 ++ news)) ρ' (lent1 ++ news) x v →
      RelW w' (avs X.A (rhoBack ρ ρ' ids σ.h.length) (mergeB ids (backMap ids σ.h.length) lent1 0 (eraseH (movedIds ids lent1) h1) ++ news.map (renB (backMap ids σ.h.length)))) (rhoBack ρ ρ' ids σ.h.length)
        (mergeB ids (backMap ids σ.h.length) lent1 0 (eraseH (movedIds ids lent1) h1) ++ news.map (renB (backMap ids σ.h.length))) (renW (backMap ids σ.h.length) x) v := by
  generalize hmv : movedIds ids lent1 = mv
  generalize hbk : backMap ids σ.h.length = back
  generalize hh2 : mergeB ids back lent1 0 (eraseH mv h1) ++ news.map (renB back) = h2
  generalize hr2 : rhoBack ρ ρ' ids σ.h.length = ρ2
  -- the heap before, frozen or not
  have g1 : ∀ (c : Nat) (y : Blk), h1[c]? = some y → ∃ x, σ.h[c]? = some x ∧ FrzOf x y := by
    intro c y hc
    rcases hcase with ⟨_, _, rfl⟩ | ⟨rfl, _⟩
    · exact ⟨y, hc, .inl rfl⟩
    · exact freezeAll_get _ _ _ _ hc
  have hl1 : h1.length = σ.h.length := by
    rcases hcase with ⟨_, _, rfl⟩ | ⟨rfl, _⟩
    · rfl
    · exact freezeAll_length _ _
  have hlm : (mergeB ids back lent1 0 (eraseH mv h1)).length = σ.h.length := by
    rw [merge_length, eraseH, List.length_map, hl1]
  have hl2 : h2.length = σ.h.length + news.length := by rw [← hh2]; simp [hlm]
  have hlent : (lent1 ++ news).length = ids.length + news.length := by simp [hlen]
  -- the new heap, place by place
  have getOld : ∀ c : Nat, c < σ.h.length → ∃ x y, σ.h[c]? = some x ∧ h1[c]? = some y ∧ FrzOf x y ∧ h2[c]? = some (mergeAt ids back lent1 c (renB (butL mv) y)) := by
    intro c hc
    obtain ⟨y, hy⟩ : ∃ y, h1[c]? = some y := ⟨_, List.getElem?_eq_getElem (by rw [hl1]; exact hc)⟩
    obtain ⟨x, hx, hz⟩ := g1 c _ hy
    refine ⟨x, _, hx, hy, hz, ?_⟩
    rw [← hh2, List.getElem?_append_left (by rw [hlm]; exact hc), merge_get, eraseH, get_map, hy]
    simp
  have getNew : ∀ k, k < news.length → ∃ z, news[k]? = some z ∧ (lent1 ++ news)[ids.length + k]? = some z ∧ h2[σ.h.length + k]? = some (renB back z) := by
    intro k hk
    obtain ⟨z, hz⟩ : ∃ z, news[k]? = some z := ⟨_, List.getElem?_eq_getElem hk⟩
    refine ⟨z, hz, ?_, ?_⟩
    · rw [List.getElem?_append_right (by omega), hlen, show ids.length + k - ids.length = k by omega]
      exact hz
    · rw [← hh2, List.getElem?_append_right (by rw [hlm]; omega), hlm, show σ.h.length + k - σ.h.length = k by omega, get_map, hz]
      rfl
  have getLent : ∀ (i b : Nat), ids[i]? = some b → ∃ z, lent1[i]? = some z ∧ (lent1 ++ news)[i]? = some z := by
    intro i b hi
    have hil := lt_of_get hi
    obtain ⟨z, hz⟩ : ∃ z, lent1[i]? = some z := ⟨_, List.getElem?_eq_getElem (by omega)⟩
    refine ⟨z, hz, ?_⟩
    rw [List.getElem?_append_left (by omega)]
    exact hz
  have idxOf : ∀ (i b : Nat), ids[i]? = some b → idx b ids = some i := fun i b hi => idx_of hnd hi
  have idxNone : ∀ c, σ.h.length ≤ c → idx c ids = none := by
    intro c hc
    cases e : idx c ids with
    | none => rfl
    | some i => have := hlt c (List.mem_of_getElem? (idx_get e)); omega
  -- names
  have r2ids : ∀ c i, idx c ids = some i → ρ2 c = ρ' i := fun c i e => by rw [← hr2]; simp [rhoBack, e]
  have r2old : ∀ c, idx c ids = none → c < σ.h.length → ρ2 c = ρ c := fun c e hc => by rw [← hr2]; simp [rhoBack, e, hc]
  have r2new : ∀ k, ρ2 (σ.h.length + k) = ρ' (ids.length + k) := fun k => by
    rw [← hr2]; simp only [rhoBack, idxNone _ (Nat.le_add_right _ _)]
    rw [if_neg (by omega), show σ.h.length + k - σ.h.length = k by omega]
  have backIds : ∀ i, i < ids.length → back i = ids[i]? := fun i hi => by
    rw [← hbk]; simp only [backMap]
    have : Nat.blt i ids.length = true := Nat.ble_eq_true_of_le hi
    rw [this]
  have backNew : ∀ k, back (ids.length + k) = some (σ.h.length + k) := fun k => by
    rw [← hbk]; simp only [backMap]
    have : Nat.blt (ids.length + k) ids.length = false := by
      cases h : Nat.blt (ids.length + k) ids.length with
      | false => rfl
      | true => have := blt_iff h; omega
    rw [this, show ids.length + k - ids.length = k by omega]
  have frz1 : ∀ {x y : Blk}, FrzOf x y → isFrz y = false → isFrz x = false := by
    intro x y h hz
    rcases h with rfl | ⟨_, _, _, _, _, _, e3, _⟩
    · exact hz
    · rw [e3] at hz; cases hz
  -- what is where
  have places : ∀ (c : Nat) (y : Blk), h2[c]? = some y → (∃ i x z, idx c ids = some i ∧ σ.h[c]? = some x ∧ lent1[i]? = some z ∧ (lent1 ++ news)[i]? = some z ∧ ∃ o, y = remoteB o (renB back z) ∧ isMoved o = isMoved x) ∨
      (∃ x y0, idx c ids = none ∧ c < σ.h.length ∧ σ.h[c]? = some x ∧ h1[c]? = some y0 ∧ FrzOf x y0 ∧ y = renB (butL mv) y0) ∨
      (∃ k z, c = σ.h.length + k ∧ k < news.length ∧ news[k]? = some z ∧ (lent1 ++ news)[ids.length + k]? = some z ∧ y = renB back z) := by
    intro c y hc
    have hcl := lt_of_get hc
    by_cases hco : c < σ.h.length
    · obtain ⟨x, y0, hx, hy0, hz, he⟩ := getOld c hco
      rw [hc] at he
      have he := Option.some.inj he
      cases e : idx c ids with
      | none =>
        refine .inr (.inl ⟨x, y0, rfl, hco, hx, hy0, hz, ?_⟩)
        rw [he]; simp [mergeAt, e]
      | some i =>
        obtain ⟨z, hz1, hz2⟩ := getLent i c (idx_get e)
        refine .inl ⟨i, x, z, rfl, hx, hz1, hz2, renB (butL mv) y0, ?_, ?_⟩
        · rw [he]; simp [mergeAt, e, hz1]
        · rw [isMoved_renB]
          rcases hz with rfl | ⟨_, _, _, _, _, _, _, e4, _⟩
          · rfl
          · exact e4
    · obtain ⟨z, hz1, hz2, hz3⟩ := getNew (c - σ.h.length) (by omega)
      rw [show σ.h.length + (c - σ.h.length) = c by omega] at hz3
      rw [hc] at hz3
      exact .inr (.inr ⟨c - σ.h.length, z, by omega, by omega, hz1, hz2, Option.some.inj hz3⟩)
  have remFrz : ∀ (o z : Blk), isFrz (remoteB o z) = isFrz z := by
    intro o z
    cases z with
    | row t l s => obtain ⟨s', e, h, _⟩ := remote_row o t l s; rw [e]; exact h
    | box cs => unfold remoteB; cases isMoved o <;> rfl
  -- memory that may be written
  have lentOwn : ∀ {i c : Nat} {x z : Blk}, idx c ids = some i → σ.h[c]? = some x → (lent1 ++ news)[i]? = some z → isFrz z = false → isFrz x = false := by
    intro i c x z e hx hz hf
    obtain ⟨x', hx', hl⟩ := lent_get hlt (idx_get e)
    rw [hx] at hx'
    have hx' := Option.some.inj hx'
    subst hx'
    obtain ⟨x2, h3, h4, _⟩ := hB.shp i _ hl
    rw [hz] at h3
    have h3 := Option.some.inj h3
    subst h3
    cases hfx : isFrz x with
    | false => rfl
    | true =>
      have := h4 (by rw [(unmove_facts _).1, isFrz_renB]; exact hfx)
      rw [this] at hf; cases hf
  have own2 : ∀ r, own ρ2 h2 r → own ρ' (lent1 ++ news) r ∨ (∃ c x y0 base, idx c ids = none ∧ σ.h[c]? = some x ∧ h1[c]? = some y0 ∧ isFrz y0 = false ∧ isFrz x = false ∧ ρ c = some (r, base)) := by
    rintro r ⟨c, y, base, hc, hz, hρ⟩
    rcases places c y hc with ⟨i, x, z, e, hx, hz1, hz2, o, rfl, _⟩ | ⟨x, y0, e, hco, hx, hy0, hfz, rfl⟩ | ⟨k, z, rfl, hk, hz1, hz2, rfl⟩
    · rw [r2ids c i e] at hρ
      rw [remFrz, isFrz_renB] at hz
      exact .inl ⟨i, z, base, hz2, hz, hρ⟩
    · rw [r2old c e hco] at hρ
      rw [isFrz_renB] at hz
      exact .inr ⟨c, x, y0, base, e, hx, hy0, hz, frz1 hfz hz, hρ⟩
    · rw [r2new k] at hρ
      rw [isFrz_renB] at hz
      exact .inl ⟨ids.length + k, z, base, hz2, hz, hρ⟩
  have hsize := hB.fr.size
  have notLent : ∀ {c r base}, c < σ.h.length → idx c ids = none → ρ c = some (r, base) → ¬ own (rhoOf ρ ids) (lentOf σ.h ids) r := by
    intro c r base hc e hρ h
    obtain ⟨b, x, base', hb, hx, _, hρ'⟩ := own_lent hlt h
    have := hF.H.inj c b r base base' hc (lt_of_get hx) hρ hρ'
    subst this
    obtain ⟨i, hi⟩ := idx_mem hb
    rw [e] at hi; cases hi
  have av1 : ∀ r, r < w.heap.size → avs X.A ρ2 h2 r → avs X.A ρ σ.h r := by
    intro r hr h
    rcases h with h | h
    · exact .inl h
    · rcases own2 r h with ⟨i, z, base, hz, hf, hρ⟩ | ⟨c, x, y0, base, e, hx, hy0, _, hf, hρ⟩
      · have hil := lt_of_get hz
        by_cases hi : i < ids.length
        · rcases hB.src i r base (by rw [lent_length]; exact hi) hρ with ⟨base', h'⟩ | h'
          · have hb : ids[i]? = some ids[i] := List.getElem?_eq_getElem hi
            simp only [rhoOf, hb] at h'
            have hbl := hlt _ (List.mem_of_getElem? hb)
            exact .inr ⟨ids[i], _, base', List.getElem?_eq_getElem hbl, lentOwn (idxOf _ _ hb) (List.getElem?_eq_getElem hbl) hz hf, h'⟩
          · omega
        · have := hB.new i r base (by rw [lent_length]; omega) hil hρ; omega
      · exact .inr ⟨c, x, base, hx, hf, hρ⟩
  have rd1 : Reads w w' (avs X.A ρ σ.h) := by
    intro r o v hnot hv
    rw [at_same (hB.fr.block r (at_lt hv) (fun h => hnot ?_))]
    · exact hv
    · obtain ⟨b, x, base, _, hx, hz, hρ⟩ := own_lent hlt h
      exact .inr ⟨b, x, base, hx, hz, hρ⟩
  have rd2 : Reads w' w' (avs (offOf' X.A ρ σ.h (ids ++ viewed)) ρ' (lent1 ++ news)) := fun r o v _ h => h
  -- the caller's own cells
  have sim1 : ∀ b c, b < σ.h.length → butL mv b = some c → Sim w w' ρ ρ2 σ.h h2 b c := by
    intro b c hb hbc
    obtain ⟨rfl, hnm⟩ := butL_spec hbc
    obtain ⟨x, y0, hx, hy0, hfz, he⟩ := getOld c hb
    have rowOf : ∀ t l s, x = .row t l s → ∃ s', y0 = .row t l s' := by
      intro t l s ex
      rcases hfz with rfl | ⟨t', l', s1, s2, e1, e2, _⟩
      · exact ⟨s, ex⟩
      · rw [ex] at e1; cases e1; exact ⟨s2, e2⟩
    cases e : idx c ids with
    | none =>
      have he2 : h2[c]? = some (renB (butL mv) y0) := by rw [he]; simp [mergeAt, e]
      refine ⟨fun t l s ex => ?_, fun cs ex => ?_, r2old c e hb, fun r base cs e0 fz hρ hw => ?_⟩
      · rw [hx] at ex
        obtain ⟨s', ey⟩ := rowOf t l s (Option.some.inj ex)
        exact ⟨l, s', by rw [he2, ey]; rfl, rfl⟩
      · rw [hx] at ex
        have ex := Option.some.inj ex
        rcases hfz with rfl | ⟨t', l', s1, s2, e1, _⟩
        · subst ex; exact ⟨_, he2⟩
        · rw [ex] at e1; cases e1
      · exact hB.fr.room r cs e0 fz hw
    | some i =>
      obtain ⟨z, hz1, hz2⟩ := getLent i c (idx_get e)
      have hzm : isMoved z = false := by
        cases h : isMoved z with
        | false => rfl
        | true => exact absurd (by rw [← hmv]; exact movedIds_spec (idx_get e) hz1 h) hnm
      obtain ⟨x', hx', hl⟩ := lent_get hlt (idx_get e)
      rw [hx] at hx'
      have hx' := Option.some.inj hx'
      subst hx'
      have hil : i < (lentOf σ.h ids).length := lt_of_get hl
      obtain ⟨z', q1, q2, q3⟩ := hB.shp i _ hl
      rw [hz2] at q1
      have q1 := Option.some.inj q1
      subst q1
      have hss := q3 hzm
      have hk := hB.keep i z hz2 hil hzm
      have he2 : h2[c]? = some (remoteB (renB (butL mv) y0) (renB back z)) := by rw [he]; simp [mergeAt, e, hz1]
      refine ⟨fun t l s ex => ?_, fun cs ex => ?_, ?_, fun r base cs e0 fz hρ hw => ?_⟩
      · rw [hx] at ex
        have ex := Option.some.inj ex
        subst ex
        cases z with
        | box _ => cases s <;> simp [unmoveB, renB, SameShape] at hss
        | row t' l' s'' =>
          have : t = t' ∧ l.length = l'.length := by cases s <;> simpa [unmoveB, renB, SameShape] using hss
          obtain ⟨rfl, hll⟩ := this
          obtain ⟨s3, e3, _⟩ := remote_row (renB (butL mv) y0) t l' s''
          exact ⟨l', s3, by rw [he2]; exact congrArg some e3, hll.symm⟩
      · rw [hx] at ex
        have ex := Option.some.inj ex
        subst ex
        cases z with
        | row _ _ _ => simp [unmoveB, renB, SameShape] at hss
        | box cs' =>
          refine ⟨cs'.map (renC back), ?_⟩
          rw [he2]
          unfold remoteB
          cases isMoved (renB (butL mv) y0) <;> rfl
      · rw [r2ids c i e, hk]; simp [rhoOf, idx_get e]
      · exact hB.fr.room r cs e0 fz hw
  -- the callee's cells
  have sim2 : ∀ j c, j < (lent1 ++ news).length → back j = some c → Sim w' w' ρ' ρ2 (lent1 ++ news) h2 j c := by
    intro j c hj hbc
    by_cases hi : j < ids.length
    · rw [backIds j hi] at hbc
      have e := idxOf j c hbc
      obtain ⟨z, hz1, hz2⟩ := getLent j c hbc
      obtain ⟨x, y0, hx, hy0, hfz, he⟩ := getOld c (hlt c (List.mem_of_getElem? hbc))
      have he2 : h2[c]? = some (remoteB (renB (butL mv) y0) (renB back z)) := by rw [he]; simp [mergeAt, e, hz1]
      refine ⟨fun t l s ex => ?_, fun cs ex => ?_, r2ids c j e, fun r base cs e0 fz hρ hw => ⟨cs, e0, fz, hw, rfl⟩⟩
      · rw [hz2] at ex
        have ex := Option.some.inj ex
        subst ex
        obtain ⟨s3, e3, _⟩ := remote_row (renB (butL mv) y0) t l s
        exact ⟨l, s3, by rw [he2]; exact congrArg some e3, rfl⟩
      · rw [hz2] at ex
        have ex := Option.some.inj ex
        subst ex
        refine ⟨cs.map (renC back), ?_⟩
        rw [he2]
        unfold remoteB
        cases isMoved (renB (butL mv) y0) <;> rfl
    · obtain ⟨k, rfl⟩ : ∃ k, j = ids.length + k := ⟨j - ids.length, by omega⟩
      rw [backNew k] at hbc
      have hbc := Option.some.inj hbc
      subst hbc
      obtain ⟨z, hz1, hz2, hz3⟩ := getNew k (by omega)
      refine ⟨fun t l s ex => ?_, fun cs ex => ?_, r2new k, fun r base cs e0 fz hρ hw => ⟨cs, e0, fz, hw, rfl⟩⟩
      · rw [hz2] at ex
        have ex := Option.some.inj ex
        subst ex
        exact ⟨l, s, hz3, rfl⟩
      · rw [hz2] at ex
        have ex := Option.some.inj ex
        subst ex
        exact ⟨_, hz3⟩
  -- off what the callee had to keep off
  have av2 : h1 = freezeAll σ.h viewed → (∀ b ∈ viewed, canFreeze σ.h b = true) → ∀ r, avs X.A ρ2 h2 r → avs (offOf' X.A ρ σ.h (ids ++ viewed)) ρ' (lent1 ++ news) r := by
    intro hfz hcan r h
    rcases h with h | h
    · exact .inl (.inl h)
    · rcases own2 r h with h | ⟨c, x, y0, base, e, hx, hy0, hf0, hf, hρ⟩
      · exact .inr h
      · refine .inl (.inr ⟨⟨c, x, base, hx, hf, hρ⟩, ?_⟩)
        rintro ⟨b, hb, base', hρ'⟩
        have hbl : b < σ.h.length := by
          rcases List.mem_append.1 hb with hb | hb
          · exact hlt b hb
          · obtain ⟨_, _, _, hb', _⟩ := canFreeze_row (hcan b hb); exact lt_of_get hb'
        have hcb := hF.H.inj c b r base base' (lt_of_get hx) hbl hρ hρ'
        subst hcb
        rcases List.mem_append.1 hb with hb | hb
        · obtain ⟨i, hi⟩ := idx_mem hb
          rw [e] at hi; cases hi
        · have := freezeAll_frz viewed σ.h hcan c hb y0 (by rw [← hfz]; exact hy0)
          rw [this] at hf0; cases hf0
  have calleeB : ∀ (j c : Nat) (z : Blk), (lent1 ++ news)[j]? = some z → back j = some c → RelB w' (avs X.A ρ2 h2) ρ2 h2 c (renB back z) := by
    intro j c z hz hbc
    have hjl := lt_of_get hz
    have hb := hB.H.blk j z hz
    have hsim : ∀ d ∈ refsB (some z), ∀ d', back d = some d' → Sim w' w' ρ' ρ2 (lent1 ++ news) h2 d d' := fun d hd d' e => sim2 d d' (hb.refs_lt d hd) e
    rcases hcase with ⟨_, hfl, _⟩ | ⟨hfz, hcan⟩
    · exact RelB.ren_flat back (List.all_eq_true.1 hfl z (List.mem_of_getElem? hz)) (sim2 j c hjl hbc).rho (fun _ _ _ => rfl) hsim hb
    · exact RelB.ren (fun r _ h => av2 hfz hcan r h) rd2 back (sim2 j c hjl hbc).rho (fun _ _ _ => rfl) hsim hb
  have w0s := hF.fr.size
  refine ⟨⟨⟨?_, ?_, ?_, ?_⟩, ?_, ?_, ?_, ?_, ?_, ?_, hF.sz, hF.df, ?_⟩, ?_⟩
  · -- inj
    have cls : ∀ c r base, c < h2.length → ρ2 c = some (r, base) → (∃ j, j < (lent1 ++ news).length ∧ back j = some c ∧ ρ' j = some (r, base)) ∨ (idx c ids = none ∧ c < σ.h.length ∧ ρ c = some (r, base)) := by
      intro c r base hc hρ
      by_cases hco : c < σ.h.length
      · cases e : idx c ids with
        | none => rw [r2old c e hco] at hρ; exact .inr ⟨rfl, hco, hρ⟩
        | some i =>
          rw [r2ids c i e] at hρ
          have hi := lt_of_get (idx_get e)
          exact .inl ⟨i, by omega, by rw [backIds i hi]; exact idx_get e, hρ⟩
      · obtain ⟨k, rfl⟩ : ∃ k, c = σ.h.length + k := ⟨c - σ.h.length, by omega⟩
        rw [r2new k] at hρ
        exact .inl ⟨ids.length + k, by omega, backNew k, hρ⟩
    have mixed : ∀ {j c d r b1 b2}, j < (lent1 ++ news).length → back j = some c → ρ' j = some (r, b1) → idx d ids = none → d < σ.h.length → ρ d = some (r, b2) → False := by
      intro j c d r b1 b2 hj hbc h1' e hd h2'
      have hr := (hF.H.out d r b2 hd h2').1
      by_cases hi : j < ids.length
      · rcases hB.src j r b1 (by rw [lent_length]; exact hi) h1' with ⟨b3, h3⟩ | h3
        · have hb : ids[j]? = some ids[j] := List.getElem?_eq_getElem hi
          simp only [rhoOf, hb] at h3
          have := hF.H.inj d _ r b2 b3 hd (hlt _ (List.mem_of_getElem? hb)) h2' h3
          subst this
          rw [idxOf j _ hb] at e; cases e
        · omega
      · have := hB.new j r b1 (by rw [lent_length]; omega) hj h1'; omega
    intro c d r b1 b2 hc hd h1' h2'
    simp only at hc hd
    rcases cls c r b1 hc h1' with ⟨j, hj, hbj, e1⟩ | ⟨e1, hco, p1⟩
    · rcases cls d r b2 hd h2' with ⟨j', hj', hbj', e2⟩ | ⟨e2, hdo, p2⟩
      · have := hB.H.inj j j' r b1 b2 hj hj' e1 e2
        subst this
        rw [hbj] at hbj'
        exact Option.some.inj hbj'
      · exact (mixed hj hbj e1 e2 hdo p2).elim
    · rcases cls d r b2 hd h2' with ⟨j', hj', hbj', e2⟩ | ⟨e2, hdo, p2⟩
      · exact (mixed hj' hbj' e2 e1 hco p1).elim
      · exact hF.H.inj c d r b1 b2 hco hdo p1 p2
  · -- blk
    intro c y hc
    rcases places c y hc with ⟨i, x, z, e, hx, hz1, hz2, o, rfl, _⟩ | ⟨x, y0, e, hco, hx, hy0, hfz, rfl⟩ | ⟨k, z, rfl, hk, hz1, hz2, rfl⟩
    · have hi := lt_of_get (idx_get e)
      have hb := calleeB i c z hz2 (by rw [backIds i hi]; exact idx_get e)
      cases z with
      | row t l s =>
        obtain ⟨s', e3, _, _, hv⟩ := remote_row o t l s
        have : remoteB o (renB back (.row t l s)) = .row t l s' := e3
        rw [this]
        exact RelB.status hv hb
      | box cs =>
        have : remoteB o (renB back (.box cs)) = renB back (.box cs) := by unfold remoteB; cases isMoved o <;> rfl
        rw [this]
        exact hb
    · have hb := hF.H.blk c x hx
      have hb2 : RelB w' (avs X.A ρ2 h2) ρ2 h2 c (renB (butL mv) x) :=
        RelB.ren av1 rd1 (butL mv) (r2old c e hco) (fun r base hρ => hB.fr.block r (hF.H.out c r base hco hρ).1 (notLent hco e hρ)) (fun d hd d' hdd => sim1 d d' (hb.refs_lt d hd) hdd) hb
      rcases hfz with rfl | ⟨t, l, s, s', rfl, rfl, hfz', _, hv⟩
      · exact hb2
      · exact RelB.status (by intro e'; subst e'; simp [isFrz] at hfz') hb2
    · exact calleeB (ids.length + k) _ z hz2 (backNew k)
  · -- out
    intro c r base hc hρ
    simp only at hc
    by_cases hco : c < σ.h.length
    · cases e : idx c ids with
      | none =>
        rw [r2old c e hco] at hρ
        have := hF.H.out c r base hco hρ
        exact ⟨by omega, this.2⟩
      | some i =>
        rw [r2ids c i e] at hρ
        have hi := lt_of_get (idx_get e)
        have := hB.H.out i r base (by omega) hρ
        exact ⟨this.1, fun h => this.2 (.inl h)⟩
    · obtain ⟨k, rfl⟩ : ∃ k, c = σ.h.length + k := ⟨c - σ.h.length, by omega⟩
      rw [r2new k] at hρ
      have := hB.H.out _ r base (by omega) hρ
      exact ⟨this.1, fun h => this.2 (.inl h)⟩
  · intro r hr; have := hF.H.A r hr; omega
  · -- slots
    intro t
    simp only [St.get, eraseM]
    rw [getM_map _ _ rfl]
    have hV := hF.m t
    exact RelV.ren av1 rd1 (butL mv) (fun b hb c hbc => sim1 b c (hV.refs_lt b hb) hbc) hV
  · refine hF.fr.trans ⟨hB.fr.os, hB.fr.tape, hB.fr.output, hsize, fun k hk hL => hB.fr.block k hk (fun h => hL ?_), hB.fr.room⟩
    obtain ⟨b, x, base, _, hx, hz, hρ⟩ := own_lent hlt h
    exact hF.srcO b x k base hx hz hρ
  · -- src
    intro c r base hc hρ
    simp only at hc
    by_cases hco : c < σ.h.length
    · cases e : idx c ids with
      | none => rw [r2old c e hco] at hρ; exact hF.src c r base hco hρ
      | some i =>
        rw [r2ids c i e] at hρ
        have hi := lt_of_get (idx_get e)
        rcases hB.src i r base (by rw [lent_length]; exact hi) hρ with ⟨base', h⟩ | h
        · simp only [rhoOf, idx_get e] at h
          exact hF.src c r base' hco h
        · exact .inr (by omega)
    · obtain ⟨k, rfl⟩ : ∃ k, c = σ.h.length + k := ⟨c - σ.h.length, by omega⟩
      rw [r2new k] at hρ
      have := hB.new _ r base (by rw [lent_length]; omega) (by omega) hρ
      exact .inr (by omega)
  · -- srcO
    intro c y r base hc hz hρ
    rcases places c y hc with ⟨i, x, z, e, hx, hz1, hz2, o, rfl, _⟩ | ⟨x, y0, e, hco, hx, hy0, hfz, rfl⟩ | ⟨k, z, rfl, hk, hz1, hz2, rfl⟩
    · rw [r2ids c i e] at hρ
      rw [remFrz, isFrz_renB] at hz
      have hi := lt_of_get (idx_get e)
      rcases hB.src i r base (by rw [lent_length]; exact hi) hρ with ⟨base', h⟩ | h
      · simp only [rhoOf, idx_get e] at h
        exact hF.srcO c x r base' hx (lentOwn e hx hz2 hz) h
      · exact .inr (by omega)
    · rw [r2old c e hco] at hρ
      rw [isFrz_renB] at hz
      exact hF.srcO c x r base hx (frz1 hfz hz) hρ
    · rw [r2new k] at hρ
      have := hB.new _ r base (by rw [lent_length]; omega) (by omega) hρ
      exact .inr (by omega)
  · -- keep
    intro c y hc hcn hm
    rcases places c y hc with ⟨i, x, z, e, hx, hz1, hz2, o, rfl, ho⟩ | ⟨x, y0, e, hco, hx, hy0, hfz, rfl⟩ | ⟨k, z, rfl, hk, hz1, hz2, rfl⟩
    · have hi := lt_of_get (idx_get e)
      have hmz : isMoved x = false ∧ isMoved z = false := by
        cases z with
        | row t l s =>
          obtain ⟨s', e3, _, h3, _⟩ := remote_row o t l s
          have e3' : remoteB o (renB back (.row t l s)) = .row t l s' := e3
          rw [e3'] at hm
          have := h3 hm
          exact ⟨by rw [← ho]; exact this.1, this.2⟩
        | box cs =>
          refine ⟨?_, rfl⟩
          cases hxm : isMoved x with
          | false => rfl
          | true =>
            obtain ⟨x', hx', hl⟩ := lent_get hlt (idx_get e)
            rw [hx] at hx'
            have hx' := Option.some.inj hx'
            subst hx'
            obtain ⟨z', q1, q2, q3⟩ := hB.shp i _ hl
            rw [hz2] at q1
            have q1 := Option.some.inj q1
            subst q1
            have := q3 rfl
            cases x with
            | row t l s => cases s <;> simp [unmoveB, renB, SameShape] at this
            | box _ => simp [isMoved] at hxm
      rw [r2ids c i e, hB.keep i z hz2 (by rw [lent_length]; exact hi) hmz.2]
      simp only [rhoOf, idx_get e]
      exact hF.keep c x hx hcn hmz.1
    · rw [r2old c e hco]
      rw [isMoved_renB] at hm
      refine hF.keep c x hx hcn ?_
      rcases hfz with rfl | ⟨_, _, _, _, _, _, _, e4, _⟩
      · exact hm
      · rw [← e4]; exact hm
    · have := hF.n; omega
  · have := hF.n; simp only [hl2]; omega
  · -- shp
    intro c x0 hx0 hcn
    obtain ⟨x, q1, q2, q3⟩ := hF.shp c x0 hx0 hcn
    have hco := lt_of_get q1
    obtain ⟨x', y0, hx, hy0, hfz, he⟩ := getOld c hco
    rw [q1] at hx
    have hx := Option.some.inj hx
    subst hx
    refine ⟨_, he, ?_⟩
    cases e : idx c ids with
    | none =>
      simp only [mergeAt, e]
      rw [isFrz_renB, isMoved_renB]
      rcases hfz with rfl | ⟨t, l, s, s', rfl, rfl, e3, e4, _⟩
      · exact ⟨q2, fun h => SameShape.renB _ (q3 h)⟩
      · refine ⟨fun _ => e3, fun h => SameShape.renB _ ?_⟩
        have := q3 (by rw [← e4]; exact h)
        cases x0 <;> simp_all [SameShape]
    | some i =>
      obtain ⟨z, hz1, hz2⟩ := getLent i c (idx_get e)
      obtain ⟨x', hx', hl⟩ := lent_get hlt (idx_get e)
      rw [q1] at hx'
      have hx' := Option.some.inj hx'
      subst hx'
      obtain ⟨z', p1, p2, p3⟩ := hB.shp i _ hl
      rw [hz2] at p1
      have p1 := Option.some.inj p1
      subst p1
      simp only [mergeAt, e, hz1]
      have hom : isMoved (renB (butL mv) y0) = isMoved x := by
        rw [isMoved_renB]
        rcases hfz with rfl | ⟨_, _, _, _, _, _, _, e4, _⟩
        · rfl
        · exact e4
      refine ⟨fun h => ?_, fun h => ?_⟩
      · rw [remFrz, isFrz_renB]
        exact p2 (by rw [(unmove_facts _).1, isFrz_renB]; exact q2 h)
      · cases z with
        | row t l s =>
          obtain ⟨s', e3, _, h3, _⟩ := remote_row (renB (butL mv) y0) t l s
          have e3' : remoteB (renB (butL mv) y0) (renB back (.row t l s)) = .row t l s' := e3
          rw [e3'] at h ⊢
          have h4 := h3 h
          have h5 := q3 (by rw [← hom]; exact h4.1)
          have h6 := p3 h4.2
          cases x with
          | row t2 l2 s2 =>
            cases x0 with
            | row t3 l3 s3 =>
              have h7 : t2 = t ∧ l2.length = l.length := by cases s2 <;> simpa [unmoveB, renB, SameShape] using h6
              simp only [SameShape] at h5 ⊢
              exact ⟨h5.1.trans h7.1, h5.2.trans h7.2⟩
            | box _ => simp [SameShape] at h5
          | box _ => simp [unmoveB, renB, SameShape] at h6
        | box cs =>
          have e3 : remoteB (renB (butL mv) y0) (renB back (.box cs)) = renB back (.box cs) := by unfold remoteB; cases isMoved (renB (butL mv) y0) <;> rfl
          rw [e3] at h ⊢
          have h6 := p3 rfl
          cases x with
          | row t2 l2 s2 => cases s2 <;> simp [unmoveB, renB, SameShape] at h6
          | box cs2 =>
            have h5 := q3 rfl
            cases x0 with
            | row _ _ _ => simp [SameShape] at h5
            | box _ => simp [renB, SameShape]
  · -- results
    intro x v hx hv
    have hsim : ∀ d ∈ refsW x, ∀ d', back d = some d' → Sim w' w' ρ' ρ2 (lent1 ++ news) h2 d d' := fun d hd d' e => sim2 d d' (hv.refs_lt d hd) e
    rcases hcase with ⟨hfl, _, _⟩ | ⟨hfz, hcan⟩
    · exact RelW.ren_flat back (List.all_eq_true.1 hfl x hx) hsim hv
    · exact RelW.ren (fun r _ h => av2 hfz hcan r h) rd2 back hsim hv

end Go.Proofs.Ytjoiadaogppmkaa.Sh
