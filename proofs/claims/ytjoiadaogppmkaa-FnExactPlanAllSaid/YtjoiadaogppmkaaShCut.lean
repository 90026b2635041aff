/- A cut: what lives on keeps its meaning. -/
import Derived.Test.YtjoiadaogppmkaaShRegion
namespace Go.Proofs.Ytjoiadaogppmkaa.Sh
open Go
set_option linter.unusedVariables false
set_option linter.unusedSimpArgs false

/-- the slots' entries, each for itself -/
def RelM (w : World) (av : Nat → Prop) (ρ : Rho) (h : Heap) (a : Act) (m : List (Nat × V)) : Prop := ∀ p ∈ m, RelV w av ρ h p.2 (a.tmps.getD p.1 undef)

theorem RelV.freezeAll {w : World} {A : Nat → Prop} {ρ : Rho} {h : Heap} (bs : List Nat) {c : V} {v : Value} (hc : RelV w (avs A ρ h) ρ h c v) : RelV w (avs A ρ (Sh.freezeAll h bs)) ρ (Sh.freezeAll h bs) c v :=
  RelV.mono (fun r _ h => h.imp id (own_freezeAll bs _)) (fun r o v _ h => h) (fun b _ => Sim.freezeAll bs h b) hc

theorem RelV.pushNone {w : World} {A : Nat → Prop} {ρ : Rho} {h : Heap} {t : Ty} {s : RS} {c : V} {v : Value} (hc : RelV w (avs A ρ h) ρ h c v) :
    RelV w (avs A (rhoPut ρ h.length none) (h ++ [.row t [] s])) (rhoPut ρ h.length none) (h ++ [.row t [] s]) c v := by
  refine RelV.mono (fun r _ h => ?_) (fun r o v _ h => h) (fun b hb => Sim.push (fun k hk => rfl) (hc.refs_lt b hb)) hc
  rcases h with h | h
  · exact .inl h
  · rcases own_push h with h | ⟨base, h, _⟩
    · exact .inr h
    · simp at h

theorem freezeW_sound {X : Ctx} {ρ : Rho} {σ : St} {a : Act} {w : World} (hF : RelF X ρ σ a w) {x x' : W} {h' : Heap} {v : Value} (hx : RelW w (avs X.A ρ σ.h) ρ σ.h x v) (he : freezeW σ.h x = (x', h')) :
    RelF X ρ ⟨σ.m, h'⟩ a w ∧ RelW w (avs X.A ρ h') ρ h' x' v ∧ ∃ bs, h' = Sh.freezeAll σ.h bs := by
  cases x with
  | one c =>
    simp only [freezeW] at he
    generalize e1 : absorbC σ.h c = p at he
    obtain ⟨c', g⟩ := p
    simp at he
    obtain ⟨rfl, rfl⟩ := he
    obtain ⟨h1, h2, bs, h3⟩ := absorbC_sound hF hx e1
    exact ⟨h1, h2, bs, h3⟩
  | agg cs =>
    simp only [freezeW] at he
    generalize e1 : absorb σ.h cs = p at he
    obtain ⟨c', g⟩ := p
    simp at he
    obtain ⟨rfl, rfl⟩ := he
    obtain ⟨arr, e, ha⟩ := hx
    obtain ⟨h1, h2, h3⟩ := absorb_sound hF ha e1
    exact ⟨h1, ⟨arr, e, h2⟩, h3⟩

theorem keepLive_sound {X : Ctx} {a : Act} {w : World} : ∀ (lv : Live) {σ : St} {ρ : Rho}, RelF X ρ σ a w → ∀ {m : List (Nat × V)} {h : Heap}, keepLive σ lv = (m, h) →
    ∃ ρ', RelF X ρ' ⟨σ.m, h⟩ a w ∧ RelM w (avs X.A ρ' h) ρ' h a m
  | [], σ, ρ, hF, m, h, he => by
    simp [keepLive] at he
    obtain ⟨rfl, rfl⟩ := he
    exact ⟨ρ, hF, fun p hp => by simp at hp⟩
  | (t, md, ty) :: r, σ, ρ, hF, m, h, he => by
    simp only [keepLive] at he
    generalize e1 : keepLive σ r = p1 at he
    obtain ⟨m1, h1⟩ := p1
    obtain ⟨ρ1, hF1, hM1⟩ := keepLive_sound r hF e1
    dsimp only at he
    have plain : ∀ {m : List (Nat × V)} {h : Heap}, ((t, σ.get t) :: m1, h1) = (m, h) → ∃ ρ', RelF X ρ' ⟨σ.m, h⟩ a w ∧ RelM w (avs X.A ρ' h) ρ' h a m := by
      intro m h e
      obtain ⟨rfl, rfl⟩ := Prod.mk.inj e
      refine ⟨ρ1, hF1, fun p hp => ?_⟩
      rcases List.mem_cons.1 hp with rfl | hp
      · exact hF1.m t
      · exact hM1 p hp
    split at he
    · exact plain he
    · split at he
      · rename_i x hx
        generalize e2 : freezeW h1 x = p2 at he
        obtain ⟨x', h2⟩ := p2
        obtain ⟨rfl, rfl⟩ := Prod.mk.inj he
        have hv := hF1.m t
        have hx' : St.get ⟨σ.m, h1⟩ t = .w x := hx
        rw [hx'] at hv
        obtain ⟨g1, g2, bs, rfl⟩ := freezeW_sound hF1 hv e2
        refine ⟨ρ1, g1, fun p hp => ?_⟩
        rcases List.mem_cons.1 hp with rfl | hp
        · exact g2
        · exact RelV.freezeAll bs (hM1 p hp)
      · obtain ⟨rfl, rfl⟩ := Prod.mk.inj he
        refine ⟨ρ1, hF1, fun p hp => ?_⟩
        rcases List.mem_cons.1 hp with rfl | hp
        · trivial
        · exact hM1 p hp
    · split at he
      · rename_i hx
        obtain ⟨rfl, rfl⟩ := Prod.mk.inj he
        refine ⟨_, hF1.pushNone ty .own (by simp) rfl, fun p hp => ?_⟩
        rcases List.mem_cons.1 hp with rfl | hp
        · have hv := hF1.m t
          have hx' : St.get ⟨σ.m, h1⟩ t = .w (.one .nil) := hx
          rw [hx'] at hv
          have hv' : a.tmps.getD t undef = .slice none 0 0 := hv
          simp only
          rw [hv']
          exact ⟨ty, [], .own, 0, 0, none, 0, by simp, rfl, Nat.le_refl _, rfl, Nat.le_refl _, .inl rfl⟩
        · exact RelV.pushNone (hM1 p hp)
      · exact plain he

theorem refsV_sub {x : V} {b : Nat} (h : b ∈ refsV x) : b ∈ refsV' x := by
  cases x with
  | any => simp [refsV] at h
  | w x => exact h
  | tup xs => simp [refsV] at h
  | ifc t x => exact h

theorem getM_mem : ∀ (m : List (Nat × V)) (t : Nat), getM m t = .any ∨ ∃ p ∈ m, p.1 = t ∧ getM m t = p.2
  | [], t => .inl rfl
  | (k, v) :: r, t => by
    simp only [getM]
    cases h : Nat.beq k t with
    | true => exact .inr ⟨(k, v), by simp, Nat.eq_of_beq_eq_true h, rfl⟩
    | false =>
      rcases getM_mem r t with h1 | ⟨p, h1, h2, h3⟩
      · exact .inl h1
      · exact .inr ⟨p, by simp [h1], h2, h3⟩

def packB (n : Nat) (h : Heap) (ids : List Nat) : Heap := ids.map fun b => match h[b]? with | some x => tidyB n b (renB (fun b => idx b ids) x) | none => .box []

theorem tidyB_old {n b : Nat} (h : b < n) (x : Blk) : tidyB n b x = x := by
  have : Nat.blt b n = true := Nat.ble_eq_true_of_le h
  simp [tidyB, this]
theorem isFrz_tidyB (n b : Nat) (x : Blk) : isFrz (tidyB n b x) = isFrz x := by
  unfold tidyB
  cases Nat.blt b n
  · exact (unmove_facts x).1
  · rfl
theorem tidyB_row (n b : Nat) (t : Ty) (l : List t.D) (s : RS) : ∃ s', tidyB n b (.row t l s) = .row t l s' ∧ (s' = .var → s = .var) := by
  unfold tidyB
  cases Nat.blt b n
  · cases s <;> exact ⟨_, rfl, by simp⟩
  · exact ⟨s, rfl, id⟩
theorem tidyB_box (n b : Nat) (cs : List Cell) : tidyB n b (.box cs) = .box cs := by
  unfold tidyB
  cases Nat.blt b n <;> rfl

theorem packB_get {n : Nat} {h : Heap} {ids : List Nat} (hlt : ∀ b ∈ ids, b < h.length) {i b : Nat} (hi : ids[i]? = some b) : ∃ x, h[b]? = some x ∧ (packB n h ids)[i]? = some (tidyB n b (renB (fun b => idx b ids) x)) := by
  have hb := hlt b (List.mem_of_getElem? hi)
  refine ⟨h[b], List.getElem?_eq_getElem hb, ?_⟩
  simp [packB, hi, List.getElem?_eq_getElem hb]
theorem packB_inv {n : Nat} {h : Heap} {ids : List Nat} (hlt : ∀ b ∈ ids, b < h.length) {i : Nat} {y : Blk} (hy : (packB n h ids)[i]? = some y) : ∃ b x, ids[i]? = some b ∧ h[b]? = some x ∧ y = tidyB n b (renB (fun b => idx b ids) x) := by
  have hil := lt_of_get hy
  simp only [packB, List.length_map] at hil
  have hb : ids[i]? = some ids[i] := List.getElem?_eq_getElem hil
  obtain ⟨x, hx, hl⟩ := packB_get (n := n) hlt hb
  rw [hl] at hy
  exact ⟨_, x, hb, hx, (Option.some.inj hy).symm⟩

theorem rhoOf_inv {ρ : Rho} {ids : List Nat} {i r base : Nat} (e : rhoOf ρ ids i = some (r, base)) : ∃ b, ids[i]? = some b ∧ ρ b = some (r, base) := by
  unfold rhoOf at e
  split at e
  · rename_i b hb; exact ⟨b, hb, e⟩
  · cases e

theorem Sim.pack {n : Nat} {w : World} {ρ : Rho} {h : Heap} {ids : List Nat} (hlt : ∀ b ∈ ids, b < h.length) {b b' : Nat} (hb : idx b ids = some b') : Sim w w ρ (rhoOf ρ ids) h (packB n h ids) b b' := by
  have hi := idx_get hb
  obtain ⟨x, hx, hl⟩ := packB_get (n := n) hlt hi
  refine ⟨fun t l s e => ?_, fun cs e => ?_, by simp [rhoOf, hi], fun r base cs e fz _ hw => ⟨cs, e, fz, hw, rfl⟩⟩
  · rw [hx] at e; cases e
    obtain ⟨s', e', _⟩ := tidyB_row n b t l s
    exact ⟨l, s', by rw [hl]; exact congrArg some e', rfl⟩
  · rw [hx] at e; cases e; exact ⟨_, by rw [hl]; exact congrArg some (tidyB_box n b _)⟩

theorem own_pack {n : Nat} {ρ : Rho} {h : Heap} {ids : List Nat} (hlt : ∀ b ∈ ids, b < h.length) {r : Nat} (ho : own (rhoOf ρ ids) (packB n h ids) r) : own ρ h r := by
  obtain ⟨i, y, base, hi, hz, hρ⟩ := ho
  obtain ⟨b, x, hb, hx, rfl⟩ := packB_inv hlt hi
  refine ⟨b, x, base, hx, by rwa [isFrz_tidyB, isFrz_renB] at hz, by simpa [rhoOf, hb] using hρ⟩

theorem RelH.pack {n : Nat} {A : Nat → Prop} {ρ : Rho} {h : Heap} {w : World} (hH : RelH A ρ h w) {ids : List Nat} (hn : ids.Nodup) (hlt : ∀ b ∈ ids, b < h.length) : RelH A (rhoOf ρ ids) (packB n h ids) w := by
  refine ⟨?_, ?_, ?_, hH.A⟩
  · intro i j r b1 b2 hi hj h1 h2
    obtain ⟨b, hb, e1⟩ := rhoOf_inv h1
    obtain ⟨c, hc, e2⟩ := rhoOf_inv h2
    have := hH.inj b c r b1 b2 (hlt b (List.mem_of_getElem? hb)) (hlt c (List.mem_of_getElem? hc)) e1 e2
    subst this
    exact nodup_get hn hb hc
  · intro i y hi
    obtain ⟨b, x, hb, hx, rfl⟩ := packB_inv hlt hi
    have h2 : RelB w (avs A (rhoOf ρ ids) (packB n h ids)) (rhoOf ρ ids) (packB n h ids) i (renB (fun b => idx b ids) x) :=
      RelB.ren (fun r _ h => h.imp id (own_pack hlt)) (fun r o v _ h => h) _ (by simp [rhoOf, hb]) (fun _ _ _ => rfl) (fun c _ c' e => Sim.pack hlt e) (hH.blk b x hx)
    cases x with
    | box cs =>
      have : tidyB n b (renB (fun b => idx b ids) (.box cs)) = renB (fun b => idx b ids) (.box cs) := tidyB_box n b _
      rw [this]; exact h2
    | row t l s =>
      obtain ⟨s', e', hv⟩ := tidyB_row n b t l s
      have : tidyB n b (renB (fun b => idx b ids) (.row t l s)) = .row t l s' := e'
      rw [this]; exact RelB.status hv h2
  · intro i r base hi e
    obtain ⟨b, hb, e1⟩ := rhoOf_inv e
    exact hH.out b r base (hlt b (List.mem_of_getElem? hb)) e1

theorem pack_sound {X : Ctx} {ρ : Rho} {m0 m : List (Nat × V)} {h : Heap} {a : Act} {w : World} {n : Nat} (hX : X.n = n) (hF : RelF X ρ ⟨m0, h⟩ a w) (hM : RelM w (avs X.A ρ h) ρ h a m) : ∃ ρ', RelF X ρ' (pack n m h) a w := by
  unfold pack
  dsimp only
  generalize hids : reach h fuelR (((List.range n).flatMap fun b => refsB h[b]?) ++ m.flatMap fun p => refsV p.2) (List.range n) = ids
  have hnle : n ≤ h.length := by rw [← hX]; exact hF.n
  have hbox : ∀ b, b < h.length → ∀ c ∈ refsB h[b]?, c < h.length := by
    intro b hb c hc
    rw [List.getElem?_eq_getElem hb] at hc
    exact (hF.H.blk b _ (List.getElem?_eq_getElem hb)).refs_lt c hc
  have hnd : ids.Nodup := by rw [← hids]; exact reach_nodup _ _ _ _ List.nodup_range
  have hlt : ∀ b ∈ ids, b < h.length := by
    rw [← hids]
    refine reach_lt hbox _ _ _ (fun b hb => ?_) (fun b hb => by rw [List.mem_range] at hb; omega)
    rcases List.mem_append.1 hb with hb | hb
    · obtain ⟨c, hc, hb⟩ := List.mem_flatMap.1 hb
      exact hbox c (by rw [List.mem_range] at hc; omega) b hb
    · obtain ⟨p, hp, hb⟩ := List.mem_flatMap.1 hb
      exact (hM p hp).refs_lt b (refsV_sub hb)
  have hpre : ∃ more, ids = List.range n ++ more := by rw [← hids]; exact reach_seen _ _ _ _
  have hfst : ∀ b, b < n → ids[b]? = some b := by
    intro b hb
    obtain ⟨more, e⟩ := hpre
    rw [e, List.getElem?_append_left (by simp; exact hb)]
    simp [hb]
  have hlen : (packB n h ids).length = ids.length := by simp [packB]
  have hnl : n ≤ ids.length := by
    obtain ⟨more, e⟩ := hpre
    rw [e]; simp
  have hav : ∀ r, r < w.heap.size → avs X.A (rhoOf ρ ids) (packB n h ids) r → avs X.A ρ h r := fun r _ h => h.imp id (own_pack hlt)
  refine ⟨rhoOf ρ ids, hF.H.pack hnd hlt, ?_, hF.fr, ?_, ?_, ?_, ?_, hF.sz, hF.df, ?_⟩
  · intro t
    simp only [St.get]
    rw [getM_map _ _ rfl]
    rcases getM_mem m t with e | ⟨p, hp, rfl, e⟩
    · rw [e]; trivial
    · rw [e]
      exact RelV.ren hav (fun r o v _ h => h) _ (fun b _ b' e => Sim.pack hlt e) (hM p hp)
  · intro i r base hi e
    obtain ⟨b, hb, e1⟩ := rhoOf_inv e
    have hbm := hlt b (List.mem_of_getElem? hb)
    rcases hF.src b r base hbm e1 with ⟨h1, h2⟩ | h1
    · rw [hX] at h1
      have := nodup_get hnd hb (hfst b h1)
      subst this
      exact .inl ⟨by rw [hX]; exact h1, h2⟩
    · exact .inr h1
  · intro i y r base hi hz e
    obtain ⟨b, x, hb, hx, rfl⟩ := packB_inv hlt hi
    obtain ⟨b', hb', e1⟩ := rhoOf_inv e
    rw [hb] at hb'
    have := Option.some.inj hb'
    subst this
    exact hF.srcO b x r base hx (by rwa [isFrz_tidyB, isFrz_renB] at hz) e1
  · intro i y hi hn hm
    obtain ⟨b, x, hb, hx, rfl⟩ := packB_inv hlt hi
    rw [hX] at hn
    rw [hfst i hn] at hb
    have := Option.some.inj hb
    subst this
    rw [tidyB_old hn] at hm
    have := hF.keep i x hx (by rw [hX]; exact hn) (by rwa [isMoved_renB] at hm)
    simp only [rhoOf, hfst i hn]
    exact this
  · show X.n ≤ (packB n h ids).length
    rw [hlen, hX]; exact hnl
  · intro b x hx hbn
    obtain ⟨x', h1, h2, h3⟩ := hF.shp b x hx hbn
    rw [hX] at hbn
    obtain ⟨x2, g1, g2⟩ := packB_get (n := n) hlt (hfst b hbn)
    rw [tidyB_old hbn] at g2
    rw [h1] at g1
    have := Option.some.inj g1
    subst this
    exact ⟨_, g2, fun hz => by rw [isFrz_renB]; exact h2 hz, fun hm => SameShape.renB _ (h3 (by rwa [isMoved_renB] at hm))⟩

theorem cutAt_sound {X : Ctx} {ρ : Rho} {σ : St} {a : Act} {w : World} {n : Nat} (hX : X.n = n) (hF : RelF X ρ σ a w) (lv : Live) : ∃ ρ', RelF X ρ' (cutAt n lv σ) a w := by
  unfold cutAt
  generalize e : keepLive σ lv = p
  obtain ⟨m, h⟩ := p
  obtain ⟨ρ', h1, h2⟩ := keepLive_sound lv hF e
  exact pack_sound hX h1 h2

end Go.Proofs.Ytjoiadaogppmkaa.Sh
