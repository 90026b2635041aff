/- Stores, and slices that become data. -/
import Derived.Test.YtjoiadaogppmkaaShTab
namespace Go.Proofs.Ytjoiadaogppmkaa.Sh
open Go
set_option linter.unusedVariables false
set_option linter.unusedSimpArgs false

theorem oneCell_of {v : Value} (h : one_ v) : v.oneCell' = true := by
  cases v <;> simp_all [one_, Value.oneCell']

theorem RelW.cells {w : World} {av : Nat → Prop} {ρ : Rho} {h : Heap} {x : W} {v : Value} (hx : RelW w av ρ h x v) : All2 (RelC w av ρ h) x.cells v.cells.toList ∧ ∀ u ∈ v.cells.toList, one_ u := by
  have key : All2 (RelC w av ρ h) x.cells v.cells.toList := by
    cases x with
    | one c =>
      have h1 := RelC.one hx
      have : v.cells = #[v] := by cases v <;> first | rfl | (exact absurd rfl (h1.1 _))
      rw [this]
      exact .cons hx .nil
    | agg cs =>
      obtain ⟨arr, e, ha⟩ := hx
      subst e
      exact ha
  refine ⟨key, ?_⟩
  generalize v.cells.toList = vs at key
  generalize x.cells = cs at key
  induction key with
  | nil => intro u hu; simp at hu
  | cons h1 _ ih =>
    intro u hu
    rcases List.mem_cons.1 hu with rfl | hu
    · exact RelC.one h1
    · exact ih u hu

theorem parse_sound {w : World} {av : Nat → Prop} {ρ : Rho} {h : Heap} : ∀ (t : Ty) (cs : List Cell) (x : t.D) (r : List Cell) (vs : List Value), parse t cs = some (x, r) → All2 (RelC w av ρ h) cs vs →
    ∃ v1 v2, vs = v1 ++ v2 ∧ RD w av t x v1 ∧ All2 (RelC w av ρ h) r v2
  | .pair a b, cs, x, r, vs, hp, ha => by
    simp only [parse] at hp
    split at hp
    · rename_i y r1 e1
      split at hp
      · rename_i z r2 e2
        simp at hp
        obtain ⟨rfl, rfl⟩ := hp
        obtain ⟨v1, v2, rfl, h1, h2⟩ := parse_sound a cs y r1 vs e1 ha
        obtain ⟨v3, v4, rfl, h3, h4⟩ := parse_sound b r1 z r2 v2 e2 h2
        exact ⟨v1 ++ v3, v4, by simp, ⟨v1, v3, rfl, h1, h3⟩, h4⟩
      · cases hp
    · cases hp
  | .int k, cs, x, r, vs, hp, ha => by
    match cs, hp, ha with
    | [], hp, _ => simp [parse] at hp
    | c :: cs, hp, .cons h1 h2 =>
      cases c <;> simp [parse] at hp
      obtain ⟨rfl, rfl, rfl⟩ := hp
      exact ⟨[_], _, rfl, by simp only [RelC] at h1; subst h1; rfl, h2⟩
  | .bool, cs, x, r, vs, hp, ha => by
    match cs, hp, ha with
    | [], hp, _ => simp [parse] at hp
    | c :: cs, hp, .cons h1 h2 =>
      cases c <;> simp [parse] at hp
      obtain ⟨rfl, rfl⟩ := hp
      exact ⟨[_], _, rfl, by simp only [RelC] at h1; subst h1; rfl, h2⟩
  | .sl a, cs, x, r, vs, hp, ha => by
    match cs, hp, ha with
    | [], hp, _ => simp [parse] at hp
    | c :: cs, hp, .cons h1 h2 =>
      cases c <;> simp only [parse] at hp <;> try cases hp
      case nil =>
        refine ⟨[_], _, rfl, ?_, h2⟩
        simp only [RelC] at h1
        subst h1
        exact ⟨none, 0, rfl, by simp, fun i x hi => by simp at hi⟩
      case ro t l =>
        split at hp
        · rename_i e
          subst e
          simp at hp
          obtain ⟨rfl, rfl⟩ := hp
          exact ⟨[_], _, rfl, h1, h2⟩
        · cases hp

theorem parseW_sound {w : World} {av : Nat → Prop} {ρ : Rho} {h : Heap} {t : Ty} {cs : List Cell} {x : t.D} {vs : List Value} (hp : parseW t cs = some x) (ha : All2 (RelC w av ρ h) cs vs) : RD w av t x vs := by
  unfold parseW at hp
  split at hp
  · rename_i y e
    simp at hp; subst hp
    obtain ⟨v1, v2, rfl, h1, h2⟩ := parse_sound t cs y [] vs e ha
    cases h2
    simpa using h1
  · cases hp

theorem parseMany_sound {w : World} {av : Nat → Prop} {ρ : Rho} {h : Heap} {t : Ty} (ht : t.isPair = false) : ∀ (cs : List Cell) (xs : List t.D) (vs : List Value), parseMany t cs = some xs → All2 (RelC w av ρ h) cs vs →
    xs.length = vs.length ∧ ∀ (i : Nat) (x : t.D), xs[i]? = some x → ∃ v, vs[i]? = some v ∧ RD w av t x [v]
  | [], xs, vs, hp, ha => by
    simp [parseMany] at hp; subst hp; cases ha
    exact ⟨rfl, fun i x h => by simp at h⟩
  | c :: cs, xs, vs, hp, ha => by
    simp only [parseMany] at hp
    split at hp
    · rename_i x ys e1 e2
      simp at hp; subst hp
      cases ha with
      | cons h1 h2 =>
        obtain ⟨h3, h4⟩ := parseMany_sound ht cs ys _ e2 h2
        refine ⟨by simp [h3], fun i y hi => ?_⟩
        cases i with
        | zero => simp at hi; subst hi; exact ⟨_, rfl, parseW_sound e1 (.cons h1 .nil)⟩
        | succ i => exact h4 i y (by simpa using hi)
    · cases hp

theorem setMany_length {α : Type} : ∀ (xs : List α) (l : List α) (i : Nat), (setMany l i xs).length = l.length
  | [], l, i => rfl
  | x :: xs, l, i => by simp [setMany, setMany_length xs]
theorem setMany_get {α : Type} : ∀ (xs : List α) (l : List α) (i q : Nat), i + xs.length ≤ l.length → (setMany l i xs)[q]? = if i ≤ q ∧ q < i + xs.length then xs[q - i]? else l[q]?
  | [], l, i, q, _ => by simp only [setMany, List.length_nil, Nat.add_zero]; rw [if_neg (by omega)]
  | x :: xs, l, i, q, h => by
    simp only [List.length_cons] at h ⊢
    rw [setMany, setMany_get xs (l.set i x) (i + 1) q (by simp; omega)]
    by_cases h1 : i + 1 ≤ q ∧ q < i + 1 + xs.length
    · rw [if_pos h1, if_pos (by omega)]
      rw [show q - i = (q - (i + 1)) + 1 by omega]
      simp
    · rw [if_neg h1]
      by_cases h2 : q = i
      · subst h2
        rw [if_pos (by omega), List.getElem?_set_self (by omega)]
        simp
      · rw [if_neg (by omega), List.getElem?_set_ne (by omega)]

/-! ## The world behind a store -/
theorem setRow_wrote (w : World) (r : Nat) (cs cs' : Array Value) (e : TypeId) (hw : w.heap[r]? = some (.cells cs e (0, 0))) : Wrote w (w.setRow r cs') r cs' e := by
  refine ⟨rfl, rfl, rfl, by simp [World.setRow], ?_, fun k hk => ?_⟩
  · simp [World.setRow, Array.getElem?_modify, hw]
  · simp only [World.setRow, Array.getElem?_modify]
    rw [if_neg (by omega)]

def putAt (cs : Array Value) (p : Nat) (new : List Value) : Array Value := (cs.toList.take p ++ new ++ cs.toList.drop (p + new.length)).toArray
theorem putAt_size (cs : Array Value) (p : Nat) (new : List Value) (h : p + new.length ≤ cs.size) : (putAt cs p new).size = cs.size := by
  simp [putAt]; omega
theorem putAt_get (cs : Array Value) (p : Nat) (new : List Value) (h : p + new.length ≤ cs.size) (q : Nat) : (putAt cs p new)[q]? = if p ≤ q ∧ q < p + new.length then new[q - p]? else cs[q]? := by
  simp only [putAt, List.getElem?_toArray]
  by_cases h1 : q < p
  · rw [if_neg (by omega), List.append_assoc, List.getElem?_append_left (by simp; omega), List.getElem?_take, if_pos h1, Array.getElem?_toList]
  · by_cases h2 : q < p + new.length
    · rw [if_pos (by omega), List.getElem?_append_left (by simp; omega), List.getElem?_append_right (by simp; omega)]
      congr 1
      simp; omega
    · rw [if_neg (by omega), List.getElem?_append_right (by simp; omega), List.getElem?_drop, Array.getElem?_toList]
      congr 1
      simp; omega

theorem run_storeVar {P : Program} {tid : Nat} {i : TypeInfo} (hi : P.info? tid = some i) {w : World} {r o : Nat} {v : Value} {cs : Array Value} {e : TypeId} (hs : v.cells.size = i.size) (hw : w.heap[r]? = some (.cells cs e (0, 0)))
    (ho : o + v.cells.toList.length ≤ cs.size) (h1 : ∀ u ∈ v.cells.toList, one_ u) :
    ∃ w', (storeVar tid ⟨r, o, none⟩ v).run P w = .ok () w' ∧ Wrote w w' r (putAt cs o v.cells.toList) e := by
  have hst := run_storeCells_at (P := P) r o e v.cells.toList 0 cs w hw (by simpa using ho) (fun u hu => oneCell_of (h1 u hu))
  refine ⟨_, ?_, setRow_wrote w r cs _ e hw⟩
  simp only [storeVar, Sem.run_bind, run_sizeOf hi, Result.andThen_ok, Sem.run_ite, hs, ne_eq, not_true_eq_false, if_false]
  simp only [Nat.add_zero] at hst
  exact hst

/-! ## Slices of one's own become data -/
theorem canFreeze_row {h : Heap} {b : Nat} (hc : canFreeze h b = true) : ∃ t l s, h[b]? = some (.row t l s) ∧ s ≠ .var := by
  unfold canFreeze at hc
  split at hc
  · cases hc
  · rename_i t l s hne e
    exact ⟨t, l, s, e, hne⟩
  · cases hc

theorem freeze1_frz {h : Heap} {b : Nat} {t : Ty} {l : List t.D} {s : RS} (hb : h[b]? = some (.row t l s)) (hs : s ≠ .var) : ∃ s', (freeze1 h b)[b]? = some (.row t l s') ∧ isFrz (.row t l s') = true := by
  unfold freeze1
  rw [hb]
  cases s with
  | var => exact absurd rfl hs
  | own => exact ⟨.frz, by simp [get_set, lt_of_get hb], rfl⟩
  | moved => exact ⟨.frzM, by simp [get_set, lt_of_get hb], rfl⟩
  | frz => exact ⟨.frz, hb, rfl⟩
  | frzM => exact ⟨.frzM, hb, rfl⟩

theorem win_get {α : Type} (wn : Option (Nat × Nat)) (l : List α) (o n : Nat) (hw : (o, n) = wn.getD (0, l.length)) (hle : o + n ≤ l.length) : (win wn l).length = n ∧ ∀ i x, (win wn l)[i]? = some x → i < n ∧ l[o + i]? = some x := by
  cases wn with
  | none =>
    simp at hw
    obtain ⟨rfl, rfl⟩ := hw
    exact ⟨rfl, fun i x hi => ⟨lt_of_get hi, by simpa [win] using hi⟩⟩
  | some p =>
    obtain ⟨o', n'⟩ := p
    simp at hw
    obtain ⟨rfl, rfl⟩ := hw
    refine ⟨by simp [win]; omega, fun i x hi => ?_⟩
    simp only [win, List.getElem?_take] at hi
    split at hi
    · rw [List.getElem?_drop] at hi
      exact ⟨by assumption, hi⟩
    · cases hi

/-- The data that a slice of one's own shows, as they lie in memory. -/
theorem sl_data {w : World} {av : Nat → Prop} {ρ : Rho} {h : Heap} {b : Nat} {wn : Option (Nat × Nat)} {v : Value} (hs : SlOk w ρ h b wn v) {t : Ty} {l : List t.D} {s : RS} (hb : h[b]? = some (.row t l s)) (hB : RelB w av ρ h b (.row t l s))
    {av' : Nat → Prop} (hr : ∀ r base, ρ b = some (r, base) → ¬ av' r) (hav : ∀ r, av' r → av r) : RD w av' (.sl t) (win wn l) [v] := by
  obtain ⟨t', l', s', o, n, ad, c, hb', hw, ho, hv, hn, hc⟩ := hs
  rw [hb] at hb'
  cases hb'
  obtain ⟨h1, h2⟩ := win_get wn l o n hw ho
  refine ⟨ad, c, by rw [h1, hv], by rw [h1]; exact hn, fun i x hi => ?_⟩
  obtain ⟨hin, hl⟩ := h2 i x hi
  rcases hc with hc | ⟨r, base, cs, e, fz, h3, h4, h5, h6⟩
  · omega
  · obtain ⟨vs, hx, hj⟩ := row_read hB h3 hl
    refine ⟨r, _, vs, h4, hr r base h3, RD.mono (fun r _ => hav r) (fun r o v _ h => h) _ _ _ hx, fun j u hju => ?_⟩
    have := hj j u hju
    rw [Nat.add_mul, ← Nat.add_assoc] at this
    exact this

theorem absorbC_sound {X : Ctx} {ρ : Rho} {σ : St} {a : Act} {w : World} (hF : RelF X ρ σ a w) {c c' : Cell} {h' : Heap} {v : Value} (hc : RelC w (avs X.A ρ σ.h) ρ σ.h c v) (he : absorbC σ.h c = (c', h')) :
    RelF X ρ ⟨σ.m, h'⟩ a w ∧ RelC w (avs X.A ρ h') ρ h' c' v ∧ (∃ bs : List Nat, h' = freezeAll σ.h bs) := by
  cases c with
  | sl b wn =>
    simp only [absorbC] at he
    split at he
    · rename_i hcf
      obtain ⟨t, l, s, hb, hs⟩ := canFreeze_row hcf
      rw [hb] at he
      simp at he
      obtain ⟨rfl, rfl⟩ := he
      have hF' := hF.freeze1 b
      refine ⟨hF', ?_, [b], rfl⟩
      obtain ⟨s', hb', hz⟩ := freeze1_frz hb hs
      refine sl_data hc hb (hF.H.blk b _ hb) (fun r base e h => ?_) (fun r h => h.imp id own_freeze1)
      rcases h with h | ⟨c2, y, base2, h2, h3, h4⟩
      · exact (hF.H.out b r base (lt_of_get hb) e).2 h
      · have hlt : c2 < σ.h.length := by have := lt_of_get h2; rwa [freeze1_length] at this
        have := hF.H.inj b c2 r base base2 (lt_of_get hb) hlt e h4
        subst this
        rw [hb'] at h2
        cases h2
        rw [hz] at h3
        cases h3
    · simp at he
      obtain ⟨rfl, rfl⟩ := he
      exact ⟨hF, RelC.one hc, [], rfl⟩
  | _ =>
    simp only [absorbC, Prod.mk.injEq] at he
    obtain ⟨rfl, rfl⟩ := he
    exact ⟨hF, hc, [], rfl⟩

theorem freezeAll_append (h : Heap) (as bs : List Nat) : freezeAll h (as ++ bs) = freezeAll (freezeAll h as) bs := by
  induction as generalizing h with
  | nil => simp [freezeAll]
  | cons a as ih => simp [freezeAll, ih]

theorem Sim.freezeAll {w : World} {ρ : Rho} : ∀ (bs : List Nat) (h : Heap) (c : Nat), Sim w w ρ ρ h (freezeAll h bs) c c
  | [], h, c => by simpa [Sh.freezeAll] using Sim.refl w ρ h c
  | b :: bs, h, c => by
    have h1 := Sim.freeze1 (w := w) (ρ := ρ) (h := h) b c
    have h2 := Sim.freezeAll (w := w) (ρ := ρ) bs (Sh.freeze1 h b) c
    refine ⟨fun t l s e => ?_, fun cs e => ?_, rfl, fun r base cs e fz _ hw => ⟨cs, e, fz, hw, rfl⟩⟩
    · obtain ⟨l1, s1, e1, e2⟩ := h1.row t l s e
      obtain ⟨l2, s2, e3, e4⟩ := h2.row t l1 s1 e1
      exact ⟨l2, s2, e3, by rw [e4, e2]⟩
    · obtain ⟨c1, e1⟩ := h1.box cs e
      exact h2.box c1 e1
theorem own_freezeAll {ρ : Rho} {r : Nat} : ∀ (bs : List Nat) (h : Heap), own ρ (freezeAll h bs) r → own ρ h r
  | [], h, ho => by simpa [Sh.freezeAll] using ho
  | b :: bs, h, ho => own_freeze1 (own_freezeAll bs (Sh.freeze1 h b) ho)
theorem RelF.freezeAll {X : Ctx} {ρ : Rho} {a : Act} {w : World} : ∀ (bs : List Nat) {σ : St}, RelF X ρ σ a w → RelF X ρ ⟨σ.m, Sh.freezeAll σ.h bs⟩ a w
  | [], σ, hF => by simpa [Sh.freezeAll] using hF
  | b :: bs, σ, hF => RelF.freezeAll bs (σ := ⟨σ.m, Sh.freeze1 σ.h b⟩) (hF.freeze1 b)
theorem RelC.freezeAll {w : World} {A : Nat → Prop} {ρ : Rho} {h : Heap} (bs : List Nat) {c : Cell} {v : Value} (hc : RelC w (avs A ρ h) ρ h c v) : RelC w (avs A ρ (Sh.freezeAll h bs)) ρ (Sh.freezeAll h bs) c v :=
  RelC.mono (fun r _ h => h.imp id (own_freezeAll bs _)) (fun r o v _ h => h) (fun b _ => Sim.freezeAll bs h b) hc
theorem RelW.freezeAll {w : World} {A : Nat → Prop} {ρ : Rho} {h : Heap} (bs : List Nat) {c : W} {v : Value} (hc : RelW w (avs A ρ h) ρ h c v) : RelW w (avs A ρ (Sh.freezeAll h bs)) ρ (Sh.freezeAll h bs) c v :=
  RelW.mono (fun r _ h => h.imp id (own_freezeAll bs _)) (fun r o v _ h => h) (fun b _ => Sim.freezeAll bs h b) hc

theorem absorb_sound {X : Ctx} {ρ : Rho} {a : Act} {w : World} : ∀ {cs cs' : List Cell} {σ : St} {h' : Heap} {vs : List Value}, RelF X ρ σ a w → All2 (RelC w (avs X.A ρ σ.h) ρ σ.h) cs vs → absorb σ.h cs = (cs', h') →
    RelF X ρ ⟨σ.m, h'⟩ a w ∧ All2 (RelC w (avs X.A ρ h') ρ h') cs' vs ∧ (∃ bs : List Nat, h' = freezeAll σ.h bs)
  | [], cs', σ, h', vs, hF, ha, he => by
    simp [absorb] at he
    obtain ⟨rfl, rfl⟩ := he
    cases ha
    exact ⟨hF, .nil, [], rfl⟩
  | c :: cs, cs', σ, h', vs, hF, ha, he => by
    obtain ⟨v, vs, rfl, h1, h2⟩ : ∃ v vs', vs = v :: vs' ∧ RelC w (avs X.A ρ σ.h) ρ σ.h c v ∧ All2 (RelC w (avs X.A ρ σ.h) ρ σ.h) cs vs' := by
      cases ha with
      | cons h1 h2 => exact ⟨_, _, rfl, h1, h2⟩
    unfold absorb at he
    generalize e1 : absorbC σ.h c = p1 at he
    obtain ⟨c1, g1⟩ := p1
    simp only at he
    generalize e2 : absorb g1 cs = p2 at he
    obtain ⟨cs1, g2⟩ := p2
    simp at he
    obtain ⟨rfl, rfl⟩ := he
    obtain ⟨hF1, hc1, bs1, rfl⟩ := absorbC_sound hF h1 e1
    obtain ⟨hF2, ha2, bs2, rfl⟩ := absorb_sound hF1 (h2.mono fun c v _ hc => RelC.freezeAll bs1 hc) e2
    exact ⟨hF2, .cons (RelC.freezeAll bs2 hc1) ha2, bs1 ++ bs2, (freezeAll_append _ _ _).symm⟩

/-! ## Store -/
theorem block_row {w : World} {av : Nat → Prop} {ρ : Rho} {h : Heap} {b r base : Nat} {t : Ty} {l : List t.D} {s : RS} (hB : RelB w av ρ h b (.row t l s)) (hρ : ρ b = some (r, base)) :
    ∃ cs e, w.heap[r]? = some (.cells cs e (0, 0)) ∧ (∀ i x, l[i]? = some x → ∃ vs, RD w av t x vs ∧ ∀ j u, vs[j]? = some u → cs[base + i * t.size + j]? = some u) ∧ (∀ i, i < l.length → base + i * t.size + t.size ≤ cs.size) := by
  obtain ⟨h1, _, _⟩ := hB
  obtain ⟨cs, e, hw, hc⟩ := h1 r base hρ
  refine ⟨cs, e, hw, hc, fun i hi => ?_⟩
  obtain ⟨vs, hx, hj⟩ := hc i _ (getD_some t.zero hi)
  have hl := hx.size
  have hp := t.size_pos
  have := hj (t.size - 1) _ (getD_some undef (by omega))
  rcases Nat.lt_or_ge (base + i * t.size + (t.size - 1)) cs.size with h' | h'
  · omega
  · simp [Array.getElem?_eq_none h'] at this

theorem apart {a b n : Nat} (h : a ≠ b) : a * n + n ≤ b * n ∨ b * n + n ≤ a * n := by
  rcases Nat.lt_or_ge a b with h' | h'
  · exact .inl (by have := Nat.mul_le_mul_right n h'; rwa [Nat.succ_mul] at this)
  · exact .inr (by have := Nat.mul_le_mul_right n (show b + 1 ≤ a by omega); rwa [Nat.succ_mul] at this)

/-- The store of one element, whole or in part, in a row. -/
theorem store_elem {X : Ctx} {ρ : Rho} {σ : St} {a : Act} {w : World} (hF : RelF X ρ σ a w) {P : Program} {tid : Nat} {i0 : TypeInfo} (hi0 : P.info? tid = some i0) {b r base : Nat} {t : Ty} {l : List t.D} {s : RS} (hb : σ.h[b]? = some (.row t l s)) (hz : isFrz (.row t l s) = false) (hρ : ρ b = some (r, base))
    {i o : Nat} (hi : i < l.length) {x : t.D} {v : Value} (hv : v.cells.size = i0.size) (h1 : ∀ u ∈ v.cells.toList, one_ u) (ho : o + v.cells.toList.length ≤ t.size)
    (hx : ∀ olds, RD w (avs X.A ρ σ.h) t (l.getD i t.zero) olds → ∃ vs, RD w (avs X.A ρ σ.h) t x vs ∧ ∀ j u, vs[j]? = some u → (if o ≤ j ∧ j < o + v.cells.toList.length then v.cells.toList[j - o]? else olds[j]?) = some u) :
    ∃ w', (storeVar tid ⟨r, base + (i * t.size + o), none⟩ v).run P w = .ok () w' ∧ RelF X ρ ⟨σ.m, σ.h.set b (.row t (l.set i x) s)⟩ a w' := by
  have hB := hF.H.blk b _ hb
  obtain ⟨cs, e, hw, hc, hsz⟩ := block_row hB hρ
  have hle := hsz i hi
  obtain ⟨w', hrun, hW⟩ := run_storeVar (P := P) hi0 (r := r) (o := base + (i * t.size + o)) hv hw (by omega) h1
  have hps := putAt_size cs (base + (i * t.size + o)) v.cells.toList (by omega)
  refine ⟨w', hrun, hF.upd hb hz hρ hw hW hps (fun h => by simp [isBox] at h) (.inl ⟨t, l, l.set i x, s, rfl, rfl, by simp, fun q y hq => ?_⟩)⟩
  rw [get_set] at hq
  split at hq
  · rename_i eq
    subst eq
    (try rw [if_pos hi] at hq)
    simp at hq; subst hq
    obtain ⟨olds, hold, hj⟩ := hc q _ (getD_some t.zero hi)
    obtain ⟨vs, h2, h3⟩ := hx olds hold
    refine ⟨vs, h2, fun j u hju => ?_⟩
    have h4 := h3 j u hju
    rw [putAt_get _ _ _ (by omega)]
    by_cases hin : o ≤ j ∧ j < o + v.cells.toList.length
    · rw [if_pos hin] at h4
      rw [if_pos (by omega), ← h4]
      congr 1
      omega
    · rw [if_neg hin] at h4
      rw [if_neg (by omega)]
      exact hj j u h4
  · rename_i hne
    obtain ⟨vs, h2, h3⟩ := hc q y hq
    refine ⟨vs, h2, fun j u hju => ?_⟩
    have hjl : j < t.size := by rw [← h2.size]; exact lt_of_get hju
    rw [putAt_get _ _ _ (by omega), if_neg]
    · exact h3 j u hju
    · intro h
      rcases apart (n := t.size) hne with h5 | h5 <;> omega

theorem splice_all2 {R : Cell → Value → Prop} {cs xs : List Cell} {olds news : List Value} (h : All2 R cs olds) (k : All2 R xs news) (o : Nat) : All2 R (splice cs o xs) (olds.take o ++ news ++ olds.drop (o + news.length)) := by
  have hl := k.length
  unfold splice
  rw [← hl]
  exact ((h.take o).append k).append (h.drop _)

theorem splice_get (olds news : List Value) (o j : Nat) (h : o + news.length ≤ olds.length) : (olds.take o ++ news ++ olds.drop (o + news.length))[j]? = if o ≤ j ∧ j < o + news.length then news[j - o]? else olds[j]? := by
  have := putAt_get olds.toArray o news (by simpa using h) j
  simpa [putAt] using this

theorem storeK_sound {P : Program} {T : Nat → Option TI} (hT : TOk P T) {X : Ctx} {ρ : Rho} {σ : St} {a : Act} {w : World} (hF : RelF X ρ σ a w) {tid : Nat} {c : Cell} {x : W} {K : St → Prop} (hK : storeK T σ tid c x K)
    {u v : Value} (hc : RelC w (avs X.A ρ σ.h) ρ σ.h c u) (hx : RelW w (avs X.A ρ σ.h) ρ σ.h x v) :
    ∃ σ' w', K σ' ∧ (Instr.storeAt tid u v).run P w = .ok () w' ∧ RelF X ρ σ' a w' := by
  unfold storeK at hK
  split at hK
  · exact hK.elim
  · rename_i ti hti
    obtain ⟨i0, z, hi0, _, hsz, _⟩ := (hT _ _ hti).info
    obtain ⟨hlen, hK1⟩ := Ck_iff hK
    have hlen := beq_iff hlen
    obtain ⟨hcells, hone⟩ := hx.cells
    have hvl : v.cells.toList.length = ti.size := by rw [← hcells.length, hlen]
    have hv : v.cells.size = i0.size := by rw [hsz, ← hvl]; simp
    split at hK1
    · rename_i b i o
      obtain ⟨blk, r, base, hb, hρ, e⟩ := hc
      subst e
      rw [hb] at hK1
      cases blk with
      | box cs =>
        simp only at hK1
        obtain ⟨h1, hK2⟩ := Ck_iff hK1
        obtain ⟨h2, hK3⟩ := Ck_iff hK2
        have hi := beq_iff h1
        have hle := ble_iff h2
        obtain ⟨r', c', e', h3, h4, h5⟩ := hF.H.blk b _ hb
        rw [hρ] at h3
        simp at h3
        obtain ⟨rfl, rfl⟩ := h3
        have hl := h5.length
        obtain ⟨w', hrun, hW⟩ := run_storeVar (P := P) hi0 (r := r) (o := o) hv h4 (by simp at hl; omega) hone
        have hps := putAt_size c' o v.cells.toList (by simp at hl; omega)
        refine ⟨_, w', hK3, ?_, hF.upd hb rfl hρ h4 hW hps (fun _ => rfl) (.inr ⟨cs, splice cs o x.cells, rfl, rfl, ?_⟩)⟩
        · simpa [Instr.storeAt, Instr.sureAddr, blkStride] using hrun
        · have := splice_all2 h5 hcells o
          simpa [putAt] using this
      | row t0 l0 s0 =>
        simp only at hK1
        have hs0 : isFrz (.row t0 l0 s0) = false := by
          split at hK1
          · exact hK1.elim
          · exact hK1.elim
          · rename_i h1 h2
            cases s0 <;> first | rfl | (exact absurd rfl h1) | (exact absurd rfl h2)
        split at hK1
        · exact hK1.elim
        · exact hK1.elim
        · generalize eab : absorb σ.h x.cells = pab at hK1
          obtain ⟨cs, h'⟩ := pab
          simp only at hK1
          obtain ⟨hF', hcs, bs, rfl⟩ := absorb_sound hF hcells eab
          split at hK1
          · rename_i t l s' hb'
            obtain ⟨hs', hK2⟩ := Ck_iff hK1
            have hs' := of_decide_eq_true hs'
            subst hs'
            have hz : isFrz (.row t l s') = false := by cases s' <;> simp_all [isFrz]
            have hst : t.size = t0.size := by
              obtain ⟨l2, s2, e2, _⟩ := (Sim.freezeAll (w := w) (ρ := ρ) bs σ.h b).row t0 l0 s' hb
              rw [hb'] at e2
              cases e2
              rfl
            split at hK2
            · rename_i hp
              split at hK2
              · rename_i xs hpm
                obtain ⟨h1, hK3⟩ := Ck_iff hK2
                obtain ⟨h2, hK4⟩ := Ck_iff hK3
                have ho := beq_iff h1
                have hle := ble_iff h2
                obtain ⟨hxl, hxs⟩ := parseMany_sound hp cs xs _ hpm hcs
                have hB := hF'.H.blk b _ hb'
                obtain ⟨ar, e, hw, hcont, hsize⟩ := block_row hB hρ
                have hs1 := size_one hp
                have hbound : base + i + v.cells.toList.length ≤ ar.size := by
                  rw [hvl]
                  have h3 := (hT _ _ hti).pos
                  have := hsize (i + ti.size - 1) (by omega)
                  rw [hs1] at this
                  omega
                obtain ⟨w', hrun, hW⟩ := run_storeVar (P := P) hi0 (r := r) (o := base + i) hv hw hbound hone
                have hps := putAt_size ar (base + i) v.cells.toList hbound
                refine ⟨_, w', hK4, ?_, hF'.upd hb' hz hρ hw hW hps (fun h => by simp [isBox] at h) (.inl ⟨t, l, setMany l i xs, s', rfl, rfl, setMany_length _ _ _, fun q y hq => ?_⟩)⟩
                · have e0 : t0.size = 1 := by rw [← hst, hs1]
                  simpa [Instr.storeAt, Instr.sureAddr, blkStride, ho, e0] using hrun
                · rw [setMany_get _ _ _ _ (by rw [hxl, hvl]; exact hle)] at hq
                  split at hq
                  · rename_i hin
                    obtain ⟨u, hu, hrd⟩ := hxs _ y hq
                    refine ⟨[u], hrd, fun j u' hj => ?_⟩
                    cases j with
                    | succ j => simp at hj
                    | zero =>
                      simp at hj; subst hj
                      rw [putAt_get _ _ _ hbound, hs1, if_pos (by omega), ← hu]
                      congr 1
                      omega
                  · rename_i hout
                    obtain ⟨vs, h3, h4⟩ := hcont q y hq
                    have hl3 := h3.size
                    refine ⟨vs, h3, fun j u' hj => ?_⟩
                    have hj0 := lt_of_get hj
                    rw [putAt_get _ _ _ hbound, if_neg]
                    · exact h4 j u' hj
                    · rw [hs1] at hl3 ⊢
                      omega
              · exact hK2.elim
            · rename_i hp
              split at hK2
              · rename_i hwhole
                simp only [Bool.and_eq_true] at hwhole
                have ho := beq_iff hwhole.1
                have hn := beq_iff hwhole.2
                split at hK2
                · rename_i y hy
                  obtain ⟨h1, hK3⟩ := Ck_iff hK2
                  have hi := blt_iff h1
                  have hrd := parseW_sound hy hcs
                  obtain ⟨w', hrun, hF2⟩ := store_elem hF' hi0 hb' hz hρ hi (o := 0) (x := y) hv hone (by rw [hvl]; omega) (fun olds _ => ⟨_, hrd, fun j u hj => by
                    have := lt_of_get hj
                    rw [if_pos (by omega)]; simpa using hj⟩)
                  refine ⟨_, w', hK3, ?_, hF2⟩
                  rw [hst] at hrun
                  simpa [Instr.storeAt, Instr.sureAddr, blkStride, ho] using hrun
                · exact hK2.elim
              · split at hK2
                · rename_i y hy
                  obtain ⟨h1, hK3⟩ := Ck_iff hK2
                  obtain ⟨h2, hK4⟩ := Ck_iff hK3
                  have hle := ble_iff h1
                  have hi := blt_iff h2
                  obtain ⟨w', hrun, hF2⟩ := store_elem hF' hi0 hb' hz hρ hi (o := o) (x := y) hv hone (by rw [hvl]; exact hle) (fun olds hold => by
                    have hol := hold.size
                    have := splice_all2 (cellsD_rel (ρ := ρ) (h := freezeAll σ.h bs) t _ olds hold) hcs o
                    exact ⟨_, parseW_sound hy this, fun j u hj => by rwa [splice_get _ _ _ _ (by rw [hvl]; omega)] at hj⟩)
                  refine ⟨_, w', hK4, ?_, hF2⟩
                  rw [hst] at hrun
                  simpa [Instr.storeAt, Instr.sureAddr, blkStride] using hrun
                · exact hK2.elim
          · exact hK1.elim
    · exact hK1.elim

end Go.Proofs.Ytjoiadaogppmkaa.Sh
