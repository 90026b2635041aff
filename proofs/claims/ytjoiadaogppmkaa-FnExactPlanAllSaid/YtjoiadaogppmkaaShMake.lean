/- New slices: make, append, literals; copy, clear. -/
import Derived.Test.YtjoiadaogppmkaaShAddr
namespace Go.Proofs.Ytjoiadaogppmkaa.Sh
open Go
set_option linter.unusedVariables false
set_option linter.unusedSimpArgs false

theorem castL_some {t t' : Ty} {l : List t.D} {l' : List t'.D} (h : castL l = some l') : ∃ e : t = t', l' = e ▸ l := by
  unfold castL at h
  split at h
  · rename_i e
    simp at h
    exact ⟨e, h.symm⟩
  · cases h

/-- Data in memory, all their cells in a row. -/
structure Flat (w : World) (av : Nat → Prop) (t : Ty) (l : List t.D) (vs : List Value) : Prop where
  len : vs.length = l.length * t.size
  one : ∀ u ∈ vs, one_ u
  get : ∀ i x, l[i]? = some x → ∃ cs, RD w av t x cs ∧ ∀ j u, cs[j]? = some u → vs[i * t.size + j]? = some u

theorem Flat.nil (w : World) (av : Nat → Prop) (t : Ty) : Flat w av t [] [] := ⟨by simp, by simp, fun i x h => by simp at h⟩
theorem Flat.cons {w : World} {av : Nat → Prop} {t : Ty} {x : t.D} {l : List t.D} {cs vs : List Value} (hx : RD w av t x cs) (h : Flat w av t l vs) : Flat w av t (x :: l) (cs ++ vs) := by
  have hs := hx.size
  refine ⟨by simp [hs, h.len, Nat.succ_mul]; omega, fun u hu => ?_, fun i y hy => ?_⟩
  · rcases List.mem_append.1 hu with hu | hu
    · exact RD.one _ _ _ hx u hu
    · exact h.one u hu
  · cases i with
    | zero =>
      simp at hy; subst hy
      refine ⟨cs, hx, fun j u hj => ?_⟩
      have := lt_of_get hj
      rw [Nat.zero_mul, Nat.zero_add, List.getElem?_append_left this]
      exact hj
    | succ i =>
      obtain ⟨c', h1, h2⟩ := h.get i y (by simpa using hy)
      refine ⟨c', h1, fun j u hj => ?_⟩
      rw [List.getElem?_append_right (by rw [hs, Nat.succ_mul]; omega), hs, show (i + 1) * t.size + j - t.size = i * t.size + j by rw [Nat.succ_mul]; omega]
      exact h2 j u hj
theorem Flat.append {w : World} {av : Nat → Prop} {t : Ty} {l l' : List t.D} {vs vs' : List Value} (h : Flat w av t l vs) (k : Flat w av t l' vs') : Flat w av t (l ++ l') (vs ++ vs') := by
  refine ⟨by simp [h.len, k.len, Nat.add_mul], fun u hu => ?_, fun i y hy => ?_⟩
  · rcases List.mem_append.1 hu with hu | hu
    · exact h.one u hu
    · exact k.one u hu
  · by_cases hi : i < l.length
    · rw [List.getElem?_append_left hi] at hy
      obtain ⟨cs, h1, h2⟩ := h.get i y hy
      refine ⟨cs, h1, fun j u hj => ?_⟩
      have := h2 j u hj
      rw [List.getElem?_append_left (lt_of_get this)]
      exact this
    · rw [List.getElem?_append_right (by omega)] at hy
      obtain ⟨cs, h1, h2⟩ := k.get _ y hy
      refine ⟨cs, h1, fun j u hj => ?_⟩
      have := h2 j u hj
      have e : i * t.size = l.length * t.size + (i - l.length) * t.size := by rw [← Nat.add_mul]; congr 1; omega
      rw [List.getElem?_append_right (by rw [h.len, e]; omega), h.len, e, show l.length * t.size + (i - l.length) * t.size + j - l.length * t.size = (i - l.length) * t.size + j by omega]
      exact this
theorem Flat.take {w : World} {av : Nat → Prop} {t : Ty} {l : List t.D} {vs : List Value} (h : Flat w av t l vs) (n : Nat) : Flat w av t (l.take n) (vs.take (n * t.size)) := by
  refine ⟨?_, fun u hu => h.one u (List.mem_of_mem_take hu), fun i y hy => ?_⟩
  · simp only [List.length_take, h.len]
    rcases Nat.le_total n l.length with h' | h'
    · rw [Nat.min_eq_left h', Nat.min_eq_left (Nat.mul_le_mul_right _ h')]
    · rw [Nat.min_eq_right h', Nat.min_eq_right (Nat.mul_le_mul_right _ h')]
  · rw [List.getElem?_take] at hy
    split at hy
    · rename_i hi
      obtain ⟨cs, h1, h2⟩ := h.get i y hy
      refine ⟨cs, h1, fun j u hj => ?_⟩
      have hjl := lt_of_get hj
      rw [h1.size] at hjl
      rw [List.getElem?_take, if_pos]
      · exact h2 j u hj
      · have := Nat.mul_le_mul_right t.size hi
        rw [Nat.succ_mul] at this
        omega
    · cases hy

theorem flat_of {w : World} {av : Nat → Prop} {t : Ty} {r : Nat} : ∀ (l : List t.D) (p : Nat), (∀ i x, l[i]? = some x → ∃ cs, RD w av t x cs ∧ ∀ j u, cs[j]? = some u → at_ w r (p + i * t.size + j) = some u) →
    ∃ vs, Flat w av t l vs ∧ ∀ j u, vs[j]? = some u → at_ w r (p + j) = some u
  | [], p, _ => ⟨[], Flat.nil w av t, fun j u h => by simp at h⟩
  | x :: l, p, h => by
    obtain ⟨cs, h1, h2⟩ := h 0 x rfl
    obtain ⟨vs, h3, h4⟩ := flat_of l (p + t.size) (fun i y hy => by
      obtain ⟨c', h5, h6⟩ := h (i + 1) y (by simpa using hy)
      refine ⟨c', h5, fun j u hj => ?_⟩
      have := h6 j u hj
      rwa [Nat.succ_mul, show p + (i * t.size + t.size) + j = p + t.size + i * t.size + j by omega] at this)
    refine ⟨cs ++ vs, Flat.cons h1 h3, fun j u hj => ?_⟩
    have hs := h1.size
    by_cases hl : j < cs.length
    · rw [List.getElem?_append_left hl] at hj
      have := h2 j u hj
      simpa using this
    · rw [List.getElem?_append_right (by omega)] at hj
      have := h4 _ u hj
      rwa [show p + t.size + (j - cs.length) = p + j by omega] at this

/-- What a slice of either kind shows: its data and where they lie. -/
structure Shown (w : World) (av : Nat → Prop) (t : Ty) (l : List t.D) (v : Value) (ad : Option Addr) (c : Nat) (vs : List Value) : Prop where
  val : v = .slice ad l.length c
  cap : l.length ≤ c
  flat : Flat w av t l vs
  at' : ∀ a, ad = some a → ∀ j u, vs[j]? = some u → w.cell? (a.add j) = some u
  none : ad = none → vs = []

theorem RD.shown {w : World} {av : Nat → Prop} {t : Ty} {l : List t.D} {v : Value} (h : RD w av (.sl t) l [v]) : ∃ ad c vs, Shown w av t l v ad c vs := by
  obtain ⟨ad, c, e, hc, hx⟩ := h
  simp at e
  subst e
  cases l with
  | nil => exact ⟨ad, c, [], rfl, hc, Flat.nil w av t, fun a _ j u h => by simp at h, fun _ => rfl⟩
  | cons x l =>
    obtain ⟨r, o, cs, e, _⟩ := hx 0 x rfl
    subst e
    obtain ⟨vs, h1, h2⟩ := flat_of (w := w) (av := av) (r := r) (x :: l) o (fun i y hy => by
      obtain ⟨r', o', cs', e, _, h3, h4⟩ := hx i y hy
      simp at e
      obtain ⟨rfl, rfl⟩ := e
      exact ⟨cs', h3, h4⟩)
    exact ⟨_, c, vs, rfl, hc, h1, fun a e j u hj => by cases e; rw [add_at]; exact h2 j u hj, fun h => by cases h⟩

theorem SlOk.shown {w : World} {av : Nat → Prop} {ρ : Rho} {h : Heap} {b : Nat} {wn : Option (Nat × Nat)} {v : Value} (hs : SlOk w ρ h b wn v) {t : Ty} {l : List t.D} {s : RS} (hb : h[b]? = some (.row t l s)) (hB : RelB w av ρ h b (.row t l s)) :
    ∃ ad c vs, Shown w av t (win wn l) v ad c vs := by
  obtain ⟨t', l', s', o, n, ad, c, hb', hw, ho, hv, hn, hc⟩ := hs
  rw [hb] at hb'
  cases hb'
  obtain ⟨h1, h2⟩ := win_get wn l o n hw ho
  rcases hc with hc | ⟨r, base, cs, e, fz, h3, h4, h5, h6⟩
  · have hz : win wn l = [] := List.eq_nil_of_length_eq_zero (by omega)
    refine ⟨ad, c, [], by rw [hv, h1], by omega, ?_, fun a _ j u h => by simp at h, fun _ => rfl⟩
    rw [hz]; exact Flat.nil w av t
  · obtain ⟨vs, h7, h8⟩ := flat_of (w := w) (av := av) (r := r) (win wn l) (base + o * t.size) (fun i x hi => by
      obtain ⟨_, hl⟩ := h2 i x hi
      obtain ⟨cs', hx, hj⟩ := row_read hB h3 hl
      refine ⟨cs', hx, fun j u hju => ?_⟩
      have := hj j u hju
      rwa [Nat.add_mul, ← Nat.add_assoc] at this)
    subst h4
    exact ⟨_, c, vs, by rw [hv, h1], by omega, h7, fun a e j u hj => by cases e; rw [add_at]; exact h8 j u hj, fun h => by cases h⟩

theorem dataAs_shown {w : World} {A : Nat → Prop} {ρ : Rho} {h : Heap} (hH : RelH A ρ h w) {t : Ty} {c : Cell} {l : List t.D} (hd : dataAs t h c = some l) {v : Value} (hc : RelC w (avs A ρ h) ρ h c v) :
    ∃ ad cp vs, Shown w (avs A ρ h) t l v ad cp vs := by
  cases c <;> simp only [dataAs] at hd <;> try cases hd
  case nil.refl =>
    simp only [RelC] at hc
    subst hc
    exact ⟨none, 0, [], rfl, Nat.le_refl _, Flat.nil _ _ t, fun a e => (by cases e), fun _ => rfl⟩
  case ro t' l' =>
    obtain ⟨e, rfl⟩ := castL_some hd
    subst e
    exact RD.shown hc
  case sl b wn =>
    split at hd
    · rename_i t' l' s hb
      obtain ⟨e, rfl⟩ := castL_some hd
      subst e
      exact SlOk.shown hc hb (hH.blk b _ hb)
    · cases hd

/-! ## append -/
theorem run_firstCells' {P : Program} {w : World} {size n : Nat} {ad : Option Addr} {len cap : Nat} {vs : List Value} (hl : vs.length = n * size) (ha : ∀ a, ad = some a → ∀ j u, vs[j]? = some u → w.cell? (a.add j) = some u) (hn : ad = none → vs = []) :
    (Builtin.firstCells size n (.slice ad len cap)).run P w = .ok vs.toArray w := by
  cases ad with
  | none => have := hn rfl; subst this; exact run_firstCells_none w size n len cap
  | some a => exact run_firstCells_some w size n a len cap vs hl (ha a rfl)

theorem run_append_room' {P : Program} {w : World} {t tx ty e ex : Nat} {i : TypeInfo} (ht : P.underlying t = some (.slice e)) (htx : P.underlying tx = some (.slice ex)) (hi : P.info? e = some i)
    {base ad : Option Addr} {n cap m c : Nat} {news : List Value} (hx : (Builtin.firstCells i.size m (.slice ad m c)).run P w = .ok news.toArray w) (hroom : n + m ≤ cap) :
    (Builtin.append_ #[t, tx] ty #[.slice base n cap, .slice ad m c]).run P w = (match base with | some a => (storeCells (a.add (n * i.size)) news).run P w | none => .ok () w).andThen fun _ w' => .ok (.slice base (n + m) cap) w' := by
  cases base with
  | none => simp [Builtin.append_, run_underlying ht, run_underlying htx, Go.sizeOf, typeInfo, hi, Builtin.lenOf, hroom, hx]
  | some a => simp [Builtin.append_, run_underlying ht, run_underlying htx, Go.sizeOf, typeInfo, hi, Builtin.lenOf, hroom, hx]

theorem run_append_grow' {P : Program} {w : World} {t tx ty e ex : Nat} {i : TypeInfo} {z : Value} (ht : P.underlying t = some (.slice e)) (htx : P.underlying tx = some (.slice ex)) (hi : P.info? e = some i) (hz : i.zero = some z)
    {base ad : Option Addr} {n cap m c : Nat} {olds news : List Value} (hx : (Builtin.firstCells i.size m (.slice ad m c)).run P w.drew = .ok news.toArray w.drew) (hs : (Builtin.firstCells i.size n (.slice base n cap)).run P w.drew = .ok olds.toArray w.drew)
    (hg : cap < n + m) (h63 : ((n + m : Nat) : Int) ≤ 9223372036854775807) (hfit : Builtin.nextslicecap (n + m) cap * i.bytes ≤ 281474976710656) :
    (Builtin.append_ #[t, tx] ty #[.slice base n cap, .slice ad m c]).run P w =
      .ok (.slice (some ⟨w.heap.size, 0, none⟩) (n + m) (grownCap w (n + m) cap e))
        (w.drew.alloc (.cells (olds.toArray ++ news.toArray ++ Builtin.zeroCells z.cells (grownCap w (n + m) cap e - (n + m))) e)) := by
  have hn : ¬ (n + m ≤ cap) := by omega
  have h63' : ¬ (9223372036854775807 < ((n : Int) + (m : Int))) := by omega
  have h48' : ¬ (281474976710656 < Builtin.nextslicecap (n + m) cap * i.bytes) := by omega
  simp [Builtin.append_, run_underlying ht, run_underlying htx, Go.sizeOf, typeInfo, zeroValue, hi, hz, Builtin.lenOf, hn, h63', h48', Question.forced, hx, hs, newRow, grownCap]
  congr 2
  apply Array.ext'
  simp [List.append_assoc]

theorem drew_alloc_pushed (w : World) (o : Obj) : Pushed w (w.drew.alloc o) o := ⟨rfl, rfl, rfl, rfl⟩
theorem alloc_pushed (w : World) (o : Obj) : Pushed w (w.alloc o) o := ⟨rfl, rfl, rfl, rfl⟩

theorem tyOf_some {T : Nat → Option TI} {e : Nat} {t : Ty} (h : tyOf T e = some t) : ∃ ti, T e = some ti ∧ ti.ty = some t := by
  unfold tyOf at h
  cases e' : T e with
  | none => rw [e'] at h; cases h
  | some ti => rw [e'] at h; exact ⟨ti, rfl, h⟩
theorem elemOf_some {T : Nat → Option TI} {t e : Nat} (h : elemOf T t = some e) : ∃ a b c d g, T t = some ⟨.slice e, a, b, c, d, g⟩ := by
  unfold elemOf at h
  split at h
  · rename_i e' a b c d g hT
    simp at h; subst h
    exact ⟨a, b, c, d, g, hT⟩
  · cases h

structure ElemInfo (P : Program) (T : Nat → Option TI) (e : Nat) (t : Ty) (i : TypeInfo) (z : Value) : Prop where
  info : P.info? e = some i
  zero : i.zero = some z
  size : i.size = t.size
  bytes : i.bytes = bytesOf T e
  zsize : z.cells.size = t.size
  zrd : ∀ w av, RD w av t t.zero z.cells.toList
  bpos : 0 < bytesOf T e

theorem elem_info {P : Program} {T : Nat → Option TI} (hT : TOk P T) {e : Nat} {t : Ty} (h : tyOf T e = some t) : ∃ i z, ElemInfo P T e t i z := by
  obtain ⟨ti, h1, h2⟩ := tyOf_some h
  obtain ⟨i, z, hi, hz, hs, hb, _, hzs, hty⟩ := (hT e ti h1).info
  obtain ⟨h3, h4⟩ := hty t h2
  exact ⟨i, z, hi, hz, by rw [hs, h3], by rw [hb]; simp [bytesOf, h1], by rw [hzs, h3], h4, by simp only [bytesOf, h1]; exact (hT e ti h1).posb⟩

/-- What is appended: data that lie ready, or zeros. -/
structure News (P : Program) (tid tx : Nat) (ux : Value) (e : Nat) (i : TypeInfo) (z : Value) (t : Ty) (av : Nat → Prop) (w : World) (new : List t.D) (news : List Value) : Prop where
  flat : Flat w av t new news
  room : ∀ (ty : Nat) (base : Option Addr) (n cap : Nat), n + new.length ≤ cap →
    (Builtin.append_ #[tid, tx] ty #[.slice base n cap, ux]).run P w = (match base with | some a => (storeCells (a.add (n * i.size)) news).run P w | none => .ok () w).andThen fun _ w' => .ok (.slice base (n + new.length) cap) w'
  grow : ∀ (ty : Nat) (base : Option Addr) (n cap : Nat) (olds : List Value), (Builtin.firstCells i.size n (.slice base n cap)).run P w.drew = .ok olds.toArray w.drew → cap < n + new.length → ((n + new.length : Nat) : Int) ≤ 9223372036854775807 →
    Builtin.nextslicecap (n + new.length) cap * i.bytes ≤ 281474976710656 →
    (Builtin.append_ #[tid, tx] ty #[.slice base n cap, ux]).run P w =
      .ok (.slice (some ⟨w.heap.size, 0, none⟩) (n + new.length) (grownCap w (n + new.length) cap e))
        (w.drew.alloc (.cells (olds.toArray ++ news.toArray ++ Builtin.zeroCells z.cells (grownCap w (n + new.length) cap e - (n + new.length))) e))

/-- What an append comes to: the block's new content. -/
theorem appendL_sound {P : Program} {T : Nat → Option TI} {X : Ctx} {ρ : Rho} {σ : St} {a : Act} {w : World} (hF : RelF X ρ σ a w) {tid tx ty : Nat} {s : Cell} {e : Nat} {t : Ty} {i : TypeInfo} {z : Value} (hE : ElemInfo P T e t i z) {new : List t.D} {K : St → Cell → Prop} (hK : appendL T σ e t new s K)
    {us ux : Value} (hs : RelC w (avs X.A ρ σ.h) ρ σ.h s us) (hN : new.length * bytesOf T e ≤ roomy → ∃ news, News P tid tx ux e i z t (avs X.A ρ σ.h) w new news) :
    ∃ σ' c v w' ρ', K σ' c ∧ (Builtin.append_ #[tid, tx] ty #[us, ux]).run P w = .ok v w' ∧ RelF X ρ' σ' a w' ∧ RelC w' (avs X.A ρ' σ'.h) ρ' σ'.h c v := by
  unfold appendL at hK
  -- a new block that holds the old data and the new ones
  have grown : ∀ (news : List Value), News P tid tx ux e i z t (avs X.A ρ σ.h) w new news → ∀ (base : Option Addr) (n cap : Nat) (old : List t.D) (olds : List Value), Flat w (avs X.A ρ σ.h) t old olds → old.length = n → (∀ a', base = some a' → ∀ j u, olds[j]? = some u → w.cell? (a'.add j) = some u) → (base = none → olds = []) →
      cap < n + new.length → (n + new.length) * bytesOf T e ≤ roomy → n + new.length ≤ roomy →
      ∃ (v : Value) (w' : World) (cs : Array Value), (Builtin.append_ #[tid, tx] ty #[.slice base n cap, ux]).run P w = .ok v w' ∧ Pushed w w' (.cells cs e (0, 0)) ∧ (∃ cp, v = .slice (some ⟨w.heap.size, 0, none⟩) (n + new.length) cp ∧ n + new.length ≤ cp ∧ cp * t.size ≤ cs.size) ∧
        Flat w (avs X.A ρ σ.h) t (old ++ new) (olds ++ news) ∧ ∀ (j : Nat) (u : Value), (olds ++ news)[j]? = some u → (cs : Array Value)[j]? = some u := by
    intro news hsx base n cap old olds hfl hn hat hnone hg hb h63
    have hfs : (Builtin.firstCells i.size n (.slice base n cap)).run P w.drew = .ok olds.toArray w.drew :=
      run_firstCells' (by rw [hfl.len, hE.size, hn]) (fun a' e' j u hj => hat a' e' j u hj) hnone
    have hfit : Builtin.nextslicecap (n + new.length) cap * i.bytes ≤ 281474976710656 := by
      have h1 := nextslicecap_le hg
      have h2 := Nat.mul_le_mul_right i.bytes h1
      rw [hE.bytes] at h2 ⊢
      rw [Nat.mul_assoc] at h2
      simp only [roomy] at hb
      omega
    have hrun := hsx.grow ty base n cap olds hfs hg (by simp only [roomy] at h63; omega) hfit
    have hge := grownCap_ge w (n + new.length) cap e
    refine ⟨_, _, _, hrun, drew_alloc_pushed _ _, ⟨_, rfl, hge, ?_⟩, hfl.append hsx.flat, fun j u hj => ?_⟩
    · simp only [Array.size_append, List.size_toArray, size_zeroCells, hfl.len, hsx.flat.len, hE.zsize, hn, ← Nat.add_mul]
      exact Nat.mul_le_mul_right _ (by omega)
    · have hl := lt_of_get hj
      rw [← Array.getElem?_toList, Array.toList_append, Array.toList_append, List.getElem?_append_left (by simpa using hl)]
      simpa using hj
  have pushIt : ∀ (l : List t.D) (vs : List Value) (cs : Array Value) (w' : World), Pushed w w' (.cells cs e (0, 0)) → Flat w (avs X.A ρ σ.h) t l vs → (∀ (j : Nat) (u : Value), vs[j]? = some u → cs[j]? = some u) → ∀ s, NewOk w (avs X.A ρ σ.h) ρ σ.h cs (.row t l s) := by
    intro l vs cs w' _ hfl hcs s i x hi
    obtain ⟨c', h1, h2⟩ := hfl.get i x hi
    exact ⟨c', h1, fun j u hj => hcs _ u (h2 j u hj)⟩
  cases s <;> simp only at hK <;> try exact hK.elim
  case nil =>
    simp only [RelC] at hs
    subst hs
    obtain ⟨h1, hK1⟩ := Ck_iff hK
    have hb := ble_iff h1
    obtain ⟨news, hsx⟩ := hN hb
    rcases Nat.eq_zero_or_pos new.length with h0 | h0
    · -- nothing is appended to nothing
      have hnil : new = [] := List.eq_nil_of_length_eq_zero h0
      subst hnil
      have hrun := hsx.room ty none 0 0 (by simp)
      have hF' := hF.pushNone t .own (by simp) rfl
      refine ⟨_, _, _, _, _, hK1, by simpa using hrun, hF', ?_⟩
      refine ⟨t, [], .own, 0, 0, none, 0, by simp, by simp, by simp, rfl, Nat.le_refl _, .inl rfl⟩
    · have h63 : new.length ≤ roomy := Nat.le_trans (Nat.le_mul_of_pos_right _ hE.bpos) hb
      obtain ⟨v, w', cs, hrun, hp, ⟨cp, hv, hcp, hroom⟩, hfl, hcs⟩ := grown news hsx none 0 0 [] [] (Flat.nil _ _ t) rfl (fun a' e' => by cases e') (fun _ => rfl) (by omega) (by simpa using hb) (by simpa using h63)
      have hF' := hF.push hp (x := .row t new .own) (by
        have := pushIt _ _ cs w' hp hfl hcs .own
        simpa using this) rfl
      refine ⟨_, _, v, w', _, hK1, hrun, hF', ?_⟩
      exact ⟨t, new, .own, 0, new.length, some ⟨w.heap.size, 0, none⟩, cp, by simp, by simp, by simp, by rw [hv]; simp, by omega, .inr ⟨w.heap.size, 0, cs, e, (0, 0), rhoPut_same _ _ _, by simp, hp.new, by simpa using hroom⟩⟩
  case sl b wn =>
    split at hK
    rotate_left
    · exact hK.elim
    rename_i t' l s hb
    have hst : isFrz (.row t' l s) = false ∧ s ≠ .var ∧ ∃ old, castL (t' := t) (win wn l) = some old ∧ Nat.ble ((old.length + new.length) * bytesOf T e) roomy = true ∧
        K ⟨eraseM [b] σ.m, (eraseH [b] σ.h).set b (.row t (old ++ new) .moved)⟩ (.sl b none) := by
      cases s <;> simp only at hK <;> try exact hK.elim
      all_goals
        split at hK
        · rename_i old ho
          obtain ⟨h1, hK1⟩ := Ck_iff hK
          exact ⟨rfl, by simp, old, ho, h1, hK1⟩
        · exact hK.elim
    obtain ⟨hz, hvar, old, hold, hble, hK1⟩ := hst
    have hbnd := ble_iff hble
    obtain ⟨et, rfl⟩ := castL_some hold
    subst et
    simp only at hbnd hK1
    obtain ⟨news, hsx⟩ := hN (Nat.le_trans (Nat.mul_le_mul_right _ (Nat.le_add_left _ _)) hbnd)
    have hBb := hF.H.blk b _ hb
    obtain ⟨ads, cap, olds, hso⟩ := SlOk.shown hs hb hBb
    have hus := hso.val
    subst hus
    have hcapn := hso.cap
    -- the state with the name forgotten
    have hmset : ∀ c d, butL [b] c = some d → d = c := fun c d h => (butL_spec h).1
    have hFe := hF.forget (butL [b]) hmset
    have hne := noRef_erase σ b
    have hbe : (eraseH [b] σ.h)[b]? = some (.row t' l s) := by rw [eraseH, get_map, hb]; rfl
    have have' : ∀ r, avs X.A ρ (eraseH [b] σ.h) r → avs X.A ρ σ.h r := fun r h => by unfold avs at *; unfold eraseH at h; rwa [own_map] at h
    have rde : ∀ {x : t'.D} {cs : List Value}, RD w (avs X.A ρ σ.h) t' x cs → RD w (avs X.A ρ (eraseH [b] σ.h)) t' x cs := fun h => RD.mono (fun r _ h => have' r h) (fun r o v _ h => h) _ _ _ h
    have hlt : b < (eraseH [b] σ.h).length := lt_of_get hbe
    have hset : ((eraseH [b] σ.h).set b (.row t' (win wn l ++ new) .moved))[b]? = some (.row t' (win wn l ++ new) .moved) := by rw [get_set, if_pos rfl, if_pos hlt]
    have h63 : (win wn l).length + new.length ≤ roomy := Nat.le_trans (Nat.le_mul_of_pos_right _ hE.bpos) hbnd
    by_cases hroom : (win wn l).length + new.length ≤ cap
    · have hrun := hsx.room ty ads (win wn l).length cap hroom
      obtain ⟨t2, l2, s2, o, n, ad2, c2, hb2, hw2, ho2, hv2, hn2, hc2⟩ := hs
      rw [hb] at hb2
      cases hb2
      simp at hv2
      obtain ⟨rfl, hn, rfl⟩ := hv2
      rcases hc2 with hc0 | ⟨r, base, cs, e2, fz, h3, h4, h5, h6⟩
      · -- no memory at all
        subst hc0
        have hw0 : win wn l = [] := List.eq_nil_of_length_eq_zero (by omega)
        have hn0 : new = [] := List.eq_nil_of_length_eq_zero (by omega)
        subst hn0
        have hnews : news = [] := by have := hsx.flat.len; simpa using this
        subst hnews
        have hrun2 : (Builtin.append_ #[tid, tx] ty #[.slice ads (win wn l).length 0, ux]).run P w = .ok (.slice ads 0 0) w := by
          rw [hrun]
          cases ads <;> simp [storeCells, hw0]
        have hsw := hFe.swap hne hbe (by simpa using hz) (t := t') (l := win wn l ++ []) (y := none) (w' := w) rfl rfl rfl (Nat.le_refl _) (fun _ _ _ => rfl) (fun k cs e fz h => ⟨cs, e, fz, h, rfl⟩) (.inl ⟨rfl, by simp [hw0]⟩)
        exact ⟨_, _, _, w, _, hK1, hrun2, hsw, t', win wn l ++ [], .moved, 0, 0, ads, 0, hset, by simp [hw0], by simp, rfl, Nat.le_refl _, .inl rfl⟩
      · obtain ⟨cs', e', hw', hcont, hsz⟩ := block_row hBb h3
        rw [hw'] at h5
        simp at h5
        obtain ⟨rfl, rfl, rfl⟩ := h5
        subst h4
        obtain ⟨hwl, hwg⟩ := win_get wn l o n hw2 ho2
        have hnl : news.length = new.length * t'.size := hsx.flat.len
        have hbound : base + (o + n) * t'.size + news.length ≤ cs'.size := by
          rw [hnl]
          have h8 : (o + n + new.length) * t'.size ≤ (o + cap) * t'.size := Nat.mul_le_mul_right _ (by omega)
          rw [Nat.add_mul (o + n)] at h8
          omega
        have hstore := run_storeCells_at (P := P) r (base + (o + n) * t'.size) e' news 0 cs' w hw' (by simpa using hbound) (fun u hu => oneCell_of (hsx.flat.one u hu))
        simp only [Nat.add_zero] at hstore
        have hW := setRow_wrote w r cs' (putAt cs' (base + (o + n) * t'.size) news) e' hw'
        have hrun2 : (Builtin.append_ #[tid, tx] ty #[.slice (some ⟨r, base + o * t'.size, none⟩) (win wn l).length cap, ux]).run P w =
            .ok (.slice (some ⟨r, base + o * t'.size, none⟩) ((win wn l).length + new.length) cap) (w.setRow r (putAt cs' (base + (o + n) * t'.size) news)) := by
          rw [hrun]
          simp only [add_at, hE.size, hwl]
          rw [show base + o * t'.size + n * t'.size = base + (o + n) * t'.size by rw [Nat.add_mul, Nat.add_assoc]]
          rw [hstore]
          rfl
        have hsw := hFe.swap hne hbe (by simpa using hz) (t := t') (l := win wn l ++ new) (y := some (r, base + o * t'.size)) (w' := w.setRow r (putAt cs' (base + (o + n) * t'.size) news)) hW.os hW.tape hW.output (by rw [hW.size]; exact Nat.le_refl _)
          (fun k _ hk => hW.other k (fun ek => by subst ek; exact hk _ h3))
          (fun k c0 e0 fz0 hk => by
            by_cases ek : k = r
            · subst ek
              rw [hw'] at hk
              simp at hk
              obtain ⟨rfl, rfl, rfl⟩ := hk
              exact ⟨_, e', (0, 0), hW.same, putAt_size _ _ _ hbound⟩
            · exact ⟨c0, e0, fz0, by rw [hW.other k ek]; exact hk, rfl⟩)
          (.inr ⟨r, base + o * t'.size, _, e', rfl, .inl ⟨_, h3⟩, hW.same, fun q y hq => ?_⟩)
        · refine ⟨_, _, _, _, _, hK1, hrun2, hsw, t', win wn l ++ new, .moved, 0, (win wn l).length + new.length, _, cap, hset, by simp, by simp, rfl, hroom, .inr ⟨r, base + o * t'.size, _, e', (0, 0), rhoPut_same _ _ _, by simp, hW.same, ?_⟩⟩
          rw [putAt_size _ _ _ hbound]
          rw [Nat.zero_add]
          rw [Nat.add_mul] at h6
          omega
        · by_cases hqn : q < (win wn l).length
          · rw [List.getElem?_append_left hqn] at hq
            obtain ⟨hqn', hql⟩ := hwg q y hq
            obtain ⟨vs, h7, h8⟩ := hcont _ y hql
            refine ⟨vs, rde h7, fun j u hj => ?_⟩
            have hjl := lt_of_get hj
            rw [h7.size] at hjl
            have h9 := h8 j u hj
            rw [Nat.add_mul] at h9
            rw [putAt_get _ _ _ hbound, if_neg]
            · rw [show base + o * t'.size + q * t'.size + j = base + (o * t'.size + q * t'.size) + j by omega]
              exact h9
            · intro hcon
              have := Nat.mul_le_mul_right t'.size (show q + 1 ≤ n by omega)
              rw [Nat.succ_mul] at this
              rw [Nat.add_mul] at hcon
              omega
          · rw [List.getElem?_append_right (by omega)] at hq
            obtain ⟨vs, h7, h8⟩ := hsx.flat.get _ y hq
            refine ⟨vs, rde h7, fun j u hj => ?_⟩
            have h9 := h8 j u hj
            have hlt9 := lt_of_get h9
            have eq1 : q * t'.size = n * t'.size + (q - (win wn l).length) * t'.size := by rw [← Nat.add_mul]; congr 1; omega
            rw [putAt_get _ _ _ hbound, if_pos]
            · rw [← h9]
              congr 1
              rw [Nat.add_mul, eq1]
              omega
            · rw [Nat.add_mul, eq1]
              omega
    · obtain ⟨v, w', cs, hrun, hp, ⟨cp, hv, hcp, hroomc⟩, hfl, hcs⟩ := grown news hsx ads (win wn l).length cap (win wn l) olds hso.flat rfl hso.at' hso.none (by omega) hbnd h63
      have hsw := hFe.swap hne hbe (by simpa using hz) (t := t') (l := win wn l ++ new) (y := some (w.heap.size, 0)) (w' := w') hp.os hp.tape hp.output (by rw [hp.heap]; simp) (fun k hk _ => hp.old hk) (hp.frame (L := fun _ => False)).room
        (.inr ⟨w.heap.size, 0, cs, e, rfl, .inr (Nat.le_refl _), hp.new, fun q y hq => by
          obtain ⟨c', h1, h2⟩ := hfl.get q y hq
          exact ⟨c', rde h1, fun j u hj => by rw [Nat.zero_add]; exact hcs _ u (h2 j u hj)⟩⟩)
      refine ⟨_, _, v, w', _, hK1, hrun, hsw, t', win wn l ++ new, .moved, 0, (win wn l).length + new.length, _, cp, hset, by simp, by simp, by rw [hv], hcp, .inr ⟨w.heap.size, 0, cs, e, (0, 0), rhoPut_same _ _ _, by simp, hp.new, by simpa using hroomc⟩⟩

theorem appendK_sound {P : Program} {T : Nat → Option TI} (hT : TOk P T) {X : Ctx} {ρ : Rho} {σ : St} {a : Act} {w : World} (hF : RelF X ρ σ a w) {tid tx ty ex : Nat} {s x : Cell} {K : St → Cell → Prop} (hK : appendK T σ tid s x K)
    (htx : P.underlying tx = some (.slice ex)) {us ux : Value} (hs : RelC w (avs X.A ρ σ.h) ρ σ.h s us) (hx : RelC w (avs X.A ρ σ.h) ρ σ.h x ux) :
    ∃ σ' c v w' ρ', K σ' c ∧ (Builtin.append_ #[tid, tx] ty #[us, ux]).run P w = .ok v w' ∧ RelF X ρ' σ' a w' ∧ RelC w' (avs X.A ρ' σ'.h) ρ' σ'.h c v := by
  unfold appendK at hK
  split at hK
  · exact hK.elim
  rename_i e he
  obtain ⟨_, _, _, _, _, hTt⟩ := elemOf_some he
  obtain ⟨d, hd, hk, _⟩ := (hT _ _ hTt).desc
  have hk : d = .slice e := hk
  subst hk
  split at hK
  · exact hK.elim
  rename_i t hty
  obtain ⟨i, z, hE⟩ := elem_info hT hty
  split at hK
  · exact hK.elim
  rename_i new hnew
  obtain ⟨adx, cx, news, hsx⟩ := dataAs_shown hF.H hnew hx
  have hux := hsx.val
  subst hux
  have hfx : ∀ w', w'.heap = w.heap → (Builtin.firstCells i.size new.length (.slice adx new.length cx)).run P w' = .ok news.toArray w' := fun w' hw' =>
    run_firstCells' (by rw [hsx.flat.len, hE.size]) (fun a' e' j u hj => by
      have := hsx.at' a' e' j u hj
      unfold World.cell? at this ⊢
      rw [hw']; exact this) hsx.none
  exact appendL_sound hF hE hK hs fun _ => ⟨news, hsx.flat, fun ty base n cap h => run_append_room' hd htx hE.info (hfx w rfl) h, fun ty base n cap olds h1 h2 h3 h4 => run_append_grow' hd htx hE.info hE.zero (hfx w.drew rfl) h1 h2 h3 h4⟩

end Go.Proofs.Ytjoiadaogppmkaa.Sh
