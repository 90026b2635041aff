/- Plain facts on versions of shards, and on lists of numbers that are put in order: no program here. -/
import Derived.Test.YtjoiadaogppmkaaGreatMaRead
namespace Go.Proofs.YtjoiadaogppmkaaGreat.Sh
set_option linter.unusedVariables false
set_option linter.unusedSimpArgs false

/-! ## shards of a version -/
def ofF (vers : List Int) (there : List Bool) (v : Int) : List Bool := mapR (fun i => there.getD i false && decide (vers.getD i 0 = v)) 0 8
theorem ofF_len (vers : List Int) (there : List Bool) (v : Int) : (ofF vers there v).length = 8 := rfl
theorem lt8 {i : Nat} (h : i < 8) : i = 0 ∨ i = 1 ∨ i = 2 ∨ i = 3 ∨ i = 4 ∨ i = 5 ∨ i = 6 ∨ i = 7 := by omega
theorem ofF_get {vers : List Int} {there : List Bool} {v : Int} {i : Nat} (h : i < 8) : (ofF vers there v).getD i false = (there.getD i false && decide (vers.getD i 0 = v)) := by
  rcases lt8 h with rfl | rfl | rfl | rfl | rfl | rfl | rfl | rfl <;> rfl
theorem filterR_keepT {α : Type} {p : Nat → Bool} {f : Nat → α} {q : α → Bool} : ∀ {n i : Nat}, (filterR p f i n).filter q = filterR (fun j => p j && q (f j)) f i n
  | 0, _ => rfl
  | n + 1, i => by
    rw [filterR, filterR]
    have ih := filterR_keepT (p := p) (f := f) (q := q) (n := n) (i := i + 1)
    cases hp : p i
    · rw [cond_false, Bool.false_and, cond_false, ih]
    · rw [cond_true, Bool.true_and, List.filter_cons, ih]
      cases q (f i) <;> rfl
theorem filterR_congrT {α : Type} {p q : Nat → Bool} {f : Nat → α} : ∀ {n i : Nat}, (∀ j, i ≤ j → j < i + n → p j = q j) → filterR p f i n = filterR q f i n
  | 0, _, _ => rfl
  | n + 1, i, h => by
    rw [filterR, filterR, h i (Nat.le_refl _) (by omega), filterR_congrT fun j h1 h2 => h j (by omega) (by omega)]
theorem flag_of {vers : List Int} {there : List Bool} {v : Int} (h8 : there.length = 8) : flagF (ofF vers there v) = (flagF there).filter fun x => decide (vers.getD x.toNat 0 = v) := by
  rw [flagF, flagF, filterR_keepT, ofF_len, h8]
  exact filterR_congrT fun j _ hj => by rw [ofF_get (by omega)]; rfl
theorem filterR_memT {α : Type} {p : Nat → Bool} {f : Nat → α} {x : α} : ∀ {n i : Nat}, x ∈ filterR p f i n ↔ ∃ j, i ≤ j ∧ j < i + n ∧ p j = true ∧ f j = x
  | 0, i => by rw [filterR]; constructor
               · intro h; cases h
               · rintro ⟨j, h1, h2, _⟩; omega
  | n + 1, i => by
    have ih := filterR_memT (p := p) (f := f) (x := x) (n := n) (i := i + 1)
    rw [filterR]
    constructor
    · intro h
      cases hp : p i with
      | false =>
        rw [hp, cond_false] at h
        obtain ⟨j, h1, h2, h3⟩ := ih.1 h
        exact ⟨j, by omega, by omega, h3⟩
      | true =>
        rw [hp, cond_true] at h
        rcases List.mem_cons.1 h with e | h
        · exact ⟨i, Nat.le_refl _, by omega, hp, e.symm⟩
        · obtain ⟨j, h1, h2, h3⟩ := ih.1 h
          exact ⟨j, by omega, by omega, h3⟩
    · rintro ⟨j, h1, h2, h3, h4⟩
      by_cases e : j = i
      · subst e
        rw [h3, cond_true, h4]
        exact List.mem_cons_self
      · have := ih.2 ⟨j, by omega, by omega, h3, h4⟩
        cases p i
        · exact this
        · exact List.mem_cons_of_mem _ this
theorem flag_memT {there : List Bool} {x : Int} : x ∈ flagF there ↔ ∃ j : Nat, j < there.length ∧ there.getD j false = true ∧ (j : Int) = x := by
  rw [flagF, filterR_memT]
  constructor
  · rintro ⟨j, _, h2, h3, h4⟩; exact ⟨j, by omega, h3, h4⟩
  · rintro ⟨j, h2, h3, h4⟩; exact ⟨j, Nat.zero_le _, by omega, h3, h4⟩
theorem bears_nil (kind : Int) : bearsI kind [] = false := rfl

/-! ## the greatest first -/
def downF (f : Int → Bool) : Nat → Int
  | 0 => 0
  | n + 1 => bif f ((n + 1 : Nat) : Int) then ((n + 1 : Nat) : Int) else downF f n
theorem downF_find {f : Int → Bool} : ∀ {n : Nat} {L : List Int}, L.Pairwise (fun a b => b < a) → (∀ x ∈ L, 1 ≤ x ∧ x ≤ (n : Int)) → (∀ v : Int, f v = true → v ∈ L) → (L.find? f).getD 0 = downF f n
  | 0, L, hp, hb, hf => by
    cases L with
    | nil => rfl
    | cons x L => have := hb x List.mem_cons_self; omega
  | n + 1, L, hp, hb, hf => by
    rw [downF]
    cases L with
    | nil =>
      have h0 : f ((n + 1 : Nat) : Int) = false := by
        cases h : f ((n + 1 : Nat) : Int) with
        | false => rfl
        | true => exact absurd (hf _ h) (by simp)
      rw [h0, cond_false]
      exact downF_find (n := n) .nil (by simp) fun v hv => hf v hv
    | cons x L =>
      rw [List.pairwise_cons] at hp
      have hx := hb x List.mem_cons_self
      by_cases e : x = ((n + 1 : Nat) : Int)
      · rw [List.find?_cons]
        subst e
        cases h : f ((n + 1 : Nat) : Int) with
        | true => rfl
        | false =>
          rw [cond_false]
          refine downF_find hp.2 (fun y hy => ⟨(hb y (List.mem_cons_of_mem _ hy)).1, by have := hp.1 y hy; omega⟩) fun v hv => ?_
          rcases List.mem_cons.1 (hf v hv) with e | e
          · subst e; rw [h] at hv; cases hv
          · exact e
      · have h0 : f ((n + 1 : Nat) : Int) = false := by
          cases h : f ((n + 1 : Nat) : Int) with
          | false => rfl
          | true =>
            rcases List.mem_cons.1 (hf _ h) with e' | e'
            · exact absurd e'.symm e
            · have := hp.1 _ e'; omega
        rw [h0, cond_false]
        refine downF_find (n := n) (List.pairwise_cons.2 hp) (fun y hy => ?_) hf
        rcases List.mem_cons.1 hy with e' | e'
        · subst e'; omega
        · have := hp.1 y e'; have := hb y hy; omega
theorem downF_le {f : Int → Bool} : ∀ {n : Nat}, 0 ≤ downF f n ∧ downF f n ≤ (n : Int)
  | 0 => ⟨Int.le_refl _, Int.le_refl _⟩
  | n + 1 => by
    have := downF_le (f := f) (n := n)
    rw [downF]
    cases f ((n + 1 : Nat) : Int)
    · rw [cond_false]; omega
    · rw [cond_true]; omega
theorem downF_t {f : Int → Bool} : ∀ {n : Nat}, downF f n ≠ 0 → f (downF f n) = true
  | 0, h => absurd rfl h
  | n + 1, h => by
    rw [downF] at h ⊢
    cases e : f ((n + 1 : Nat) : Int) with
    | false =>
      rw [e, cond_false] at h
      rw [cond_false]; exact downF_t h
    | true => rw [cond_true]; exact e
theorem downF_gt {f : Int → Bool} : ∀ {n : Nat} {v : Int}, downF f n < v → v ≤ (n : Int) → f v = false
  | 0, v, h, h' => by rw [downF] at h; omega
  | n + 1, v, h, h' => by
    rw [downF] at h
    cases e : f ((n + 1 : Nat) : Int) with
    | true => rw [e, cond_true] at h; omega
    | false =>
      rw [e, cond_false] at h
      by_cases e' : v = ((n + 1 : Nat) : Int)
      · rw [e']; exact e
      · exact downF_gt h (by omega)
theorem downF_top {f : Int → Bool} {n : Nat} (h : f (n : Int) = true) : downF f n = (n : Int) := by
  cases n with
  | zero => rfl
  | succ n => rw [downF, h]; rfl
def topF (vers : List Int) : Int := vers.foldl max 0
theorem foldl_max : ∀ {l : List Int} {a : Int}, a ≤ l.foldl max a ∧ (∀ x ∈ l, x ≤ l.foldl max a) ∧ (l.foldl max a = a ∨ l.foldl max a ∈ l)
  | [], a => ⟨Int.le_refl _, (fun x h => by cases h), .inl rfl⟩
  | y :: l, a => by
    obtain ⟨h1, h2, h3⟩ := foldl_max (l := l) (a := max a y)
    rw [List.foldl_cons]
    refine ⟨by omega, fun x hx => ?_, ?_⟩
    · rcases List.mem_cons.1 hx with rfl | hx
      · omega
      · exact h2 x hx
    · rcases h3 with h | h
      · rw [h]
        by_cases e : a ≤ y
        · right; rw [Int.max_eq_right e]; exact List.mem_cons_self
        · left; exact Int.max_eq_left (by omega)
      · right; exact List.mem_cons_of_mem _ h
theorem topF_nonneg (vers : List Int) : 0 ≤ topF vers := foldl_max.1
theorem topF_ge {vers : List Int} {i : Nat} : vers.getD i 0 ≤ topF vers := by
  by_cases h : i < vers.length
  · rw [getD_eq h]; exact foldl_max.2.1 _ (List.getElem_mem h)
  · rw [List.getD, List.getElem?_eq_none (by omega)]; exact foldl_max.1
theorem topF_at (vers : List Int) : topF vers = 0 ∨ ∃ i, i < vers.length ∧ vers.getD i 0 = topF vers := by
  rcases (foldl_max (l := vers) (a := 0)).2.2 with h | h
  · exact .inl h
  · obtain ⟨i, hi, e⟩ := List.getElem_of_mem h
    exact .inr ⟨i, hi, by rw [getD_eq hi]; exact e⟩

/-- versions of shards that are there, the greatest first, each once -/
structure VersP (vers : List Int) (there : List Bool) (L : List Int) : Prop where
  desc : L.Pairwise fun a b => b < a
  mem : ∀ v, v ∈ L ↔ ∃ i, i < 8 ∧ there.getD i false = true ∧ vers.getD i 0 = v
theorem VersP.top {vers : List Int} {there : List Bool} {L : List Int} (h : VersP vers there L) (h8 : vers.length = 8) (hok : ∀ i, i < 8 → (there.getD i false = true → 1 ≤ vers.getD i 0) ∧ (there.getD i false = false → vers.getD i 0 = 0)) : L.head?.getD 0 = topF vers := by
  cases L with
  | nil =>
    show 0 = topF vers
    rcases topF_at vers with e | ⟨i, hi, e⟩
    · exact e.symm
    · cases ht : there.getD i false with
      | true => exact absurd ((h.mem _).2 ⟨i, by omega, ht, rfl⟩) (by simp)
      | false => rw [← e, (hok i (by omega)).2 ht]
  | cons x L =>
    show x = topF vers
    obtain ⟨i, hi, ht, hv⟩ := (h.mem x).1 List.mem_cons_self
    have h1 : x ≤ topF vers := by rw [← hv]; exact topF_ge
    have h2 := (hok i hi).1 ht
    rcases topF_at vers with e | ⟨k, hk, e⟩
    · omega
    · cases ht' : there.getD k false with
      | false => have := (hok k (by omega)).2 ht'; omega
      | true =>
        have hm := (h.mem (topF vers)).2 ⟨k, by omega, ht', e⟩
        rcases List.mem_cons.1 hm with e' | e'
        · exact e'.symm
        · have := (List.pairwise_cons.1 h.desc).1 _ e'; omega
theorem VersP.find {vers : List Int} {there : List Bool} {L : List Int} (h : VersP vers there L) (hok : ∀ i, i < 8 → there.getD i false = true → 1 ≤ vers.getD i 0) {f : Int → Bool} (hf : ∀ v, f v = true → ∃ i, i < 8 ∧ there.getD i false = true ∧ vers.getD i 0 = v) : (L.find? f).getD 0 = downF f (topF vers).toNat := by
  have h0 := topF_nonneg vers
  refine downF_find h.desc (fun x hx => ?_) fun v hv => (h.mem v).2 (hf v hv)
  obtain ⟨i, hi, ht, hv⟩ := (h.mem x).1 hx
  have := hok i hi ht
  have : vers.getD i 0 ≤ topF vers := topF_ge
  omega
/-- of a version of which there are enough, there is one -/
theorem of_bears {kind : Int} {vers : List Int} {there : List Bool} (h8 : there.length = 8) {v : Int} (h : bearsI kind (flagF (ofF vers there v)) = true) : ∃ i, i < 8 ∧ there.getD i false = true ∧ vers.getD i 0 = v := by
  cases hq : flagF (ofF vers there v) with
  | nil => rw [hq, bears_nil] at h; cases h
  | cons x q =>
    have hm : x ∈ flagF (ofF vers there v) := by rw [hq]; exact List.mem_cons_self
    obtain ⟨j, h1, h2, _⟩ := flag_memT.1 hm
    rw [ofF_len] at h1
    rw [ofF_get h1, Bool.and_eq_true, decide_eq_true_iff] at h2
    exact ⟨j, h1, h2.1, h2.2⟩

/-! ## one put to its place, numbers that may be the same -/
theorem swapT {α : Type} : ∀ (P : List α) (p x : α) (R : List α), ((P ++ p :: x :: R).set (P.length + 1) p).set P.length x = P ++ x :: p :: R
  | [], _, _, _ => rfl
  | y :: P, p, x, R => by
    simp only [List.cons_append, List.length_cons, List.set_cons_succ]
    rw [swapT P]
theorem swapT2 {α : Type} : ∀ (P : List α) (p x : α) (R : List α), ((P ++ p :: x :: R).set P.length x).set (P.length + 1) p = P ++ x :: p :: R
  | [], _, _, _ => rfl
  | y :: P, p, x, R => by
    simp only [List.cons_append, List.length_cons, List.set_cons_succ]
    rw [swapT2 P]
theorem getD_midT {α : Type} (P : List α) (x z : α) (R : List α) : (P ++ x :: R).getD P.length z = x := by
  rw [List.getD, List.getElem?_append_right (Nat.le_refl _), Nat.sub_self]; rfl
theorem getD_midT' {α : Type} (P : List α) (p x z : α) (R : List α) : (P ++ p :: x :: R).getD (P.length + 1) z = x := by
  rw [List.getD, List.getElem?_append_right (by omega), show P.length + 1 - P.length = 1 by omega]; rfl
theorem put_upT {P1 P2 : List Int} {x : Int} (hs : (P1 ++ P2).Pairwise (· ≤ ·)) (h2 : ∀ p ∈ P2, x ≤ p) (h1 : ∀ p ∈ P1, p ≤ x) : (P1 ++ x :: P2).Pairwise (· ≤ ·) := by
  rw [List.pairwise_append] at hs ⊢
  refine ⟨hs.1, List.pairwise_cons.2 ⟨h2, hs.2.1⟩, fun a ha b hb => ?_⟩
  rcases List.mem_cons.1 hb with rfl | hb
  · exact h1 a ha
  · exact hs.2.2 a ha b hb
theorem last_upT {P : List Int} {p : Int} (hs : (P ++ [p]).Pairwise (· ≤ ·)) : ∀ q ∈ P ++ [p], q ≤ p := by
  intro q hq
  rcases List.mem_append.1 hq with h | h
  · exact (List.pairwise_append.1 hs).2.2 q h p (by simp)
  · rw [List.mem_singleton] at h; omega

/-! ## turned round -/
structure RevInv (l h : List Int) (i : Nat) : Prop where
  len : h.length = l.length
  at_ : ∀ k, k < l.length → h.getD k 0 = if k < i ∨ l.length ≤ k + i then l.getD (l.length - 1 - k) 0 else l.getD k 0
theorem RevInv.start (l : List Int) : RevInv l l 0 := ⟨rfl, fun k hk => by rw [if_neg (by omega)]⟩
theorem getD_setT {l : List Int} {i j : Nat} {x : Int} (h : i < l.length) : (l.set i x).getD j 0 = if i = j then x else l.getD j 0 := by
  rw [List.getD, List.getElem?_set]
  by_cases e : i = j
  · rw [if_pos e, if_pos e, if_pos (by omega)]; rfl
  · rw [if_neg e, if_neg e]; rfl
theorem RevInv.step {l h : List Int} {i : Nat} (H : RevInv l h i) (hi : i < l.length - 1 - i) : RevInv l ((h.set i (h.getD (l.length - 1 - i) 0)).set (l.length - 1 - i) (h.getD i 0)) (i + 1) := by
  have hl := H.len
  refine ⟨by rw [List.length_set, List.length_set]; exact H.len, fun k hk => ?_⟩
  rw [getD_setT (by rw [List.length_set]; omega), getD_setT (by omega)]
  by_cases e1 : l.length - 1 - i = k
  · rw [if_pos e1, if_pos (by omega), H.at_ i (by omega), if_neg (by omega), show l.length - 1 - k = i by omega]
  · rw [if_neg e1]
    by_cases e2 : i = k
    · rw [if_pos e2, if_pos (by omega), H.at_ _ (by omega), if_neg (by omega), e2]
    · rw [if_neg e2, H.at_ k hk]
      by_cases e3 : k < i ∨ l.length ≤ k + i
      · rw [if_pos e3, if_pos (by omega)]
      · rw [if_neg e3, if_neg (by omega)]
theorem RevInv.fin {l h : List Int} {i : Nat} (H : RevInv l h i) (hi : l.length ≤ 2 * i + 1) : h = l.reverse := by
  refine List.ext_getElem (by rw [List.length_reverse]; exact H.len) fun k h1 h2 => ?_
  rw [List.length_reverse] at h2
  have := H.at_ k h2
  rw [getD_eq h1] at this
  rw [this, List.getElem_reverse]
  by_cases e : k < i ∨ l.length ≤ k + i
  · rw [if_pos e, getD_eq (by omega)]
  · rw [if_neg e, getD_eq h2]
    congr 1; omega
theorem reverse_desc {l : List Int} (h : l.Pairwise (· ≤ ·)) : l.reverse.Pairwise fun a b => b ≤ a := List.pairwise_reverse.2 h

/-! ## each once -/
structure CmpInv (l h : List Int) (k m : Nat) : Prop where
  len : h.length = l.length
  le : k ≤ m
  pos : 1 ≤ k
  desc : (h.take k).Pairwise fun a b => b < a
  mem : ∀ x, x ∈ h.take k ↔ x ∈ l.take m
  last : h.getD (k - 1) 0 = l.getD (m - 1) 0
  rest : ∀ j, k ≤ j → h.getD j 0 = l.getD j 0
theorem take_succT {l : List Int} {k : Nat} (h : k < l.length) : l.take (k + 1) = l.take k ++ [l.getD k 0] := by
  rw [List.take_succ_eq_append_getElem h, getD_eq h]
theorem CmpInv.one {l : List Int} (h : 1 ≤ l.length) : CmpInv l l 1 1 := by
  refine ⟨rfl, Nat.le_refl _, Nat.le_refl _, ?_, fun x => Iff.rfl, rfl, fun j _ => rfl⟩
  cases l with
  | nil => simp at h
  | cons a l => simp
theorem CmpInv.same {l h : List Int} {k m : Nat} (H : CmpInv l h k m) (hm : m < l.length) (e : l.getD m 0 = l.getD (m - 1) 0) : CmpInv l h k (m + 1) := by
  have := H.le; have := H.pos
  refine ⟨H.len, by omega, H.pos, H.desc, fun x => ?_, by rw [H.last, Nat.add_sub_cancel, e], H.rest⟩
  rw [H.mem x, take_succT hm, List.mem_append, List.mem_singleton, e]
  constructor
  · exact .inl
  · rintro (h | h)
    · exact h
    · subst h
      rw [getD_eq (show m - 1 < l.length by omega)]
      rw [List.mem_take_iff_getElem]
      exact ⟨m - 1, by omega, rfl⟩
theorem CmpInv.new {l h : List Int} {k m : Nat} (H : CmpInv l h k m) (hl : l.Pairwise fun a b => b ≤ a) (hm : m < l.length) (e : l.getD m 0 ≠ l.getD (m - 1) 0) : CmpInv l (h.set k (l.getD m 0)) (k + 1) (m + 1) := by
  have h1 := H.le; have h2 := H.pos; have h3 := H.len
  have hk : k < h.length := by omega
  have htk : (h.set k (l.getD m 0)).take (k + 1) = h.take k ++ [l.getD m 0] := by
    rw [take_succT (by rw [List.length_set]; exact hk), getD_setT hk, if_pos rfl, List.take_set_of_le (Nat.le_refl _)]
  have hlt : l.getD m 0 < l.getD (m - 1) 0 := by
    have := List.pairwise_iff_getElem.1 hl (m - 1) m (by omega) hm (by omega)
    rw [getD_eq hm, getD_eq (show m - 1 < l.length by omega)] at *
    omega
  have hlast : ∀ x ∈ h.take k, l.getD (m - 1) 0 ≤ x := by
    intro x hx
    rw [← H.last]
    obtain ⟨j, hj, rfl⟩ := List.mem_take_iff_getElem.1 hx
    rw [getD_eq (show k - 1 < h.length by omega)]
    by_cases ej : j = k - 1
    · subst ej; exact Int.le_refl _
    · have hd := List.pairwise_iff_getElem.1 H.desc j (k - 1) (by rw [List.length_take]; omega) (by rw [List.length_take]; omega) (by omega)
      rw [List.getElem_take, List.getElem_take] at hd
      omega
  refine ⟨by rw [List.length_set]; exact H.len, by omega, by omega, ?_, fun x => ?_, ?_, fun j hj => ?_⟩
  · rw [htk, List.pairwise_append]
    refine ⟨H.desc, by simp, fun a ha b hb => ?_⟩
    rw [List.mem_singleton] at hb
    subst hb
    have := hlast a ha
    omega
  · rw [htk, take_succT hm, List.mem_append, List.mem_append, H.mem x]
  · rw [Nat.add_sub_cancel, Nat.add_sub_cancel, getD_setT hk, if_pos rfl]
  · rw [getD_setT hk, if_neg (by omega)]
    exact H.rest j (by omega)
theorem CmpInv.fin {l h : List Int} {k : Nat} (H : CmpInv l h k l.length) : (h.take k).Pairwise (fun a b => b < a) ∧ ∀ x, x ∈ h.take k ↔ x ∈ l := by
  refine ⟨H.desc, fun x => ?_⟩
  rw [H.mem x, List.take_length]
theorem mem_revT {l S : List Int} (h : S.Perm l) {x : Int} : x ∈ S.reverse ↔ x ∈ l := by rw [List.mem_reverse]; exact h.mem_iff
end Go.Proofs.YtjoiadaogppmkaaGreat.Sh
