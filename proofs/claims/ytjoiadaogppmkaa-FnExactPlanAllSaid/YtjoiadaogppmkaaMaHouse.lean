/- Plain facts on lists, houses and places: no program here. -/
import Derived.KernelRfl
namespace Go.Proofs.Ytjoiadaogppmkaa.Sh
set_option linter.unusedVariables false
set_option linter.unusedSimpArgs false

/-! ## ranges -/
def allR (p : Nat → Bool) : Nat → Nat → Bool
  | _, 0 => true
  | i, n + 1 => p i && allR p (i + 1) n
theorem allR_iff {p : Nat → Bool} : ∀ {n i : Nat}, allR p i n = true ↔ ∀ j, i ≤ j → j < i + n → p j = true
  | 0, i => by
    simp only [allR, true_iff]
    intro j h1 h2; omega
  | n + 1, i => by
    rw [allR, Bool.and_eq_true, allR_iff]
    constructor
    · rintro ⟨h1, h2⟩ j hj hj'
      rcases Nat.eq_or_lt_of_le hj with rfl | h
      · exact h1
      · exact h2 j h (by omega)
    · intro h
      exact ⟨h i (Nat.le_refl _) (by omega), fun j hj hj' => h j (by omega) (by omega)⟩
theorem allR_congr {p q : Nat → Bool} : ∀ {n i : Nat}, (∀ j, i ≤ j → j < i + n → p j = q j) → allR p i n = allR q i n
  | 0, i, _ => rfl
  | n + 1, i, h => by
    rw [allR, allR, h i (Nat.le_refl _) (by omega), allR_congr fun j h1 h2 => h j (by omega) (by omega)]
theorem bool_eq {a b : Bool} (h : a = true ↔ b = true) : a = b := by
  cases a <;> cases b <;> simp_all

theorem getD_eq {α : Type} {l : List α} {i : Nat} {z : α} (h : i < l.length) : l.getD i z = l[i] := by
  simp [List.getD, List.getElem?_eq_getElem h]
theorem eqR {α : Type} [DecidableEq α] {a b : List α} {z : α} (h : a.length = b.length) : allR (fun j => decide (a.getD j z = b.getD j z)) 0 a.length = decide (a = b) := by
  refine bool_eq ?_
  rw [allR_iff, decide_eq_true_iff]
  constructor
  · intro H
    refine List.ext_getElem h fun i h1 h2 => ?_
    have := H i (Nat.zero_le _) (by omega)
    rw [decide_eq_true_iff, getD_eq h1, getD_eq h2] at this
    exact this
  · rintro rfl j _ _
    simp

/-- the first from 'i' on, within 'n', that is so; its value -/
def findR {α : Type} (p : Nat → Bool) (v : Nat → α) (d : α) : Nat → Nat → α
  | _, 0 => d
  | i, n + 1 => bif p i then v i else findR p v d (i + 1) n
/-- how many -/
def countR (p : Nat → Bool) : Nat → Nat → Nat
  | _, 0 => 0
  | i, n + 1 => (bif p i then 1 else 0) + countR p (i + 1) n
theorem countR_le {p : Nat → Bool} : ∀ {n i : Nat}, countR p i n ≤ n
  | 0, i => Nat.le_refl _
  | n + 1, i => by
    have := countR_le (p := p) (n := n) (i := i + 1)
    rw [countR]
    cases p i <;> simp <;> omega
theorem countR_congr {p q : Nat → Bool} : ∀ {n i : Nat}, (∀ j, i ≤ j → j < i + n → p j = q j) → countR p i n = countR q i n
  | 0, i, _ => rfl
  | n + 1, i, h => by
    rw [countR, countR, h i (Nat.le_refl _) (by omega), countR_congr fun j h1 h2 => h j (by omega) (by omega)]
/-- those -/
def filterR {α : Type} (p : Nat → Bool) (v : Nat → α) : Nat → Nat → List α
  | _, 0 => []
  | i, n + 1 => bif p i then v i :: filterR p v (i + 1) n else filterR p v (i + 1) n
theorem drop_cons {α : Type} {l : List α} {i : Nat} (h : i < l.length) : l.drop i = l[i] :: l.drop (i + 1) := (List.getElem_cons_drop h).symm
theorem filterR_drop {α : Type} {l : List α} {z : α} (p : α → Bool) : ∀ {n i : Nat}, i + n = l.length → filterR (fun j => p (l.getD j z)) (fun j => l.getD j z) i n = (l.drop i).filter p
  | 0, i, h => by rw [List.drop_of_length_le (by omega)]; rfl
  | n + 1, i, h => by
    rw [filterR, filterR_drop p (by omega), drop_cons (show i < l.length by omega), List.filter_cons, getD_eq (show i < l.length by omega)]
    cases p (l[i]'(by omega)) <;> simp
theorem filterR_filter {α : Type} {l : List α} {z : α} (p : α → Bool) : filterR (fun j => p (l.getD j z)) (fun j => l.getD j z) 0 l.length = l.filter p := by
  rw [filterR_drop p (by omega), List.drop_zero]
def mapR {α : Type} (v : Nat → α) : Nat → Nat → List α
  | _, 0 => []
  | i, n + 1 => v i :: mapR v (i + 1) n
theorem mapR_drop {α β : Type} {l : List α} {z : α} (g : α → β) : ∀ {n i : Nat}, i + n = l.length → mapR (fun j => g (l.getD j z)) i n = (l.drop i).map g
  | 0, i, h => by rw [List.drop_of_length_le (by omega)]; rfl
  | n + 1, i, h => by
    rw [mapR, mapR_drop g (by omega), drop_cons (show i < l.length by omega), List.map_cons, getD_eq (show i < l.length by omega)]
theorem mapR_map {α β : Type} {l : List α} {z : α} (g : α → β) : mapR (fun j => g (l.getD j z)) 0 l.length = l.map g := by
  rw [mapR_drop g (by omega), List.drop_zero]
theorem findR_drop {α β : Type} {l : List α} {z : α} (p : α → Bool) (v : α → β) (d : β) : ∀ {n i : Nat}, i + n = l.length →
    findR (fun j => p (l.getD j z)) (fun j => v (l.getD j z)) d i n = match (l.drop i).find? p with | some x => v x | none => d
  | 0, i, h => by rw [List.drop_of_length_le (by omega)]; rfl
  | n + 1, i, h => by
    rw [findR, findR_drop p v d (by omega), drop_cons (show i < l.length by omega), List.find?_cons, getD_eq (show i < l.length by omega)]
    cases p (l[i]'(by omega)) <;> simp
theorem countR_drop {α : Type} {l : List α} {z : α} (p : α → Bool) : ∀ {n i : Nat}, i + n = l.length → countR (fun j => p (l.getD j z)) i n = (l.drop i).countP p
  | 0, i, h => by rw [List.drop_of_length_le (by omega)]; rfl
  | n + 1, i, h => by
    rw [countR, countR_drop p (by omega), drop_cons (show i < l.length by omega), List.countP_cons, getD_eq (show i < l.length by omega)]
    cases p (l[i]'(by omega)) <;> simp <;> omega
theorem countR_countP {α : Type} {l : List α} {z : α} (p : α → Bool) : countR (fun j => p (l.getD j z)) 0 l.length = l.countP p := by
  rw [countR_drop p (by omega), List.drop_zero]

/-! ## filling -/
theorem fill_done {α : Type} {out a : List α} (h : out.length = a.length) (H : ∀ j, j < a.length → out[j]? = a[j]?) : out = a := by
  refine List.ext_getElem? fun i => ?_
  by_cases hi : i < a.length
  · exact H i hi
  · rw [List.getElem?_eq_none (by omega), List.getElem?_eq_none (by omega)]
theorem fill_step {α : Type} {out a : List α} {i : Nat} {x : α} (h : out.length = a.length) (hx : a[i]? = some x) (H : ∀ j, j < i → out[j]? = a[j]?) : ∀ j, j < i + 1 → (out.set i x)[j]? = a[j]? := by
  intro j hj
  have hi : i < a.length := (List.getElem?_eq_some_iff.1 hx).1
  rw [List.getElem?_set]
  by_cases e : i = j
  · subst e
    rw [if_pos rfl, if_pos (by omega), hx]
  · rw [if_neg e]
    exact H j (by omega)
def marks {α : Type} (g : Int → α) (k : Int) (n : Nat) : List α := (List.range n).map fun i : Nat => g (k + (i : Int))
theorem marks_length {α : Type} {g : Int → α} {k : Int} {n : Nat} : (marks g k n).length = n := by simp [marks]
theorem marks_get {α : Type} {g : Int → α} {k : Int} {n i : Nat} (h : i < n) : (marks g k n)[i]? = some (g (k + i)) := by
  simp [marks, h]

/-! ## houses -/
abbrev House := Int × Int × Int
def inB (n lo hi : Int) : Bool := decide (lo ≤ n) && decide (n ≤ hi)
theorem inB_iff {n lo hi : Int} : inB n lo hi = true ↔ lo ≤ n ∧ n ≤ hi := by simp [inB]
def houseOk (h : House) : Bool := (inB h.1 1 12 && inB h.2.1 1 4) && inB h.2.2 1 9
theorem houseOk_iff {h : House} : houseOk h = true ↔ (1 ≤ h.1 ∧ h.1 ≤ 12) ∧ (1 ≤ h.2.1 ∧ h.2.1 ≤ 4) ∧ 1 ≤ h.2.2 ∧ h.2.2 ≤ 9 := by
  simp only [houseOk, Bool.and_eq_true, inB_iff, and_assoc]
def hAt (l : List House) (i : Nat) : House := l.getD i (0, 0, 0)
def houseAtOk (l : List House) (i : Nat) : Bool := houseOk (hAt l i) && (decide (i = 0) || decide ((hAt l (i - 1)).1 < (hAt l i).1))
theorem houseAt_zero (l : List House) : houseAtOk l 0 = houseOk (hAt l 0) := by simp [houseAtOk]
theorem houseAt_succ (l : List House) (i : Nat) : houseAtOk l (i + 1) = (houseOk (hAt l (i + 1)) && decide ((hAt l i).1 < (hAt l (i + 1)).1)) := by simp [houseAtOk]
def housesOk (l : List House) : Bool := allR (houseAtOk l) 0 l.length
theorem housesOk_iff {l : List House} : housesOk l = true ↔ (∀ h ∈ l, houseOk h = true) ∧ l.Pairwise (fun a b => a.1 < b.1) := by
  unfold housesOk
  rw [allR_iff]
  constructor
  · intro H
    refine ⟨fun h hh => ?_, ?_⟩
    · obtain ⟨i, hi, rfl⟩ := List.getElem_of_mem hh
      have := H i (Nat.zero_le _) (by omega)
      rw [houseAtOk, Bool.and_eq_true, hAt, getD_eq hi] at this
      exact this.1
    · have adj : ∀ i (h : i + 1 < l.length), (l[i]'(by omega)).1 < (l[i + 1]).1 := by
        intro i h
        have := H (i + 1) (Nat.zero_le _) (by omega)
        rw [houseAtOk, Bool.and_eq_true, Bool.or_eq_true, decide_eq_true_iff, decide_eq_true_iff, hAt, hAt, getD_eq h, Nat.add_sub_cancel, getD_eq (show i < l.length by omega)] at this
        rcases this.2 with h0 | h1
        · omega
        · exact h1
      rw [List.pairwise_iff_getElem]
      have far : ∀ k i (h : i + k + 1 < l.length), (l[i]'(by omega)).1 < (l[i + k + 1]).1 := by
        intro k
        induction k with
        | zero => intro i h; exact adj i h
        | succ k ih =>
          intro i h
          have h1 := ih i (by omega)
          have h2 := adj (i + k + 1) h
          exact Int.lt_trans h1 h2
      intro i j hi hj hij
      have e : j = i + (j - i - 1) + 1 := by omega
      have := far (j - i - 1) i (by omega)
      simpa only [← e] using this
  · rintro ⟨h1, h2⟩ j _ hj
    have hj : j < l.length := by omega
    rw [houseAtOk, Bool.and_eq_true, Bool.or_eq_true, decide_eq_true_iff, decide_eq_true_iff, hAt, hAt, getD_eq hj]
    refine ⟨h1 _ (List.getElem_mem hj), ?_⟩
    cases j with
    | zero => exact .inl rfl
    | succ j =>
      right
      rw [Nat.add_sub_cancel, getD_eq (show j < l.length by omega)]
      exact List.pairwise_iff_getElem.1 h2 j (j + 1) (by omega) hj (by omega)

def houseRack (l : List House) (id : Int) : Int := match l.find? (fun h => decide (h.1 = id)) with | some h => h.2.1 | none => 0
theorem houseRack_findR (l : List House) (id : Int) : findR (fun j => decide ((l.getD j (0, 0, 0)).1 = id)) (fun j => (l.getD j (0, 0, 0)).2.1) 0 0 l.length = houseRack l id := by
  have := findR_drop (l := l) (z := (0, 0, 0)) (fun h : House => decide (h.1 = id)) (fun h => h.2.1) (0 : Int) (n := l.length) (i := 0) (by omega)
  rw [this, List.drop_zero, houseRack]
  cases l.find? (fun h => decide (h.1 = id)) <;> rfl
def housesLess (l : List House) (id : Int) : List House := l.filter (fun h => !decide (h.1 = id))

theorem asc_length : ∀ {l : List Int} {lo hi : Int}, (∀ x ∈ l, lo ≤ x ∧ x ≤ hi) → l.Pairwise (· < ·) → lo ≤ hi + 1 → (l.length : Int) ≤ hi + 1 - lo
  | [], lo, hi, _, _, h => by simp; omega
  | x :: l, lo, hi, h1, h2, h3 => by
    have hx := h1 x (by simp)
    rw [List.pairwise_cons] at h2
    have := asc_length (l := l) (lo := x + 1) (hi := hi) (fun y hy => ⟨h2.1 y hy, (h1 y (by simp [hy])).2⟩) h2.2 (by omega)
    simp only [List.length_cons]
    omega
theorem houses_length {l : List House} (h : housesOk l = true) : l.length ≤ 12 := by
  rw [housesOk_iff] at h
  have := asc_length (l := l.map (·.1)) (lo := 1) (hi := 12) (by
    intro x hx
    obtain ⟨y, hy, rfl⟩ := List.mem_map.1 hx
    exact (houseOk_iff.1 (h.1 y hy)).1) (by rw [List.pairwise_map]; exact h.2) (by omega)
  simp at this
  omega
theorem housesOk_sub {l m : List House} (hs : m.Sublist l) (h : housesOk l = true) : housesOk m = true := by
  rw [housesOk_iff] at h ⊢
  exact ⟨fun x hx => h.1 x (hs.subset hx), h.2.sublist hs⟩
theorem housesOk_less {l : List House} (id : Int) (h : housesOk l = true) : housesOk (housesLess l id) = true := housesOk_sub List.filter_sublist h
theorem asc_inj {l : List House} (h : l.Pairwise (fun a b => a.1 < b.1)) {a b : House} (ha : a ∈ l) (hb : b ∈ l) (e : a.1 = b.1) : a = b := by
  obtain ⟨i, hi, rfl⟩ := List.getElem_of_mem ha
  obtain ⟨j, hj, rfl⟩ := List.getElem_of_mem hb
  rw [List.pairwise_iff_getElem] at h
  rcases Nat.lt_trichotomy i j with c | c | c
  · have := h i j hi hj c; omega
  · subst c; rfl
  · have := h j i hj hi c; omega
theorem houseRack_mem {l : List House} (h : l.Pairwise (fun a b => a.1 < b.1)) {x : House} (hx : x ∈ l) : houseRack l x.1 = x.2.1 := by
  unfold houseRack
  split
  · rename_i y hy
    have h1 := List.find?_some hy
    have h2 := List.mem_of_find?_eq_some hy
    rw [asc_inj h h2 hx (by simpa using h1)]
  · rename_i hn
    have := List.find?_eq_none.1 hn x hx
    simp at this
theorem houseRack_none {l : List House} {id : Int} (h : ∀ x ∈ l, x.1 ≠ id) : houseRack l id = 0 := by
  unfold houseRack
  rw [List.find?_eq_none.2 (by intro x hx; simpa using h x hx)]

end Go.Proofs.Ytjoiadaogppmkaa.Sh
