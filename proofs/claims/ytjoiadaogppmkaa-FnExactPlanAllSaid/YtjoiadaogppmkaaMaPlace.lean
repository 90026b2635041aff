/- Plain facts on placements: no program here. -/
import Derived.Test.YtjoiadaogppmkaaMaHouse
namespace Go.Proofs.Ytjoiadaogppmkaa.Sh
set_option linter.unusedVariables false
set_option linter.unusedSimpArgs false

def has (l : List Int) (x : Int) : Bool := decide (x ∈ l)
def iAt (l : List Int) (i : Nat) : Int := l.getD i 0
def placeAtOk (l : List Int) (i : Nat) : Bool := inB (iAt l i) 1 12 && !has (l.take i) (iAt l i)
def placeOk (l : List Int) : Bool := allR (placeAtOk l) 0 l.length && decide (l.length = 8)
theorem placeOk_iff {l : List Int} : placeOk l = true ↔ (∀ x ∈ l, 1 ≤ x ∧ x ≤ 12) ∧ l.Nodup ∧ l.length = 8 := by
  unfold placeOk
  rw [Bool.and_eq_true, allR_iff, decide_eq_true_iff, ← and_assoc]
  refine and_congr_left fun _ => ?_
  constructor
  · intro H
    refine ⟨fun x hx => ?_, ?_⟩
    · obtain ⟨i, hi, rfl⟩ := List.getElem_of_mem hx
      have := H i (Nat.zero_le _) (by omega)
      rw [placeAtOk, Bool.and_eq_true, iAt, getD_eq hi, inB_iff] at this
      exact this.1
    · rw [List.Nodup, List.pairwise_iff_getElem]
      intro i j hi hj hij e
      have := H j (Nat.zero_le _) (by omega)
      rw [placeAtOk, Bool.and_eq_true, iAt, getD_eq hj] at this
      have h2 := this.2
      simp only [has, Bool.not_eq_true', decide_eq_false_iff_not] at h2
      apply h2
      rw [← e, List.mem_take_iff_getElem]
      exact ⟨i, by omega, rfl⟩
  · rintro ⟨h1, h2⟩ j _ hj
    have hj : j < l.length := by omega
    rw [placeAtOk, Bool.and_eq_true, iAt, getD_eq hj, inB_iff]
    refine ⟨h1 _ (List.getElem_mem hj), ?_⟩
    simp only [has, Bool.not_eq_true', decide_eq_false_iff_not]
    intro hm
    rw [List.mem_take_iff_getElem] at hm
    obtain ⟨i, hi, e⟩ := hm
    rw [List.Nodup, List.pairwise_iff_getElem] at h2
    exact h2 i j (by omega) hj (by omega) e

/-- places moved to others -/
def nextL (to : List Int) : List Int → List Int → List Int
  | [], _ => []
  | x :: r, free => bif has to x then x :: nextL to r free else free.headD 0 :: nextL to r free.tail
def lack (to : List Int) (l : List Int) : Nat := l.countP (fun x => !has to x)
def free (is to : List Int) : List Int := to.filter (fun x => !has is x)
def next (is to : List Int) : List Int := nextL to is (free is to)
theorem nextL_length {to : List Int} : ∀ {l f : List Int}, (nextL to l f).length = l.length
  | [], f => rfl
  | x :: r, f => by
    rw [nextL]
    cases has to x <;> simp [nextL_length]
theorem nextL_all {to : List Int} : ∀ {l f : List Int}, (∀ x ∈ l, x ∈ to) → nextL to l f = l
  | [], f, _ => rfl
  | x :: r, f, h => by
    rw [nextL, has, decide_eq_true (h x (by simp)), cond_true, nextL_all fun y hy => h y (by simp [hy])]
theorem nextL_perm {to : List Int} : ∀ {l f : List Int}, lack to l ≤ f.length → (nextL to l f).Perm (l.filter (has to) ++ f.take (lack to l))
  | [], f, _ => by simp [nextL, lack]
  | x :: r, f, h => by
    rw [nextL]
    unfold lack at h ⊢
    rw [List.countP_cons] at h ⊢
    rw [List.filter_cons]
    cases hx : has to x with
    | true =>
      simp only [hx, Bool.not_true, Bool.false_eq_true, if_false, Nat.add_zero, cond_true, if_true, List.cons_append] at h ⊢
      exact (nextL_perm h).cons x
    | false =>
      simp only [hx, Bool.not_false, if_true, cond_false, Bool.false_eq_true, if_false] at h ⊢
      cases f with
      | nil => simp at h
      | cons y f =>
        simp only [List.headD_cons, List.tail_cons, List.take_succ_cons]
        have := nextL_perm (to := to) (l := r) (f := f) (by simp only [List.length_cons] at h; unfold lack; omega)
        exact (this.cons y).trans List.perm_middle.symm
theorem nextL_keep {to : List Int} : ∀ {l f : List Int} (i : Nat) (h : i < l.length), l[i] ∈ to → (nextL to l f)[i]? = some l[i]
  | [], f, i, h, _ => by simp at h
  | x :: r, f, 0, h, hm => by
    rw [nextL, has, decide_eq_true (show x ∈ to from hm), cond_true]
    rfl
  | x :: r, f, i + 1, h, hm => by
    rw [nextL]
    cases has to x <;> simp only [cond_true, cond_false, List.getElem?_cons_succ, List.getElem_cons_succ] <;> exact nextL_keep i (by simpa using h) hm
theorem lack_eq {a b : List Int} (ha : a.Nodup) (hb : b.Nodup) (h : a.length = b.length) : lack b a = lack a b := by
  have e : (a.filter (has b)).length = (b.filter (has a)).length := by
    refine List.Perm.length_eq ?_
    rw [List.perm_ext_iff_of_nodup (ha.filter _) (hb.filter _)]
    intro x
    simp only [List.mem_filter, has, decide_eq_true_iff]
    exact And.comm
  have h1 := List.length_eq_countP_add_countP (has b) (l := a)
  have h2 := List.length_eq_countP_add_countP (has a) (l := b)
  rw [← List.countP_eq_length_filter, ← List.countP_eq_length_filter] at e
  unfold lack
  have c1 : a.countP (fun x => !has b x) = a.countP (fun x => decide (¬ has b x = true)) := by congr 1; funext x; cases has b x <;> rfl
  have c2 : b.countP (fun x => !has a x) = b.countP (fun x => decide (¬ has a x = true)) := by congr 1; funext x; cases has a x <;> rfl
  rw [c1, c2]
  omega
theorem free_length {is to : List Int} : (free is to).length = lack is to := by
  rw [free, lack, List.countP_eq_length_filter]
theorem next_perm {is to : List Int} (hi : is.Nodup) (ht : to.Nodup) (h : is.length = to.length) : (next is to).Perm to := by
  have hl := lack_eq hi ht h
  refine (nextL_perm (by rw [free_length, hl]; exact Nat.le_refl _)).trans ?_
  rw [hl, ← free_length, List.take_length]
  have e : (is.filter (has to)).Perm (to.filter (has is)) := by
    rw [List.perm_ext_iff_of_nodup (hi.filter _) (ht.filter _)]
    intro x
    simp only [List.mem_filter, has, decide_eq_true_iff]
    exact And.comm
  exact (e.append_right _).trans (List.filter_append_perm (has is) to)
theorem next_length {is to : List Int} : (next is to).length = is.length := nextL_length
theorem placeOk_next {is to : List Int} (hi : placeOk is = true) (ht : placeOk to = true) : placeOk (next is to) = true := by
  rw [placeOk_iff] at hi ht ⊢
  have p := next_perm hi.2.1 ht.2.1 (by omega)
  exact ⟨fun x hx => ht.1 x (p.mem_iff.1 hx), p.nodup_iff.2 ht.2.1, by rw [next_length]; exact hi.2.2⟩
/-- how many stand elsewhere -/
def movesL : List Int → List Int → Nat
  | x :: a, y :: b => (bif decide (x = y) then 0 else 1) + movesL a b
  | _, _ => 0
theorem movesL_self : ∀ {a : List Int}, movesL a a = 0
  | [] => rfl
  | x :: a => by simp [movesL, movesL_self]
theorem movesL_nextL {to : List Int} : ∀ {l f : List Int}, lack to l ≤ f.length → (∀ x ∈ f, x ∉ l) → movesL (nextL to l f) l = lack to l
  | [], f, _, _ => rfl
  | x :: r, f, h, hf => by
    rw [nextL]
    unfold lack at h ⊢
    rw [List.countP_cons] at h ⊢
    cases hx : has to x with
    | true =>
      simp only [hx, Bool.not_true, Bool.false_eq_true, if_false, Nat.add_zero, cond_true] at h ⊢
      rw [movesL, movesL_nextL h fun y hy hm => hf y hy (by simp [hm])]
      simp [lack]
    | false =>
      simp only [hx, Bool.not_false, if_true, cond_false] at h ⊢
      cases f with
      | nil => simp at h
      | cons y f =>
        simp only [List.headD_cons, List.tail_cons]
        have hy : ¬ y = x := fun e => hf y (by simp) (by simp [e])
        rw [movesL, movesL_nextL (by simp only [List.length_cons] at h; unfold lack; omega) fun z hz hm => hf z (by simp [hz]) (by simp [hm]), decide_eq_false hy]
        simp [lack]
        omega
def moves (is to : List Int) : Nat := movesL (next is to) is
theorem moves_eq {is to : List Int} (hi : is.Nodup) (ht : to.Nodup) (h : is.length = to.length) : moves is to = lack is to := by
  have hl := lack_eq hi ht h
  rw [moves, next, movesL_nextL (by rw [free_length, hl]; exact Nat.le_refl _), hl]
  intro x hx
  simpa [free, has] using (List.mem_filter.1 hx).2
theorem moves_in {is to : List Int} (h : ∀ x ∈ is, x ∈ to) : moves is to = 0 := by
  rw [moves, next, nextL_all h, movesL_self]
theorem movesL_countR : ∀ {a b : List Int} (n i : Nat), a.length = b.length → i + n = a.length → countR (fun j => !decide (a.getD j 0 = b.getD j 0)) i n = movesL (a.drop i) (b.drop i)
  | a, b, 0, i, h, e => by
    rw [List.drop_of_length_le (by omega)]; rfl
  | a, b, n + 1, i, h, e => by
    rw [countR, movesL_countR n (i + 1) h (by omega), drop_cons (show i < a.length by omega), drop_cons (show i < b.length by omega), movesL, getD_eq (show i < a.length by omega), getD_eq (show i < b.length by omega)]
    cases decide (a[i]'(by omega) = b[i]'(by omega)) <;> rfl

end Go.Proofs.Ytjoiadaogppmkaa.Sh
