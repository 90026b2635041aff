/- Plain facts on looking for, deleting, marking: no program here. -/
import Derived.Test.YtjoiadaogppmkaaMaPlace
namespace Go.Proofs.Ytjoiadaogppmkaa.Sh
set_option linter.unusedVariables false
set_option linter.unusedSimpArgs false

theorem findI_spec {p : Nat → Bool} : ∀ {n i : Nat}, (findR p (fun j => (j : Int)) (-1) i n = -1 ∧ ∀ j, i ≤ j → j < i + n → p j = false) ∨
    ∃ j, i ≤ j ∧ j < i + n ∧ findR p (fun j => (j : Int)) (-1) i n = (j : Int) ∧ p j = true ∧ ∀ q, i ≤ q → q < j → p q = false
  | 0, i => .inl ⟨rfl, fun j h1 h2 => by omega⟩
  | n + 1, i => by
    rw [findR]
    cases hp : p i with
    | true => exact .inr ⟨i, Nat.le_refl _, by omega, rfl, hp, fun q h1 h2 => by omega⟩
    | false =>
      rw [cond_false]
      rcases findI_spec (p := p) (n := n) (i := i + 1) with ⟨h1, h2⟩ | ⟨j, h1, h2, h3, h4, h5⟩
      · refine .inl ⟨h1, fun j g1 g2 => ?_⟩
        rcases Nat.eq_or_lt_of_le g1 with rfl | g
        · exact hp
        · exact h2 j g (by omega)
      · refine .inr ⟨j, by omega, by omega, h3, h4, fun q g1 g2 => ?_⟩
        rcases Nat.eq_or_lt_of_le g1 with rfl | g
        · exact hp
        · exact h5 q g g2
theorem has_findR {l : List Int} {x : Int} : findR (fun j => decide (l.getD j 0 = x)) (fun _ => true) false 0 l.length = has l x := by
  rw [findR_drop (l := l) (z := 0) (fun y => decide (y = x)) (fun _ => true) false (by omega), List.drop_zero, has]
  cases h : l.find? (fun y => decide (y = x)) with
  | none =>
    have := List.find?_eq_none.1 h
    symm
    rw [decide_eq_false_iff_not]
    intro hm
    exact this x hm (by simp)
  | some y =>
    have h1 := List.find?_some h
    have h2 := List.mem_of_find?_eq_some h
    simp at h1
    subst h1
    simp [h2]
theorem hasI_findR {l : List Int} {x : Int} : decide ((0 : Int) ≤ findR (fun j => decide (x = l.getD j 0)) (fun j => (j : Int)) (-1) 0 l.length) = has l x := by
  rw [has]
  rcases findI_spec (p := fun j => decide (x = l.getD j 0)) (n := l.length) (i := 0) with ⟨h1, h2⟩ | ⟨j, h1, h2, h3, h4, h5⟩
  · rw [h1]
    symm
    rw [show decide ((0 : Int) ≤ -1) = false from rfl, decide_eq_false_iff_not]
    intro hm
    obtain ⟨i, hi, e⟩ := List.getElem_of_mem hm
    have := h2 i (Nat.zero_le _) (by omega)
    rw [decide_eq_false_iff_not, getD_eq hi] at this
    exact this e.symm
  · rw [h3, decide_eq_true (by omega)]
    symm
    rw [decide_eq_true_iff]
    have h4 := of_decide_eq_true h4
    rw [getD_eq (show j < l.length by omega)] at h4
    rw [h4]
    exact List.getElem_mem _

/-! ## deleting -/
structure DInv {α : Type} (p : α → Bool) (l h : List α) (i j : Nat) : Prop where
  len : h.length = l.length
  lt : i < j
  le : j ≤ l.length
  done : h.take i = (l.take j).filter fun x => !p x
  rest : ∀ q, j ≤ q → h[q]? = l[q]?
theorem take_succ' {α : Type} {l : List α} {j : Nat} (h : j < l.length) : l.take (j + 1) = l.take j ++ [l[j]] := by
  rw [List.take_add_one, List.getElem?_eq_getElem h]; rfl
theorem DInv.start {α : Type} {p : α → Bool} {l : List α} {i : Nat} (hi : i < l.length) (h1 : p l[i] = true) (h2 : ∀ q (h : q < l.length), q < i → p l[q] = false) : DInv p l l i (i + 1) := by
  refine ⟨rfl, by omega, by omega, ?_, fun q _ => rfl⟩
  rw [take_succ' hi, List.filter_append]
  simp only [List.filter_cons, h1, Bool.not_true, Bool.false_eq_true, if_false, List.filter_nil, List.append_nil]
  symm
  rw [List.filter_eq_self]
  intro x hx
  rw [List.mem_take_iff_getElem] at hx
  obtain ⟨q, hq, rfl⟩ := hx
  rw [h2 q (by omega) (by omega)]
  rfl
theorem DInv.get {α : Type} {p : α → Bool} {l h : List α} {i j : Nat} (H : DInv p l h i j) (hj : j < l.length) {z : α} : h.getD j z = l[j] := by
  have := H.rest j (Nat.le_refl _)
  rw [List.getD, this, List.getElem?_eq_getElem hj]
  rfl
theorem DInv.keep {α : Type} {p : α → Bool} {l h : List α} {i j : Nat} (H : DInv p l h i j) (hj : j < l.length) (hp : p l[j] = false) : DInv p l (h.set i l[j]) (i + 1) (j + 1) := by
  have := H.len; have := H.lt
  refine ⟨by rw [List.length_set]; exact H.len, by omega, by omega, ?_, fun q hq => ?_⟩
  · rw [take_succ' (show i < (h.set i l[j]).length by rw [List.length_set]; omega), take_succ' hj, List.filter_append, List.take_set_of_le (Nat.le_refl _), H.done]
    simp [hp]
  · rw [List.getElem?_set_ne (by omega)]
    exact H.rest q (by omega)
theorem DInv.drop {α : Type} {p : α → Bool} {l h : List α} {i j : Nat} (H : DInv p l h i j) (hj : j < l.length) (hp : p l[j] = true) : DInv p l h i (j + 1) := by
  have := H.lt
  refine ⟨H.len, by omega, by omega, ?_, fun q hq => H.rest q (by omega)⟩
  rw [take_succ' hj, List.filter_append, H.done]
  simp [hp]
theorem DInv.fin {α : Type} {p : α → Bool} {l h : List α} {i j : Nat} (H : DInv p l h i j) (hj : j = l.length) : h.take i = l.filter fun x => !p x := by
  rw [H.done, hj, List.take_length]

/-! ## marking -/
theorem marks_getD {α : Type} {g : Int → α} {k : Int} {n i : Nat} {z : α} (h : i < n) : (marks g k n).getD i z = g (k + i) := by
  rw [List.getD, marks_get h]; rfl
def marksH (k : Int) (n : Nat) : List House := (List.range n).map fun i : Nat => (k + 3 * (i : Int), k + 3 * (i : Int) + 1, k + 3 * (i : Int) + 2)
theorem marksH_length {k : Int} {n : Nat} : (marksH k n).length = n := by simp [marksH]
theorem marksH_get {k : Int} {n i : Nat} (h : i < n) : (marksH k n)[i]? = some (k + 3 * (i : Int), k + 3 * (i : Int) + 1, k + 3 * (i : Int) + 2) := by
  simp [marksH, h]
theorem marksH_getD {k : Int} {n i : Nat} {z : House} (h : i < n) : (marksH k n).getD i z = (k + 3 * (i : Int), k + 3 * (i : Int) + 1, k + 3 * (i : Int) + 2) := by
  rw [List.getD, marksH_get h]; rfl
theorem get_set_self {α : Type} {l : List α} {i : Nat} {x z : α} (h : i < l.length) : (l.set i x).getD i z = x := by
  rw [List.getD, List.getElem?_set_self h]; rfl

end Go.Proofs.Ytjoiadaogppmkaa.Sh
