/- Plain facts on houses in the order of their scores: no program here. -/
import Derived.Test.YtiagcjjobfoflaaMaRank
namespace Go.Proofs.Ytiagcjjobfoflaa.Sh
set_option linter.unusedVariables false
set_option linter.unusedSimpArgs false

def before (sc : House → Int) (a b : House) : Prop := sc b < sc a ∨ (sc a = sc b ∧ a.1 < b.1)
theorem before_trans {sc : House → Int} {a b c : House} (h1 : before sc a b) (h2 : before sc b c) : before sc a c := by
  unfold before at *; omega
theorem before_asymm {sc : House → Int} {a b : House} (h1 : before sc a b) (h2 : before sc b a) : False := by
  unfold before at *; omega
theorem before_irrefl {sc : House → Int} {a : House} (h : before sc a a) : False := before_asymm h h
theorem before_total {sc : House → Int} {a b : House} (h : a.1 ≠ b.1) (hn : ¬ before sc a b) : before sc b a := by
  unfold before at *; omega

theorem sorted_unique {sc : House → Int} : ∀ {l m : List House}, l.Pairwise (before sc) → m.Pairwise (before sc) → (∀ x, x ∈ l ↔ x ∈ m) → l = m
  | [], [], _, _, _ => rfl
  | [], b :: m, _, _, h => absurd ((h b).2 (by simp)) (by simp)
  | a :: l, [], _, _, h => absurd ((h a).1 (by simp)) (by simp)
  | a :: l, b :: m, h1, h2, h => by
    rw [List.pairwise_cons] at h1 h2
    have e : a = b := by
      rcases List.mem_cons.1 ((h a).1 (by simp)) with e | e
      · exact e
      · rcases List.mem_cons.1 ((h b).2 (by simp)) with e' | e'
        · exact e'.symm
        · exact (before_asymm (h2.1 a e) (h1.1 b e')).elim
    subst e
    rw [sorted_unique h1.2 h2.2 fun x => ?_]
    constructor
    · intro hx
      rcases List.mem_cons.1 ((h x).1 (List.mem_cons_of_mem _ hx)) with e | e
      · subst e; exact (before_irrefl (h1.1 x hx)).elim
      · exact e
    · intro hx
      rcases List.mem_cons.1 ((h x).2 (List.mem_cons_of_mem _ hx)) with e | e
      · subst e; exact (before_irrefl (h2.1 x hx)).elim
      · exact e

/-! ## one put to its place -/
theorem swap1 {α : Type} : ∀ (P : List α) (p x : α) (R : List α), ((P ++ p :: x :: R).set (P.length + 1) p).set P.length x = P ++ x :: p :: R
  | [], _, _, _ => rfl
  | y :: P, p, x, R => by
    simp only [List.cons_append, List.length_cons, List.set_cons_succ]
    rw [swap1 P]
theorem swap2 {α : Type} : ∀ (P : List α) (p x : α) (R : List α), ((P ++ p :: x :: R).set P.length x).set (P.length + 1) p = P ++ x :: p :: R
  | [], _, _, _ => rfl
  | y :: P, p, x, R => by
    simp only [List.cons_append, List.length_cons, List.set_cons_succ]
    rw [swap2 P]
theorem getD_mid {α : Type} (P : List α) (x z : α) (R : List α) : (P ++ x :: R).getD P.length z = x := by
  rw [List.getD, List.getElem?_append_right (Nat.le_refl _), Nat.sub_self]; rfl
theorem getD_mid' {α : Type} (P : List α) (p x z : α) (R : List α) : (P ++ p :: x :: R).getD (P.length + 1) z = x := by
  rw [List.getD, List.getElem?_append_right (by omega), show P.length + 1 - P.length = 1 by omega]; rfl
theorem put_sorted {sc : House → Int} {P1 P2 : List House} {x : House} (hs : (P1 ++ P2).Pairwise (before sc)) (h2 : ∀ p ∈ P2, before sc x p) (h1 : ∀ p ∈ P1, before sc p x) : (P1 ++ x :: P2).Pairwise (before sc) := by
  rw [List.pairwise_append] at hs ⊢
  refine ⟨hs.1, List.pairwise_cons.2 ⟨h2, hs.2.1⟩, fun a ha b hb => ?_⟩
  rcases List.mem_cons.1 hb with rfl | hb
  · exact h1 a ha
  · exact hs.2.2 a ha b hb

/-! ## the best, one by one -/
theorem bestR_best {score : Nat → Int} {done : Nat → Bool} : ∀ {n i : Nat} {best : Option Nat} {b : Nat}, (∀ c, best = some c → c < i) → (∀ j, j < i → done j = false → ∃ c, best = some c ∧ (j = c ∨ score j < score c ∨ (score j = score c ∧ c < j))) →
    bestR score done n i best = some b → ∀ j, j < i + n → done j = false → j = b ∨ score j < score b ∨ (score j = score b ∧ b < j)
  | 0, i, best, b, hc, h, e, j, hj, hd => by
    have e : best = some b := by cases best <;> exact e
    obtain ⟨c, h1, h2⟩ := h j (by omega) hd
    rw [e] at h1; cases h1
    exact h2
  | n + 1, i, best, b, hc, h, e, j, hj, hd => by
    rw [bestR_succ] at e
    cases hi : done i with
    | true =>
      rw [hi, cond_true] at e
      refine bestR_best (n := n) (i := i + 1) (fun c hc' => by have := hc c hc'; omega) (fun q hq hqd => ?_) e j (by omega) hd
      rcases Nat.lt_succ_iff_lt_or_eq.1 hq with g | rfl
      · exact h q g hqd
      · rw [hi] at hqd; cases hqd
    | false =>
      rw [hi, cond_false] at e
      cases best with
      | none =>
        refine bestR_best (n := n) (i := i + 1) (best := some i) (fun c hc' => by cases hc'; omega) (fun q hq hqd => ?_) e j (by omega) hd
        rcases Nat.lt_succ_iff_lt_or_eq.1 hq with g | rfl
        · obtain ⟨c, h1, _⟩ := h q g hqd; cases h1
        · exact ⟨q, rfl, .inl rfl⟩
      | some c =>
        have hci := hc c rfl
        dsimp only at e
        cases hk : decide (score c < score i) with
        | true =>
          rw [hk, cond_true] at e
          have hk := of_decide_eq_true hk
          refine bestR_best (n := n) (i := i + 1) (best := some i) (fun c hc' => by cases hc'; omega) (fun q hq hqd => ⟨i, rfl, ?_⟩) e j (by omega) hd
          rcases Nat.lt_succ_iff_lt_or_eq.1 hq with g | rfl
          · obtain ⟨c', h1, h2⟩ := h q g hqd
            cases h1
            rcases h2 with rfl | h2 | h2 <;> omega
          · exact .inl rfl
        | false =>
          rw [hk, cond_false] at e
          have hk := of_decide_eq_false hk
          refine bestR_best (n := n) (i := i + 1) (best := some c) (fun c' hc' => by cases hc'; omega) (fun q hq hqd => ⟨c, rfl, ?_⟩) e j (by omega) hd
          rcases Nat.lt_succ_iff_lt_or_eq.1 hq with g | rfl
          · obtain ⟨c', h1, h2⟩ := h q g hqd
            cases h1
            exact h2
          · omega
/-- the houses themselves, in the order of their ranks -/
def ranksH (score : Nat → Int) (at' : Nat → House) : Nat → List Bool → List House
  | 0, _ => []
  | n + 1, done => match bestR score (fun i => done.getD i false) done.length 0 none with
    | some b => at' b :: ranksH score at' n (done.set b true)
    | none => []
theorem ranksH_map {score : Nat → Int} {at' : Nat → House} : ∀ {n : Nat} {done : List Bool}, (ranksH score at' n done).map (·.1) = ranksL score (fun i => (at' i).1) n done
  | 0, done => rfl
  | n + 1, done => by
    rw [ranksH, ranksL]
    cases bestR score (fun i => done.getD i false) done.length 0 none with
    | none => rfl
    | some b => simp only [List.map_cons, ranksH_map]
theorem getD_set_true {done : List Bool} {b j : Nat} (hb : b < done.length) : (done.set b true).getD j false = (if b = j then true else done.getD j false) := by
  rw [List.getD, List.getElem?_set]
  by_cases e : b = j
  · subst e; simp [hb]
  · rw [if_neg e, if_neg e]; rfl
theorem ranksH_all {score : Nat → Int} {at' : Nat → House} : ∀ {n : Nat} {done : List Bool}, done.countP (fun b => !b) = n →
    (∀ x ∈ ranksH score at' n done, ∃ j, j < done.length ∧ done.getD j false = false ∧ x = at' j) ∧ (∀ j, j < done.length → done.getD j false = false → at' j ∈ ranksH score at' n done)
  | 0, done, hc => by
    refine ⟨by simp [ranksH], fun j hj hd => ?_⟩
    rw [List.countP_eq_zero] at hc
    have := hc _ (List.getElem_mem hj)
    rw [getD_eq hj] at hd
    rw [hd] at this
    simp at this
  | n + 1, done, hc => by
    obtain ⟨b, e1, e2, e3⟩ := bestR_spec (score := score) (done := fun i => done.getD i false) (n := done.length) (i := 0) (best := none) (fun b e => by cases e) (.inr (count_false (by omega)))
    have hs := count_set (done := done) (b := b) (by omega) e3
    obtain ⟨h1, h2⟩ := ranksH_all (score := score) (at' := at') (n := n) (done := done.set b true) (by omega)
    rw [ranksH, e1]
    refine ⟨fun x hx => ?_, fun j hj hd => ?_⟩
    · rcases List.mem_cons.1 hx with rfl | hx
      · exact ⟨b, by omega, e3, rfl⟩
      · obtain ⟨j, g1, g2, g3⟩ := h1 x hx
        rw [getD_set_true (by omega)] at g2
        split at g2
        · cases g2
        · exact ⟨j, by simpa using g1, g2, g3⟩
    · by_cases e : b = j
      · subst e; exact List.mem_cons_self
      · refine List.mem_cons_of_mem _ (h2 j (by simpa using hj) ?_)
        rw [getD_set_true (by omega), if_neg e]; exact hd
theorem ranksH_sorted {sc : House → Int} {at' : Nat → House} {len : Nat} (hat : ∀ i j, i < j → j < len → (at' i).1 < (at' j).1) : ∀ {n : Nat} {done : List Bool}, done.length = len → done.countP (fun b => !b) = n →
    (ranksH (fun i => sc (at' i)) at' n done).Pairwise (before sc)
  | 0, done, _, _ => by simp [ranksH]
  | n + 1, done, hl, hc => by
    obtain ⟨b, e1, e2, e3⟩ := bestR_spec (score := fun i => sc (at' i)) (done := fun i => done.getD i false) (n := done.length) (i := 0) (best := none) (fun b e => by cases e) (.inr (count_false (by omega)))
    have hs := count_set (done := done) (b := b) (by omega) e3
    have hb := bestR_best (score := fun i => sc (at' i)) (done := fun i => done.getD i false) (n := done.length) (i := 0) (best := none) (b := b) (fun c e => by cases e) (fun j hj => absurd hj (by omega)) e1
    rw [ranksH, e1]
    refine List.pairwise_cons.2 ⟨fun x hx => ?_, ranksH_sorted hat (by simpa using hl) (by omega)⟩
    obtain ⟨j, g1, g2, g3⟩ := (ranksH_all (score := fun i => sc (at' i)) (at' := at') (n := n) (done := done.set b true) (by omega)).1 x hx
    rw [getD_set_true (by omega)] at g2
    split at g2
    · cases g2
    · rename_i hne
      rw [List.length_set] at g1
      subst g3
      rcases hb j (by omega) g2 with e | e | ⟨e, e'⟩
      · exact absurd e.symm hne
      · exact .inl e
      · exact .inr ⟨e.symm, hat b j e' (by omega)⟩

end Go.Proofs.Ytiagcjjobfoflaa.Sh
