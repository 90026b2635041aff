/- Plain facts on ranks and racks: no program here. -/
import Derived.Test.YtjoiadaogppmkaaMaDel
namespace Go.Proofs.Ytjoiadaogppmkaa.Sh
set_option linter.unusedVariables false
set_option linter.unusedSimpArgs false

/-- the best of those that are not done, from 'i' on -/
def bestR (score : Nat → Int) (done : Nat → Bool) : Nat → Nat → Option Nat → Option Nat
  | 0, _, best => best
  | n + 1, i, best => bif done i then bestR score done n (i + 1) best else match best with
    | none => bestR score done n (i + 1) (some i)
    | some b => bif decide (score b < score i) then bestR score done n (i + 1) (some i) else bestR score done n (i + 1) (some b)
theorem bestR_succ {score : Nat → Int} {done : Nat → Bool} (n i : Nat) (best : Option Nat) : bestR score done (n + 1) i best = (bif done i then bestR score done n (i + 1) best else match best with
    | none => bestR score done n (i + 1) (some i)
    | some b => bif decide (score b < score i) then bestR score done n (i + 1) (some i) else bestR score done n (i + 1) (some b)) := by
  cases best <;> rfl
theorem bestR_spec {score : Nat → Int} {done : Nat → Bool} : ∀ {n i : Nat} {best : Option Nat}, (∀ b, best = some b → b < i ∧ done b = false) → (best ≠ none ∨ ∃ j, i ≤ j ∧ j < i + n ∧ done j = false) →
    ∃ b, bestR score done n i best = some b ∧ b < i + n ∧ done b = false
  | 0, i, best, h1, h2 => by
    cases best with
    | none => rcases h2 with h | ⟨j, g1, g2, _⟩
              · exact absurd rfl h
              · omega
    | some b => exact ⟨b, rfl, by have := (h1 b rfl).1; omega, (h1 b rfl).2⟩
  | n + 1, i, best, h1, h2 => by
    rw [bestR_succ]
    cases hd : done i with
    | true =>
      rw [cond_true]
      have := bestR_spec (score := score) (done := done) (n := n) (i := i + 1) (best := best) (fun b e => ⟨by have := (h1 b e).1; omega, (h1 b e).2⟩) (by
        rcases h2 with h | ⟨j, g1, g2, g3⟩
        · exact .inl h
        · refine .inr ⟨j, ?_, by omega, g3⟩
          rcases Nat.eq_or_lt_of_le g1 with rfl | g
          · rw [hd] at g3; cases g3
          · exact g)
      obtain ⟨b, e1, e2, e3⟩ := this
      exact ⟨b, e1, by omega, e3⟩
    | false =>
      rw [cond_false]
      have go : ∀ b, b < i + 1 → done b = false → ∃ b', bestR score done n (i + 1) (some b) = some b' ∧ b' < i + (n + 1) ∧ done b' = false := by
        intro b hb hb2
        obtain ⟨b', e1, e2, e3⟩ := bestR_spec (score := score) (done := done) (n := n) (i := i + 1) (best := some b) (fun c e => by cases e; exact ⟨hb, hb2⟩) (.inl (by simp))
        exact ⟨b', e1, by omega, e3⟩
      cases best with
      | none => exact go i (by omega) hd
      | some b =>
        have hb := h1 b rfl
        dsimp only
        cases decide (score b < score i)
        · exact go b (by omega) hb.2
        · exact go i (by omega) hd
def bestI : Option Nat → Int
  | none => -1
  | some b => (b : Int)
theorem count_false {done : List Bool} (h : done.countP (fun b => !b) ≠ 0) : ∃ j, 0 ≤ j ∧ j < 0 + done.length ∧ done.getD j false = false := by
  have : 0 < done.countP (fun b => !b) := by omega
  rw [List.countP_pos_iff] at this
  obtain ⟨b, hb, e⟩ := this
  obtain ⟨j, hj, rfl⟩ := List.getElem_of_mem hb
  exact ⟨j, Nat.zero_le _, by omega, by rw [getD_eq hj]; simpa using e⟩
theorem count_set {done : List Bool} : ∀ {b : Nat}, b < done.length → done.getD b false = false → (done.set b true).countP (fun b => !b) + 1 = done.countP (fun b => !b) := by
  induction done with
  | nil => intro b h; simp at h
  | cons x r ih =>
    intro b h e
    cases b with
    | zero =>
      simp at e
      subst e
      simp
    | succ b =>
      have := ih (b := b) (by simpa using h) (by simpa using e)
      simp only [List.set_cons_succ, List.countP_cons]
      omega
/-- the ranks, one by one -/
def ranksL (score : Nat → Int) (ids : Nat → Int) : Nat → List Bool → List Int
  | 0, _ => []
  | n + 1, done => match bestR score (fun i => done.getD i false) done.length 0 none with
    | some b => ids b :: ranksL score ids n (done.set b true)
    | none => []
theorem ranksL_mem {score : Nat → Int} {ids : Nat → Int} : ∀ {n : Nat} {done : List Bool} {x : Int}, done.countP (fun b => !b) = n → x ∈ ranksL score ids n done → ∃ b, b < done.length ∧ x = ids b
  | 0, done, x, _, h => by simp [ranksL] at h
  | n + 1, done, x, hc, h => by
    obtain ⟨b, e1, e2, e3⟩ := bestR_spec (score := score) (done := fun i => done.getD i false) (n := done.length) (i := 0) (best := none) (fun b e => by cases e) (.inr (count_false (by omega)))
    rw [ranksL, e1] at h
    dsimp only at h
    rcases List.mem_cons.1 h with rfl | h
    · exact ⟨b, by omega, rfl⟩
    · have hs := count_set (done := done) (b := b) (by omega) e3
      obtain ⟨c, g1, g2⟩ := ranksL_mem (n := n) (done := done.set b true) (by omega) h
      exact ⟨c, by simpa using g1, g2⟩
theorem ranksL_length {score : Nat → Int} {ids : Nat → Int} : ∀ {n : Nat} {done : List Bool}, done.countP (fun b => !b) = n → (ranksL score ids n done).length = n
  | 0, done, _ => rfl
  | n + 1, done, hc => by
    obtain ⟨b, e1, e2, e3⟩ := bestR_spec (score := score) (done := fun i => done.getD i false) (n := done.length) (i := 0) (best := none) (fun b e => by cases e) (.inr (count_false (by omega)))
    have hs := count_set (done := done) (b := b) (by omega) e3
    rw [ranksL, e1]
    simp only [List.length_cons]
    rw [ranksL_length (by omega)]
theorem count_replicate (n : Nat) : (List.replicate n false).countP (fun b => !b) = n := by
  rw [List.countP_replicate]; rfl

theorem houseRack_bounds {l : List House} (h : ∀ x ∈ l, houseOk x = true) (id : Int) : 0 ≤ houseRack l id ∧ houseRack l id ≤ 4 := by
  unfold houseRack
  split
  · rename_i y hy
    have := houseOk_iff.1 (h y (List.mem_of_find?_eq_some hy))
    omega
  · omega
/-- of numbers from 1 to 4 -/
theorem count4 (f : Int → Int) : ∀ {l : List Int}, (∀ x ∈ l, 1 ≤ f x ∧ f x ≤ 4) → l.countP (fun x => decide (f x = 1)) + l.countP (fun x => decide (f x = 2)) + l.countP (fun x => decide (f x = 3)) + l.countP (fun x => decide (f x = 4)) = l.length
  | [], _ => rfl
  | x :: l, h => by
    have ih := count4 f (l := l) fun y hy => h y (by simp [hy])
    have hx := h x (by simp)
    simp only [List.countP_cons, List.length_cons, decide_eq_true_eq]
    have : f x = 1 ∨ f x = 2 ∨ f x = 3 ∨ f x = 4 := by omega
    rcases this with e | e | e | e <;> simp only [e] <;> simp <;> omega
theorem count_not' (p : Int → Bool) (l : List Int) : l.countP (fun x => !p x) + l.countP p = l.length := by
  induction l with
  | nil => rfl
  | cons x l ih =>
    simp only [List.countP_cons, List.length_cons]
    cases p x <;> simp <;> omega
theorem count_not (p : Int → Bool) (l : List Int) : (l.map fun x => !p x).countP (fun b => b) + l.countP p = l.length := by
  rw [List.countP_map]
  exact count_not' p l

end Go.Proofs.Ytjoiadaogppmkaa.Sh
