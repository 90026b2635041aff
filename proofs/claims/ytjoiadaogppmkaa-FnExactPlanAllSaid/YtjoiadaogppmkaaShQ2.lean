/- Programs: laws on drawn ones. -/
import Derived.Test.YtjoiadaogppmkaaShQ1
namespace Go.Proofs.Ytjoiadaogppmkaa.Sh
open Go
set_option linter.unusedVariables false
set_option linter.unusedSimpArgs false
theorem Br_bne {a b : Bool} {A B : Prop} (e : a = b) (h : B) : Br (a != b) A B := by subst e; cases a <;> exact h
theorem Br_beq {a b : Bool} {A B : Prop} (e : a = b) (h : A) : Br (a == b) A B := by subst e; cases a <;> exact h
theorem stepOk_ops {s : Step} {m : Int} (h : stepOk s m = true) : s.1 = 1 ∨ s.1 = 2 ∨ s.1 = 3 := by
  rw [stepOk] at h
  by_cases c1 : s.1 = 1
  · exact .inl c1
  by_cases c2 : s.1 = 2
  · exact .inr (.inl c2)
  by_cases c3 : s.1 = 3
  · exact .inr (.inr c3)
  · rw [decide_eq_false c1, decide_eq_false c2, decide_eq_false c3] at h; cases h
theorem prog_ops {l : List Step} (h : progOk l = true) : ∀ s ∈ l, s.1 = 1 ∨ s.1 = 2 ∨ s.1 = 3 := by
  intro s hs
  obtain ⟨i, hi, rfl⟩ := List.getElem_of_mem hs
  have := prog_step h hi
  rw [hAt, getD_eq hi] at this
  exact stepOk_ops this
theorem many_sum : ∀ {l : List Step}, (∀ s ∈ l, s.1 = 1 ∨ s.1 = 2 ∨ s.1 = 3) → progMany l 1 + progMany l 2 + progMany l 3 = l.length
  | [], _ => rfl
  | s :: l, h => by
    have ih := many_sum (l := l) fun s hs => h s (List.mem_cons_of_mem _ hs)
    simp only [progMany] at ih ⊢
    rw [List.countP_cons, List.countP_cons, List.countP_cons, List.length_cons]
    rcases h s (List.mem_cons_self ..) with e | e | e <;> rw [e] <;> simp <;> omega
theorem hAt_take {l : List Step} {k i : Nat} (h : i < k) : hAt (l.take k) i = hAt l i := by
  rw [hAt, hAt, List.getD, List.getElem?_take_of_lt h]; rfl
theorem prog_take {l : List Step} (h : progOk l = true) {k : Nat} (h1 : 1 ≤ k) (h2 : k ≤ l.length) : progOk (l.take k) = true := by
  have hl := prog_len h
  have hk : (l.take k).length = k := by rw [List.length_take]; omega
  rw [progOk, Bool.and_eq_true, allR_iff, hk]
  refine ⟨fun i _ hi => ?_, inB_iff.2 (by omega)⟩
  rw [hAt_take (by omega)]
  exact prog_step h (by omega)
theorem hAt_snoc {l : List Step} {s : Step} : hAt (l ++ [s]) l.length = s := by
  rw [hAt, List.getD, List.getElem?_append_right (Nat.le_refl _), Nat.sub_self]; rfl
theorem hAt_app {l m : List Step} {i : Nat} (h : i < l.length) : hAt (l ++ m) i = hAt l i := by
  rw [hAt, hAt, List.getD, List.getElem?_append_left h]; rfl
theorem prog_bad {l : List Step} {s : Step} (h : stepOk s (l.length : Int) = false) : progOk (l ++ [s]) = false := by
  cases e : progOk (l ++ [s]) with
  | false => rfl
  | true =>
    have := prog_step e (i := l.length) (by simp)
    rw [hAt_snoc, h] at this
    cases this
theorem prog_snoc {l : List Step} {s : Step} (h : progOk l = true) (hs : stepOk s (l.length : Int) = true) (hl : l.length + 1 ≤ 16) : progOk (l ++ [s]) = true := by
  have h1 := prog_len h
  rw [progOk, Bool.and_eq_true, allR_iff]
  refine ⟨fun i _ hi => ?_, inB_iff.2 (by simp; omega)⟩
  rw [List.length_append, List.length_singleton] at hi
  by_cases e : i < l.length
  · rw [hAt_app e]; exact prog_step h e
  · obtain rfl : i = l.length := by omega
    rw [hAt_snoc]; exact hs



end Go.Proofs.Ytjoiadaogppmkaa.Sh
