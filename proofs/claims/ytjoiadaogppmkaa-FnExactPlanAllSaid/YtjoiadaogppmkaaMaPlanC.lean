/- Plans: the program's search and the reference's find the same. No program here. -/
import Derived.Test.YtjoiadaogppmkaaMaPlanA
import Derived.Test.YtjoiadaogppmkaaMaPlanB
namespace Go.Proofs.Ytjoiadaogppmkaa.Sh
set_option linter.unusedVariables false
set_option linter.unusedSimpArgs false

theorem plan_key {kind lost : Int} (hk : inB kind 1 2 = true) (h0 : 0 ≤ lost) (h1 : lost ≤ 7) : (subsR every8L).all (chkP kind lost) = true := by
  have hl : lost = 0 ∨ lost = 1 ∨ lost = 2 ∨ lost = 3 ∨ lost = 4 ∨ lost = 5 ∨ lost = 6 ∨ lost = 7 := by omega
  rcases kind_cases hk with rfl | rfl
  · rcases hl with rfl | rfl | rfl | rfl | rfl | rfl | rfl | rfl
    · exact plan_key10
    · exact plan_key11
    · exact plan_key12
    · exact plan_key13
    · exact plan_key14
    · exact plan_key15
    · exact plan_key16
    · exact plan_key17
  · rcases hl with rfl | rfl | rfl | rfl | rfl | rfl | rfl | rfl
    · exact plan_key20
    · exact plan_key21
    · exact plan_key22
    · exact plan_key23
    · exact plan_key24
    · exact plan_key25
    · exact plan_key26
    · exact plan_key27
theorem has_key {kind lost : Int} (hk : inB kind 1 2 = true) (h0 : 0 ≤ lost) (h1 : lost ≤ 7) : (subsR every8L).all (chkH kind lost) = true := by
  have hl : lost = 0 ∨ lost = 1 ∨ lost = 2 ∨ lost = 3 ∨ lost = 4 ∨ lost = 5 ∨ lost = 6 ∨ lost = 7 := by omega
  rcases kind_cases hk with rfl | rfl
  · rcases hl with rfl | rfl | rfl | rfl | rfl | rfl | rfl | rfl
    · exact has_key10
    · exact has_key11
    · exact has_key12
    · exact has_key13
    · exact has_key14
    · exact has_key15
    · exact has_key16
    · exact has_key17
  · rcases hl with rfl | rfl | rfl | rfl | rfl | rfl | rfl | rfl
    · exact has_key20
    · exact has_key21
    · exact has_key22
    · exact has_key23
    · exact has_key24
    · exact has_key25
    · exact has_key26
    · exact has_key27
def othersF (lost : Int) (there : List Bool) : List Int := (flagF there).filter fun i => !decide (i = lost)
theorem flag_sub {there : List Bool} (h8 : there.length = 8) : (flagF there).Sublist every8L := by
  have : ∀ b : Nat, b < 256 → (flagF (thereB 8 b)).isSublist every8L = true := by decide +kernel
  exact List.isSublist_iff_sublist.1 (all_there (p := fun l => (flagF l).isSublist every8L = true) this h8)
theorem others_sub {lost : Int} {there : List Bool} (h8 : there.length = 8) {S : List Int} (hS : S.Sublist (othersF lost there)) : S.Sublist every8L ∧ lost ∉ S :=
  ⟨(hS.trans List.filter_sublist).trans (flag_sub h8), fun h => by
    have := hS.subset h
    rw [othersF, List.mem_filter, decide_eq_true rfl] at this
    exact absurd this.2 (by simp)⟩
structure PlanP (kind lost : Int) (S : List Int) : Prop where
  well : wellL [] (rowsL kind S) = true
  by8 : (byL (rowsL kind S) (rowV kind lost).l).length ≤ 8
  same : planI kind lost S = planS kind lost S ∨ ∃ k, k < S.length ∧ 2 ≤ S.length ∧ planS kind lost (S.eraseIdx k) ≠ none
theorem plan_at {kind lost : Int} (hk : inB kind 1 2 = true) (h0 : 0 ≤ lost) (h1 : lost ≤ 7) {S : List Int} (hS : S.Sublist every8L) (hn : lost ∉ S) (s1 : 1 ≤ S.length) (s4 : S.length ≤ 4) : PlanP kind lost S := by
  have h := List.all_eq_true.1 (plan_key hk h0 h1) S (mem_subs hS)
  rw [chkP, show has S lost = false from decide_eq_false hn, decide_eq_false (show ¬ 4 < S.length by omega), decide_eq_false (show ¬ S.length = 0 by omega), Bool.false_or, Bool.false_or, Bool.false_or] at h
  simp only [Bool.and_eq_true, Bool.or_eq_true, decide_eq_true_eq, List.any_eq_true, List.mem_range] at h
  obtain ⟨a, b, c⟩ := h
  refine ⟨a, b, ?_⟩
  rcases c with c | ⟨c, k, c1, c2⟩
  · exact .inl c
  · exact .inr ⟨k, c1, c, fun e => by rw [e] at c2; cases c2⟩
theorem plan_same {kind lost : Int} (hk : inB kind 1 2 = true) (h0 : 0 ≤ lost) (h1 : lost ≤ 7) {there : List Bool} (h8 : there.length = 8) : fewest (planI kind lost) (othersF lost there) = fewest (planS kind lost) (othersF lost there) :=
  fewest_congr fun S hS s1 s4 => (plan_at hk h0 h1 (others_sub h8 hS).1 (others_sub h8 hS).2 s1 s4).same
structure HasP (kind lost : Int) (U : List Int) : Prop where
  down : hasI kind lost U = true → (1 ≤ U.length ∧ U.length ≤ 4 ∧ planS kind lost U ≠ none) ∨ ∃ k, k < U.length ∧ hasI kind lost (U.eraseIdx k) = true
  up : 1 ≤ U.length → U.length ≤ 4 → planS kind lost U ≠ none → hasI kind lost U = true
  more : ∀ k, k < U.length → hasI kind lost (U.eraseIdx k) = true → hasI kind lost U = true
theorem has_at {kind lost : Int} (hk : inB kind 1 2 = true) (h0 : 0 ≤ lost) (h1 : lost ≤ 7) {U : List Int} (hS : U.Sublist every8L) (hn : lost ∉ U) : HasP kind lost U := by
  have h := List.all_eq_true.1 (has_key hk h0 h1) U (mem_subs hS)
  rw [chkH, show has U lost = false from decide_eq_false hn, Bool.false_or] at h
  simp only [Bool.and_eq_true, Bool.or_eq_true, decide_eq_true_eq, List.any_eq_true, List.all_eq_true, List.mem_range, Bool.not_eq_true', Bool.and_eq_false_iff, decide_eq_false_iff_not] at h
  obtain ⟨⟨a, b⟩, c⟩ := h
  refine ⟨fun e => ?_, fun u1 u4 e => ?_, fun k hk' e => ?_⟩
  · rcases a with a | ⟨⟨a1, a2⟩, a3⟩ | ⟨k, a1, a2⟩
    · rw [a] at e; cases e
    · exact .inl ⟨a1, a2, fun e => by rw [e] at a3; cases a3⟩
    · exact .inr ⟨k, a1, a2⟩
  · rcases b with ((b | b) | b) | b
    · exact absurd u1 b
    · exact absurd u4 b
    · cases hp : planS kind lost U with
      | none => exact absurd hp e
      | some p => rw [hp] at b; cases b
    · exact b
  · rcases c k hk' with c | c
    · rw [c] at e; cases e
    · exact c
/-- what is made of some is made of few of them -/
theorem has_few {kind lost : Int} (hk : inB kind 1 2 = true) (h0 : 0 ≤ lost) (h1 : lost ≤ 7) : ∀ (n : Nat) (U : List Int), U.length ≤ n → U.Sublist every8L → lost ∉ U → hasI kind lost U = true → ∃ S : List Int, S.Sublist U ∧ 1 ≤ S.length ∧ S.length ≤ 4 ∧ planS kind lost S ≠ none
  | 0, U, hl, hU, hn, h => by
    rcases (has_at hk h0 h1 hU hn).down h with ⟨a, _⟩ | ⟨k, a, _⟩ <;> omega
  | n + 1, U, hl, hU, hn, h => by
    rcases (has_at hk h0 h1 hU hn).down h with ⟨a, b, c⟩ | ⟨k, a, b⟩
    · exact ⟨U, List.Sublist.refl _, a, b, c⟩
    · have hs := List.eraseIdx_sublist U k
      obtain ⟨S, s1, s2⟩ := has_few hk h0 h1 n (U.eraseIdx k) (by rw [List.length_eraseIdx_of_lt a]; omega) (hs.trans hU) (fun h => hn (hs.subset h)) b
      exact ⟨S, s1.trans hs, s2⟩
theorem sub_erase : ∀ {S U : List Int}, S.Sublist U → S.length < U.length → ∃ k, k < U.length ∧ S.Sublist (U.eraseIdx k)
  | _, _, .slnil, h => absurd h (Nat.lt_irrefl 0)
  | _, _, .cons x hs, _ => ⟨0, Nat.zero_lt_succ _, hs⟩
  | _, _, .cons_cons x hs, h => by
    obtain ⟨k, h1, h2⟩ := sub_erase hs (by simpa using h)
    exact ⟨k + 1, Nat.succ_lt_succ h1, h2.cons_cons x⟩
theorem has_more {kind lost : Int} (hk : inB kind 1 2 = true) (h0 : 0 ≤ lost) (h1 : lost ≤ 7) : ∀ (n : Nat) (U S : List Int), U.length ≤ n → U.Sublist every8L → lost ∉ U → S.Sublist U → hasI kind lost S = true → hasI kind lost U = true
  | 0, U, S, hl, hU, hn, hS, h => by
    have : U = [] := List.eq_nil_of_length_eq_zero (by omega)
    subst this
    rw [List.eq_nil_of_sublist_nil hS] at h
    exact h
  | n + 1, U, S, hl, hU, hn, hS, h => by
    by_cases e : S.length < U.length
    · obtain ⟨k, k1, k2⟩ := sub_erase hS e
      have hs := List.eraseIdx_sublist U k
      exact (has_at hk h0 h1 hU hn).more k k1 (has_more hk h0 h1 n (U.eraseIdx k) S (by rw [List.length_eraseIdx_of_lt k1]; omega) (hs.trans hU) (fun h => hn (hs.subset h)) k2 h)
    · rw [hS.eq_of_length_le (by omega)] at h
      exact h
/-- there is a plan, if the row is made of others -/
theorem fewest_has {kind lost : Int} (hk : inB kind 1 2 = true) (h0 : 0 ≤ lost) (h1 : lost ≤ 7) {there : List Bool} (h8 : there.length = 8) : (fewest (planS kind lost) (othersF lost there)).isSome = hasI kind lost (othersF lost there) := by
  obtain ⟨hU, hn⟩ := others_sub (lost := lost) h8 (List.Sublist.refl _)
  have hsome : ∀ m p, 1 ≤ m → m ≤ 4 → findL (planS kind lost) m (othersF lost there) [] = some p → hasI kind lost (othersF lost there) = true := by
    intro m p m1 m4 h
    obtain ⟨T, t1, t2, t3⟩ := findL_some h
    rw [List.nil_append] at t2 t3
    obtain ⟨g1, g2⟩ := others_sub h8 t1
    exact has_more hk h0 h1 _ _ T (Nat.le_refl _) hU hn t1 ((has_at hk h0 h1 g1 g2).up (by omega) (by omega) (by rw [t3]; exact Option.some_ne_none _))
  rw [fewest, findE_nil (by omega), findE_nil (by omega), findE_nil (by omega), findE_nil (by omega)]
  cases e1 : findL (planS kind lost) 1 (othersF lost there) [] with
  | some p => exact (hsome 1 p (by omega) (by omega) e1).symm
  | none =>
  cases e2 : findL (planS kind lost) 2 (othersF lost there) [] with
  | some p => exact (hsome 2 p (by omega) (by omega) e2).symm
  | none =>
  cases e3 : findL (planS kind lost) 3 (othersF lost there) [] with
  | some p => exact (hsome 3 p (by omega) (by omega) e3).symm
  | none =>
  cases e4 : findL (planS kind lost) 4 (othersF lost there) [] with
  | some p => exact (hsome 4 p (by omega) (by omega) e4).symm
  | none =>
    cases h : hasI kind lost (othersF lost there) with
    | false => rfl
    | true =>
      exfalso
      obtain ⟨S, s1, s2, s3, s4⟩ := has_few hk h0 h1 _ _ (Nat.le_refl _) hU hn h
      refine s4 ?_
      have hS : S.length = 1 ∨ S.length = 2 ∨ S.length = 3 ∨ S.length = 4 := by omega
      rcases hS with hS | hS | hS | hS
      · exact findL_none e1 (by decide) S s1 hS
      · exact findL_none e2 (by decide) S s1 hS
      · exact findL_none e3 (by decide) S s1 hS
      · exact findL_none e4 (by decide) S s1 hS
/-- the plan that is found is of shards that are there; of fewer there is none -/
theorem fewest_least {kind lost : Int} (hk : inB kind 1 2 = true) (h0 : 0 ≤ lost) (h1 : lost ≤ 7) {there : List Bool} (h8 : there.length = 8) {α : Type} {test : List Int → Option α} (hT : ∀ S p, test S = some p → True) {m : Nat}
    (hsm : ∀ k, 1 ≤ k → k < m → findL (planS kind lost) k (othersF lost there) [] = none) {U : List Int} (hU : U.Sublist (othersF lost there)) (hl : U.length < m) (hm : m ≤ 4) : hasI kind lost U = false := by
  cases h : hasI kind lost U with
  | false => rfl
  | true =>
    exfalso
    obtain ⟨g1, g2⟩ := others_sub h8 hU
    obtain ⟨S, s1, s2, s3, s4⟩ := has_few hk h0 h1 _ _ (Nat.le_refl _) g1 g2 h
    have := s1.length_le
    exact s4 (findL_none (hsm S.length s2 (by omega)) (by rw [List.length_nil]; omega) S (s1.trans hU) (by rw [List.nil_append]))
end Go.Proofs.Ytjoiadaogppmkaa.Sh
