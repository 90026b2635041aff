/- Versions of shards, the greatest ones first: contracts. -/
import Derived.Test.YtjoiadaogppmkaaGreatShR3
import Derived.Test.YtjoiadaogppmkaaGreatMaStripe
namespace Go.Proofs.YtjoiadaogppmkaaGreat.Sh
open Go
set_option linter.unusedVariables false
set_option linter.unusedSimpArgs false
/-! cmp.isNaN[int] -/
def H133 : Hint := ⟨[], [], [], [], [], [], []⟩
theorem eq133 (x : Int) (r : List W) (lh : Heap) : FB E H133 Tryz.f133 [.one (.int .i64 x)] [] r lh =
  (
   Ret r lh [.one (.bool (!(decide (x = x))))] []) := by kernel_rfl
theorem c133 (a : Int) : SC P 133 [.one (.int .i64 a)] [] [.one (.bool false)] [] := by
  refine SC_of_FB (H := H133) E_ok Tryz.func133 (by kernel_rfl) ?_
  rw [eq133]
  exact ⟨by simp, rfl⟩
/-! cmp.Less[int] -/
def H123 : Hint := ⟨[], [], [], [], [], [], []⟩
theorem eq123 (x : Int) (y : Int) (r : List W) (lh : Heap) : FB E H123 Tryz.f123 [.one (.int .i64 x), .one (.int .i64 y)] [] r lh =
  (
   ∃ r0 : Bool, SC P 133 [.one (.int .i64 x)] [] [.one (.bool r0)] [] ∧
    Br r0 (
     ∃ r1 : Bool, SC P 133 [.one (.int .i64 y)] [] [.one (.bool r1)] [] ∧
      Br (!r1) (
       Ret r lh [.one (.bool true)] []) (
       Ret r lh [.one (.bool (decide (x < y)))] [])) (
     Ret r lh [.one (.bool (decide (x < y)))] [])) := by kernel_rfl
theorem c123 (a b : Int) : SC P 123 [.one (.int .i64 a), .one (.int .i64 b)] [] [.one (.bool (decide (a < b)))] [] := by
  refine SC_of_FB (H := H123) E_ok Tryz.func123 (by kernel_rfl) ?_
  rw [eq123]
  exact ⟨false, c133 a, rfl, rfl⟩
/-! slices.insertionSortOrdered[int] -/
def H117 : Hint := ⟨[[(0, 0, .bool), (1, 0, .bool), (2, 0, .bool), (6, 0, .bool)], [(0, 0, .bool), (1, 0, .bool), (2, 0, .bool), (6, 0, .bool), (7, 0, .bool)]], [], [(4, [0, 1, 2, 3, 4, 5, 6, 7, 8, 9, 10, 11, 12, 13, 14]), (6, [0, 1, 2, 3, 4, 5, 6, 7, 8, 9, 10, 11, 12, 13, 14, 15, 16, 17])], [], [], [], []⟩
def S117_L0 (a1 : Int) (b2 : Int) (i6 : Int) (h0 : List Int) : St := ⟨[(0, .w (.one (.sl 0 none))), (1, .w (.one (.int .i64 a1))), (2, .w (.one (.int .i64 b2))), (6, .w (.one (.int .i64 i6)))], [.row (.int .i64) h0 .own]⟩
def S117_L1 (a1 : Int) (b2 : Int) (i6 : Int) (j7 : Int) (h0 : List Int) : St := ⟨[(0, .w (.one (.sl 0 none))), (1, .w (.one (.int .i64 a1))), (2, .w (.one (.int .i64 b2))), (6, .w (.one (.int .i64 i6))), (7, .w (.one (.int .i64 j7)))], [.row (.int .i64) h0 .own]⟩
theorem eq117 (l : List Int) (a : Int) (b : Int) (r : List W) (lh : Heap) : FB E H117 Tryz.f117 [.one (.sl 0 none), .one (.int .i64 a), .one (.int .i64 b)] [.row (.int .i64) l .own] r lh =
  (
   FL E H117 Tryz.f117 1 r lh 0 (S117_L0 a b (IntKind.wrap .i64 (a + 1)) l)) := by kernel_rfl
theorem eq117_L0 (a1 : Int) (b2 : Int) (i6 : Int) (h0 : List Int) (r : List W) (lh : Heap) : FL1 E H117 Tryz.f117 1 r lh 0 (S117_L0 a1 b2 i6 h0) =
  (
   Br (decide (i6 < b2)) (
    FL E H117 Tryz.f117 1 r lh 1 (S117_L1 a1 b2 i6 i6 h0)) (
    Ret r lh [] [.row (.int .i64) h0 .own])) := by kernel_rfl
theorem eq117_L1 (a1 : Int) (b2 : Int) (i6 : Int) (j7 : Int) (h0 : List Int) (r : List W) (lh : Heap) : FL1 E H117 Tryz.f117 1 r lh 1 (S117_L1 a1 b2 i6 j7 h0) =
  (
   Br (decide (a1 < j7)) (
    Ck (decide ((0 : Int) ≤ j7)) (
     Ck (decide (j7 < ((h0.length : Nat) : Int))) (
      Ck (Nat.ble (j7.toNat + 1) h0.length) (
       Ck (decide ((0 : Int) ≤ (IntKind.wrap .i64 (j7 - 1)))) (
        Ck (decide ((IntKind.wrap .i64 (j7 - 1)) < ((h0.length : Nat) : Int))) (
         Ck (Nat.ble ((IntKind.wrap .i64 (j7 - 1)).toNat + 1) h0.length) (
          ∃ r0 : Bool, SC P 123 [.one (.int .i64 (h0.getD j7.toNat 0)), .one (.int .i64 (h0.getD (IntKind.wrap .i64 (j7 - 1)).toNat 0))] [] [.one (.bool r0)] [] ∧
           Br r0 (
            Ck (decide ((0 : Int) ≤ (IntKind.wrap .i64 (j7 - 1)))) (
             Ck (decide ((IntKind.wrap .i64 (j7 - 1)) < ((h0.length : Nat) : Int))) (
              Ck (Nat.ble ((IntKind.wrap .i64 (j7 - 1)).toNat + 1) h0.length) (
               Ck (decide ((0 : Int) ≤ j7)) (
                Ck (decide (j7 < ((h0.length : Nat) : Int))) (
                 Ck (Nat.ble (j7.toNat + 1) h0.length) (
                  Ck (decide ((0 : Int) ≤ j7)) (
                   Ck (decide (j7 < ((h0.length : Nat) : Int))) (
                    Ck (Nat.ble (j7.toNat + 1) h0.length) (
                     Ck (decide ((0 : Int) ≤ (IntKind.wrap .i64 (j7 - 1)))) (
                      Ck (decide ((IntKind.wrap .i64 (j7 - 1)) < (((h0.set j7.toNat (h0.getD (IntKind.wrap .i64 (j7 - 1)).toNat 0)).length : Nat) : Int))) (
                       Ck (Nat.ble ((IntKind.wrap .i64 (j7 - 1)).toNat + 1) ((h0.set j7.toNat (h0.getD (IntKind.wrap .i64 (j7 - 1)).toNat 0)).length)) (
                        FL E H117 Tryz.f117 1 r lh 1 (S117_L1 a1 b2 i6 (IntKind.wrap .i64 (j7 - 1)) ((h0.set j7.toNat (h0.getD (IntKind.wrap .i64 (j7 - 1)).toNat 0)).set ((IntKind.wrap .i64 (j7 - 1)).toNat) (h0.getD j7.toNat 0)))))))))))))))) (
            FL E H117 Tryz.f117 1 r lh 0 (S117_L0 a1 b2 (IntKind.wrap .i64 (i6 + 1)) h0))))))))) (
    FL E H117 Tryz.f117 1 r lh 0 (S117_L0 a1 b2 (IntKind.wrap .i64 (i6 + 1)) h0))) := by kernel_rfl
theorem l117_1 (n i : Nat) (hi : i ≤ 12) (x : Int) (T P0 : List Int) (G : List Int → Prop)
    (H : ∀ P1 P2, P1 ++ P2 = P0 → (∀ p ∈ P2, x ≤ p) → (P1 = [] ∨ ∃ P' p, P1 = P' ++ [p] ∧ ¬ x < p) → ∃ S, G S ∧ FL E H117 Tryz.f117 1 [] [.row (.int .i64) S .own] 0 (S117_L0 0 (n : Int) ((i + 1 : Nat) : Int) (P1 ++ x :: (P2 ++ T)))) :
    ∀ (j : Nat) (P1 P2 : List Int), P1.length = j → j ≤ 12 → P1 ++ P2 = P0 → (∀ p ∈ P2, x ≤ p) → ∃ S, G S ∧ FL E H117 Tryz.f117 1 [] [.row (.int .i64) S .own] 1 (S117_L1 0 (n : Int) (i : Int) (j : Int) (P1 ++ x :: (P2 ++ T)))
  | 0, P1, P2, hl, hj, he, h2 => by
    have h0 : P1 = [] := List.eq_nil_of_length_eq_zero hl
    subst h0
    obtain ⟨S, hG, hF⟩ := H [] P2 he h2 (.inl rfl)
    refine ⟨S, hG, FL_of1 ?_⟩
    rw [eq117_L1, wS (by omega)]
    exact Br_f (by omega) hF
  | j + 1, P1, P2, hl, hj, he, h2 => by
    obtain ⟨P', p, rfl⟩ : ∃ P' p, P1 = P' ++ [p] := by
      rcases List.eq_nil_or_concat P1 with h | ⟨P', p, h⟩
      · subst h; simp at hl
      · exact ⟨P', p, by simpa using h⟩
    have hl : P'.length = j := by simpa using hl
    have el : (P' ++ [p]) ++ x :: (P2 ++ T) = P' ++ p :: x :: (P2 ++ T) := by simp
    have e1 : (P' ++ p :: x :: (P2 ++ T)).getD (j + 1) 0 = x := by rw [← hl]; exact getD_midT' _ _ _ _ _
    have e2 : (P' ++ p :: x :: (P2 ++ T)).getD j 0 = p := by rw [← hl]; exact getD_midT _ _ _ _
    have e3 : ((P' ++ p :: x :: (P2 ++ T)).set (j + 1) p).set j x = P' ++ x :: p :: (P2 ++ T) := by rw [← hl]; exact swapT _ _ _ _
    have e4 : (P' ++ p :: x :: (P2 ++ T)).length = j + 2 + (P2 ++ T).length := by simp [hl]; omega
    have call := c123 x p
    by_cases hb : x < p
    · obtain ⟨S, hG, hF⟩ := l117_1 n i hi x T P0 G H j P' (p :: P2) hl (by omega) (by rw [← he]; simp) (fun q hq => by
        rcases List.mem_cons.1 hq with rfl | hq
        · omega
        · exact h2 q hq)
      refine ⟨S, hG, FL_of1 ?_⟩
      rw [el, eq117_L1, wS (by omega), wP (by omega)]
      simp only [Int.toNat_natCast, e1, e2, List.length_set, e4]
      refine Br_t (by omega) (Ck_d (by omega) (Ck_d (by omega) (Ck_le (by omega) (Ck_d (by omega) (Ck_d (by omega) (Ck_le (by omega) ⟨_, call, Br_t hb ?_⟩))))))
      refine Ck_d (by omega) (Ck_d (by omega) (Ck_le (by omega) (Ck_d (by omega) (Ck_d (by omega) (Ck_le (by omega) (Ck_d (by omega) (Ck_d (by omega) (Ck_le (by omega) (Ck_d (by omega) (Ck_d (by omega) (Ck_le (by omega) ?_)))))))))))
      have hF : FL E H117 Tryz.f117 1 [] [.row (.int .i64) S .own] 1 (S117_L1 0 (n : Int) (i : Int) (j : Int) (((P' ++ p :: x :: (P2 ++ T)).set (j + 1) p).set j x)) := by rw [e3]; exact hF
      exact hF
    · obtain ⟨S, hG, hF⟩ := H (P' ++ [p]) P2 he h2 (.inr ⟨P', p, rfl, hb⟩)
      refine ⟨S, hG, FL_of1 ?_⟩
      rw [el] at hF ⊢
      rw [eq117_L1, wS (by omega), wP (by omega)]
      simp only [Int.toNat_natCast, e1, e2, List.length_set, e4]
      exact Br_t (by omega) (Ck_d (by omega) (Ck_d (by omega) (Ck_le (by omega) (Ck_d (by omega) (Ck_d (by omega) (Ck_le (by omega) ⟨_, call, Br_f hb hF⟩))))))
theorem l117_0 (n : Nat) (hn12 : n ≤ 12) : ∀ (T P : List Int), (P ++ T).length = n → P.Pairwise (· ≤ ·) →
    ∃ S, (S.Pairwise (· ≤ ·) ∧ S.Perm (P ++ T)) ∧ FL E H117 Tryz.f117 1 [] [.row (.int .i64) S .own] 0 (S117_L0 0 (n : Int) (P.length : Int) (P ++ T))
  | [], P, hl, hs => by
    refine ⟨P, ⟨hs, by simp⟩, FL_of1 ?_⟩
    rw [eq117_L0, List.append_nil]
    rw [List.append_nil] at hl
    exact Br_f (by omega) ⟨rfl, rfl⟩
  | x :: T, P, hl, hs => by
    have hlP : P.length + (T.length + 1) = n := by simpa using hl
    obtain ⟨S, hG, hF⟩ := l117_1 n P.length (by omega) x T P (fun S => S.Pairwise (· ≤ ·) ∧ S.Perm (P ++ x :: T)) (fun P1 P2 he h2 h1 => by
      subst he
      have hp1 : ∀ p ∈ P1, p ≤ x := by
        rcases h1 with rfl | ⟨P', q, rfl, hq⟩
        · simp
        · intro p hp
          have := last_upT (List.pairwise_append.1 hs).1 p hp
          omega
      have hsort := put_upT hs h2 hp1
      have hperm : ((P1 ++ x :: P2) ++ T).Perm ((P1 ++ P2) ++ x :: T) := by
        have a1 : ((P1 ++ x :: P2) ++ T).Perm (x :: ((P1 ++ P2) ++ T)) := (List.perm_middle.append_right T)
        exact a1.trans List.perm_middle.symm
      obtain ⟨S, ⟨g1, g2⟩, g3⟩ := l117_0 n hn12 T (P1 ++ x :: P2) (by rw [hperm.length_eq]; exact hl) hsort
      refine ⟨S, ⟨g1, g2.trans hperm⟩, ?_⟩
      rw [show (P1 ++ x :: P2).length = (P1 ++ P2).length + 1 by simp; omega, List.append_assoc, List.cons_append] at g3
      exact g3) P.length P [] rfl (by omega) (by simp) (by simp)
    refine ⟨S, hG, FL_of1 ?_⟩
    rw [eq117_L0]
    exact Br_t (by omega) hF
theorem c117 (l : List Int) (h12 : l.length ≤ 12) : ∃ S, (S.Pairwise (· ≤ ·) ∧ S.Perm l) ∧ SC P 117 [.one (.sl 0 none), .one (.int .i64 0), .one (.int .i64 (l.length : Int))] [.row (.int .i64) l .own] [] [.row (.int .i64) S .own] := by
  cases l with
  | nil =>
    refine ⟨[], ⟨.nil, .refl _⟩, ?_⟩
    refine SC_of_FB (H := H117) E_ok Tryz.func117 (by kernel_rfl) ?_
    rw [eq117]
    refine FL_of1 ?_
    rw [eq117_L0]
    exact Br_f (by rw [wrap64 (by omega) (by omega)]; simp) ⟨rfl, rfl⟩
  | cons x T =>
    obtain ⟨S, hG, hF⟩ := l117_0 (x :: T).length h12 T [x] rfl (by simp)
    refine ⟨S, hG, ?_⟩
    refine SC_of_FB (H := H117) E_ok Tryz.func117 (by kernel_rfl) ?_
    rw [eq117]
    rw [wrap64 (by omega) (by omega)]
    exact hF
/-! slices.pdqsortOrdered[int] -/
def H104 : Hint := ⟨[[(0, 0, .bool), (1, 0, .bool), (2, 0, .bool), (3, 0, .bool), (8, 0, .bool), (9, 0, .bool)]], [], [(17, [0, 1, 2, 3, 4, 5, 6, 7, 8, 9, 10, 11, 12, 13, 14])], [], [], [], []⟩
def S104_L0 (a1 : Int) (b2 : Int) (limit3 : Int) (wasBalanced8 : Bool) (wasPartitioned9 : Bool) (h0 : List Int) : St := ⟨[(0, .w (.one (.sl 0 none))), (1, .w (.one (.int .i64 a1))), (2, .w (.one (.int .i64 b2))), (3, .w (.one (.int .i64 limit3))), (8, .w (.one (.bool wasBalanced8))), (9, .w (.one (.bool wasPartitioned9)))], [.row (.int .i64) h0 .own]⟩
theorem eq104 (l : List Int) (a : Int) (b : Int) (lim : Int) (r : List W) (lh : Heap) : FB E H104 Tryz.f104 [.one (.sl 0 none), .one (.int .i64 a), .one (.int .i64 b), .one (.int .i64 lim)] [.row (.int .i64) l .own] r lh =
  (
   FL E H104 Tryz.f104 1 r lh 0 (S104_L0 a b lim true true l)) := by kernel_rfl
theorem eq104_L0 (a1 : Int) (b2 : Int) (limit3 : Int) (wasBalanced8 : Bool) (wasPartitioned9 : Bool) (h0 : List Int) (r : List W) (lh : Heap) : FL1 E H104 Tryz.f104 1 r lh 0 (S104_L0 a1 b2 limit3 wasBalanced8 wasPartitioned9 h0) =
  (
   Br (decide ((IntKind.wrap .i64 (b2 - a1)) ≤ (12 : Int))) (
    ∃ r0 : List Int, SC P 117 [.one (.sl 0 none), .one (.int .i64 a1), .one (.int .i64 b2)] [.row (.int .i64) h0 .own] [] [.row (.int .i64) r0 .own] ∧
     Ret r lh [] [.row (.int .i64) r0 .own]) (
    Br (decide (limit3 = (0 : Int))) (
     ∃ r1 : List Int, SC P 118 [.one (.sl 0 none), .one (.int .i64 a1), .one (.int .i64 b2)] [.row (.int .i64) h0 .own] [] [.row (.int .i64) r1 .own] ∧
      Ret r lh [] [.row (.int .i64) r1 .own]) (
     Br (!wasBalanced8) (
      ∃ r2 : List Int, SC P 119 [.one (.sl 0 none), .one (.int .i64 a1), .one (.int .i64 b2)] [.row (.int .i64) h0 .own] [] [.row (.int .i64) r2 .own] ∧
       ∃ r3 : List Int × Int × Int, SC P 120 [.one (.sl 0 none), .one (.int .i64 a1), .one (.int .i64 b2)] [.row (.int .i64) r2 .own] [.one (.int .i64 r3.2.1), .one (.int .i64 r3.2.2)] [.row (.int .i64) r3.1 .own] ∧
        Br (decide (r3.2.2 = (2 : Int))) (
         ∃ r4 : List Int, SC P 121 [.one (.sl 0 none), .one (.int .i64 a1), .one (.int .i64 b2)] [.row (.int .i64) r3.1 .own] [] [.row (.int .i64) r4 .own] ∧
          Br wasBalanced8 (
           Br wasPartitioned9 (
            ∃ r5 : List Int × Bool, SC P 122 [.one (.sl 0 none), .one (.int .i64 a1), .one (.int .i64 b2)] [.row (.int .i64) r4 .own] [.one (.bool r5.2)] [.row (.int .i64) r5.1 .own] ∧
             Br r5.2 (
              Ret r lh [] [.row (.int .i64) r5.1 .own]) (
              Br (decide ((0 : Int) < a1)) (
               Ck (decide ((0 : Int) ≤ (IntKind.wrap .i64 (a1 - 1)))) (
                Ck (decide ((IntKind.wrap .i64 (a1 - 1)) < ((r5.1.length : Nat) : Int))) (
                 Ck (Nat.ble ((IntKind.wrap .i64 (a1 - 1)).toNat + 1) r5.1.length) (
                  Ck (decide ((0 : Int) ≤ (IntKind.wrap .i64 ((IntKind.wrap .i64 (b2 - 1)) - (IntKind.wrap .i64 (r3.2.1 - a1)))))) (
                   Ck (decide ((IntKind.wrap .i64 ((IntKind.wrap .i64 (b2 - 1)) - (IntKind.wrap .i64 (r3.2.1 - a1)))) < ((r5.1.length : Nat) : Int))) (
                    Ck (Nat.ble ((IntKind.wrap .i64 ((IntKind.wrap .i64 (b2 - 1)) - (IntKind.wrap .i64 (r3.2.1 - a1)))).toNat + 1) r5.1.length) (
                     ∃ r6 : Bool, SC P 123 [.one (.int .i64 (r5.1.getD (IntKind.wrap .i64 (a1 - 1)).toNat 0)), .one (.int .i64 (r5.1.getD (IntKind.wrap .i64 ((IntKind.wrap .i64 (b2 - 1)) - (IntKind.wrap .i64 (r3.2.1 - a1)))).toNat 0))] [] [.one (.bool r6)] [] ∧
                      Br (!r6) (
                       ∃ r7 : List Int × Int, SC P 124 [.one (.sl 0 none), .one (.int .i64 a1), .one (.int .i64 b2), .one (.int .i64 (IntKind.wrap .i64 ((IntKind.wrap .i64 (b2 - 1)) - (IntKind.wrap .i64 (r3.2.1 - a1)))))] [.row (.int .i64) r5.1 .own] [.one (.int .i64 r7.2)] [.row (.int .i64) r7.1 .own] ∧
                        FL E H104 Tryz.f104 1 r lh 0 (S104_L0 r7.2 b2 (IntKind.wrap .i64 (limit3 - 1)) wasBalanced8 wasPartitioned9 r7.1)) (
                       ∃ r8 : List Int × Int × Bool, SC P 125 [.one (.sl 0 none), .one (.int .i64 a1), .one (.int .i64 b2), .one (.int .i64 (IntKind.wrap .i64 ((IntKind.wrap .i64 (b2 - 1)) - (IntKind.wrap .i64 (r3.2.1 - a1)))))] [.row (.int .i64) r5.1 .own] [.one (.int .i64 r8.2.1), .one (.bool r8.2.2)] [.row (.int .i64) r8.1 .own] ∧
                        Br (decide ((IntKind.wrap .i64 (r8.2.1 - a1)) < (IntKind.wrap .i64 (b2 - r8.2.1)))) (
                         ∃ r9 : List Int, SC P 104 [.one (.sl 0 none), .one (.int .i64 a1), .one (.int .i64 r8.2.1), .one (.int .i64 (IntKind.wrap .i64 (limit3 - 1)))] [.row (.int .i64) r8.1 .own] [] [.row (.int .i64) r9 .own] ∧
                          FL E H104 Tryz.f104 1 r lh 0 (S104_L0 (IntKind.wrap .i64 (r8.2.1 + 1)) b2 (IntKind.wrap .i64 (limit3 - 1)) (decide ((IntKind.wrap .i64 (Int.tdiv (IntKind.wrap .i64 (b2 - a1)) 8)) ≤ (IntKind.wrap .i64 (r8.2.1 - a1)))) r8.2.2 r9)) (
                         ∃ r10 : List Int, SC P 104 [.one (.sl 0 none), .one (.int .i64 (IntKind.wrap .i64 (r8.2.1 + 1))), .one (.int .i64 b2), .one (.int .i64 (IntKind.wrap .i64 (limit3 - 1)))] [.row (.int .i64) r8.1 .own] [] [.row (.int .i64) r10 .own] ∧
                          FL E H104 Tryz.f104 1 r lh 0 (S104_L0 a1 r8.2.1 (IntKind.wrap .i64 (limit3 - 1)) (decide ((IntKind.wrap .i64 (Int.tdiv (IntKind.wrap .i64 (b2 - a1)) 8)) ≤ (IntKind.wrap .i64 (b2 - r8.2.1)))) r8.2.2 r10)))))))))) (
               ∃ r11 : List Int × Int × Bool, SC P 125 [.one (.sl 0 none), .one (.int .i64 a1), .one (.int .i64 b2), .one (.int .i64 (IntKind.wrap .i64 ((IntKind.wrap .i64 (b2 - 1)) - (IntKind.wrap .i64 (r3.2.1 - a1)))))] [.row (.int .i64) r5.1 .own] [.one (.int .i64 r11.2.1), .one (.bool r11.2.2)] [.row (.int .i64) r11.1 .own] ∧
                Br (decide ((IntKind.wrap .i64 (r11.2.1 - a1)) < (IntKind.wrap .i64 (b2 - r11.2.1)))) (
                 ∃ r12 : List Int, SC P 104 [.one (.sl 0 none), .one (.int .i64 a1), .one (.int .i64 r11.2.1), .one (.int .i64 (IntKind.wrap .i64 (limit3 - 1)))] [.row (.int .i64) r11.1 .own] [] [.row (.int .i64) r12 .own] ∧
                  FL E H104 Tryz.f104 1 r lh 0 (S104_L0 (IntKind.wrap .i64 (r11.2.1 + 1)) b2 (IntKind.wrap .i64 (limit3 - 1)) (decide ((IntKind.wrap .i64 (Int.tdiv (IntKind.wrap .i64 (b2 - a1)) 8)) ≤ (IntKind.wrap .i64 (r11.2.1 - a1)))) r11.2.2 r12)) (
                 ∃ r13 : List Int, SC P 104 [.one (.sl 0 none), .one (.int .i64 (IntKind.wrap .i64 (r11.2.1 + 1))), .one (.int .i64 b2), .one (.int .i64 (IntKind.wrap .i64 (limit3 - 1)))] [.row (.int .i64) r11.1 .own] [] [.row (.int .i64) r13 .own] ∧
                  FL E H104 Tryz.f104 1 r lh 0 (S104_L0 a1 r11.2.1 (IntKind.wrap .i64 (limit3 - 1)) (decide ((IntKind.wrap .i64 (Int.tdiv (IntKind.wrap .i64 (b2 - a1)) 8)) ≤ (IntKind.wrap .i64 (b2 - r11.2.1)))) r11.2.2 r13))))) (
            Br (decide ((0 : Int) < a1)) (
             Ck (decide ((0 : Int) ≤ (IntKind.wrap .i64 (a1 - 1)))) (
              Ck (decide ((IntKind.wrap .i64 (a1 - 1)) < ((r4.length : Nat) : Int))) (
               Ck (Nat.ble ((IntKind.wrap .i64 (a1 - 1)).toNat + 1) r4.length) (
                Ck (decide ((0 : Int) ≤ (IntKind.wrap .i64 ((IntKind.wrap .i64 (b2 - 1)) - (IntKind.wrap .i64 (r3.2.1 - a1)))))) (
                 Ck (decide ((IntKind.wrap .i64 ((IntKind.wrap .i64 (b2 - 1)) - (IntKind.wrap .i64 (r3.2.1 - a1)))) < ((r4.length : Nat) : Int))) (
                  Ck (Nat.ble ((IntKind.wrap .i64 ((IntKind.wrap .i64 (b2 - 1)) - (IntKind.wrap .i64 (r3.2.1 - a1)))).toNat + 1) r4.length) (
                   ∃ r14 : Bool, SC P 123 [.one (.int .i64 (r4.getD (IntKind.wrap .i64 (a1 - 1)).toNat 0)), .one (.int .i64 (r4.getD (IntKind.wrap .i64 ((IntKind.wrap .i64 (b2 - 1)) - (IntKind.wrap .i64 (r3.2.1 - a1)))).toNat 0))] [] [.one (.bool r14)] [] ∧
                    Br (!r14) (
                     ∃ r15 : List Int × Int, SC P 124 [.one (.sl 0 none), .one (.int .i64 a1), .one (.int .i64 b2), .one (.int .i64 (IntKind.wrap .i64 ((IntKind.wrap .i64 (b2 - 1)) - (IntKind.wrap .i64 (r3.2.1 - a1)))))] [.row (.int .i64) r4 .own] [.one (.int .i64 r15.2)] [.row (.int .i64) r15.1 .own] ∧
                      FL E H104 Tryz.f104 1 r lh 0 (S104_L0 r15.2 b2 (IntKind.wrap .i64 (limit3 - 1)) wasBalanced8 wasPartitioned9 r15.1)) (
                     ∃ r16 : List Int × Int × Bool, SC P 125 [.one (.sl 0 none), .one (.int .i64 a1), .one (.int .i64 b2), .one (.int .i64 (IntKind.wrap .i64 ((IntKind.wrap .i64 (b2 - 1)) - (IntKind.wrap .i64 (r3.2.1 - a1)))))] [.row (.int .i64) r4 .own] [.one (.int .i64 r16.2.1), .one (.bool r16.2.2)] [.row (.int .i64) r16.1 .own] ∧
                      Br (decide ((IntKind.wrap .i64 (r16.2.1 - a1)) < (IntKind.wrap .i64 (b2 - r16.2.1)))) (
                       ∃ r17 : List Int, SC P 104 [.one (.sl 0 none), .one (.int .i64 a1), .one (.int .i64 r16.2.1), .one (.int .i64 (IntKind.wrap .i64 (limit3 - 1)))] [.row (.int .i64) r16.1 .own] [] [.row (.int .i64) r17 .own] ∧
                        FL E H104 Tryz.f104 1 r lh 0 (S104_L0 (IntKind.wrap .i64 (r16.2.1 + 1)) b2 (IntKind.wrap .i64 (limit3 - 1)) (decide ((IntKind.wrap .i64 (Int.tdiv (IntKind.wrap .i64 (b2 - a1)) 8)) ≤ (IntKind.wrap .i64 (r16.2.1 - a1)))) r16.2.2 r17)) (
                       ∃ r18 : List Int, SC P 104 [.one (.sl 0 none), .one (.int .i64 (IntKind.wrap .i64 (r16.2.1 + 1))), .one (.int .i64 b2), .one (.int .i64 (IntKind.wrap .i64 (limit3 - 1)))] [.row (.int .i64) r16.1 .own] [] [.row (.int .i64) r18 .own] ∧
                        FL E H104 Tryz.f104 1 r lh 0 (S104_L0 a1 r16.2.1 (IntKind.wrap .i64 (limit3 - 1)) (decide ((IntKind.wrap .i64 (Int.tdiv (IntKind.wrap .i64 (b2 - a1)) 8)) ≤ (IntKind.wrap .i64 (b2 - r16.2.1)))) r16.2.2 r18)))))))))) (
             ∃ r19 : List Int × Int × Bool, SC P 125 [.one (.sl 0 none), .one (.int .i64 a1), .one (.int .i64 b2), .one (.int .i64 (IntKind.wrap .i64 ((IntKind.wrap .i64 (b2 - 1)) - (IntKind.wrap .i64 (r3.2.1 - a1)))))] [.row (.int .i64) r4 .own] [.one (.int .i64 r19.2.1), .one (.bool r19.2.2)] [.row (.int .i64) r19.1 .own] ∧
              Br (decide ((IntKind.wrap .i64 (r19.2.1 - a1)) < (IntKind.wrap .i64 (b2 - r19.2.1)))) (
               ∃ r20 : List Int, SC P 104 [.one (.sl 0 none), .one (.int .i64 a1), .one (.int .i64 r19.2.1), .one (.int .i64 (IntKind.wrap .i64 (limit3 - 1)))] [.row (.int .i64) r19.1 .own] [] [.row (.int .i64) r20 .own] ∧
                FL E H104 Tryz.f104 1 r lh 0 (S104_L0 (IntKind.wrap .i64 (r19.2.1 + 1)) b2 (IntKind.wrap .i64 (limit3 - 1)) (decide ((IntKind.wrap .i64 (Int.tdiv (IntKind.wrap .i64 (b2 - a1)) 8)) ≤ (IntKind.wrap .i64 (r19.2.1 - a1)))) r19.2.2 r20)) (
               ∃ r21 : List Int, SC P 104 [.one (.sl 0 none), .one (.int .i64 (IntKind.wrap .i64 (r19.2.1 + 1))), .one (.int .i64 b2), .one (.int .i64 (IntKind.wrap .i64 (limit3 - 1)))] [.row (.int .i64) r19.1 .own] [] [.row (.int .i64) r21 .own] ∧
                FL E H104 Tryz.f104 1 r lh 0 (S104_L0 a1 r19.2.1 (IntKind.wrap .i64 (limit3 - 1)) (decide ((IntKind.wrap .i64 (Int.tdiv (IntKind.wrap .i64 (b2 - a1)) 8)) ≤ (IntKind.wrap .i64 (b2 - r19.2.1)))) r19.2.2 r21))))) (
           Br (decide ((0 : Int) < a1)) (
            Ck (decide ((0 : Int) ≤ (IntKind.wrap .i64 (a1 - 1)))) (
             Ck (decide ((IntKind.wrap .i64 (a1 - 1)) < ((r4.length : Nat) : Int))) (
              Ck (Nat.ble ((IntKind.wrap .i64 (a1 - 1)).toNat + 1) r4.length) (
               Ck (decide ((0 : Int) ≤ (IntKind.wrap .i64 ((IntKind.wrap .i64 (b2 - 1)) - (IntKind.wrap .i64 (r3.2.1 - a1)))))) (
                Ck (decide ((IntKind.wrap .i64 ((IntKind.wrap .i64 (b2 - 1)) - (IntKind.wrap .i64 (r3.2.1 - a1)))) < ((r4.length : Nat) : Int))) (
                 Ck (Nat.ble ((IntKind.wrap .i64 ((IntKind.wrap .i64 (b2 - 1)) - (IntKind.wrap .i64 (r3.2.1 - a1)))).toNat + 1) r4.length) (
                  ∃ r22 : Bool, SC P 123 [.one (.int .i64 (r4.getD (IntKind.wrap .i64 (a1 - 1)).toNat 0)), .one (.int .i64 (r4.getD (IntKind.wrap .i64 ((IntKind.wrap .i64 (b2 - 1)) - (IntKind.wrap .i64 (r3.2.1 - a1)))).toNat 0))] [] [.one (.bool r22)] [] ∧
                   Br (!r22) (
                    ∃ r23 : List Int × Int, SC P 124 [.one (.sl 0 none), .one (.int .i64 a1), .one (.int .i64 b2), .one (.int .i64 (IntKind.wrap .i64 ((IntKind.wrap .i64 (b2 - 1)) - (IntKind.wrap .i64 (r3.2.1 - a1)))))] [.row (.int .i64) r4 .own] [.one (.int .i64 r23.2)] [.row (.int .i64) r23.1 .own] ∧
                     FL E H104 Tryz.f104 1 r lh 0 (S104_L0 r23.2 b2 (IntKind.wrap .i64 (limit3 - 1)) wasBalanced8 wasPartitioned9 r23.1)) (
                    ∃ r24 : List Int × Int × Bool, SC P 125 [.one (.sl 0 none), .one (.int .i64 a1), .one (.int .i64 b2), .one (.int .i64 (IntKind.wrap .i64 ((IntKind.wrap .i64 (b2 - 1)) - (IntKind.wrap .i64 (r3.2.1 - a1)))))] [.row (.int .i64) r4 .own] [.one (.int .i64 r24.2.1), .one (.bool r24.2.2)] [.row (.int .i64) r24.1 .own] ∧
                     Br (decide ((IntKind.wrap .i64 (r24.2.1 - a1)) < (IntKind.wrap .i64 (b2 - r24.2.1)))) (
                      ∃ r25 : List Int, SC P 104 [.one (.sl 0 none), .one (.int .i64 a1), .one (.int .i64 r24.2.1), .one (.int .i64 (IntKind.wrap .i64 (limit3 - 1)))] [.row (.int .i64) r24.1 .own] [] [.row (.int .i64) r25 .own] ∧
                       FL E H104 Tryz.f104 1 r lh 0 (S104_L0 (IntKind.wrap .i64 (r24.2.1 + 1)) b2 (IntKind.wrap .i64 (limit3 - 1)) (decide ((IntKind.wrap .i64 (Int.tdiv (IntKind.wrap .i64 (b2 - a1)) 8)) ≤ (IntKind.wrap .i64 (r24.2.1 - a1)))) r24.2.2 r25)) (
                      ∃ r26 : List Int, SC P 104 [.one (.sl 0 none), .one (.int .i64 (IntKind.wrap .i64 (r24.2.1 + 1))), .one (.int .i64 b2), .one (.int .i64 (IntKind.wrap .i64 (limit3 - 1)))] [.row (.int .i64) r24.1 .own] [] [.row (.int .i64) r26 .own] ∧
                       FL E H104 Tryz.f104 1 r lh 0 (S104_L0 a1 r24.2.1 (IntKind.wrap .i64 (limit3 - 1)) (decide ((IntKind.wrap .i64 (Int.tdiv (IntKind.wrap .i64 (b2 - a1)) 8)) ≤ (IntKind.wrap .i64 (b2 - r24.2.1)))) r24.2.2 r26)))))))))) (
            ∃ r27 : List Int × Int × Bool, SC P 125 [.one (.sl 0 none), .one (.int .i64 a1), .one (.int .i64 b2), .one (.int .i64 (IntKind.wrap .i64 ((IntKind.wrap .i64 (b2 - 1)) - (IntKind.wrap .i64 (r3.2.1 - a1)))))] [.row (.int .i64) r4 .own] [.one (.int .i64 r27.2.1), .one (.bool r27.2.2)] [.row (.int .i64) r27.1 .own] ∧
             Br (decide ((IntKind.wrap .i64 (r27.2.1 - a1)) < (IntKind.wrap .i64 (b2 - r27.2.1)))) (
              ∃ r28 : List Int, SC P 104 [.one (.sl 0 none), .one (.int .i64 a1), .one (.int .i64 r27.2.1), .one (.int .i64 (IntKind.wrap .i64 (limit3 - 1)))] [.row (.int .i64) r27.1 .own] [] [.row (.int .i64) r28 .own] ∧
               FL E H104 Tryz.f104 1 r lh 0 (S104_L0 (IntKind.wrap .i64 (r27.2.1 + 1)) b2 (IntKind.wrap .i64 (limit3 - 1)) (decide ((IntKind.wrap .i64 (Int.tdiv (IntKind.wrap .i64 (b2 - a1)) 8)) ≤ (IntKind.wrap .i64 (r27.2.1 - a1)))) r27.2.2 r28)) (
              ∃ r29 : List Int, SC P 104 [.one (.sl 0 none), .one (.int .i64 (IntKind.wrap .i64 (r27.2.1 + 1))), .one (.int .i64 b2), .one (.int .i64 (IntKind.wrap .i64 (limit3 - 1)))] [.row (.int .i64) r27.1 .own] [] [.row (.int .i64) r29 .own] ∧
               FL E H104 Tryz.f104 1 r lh 0 (S104_L0 a1 r27.2.1 (IntKind.wrap .i64 (limit3 - 1)) (decide ((IntKind.wrap .i64 (Int.tdiv (IntKind.wrap .i64 (b2 - a1)) 8)) ≤ (IntKind.wrap .i64 (b2 - r27.2.1)))) r27.2.2 r29))))) (
         Br wasBalanced8 (
          Br wasPartitioned9 (
           Br (decide (r3.2.2 = (1 : Int))) (
            ∃ r30 : List Int × Bool, SC P 122 [.one (.sl 0 none), .one (.int .i64 a1), .one (.int .i64 b2)] [.row (.int .i64) r3.1 .own] [.one (.bool r30.2)] [.row (.int .i64) r30.1 .own] ∧
             Br r30.2 (
              Ret r lh [] [.row (.int .i64) r30.1 .own]) (
              Br (decide ((0 : Int) < a1)) (
               Ck (decide ((0 : Int) ≤ (IntKind.wrap .i64 (a1 - 1)))) (
                Ck (decide ((IntKind.wrap .i64 (a1 - 1)) < ((r30.1.length : Nat) : Int))) (
                 Ck (Nat.ble ((IntKind.wrap .i64 (a1 - 1)).toNat + 1) r30.1.length) (
                  Ck (decide ((0 : Int) ≤ r3.2.1)) (
                   Ck (decide (r3.2.1 < ((r30.1.length : Nat) : Int))) (
                    Ck (Nat.ble (r3.2.1.toNat + 1) r30.1.length) (
                     ∃ r31 : Bool, SC P 123 [.one (.int .i64 (r30.1.getD (IntKind.wrap .i64 (a1 - 1)).toNat 0)), .one (.int .i64 (r30.1.getD r3.2.1.toNat 0))] [] [.one (.bool r31)] [] ∧
                      Br (!r31) (
                       ∃ r32 : List Int × Int, SC P 124 [.one (.sl 0 none), .one (.int .i64 a1), .one (.int .i64 b2), .one (.int .i64 r3.2.1)] [.row (.int .i64) r30.1 .own] [.one (.int .i64 r32.2)] [.row (.int .i64) r32.1 .own] ∧
                        FL E H104 Tryz.f104 1 r lh 0 (S104_L0 r32.2 b2 (IntKind.wrap .i64 (limit3 - 1)) wasBalanced8 wasPartitioned9 r32.1)) (
                       ∃ r33 : List Int × Int × Bool, SC P 125 [.one (.sl 0 none), .one (.int .i64 a1), .one (.int .i64 b2), .one (.int .i64 r3.2.1)] [.row (.int .i64) r30.1 .own] [.one (.int .i64 r33.2.1), .one (.bool r33.2.2)] [.row (.int .i64) r33.1 .own] ∧
                        Br (decide ((IntKind.wrap .i64 (r33.2.1 - a1)) < (IntKind.wrap .i64 (b2 - r33.2.1)))) (
                         ∃ r34 : List Int, SC P 104 [.one (.sl 0 none), .one (.int .i64 a1), .one (.int .i64 r33.2.1), .one (.int .i64 (IntKind.wrap .i64 (limit3 - 1)))] [.row (.int .i64) r33.1 .own] [] [.row (.int .i64) r34 .own] ∧
                          FL E H104 Tryz.f104 1 r lh 0 (S104_L0 (IntKind.wrap .i64 (r33.2.1 + 1)) b2 (IntKind.wrap .i64 (limit3 - 1)) (decide ((IntKind.wrap .i64 (Int.tdiv (IntKind.wrap .i64 (b2 - a1)) 8)) ≤ (IntKind.wrap .i64 (r33.2.1 - a1)))) r33.2.2 r34)) (
                         ∃ r35 : List Int, SC P 104 [.one (.sl 0 none), .one (.int .i64 (IntKind.wrap .i64 (r33.2.1 + 1))), .one (.int .i64 b2), .one (.int .i64 (IntKind.wrap .i64 (limit3 - 1)))] [.row (.int .i64) r33.1 .own] [] [.row (.int .i64) r35 .own] ∧
                          FL E H104 Tryz.f104 1 r lh 0 (S104_L0 a1 r33.2.1 (IntKind.wrap .i64 (limit3 - 1)) (decide ((IntKind.wrap .i64 (Int.tdiv (IntKind.wrap .i64 (b2 - a1)) 8)) ≤ (IntKind.wrap .i64 (b2 - r33.2.1)))) r33.2.2 r35)))))))))) (
               ∃ r36 : List Int × Int × Bool, SC P 125 [.one (.sl 0 none), .one (.int .i64 a1), .one (.int .i64 b2), .one (.int .i64 r3.2.1)] [.row (.int .i64) r30.1 .own] [.one (.int .i64 r36.2.1), .one (.bool r36.2.2)] [.row (.int .i64) r36.1 .own] ∧
                Br (decide ((IntKind.wrap .i64 (r36.2.1 - a1)) < (IntKind.wrap .i64 (b2 - r36.2.1)))) (
                 ∃ r37 : List Int, SC P 104 [.one (.sl 0 none), .one (.int .i64 a1), .one (.int .i64 r36.2.1), .one (.int .i64 (IntKind.wrap .i64 (limit3 - 1)))] [.row (.int .i64) r36.1 .own] [] [.row (.int .i64) r37 .own] ∧
                  FL E H104 Tryz.f104 1 r lh 0 (S104_L0 (IntKind.wrap .i64 (r36.2.1 + 1)) b2 (IntKind.wrap .i64 (limit3 - 1)) (decide ((IntKind.wrap .i64 (Int.tdiv (IntKind.wrap .i64 (b2 - a1)) 8)) ≤ (IntKind.wrap .i64 (r36.2.1 - a1)))) r36.2.2 r37)) (
                 ∃ r38 : List Int, SC P 104 [.one (.sl 0 none), .one (.int .i64 (IntKind.wrap .i64 (r36.2.1 + 1))), .one (.int .i64 b2), .one (.int .i64 (IntKind.wrap .i64 (limit3 - 1)))] [.row (.int .i64) r36.1 .own] [] [.row (.int .i64) r38 .own] ∧
                  FL E H104 Tryz.f104 1 r lh 0 (S104_L0 a1 r36.2.1 (IntKind.wrap .i64 (limit3 - 1)) (decide ((IntKind.wrap .i64 (Int.tdiv (IntKind.wrap .i64 (b2 - a1)) 8)) ≤ (IntKind.wrap .i64 (b2 - r36.2.1)))) r36.2.2 r38))))) (
            Br (decide ((0 : Int) < a1)) (
             Ck (decide ((0 : Int) ≤ (IntKind.wrap .i64 (a1 - 1)))) (
              Ck (decide ((IntKind.wrap .i64 (a1 - 1)) < ((r3.1.length : Nat) : Int))) (
               Ck (Nat.ble ((IntKind.wrap .i64 (a1 - 1)).toNat + 1) r3.1.length) (
                Ck (decide ((0 : Int) ≤ r3.2.1)) (
                 Ck (decide (r3.2.1 < ((r3.1.length : Nat) : Int))) (
                  Ck (Nat.ble (r3.2.1.toNat + 1) r3.1.length) (
                   ∃ r39 : Bool, SC P 123 [.one (.int .i64 (r3.1.getD (IntKind.wrap .i64 (a1 - 1)).toNat 0)), .one (.int .i64 (r3.1.getD r3.2.1.toNat 0))] [] [.one (.bool r39)] [] ∧
                    Br (!r39) (
                     ∃ r40 : List Int × Int, SC P 124 [.one (.sl 0 none), .one (.int .i64 a1), .one (.int .i64 b2), .one (.int .i64 r3.2.1)] [.row (.int .i64) r3.1 .own] [.one (.int .i64 r40.2)] [.row (.int .i64) r40.1 .own] ∧
                      FL E H104 Tryz.f104 1 r lh 0 (S104_L0 r40.2 b2 (IntKind.wrap .i64 (limit3 - 1)) wasBalanced8 wasPartitioned9 r40.1)) (
                     ∃ r41 : List Int × Int × Bool, SC P 125 [.one (.sl 0 none), .one (.int .i64 a1), .one (.int .i64 b2), .one (.int .i64 r3.2.1)] [.row (.int .i64) r3.1 .own] [.one (.int .i64 r41.2.1), .one (.bool r41.2.2)] [.row (.int .i64) r41.1 .own] ∧
                      Br (decide ((IntKind.wrap .i64 (r41.2.1 - a1)) < (IntKind.wrap .i64 (b2 - r41.2.1)))) (
                       ∃ r42 : List Int, SC P 104 [.one (.sl 0 none), .one (.int .i64 a1), .one (.int .i64 r41.2.1), .one (.int .i64 (IntKind.wrap .i64 (limit3 - 1)))] [.row (.int .i64) r41.1 .own] [] [.row (.int .i64) r42 .own] ∧
                        FL E H104 Tryz.f104 1 r lh 0 (S104_L0 (IntKind.wrap .i64 (r41.2.1 + 1)) b2 (IntKind.wrap .i64 (limit3 - 1)) (decide ((IntKind.wrap .i64 (Int.tdiv (IntKind.wrap .i64 (b2 - a1)) 8)) ≤ (IntKind.wrap .i64 (r41.2.1 - a1)))) r41.2.2 r42)) (
                       ∃ r43 : List Int, SC P 104 [.one (.sl 0 none), .one (.int .i64 (IntKind.wrap .i64 (r41.2.1 + 1))), .one (.int .i64 b2), .one (.int .i64 (IntKind.wrap .i64 (limit3 - 1)))] [.row (.int .i64) r41.1 .own] [] [.row (.int .i64) r43 .own] ∧
                        FL E H104 Tryz.f104 1 r lh 0 (S104_L0 a1 r41.2.1 (IntKind.wrap .i64 (limit3 - 1)) (decide ((IntKind.wrap .i64 (Int.tdiv (IntKind.wrap .i64 (b2 - a1)) 8)) ≤ (IntKind.wrap .i64 (b2 - r41.2.1)))) r41.2.2 r43)))))))))) (
             ∃ r44 : List Int × Int × Bool, SC P 125 [.one (.sl 0 none), .one (.int .i64 a1), .one (.int .i64 b2), .one (.int .i64 r3.2.1)] [.row (.int .i64) r3.1 .own] [.one (.int .i64 r44.2.1), .one (.bool r44.2.2)] [.row (.int .i64) r44.1 .own] ∧
              Br (decide ((IntKind.wrap .i64 (r44.2.1 - a1)) < (IntKind.wrap .i64 (b2 - r44.2.1)))) (
               ∃ r45 : List Int, SC P 104 [.one (.sl 0 none), .one (.int .i64 a1), .one (.int .i64 r44.2.1), .one (.int .i64 (IntKind.wrap .i64 (limit3 - 1)))] [.row (.int .i64) r44.1 .own] [] [.row (.int .i64) r45 .own] ∧
                FL E H104 Tryz.f104 1 r lh 0 (S104_L0 (IntKind.wrap .i64 (r44.2.1 + 1)) b2 (IntKind.wrap .i64 (limit3 - 1)) (decide ((IntKind.wrap .i64 (Int.tdiv (IntKind.wrap .i64 (b2 - a1)) 8)) ≤ (IntKind.wrap .i64 (r44.2.1 - a1)))) r44.2.2 r45)) (
               ∃ r46 : List Int, SC P 104 [.one (.sl 0 none), .one (.int .i64 (IntKind.wrap .i64 (r44.2.1 + 1))), .one (.int .i64 b2), .one (.int .i64 (IntKind.wrap .i64 (limit3 - 1)))] [.row (.int .i64) r44.1 .own] [] [.row (.int .i64) r46 .own] ∧
                FL E H104 Tryz.f104 1 r lh 0 (S104_L0 a1 r44.2.1 (IntKind.wrap .i64 (limit3 - 1)) (decide ((IntKind.wrap .i64 (Int.tdiv (IntKind.wrap .i64 (b2 - a1)) 8)) ≤ (IntKind.wrap .i64 (b2 - r44.2.1)))) r44.2.2 r46))))) (
           Br (decide ((0 : Int) < a1)) (
            Ck (decide ((0 : Int) ≤ (IntKind.wrap .i64 (a1 - 1)))) (
             Ck (decide ((IntKind.wrap .i64 (a1 - 1)) < ((r3.1.length : Nat) : Int))) (
              Ck (Nat.ble ((IntKind.wrap .i64 (a1 - 1)).toNat + 1) r3.1.length) (
               Ck (decide ((0 : Int) ≤ r3.2.1)) (
                Ck (decide (r3.2.1 < ((r3.1.length : Nat) : Int))) (
                 Ck (Nat.ble (r3.2.1.toNat + 1) r3.1.length) (
                  ∃ r47 : Bool, SC P 123 [.one (.int .i64 (r3.1.getD (IntKind.wrap .i64 (a1 - 1)).toNat 0)), .one (.int .i64 (r3.1.getD r3.2.1.toNat 0))] [] [.one (.bool r47)] [] ∧
                   Br (!r47) (
                    ∃ r48 : List Int × Int, SC P 124 [.one (.sl 0 none), .one (.int .i64 a1), .one (.int .i64 b2), .one (.int .i64 r3.2.1)] [.row (.int .i64) r3.1 .own] [.one (.int .i64 r48.2)] [.row (.int .i64) r48.1 .own] ∧
                     FL E H104 Tryz.f104 1 r lh 0 (S104_L0 r48.2 b2 (IntKind.wrap .i64 (limit3 - 1)) wasBalanced8 wasPartitioned9 r48.1)) (
                    ∃ r49 : List Int × Int × Bool, SC P 125 [.one (.sl 0 none), .one (.int .i64 a1), .one (.int .i64 b2), .one (.int .i64 r3.2.1)] [.row (.int .i64) r3.1 .own] [.one (.int .i64 r49.2.1), .one (.bool r49.2.2)] [.row (.int .i64) r49.1 .own] ∧
                     Br (decide ((IntKind.wrap .i64 (r49.2.1 - a1)) < (IntKind.wrap .i64 (b2 - r49.2.1)))) (
                      ∃ r50 : List Int, SC P 104 [.one (.sl 0 none), .one (.int .i64 a1), .one (.int .i64 r49.2.1), .one (.int .i64 (IntKind.wrap .i64 (limit3 - 1)))] [.row (.int .i64) r49.1 .own] [] [.row (.int .i64) r50 .own] ∧
                       FL E H104 Tryz.f104 1 r lh 0 (S104_L0 (IntKind.wrap .i64 (r49.2.1 + 1)) b2 (IntKind.wrap .i64 (limit3 - 1)) (decide ((IntKind.wrap .i64 (Int.tdiv (IntKind.wrap .i64 (b2 - a1)) 8)) ≤ (IntKind.wrap .i64 (r49.2.1 - a1)))) r49.2.2 r50)) (
                      ∃ r51 : List Int, SC P 104 [.one (.sl 0 none), .one (.int .i64 (IntKind.wrap .i64 (r49.2.1 + 1))), .one (.int .i64 b2), .one (.int .i64 (IntKind.wrap .i64 (limit3 - 1)))] [.row (.int .i64) r49.1 .own] [] [.row (.int .i64) r51 .own] ∧
                       FL E H104 Tryz.f104 1 r lh 0 (S104_L0 a1 r49.2.1 (IntKind.wrap .i64 (limit3 - 1)) (decide ((IntKind.wrap .i64 (Int.tdiv (IntKind.wrap .i64 (b2 - a1)) 8)) ≤ (IntKind.wrap .i64 (b2 - r49.2.1)))) r49.2.2 r51)))))))))) (
            ∃ r52 : List Int × Int × Bool, SC P 125 [.one (.sl 0 none), .one (.int .i64 a1), .one (.int .i64 b2), .one (.int .i64 r3.2.1)] [.row (.int .i64) r3.1 .own] [.one (.int .i64 r52.2.1), .one (.bool r52.2.2)] [.row (.int .i64) r52.1 .own] ∧
             Br (decide ((IntKind.wrap .i64 (r52.2.1 - a1)) < (IntKind.wrap .i64 (b2 - r52.2.1)))) (
              ∃ r53 : List Int, SC P 104 [.one (.sl 0 none), .one (.int .i64 a1), .one (.int .i64 r52.2.1), .one (.int .i64 (IntKind.wrap .i64 (limit3 - 1)))] [.row (.int .i64) r52.1 .own] [] [.row (.int .i64) r53 .own] ∧
               FL E H104 Tryz.f104 1 r lh 0 (S104_L0 (IntKind.wrap .i64 (r52.2.1 + 1)) b2 (IntKind.wrap .i64 (limit3 - 1)) (decide ((IntKind.wrap .i64 (Int.tdiv (IntKind.wrap .i64 (b2 - a1)) 8)) ≤ (IntKind.wrap .i64 (r52.2.1 - a1)))) r52.2.2 r53)) (
              ∃ r54 : List Int, SC P 104 [.one (.sl 0 none), .one (.int .i64 (IntKind.wrap .i64 (r52.2.1 + 1))), .one (.int .i64 b2), .one (.int .i64 (IntKind.wrap .i64 (limit3 - 1)))] [.row (.int .i64) r52.1 .own] [] [.row (.int .i64) r54 .own] ∧
               FL E H104 Tryz.f104 1 r lh 0 (S104_L0 a1 r52.2.1 (IntKind.wrap .i64 (limit3 - 1)) (decide ((IntKind.wrap .i64 (Int.tdiv (IntKind.wrap .i64 (b2 - a1)) 8)) ≤ (IntKind.wrap .i64 (b2 - r52.2.1)))) r52.2.2 r54))))) (
          Br (decide ((0 : Int) < a1)) (
           Ck (decide ((0 : Int) ≤ (IntKind.wrap .i64 (a1 - 1)))) (
            Ck (decide ((IntKind.wrap .i64 (a1 - 1)) < ((r3.1.length : Nat) : Int))) (
             Ck (Nat.ble ((IntKind.wrap .i64 (a1 - 1)).toNat + 1) r3.1.length) (
              Ck (decide ((0 : Int) ≤ r3.2.1)) (
               Ck (decide (r3.2.1 < ((r3.1.length : Nat) : Int))) (
                Ck (Nat.ble (r3.2.1.toNat + 1) r3.1.length) (
                 ∃ r55 : Bool, SC P 123 [.one (.int .i64 (r3.1.getD (IntKind.wrap .i64 (a1 - 1)).toNat 0)), .one (.int .i64 (r3.1.getD r3.2.1.toNat 0))] [] [.one (.bool r55)] [] ∧
                  Br (!r55) (
                   ∃ r56 : List Int × Int, SC P 124 [.one (.sl 0 none), .one (.int .i64 a1), .one (.int .i64 b2), .one (.int .i64 r3.2.1)] [.row (.int .i64) r3.1 .own] [.one (.int .i64 r56.2)] [.row (.int .i64) r56.1 .own] ∧
                    FL E H104 Tryz.f104 1 r lh 0 (S104_L0 r56.2 b2 (IntKind.wrap .i64 (limit3 - 1)) wasBalanced8 wasPartitioned9 r56.1)) (
                   ∃ r57 : List Int × Int × Bool, SC P 125 [.one (.sl 0 none), .one (.int .i64 a1), .one (.int .i64 b2), .one (.int .i64 r3.2.1)] [.row (.int .i64) r3.1 .own] [.one (.int .i64 r57.2.1), .one (.bool r57.2.2)] [.row (.int .i64) r57.1 .own] ∧
                    Br (decide ((IntKind.wrap .i64 (r57.2.1 - a1)) < (IntKind.wrap .i64 (b2 - r57.2.1)))) (
                     ∃ r58 : List Int, SC P 104 [.one (.sl 0 none), .one (.int .i64 a1), .one (.int .i64 r57.2.1), .one (.int .i64 (IntKind.wrap .i64 (limit3 - 1)))] [.row (.int .i64) r57.1 .own] [] [.row (.int .i64) r58 .own] ∧
                      FL E H104 Tryz.f104 1 r lh 0 (S104_L0 (IntKind.wrap .i64 (r57.2.1 + 1)) b2 (IntKind.wrap .i64 (limit3 - 1)) (decide ((IntKind.wrap .i64 (Int.tdiv (IntKind.wrap .i64 (b2 - a1)) 8)) ≤ (IntKind.wrap .i64 (r57.2.1 - a1)))) r57.2.2 r58)) (
                     ∃ r59 : List Int, SC P 104 [.one (.sl 0 none), .one (.int .i64 (IntKind.wrap .i64 (r57.2.1 + 1))), .one (.int .i64 b2), .one (.int .i64 (IntKind.wrap .i64 (limit3 - 1)))] [.row (.int .i64) r57.1 .own] [] [.row (.int .i64) r59 .own] ∧
                      FL E H104 Tryz.f104 1 r lh 0 (S104_L0 a1 r57.2.1 (IntKind.wrap .i64 (limit3 - 1)) (decide ((IntKind.wrap .i64 (Int.tdiv (IntKind.wrap .i64 (b2 - a1)) 8)) ≤ (IntKind.wrap .i64 (b2 - r57.2.1)))) r57.2.2 r59)))))))))) (
           ∃ r60 : List Int × Int × Bool, SC P 125 [.one (.sl 0 none), .one (.int .i64 a1), .one (.int .i64 b2), .one (.int .i64 r3.2.1)] [.row (.int .i64) r3.1 .own] [.one (.int .i64 r60.2.1), .one (.bool r60.2.2)] [.row (.int .i64) r60.1 .own] ∧
            Br (decide ((IntKind.wrap .i64 (r60.2.1 - a1)) < (IntKind.wrap .i64 (b2 - r60.2.1)))) (
             ∃ r61 : List Int, SC P 104 [.one (.sl 0 none), .one (.int .i64 a1), .one (.int .i64 r60.2.1), .one (.int .i64 (IntKind.wrap .i64 (limit3 - 1)))] [.row (.int .i64) r60.1 .own] [] [.row (.int .i64) r61 .own] ∧
              FL E H104 Tryz.f104 1 r lh 0 (S104_L0 (IntKind.wrap .i64 (r60.2.1 + 1)) b2 (IntKind.wrap .i64 (limit3 - 1)) (decide ((IntKind.wrap .i64 (Int.tdiv (IntKind.wrap .i64 (b2 - a1)) 8)) ≤ (IntKind.wrap .i64 (r60.2.1 - a1)))) r60.2.2 r61)) (
             ∃ r62 : List Int, SC P 104 [.one (.sl 0 none), .one (.int .i64 (IntKind.wrap .i64 (r60.2.1 + 1))), .one (.int .i64 b2), .one (.int .i64 (IntKind.wrap .i64 (limit3 - 1)))] [.row (.int .i64) r60.1 .own] [] [.row (.int .i64) r62 .own] ∧
              FL E H104 Tryz.f104 1 r lh 0 (S104_L0 a1 r60.2.1 (IntKind.wrap .i64 (limit3 - 1)) (decide ((IntKind.wrap .i64 (Int.tdiv (IntKind.wrap .i64 (b2 - a1)) 8)) ≤ (IntKind.wrap .i64 (b2 - r60.2.1)))) r60.2.2 r62)))))) (
      ∃ r63 : List Int × Int × Int, SC P 120 [.one (.sl 0 none), .one (.int .i64 a1), .one (.int .i64 b2)] [.row (.int .i64) h0 .own] [.one (.int .i64 r63.2.1), .one (.int .i64 r63.2.2)] [.row (.int .i64) r63.1 .own] ∧
       Br (decide (r63.2.2 = (2 : Int))) (
        ∃ r64 : List Int, SC P 121 [.one (.sl 0 none), .one (.int .i64 a1), .one (.int .i64 b2)] [.row (.int .i64) r63.1 .own] [] [.row (.int .i64) r64 .own] ∧
         Br wasBalanced8 (
          Br wasPartitioned9 (
           ∃ r65 : List Int × Bool, SC P 122 [.one (.sl 0 none), .one (.int .i64 a1), .one (.int .i64 b2)] [.row (.int .i64) r64 .own] [.one (.bool r65.2)] [.row (.int .i64) r65.1 .own] ∧
            Br r65.2 (
             Ret r lh [] [.row (.int .i64) r65.1 .own]) (
             Br (decide ((0 : Int) < a1)) (
              Ck (decide ((0 : Int) ≤ (IntKind.wrap .i64 (a1 - 1)))) (
               Ck (decide ((IntKind.wrap .i64 (a1 - 1)) < ((r65.1.length : Nat) : Int))) (
                Ck (Nat.ble ((IntKind.wrap .i64 (a1 - 1)).toNat + 1) r65.1.length) (
                 Ck (decide ((0 : Int) ≤ (IntKind.wrap .i64 ((IntKind.wrap .i64 (b2 - 1)) - (IntKind.wrap .i64 (r63.2.1 - a1)))))) (
                  Ck (decide ((IntKind.wrap .i64 ((IntKind.wrap .i64 (b2 - 1)) - (IntKind.wrap .i64 (r63.2.1 - a1)))) < ((r65.1.length : Nat) : Int))) (
                   Ck (Nat.ble ((IntKind.wrap .i64 ((IntKind.wrap .i64 (b2 - 1)) - (IntKind.wrap .i64 (r63.2.1 - a1)))).toNat + 1) r65.1.length) (
                    ∃ r66 : Bool, SC P 123 [.one (.int .i64 (r65.1.getD (IntKind.wrap .i64 (a1 - 1)).toNat 0)), .one (.int .i64 (r65.1.getD (IntKind.wrap .i64 ((IntKind.wrap .i64 (b2 - 1)) - (IntKind.wrap .i64 (r63.2.1 - a1)))).toNat 0))] [] [.one (.bool r66)] [] ∧
                     Br (!r66) (
                      ∃ r67 : List Int × Int, SC P 124 [.one (.sl 0 none), .one (.int .i64 a1), .one (.int .i64 b2), .one (.int .i64 (IntKind.wrap .i64 ((IntKind.wrap .i64 (b2 - 1)) - (IntKind.wrap .i64 (r63.2.1 - a1)))))] [.row (.int .i64) r65.1 .own] [.one (.int .i64 r67.2)] [.row (.int .i64) r67.1 .own] ∧
                       FL E H104 Tryz.f104 1 r lh 0 (S104_L0 r67.2 b2 limit3 wasBalanced8 wasPartitioned9 r67.1)) (
                      ∃ r68 : List Int × Int × Bool, SC P 125 [.one (.sl 0 none), .one (.int .i64 a1), .one (.int .i64 b2), .one (.int .i64 (IntKind.wrap .i64 ((IntKind.wrap .i64 (b2 - 1)) - (IntKind.wrap .i64 (r63.2.1 - a1)))))] [.row (.int .i64) r65.1 .own] [.one (.int .i64 r68.2.1), .one (.bool r68.2.2)] [.row (.int .i64) r68.1 .own] ∧
                       Br (decide ((IntKind.wrap .i64 (r68.2.1 - a1)) < (IntKind.wrap .i64 (b2 - r68.2.1)))) (
                        ∃ r69 : List Int, SC P 104 [.one (.sl 0 none), .one (.int .i64 a1), .one (.int .i64 r68.2.1), .one (.int .i64 limit3)] [.row (.int .i64) r68.1 .own] [] [.row (.int .i64) r69 .own] ∧
                         FL E H104 Tryz.f104 1 r lh 0 (S104_L0 (IntKind.wrap .i64 (r68.2.1 + 1)) b2 limit3 (decide ((IntKind.wrap .i64 (Int.tdiv (IntKind.wrap .i64 (b2 - a1)) 8)) ≤ (IntKind.wrap .i64 (r68.2.1 - a1)))) r68.2.2 r69)) (
                        ∃ r70 : List Int, SC P 104 [.one (.sl 0 none), .one (.int .i64 (IntKind.wrap .i64 (r68.2.1 + 1))), .one (.int .i64 b2), .one (.int .i64 limit3)] [.row (.int .i64) r68.1 .own] [] [.row (.int .i64) r70 .own] ∧
                         FL E H104 Tryz.f104 1 r lh 0 (S104_L0 a1 r68.2.1 limit3 (decide ((IntKind.wrap .i64 (Int.tdiv (IntKind.wrap .i64 (b2 - a1)) 8)) ≤ (IntKind.wrap .i64 (b2 - r68.2.1)))) r68.2.2 r70)))))))))) (
              ∃ r71 : List Int × Int × Bool, SC P 125 [.one (.sl 0 none), .one (.int .i64 a1), .one (.int .i64 b2), .one (.int .i64 (IntKind.wrap .i64 ((IntKind.wrap .i64 (b2 - 1)) - (IntKind.wrap .i64 (r63.2.1 - a1)))))] [.row (.int .i64) r65.1 .own] [.one (.int .i64 r71.2.1), .one (.bool r71.2.2)] [.row (.int .i64) r71.1 .own] ∧
               Br (decide ((IntKind.wrap .i64 (r71.2.1 - a1)) < (IntKind.wrap .i64 (b2 - r71.2.1)))) (
                ∃ r72 : List Int, SC P 104 [.one (.sl 0 none), .one (.int .i64 a1), .one (.int .i64 r71.2.1), .one (.int .i64 limit3)] [.row (.int .i64) r71.1 .own] [] [.row (.int .i64) r72 .own] ∧
                 FL E H104 Tryz.f104 1 r lh 0 (S104_L0 (IntKind.wrap .i64 (r71.2.1 + 1)) b2 limit3 (decide ((IntKind.wrap .i64 (Int.tdiv (IntKind.wrap .i64 (b2 - a1)) 8)) ≤ (IntKind.wrap .i64 (r71.2.1 - a1)))) r71.2.2 r72)) (
                ∃ r73 : List Int, SC P 104 [.one (.sl 0 none), .one (.int .i64 (IntKind.wrap .i64 (r71.2.1 + 1))), .one (.int .i64 b2), .one (.int .i64 limit3)] [.row (.int .i64) r71.1 .own] [] [.row (.int .i64) r73 .own] ∧
                 FL E H104 Tryz.f104 1 r lh 0 (S104_L0 a1 r71.2.1 limit3 (decide ((IntKind.wrap .i64 (Int.tdiv (IntKind.wrap .i64 (b2 - a1)) 8)) ≤ (IntKind.wrap .i64 (b2 - r71.2.1)))) r71.2.2 r73))))) (
           Br (decide ((0 : Int) < a1)) (
            Ck (decide ((0 : Int) ≤ (IntKind.wrap .i64 (a1 - 1)))) (
             Ck (decide ((IntKind.wrap .i64 (a1 - 1)) < ((r64.length : Nat) : Int))) (
              Ck (Nat.ble ((IntKind.wrap .i64 (a1 - 1)).toNat + 1) r64.length) (
               Ck (decide ((0 : Int) ≤ (IntKind.wrap .i64 ((IntKind.wrap .i64 (b2 - 1)) - (IntKind.wrap .i64 (r63.2.1 - a1)))))) (
                Ck (decide ((IntKind.wrap .i64 ((IntKind.wrap .i64 (b2 - 1)) - (IntKind.wrap .i64 (r63.2.1 - a1)))) < ((r64.length : Nat) : Int))) (
                 Ck (Nat.ble ((IntKind.wrap .i64 ((IntKind.wrap .i64 (b2 - 1)) - (IntKind.wrap .i64 (r63.2.1 - a1)))).toNat + 1) r64.length) (
                  ∃ r74 : Bool, SC P 123 [.one (.int .i64 (r64.getD (IntKind.wrap .i64 (a1 - 1)).toNat 0)), .one (.int .i64 (r64.getD (IntKind.wrap .i64 ((IntKind.wrap .i64 (b2 - 1)) - (IntKind.wrap .i64 (r63.2.1 - a1)))).toNat 0))] [] [.one (.bool r74)] [] ∧
                   Br (!r74) (
                    ∃ r75 : List Int × Int, SC P 124 [.one (.sl 0 none), .one (.int .i64 a1), .one (.int .i64 b2), .one (.int .i64 (IntKind.wrap .i64 ((IntKind.wrap .i64 (b2 - 1)) - (IntKind.wrap .i64 (r63.2.1 - a1)))))] [.row (.int .i64) r64 .own] [.one (.int .i64 r75.2)] [.row (.int .i64) r75.1 .own] ∧
                     FL E H104 Tryz.f104 1 r lh 0 (S104_L0 r75.2 b2 limit3 wasBalanced8 wasPartitioned9 r75.1)) (
                    ∃ r76 : List Int × Int × Bool, SC P 125 [.one (.sl 0 none), .one (.int .i64 a1), .one (.int .i64 b2), .one (.int .i64 (IntKind.wrap .i64 ((IntKind.wrap .i64 (b2 - 1)) - (IntKind.wrap .i64 (r63.2.1 - a1)))))] [.row (.int .i64) r64 .own] [.one (.int .i64 r76.2.1), .one (.bool r76.2.2)] [.row (.int .i64) r76.1 .own] ∧
                     Br (decide ((IntKind.wrap .i64 (r76.2.1 - a1)) < (IntKind.wrap .i64 (b2 - r76.2.1)))) (
                      ∃ r77 : List Int, SC P 104 [.one (.sl 0 none), .one (.int .i64 a1), .one (.int .i64 r76.2.1), .one (.int .i64 limit3)] [.row (.int .i64) r76.1 .own] [] [.row (.int .i64) r77 .own] ∧
                       FL E H104 Tryz.f104 1 r lh 0 (S104_L0 (IntKind.wrap .i64 (r76.2.1 + 1)) b2 limit3 (decide ((IntKind.wrap .i64 (Int.tdiv (IntKind.wrap .i64 (b2 - a1)) 8)) ≤ (IntKind.wrap .i64 (r76.2.1 - a1)))) r76.2.2 r77)) (
                      ∃ r78 : List Int, SC P 104 [.one (.sl 0 none), .one (.int .i64 (IntKind.wrap .i64 (r76.2.1 + 1))), .one (.int .i64 b2), .one (.int .i64 limit3)] [.row (.int .i64) r76.1 .own] [] [.row (.int .i64) r78 .own] ∧
                       FL E H104 Tryz.f104 1 r lh 0 (S104_L0 a1 r76.2.1 limit3 (decide ((IntKind.wrap .i64 (Int.tdiv (IntKind.wrap .i64 (b2 - a1)) 8)) ≤ (IntKind.wrap .i64 (b2 - r76.2.1)))) r76.2.2 r78)))))))))) (
            ∃ r79 : List Int × Int × Bool, SC P 125 [.one (.sl 0 none), .one (.int .i64 a1), .one (.int .i64 b2), .one (.int .i64 (IntKind.wrap .i64 ((IntKind.wrap .i64 (b2 - 1)) - (IntKind.wrap .i64 (r63.2.1 - a1)))))] [.row (.int .i64) r64 .own] [.one (.int .i64 r79.2.1), .one (.bool r79.2.2)] [.row (.int .i64) r79.1 .own] ∧
             Br (decide ((IntKind.wrap .i64 (r79.2.1 - a1)) < (IntKind.wrap .i64 (b2 - r79.2.1)))) (
              ∃ r80 : List Int, SC P 104 [.one (.sl 0 none), .one (.int .i64 a1), .one (.int .i64 r79.2.1), .one (.int .i64 limit3)] [.row (.int .i64) r79.1 .own] [] [.row (.int .i64) r80 .own] ∧
               FL E H104 Tryz.f104 1 r lh 0 (S104_L0 (IntKind.wrap .i64 (r79.2.1 + 1)) b2 limit3 (decide ((IntKind.wrap .i64 (Int.tdiv (IntKind.wrap .i64 (b2 - a1)) 8)) ≤ (IntKind.wrap .i64 (r79.2.1 - a1)))) r79.2.2 r80)) (
              ∃ r81 : List Int, SC P 104 [.one (.sl 0 none), .one (.int .i64 (IntKind.wrap .i64 (r79.2.1 + 1))), .one (.int .i64 b2), .one (.int .i64 limit3)] [.row (.int .i64) r79.1 .own] [] [.row (.int .i64) r81 .own] ∧
               FL E H104 Tryz.f104 1 r lh 0 (S104_L0 a1 r79.2.1 limit3 (decide ((IntKind.wrap .i64 (Int.tdiv (IntKind.wrap .i64 (b2 - a1)) 8)) ≤ (IntKind.wrap .i64 (b2 - r79.2.1)))) r79.2.2 r81))))) (
          Br (decide ((0 : Int) < a1)) (
           Ck (decide ((0 : Int) ≤ (IntKind.wrap .i64 (a1 - 1)))) (
            Ck (decide ((IntKind.wrap .i64 (a1 - 1)) < ((r64.length : Nat) : Int))) (
             Ck (Nat.ble ((IntKind.wrap .i64 (a1 - 1)).toNat + 1) r64.length) (
              Ck (decide ((0 : Int) ≤ (IntKind.wrap .i64 ((IntKind.wrap .i64 (b2 - 1)) - (IntKind.wrap .i64 (r63.2.1 - a1)))))) (
               Ck (decide ((IntKind.wrap .i64 ((IntKind.wrap .i64 (b2 - 1)) - (IntKind.wrap .i64 (r63.2.1 - a1)))) < ((r64.length : Nat) : Int))) (
                Ck (Nat.ble ((IntKind.wrap .i64 ((IntKind.wrap .i64 (b2 - 1)) - (IntKind.wrap .i64 (r63.2.1 - a1)))).toNat + 1) r64.length) (
                 ∃ r82 : Bool, SC P 123 [.one (.int .i64 (r64.getD (IntKind.wrap .i64 (a1 - 1)).toNat 0)), .one (.int .i64 (r64.getD (IntKind.wrap .i64 ((IntKind.wrap .i64 (b2 - 1)) - (IntKind.wrap .i64 (r63.2.1 - a1)))).toNat 0))] [] [.one (.bool r82)] [] ∧
                  Br (!r82) (
                   ∃ r83 : List Int × Int, SC P 124 [.one (.sl 0 none), .one (.int .i64 a1), .one (.int .i64 b2), .one (.int .i64 (IntKind.wrap .i64 ((IntKind.wrap .i64 (b2 - 1)) - (IntKind.wrap .i64 (r63.2.1 - a1)))))] [.row (.int .i64) r64 .own] [.one (.int .i64 r83.2)] [.row (.int .i64) r83.1 .own] ∧
                    FL E H104 Tryz.f104 1 r lh 0 (S104_L0 r83.2 b2 limit3 wasBalanced8 wasPartitioned9 r83.1)) (
                   ∃ r84 : List Int × Int × Bool, SC P 125 [.one (.sl 0 none), .one (.int .i64 a1), .one (.int .i64 b2), .one (.int .i64 (IntKind.wrap .i64 ((IntKind.wrap .i64 (b2 - 1)) - (IntKind.wrap .i64 (r63.2.1 - a1)))))] [.row (.int .i64) r64 .own] [.one (.int .i64 r84.2.1), .one (.bool r84.2.2)] [.row (.int .i64) r84.1 .own] ∧
                    Br (decide ((IntKind.wrap .i64 (r84.2.1 - a1)) < (IntKind.wrap .i64 (b2 - r84.2.1)))) (
                     ∃ r85 : List Int, SC P 104 [.one (.sl 0 none), .one (.int .i64 a1), .one (.int .i64 r84.2.1), .one (.int .i64 limit3)] [.row (.int .i64) r84.1 .own] [] [.row (.int .i64) r85 .own] ∧
                      FL E H104 Tryz.f104 1 r lh 0 (S104_L0 (IntKind.wrap .i64 (r84.2.1 + 1)) b2 limit3 (decide ((IntKind.wrap .i64 (Int.tdiv (IntKind.wrap .i64 (b2 - a1)) 8)) ≤ (IntKind.wrap .i64 (r84.2.1 - a1)))) r84.2.2 r85)) (
                     ∃ r86 : List Int, SC P 104 [.one (.sl 0 none), .one (.int .i64 (IntKind.wrap .i64 (r84.2.1 + 1))), .one (.int .i64 b2), .one (.int .i64 limit3)] [.row (.int .i64) r84.1 .own] [] [.row (.int .i64) r86 .own] ∧
                      FL E H104 Tryz.f104 1 r lh 0 (S104_L0 a1 r84.2.1 limit3 (decide ((IntKind.wrap .i64 (Int.tdiv (IntKind.wrap .i64 (b2 - a1)) 8)) ≤ (IntKind.wrap .i64 (b2 - r84.2.1)))) r84.2.2 r86)))))))))) (
           ∃ r87 : List Int × Int × Bool, SC P 125 [.one (.sl 0 none), .one (.int .i64 a1), .one (.int .i64 b2), .one (.int .i64 (IntKind.wrap .i64 ((IntKind.wrap .i64 (b2 - 1)) - (IntKind.wrap .i64 (r63.2.1 - a1)))))] [.row (.int .i64) r64 .own] [.one (.int .i64 r87.2.1), .one (.bool r87.2.2)] [.row (.int .i64) r87.1 .own] ∧
            Br (decide ((IntKind.wrap .i64 (r87.2.1 - a1)) < (IntKind.wrap .i64 (b2 - r87.2.1)))) (
             ∃ r88 : List Int, SC P 104 [.one (.sl 0 none), .one (.int .i64 a1), .one (.int .i64 r87.2.1), .one (.int .i64 limit3)] [.row (.int .i64) r87.1 .own] [] [.row (.int .i64) r88 .own] ∧
              FL E H104 Tryz.f104 1 r lh 0 (S104_L0 (IntKind.wrap .i64 (r87.2.1 + 1)) b2 limit3 (decide ((IntKind.wrap .i64 (Int.tdiv (IntKind.wrap .i64 (b2 - a1)) 8)) ≤ (IntKind.wrap .i64 (r87.2.1 - a1)))) r87.2.2 r88)) (
             ∃ r89 : List Int, SC P 104 [.one (.sl 0 none), .one (.int .i64 (IntKind.wrap .i64 (r87.2.1 + 1))), .one (.int .i64 b2), .one (.int .i64 limit3)] [.row (.int .i64) r87.1 .own] [] [.row (.int .i64) r89 .own] ∧
              FL E H104 Tryz.f104 1 r lh 0 (S104_L0 a1 r87.2.1 limit3 (decide ((IntKind.wrap .i64 (Int.tdiv (IntKind.wrap .i64 (b2 - a1)) 8)) ≤ (IntKind.wrap .i64 (b2 - r87.2.1)))) r87.2.2 r89))))) (
        Br wasBalanced8 (
         Br wasPartitioned9 (
          Br (decide (r63.2.2 = (1 : Int))) (
           ∃ r90 : List Int × Bool, SC P 122 [.one (.sl 0 none), .one (.int .i64 a1), .one (.int .i64 b2)] [.row (.int .i64) r63.1 .own] [.one (.bool r90.2)] [.row (.int .i64) r90.1 .own] ∧
            Br r90.2 (
             Ret r lh [] [.row (.int .i64) r90.1 .own]) (
             Br (decide ((0 : Int) < a1)) (
              Ck (decide ((0 : Int) ≤ (IntKind.wrap .i64 (a1 - 1)))) (
               Ck (decide ((IntKind.wrap .i64 (a1 - 1)) < ((r90.1.length : Nat) : Int))) (
                Ck (Nat.ble ((IntKind.wrap .i64 (a1 - 1)).toNat + 1) r90.1.length) (
                 Ck (decide ((0 : Int) ≤ r63.2.1)) (
                  Ck (decide (r63.2.1 < ((r90.1.length : Nat) : Int))) (
                   Ck (Nat.ble (r63.2.1.toNat + 1) r90.1.length) (
                    ∃ r91 : Bool, SC P 123 [.one (.int .i64 (r90.1.getD (IntKind.wrap .i64 (a1 - 1)).toNat 0)), .one (.int .i64 (r90.1.getD r63.2.1.toNat 0))] [] [.one (.bool r91)] [] ∧
                     Br (!r91) (
                      ∃ r92 : List Int × Int, SC P 124 [.one (.sl 0 none), .one (.int .i64 a1), .one (.int .i64 b2), .one (.int .i64 r63.2.1)] [.row (.int .i64) r90.1 .own] [.one (.int .i64 r92.2)] [.row (.int .i64) r92.1 .own] ∧
                       FL E H104 Tryz.f104 1 r lh 0 (S104_L0 r92.2 b2 limit3 wasBalanced8 wasPartitioned9 r92.1)) (
                      ∃ r93 : List Int × Int × Bool, SC P 125 [.one (.sl 0 none), .one (.int .i64 a1), .one (.int .i64 b2), .one (.int .i64 r63.2.1)] [.row (.int .i64) r90.1 .own] [.one (.int .i64 r93.2.1), .one (.bool r93.2.2)] [.row (.int .i64) r93.1 .own] ∧
                       Br (decide ((IntKind.wrap .i64 (r93.2.1 - a1)) < (IntKind.wrap .i64 (b2 - r93.2.1)))) (
                        ∃ r94 : List Int, SC P 104 [.one (.sl 0 none), .one (.int .i64 a1), .one (.int .i64 r93.2.1), .one (.int .i64 limit3)] [.row (.int .i64) r93.1 .own] [] [.row (.int .i64) r94 .own] ∧
                         FL E H104 Tryz.f104 1 r lh 0 (S104_L0 (IntKind.wrap .i64 (r93.2.1 + 1)) b2 limit3 (decide ((IntKind.wrap .i64 (Int.tdiv (IntKind.wrap .i64 (b2 - a1)) 8)) ≤ (IntKind.wrap .i64 (r93.2.1 - a1)))) r93.2.2 r94)) (
                        ∃ r95 : List Int, SC P 104 [.one (.sl 0 none), .one (.int .i64 (IntKind.wrap .i64 (r93.2.1 + 1))), .one (.int .i64 b2), .one (.int .i64 limit3)] [.row (.int .i64) r93.1 .own] [] [.row (.int .i64) r95 .own] ∧
                         FL E H104 Tryz.f104 1 r lh 0 (S104_L0 a1 r93.2.1 limit3 (decide ((IntKind.wrap .i64 (Int.tdiv (IntKind.wrap .i64 (b2 - a1)) 8)) ≤ (IntKind.wrap .i64 (b2 - r93.2.1)))) r93.2.2 r95)))))))))) (
              ∃ r96 : List Int × Int × Bool, SC P 125 [.one (.sl 0 none), .one (.int .i64 a1), .one (.int .i64 b2), .one (.int .i64 r63.2.1)] [.row (.int .i64) r90.1 .own] [.one (.int .i64 r96.2.1), .one (.bool r96.2.2)] [.row (.int .i64) r96.1 .own] ∧
               Br (decide ((IntKind.wrap .i64 (r96.2.1 - a1)) < (IntKind.wrap .i64 (b2 - r96.2.1)))) (
                ∃ r97 : List Int, SC P 104 [.one (.sl 0 none), .one (.int .i64 a1), .one (.int .i64 r96.2.1), .one (.int .i64 limit3)] [.row (.int .i64) r96.1 .own] [] [.row (.int .i64) r97 .own] ∧
                 FL E H104 Tryz.f104 1 r lh 0 (S104_L0 (IntKind.wrap .i64 (r96.2.1 + 1)) b2 limit3 (decide ((IntKind.wrap .i64 (Int.tdiv (IntKind.wrap .i64 (b2 - a1)) 8)) ≤ (IntKind.wrap .i64 (r96.2.1 - a1)))) r96.2.2 r97)) (
                ∃ r98 : List Int, SC P 104 [.one (.sl 0 none), .one (.int .i64 (IntKind.wrap .i64 (r96.2.1 + 1))), .one (.int .i64 b2), .one (.int .i64 limit3)] [.row (.int .i64) r96.1 .own] [] [.row (.int .i64) r98 .own] ∧
                 FL E H104 Tryz.f104 1 r lh 0 (S104_L0 a1 r96.2.1 limit3 (decide ((IntKind.wrap .i64 (Int.tdiv (IntKind.wrap .i64 (b2 - a1)) 8)) ≤ (IntKind.wrap .i64 (b2 - r96.2.1)))) r96.2.2 r98))))) (
           Br (decide ((0 : Int) < a1)) (
            Ck (decide ((0 : Int) ≤ (IntKind.wrap .i64 (a1 - 1)))) (
             Ck (decide ((IntKind.wrap .i64 (a1 - 1)) < ((r63.1.length : Nat) : Int))) (
              Ck (Nat.ble ((IntKind.wrap .i64 (a1 - 1)).toNat + 1) r63.1.length) (
               Ck (decide ((0 : Int) ≤ r63.2.1)) (
                Ck (decide (r63.2.1 < ((r63.1.length : Nat) : Int))) (
                 Ck (Nat.ble (r63.2.1.toNat + 1) r63.1.length) (
                  ∃ r99 : Bool, SC P 123 [.one (.int .i64 (r63.1.getD (IntKind.wrap .i64 (a1 - 1)).toNat 0)), .one (.int .i64 (r63.1.getD r63.2.1.toNat 0))] [] [.one (.bool r99)] [] ∧
                   Br (!r99) (
                    ∃ r100 : List Int × Int, SC P 124 [.one (.sl 0 none), .one (.int .i64 a1), .one (.int .i64 b2), .one (.int .i64 r63.2.1)] [.row (.int .i64) r63.1 .own] [.one (.int .i64 r100.2)] [.row (.int .i64) r100.1 .own] ∧
                     FL E H104 Tryz.f104 1 r lh 0 (S104_L0 r100.2 b2 limit3 wasBalanced8 wasPartitioned9 r100.1)) (
                    ∃ r101 : List Int × Int × Bool, SC P 125 [.one (.sl 0 none), .one (.int .i64 a1), .one (.int .i64 b2), .one (.int .i64 r63.2.1)] [.row (.int .i64) r63.1 .own] [.one (.int .i64 r101.2.1), .one (.bool r101.2.2)] [.row (.int .i64) r101.1 .own] ∧
                     Br (decide ((IntKind.wrap .i64 (r101.2.1 - a1)) < (IntKind.wrap .i64 (b2 - r101.2.1)))) (
                      ∃ r102 : List Int, SC P 104 [.one (.sl 0 none), .one (.int .i64 a1), .one (.int .i64 r101.2.1), .one (.int .i64 limit3)] [.row (.int .i64) r101.1 .own] [] [.row (.int .i64) r102 .own] ∧
                       FL E H104 Tryz.f104 1 r lh 0 (S104_L0 (IntKind.wrap .i64 (r101.2.1 + 1)) b2 limit3 (decide ((IntKind.wrap .i64 (Int.tdiv (IntKind.wrap .i64 (b2 - a1)) 8)) ≤ (IntKind.wrap .i64 (r101.2.1 - a1)))) r101.2.2 r102)) (
                      ∃ r103 : List Int, SC P 104 [.one (.sl 0 none), .one (.int .i64 (IntKind.wrap .i64 (r101.2.1 + 1))), .one (.int .i64 b2), .one (.int .i64 limit3)] [.row (.int .i64) r101.1 .own] [] [.row (.int .i64) r103 .own] ∧
                       FL E H104 Tryz.f104 1 r lh 0 (S104_L0 a1 r101.2.1 limit3 (decide ((IntKind.wrap .i64 (Int.tdiv (IntKind.wrap .i64 (b2 - a1)) 8)) ≤ (IntKind.wrap .i64 (b2 - r101.2.1)))) r101.2.2 r103)))))))))) (
            ∃ r104 : List Int × Int × Bool, SC P 125 [.one (.sl 0 none), .one (.int .i64 a1), .one (.int .i64 b2), .one (.int .i64 r63.2.1)] [.row (.int .i64) r63.1 .own] [.one (.int .i64 r104.2.1), .one (.bool r104.2.2)] [.row (.int .i64) r104.1 .own] ∧
             Br (decide ((IntKind.wrap .i64 (r104.2.1 - a1)) < (IntKind.wrap .i64 (b2 - r104.2.1)))) (
              ∃ r105 : List Int, SC P 104 [.one (.sl 0 none), .one (.int .i64 a1), .one (.int .i64 r104.2.1), .one (.int .i64 limit3)] [.row (.int .i64) r104.1 .own] [] [.row (.int .i64) r105 .own] ∧
               FL E H104 Tryz.f104 1 r lh 0 (S104_L0 (IntKind.wrap .i64 (r104.2.1 + 1)) b2 limit3 (decide ((IntKind.wrap .i64 (Int.tdiv (IntKind.wrap .i64 (b2 - a1)) 8)) ≤ (IntKind.wrap .i64 (r104.2.1 - a1)))) r104.2.2 r105)) (
              ∃ r106 : List Int, SC P 104 [.one (.sl 0 none), .one (.int .i64 (IntKind.wrap .i64 (r104.2.1 + 1))), .one (.int .i64 b2), .one (.int .i64 limit3)] [.row (.int .i64) r104.1 .own] [] [.row (.int .i64) r106 .own] ∧
               FL E H104 Tryz.f104 1 r lh 0 (S104_L0 a1 r104.2.1 limit3 (decide ((IntKind.wrap .i64 (Int.tdiv (IntKind.wrap .i64 (b2 - a1)) 8)) ≤ (IntKind.wrap .i64 (b2 - r104.2.1)))) r104.2.2 r106))))) (
          Br (decide ((0 : Int) < a1)) (
           Ck (decide ((0 : Int) ≤ (IntKind.wrap .i64 (a1 - 1)))) (
            Ck (decide ((IntKind.wrap .i64 (a1 - 1)) < ((r63.1.length : Nat) : Int))) (
             Ck (Nat.ble ((IntKind.wrap .i64 (a1 - 1)).toNat + 1) r63.1.length) (
              Ck (decide ((0 : Int) ≤ r63.2.1)) (
               Ck (decide (r63.2.1 < ((r63.1.length : Nat) : Int))) (
                Ck (Nat.ble (r63.2.1.toNat + 1) r63.1.length) (
                 ∃ r107 : Bool, SC P 123 [.one (.int .i64 (r63.1.getD (IntKind.wrap .i64 (a1 - 1)).toNat 0)), .one (.int .i64 (r63.1.getD r63.2.1.toNat 0))] [] [.one (.bool r107)] [] ∧
                  Br (!r107) (
                   ∃ r108 : List Int × Int, SC P 124 [.one (.sl 0 none), .one (.int .i64 a1), .one (.int .i64 b2), .one (.int .i64 r63.2.1)] [.row (.int .i64) r63.1 .own] [.one (.int .i64 r108.2)] [.row (.int .i64) r108.1 .own] ∧
                    FL E H104 Tryz.f104 1 r lh 0 (S104_L0 r108.2 b2 limit3 wasBalanced8 wasPartitioned9 r108.1)) (
                   ∃ r109 : List Int × Int × Bool, SC P 125 [.one (.sl 0 none), .one (.int .i64 a1), .one (.int .i64 b2), .one (.int .i64 r63.2.1)] [.row (.int .i64) r63.1 .own] [.one (.int .i64 r109.2.1), .one (.bool r109.2.2)] [.row (.int .i64) r109.1 .own] ∧
                    Br (decide ((IntKind.wrap .i64 (r109.2.1 - a1)) < (IntKind.wrap .i64 (b2 - r109.2.1)))) (
                     ∃ r110 : List Int, SC P 104 [.one (.sl 0 none), .one (.int .i64 a1), .one (.int .i64 r109.2.1), .one (.int .i64 limit3)] [.row (.int .i64) r109.1 .own] [] [.row (.int .i64) r110 .own] ∧
                      FL E H104 Tryz.f104 1 r lh 0 (S104_L0 (IntKind.wrap .i64 (r109.2.1 + 1)) b2 limit3 (decide ((IntKind.wrap .i64 (Int.tdiv (IntKind.wrap .i64 (b2 - a1)) 8)) ≤ (IntKind.wrap .i64 (r109.2.1 - a1)))) r109.2.2 r110)) (
                     ∃ r111 : List Int, SC P 104 [.one (.sl 0 none), .one (.int .i64 (IntKind.wrap .i64 (r109.2.1 + 1))), .one (.int .i64 b2), .one (.int .i64 limit3)] [.row (.int .i64) r109.1 .own] [] [.row (.int .i64) r111 .own] ∧
                      FL E H104 Tryz.f104 1 r lh 0 (S104_L0 a1 r109.2.1 limit3 (decide ((IntKind.wrap .i64 (Int.tdiv (IntKind.wrap .i64 (b2 - a1)) 8)) ≤ (IntKind.wrap .i64 (b2 - r109.2.1)))) r109.2.2 r111)))))))))) (
           ∃ r112 : List Int × Int × Bool, SC P 125 [.one (.sl 0 none), .one (.int .i64 a1), .one (.int .i64 b2), .one (.int .i64 r63.2.1)] [.row (.int .i64) r63.1 .own] [.one (.int .i64 r112.2.1), .one (.bool r112.2.2)] [.row (.int .i64) r112.1 .own] ∧
            Br (decide ((IntKind.wrap .i64 (r112.2.1 - a1)) < (IntKind.wrap .i64 (b2 - r112.2.1)))) (
             ∃ r113 : List Int, SC P 104 [.one (.sl 0 none), .one (.int .i64 a1), .one (.int .i64 r112.2.1), .one (.int .i64 limit3)] [.row (.int .i64) r112.1 .own] [] [.row (.int .i64) r113 .own] ∧
              FL E H104 Tryz.f104 1 r lh 0 (S104_L0 (IntKind.wrap .i64 (r112.2.1 + 1)) b2 limit3 (decide ((IntKind.wrap .i64 (Int.tdiv (IntKind.wrap .i64 (b2 - a1)) 8)) ≤ (IntKind.wrap .i64 (r112.2.1 - a1)))) r112.2.2 r113)) (
             ∃ r114 : List Int, SC P 104 [.one (.sl 0 none), .one (.int .i64 (IntKind.wrap .i64 (r112.2.1 + 1))), .one (.int .i64 b2), .one (.int .i64 limit3)] [.row (.int .i64) r112.1 .own] [] [.row (.int .i64) r114 .own] ∧
              FL E H104 Tryz.f104 1 r lh 0 (S104_L0 a1 r112.2.1 limit3 (decide ((IntKind.wrap .i64 (Int.tdiv (IntKind.wrap .i64 (b2 - a1)) 8)) ≤ (IntKind.wrap .i64 (b2 - r112.2.1)))) r112.2.2 r114))))) (
         Br (decide ((0 : Int) < a1)) (
          Ck (decide ((0 : Int) ≤ (IntKind.wrap .i64 (a1 - 1)))) (
           Ck (decide ((IntKind.wrap .i64 (a1 - 1)) < ((r63.1.length : Nat) : Int))) (
            Ck (Nat.ble ((IntKind.wrap .i64 (a1 - 1)).toNat + 1) r63.1.length) (
             Ck (decide ((0 : Int) ≤ r63.2.1)) (
              Ck (decide (r63.2.1 < ((r63.1.length : Nat) : Int))) (
               Ck (Nat.ble (r63.2.1.toNat + 1) r63.1.length) (
                ∃ r115 : Bool, SC P 123 [.one (.int .i64 (r63.1.getD (IntKind.wrap .i64 (a1 - 1)).toNat 0)), .one (.int .i64 (r63.1.getD r63.2.1.toNat 0))] [] [.one (.bool r115)] [] ∧
                 Br (!r115) (
                  ∃ r116 : List Int × Int, SC P 124 [.one (.sl 0 none), .one (.int .i64 a1), .one (.int .i64 b2), .one (.int .i64 r63.2.1)] [.row (.int .i64) r63.1 .own] [.one (.int .i64 r116.2)] [.row (.int .i64) r116.1 .own] ∧
                   FL E H104 Tryz.f104 1 r lh 0 (S104_L0 r116.2 b2 limit3 wasBalanced8 wasPartitioned9 r116.1)) (
                  ∃ r117 : List Int × Int × Bool, SC P 125 [.one (.sl 0 none), .one (.int .i64 a1), .one (.int .i64 b2), .one (.int .i64 r63.2.1)] [.row (.int .i64) r63.1 .own] [.one (.int .i64 r117.2.1), .one (.bool r117.2.2)] [.row (.int .i64) r117.1 .own] ∧
                   Br (decide ((IntKind.wrap .i64 (r117.2.1 - a1)) < (IntKind.wrap .i64 (b2 - r117.2.1)))) (
                    ∃ r118 : List Int, SC P 104 [.one (.sl 0 none), .one (.int .i64 a1), .one (.int .i64 r117.2.1), .one (.int .i64 limit3)] [.row (.int .i64) r117.1 .own] [] [.row (.int .i64) r118 .own] ∧
                     FL E H104 Tryz.f104 1 r lh 0 (S104_L0 (IntKind.wrap .i64 (r117.2.1 + 1)) b2 limit3 (decide ((IntKind.wrap .i64 (Int.tdiv (IntKind.wrap .i64 (b2 - a1)) 8)) ≤ (IntKind.wrap .i64 (r117.2.1 - a1)))) r117.2.2 r118)) (
                    ∃ r119 : List Int, SC P 104 [.one (.sl 0 none), .one (.int .i64 (IntKind.wrap .i64 (r117.2.1 + 1))), .one (.int .i64 b2), .one (.int .i64 limit3)] [.row (.int .i64) r117.1 .own] [] [.row (.int .i64) r119 .own] ∧
                     FL E H104 Tryz.f104 1 r lh 0 (S104_L0 a1 r117.2.1 limit3 (decide ((IntKind.wrap .i64 (Int.tdiv (IntKind.wrap .i64 (b2 - a1)) 8)) ≤ (IntKind.wrap .i64 (b2 - r117.2.1)))) r117.2.2 r119)))))))))) (
          ∃ r120 : List Int × Int × Bool, SC P 125 [.one (.sl 0 none), .one (.int .i64 a1), .one (.int .i64 b2), .one (.int .i64 r63.2.1)] [.row (.int .i64) r63.1 .own] [.one (.int .i64 r120.2.1), .one (.bool r120.2.2)] [.row (.int .i64) r120.1 .own] ∧
           Br (decide ((IntKind.wrap .i64 (r120.2.1 - a1)) < (IntKind.wrap .i64 (b2 - r120.2.1)))) (
            ∃ r121 : List Int, SC P 104 [.one (.sl 0 none), .one (.int .i64 a1), .one (.int .i64 r120.2.1), .one (.int .i64 limit3)] [.row (.int .i64) r120.1 .own] [] [.row (.int .i64) r121 .own] ∧
             FL E H104 Tryz.f104 1 r lh 0 (S104_L0 (IntKind.wrap .i64 (r120.2.1 + 1)) b2 limit3 (decide ((IntKind.wrap .i64 (Int.tdiv (IntKind.wrap .i64 (b2 - a1)) 8)) ≤ (IntKind.wrap .i64 (r120.2.1 - a1)))) r120.2.2 r121)) (
            ∃ r122 : List Int, SC P 104 [.one (.sl 0 none), .one (.int .i64 (IntKind.wrap .i64 (r120.2.1 + 1))), .one (.int .i64 b2), .one (.int .i64 limit3)] [.row (.int .i64) r120.1 .own] [] [.row (.int .i64) r122 .own] ∧
             FL E H104 Tryz.f104 1 r lh 0 (S104_L0 a1 r120.2.1 limit3 (decide ((IntKind.wrap .i64 (Int.tdiv (IntKind.wrap .i64 (b2 - a1)) 8)) ≤ (IntKind.wrap .i64 (b2 - r120.2.1)))) r120.2.2 r122))))))))) := by kernel_rfl
theorem c104 (lim : Int) (l : List Int) (h12 : l.length ≤ 12) : ∃ S, (S.Pairwise (· ≤ ·) ∧ S.Perm l) ∧ SC P 104 [.one (.sl 0 none), .one (.int .i64 0), .one (.int .i64 (l.length : Int)), .one (.int .i64 lim)] [.row (.int .i64) l .own] [] [.row (.int .i64) S .own] := by
  obtain ⟨S, hG, hS⟩ := c117 l h12
  refine ⟨S, hG, ?_⟩
  refine SC_of_FB (H := H104) E_ok Tryz.func104 (by kernel_rfl) ?_
  rw [eq104]
  refine FL_of1 ?_
  rw [eq104_L0, wrap64 (n := (l.length : Int) - 0) (by omega) (by omega)]
  exact Br_t (by omega) ⟨S, hS, rfl, rfl⟩
def H127 : Hint := ⟨[], [], [], [], [], [], []⟩
theorem len64_0 : SC P 127 [.one (.int .u64 0)] [] [.one (.int .i64 0)] [] := by
  refine SC_of_FB (H := H127) E_ok Tryz.func127 (by kernel_rfl) ?_
  have h : FB E H127 Tryz.f127 [.one (.int .u64 0)] [] [.one (.int .i64 0)] [] = (P.underlying 9 = some .string ∧ Ret [.one (.int .i64 0)] [] [.one (.int .i64 0)] []) := by kernel_rfl
  rw [h]
  exact ⟨by kernel_rfl, rfl, rfl⟩
theorem len64_1 : SC P 127 [.one (.int .u64 1)] [] [.one (.int .i64 1)] [] := by
  refine SC_of_FB (H := H127) E_ok Tryz.func127 (by kernel_rfl) ?_
  have h : FB E H127 Tryz.f127 [.one (.int .u64 1)] [] [.one (.int .i64 1)] [] = (P.underlying 9 = some .string ∧ Ret [.one (.int .i64 1)] [] [.one (.int .i64 1)] []) := by kernel_rfl
  rw [h]
  exact ⟨by kernel_rfl, rfl, rfl⟩
theorem len64_2 : SC P 127 [.one (.int .u64 2)] [] [.one (.int .i64 2)] [] := by
  refine SC_of_FB (H := H127) E_ok Tryz.func127 (by kernel_rfl) ?_
  have h : FB E H127 Tryz.f127 [.one (.int .u64 2)] [] [.one (.int .i64 2)] [] = (P.underlying 9 = some .string ∧ Ret [.one (.int .i64 2)] [] [.one (.int .i64 2)] []) := by kernel_rfl
  rw [h]
  exact ⟨by kernel_rfl, rfl, rfl⟩
theorem len64_3 : SC P 127 [.one (.int .u64 3)] [] [.one (.int .i64 2)] [] := by
  refine SC_of_FB (H := H127) E_ok Tryz.func127 (by kernel_rfl) ?_
  have h : FB E H127 Tryz.f127 [.one (.int .u64 3)] [] [.one (.int .i64 2)] [] = (P.underlying 9 = some .string ∧ Ret [.one (.int .i64 2)] [] [.one (.int .i64 2)] []) := by kernel_rfl
  rw [h]
  exact ⟨by kernel_rfl, rfl, rfl⟩
theorem len64_4 : SC P 127 [.one (.int .u64 4)] [] [.one (.int .i64 3)] [] := by
  refine SC_of_FB (H := H127) E_ok Tryz.func127 (by kernel_rfl) ?_
  have h : FB E H127 Tryz.f127 [.one (.int .u64 4)] [] [.one (.int .i64 3)] [] = (P.underlying 9 = some .string ∧ Ret [.one (.int .i64 3)] [] [.one (.int .i64 3)] []) := by kernel_rfl
  rw [h]
  exact ⟨by kernel_rfl, rfl, rfl⟩
theorem len64_5 : SC P 127 [.one (.int .u64 5)] [] [.one (.int .i64 3)] [] := by
  refine SC_of_FB (H := H127) E_ok Tryz.func127 (by kernel_rfl) ?_
  have h : FB E H127 Tryz.f127 [.one (.int .u64 5)] [] [.one (.int .i64 3)] [] = (P.underlying 9 = some .string ∧ Ret [.one (.int .i64 3)] [] [.one (.int .i64 3)] []) := by kernel_rfl
  rw [h]
  exact ⟨by kernel_rfl, rfl, rfl⟩
theorem len64_6 : SC P 127 [.one (.int .u64 6)] [] [.one (.int .i64 3)] [] := by
  refine SC_of_FB (H := H127) E_ok Tryz.func127 (by kernel_rfl) ?_
  have h : FB E H127 Tryz.f127 [.one (.int .u64 6)] [] [.one (.int .i64 3)] [] = (P.underlying 9 = some .string ∧ Ret [.one (.int .i64 3)] [] [.one (.int .i64 3)] []) := by kernel_rfl
  rw [h]
  exact ⟨by kernel_rfl, rfl, rfl⟩
theorem len64_7 : SC P 127 [.one (.int .u64 7)] [] [.one (.int .i64 3)] [] := by
  refine SC_of_FB (H := H127) E_ok Tryz.func127 (by kernel_rfl) ?_
  have h : FB E H127 Tryz.f127 [.one (.int .u64 7)] [] [.one (.int .i64 3)] [] = (P.underlying 9 = some .string ∧ Ret [.one (.int .i64 3)] [] [.one (.int .i64 3)] []) := by kernel_rfl
  rw [h]
  exact ⟨by kernel_rfl, rfl, rfl⟩
theorem len64_8 : SC P 127 [.one (.int .u64 8)] [] [.one (.int .i64 4)] [] := by
  refine SC_of_FB (H := H127) E_ok Tryz.func127 (by kernel_rfl) ?_
  have h : FB E H127 Tryz.f127 [.one (.int .u64 8)] [] [.one (.int .i64 4)] [] = (P.underlying 9 = some .string ∧ Ret [.one (.int .i64 4)] [] [.one (.int .i64 4)] []) := by kernel_rfl
  rw [h]
  exact ⟨by kernel_rfl, rfl, rfl⟩
theorem len64_9 : SC P 127 [.one (.int .u64 9)] [] [.one (.int .i64 4)] [] := by
  refine SC_of_FB (H := H127) E_ok Tryz.func127 (by kernel_rfl) ?_
  have h : FB E H127 Tryz.f127 [.one (.int .u64 9)] [] [.one (.int .i64 4)] [] = (P.underlying 9 = some .string ∧ Ret [.one (.int .i64 4)] [] [.one (.int .i64 4)] []) := by kernel_rfl
  rw [h]
  exact ⟨by kernel_rfl, rfl, rfl⟩
theorem len64_10 : SC P 127 [.one (.int .u64 10)] [] [.one (.int .i64 4)] [] := by
  refine SC_of_FB (H := H127) E_ok Tryz.func127 (by kernel_rfl) ?_
  have h : FB E H127 Tryz.f127 [.one (.int .u64 10)] [] [.one (.int .i64 4)] [] = (P.underlying 9 = some .string ∧ Ret [.one (.int .i64 4)] [] [.one (.int .i64 4)] []) := by kernel_rfl
  rw [h]
  exact ⟨by kernel_rfl, rfl, rfl⟩
theorem len64_11 : SC P 127 [.one (.int .u64 11)] [] [.one (.int .i64 4)] [] := by
  refine SC_of_FB (H := H127) E_ok Tryz.func127 (by kernel_rfl) ?_
  have h : FB E H127 Tryz.f127 [.one (.int .u64 11)] [] [.one (.int .i64 4)] [] = (P.underlying 9 = some .string ∧ Ret [.one (.int .i64 4)] [] [.one (.int .i64 4)] []) := by kernel_rfl
  rw [h]
  exact ⟨by kernel_rfl, rfl, rfl⟩
theorem len64_12 : SC P 127 [.one (.int .u64 12)] [] [.one (.int .i64 4)] [] := by
  refine SC_of_FB (H := H127) E_ok Tryz.func127 (by kernel_rfl) ?_
  have h : FB E H127 Tryz.f127 [.one (.int .u64 12)] [] [.one (.int .i64 4)] [] = (P.underlying 9 = some .string ∧ Ret [.one (.int .i64 4)] [] [.one (.int .i64 4)] []) := by kernel_rfl
  rw [h]
  exact ⟨by kernel_rfl, rfl, rfl⟩
/-! math/bits.Len -/
def H105 : Hint := ⟨[], [], [], [], [], [], []⟩
theorem eq105 (x : Int) (r : List W) (lh : Heap) : FB E H105 Tryz.f105 [.one (.int .u64 x)] [] r lh =
  (
   ∃ r0 : Int, SC P 127 [.one (.int .u64 x)] [] [.one (.int .i64 r0)] [] ∧
    Ret r lh [.one (.int .i64 r0)] []) := by kernel_rfl
theorem c105 (n : Nat) (h : n ≤ 12) : ∃ v, SC P 105 [.one (.int .u64 (IntKind.wrap .u64 (n : Int)))] [] [.one (.int .i64 v)] [] := by
  have key : ∃ v, SC P 127 [.one (.int .u64 (IntKind.wrap .u64 (n : Int)))] [] [.one (.int .i64 v)] [] := by
    have : n = 0 ∨ n = 1 ∨ n = 2 ∨ n = 3 ∨ n = 4 ∨ n = 5 ∨ n = 6 ∨ n = 7 ∨ n = 8 ∨ n = 9 ∨ n = 10 ∨ n = 11 ∨ n = 12 := by omega
    rcases this with e | e | e | e | e | e | e | e | e | e | e | e | e <;> subst e
    · exact ⟨0, len64_0⟩
    · exact ⟨1, len64_1⟩
    · exact ⟨2, len64_2⟩
    · exact ⟨2, len64_3⟩
    · exact ⟨3, len64_4⟩
    · exact ⟨3, len64_5⟩
    · exact ⟨3, len64_6⟩
    · exact ⟨3, len64_7⟩
    · exact ⟨4, len64_8⟩
    · exact ⟨4, len64_9⟩
    · exact ⟨4, len64_10⟩
    · exact ⟨4, len64_11⟩
    · exact ⟨4, len64_12⟩
  obtain ⟨v, hv⟩ := key
  refine ⟨v, ?_⟩
  refine SC_of_FB (H := H105) E_ok Tryz.func105 (by kernel_rfl) ?_
  rw [eq105]
  exact ⟨v, hv, rfl, rfl⟩
/-! slices.Sort[[]int,int] -/
def H78 : Hint := ⟨[], [], [], [], [], [], []⟩
theorem eq78 (l : List Int) (r : List W) (lh : Heap) : FB E H78 Tryz.f78 [.one (.sl 0 none)] [.row (.int .i64) l .own] r lh =
  (
   ∃ r0 : Int, SC P 105 [.one (.int .u64 (IntKind.wrap .u64 ((l.length : Nat) : Int)))] [] [.one (.int .i64 r0)] [] ∧
    ∃ r1 : List Int, SC P 104 [.one (.sl 0 none), .one (.int .i64 0), .one (.int .i64 ((l.length : Nat) : Int)), .one (.int .i64 r0)] [.row (.int .i64) l .own] [] [.row (.int .i64) r1 .own] ∧
     Ret r lh [] [.row (.int .i64) r1 .own]) := by kernel_rfl
theorem c78 (l : List Int) (h12 : l.length ≤ 12) : ∃ S, (S.Pairwise (· ≤ ·) ∧ S.Perm l) ∧ SC P 78 [.one (.sl 0 none)] [.row (.int .i64) l .own] [] [.row (.int .i64) S .own] := by
  obtain ⟨v, hv⟩ := c105 l.length h12
  obtain ⟨S, hG, hS⟩ := c104 v l h12
  refine ⟨S, hG, ?_⟩
  refine SC_of_FB (H := H78) E_ok Tryz.func78 (by kernel_rfl) ?_
  rw [eq78]
  exact ⟨v, hv, S, hS, rfl, rfl⟩
/-! slices.Reverse[[]int,int] -/
def H79 : Hint := ⟨[[(0, 0, .bool), (2, 0, .bool), (3, 0, .bool)]], [], [(3, [0, 1, 2, 3, 4, 5, 6, 7, 8, 9, 10, 11, 12, 13, 14, 15])], [], [], [], []⟩
def S79_L0 (i2 : Int) (j3 : Int) (h0 : List Int) : St := ⟨[(0, .w (.one (.sl 0 none))), (2, .w (.one (.int .i64 i2))), (3, .w (.one (.int .i64 j3)))], [.row (.int .i64) h0 .own]⟩
theorem eq79 (l : List Int) (r : List W) (lh : Heap) : FB E H79 Tryz.f79 [.one (.sl 0 none)] [.row (.int .i64) l .own] r lh =
  (
   FL E H79 Tryz.f79 1 r lh 0 (S79_L0 0 (IntKind.wrap .i64 (((l.length : Nat) : Int) - 1)) l)) := by kernel_rfl
theorem eq79_L0 (i2 : Int) (j3 : Int) (h0 : List Int) (r : List W) (lh : Heap) : FL1 E H79 Tryz.f79 1 r lh 0 (S79_L0 i2 j3 h0) =
  (
   Br (decide (i2 < j3)) (
    Ck (decide ((0 : Int) ≤ j3)) (
     Ck (decide (j3 < ((h0.length : Nat) : Int))) (
      Ck (Nat.ble (j3.toNat + 1) h0.length) (
       Ck (decide ((0 : Int) ≤ i2)) (
        Ck (decide (i2 < ((h0.length : Nat) : Int))) (
         Ck (Nat.ble (i2.toNat + 1) h0.length) (
          Ck (decide ((0 : Int) ≤ i2)) (
           Ck (decide (i2 < ((h0.length : Nat) : Int))) (
            Ck (Nat.ble (i2.toNat + 1) h0.length) (
             Ck (decide ((0 : Int) ≤ j3)) (
              Ck (decide (j3 < (((h0.set i2.toNat (h0.getD j3.toNat 0)).length : Nat) : Int))) (
               Ck (Nat.ble (j3.toNat + 1) ((h0.set i2.toNat (h0.getD j3.toNat 0)).length)) (
                FL E H79 Tryz.f79 1 r lh 0 (S79_L0 (IntKind.wrap .i64 (i2 + 1)) (IntKind.wrap .i64 (j3 - 1)) ((h0.set i2.toNat (h0.getD j3.toNat 0)).set j3.toNat (h0.getD i2.toNat 0)))))))))))))))) (
    Ret r lh [] [.row (.int .i64) h0 .own])) := by kernel_rfl
theorem l79 (l : List Int) (hl : l.length ≤ 1048576) : ∀ (n i : Nat) (h : List Int), RevInv l h i → l.length ≤ 2 * (i + n) + 1 → i ≤ l.length → FL E H79 Tryz.f79 1 [] [.row (.int .i64) l.reverse .own] 0 (S79_L0 (i : Int) ((l.length : Int) - 1 - i) h)
  | 0, i, h, H, hn, hi => by
    refine FL_of1 ?_
    rw [eq79_L0]
    exact Br_f (by omega) ⟨rfl, by rw [H.fin (by omega)]⟩
  | n + 1, i, h, H, hn, hi => by
    have hl := H.len
    refine FL_of1 ?_
    rw [eq79_L0]
    by_cases e : i < l.length - 1 - i
    · have ih := l79 l (by omega) n (i + 1) _ (H.step e) (by omega) (by omega)
      rw [wS (i := i) (by omega), wrap64 (n := (l.length : Int) - 1 - i - 1) (by omega) (by omega)]
      simp only [Int.toNat_natCast, List.length_set]
      rw [show (((l.length : Int) - 1 - i).toNat) = l.length - 1 - i by omega, show (l.length : Int) - 1 - i - 1 = (l.length : Int) - 1 - ((i + 1 : Nat) : Int) by omega]
      exact Br_t (by omega) (Ck_d (by omega) (Ck_d (by omega) (Ck_le (by omega) (Ck_d (by omega) (Ck_d (by omega) (Ck_le (by omega) (Ck_d (by omega) (Ck_d (by omega) (Ck_le (by omega) (Ck_d (by omega) (Ck_d (by omega) (Ck_le (by omega) ih))))))))))))
    · exact Br_f (by omega) ⟨rfl, by rw [H.fin (by omega)]⟩
theorem c79 (l : List Int) (hl : l.length ≤ 1048576) : SC P 79 [.one (.sl 0 none)] [.row (.int .i64) l .own] [] [.row (.int .i64) l.reverse .own] := by
  refine SC_of_FB (H := H79) E_ok Tryz.func79 (by kernel_rfl) ?_
  rw [eq79]
  rw [wrap64 (n := (l.length : Int) - 1) (by omega) (by omega)]
  have := l79 l hl l.length 0 l (.start l) (by omega) (Nat.zero_le _)
  rw [show (l.length : Int) - 1 - ((0 : Nat) : Int) = (l.length : Int) - 1 by omega] at this
  exact this
/-! slices.Compact[[]int,int] -/
def H80 : Hint := ⟨[[(0, 0, .bool), (3, 0, .bool)], [(0, 0, .bool), (3, 0, .bool), (4, 0, .bool), (5, 0, .bool)]], [], [(6, [0, 1, 2, 3, 4, 5, 6, 7, 8, 9]), (11, [0, 1, 2, 3, 4, 5, 6, 7, 8, 9])], [], [.one (.sub 0)], [], []⟩
def S80_L0 (k3 : Int) (h0 : List Int) : St := ⟨[(0, .w (.one (.sl 0 none))), (3, .w (.one (.int .i64 k3)))], [.row (.int .i64) h0 .own]⟩
def S80_L1 (k3 : Int) (s24o : Nat) (s24n : Nat) (k25 : Int) (h0 : List Int) : St := ⟨[(0, .w (.one (.sl 0 none))), (3, .w (.one (.int .i64 k3))), (4, .w (.one (.sl 0 (some (s24o, s24n))))), (5, .w (.one (.int .i64 k25)))], [.row (.int .i64) h0 .own]⟩
theorem eq80 (l : List Int) (r : List W) (lh : Heap) : FB E H80 Tryz.f80 [.one (.sl 0 none)] [.row (.int .i64) l .own] r lh =
  (
   Br (decide (((l.length : Nat) : Int) < (2 : Int))) (
    Ret r lh [.one (.sl 0 (some (0, l.length)))] [.row (.int .i64) l .own]) (
    FL E H80 Tryz.f80 1 r lh 0 (S80_L0 1 l))) := by kernel_rfl
theorem eq80_L0 (k3 : Int) (h0 : List Int) (r : List W) (lh : Heap) : FL1 E H80 Tryz.f80 1 r lh 0 (S80_L0 k3 h0) =
  (
   Br (decide (k3 < ((h0.length : Nat) : Int))) (
    Ck (decide ((0 : Int) ≤ k3)) (
     Ck (decide (k3 < ((h0.length : Nat) : Int))) (
      Ck (Nat.ble (k3.toNat + 1) h0.length) (
       Ck (decide ((0 : Int) ≤ (IntKind.wrap .i64 (k3 - 1)))) (
        Ck (decide ((IntKind.wrap .i64 (k3 - 1)) < ((h0.length : Nat) : Int))) (
         Ck (Nat.ble ((IntKind.wrap .i64 (k3 - 1)).toNat + 1) h0.length) (
          Br (decide ((h0.getD k3.toNat 0) = (h0.getD (IntKind.wrap .i64 (k3 - 1)).toNat 0))) (
           Ck (decide ((0 : Int) ≤ k3)) (
            Ck (decide (k3 ≤ ((h0.length : Nat) : Int))) (
             Ck (decide (((h0.length : Nat) : Int) ≤ ((h0.length : Nat) : Int))) (
              Ck (decide (((h0.length : Nat) : Int) ≤ ((h0.length : Nat) : Int))) (
               FL E H80 Tryz.f80 1 r lh 1 (S80_L1 k3 k3.toNat (((h0.length : Nat) : Int).toNat - k3.toNat) 1 h0)))))) (
           FL E H80 Tryz.f80 1 r lh 0 (S80_L0 (IntKind.wrap .i64 (k3 + 1)) h0))))))))) (
    Ret r lh [.one (.sl 0 (some (0, h0.length)))] [.row (.int .i64) h0 .own])) := by kernel_rfl
theorem eq80_L1 (k3 : Int) (s24o : Nat) (s24n : Nat) (k25 : Int) (h0 : List Int) (r : List W) (lh : Heap) : FL1 E H80 Tryz.f80 1 r lh 1 (S80_L1 k3 s24o s24n k25 h0) =
  (
   Br (decide (k25 < ((s24n : Nat) : Int))) (
    Ck (decide ((0 : Int) ≤ k25)) (
     Ck (decide (k25 < ((s24n : Nat) : Int))) (
      Ck (Nat.ble ((s24o + k25.toNat) + 1) h0.length) (
       Ck (decide ((0 : Int) ≤ (IntKind.wrap .i64 (k25 - 1)))) (
        Ck (decide ((IntKind.wrap .i64 (k25 - 1)) < ((s24n : Nat) : Int))) (
         Ck (Nat.ble ((s24o + (IntKind.wrap .i64 (k25 - 1)).toNat) + 1) h0.length) (
          Br (!(decide ((h0.getD (s24o + k25.toNat) 0) = (h0.getD (s24o + (IntKind.wrap .i64 (k25 - 1)).toNat) 0)))) (
           Ck (decide ((0 : Int) ≤ k25)) (
            Ck (decide (k25 < ((s24n : Nat) : Int))) (
             Ck (Nat.ble ((s24o + k25.toNat) + 1) h0.length) (
              Ck (decide ((0 : Int) ≤ k3)) (
               Ck (decide (k3 < ((h0.length : Nat) : Int))) (
                Ck (Nat.ble (k3.toNat + 1) h0.length) (
                 FL E H80 Tryz.f80 1 r lh 1 (S80_L1 (IntKind.wrap .i64 (k3 + 1)) s24o s24n (IntKind.wrap .i64 (k25 + 1)) (h0.set k3.toNat (h0.getD (s24o + k25.toNat) 0)))))))))) (
           FL E H80 Tryz.f80 1 r lh 1 (S80_L1 k3 s24o s24n (IntKind.wrap .i64 (k25 + 1)) h0))))))))) (
    Ck (decide ((0 : Int) ≤ k3)) (
     Ck (decide (k3 ≤ ((h0.length : Nat) : Int))) (
      Ck (decide (((h0.length : Nat) : Int) ≤ ((h0.length : Nat) : Int))) (
       Ck (decide (((h0.length : Nat) : Int) ≤ ((h0.length : Nat) : Int))) (
        Ck (decide ((0 : Int) ≤ k3)) (
         Ck (decide (k3 ≤ (((h0.take k3.toNat ++ List.replicate (((h0.length : Nat) : Int).toNat - k3.toNat) 0 ++ h0.drop (k3.toNat + (((h0.length : Nat) : Int).toNat - k3.toNat))).length : Nat) : Int))) (
          Ck (decide ((((h0.take k3.toNat ++ List.replicate (((h0.length : Nat) : Int).toNat - k3.toNat) 0 ++ h0.drop (k3.toNat + (((h0.length : Nat) : Int).toNat - k3.toNat))).length : Nat) : Int) ≤ (((h0.take k3.toNat ++ List.replicate (((h0.length : Nat) : Int).toNat - k3.toNat) 0 ++ h0.drop (k3.toNat + (((h0.length : Nat) : Int).toNat - k3.toNat))).length : Nat) : Int))) (
           Ret r lh [.one (.sl 0 (some (0, k3.toNat)))] [.row (.int .i64) (h0.take k3.toNat ++ List.replicate (((h0.length : Nat) : Int).toNat - k3.toNat) 0 ++ h0.drop (k3.toNat + (((h0.length : Nat) : Int).toNat - k3.toNat))) .own]))))))))) := by kernel_rfl
theorem l80_1 (l : List Int) (hl : l.length ≤ 1048576) (hd : l.Pairwise fun a b => b ≤ a) (k0 : Nat) (h0 : 1 ≤ k0) : ∀ (n m k : Nat) (h : List Int), CmpInv l h k (k0 + m) → 1 ≤ m → k0 + m + n = l.length →
    ∃ (h' : List Int) (k' : Nat), (h'.length ≤ 3145728 ∧ k' ≤ h'.length) ∧ ((h'.take k').Pairwise (fun a b => b < a) ∧ ∀ x, x ∈ h'.take k' ↔ x ∈ l) ∧ FL E H80 Tryz.f80 1 [.one (.sl 0 (some (0, k')))] [.row (.int .i64) h' .own] 1 (S80_L1 (k : Int) k0 (l.length - k0) (m : Int) h)
  | 0, m, k, h, H, hm, hn => by
    have h1 := H.len; have h2 := H.le; have h3 := H.pos
    refine ⟨h.take k ++ List.replicate (h.length - k) 0 ++ h.drop (k + (h.length - k)), k, ⟨by simp; omega, by simp; omega⟩, ?_, ?_⟩
    · rw [List.append_assoc, List.take_append_of_le_length (by simp; omega), List.take_take, Nat.min_self]
      rw [show k0 + m = l.length by omega] at H
      exact H.fin
    refine FL_of1 ?_
    rw [eq80_L1]
    simp only [Int.toNat_natCast]
    exact Br_f (by omega) (Ck_d (by omega) (Ck_d (by omega) (Ck_d (by omega) (Ck_d (by omega) (Ck_d (by omega) (Ck_d (by simp; omega) (Ck_d (by omega) ⟨rfl, rfl⟩)))))))
  | n + 1, m + 1, k, h, H, hm, hn => by
    have h1 := H.len; have h2 := H.le; have h3 := H.pos
    have g1 : h.getD (k0 + (m + 1)) 0 = l.getD (k0 + (m + 1)) 0 := H.rest _ (by omega)
    have g2 : h.getD (k0 + m) 0 = l.getD (k0 + (m + 1) - 1) 0 := by
      by_cases e : k ≤ k0 + m
      · rw [H.rest _ e]; rfl
      · have := H.last
        rw [show k - 1 = k0 + m by omega] at this
        exact this
    by_cases e : l.getD (k0 + (m + 1)) 0 = l.getD (k0 + (m + 1) - 1) 0
    · obtain ⟨h', k', b, p, hF⟩ := l80_1 l hl hd k0 h0 n (m + 1 + 1) k h (H.same (by omega) e) (by omega) (by omega)
      refine ⟨h', k', b, p, FL_of1 ?_⟩
      rw [eq80_L1, wS (i := m + 1) (by omega), wP (i := m) (by omega)]
      simp only [Int.toNat_natCast]
      have e' : h.getD (k0 + (m + 1)) 0 = h.getD (k0 + m) 0 := by rw [g1, g2]; exact e
      exact Br_t (by omega) (Ck_d (by omega) (Ck_d (by omega) (Ck_le (by omega) (Ck_d (by omega) (Ck_d (by omega) (Ck_le (by omega) (Br_nd (fun h => absurd e' h) (fun _ => hF))))))))
    · obtain ⟨h', k', b, p, hF⟩ := l80_1 l hl hd k0 h0 n (m + 1 + 1) (k + 1) _ (H.new hd (by omega) e) (by omega) (by omega)
      refine ⟨h', k', b, p, FL_of1 ?_⟩
      rw [eq80_L1, wS (i := m + 1) (by omega), wP (i := m) (by omega), wS (i := k) (by omega)]
      simp only [Int.toNat_natCast]
      have e' : ¬ h.getD (k0 + (m + 1)) 0 = h.getD (k0 + m) 0 := by rw [g1, g2]; exact e
      rw [← g1] at hF
      exact Br_t (by omega) (Ck_d (by omega) (Ck_d (by omega) (Ck_le (by omega) (Ck_d (by omega) (Ck_d (by omega) (Ck_le (by omega) (Br_nd (fun _ => Ck_d (by omega) (Ck_d (by omega) (Ck_le (by omega) (Ck_d (by omega) (Ck_d (by omega) (Ck_le (by omega) hF)))))) (fun h => absurd h e'))))))))
theorem l80 (l : List Int) (hl : l.length ≤ 1048576) (hd : l.Pairwise fun a b => b ≤ a) : ∀ (n k : Nat), CmpInv l l k k → k + n = l.length →
    ∃ (h' : List Int) (k' : Nat), (h'.length ≤ 3145728 ∧ k' ≤ h'.length) ∧ ((h'.take k').Pairwise (fun a b => b < a) ∧ ∀ x, x ∈ h'.take k' ↔ x ∈ l) ∧ FL E H80 Tryz.f80 1 [.one (.sl 0 (some (0, k')))] [.row (.int .i64) h' .own] 0 (S80_L0 (k : Int) l)
  | 0, k, H, hn => by
    obtain rfl : k = l.length := by omega
    refine ⟨l, l.length, ⟨by omega, Nat.le_refl _⟩, H.fin, FL_of1 ?_⟩
    rw [eq80_L0]
    exact Br_f (by omega) ⟨rfl, rfl⟩
  | n + 1, k, H, hn => by
    have h3 := H.pos
    obtain ⟨q, rfl⟩ : ∃ q, k = q + 1 := ⟨k - 1, by omega⟩
    by_cases e : l.getD (q + 1) 0 = l.getD q 0
    · obtain ⟨h', k', b, p, hF⟩ := l80_1 l hl hd (q + 1) (by omega) n 1 (q + 1) l (H.same (by omega) e) (Nat.le_refl _) (by omega)
      refine ⟨h', k', b, p, FL_of1 ?_⟩
      rw [eq80_L0, wS (i := q + 1) (by omega), wP (i := q) (by omega)]
      simp only [Int.toNat_natCast]
      exact Br_t (by omega) (Ck_d (by omega) (Ck_d (by omega) (Ck_le (by omega) (Ck_d (by omega) (Ck_d (by omega) (Ck_le (by omega) (Br_t e (Ck_d (by omega) (Ck_d (by omega) (Ck_d (by omega) (Ck_d (by omega) hF)))))))))))
    · have H' : CmpInv l l (q + 1 + 1) (q + 1 + 1) := by
        have := H.new hd (by omega) e
        rw [getD_eq (show q + 1 < l.length by omega), List.set_getElem_self] at this
        exact this
      obtain ⟨h', k', b, p, hF⟩ := l80 l hl hd n (q + 1 + 1) H' (by omega)
      refine ⟨h', k', b, p, FL_of1 ?_⟩
      rw [eq80_L0, wS (i := q + 1) (by omega), wP (i := q) (by omega)]
      simp only [Int.toNat_natCast]
      exact Br_t (by omega) (Ck_d (by omega) (Ck_d (by omega) (Ck_le (by omega) (Ck_d (by omega) (Ck_d (by omega) (Ck_le (by omega) (Br_f e hF)))))))
theorem c80 (l : List Int) (hl : l.length ≤ 1048576) (hd : l.Pairwise fun a b => b ≤ a) : ∃ (h' : List Int) (k : Nat), (h'.length ≤ 3145728 ∧ k ≤ h'.length) ∧ ((h'.take k).Pairwise (fun a b => b < a) ∧ ∀ x, x ∈ h'.take k ↔ x ∈ l) ∧ SC P 80 [.one (.sl 0 none)] [.row (.int .i64) l .own] [.one (.sl 0 (some (0, k)))] [.row (.int .i64) h' .own] := by
  by_cases e : l.length < 2
  · refine ⟨l, l.length, ⟨by omega, Nat.le_refl _⟩, ⟨?_, fun x => by rw [List.take_length]⟩, ?_⟩
    · rw [List.take_length]
      match l, e with
      | [], _ => exact .nil
      | [a], _ => simp
    refine SC_of_FB (H := H80) E_ok Tryz.func80 (by kernel_rfl) ?_
    rw [eq80]
    exact Br_t (by omega) ⟨rfl, rfl⟩
  · obtain ⟨h', k, b, p, hF⟩ := l80 l hl hd (l.length - 1) 1 (.one (by omega)) (by omega)
    refine ⟨h', k, b, p, ?_⟩
    refine SC_of_FB (H := H80) E_ok Tryz.func80 (by kernel_rfl) ?_
    rw [eq80]
    exact Br_f (by omega) hF
/-! (loop.example/keelson/impl.Stripe).of$1 -/
def H84 : Hint := ⟨[], [], [(1, [0, 1, 2, 3, 4, 5, 6, 7])], [], [], [], []⟩
theorem eq84 (a : Int) (s : Int × List Int × List Int × List Bool) (v : Int) (r : List W) (lh : Heap) : FB E H84 Tryz.f84 [.one (.int .i64 a), .one (.ptr 0 0 0), .one (.ptr 1 0 0)] [.box [.int .i64 s.1, .ro (.int .i64) s.2.1, .ro (.int .i64) s.2.2.1, .ro .bool s.2.2.2], .row (.int .i64) [v] .var] r lh =
  (
   Ck (decide ((0 : Int) ≤ a)) (
    Ck (decide (a < ((s.2.2.1.length : Nat) : Int))) (
     Ret r lh [.one (.bool (!(decide ((s.2.2.1.getD a.toNat 0) = v))))] [.box [.int .i64 s.1, .ro (.int .i64) s.2.1, .ro (.int .i64) s.2.2.1, .ro .bool s.2.2.2], .row (.int .i64) [v] .var]))) := by kernel_rfl
theorem c84 (a : Int) (s : Int × List Int × List Int × List Bool) (v : Int) (h : 0 ≤ a ∧ a < (s.2.2.1.length : Int)) : SC P 84 [.one (.int .i64 a), .one (.ptr 0 0 0), .one (.ptr 1 0 0)] [.box [.int .i64 s.1, .ro (.int .i64) s.2.1, .ro (.int .i64) s.2.2.1, .ro .bool s.2.2.2], .row (.int .i64) [v] .var] [.one (.bool (!decide (s.2.2.1.getD a.toNat 0 = v)))] [.box [.int .i64 s.1, .ro (.int .i64) s.2.1, .ro (.int .i64) s.2.2.1, .ro .bool s.2.2.2], .row (.int .i64) [v] .var] := by
  refine SC_of_FB (H := H84) E_ok Tryz.func84 (by kernel_rfl) ?_
  rw [eq84]
  exact Ck_d (by omega) (Ck_d (by omega) ⟨rfl, rfl⟩)
/-! slices.IndexFunc[[]int,int] -/
def H77v : Hint := ⟨[[(0, 0, .bool), (1, 0, .bool), (7, 0, .bool), (8, 0, .bool)]], [], [], [], [], [], []⟩
def S77v_L0 (x7 : Int) (x8 : Int) (h0 : List Int) (b1_0 : Int) (b1_1 : List Int) (b1_2 : List Int) (b1_3 : List Bool) (h2 : List Int) : St := ⟨[(0, .w (.one (.sl 0 none))), (1, .w (.one (.fn 84 [1, 2]))), (7, .w (.one (.int .i64 x7))), (8, .w (.one (.int .i64 x8)))], [.row (.int .i64) h0 .own, .box [.int .i64 b1_0, .ro (.int .i64) b1_1, .ro (.int .i64) b1_2, .ro .bool b1_3], .row (.int .i64) h2 .var]⟩
theorem eq77v (l : List Int) (s : Int × List Int × List Int × List Bool) (v : Int) (r : List W) (lh : Heap) : FB E H77v Tryz.f77 [.one (.sl 0 none), .one (.fn 84 [1, 2])] [.row (.int .i64) l .own, .box [.int .i64 s.1, .ro (.int .i64) s.2.1, .ro (.int .i64) s.2.2.1, .ro .bool s.2.2.2], .row (.int .i64) [v] .var] r lh =
  (
   FL E H77v Tryz.f77 3 r lh 0 (S77v_L0 ((l.length : Nat) : Int) 0 l s.1 s.2.1 s.2.2.1 s.2.2.2 [v])) := by kernel_rfl
theorem eq77v_L0 (x7 : Int) (x8 : Int) (h0 : List Int) (b1_0 : Int) (b1_1 : List Int) (b1_2 : List Int) (b1_3 : List Bool) (h2 : List Int) (r : List W) (lh : Heap) : FL1 E H77v Tryz.f77 3 r lh 0 (S77v_L0 x7 x8 h0 b1_0 b1_1 b1_2 b1_3 h2) =
  (
   Br (decide (x8 < x7)) (
    Ck (decide ((0 : Int) ≤ x8)) (
     Ck (decide (x8 < ((h0.length : Nat) : Int))) (
      Ck (Nat.ble (x8.toNat + 1) h0.length) (
       ∃ r0 : Bool, SC P 84 [.one (.int .i64 (h0.getD x8.toNat 0)), .one (.ptr 0 0 0), .one (.ptr 1 0 0)] [.box [.int .i64 b1_0, .ro (.int .i64) b1_1, .ro (.int .i64) b1_2, .ro .bool b1_3], .row (.int .i64) h2 .var] [.one (.bool r0)] [.box [.int .i64 b1_0, .ro (.int .i64) b1_1, .ro (.int .i64) b1_2, .ro .bool b1_3], .row (.int .i64) h2 .var] ∧
        Br r0 (
         Ret r lh [.one (.int .i64 x8)] [.row (.int .i64) h0 .own, .box [.int .i64 b1_0, .ro (.int .i64) b1_1, .ro (.int .i64) b1_2, .ro .bool b1_3], .row (.int .i64) h2 .var]) (
         FL E H77v Tryz.f77 3 r lh 0 (S77v_L0 x7 (IntKind.wrap .i64 (x8 + 1)) h0 b1_0 b1_1 b1_2 b1_3 h2)))))) (
    Ret r lh [.one (.int .i64 (-1))] [.row (.int .i64) h0 .own, .box [.int .i64 b1_0, .ro (.int .i64) b1_1, .ro (.int .i64) b1_2, .ro .bool b1_3], .row (.int .i64) h2 .var])) := by kernel_rfl
theorem l77v (l : List Int) (s : Int × List Int × List Int × List Bool) (v : Int) (hq : ∀ x ∈ l, 0 ≤ x ∧ x < (s.2.2.1.length : Int)) (hl : l.length ≤ 1048576) : ∀ (n i : Nat), i + n = l.length → FL E H77v Tryz.f77 3 [.one (.int .i64 (findR (fun j => (fun x : Int => !decide (s.2.2.1.getD x.toNat 0 = v)) (l.getD j 0)) (fun j => (j : Int)) (-1) i n))] [.row (.int .i64) l .own, .box [.int .i64 s.1, .ro (.int .i64) s.2.1, .ro (.int .i64) s.2.2.1, .ro .bool s.2.2.2], .row (.int .i64) [v] .var] 0 (S77v_L0 (l.length : Int) (i : Int) l s.1 s.2.1 s.2.2.1 s.2.2.2 [v])
  | 0, i, h => by
    refine FL_of1 ?_
    rw [eq77v_L0]
    exact Br_f (by omega) ⟨rfl, rfl⟩
  | n + 1, i, h => by
    refine FL_of1 ?_
    rw [eq77v_L0, wS (by omega), findR]
    simp only [Int.toNat_natCast]
    refine Br_t (by omega) (Ck_d (by omega) (Ck_d (by omega) (Ck_le (by omega) ⟨_, c84 (l.getD i 0) s v (by rw [getD_eq (show i < l.length by omega)]; exact hq _ (List.getElem_mem _)), Br_b (fun h1 => ?_) (fun h1 => ?_)⟩)))
    · exact ⟨by rw [cond_t h1], rfl⟩
    · rw [cond_f h1]
      exact l77v l s v hq hl n (i + 1) (by omega)
theorem c77v (l : List Int) (s : Int × List Int × List Int × List Bool) (v : Int) (hq : ∀ x ∈ l, 0 ≤ x ∧ x < (s.2.2.1.length : Int)) (hl : l.length ≤ 1048576) : SC P 77 [.one (.sl 0 none), .one (.fn 84 [1, 2])] [.row (.int .i64) l .own, .box [.int .i64 s.1, .ro (.int .i64) s.2.1, .ro (.int .i64) s.2.2.1, .ro .bool s.2.2.2], .row (.int .i64) [v] .var] [.one (.int .i64 (findR (fun j => (fun x : Int => !decide (s.2.2.1.getD x.toNat 0 = v)) (l.getD j 0)) (fun j => (j : Int)) (-1) 0 l.length))] [.row (.int .i64) l .own, .box [.int .i64 s.1, .ro (.int .i64) s.2.1, .ro (.int .i64) s.2.2.1, .ro .bool s.2.2.2], .row (.int .i64) [v] .var] := by
  refine SC_of_FB (H := H77v) E_ok Tryz.func77 (by kernel_rfl) ?_
  rw [eq77v]
  exact l77v l s v hq hl l.length 0 (by omega)
/-! slices.DeleteFunc[[]int,int] -/
def H83v : Hint := ⟨[[(0, 0, .bool), (1, 0, .bool), (5, 0, .bool), (6, 0, .bool)]], [], [], [], [.one (.sub 0)], [], []⟩
def S83v_L0 (i5 : Int) (j6 : Int) (h0 : List Int) (b1_0 : Int) (b1_1 : List Int) (b1_2 : List Int) (b1_3 : List Bool) (h2 : List Int) : St := ⟨[(0, .w (.one (.sl 0 none))), (1, .w (.one (.fn 84 [1, 2]))), (5, .w (.one (.int .i64 i5))), (6, .w (.one (.int .i64 j6)))], [.row (.int .i64) h0 .own, .box [.int .i64 b1_0, .ro (.int .i64) b1_1, .ro (.int .i64) b1_2, .ro .bool b1_3], .row (.int .i64) h2 .var]⟩
theorem eq83v (l : List Int) (s : Int × List Int × List Int × List Bool) (v : Int) (r : List W) (lh : Heap) : FB E H83v Tryz.f83 [.one (.sl 0 none), .one (.fn 84 [1, 2])] [.row (.int .i64) l .own, .box [.int .i64 s.1, .ro (.int .i64) s.2.1, .ro (.int .i64) s.2.2.1, .ro .bool s.2.2.2], .row (.int .i64) [v] .var] r lh =
  (
   ∃ r0 : Int, SC P 77 [.one (.sl 0 none), .one (.fn 84 [1, 2])] [.row (.int .i64) l .own, .box [.int .i64 s.1, .ro (.int .i64) s.2.1, .ro (.int .i64) s.2.2.1, .ro .bool s.2.2.2], .row (.int .i64) [v] .var] [.one (.int .i64 r0)] [.row (.int .i64) l .own, .box [.int .i64 s.1, .ro (.int .i64) s.2.1, .ro (.int .i64) s.2.2.1, .ro .bool s.2.2.2], .row (.int .i64) [v] .var] ∧
    Br (decide (r0 = ((-1) : Int))) (
     Ret r lh [.one (.sl 0 (some (0, l.length)))] [.row (.int .i64) l .own, .box [.int .i64 s.1, .ro (.int .i64) s.2.1, .ro (.int .i64) s.2.2.1, .ro .bool s.2.2.2], .row (.int .i64) [v] .var]) (
     FL E H83v Tryz.f83 3 r lh 0 (S83v_L0 r0 (IntKind.wrap .i64 (r0 + 1)) l s.1 s.2.1 s.2.2.1 s.2.2.2 [v]))) := by kernel_rfl
theorem eq83v_L0 (i5 : Int) (j6 : Int) (h0 : List Int) (b1_0 : Int) (b1_1 : List Int) (b1_2 : List Int) (b1_3 : List Bool) (h2 : List Int) (r : List W) (lh : Heap) : FL1 E H83v Tryz.f83 3 r lh 0 (S83v_L0 i5 j6 h0 b1_0 b1_1 b1_2 b1_3 h2) =
  (
   Br (decide (j6 < ((h0.length : Nat) : Int))) (
    Ck (decide ((0 : Int) ≤ j6)) (
     Ck (decide (j6 < ((h0.length : Nat) : Int))) (
      Ck (Nat.ble (j6.toNat + 1) h0.length) (
       ∃ r0 : Bool, SC P 84 [.one (.int .i64 (h0.getD j6.toNat 0)), .one (.ptr 0 0 0), .one (.ptr 1 0 0)] [.box [.int .i64 b1_0, .ro (.int .i64) b1_1, .ro (.int .i64) b1_2, .ro .bool b1_3], .row (.int .i64) h2 .var] [.one (.bool r0)] [.box [.int .i64 b1_0, .ro (.int .i64) b1_1, .ro (.int .i64) b1_2, .ro .bool b1_3], .row (.int .i64) h2 .var] ∧
        Br (!r0) (
         Ck (decide ((0 : Int) ≤ i5)) (
          Ck (decide (i5 < ((h0.length : Nat) : Int))) (
           Ck (Nat.ble (i5.toNat + 1) h0.length) (
            FL E H83v Tryz.f83 3 r lh 0 (S83v_L0 (IntKind.wrap .i64 (i5 + 1)) (IntKind.wrap .i64 (j6 + 1)) (h0.set i5.toNat (h0.getD j6.toNat 0)) b1_0 b1_1 b1_2 b1_3 h2))))) (
         FL E H83v Tryz.f83 3 r lh 0 (S83v_L0 i5 (IntKind.wrap .i64 (j6 + 1)) h0 b1_0 b1_1 b1_2 b1_3 h2)))))) (
    Ck (decide ((0 : Int) ≤ i5)) (
     Ck (decide (i5 ≤ ((h0.length : Nat) : Int))) (
      Ck (decide (((h0.length : Nat) : Int) ≤ ((h0.length : Nat) : Int))) (
       Ck (decide (((h0.length : Nat) : Int) ≤ ((h0.length : Nat) : Int))) (
        Ck (decide ((0 : Int) ≤ i5)) (
         Ck (decide (i5 ≤ (((h0.take i5.toNat ++ List.replicate (((h0.length : Nat) : Int).toNat - i5.toNat) 0 ++ h0.drop (i5.toNat + (((h0.length : Nat) : Int).toNat - i5.toNat))).length : Nat) : Int))) (
          Ck (decide ((((h0.take i5.toNat ++ List.replicate (((h0.length : Nat) : Int).toNat - i5.toNat) 0 ++ h0.drop (i5.toNat + (((h0.length : Nat) : Int).toNat - i5.toNat))).length : Nat) : Int) ≤ (((h0.take i5.toNat ++ List.replicate (((h0.length : Nat) : Int).toNat - i5.toNat) 0 ++ h0.drop (i5.toNat + (((h0.length : Nat) : Int).toNat - i5.toNat))).length : Nat) : Int))) (
           Ret r lh [.one (.sl 0 (some (0, i5.toNat)))] [.row (.int .i64) (h0.take i5.toNat ++ List.replicate (((h0.length : Nat) : Int).toNat - i5.toNat) 0 ++ h0.drop (i5.toNat + (((h0.length : Nat) : Int).toNat - i5.toNat))) .own, .box [.int .i64 b1_0, .ro (.int .i64) b1_1, .ro (.int .i64) b1_2, .ro .bool b1_3], .row (.int .i64) h2 .var]))))))))) := by kernel_rfl
theorem l83v (l : List Int) (s : Int × List Int × List Int × List Bool) (v : Int) (hq : ∀ x ∈ l, 0 ≤ x ∧ x < (s.2.2.1.length : Int)) (hl : l.length ≤ 1048576) : ∀ (n i j : Nat) (h : List Int), DInv (fun x : Int => !decide (s.2.2.1.getD x.toNat 0 = v)) l h i j → j + n = l.length → ∃ h' k, h'.take k = l.filter (fun x => !(fun x : Int => !decide (s.2.2.1.getD x.toNat 0 = v)) x) ∧ h'.length ≤ 3145728 ∧ k ≤ h'.length ∧
    FL E H83v Tryz.f83 3 [.one (.sl 0 (some (0, k)))] [.row (.int .i64) h' .own, .box [.int .i64 s.1, .ro (.int .i64) s.2.1, .ro (.int .i64) s.2.2.1, .ro .bool s.2.2.2], .row (.int .i64) [v] .var] 0 (S83v_L0 (i : Int) (j : Int) h s.1 s.2.1 s.2.2.1 s.2.2.2 [v])
  | 0, i, j, h, H, hj => by
    have h1 := H.len; have h2 := H.lt; have h3 := H.le
    refine ⟨h.take i ++ List.replicate (h.length - i) 0 ++ h.drop (i + (h.length - i)), i, ?_, by simp; omega, by simp; omega, ?_⟩
    · rw [List.append_assoc, List.take_append_of_le_length (by simp; omega), List.take_take, Nat.min_self, H.fin (by omega)]
    refine FL_of1 ?_
    rw [eq83v_L0]
    simp only [Int.toNat_natCast]
    exact Br_f (by omega) (Ck_d (by omega) (Ck_d (by omega) (Ck_d (by omega) (Ck_d (by omega) (Ck_d (by omega) (Ck_d (by simp; omega) (Ck_d (by omega) ⟨rfl, rfl⟩)))))))
  | n + 1, i, j, h, H, hj => by
    have h1 := H.len; have h2 := H.lt; have h3 := H.le
    have hg : h.getD j 0 = l[j]'(by omega) := H.get (by omega)
    have hok : 0 ≤ h.getD j 0 ∧ h.getD j 0 < (s.2.2.1.length : Int) := by rw [hg]; exact hq _ (List.getElem_mem _)
    cases hp : (fun x : Int => !decide (s.2.2.1.getD x.toNat 0 = v)) (l[j]'(by omega)) with
    | false =>
      obtain ⟨h', k, e1, e2, e3, hF⟩ := l83v l s v hq hl n (i + 1) (j + 1) _ (H.keep (by omega) hp) (by omega)
      refine ⟨h', k, e1, e2, e3, ?_⟩
      refine FL_of1 ?_
      rw [eq83v_L0, wS (i := i) (by omega), wS (i := j) (by omega)]
      simp only [Int.toNat_natCast]
      refine Br_t (by omega) (Ck_d (by omega) (Ck_d (by omega) (Ck_le (by omega) ⟨_, c84 (h.getD j 0) s v hok, Br_nb (fun _ => ?_) (fun h4 => ?_)⟩)))
      · rw [← hg] at hF
        exact Ck_d (by omega) (Ck_d (by omega) (Ck_le (by omega) hF))
      · rw [hg] at h4
        exact absurd (hp.symm.trans h4) (by simp)
    | true =>
      obtain ⟨h', k, e1, e2, e3, hF⟩ := l83v l s v hq hl n i (j + 1) _ (H.drop (by omega) hp) (by omega)
      refine ⟨h', k, e1, e2, e3, ?_⟩
      refine FL_of1 ?_
      rw [eq83v_L0, wS (i := i) (by omega), wS (i := j) (by omega)]
      simp only [Int.toNat_natCast]
      refine Br_t (by omega) (Ck_d (by omega) (Ck_d (by omega) (Ck_le (by omega) ⟨_, c84 (h.getD j 0) s v hok, Br_nb (fun h4 => ?_) (fun _ => hF)⟩)))
      rw [hg] at h4
      exact absurd (hp.symm.trans h4) (by simp)
theorem c83v (l : List Int) (s : Int × List Int × List Int × List Bool) (v : Int) (hq : ∀ x ∈ l, 0 ≤ x ∧ x < (s.2.2.1.length : Int)) (hl : l.length ≤ 1048576) : ∃ h' k, h'.take k = l.filter (fun x => !(fun x : Int => !decide (s.2.2.1.getD x.toNat 0 = v)) x) ∧ h'.length ≤ 3145728 ∧ k ≤ h'.length ∧
    SC P 83 [.one (.sl 0 none), .one (.fn 84 [1, 2])] [.row (.int .i64) l .own, .box [.int .i64 s.1, .ro (.int .i64) s.2.1, .ro (.int .i64) s.2.2.1, .ro .bool s.2.2.2], .row (.int .i64) [v] .var] [.one (.sl 0 (some (0, k)))] [.row (.int .i64) h' .own, .box [.int .i64 s.1, .ro (.int .i64) s.2.1, .ro (.int .i64) s.2.2.1, .ro .bool s.2.2.2], .row (.int .i64) [v] .var] := by
  rcases findI_spec (p := fun j => (fun x : Int => !decide (s.2.2.1.getD x.toNat 0 = v)) (l.getD j 0)) (n := l.length) (i := 0) with ⟨h1, h2⟩ | ⟨j, h1, h2, h3, h4, h5⟩
  · refine ⟨l, l.length, ?_, by omega, Nat.le_refl _, ?_⟩
    · rw [List.take_length]
      symm
      rw [List.filter_eq_self]
      intro a ha
      obtain ⟨q, hq', rfl⟩ := List.getElem_of_mem ha
      have := h2 q (Nat.zero_le _) (by omega)
      rw [getD_eq hq'] at this
      rw [this]; rfl
    refine SC_of_FB (H := H83v) E_ok Tryz.func83 (by kernel_rfl) ?_
    rw [eq83v]
    refine ⟨_, c77v l s v hq hl, ?_⟩
    rw [h1]
    exact Br_t rfl ⟨rfl, rfl⟩
  · have hj : j < l.length := by omega
    have S0 : DInv (fun x : Int => !decide (s.2.2.1.getD x.toNat 0 = v)) l l j (j + 1) := DInv.start hj (by rw [getD_eq hj] at h4; exact h4) fun q hq hqj => by
      have := h5 q (Nat.zero_le _) hqj
      rw [getD_eq hq] at this
      exact this
    obtain ⟨h', k, e1, e2, e3, hF⟩ := l83v l s v hq hl (l.length - (j + 1)) j (j + 1) l S0 (by omega)
    refine ⟨h', k, e1, e2, e3, ?_⟩
    refine SC_of_FB (H := H83v) E_ok Tryz.func83 (by kernel_rfl) ?_
    rw [eq83v]
    refine ⟨_, c77v l s v hq hl, ?_⟩
    rw [h3, wS (by omega)]
    exact Br_f (by omega) hF
/-! (loop.example/keelson/impl.Stripe).of -/
def H54 : Hint := ⟨[], [], [], [], [], [], []⟩
theorem eq54 (s : (Int × (List Int × (List Int × List Bool)))) (vers : Int) (r : List W) (lh : Heap) : FB E H54 Tryz.f54 [.agg [.int .i64 s.1, .ro (.int .i64) s.2.1, .ro (.int .i64) s.2.2.1, .ro .bool s.2.2.2], .one (.int .i64 vers)] [] r lh =
  (
   ∃ r0 : List Int, SC P 41 [.one (.ro .bool s.2.2.2)] [] [.one (.sl 0 none)] [.row (.int .i64) r0 .own] ∧
    ∃ r1 : List Int × Nat, SC P 83 [.one (.sl 0 none), .one (.fn 84 [1, 2])] [.row (.int .i64) r0 .own, .box [.int .i64 s.1, .ro (.int .i64) s.2.1, .ro (.int .i64) s.2.2.1, .ro .bool s.2.2.2], .row (.int .i64) [vers] .var] [.one (.sl 0 (some (0, r1.2)))] [.row (.int .i64) r1.1 .own, .box [.int .i64 s.1, .ro (.int .i64) s.2.1, .ro (.int .i64) s.2.2.1, .ro .bool s.2.2.2], .row (.int .i64) [vers] .var] ∧
     Ret r lh [.one (.sl 0 none)] [.row (.int .i64) (r1.1.take r1.2) .own]) := by kernel_rfl
theorem c54 (s : Int × List Int × List Int × List Bool) (v : Int) (h8 : s.2.2.2.length = 8) (hv : s.2.2.1.length = 8) : SC P 54 [.agg [.int .i64 s.1, .ro (.int .i64) s.2.1, .ro (.int .i64) s.2.2.1, .ro .bool s.2.2.2], .one (.int .i64 v)] [] [.one (.sl 0 none)] [.row (.int .i64) (flagF (ofF s.2.2.1 s.2.2.2 v)) .own] := by
  obtain ⟨s1, s2⟩ := flag_sh h8
  obtain ⟨h', k, e1, e2, e3, sc⟩ := c83v (flagF s.2.2.2) s v (fun x hx => by have := s1 x hx; omega) (by omega)
  refine SC_of_FB (H := H54) E_ok Tryz.func54 (by kernel_rfl) ?_
  rw [eq54]
  refine ⟨_, c41 s.2.2.2 (by omega), (h', k), sc, rfl, ?_⟩
  rw [flag_of h8, e1]
  simp only [Bool.not_not]
def versL (s : Int × List Int × List Int × List Bool) : List Int := (flagF s.2.2.2).map fun x => s.2.2.1.getD x.toNat 0
theorem versL_mem {s : Int × List Int × List Int × List Bool} (h8 : s.2.2.2.length = 8) {v : Int} : v ∈ versL s ↔ ∃ i, i < 8 ∧ s.2.2.2.getD i false = true ∧ s.2.2.1.getD i 0 = v := by
  rw [versL, List.mem_map]
  constructor
  · rintro ⟨x, hx, rfl⟩
    obtain ⟨j, h1, h2, rfl⟩ := flag_memT.1 hx
    exact ⟨j, by omega, h2, rfl⟩
  · rintro ⟨i, h1, h2, h3⟩
    exact ⟨(i : Int), flag_memT.2 ⟨i, by omega, h2, rfl⟩, h3⟩
/-! (loop.example/keelson/impl.Stripe).versions -/
def H51 : Hint := ⟨[[(1, 0, .bool), (3, 0, .bool), (9, 0, .bool), (10, 0, .bool), (11, 0, .bool)]], [], [], [], [], [], []⟩
def S51_L0 (x10 : Int) (x11 : Int) (b0_0 : Int) (b0_1 : List Int) (b0_2 : List Int) (b0_3 : List Bool) (h1 : List Int) (h2 : List Int) : St := ⟨[(1, .w (.one (.ptr 0 0 0))), (3, .w (.one (.sl 1 none))), (9, .w (.one (.sl 2 none))), (10, .w (.one (.int .i64 x10))), (11, .w (.one (.int .i64 x11)))], [.box [.int .i64 b0_0, .ro (.int .i64) b0_1, .ro (.int .i64) b0_2, .ro .bool b0_3], .row (.int .i64) h1 .own, .row (.int .i64) h2 .own]⟩
theorem eq51 (s : (Int × (List Int × (List Int × List Bool)))) (r : List W) (lh : Heap) : FB E H51 Tryz.f51 [.agg [.int .i64 s.1, .ro (.int .i64) s.2.1, .ro (.int .i64) s.2.2.1, .ro .bool s.2.2.2]] [] r lh =
  (
   ∃ r0 : List Int, SC P 41 [.one (.ro .bool s.2.2.2)] [] [.one (.sl 0 none)] [.row (.int .i64) r0 .own] ∧
    FL E H51 Tryz.f51 0 r lh 0 (S51_L0 ((r0.length : Nat) : Int) 0 s.1 s.2.1 s.2.2.1 s.2.2.2 [] r0)) := by kernel_rfl
theorem eq51_L0 (x10 : Int) (x11 : Int) (b0_0 : Int) (b0_1 : List Int) (b0_2 : List Int) (b0_3 : List Bool) (h1 : List Int) (h2 : List Int) (r : List W) (lh : Heap) : FL1 E H51 Tryz.f51 0 r lh 0 (S51_L0 x10 x11 b0_0 b0_1 b0_2 b0_3 h1 h2) =
  (
   Br (decide (x11 < x10)) (
    Ck (decide ((0 : Int) ≤ x11)) (
     Ck (decide (x11 < ((h2.length : Nat) : Int))) (
      Ck (Nat.ble (x11.toNat + 1) h2.length) (
       Ck (decide ((0 : Int) ≤ (h2.getD x11.toNat 0))) (
        Ck (decide ((h2.getD x11.toNat 0) < ((b0_2.length : Nat) : Int))) (
         Ck (Nat.ble ((h1.length + 1) * 8) roomy) (
          FL E H51 Tryz.f51 0 r lh 0 (S51_L0 x10 (IntKind.wrap .i64 (x11 + 1)) b0_0 b0_1 b0_2 b0_3 (h1 ++ [(b0_2.getD (h2.getD x11.toNat 0).toNat 0)]) h2)))))))) (
    ∃ r0 : List Int, SC P 78 [.one (.sl 0 none)] [.row (.int .i64) h1 .own] [] [.row (.int .i64) r0 .own] ∧
     ∃ r1 : List Int, SC P 79 [.one (.sl 0 none)] [.row (.int .i64) r0 .own] [] [.row (.int .i64) r1 .own] ∧
      ∃ r2 : List Int × Nat, SC P 80 [.one (.sl 0 none)] [.row (.int .i64) r1 .own] [.one (.sl 0 (some (0, r2.2)))] [.row (.int .i64) r2.1 .own] ∧
       Ret r lh [.one (.sl 0 none)] [.row (.int .i64) (r2.1.take r2.2) .own])) := by kernel_rfl
theorem l51 (s : Int × List Int × List Int × List Bool) (hv : s.2.2.1.length = 8) (hs : ShOk (flagF s.2.2.2)) (h8 : (flagF s.2.2.2).length ≤ 8) (S1 h' : List Int) (k : Nat) (s1 : SC P 78 [.one (.sl 0 none)] [.row (.int .i64) (versL s) .own] [] [.row (.int .i64) S1 .own]) (s2 : SC P 79 [.one (.sl 0 none)] [.row (.int .i64) S1 .own] [] [.row (.int .i64) S1.reverse .own]) (s3 : SC P 80 [.one (.sl 0 none)] [.row (.int .i64) S1.reverse .own] [.one (.sl 0 (some (0, k)))] [.row (.int .i64) h' .own]) : ∀ (n i : Nat) (out : List Int), i + n = (flagF s.2.2.2).length → out.length = i → out ++ ((flagF s.2.2.2).drop i).map (fun x => s.2.2.1.getD x.toNat 0) = versL s →
    FL E H51 Tryz.f51 0 [.one (.sl 0 none)] [.row (.int .i64) (h'.take k) .own] 0 (S51_L0 ((flagF s.2.2.2).length : Int) (i : Int) s.1 s.2.1 s.2.2.1 s.2.2.2 out (flagF s.2.2.2))
  | 0, i, out, h, ho, e => by
    rw [List.drop_eq_nil_of_le (by omega), List.map_nil, List.append_nil] at e
    subst e
    refine FL_of1 ?_
    rw [eq51_L0]
    exact Br_f (by omega) ⟨S1, s1, _, s2, (h', k), s3, rfl, rfl⟩
  | n + 1, i, out, h, ho, e => by
    have hi : i < (flagF s.2.2.2).length := by omega
    obtain ⟨g0, g1⟩ := shok_get hs hi
    have hdr : (flagF s.2.2.2).drop i = (flagF s.2.2.2).getD i 0 :: (flagF s.2.2.2).drop (i + 1) := by rw [getD_eq hi]; exact drop_cons hi
    rw [hdr, List.map_cons] at e
    refine FL_of1 ?_
    rw [eq51_L0, wS (i := i) (by omega)]
    simp only [Int.toNat_natCast]
    exact Br_t (by omega) (Ck_d (by omega) (Ck_d (by omega) (Ck_le (by omega) (Ck_d (by omega) (Ck_d (by omega) (Ck_room (by omega) (l51 s hv hs h8 S1 h' k s1 s2 s3 n (i + 1) _ (by omega) (by simp; omega) (by rw [List.append_assoc]; exact e))))))))
theorem c51 (s : Int × List Int × List Int × List Bool) (h8 : s.2.2.2.length = 8) (hv : s.2.2.1.length = 8) : ∃ L, VersP s.2.2.1 s.2.2.2 L ∧ L.length ≤ 3145728 ∧ SC P 51 [.agg [.int .i64 s.1, .ro (.int .i64) s.2.1, .ro (.int .i64) s.2.2.1, .ro .bool s.2.2.2]] [] [.one (.sl 0 none)] [.row (.int .i64) L .own] := by
  obtain ⟨q1, q2⟩ := flag_sh h8
  have hl : (versL s).length ≤ 8 := by rw [versL, List.length_map]; exact q2
  obtain ⟨S1, ⟨p1, p2⟩, s1⟩ := c78 (versL s) (by omega)
  have hS := p2.length_eq
  have s2 := c79 S1 (by omega)
  obtain ⟨h', k, ⟨b1, b2⟩, ⟨d1, d2⟩, s3⟩ := c80 S1.reverse (by rw [List.length_reverse]; omega) (reverse_desc p1)
  refine ⟨h'.take k, ⟨d1, fun v => ?_⟩, by rw [List.length_take]; omega, ?_⟩
  · rw [d2, mem_revT p2, versL_mem h8]
  refine SC_of_FB (H := H51) E_ok Tryz.func51 (by kernel_rfl) ?_
  rw [eq51]
  exact ⟨_, c41 s.2.2.2 (by omega), l51 s hv q1 q2 S1 h' k s1 s2 s3 (flagF s.2.2.2).length 0 [] (by omega) rfl rfl⟩
end Go.Proofs.YtjoiadaogppmkaaGreat.Sh
