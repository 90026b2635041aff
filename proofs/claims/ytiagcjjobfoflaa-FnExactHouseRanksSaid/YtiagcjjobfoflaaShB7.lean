/- Houses by their scores: contracts, and the laws on them. -/
import Derived.Test.YtiagcjjobfoflaaShB5
import Derived.Test.YtiagcjjobfoflaaMaSort
namespace Go.Proofs.Ytiagcjjobfoflaa.Sh
open Go
set_option linter.unusedVariables false
set_option linter.unusedSimpArgs false
/-! cmp.isNaN[int] -/
def H146 : Hint := ⟨[], [], [], [], [], []⟩
theorem eq146 (x : Int) (r : List W) (lh : Heap) : FB E H146 Try.f146 [.one (.int .i64 x)] [] r lh =
  (
   Ret r lh [.one (.bool (!(decide (x = x))))] []) := by kernel_rfl
theorem c146 (a : Int) : SC P 146 [.one (.int .i64 a)] [] [.one (.bool false)] [] := by
  refine SC_of_FB (H := H146) E_ok Try.func146 (by kernel_rfl) ?_
  rw [eq146]
  exact ⟨by simp, rfl⟩
def cmpI (a b : Int) : Int := bif decide (a < b) then -1 else bif decide (b < a) then 1 else 0
/-! cmp.Compare[int] -/
def H138 : Hint := ⟨[], [], [], [], [], []⟩
theorem eq138 (x : Int) (y : Int) (r : List W) (lh : Heap) : FB E H138 Try.f138 [.one (.int .i64 x), .one (.int .i64 y)] [] r lh =
  (
   ∃ r0 : Bool, SC P 146 [.one (.int .i64 x)] [] [.one (.bool r0)] [] ∧
    ∃ r1 : Bool, SC P 146 [.one (.int .i64 y)] [] [.one (.bool r1)] [] ∧
     Br r0 (
      Br r1 (
       Ret r lh [.one (.int .i64 0)] []) (
       Ret r lh [.one (.int .i64 (-1))] [])) (
      Br r1 (
       Ret r lh [.one (.int .i64 1)] []) (
       Br (decide (x < y)) (
        Ret r lh [.one (.int .i64 (-1))] []) (
        Br (decide (y < x)) (
         Ret r lh [.one (.int .i64 1)] []) (
         Ret r lh [.one (.int .i64 0)] []))))) := by kernel_rfl
theorem c138 (a b : Int) : SC P 138 [.one (.int .i64 a), .one (.int .i64 b)] [] [.one (.int .i64 (cmpI a b))] [] := by
  refine SC_of_FB (H := H138) E_ok Try.func138 (by kernel_rfl) ?_
  rw [eq138]
  refine ⟨false, c146 a, false, c146 b, ?_⟩
  exact Br_d (fun h => ⟨by rw [cmpI, decide_eq_true h]; rfl, rfl⟩) (fun h => Br_d (fun h' => ⟨by rw [cmpI, decide_eq_false h, decide_eq_true h']; rfl, rfl⟩) (fun h' => ⟨by rw [cmpI, decide_eq_false h, decide_eq_false h']; rfl, rfl⟩))
/-! cmp.Or[int] -/
def H137 : Hint := ⟨[[(3, 0, .bool), (6, 0, .bool), (7, 0, .bool), (8, 0, .bool)]], [], [], [], [], []⟩
def S137_L0 (zero3 : Int) (x6 : List Int) (x7 : Int) (x8 : Int) : St := ⟨[(3, .w (.one (.int .i64 zero3))), (6, .w (.one (.ro (.int .i64) x6))), (7, .w (.one (.int .i64 x7))), (8, .w (.one (.int .i64 x8)))], []⟩
theorem eq137 (vals : List Int) (r : List W) (lh : Heap) : FB E H137 Try.f137 [.one (.ro (.int .i64) vals)] [] r lh =
  (
   FL E H137 Try.f137 0 r lh 0 (S137_L0 0 vals ((vals.length : Nat) : Int) 0)) := by kernel_rfl
theorem eq137_L0 (zero3 : Int) (x6 : List Int) (x7 : Int) (x8 : Int) (r : List W) (lh : Heap) : FL1 E H137 Try.f137 0 r lh 0 (S137_L0 zero3 x6 x7 x8) =
  (
   Br (decide (x8 < x7)) (
    Ck (decide ((0 : Int) ≤ x8)) (
     Ck (decide (x8 < ((x6.length : Nat) : Int))) (
      Br (!(decide ((x6.getD x8.toNat 0) = zero3))) (
       Ret r lh [.one (.int .i64 (x6.getD x8.toNat 0))] []) (
       FL E H137 Try.f137 0 r lh 0 (S137_L0 zero3 x6 x7 (IntKind.wrap .i64 (x8 + 1))))))) (
    Ret r lh [.one (.int .i64 zero3)] [])) := by kernel_rfl
theorem c137 (a b : Int) : SC P 137 [.one (.ro (.int .i64) [a, b])] [] [.one (.int .i64 (bif decide (a = 0) then b else a))] [] := by
  refine SC_of_FB (H := H137) E_ok Try.func137 (by kernel_rfl) ?_
  rw [eq137]
  refine FL_of1 ?_
  rw [eq137_L0]
  refine Br_t (by simp) (Ck_d (by omega) (Ck_d (by simp) (Br_nd (fun h => ⟨by rw [decide_eq_false (show ¬ a = 0 from h)]; rfl, rfl⟩) (fun h => ?_))))
  rw [decide_eq_true (show a = 0 from h), cond_true, wrap64 (n := 0 + 1) (by omega) (by omega)]
  refine FL_of1 ?_
  rw [eq137_L0]
  refine Br_t (by simp) (Ck_d (by omega) (Ck_d (by simp) (Br_nd (fun h => ⟨rfl, rfl⟩) (fun h => ?_))))
  rw [show b = 0 from h, wrap64 (n := 0 + 1 + 1) (by omega) (by omega)]
  refine FL_of1 ?_
  rw [eq137_L0]
  exact Br_f (by simp) ⟨rfl, rfl⟩
def cmpF (name : Int) (a b : House) : Int := bif decide (cmpI (scoreF name b) (scoreF name a) = 0) then cmpI a.1 b.1 else cmpI (scoreF name b) (scoreF name a)
theorem cmpI_cases (a b : Int) : (a < b ∧ cmpI a b = -1) ∨ (b < a ∧ cmpI a b = 1) ∨ (a = b ∧ cmpI a b = 0) := by
  unfold cmpI
  rcases Int.lt_trichotomy a b with h | h | h
  · exact .inl ⟨h, by rw [decide_eq_true h]; rfl⟩
  · exact .inr (.inr ⟨h, by rw [decide_eq_false (by omega), decide_eq_false (by omega)]; rfl⟩)
  · exact .inr (.inl ⟨h, by rw [decide_eq_false (by omega), decide_eq_true h]; rfl⟩)
theorem cmpF_neg {name : Int} {a b : House} : cmpF name a b < 0 ↔ before (scoreF name) a b := by
  unfold cmpF before
  rcases cmpI_cases (scoreF name b) (scoreF name a) with ⟨h, e⟩ | ⟨h, e⟩ | ⟨h, e⟩
  · rw [e]; simp; exact .inl h
  · rw [e]; simp; omega
  · rw [e]
    rcases cmpI_cases a.1 b.1 with ⟨h', e'⟩ | ⟨h', e'⟩ | ⟨h', e'⟩
    · rw [e']; simp; omega
    · rw [e']; simp; omega
    · rw [e']; simp; omega
/-! loop.example/keelson/impl.ranks$1 -/
def H136 : Hint := ⟨[], [], [(1, [0, 1, 3, 4, 7, 8, 9, 10, 2, 5, 6, 11, 12, 13, 14])], [], [], []⟩
theorem eq136 (a : Int × Int × Int) (b : Int × Int × Int) (name : Int) (r : List W) (lh : Heap) : FB E H136 Try.f136 [.agg [.int .i64 a.1, .int .i64 a.2.1, .int .i64 a.2.2], .agg [.int .i64 b.1, .int .i64 b.2.1, .int .i64 b.2.2], .one (.ptr 0 0 0)] [.row (.int .i64) [name] .var] r lh =
  (
   ∃ r0 : Int, SC P 91 [.agg [.int .i64 b.1, .int .i64 b.2.1, .int .i64 b.2.2], .one (.int .i64 name)] [] [.one (.int .i64 r0)] [] ∧
    ∃ r1 : Int, SC P 91 [.agg [.int .i64 a.1, .int .i64 a.2.1, .int .i64 a.2.2], .one (.int .i64 name)] [] [.one (.int .i64 r1)] [] ∧
     ∃ r2 : Int, SC P 138 [.one (.int .i64 r0), .one (.int .i64 r1)] [] [.one (.int .i64 r2)] [] ∧
      ∃ r3 : Int, SC P 138 [.one (.int .i64 a.1), .one (.int .i64 b.1)] [] [.one (.int .i64 r3)] [] ∧
       ∃ r4 : Int, SC P 137 [.one (.ro (.int .i64) [r2, r3])] [] [.one (.int .i64 r4)] [] ∧
        Ret r lh [.one (.int .i64 r4)] [.row (.int .i64) [name] .var]) := by kernel_rfl
theorem c136 (a b : House) (name : Int) (hn : inB name 0 99 = true) (ha : houseOk a = true) (hb : houseOk b = true) : SC P 136 [.agg [.int .i64 a.1, .int .i64 a.2.1, .int .i64 a.2.2], .agg [.int .i64 b.1, .int .i64 b.2.1, .int .i64 b.2.2], .one (.ptr 0 0 0)] [.row (.int .i64) [name] .var] [.one (.int .i64 (cmpF name a b))] [.row (.int .i64) [name] .var] := by
  refine SC_of_FB (H := H136) E_ok Try.func136 (by kernel_rfl) ?_
  rw [eq136]
  exact ⟨_, c91 name b hn hb, _, c91 name a hn ha, _, c138 _ _, _, c138 _ _, _, c137 _ _, rfl, rfl⟩
/-! slices.insertionSortCmpFunc[loop.example/keelson/impl.House] -/
def H148 : Hint := ⟨[[(0, 0, .bool), (1, 0, .bool), (2, 0, .bool), (3, 0, .bool), (8, 0, .bool)], [(0, 0, .bool), (1, 0, .bool), (2, 0, .bool), (3, 0, .bool), (8, 0, .bool), (9, 0, .bool)]], [], [(4, [0, 1, 2, 3, 4, 5, 6, 7, 8, 9, 10, 11, 12, 13, 14, 15, 16]), (6, [0, 1, 2, 3, 4, 5, 6, 7, 8, 9, 10, 11, 12, 13, 14, 15, 16, 17])], [], [], [4]⟩
def S148_L0 (a1 : Int) (b2 : Int) (i8 : Int) (h0 : List (Int × (Int × Int))) (h1 : List Int) : St := ⟨[(0, .w (.one (.sl 0 none))), (1, .w (.one (.int .i64 a1))), (2, .w (.one (.int .i64 b2))), (3, .w (.one (.fn 136 [1]))), (8, .w (.one (.int .i64 i8)))], [.row (.pair (.int .i64) (.pair (.int .i64) (.int .i64))) h0 .own, .row (.int .i64) h1 .var]⟩
def S148_L1 (a1 : Int) (b2 : Int) (i8 : Int) (j9 : Int) (h0 : List (Int × (Int × Int))) (h1 : List Int) : St := ⟨[(0, .w (.one (.sl 0 none))), (1, .w (.one (.int .i64 a1))), (2, .w (.one (.int .i64 b2))), (3, .w (.one (.fn 136 [1]))), (8, .w (.one (.int .i64 i8))), (9, .w (.one (.int .i64 j9)))], [.row (.pair (.int .i64) (.pair (.int .i64) (.int .i64))) h0 .own, .row (.int .i64) h1 .var]⟩
theorem eq148 (l : List (Int × Int × Int)) (name : Int) (a : Int) (b : Int) (r : List W) (lh : Heap) : FB E H148 Try.f148 [.one (.sl 0 none), .one (.int .i64 a), .one (.int .i64 b), .one (.fn 136 [1])] [.row (.pair (.int .i64) (.pair (.int .i64) (.int .i64))) l .own, .row (.int .i64) [name] .var] r lh =
  (
   FL E H148 Try.f148 2 r lh 0 (S148_L0 a b (IntKind.wrap .i64 (a + 1)) l [name])) := by kernel_rfl
theorem eq148_L0 (a1 : Int) (b2 : Int) (i8 : Int) (h0 : List (Int × (Int × Int))) (h1 : List Int) (r : List W) (lh : Heap) : FL1 E H148 Try.f148 2 r lh 0 (S148_L0 a1 b2 i8 h0 h1) =
  (
   Br (decide (i8 < b2)) (
    FL E H148 Try.f148 2 r lh 1 (S148_L1 a1 b2 i8 i8 h0 h1)) (
    Ret r lh [] [.row (.pair (.int .i64) (.pair (.int .i64) (.int .i64))) h0 .own, .row (.int .i64) h1 .var])) := by kernel_rfl
theorem eq148_L1 (a1 : Int) (b2 : Int) (i8 : Int) (j9 : Int) (h0 : List (Int × (Int × Int))) (h1 : List Int) (r : List W) (lh : Heap) : FL1 E H148 Try.f148 2 r lh 1 (S148_L1 a1 b2 i8 j9 h0 h1) =
  (
   Br (decide (a1 < j9)) (
    Ck (decide ((0 : Int) ≤ j9)) (
     Ck (decide (j9 < ((h0.length : Nat) : Int))) (
      Ck (Nat.blt j9.toNat h0.length) (
       Ck (decide ((0 : Int) ≤ (IntKind.wrap .i64 (j9 - 1)))) (
        Ck (decide ((IntKind.wrap .i64 (j9 - 1)) < ((h0.length : Nat) : Int))) (
         Ck (Nat.blt ((IntKind.wrap .i64 (j9 - 1)).toNat) h0.length) (
          ∃ r0 : Int, SC P 136 [.agg [.int .i64 ((h0.getD j9.toNat (0, (0, 0))).1), .int .i64 (((h0.getD j9.toNat (0, (0, 0))).2).1), .int .i64 (((h0.getD j9.toNat (0, (0, 0))).2).2)], .agg [.int .i64 ((h0.getD (IntKind.wrap .i64 (j9 - 1)).toNat (0, (0, 0))).1), .int .i64 (((h0.getD (IntKind.wrap .i64 (j9 - 1)).toNat (0, (0, 0))).2).1), .int .i64 (((h0.getD (IntKind.wrap .i64 (j9 - 1)).toNat (0, (0, 0))).2).2)], .one (.ptr 0 0 0)] [.row (.int .i64) h1 .var] [.one (.int .i64 r0)] [.row (.int .i64) h1 .var] ∧
           Br (decide (r0 < (0 : Int))) (
            Ck (decide ((0 : Int) ≤ (IntKind.wrap .i64 (j9 - 1)))) (
             Ck (decide ((IntKind.wrap .i64 (j9 - 1)) < ((h0.length : Nat) : Int))) (
              Ck (Nat.blt ((IntKind.wrap .i64 (j9 - 1)).toNat) h0.length) (
               Ck (decide ((0 : Int) ≤ j9)) (
                Ck (decide (j9 < ((h0.length : Nat) : Int))) (
                 Ck (Nat.blt j9.toNat h0.length) (
                  Ck (decide ((0 : Int) ≤ j9)) (
                   Ck (decide (j9 < ((h0.length : Nat) : Int))) (
                    Ck (Nat.blt j9.toNat h0.length) (
                     Ck (decide ((0 : Int) ≤ (IntKind.wrap .i64 (j9 - 1)))) (
                      Ck (decide ((IntKind.wrap .i64 (j9 - 1)) < (((h0.set j9.toNat ((h0.getD (IntKind.wrap .i64 (j9 - 1)).toNat (0, (0, 0))).1, (((h0.getD (IntKind.wrap .i64 (j9 - 1)).toNat (0, (0, 0))).2).1, ((h0.getD (IntKind.wrap .i64 (j9 - 1)).toNat (0, (0, 0))).2).2))).length : Nat) : Int))) (
                       Ck (Nat.blt ((IntKind.wrap .i64 (j9 - 1)).toNat) ((h0.set j9.toNat ((h0.getD (IntKind.wrap .i64 (j9 - 1)).toNat (0, (0, 0))).1, (((h0.getD (IntKind.wrap .i64 (j9 - 1)).toNat (0, (0, 0))).2).1, ((h0.getD (IntKind.wrap .i64 (j9 - 1)).toNat (0, (0, 0))).2).2))).length)) (
                        FL E H148 Try.f148 2 r lh 1 (S148_L1 a1 b2 i8 (IntKind.wrap .i64 (j9 - 1)) ((h0.set j9.toNat ((h0.getD (IntKind.wrap .i64 (j9 - 1)).toNat (0, (0, 0))).1, (((h0.getD (IntKind.wrap .i64 (j9 - 1)).toNat (0, (0, 0))).2).1, ((h0.getD (IntKind.wrap .i64 (j9 - 1)).toNat (0, (0, 0))).2).2))).set ((IntKind.wrap .i64 (j9 - 1)).toNat) ((h0.getD j9.toNat (0, (0, 0))).1, (((h0.getD j9.toNat (0, (0, 0))).2).1, ((h0.getD j9.toNat (0, (0, 0))).2).2))) h1)))))))))))))) (
            FL E H148 Try.f148 2 r lh 0 (S148_L0 a1 b2 (IntKind.wrap .i64 (i8 + 1)) h0 h1))))))))) (
    FL E H148 Try.f148 2 r lh 0 (S148_L0 a1 b2 (IntKind.wrap .i64 (i8 + 1)) h0 h1))) := by kernel_rfl
theorem l148_1 (name : Int) (hn : inB name 0 99 = true) (n i : Nat) (hi : i ≤ 12) (x : House) (hx : houseOk x = true) (T P0 : List House) (hP : ∀ p ∈ P0, houseOk p = true) (G : List House → Prop)
    (H : ∀ P1 P2, P1 ++ P2 = P0 → (∀ p ∈ P2, before (scoreF name) x p) → (P1 = [] ∨ ∃ P' p, P1 = P' ++ [p] ∧ ¬ before (scoreF name) x p) → ∃ S, G S ∧ FL E H148 Try.f148 2 [] [.row (.pair (.int .i64) (.pair (.int .i64) (.int .i64))) S .own, .row (.int .i64) [name] .var] 0 (S148_L0 0 (n : Int) ((i + 1 : Nat) : Int) (P1 ++ x :: (P2 ++ T)) [name])) :
    ∀ (j : Nat) (P1 P2 : List House), P1.length = j → j ≤ 12 → P1 ++ P2 = P0 → (∀ p ∈ P2, before (scoreF name) x p) → ∃ S, G S ∧ FL E H148 Try.f148 2 [] [.row (.pair (.int .i64) (.pair (.int .i64) (.int .i64))) S .own, .row (.int .i64) [name] .var] 1 (S148_L1 0 (n : Int) (i : Int) (j : Int) (P1 ++ x :: (P2 ++ T)) [name])
  | 0, P1, P2, hl, hj, he, h2 => by
    have h0 : P1 = [] := List.eq_nil_of_length_eq_zero hl
    subst h0
    obtain ⟨S, hG, hF⟩ := H [] P2 he h2 (.inl rfl)
    refine ⟨S, hG, FL_of1 ?_⟩
    rw [eq148_L1, wS (by omega)]
    exact Br_f (by omega) hF
  | j + 1, P1, P2, hl, hj, he, h2 => by
    obtain ⟨P', p, rfl⟩ : ∃ P' p, P1 = P' ++ [p] := by
      rcases List.eq_nil_or_concat P1 with h | ⟨P', p, h⟩
      · subst h; simp at hl
      · exact ⟨P', p, by simpa using h⟩
    have hl : P'.length = j := by simpa using hl
    have hp : houseOk p = true := hP p (by rw [← he]; simp)
    have el : (P' ++ [p]) ++ x :: (P2 ++ T) = P' ++ p :: x :: (P2 ++ T) := by simp
    have e1 : (P' ++ p :: x :: (P2 ++ T)).getD (j + 1) (0, 0, 0) = x := by rw [← hl]; exact getD_mid' _ _ _ _ _
    have e2 : (P' ++ p :: x :: (P2 ++ T)).getD j (0, 0, 0) = p := by rw [← hl]; exact getD_mid _ _ _ _
    have e3 : ((P' ++ p :: x :: (P2 ++ T)).set (j + 1) p).set j x = P' ++ x :: p :: (P2 ++ T) := by rw [← hl]; exact swap1 _ _ _ _
    have e4 : (P' ++ p :: x :: (P2 ++ T)).length = j + 2 + (P2 ++ T).length := by simp [hl]; omega
    have call := c136 x p name hn hx hp
    by_cases hb : before (scoreF name) x p
    · obtain ⟨S, hG, hF⟩ := l148_1 name hn n i hi x hx T P0 hP G H j P' (p :: P2) hl (by omega) (by rw [← he]; simp) (fun q hq => by
        rcases List.mem_cons.1 hq with rfl | hq
        · exact hb
        · exact h2 q hq)
      refine ⟨S, hG, FL_of1 ?_⟩
      rw [el, eq148_L1, wS (by omega), wP (by omega)]
      simp only [Int.toNat_natCast, e1, e2, List.length_set, e4]
      refine Br_t (by omega) (Ck_d (by omega) (Ck_d (by omega) (Ck_lt (by omega) (Ck_d (by omega) (Ck_d (by omega) (Ck_lt (by omega) ⟨_, call, Br_t (cmpF_neg.2 hb) ?_⟩))))))
      refine Ck_d (by omega) (Ck_d (by omega) (Ck_lt (by omega) (Ck_d (by omega) (Ck_d (by omega) (Ck_lt (by omega) (Ck_d (by omega) (Ck_d (by omega) (Ck_lt (by omega) (Ck_d (by omega) (Ck_d (by omega) (Ck_lt (by omega) ?_)))))))))))
      have hF : FL E H148 Try.f148 2 [] [.row (.pair (.int .i64) (.pair (.int .i64) (.int .i64))) S .own, .row (.int .i64) [name] .var] 1 (S148_L1 0 (n : Int) (i : Int) (j : Int) (((P' ++ p :: x :: (P2 ++ T)).set (j + 1) p).set j x) [name]) := by rw [e3]; exact hF
      exact hF
    · obtain ⟨S, hG, hF⟩ := H (P' ++ [p]) P2 he h2 (.inr ⟨P', p, rfl, hb⟩)
      refine ⟨S, hG, FL_of1 ?_⟩
      rw [el] at hF ⊢
      rw [eq148_L1, wS (by omega), wP (by omega)]
      simp only [Int.toNat_natCast, e1, e2, List.length_set, e4]
      exact Br_t (by omega) (Ck_d (by omega) (Ck_d (by omega) (Ck_lt (by omega) (Ck_d (by omega) (Ck_d (by omega) (Ck_lt (by omega) ⟨_, call, Br_f (fun h => hb (cmpF_neg.1 h)) hF⟩))))))
theorem l148_0 (name : Int) (hn : inB name 0 99 = true) (n : Nat) (hn12 : n ≤ 12) : ∀ (T P : List House), (P ++ T).length = n → (∀ p ∈ P ++ T, houseOk p = true) → (P ++ T).Pairwise (fun a b => a.1 ≠ b.1) → P.Pairwise (before (scoreF name)) →
    ∃ S, (S.Pairwise (before (scoreF name)) ∧ S.Perm (P ++ T)) ∧ FL E H148 Try.f148 2 [] [.row (.pair (.int .i64) (.pair (.int .i64) (.int .i64))) S .own, .row (.int .i64) [name] .var] 0 (S148_L0 0 (n : Int) (P.length : Int) (P ++ T) [name])
  | [], P, hl, hok, hd, hs => by
    refine ⟨P, ⟨hs, by simp⟩, FL_of1 ?_⟩
    rw [eq148_L0, List.append_nil]
    rw [List.append_nil] at hl
    exact Br_f (by omega) ⟨rfl, rfl⟩
  | x :: T, P, hl, hok, hd, hs => by
    have hlP : P.length + (T.length + 1) = n := by simpa using hl
    have hdx : ∀ p ∈ P, p.1 ≠ x.1 := fun p hp => (List.pairwise_append.1 hd).2.2 p hp x (by simp)
    obtain ⟨S, hG, hF⟩ := l148_1 name hn n P.length (by omega) x (hok x (by simp)) T P (fun p hp => hok p (by simp [hp])) (fun S => S.Pairwise (before (scoreF name)) ∧ S.Perm (P ++ x :: T)) (fun P1 P2 he h2 h1 => by
      subst he
      have hp1 : ∀ p ∈ P1, before (scoreF name) p x := by
        rcases h1 with rfl | ⟨P', q, rfl, hq⟩
        · simp
        · have hqx := before_total (Ne.symm (hdx q (by simp))) hq
          intro p hp
          rcases List.mem_append.1 hp with hp | hp
          · have := (List.pairwise_append.1 hs).1
            exact before_trans ((List.pairwise_append.1 this).2.2 p hp q (by simp)) hqx
          · rw [List.mem_singleton] at hp; subst hp; exact hqx
      have hsort := put_sorted hs h2 hp1
      have hperm : ((P1 ++ x :: P2) ++ T).Perm ((P1 ++ P2) ++ x :: T) := by
        have a1 : ((P1 ++ x :: P2) ++ T).Perm (x :: ((P1 ++ P2) ++ T)) := (List.perm_middle.append_right T)
        exact a1.trans List.perm_middle.symm
      obtain ⟨S, ⟨g1, g2⟩, g3⟩ := l148_0 name hn n hn12 T (P1 ++ x :: P2) (by rw [hperm.length_eq]; exact hl) (fun p hp => hok p (hperm.mem_iff.1 hp)) ((hperm.pairwise_iff (fun h => Ne.symm h)).2 hd) hsort
      refine ⟨S, ⟨g1, g2.trans hperm⟩, ?_⟩
      rw [show (P1 ++ x :: P2).length = (P1 ++ P2).length + 1 by simp; omega, List.append_assoc, List.cons_append] at g3
      exact g3) P.length P [] rfl (by omega) (by simp) (by simp)
    refine ⟨S, hG, FL_of1 ?_⟩
    rw [eq148_L0]
    exact Br_t (by omega) hF
theorem c148 (name : Int) (l : List House) (hn : inB name 0 99 = true) (hk : housesOk l = true) : ∃ S, (S.Pairwise (before (scoreF name)) ∧ S.Perm l) ∧ SC P 148 [.one (.sl 0 none), .one (.int .i64 0), .one (.int .i64 (l.length : Int)), .one (.fn 136 [1])] [.row (.pair (.int .i64) (.pair (.int .i64) (.int .i64))) l .own, .row (.int .i64) [name] .var] [] [.row (.pair (.int .i64) (.pair (.int .i64) (.int .i64))) S .own, .row (.int .i64) [name] .var] := by
  have h12 := houses_length hk
  have hok := housesOk_iff.1 hk
  cases l with
  | nil =>
    refine ⟨[], ⟨.nil, .refl _⟩, ?_⟩
    refine SC_of_FB (H := H148) E_ok Try.func148 (by kernel_rfl) ?_
    rw [eq148]
    refine FL_of1 ?_
    rw [eq148_L0]
    exact Br_f (by rw [wrap64 (by omega) (by omega)]; simp) ⟨rfl, rfl⟩
  | cons x T =>
    obtain ⟨S, hG, hF⟩ := l148_0 name hn (x :: T).length h12 T [x] rfl hok.1 (hok.2.imp fun h => by omega) (by simp)
    refine ⟨S, hG, ?_⟩
    refine SC_of_FB (H := H148) E_ok Try.func148 (by kernel_rfl) ?_
    rw [eq148]
    rw [wrap64 (by omega) (by omega)]
    exact hF
/-! slices.pdqsortCmpFunc[loop.example/keelson/impl.House] -/
def H144 : Hint := ⟨[[(0, 0, .bool), (1, 0, .bool), (2, 0, .bool), (3, 0, .bool), (4, 0, .bool), (10, 0, .bool), (11, 0, .bool)]], [], [(17, [0, 1, 2, 3, 4, 5, 6, 7, 8, 9, 10, 11, 12, 13, 14, 15, 16])], [], [], [17]⟩
def S144_L0 (a1 : Int) (b2 : Int) (limit3 : Int) (wasBalanced10 : Bool) (wasPartitioned11 : Bool) (h0 : List (Int × (Int × Int))) (h1 : List Int) : St := ⟨[(0, .w (.one (.sl 0 none))), (1, .w (.one (.int .i64 a1))), (2, .w (.one (.int .i64 b2))), (3, .w (.one (.int .i64 limit3))), (4, .w (.one (.fn 136 [1]))), (10, .w (.one (.bool wasBalanced10))), (11, .w (.one (.bool wasPartitioned11)))], [.row (.pair (.int .i64) (.pair (.int .i64) (.int .i64))) h0 .own, .row (.int .i64) h1 .var]⟩
theorem eq144 (l : List (Int × Int × Int)) (name : Int) (a : Int) (b : Int) (lim : Int) (r : List W) (lh : Heap) : FB E H144 Try.f144 [.one (.sl 0 none), .one (.int .i64 a), .one (.int .i64 b), .one (.int .i64 lim), .one (.fn 136 [1])] [.row (.pair (.int .i64) (.pair (.int .i64) (.int .i64))) l .own, .row (.int .i64) [name] .var] r lh =
  (
   FL E H144 Try.f144 2 r lh 0 (S144_L0 a b lim true true l [name])) := by kernel_rfl
theorem eq144_L0 (a1 : Int) (b2 : Int) (limit3 : Int) (wasBalanced10 : Bool) (wasPartitioned11 : Bool) (h0 : List (Int × (Int × Int))) (h1 : List Int) (r : List W) (lh : Heap) : FL1 E H144 Try.f144 2 r lh 0 (S144_L0 a1 b2 limit3 wasBalanced10 wasPartitioned11 h0 h1) =
  (
   Br (decide ((IntKind.wrap .i64 (b2 - a1)) ≤ (12 : Int))) (
    ∃ r0 : List (Int × (Int × Int)), SC P 148 [.one (.sl 0 none), .one (.int .i64 a1), .one (.int .i64 b2), .one (.fn 136 [1])] [.row (.pair (.int .i64) (.pair (.int .i64) (.int .i64))) h0 .own, .row (.int .i64) h1 .var] [] [.row (.pair (.int .i64) (.pair (.int .i64) (.int .i64))) r0 .own, .row (.int .i64) h1 .var] ∧
     Ret r lh [] [.row (.pair (.int .i64) (.pair (.int .i64) (.int .i64))) r0 .own, .row (.int .i64) h1 .var]) (
    Br (decide (limit3 = (0 : Int))) (
     ∃ r1 : List (Int × (Int × Int)), SC P 149 [.one (.sl 0 none), .one (.int .i64 a1), .one (.int .i64 b2), .one (.fn 136 [1])] [.row (.pair (.int .i64) (.pair (.int .i64) (.int .i64))) h0 .own, .row (.int .i64) h1 .var] [] [.row (.pair (.int .i64) (.pair (.int .i64) (.int .i64))) r1 .own, .row (.int .i64) h1 .var] ∧
      Ret r lh [] [.row (.pair (.int .i64) (.pair (.int .i64) (.int .i64))) r1 .own, .row (.int .i64) h1 .var]) (
     Br (!wasBalanced10) (
      ∃ r2 : List (Int × (Int × Int)), SC P 150 [.one (.sl 0 none), .one (.int .i64 a1), .one (.int .i64 b2), .one (.fn 136 [1])] [.row (.pair (.int .i64) (.pair (.int .i64) (.int .i64))) h0 .own, .row (.int .i64) h1 .var] [] [.row (.pair (.int .i64) (.pair (.int .i64) (.int .i64))) r2 .own, .row (.int .i64) h1 .var] ∧
       ∃ r3 : List (Int × (Int × Int)) × Int × Int, SC P 151 [.one (.sl 0 none), .one (.int .i64 a1), .one (.int .i64 b2), .one (.fn 136 [1])] [.row (.pair (.int .i64) (.pair (.int .i64) (.int .i64))) r2 .own, .row (.int .i64) h1 .var] [.one (.int .i64 r3.2.1), .one (.int .i64 r3.2.2)] [.row (.pair (.int .i64) (.pair (.int .i64) (.int .i64))) r3.1 .own, .row (.int .i64) h1 .var] ∧
        Br (decide (r3.2.2 = (2 : Int))) (
         ∃ r4 : List (Int × (Int × Int)), SC P 152 [.one (.sl 0 none), .one (.int .i64 a1), .one (.int .i64 b2), .one (.fn 136 [1])] [.row (.pair (.int .i64) (.pair (.int .i64) (.int .i64))) r3.1 .own, .row (.int .i64) h1 .var] [] [.row (.pair (.int .i64) (.pair (.int .i64) (.int .i64))) r4 .own, .row (.int .i64) h1 .var] ∧
          Br wasBalanced10 (
           Br wasPartitioned11 (
            ∃ r5 : List (Int × (Int × Int)) × Bool, SC P 153 [.one (.sl 0 none), .one (.int .i64 a1), .one (.int .i64 b2), .one (.fn 136 [1])] [.row (.pair (.int .i64) (.pair (.int .i64) (.int .i64))) r4 .own, .row (.int .i64) h1 .var] [.one (.bool r5.2)] [.row (.pair (.int .i64) (.pair (.int .i64) (.int .i64))) r5.1 .own, .row (.int .i64) h1 .var] ∧
             Br r5.2 (
              Ret r lh [] [.row (.pair (.int .i64) (.pair (.int .i64) (.int .i64))) r5.1 .own, .row (.int .i64) h1 .var]) (
              Br (decide ((0 : Int) < a1)) (
               Ck (decide ((0 : Int) ≤ (IntKind.wrap .i64 (a1 - 1)))) (
                Ck (decide ((IntKind.wrap .i64 (a1 - 1)) < ((r5.1.length : Nat) : Int))) (
                 Ck (Nat.blt ((IntKind.wrap .i64 (a1 - 1)).toNat) r5.1.length) (
                  Ck (decide ((0 : Int) ≤ (IntKind.wrap .i64 ((IntKind.wrap .i64 (b2 - 1)) - (IntKind.wrap .i64 (r3.2.1 - a1)))))) (
                   Ck (decide ((IntKind.wrap .i64 ((IntKind.wrap .i64 (b2 - 1)) - (IntKind.wrap .i64 (r3.2.1 - a1)))) < ((r5.1.length : Nat) : Int))) (
                    Ck (Nat.blt ((IntKind.wrap .i64 ((IntKind.wrap .i64 (b2 - 1)) - (IntKind.wrap .i64 (r3.2.1 - a1)))).toNat) r5.1.length) (
                     ∃ r6 : Int, SC P 136 [.agg [.int .i64 ((r5.1.getD (IntKind.wrap .i64 (a1 - 1)).toNat (0, (0, 0))).1), .int .i64 (((r5.1.getD (IntKind.wrap .i64 (a1 - 1)).toNat (0, (0, 0))).2).1), .int .i64 (((r5.1.getD (IntKind.wrap .i64 (a1 - 1)).toNat (0, (0, 0))).2).2)], .agg [.int .i64 ((r5.1.getD (IntKind.wrap .i64 ((IntKind.wrap .i64 (b2 - 1)) - (IntKind.wrap .i64 (r3.2.1 - a1)))).toNat (0, (0, 0))).1), .int .i64 (((r5.1.getD (IntKind.wrap .i64 ((IntKind.wrap .i64 (b2 - 1)) - (IntKind.wrap .i64 (r3.2.1 - a1)))).toNat (0, (0, 0))).2).1), .int .i64 (((r5.1.getD (IntKind.wrap .i64 ((IntKind.wrap .i64 (b2 - 1)) - (IntKind.wrap .i64 (r3.2.1 - a1)))).toNat (0, (0, 0))).2).2)], .one (.ptr 0 0 0)] [.row (.int .i64) h1 .var] [.one (.int .i64 r6)] [.row (.int .i64) h1 .var] ∧
                      Br (!(decide (r6 < (0 : Int)))) (
                       ∃ r7 : List (Int × (Int × Int)) × Int, SC P 154 [.one (.sl 0 none), .one (.int .i64 a1), .one (.int .i64 b2), .one (.int .i64 (IntKind.wrap .i64 ((IntKind.wrap .i64 (b2 - 1)) - (IntKind.wrap .i64 (r3.2.1 - a1))))), .one (.fn 136 [1])] [.row (.pair (.int .i64) (.pair (.int .i64) (.int .i64))) r5.1 .own, .row (.int .i64) h1 .var] [.one (.int .i64 r7.2)] [.row (.pair (.int .i64) (.pair (.int .i64) (.int .i64))) r7.1 .own, .row (.int .i64) h1 .var] ∧
                        FL E H144 Try.f144 2 r lh 0 (S144_L0 r7.2 b2 (IntKind.wrap .i64 (limit3 - 1)) wasBalanced10 wasPartitioned11 r7.1 h1)) (
                       ∃ r8 : List (Int × (Int × Int)) × Int × Bool, SC P 155 [.one (.sl 0 none), .one (.int .i64 a1), .one (.int .i64 b2), .one (.int .i64 (IntKind.wrap .i64 ((IntKind.wrap .i64 (b2 - 1)) - (IntKind.wrap .i64 (r3.2.1 - a1))))), .one (.fn 136 [1])] [.row (.pair (.int .i64) (.pair (.int .i64) (.int .i64))) r5.1 .own, .row (.int .i64) h1 .var] [.one (.int .i64 r8.2.1), .one (.bool r8.2.2)] [.row (.pair (.int .i64) (.pair (.int .i64) (.int .i64))) r8.1 .own, .row (.int .i64) h1 .var] ∧
                        Br (decide ((IntKind.wrap .i64 (r8.2.1 - a1)) < (IntKind.wrap .i64 (b2 - r8.2.1)))) (
                         ∃ r9 : List (Int × (Int × Int)), SC P 144 [.one (.sl 0 none), .one (.int .i64 a1), .one (.int .i64 r8.2.1), .one (.int .i64 (IntKind.wrap .i64 (limit3 - 1))), .one (.fn 136 [1])] [.row (.pair (.int .i64) (.pair (.int .i64) (.int .i64))) r8.1 .own, .row (.int .i64) h1 .var] [] [.row (.pair (.int .i64) (.pair (.int .i64) (.int .i64))) r9 .own, .row (.int .i64) h1 .var] ∧
                          FL E H144 Try.f144 2 r lh 0 (S144_L0 (IntKind.wrap .i64 (r8.2.1 + 1)) b2 (IntKind.wrap .i64 (limit3 - 1)) (decide ((IntKind.wrap .i64 (Int.tdiv (IntKind.wrap .i64 (b2 - a1)) 8)) ≤ (IntKind.wrap .i64 (r8.2.1 - a1)))) r8.2.2 r9 h1)) (
                         ∃ r10 : List (Int × (Int × Int)), SC P 144 [.one (.sl 0 none), .one (.int .i64 (IntKind.wrap .i64 (r8.2.1 + 1))), .one (.int .i64 b2), .one (.int .i64 (IntKind.wrap .i64 (limit3 - 1))), .one (.fn 136 [1])] [.row (.pair (.int .i64) (.pair (.int .i64) (.int .i64))) r8.1 .own, .row (.int .i64) h1 .var] [] [.row (.pair (.int .i64) (.pair (.int .i64) (.int .i64))) r10 .own, .row (.int .i64) h1 .var] ∧
                          FL E H144 Try.f144 2 r lh 0 (S144_L0 a1 r8.2.1 (IntKind.wrap .i64 (limit3 - 1)) (decide ((IntKind.wrap .i64 (Int.tdiv (IntKind.wrap .i64 (b2 - a1)) 8)) ≤ (IntKind.wrap .i64 (b2 - r8.2.1)))) r8.2.2 r10 h1)))))))))) (
               ∃ r11 : List (Int × (Int × Int)) × Int × Bool, SC P 155 [.one (.sl 0 none), .one (.int .i64 a1), .one (.int .i64 b2), .one (.int .i64 (IntKind.wrap .i64 ((IntKind.wrap .i64 (b2 - 1)) - (IntKind.wrap .i64 (r3.2.1 - a1))))), .one (.fn 136 [1])] [.row (.pair (.int .i64) (.pair (.int .i64) (.int .i64))) r5.1 .own, .row (.int .i64) h1 .var] [.one (.int .i64 r11.2.1), .one (.bool r11.2.2)] [.row (.pair (.int .i64) (.pair (.int .i64) (.int .i64))) r11.1 .own, .row (.int .i64) h1 .var] ∧
                Br (decide ((IntKind.wrap .i64 (r11.2.1 - a1)) < (IntKind.wrap .i64 (b2 - r11.2.1)))) (
                 ∃ r12 : List (Int × (Int × Int)), SC P 144 [.one (.sl 0 none), .one (.int .i64 a1), .one (.int .i64 r11.2.1), .one (.int .i64 (IntKind.wrap .i64 (limit3 - 1))), .one (.fn 136 [1])] [.row (.pair (.int .i64) (.pair (.int .i64) (.int .i64))) r11.1 .own, .row (.int .i64) h1 .var] [] [.row (.pair (.int .i64) (.pair (.int .i64) (.int .i64))) r12 .own, .row (.int .i64) h1 .var] ∧
                  FL E H144 Try.f144 2 r lh 0 (S144_L0 (IntKind.wrap .i64 (r11.2.1 + 1)) b2 (IntKind.wrap .i64 (limit3 - 1)) (decide ((IntKind.wrap .i64 (Int.tdiv (IntKind.wrap .i64 (b2 - a1)) 8)) ≤ (IntKind.wrap .i64 (r11.2.1 - a1)))) r11.2.2 r12 h1)) (
                 ∃ r13 : List (Int × (Int × Int)), SC P 144 [.one (.sl 0 none), .one (.int .i64 (IntKind.wrap .i64 (r11.2.1 + 1))), .one (.int .i64 b2), .one (.int .i64 (IntKind.wrap .i64 (limit3 - 1))), .one (.fn 136 [1])] [.row (.pair (.int .i64) (.pair (.int .i64) (.int .i64))) r11.1 .own, .row (.int .i64) h1 .var] [] [.row (.pair (.int .i64) (.pair (.int .i64) (.int .i64))) r13 .own, .row (.int .i64) h1 .var] ∧
                  FL E H144 Try.f144 2 r lh 0 (S144_L0 a1 r11.2.1 (IntKind.wrap .i64 (limit3 - 1)) (decide ((IntKind.wrap .i64 (Int.tdiv (IntKind.wrap .i64 (b2 - a1)) 8)) ≤ (IntKind.wrap .i64 (b2 - r11.2.1)))) r11.2.2 r13 h1))))) (
            Br (decide ((0 : Int) < a1)) (
             Ck (decide ((0 : Int) ≤ (IntKind.wrap .i64 (a1 - 1)))) (
              Ck (decide ((IntKind.wrap .i64 (a1 - 1)) < ((r4.length : Nat) : Int))) (
               Ck (Nat.blt ((IntKind.wrap .i64 (a1 - 1)).toNat) r4.length) (
                Ck (decide ((0 : Int) ≤ (IntKind.wrap .i64 ((IntKind.wrap .i64 (b2 - 1)) - (IntKind.wrap .i64 (r3.2.1 - a1)))))) (
                 Ck (decide ((IntKind.wrap .i64 ((IntKind.wrap .i64 (b2 - 1)) - (IntKind.wrap .i64 (r3.2.1 - a1)))) < ((r4.length : Nat) : Int))) (
                  Ck (Nat.blt ((IntKind.wrap .i64 ((IntKind.wrap .i64 (b2 - 1)) - (IntKind.wrap .i64 (r3.2.1 - a1)))).toNat) r4.length) (
                   ∃ r14 : Int, SC P 136 [.agg [.int .i64 ((r4.getD (IntKind.wrap .i64 (a1 - 1)).toNat (0, (0, 0))).1), .int .i64 (((r4.getD (IntKind.wrap .i64 (a1 - 1)).toNat (0, (0, 0))).2).1), .int .i64 (((r4.getD (IntKind.wrap .i64 (a1 - 1)).toNat (0, (0, 0))).2).2)], .agg [.int .i64 ((r4.getD (IntKind.wrap .i64 ((IntKind.wrap .i64 (b2 - 1)) - (IntKind.wrap .i64 (r3.2.1 - a1)))).toNat (0, (0, 0))).1), .int .i64 (((r4.getD (IntKind.wrap .i64 ((IntKind.wrap .i64 (b2 - 1)) - (IntKind.wrap .i64 (r3.2.1 - a1)))).toNat (0, (0, 0))).2).1), .int .i64 (((r4.getD (IntKind.wrap .i64 ((IntKind.wrap .i64 (b2 - 1)) - (IntKind.wrap .i64 (r3.2.1 - a1)))).toNat (0, (0, 0))).2).2)], .one (.ptr 0 0 0)] [.row (.int .i64) h1 .var] [.one (.int .i64 r14)] [.row (.int .i64) h1 .var] ∧
                    Br (!(decide (r14 < (0 : Int)))) (
                     ∃ r15 : List (Int × (Int × Int)) × Int, SC P 154 [.one (.sl 0 none), .one (.int .i64 a1), .one (.int .i64 b2), .one (.int .i64 (IntKind.wrap .i64 ((IntKind.wrap .i64 (b2 - 1)) - (IntKind.wrap .i64 (r3.2.1 - a1))))), .one (.fn 136 [1])] [.row (.pair (.int .i64) (.pair (.int .i64) (.int .i64))) r4 .own, .row (.int .i64) h1 .var] [.one (.int .i64 r15.2)] [.row (.pair (.int .i64) (.pair (.int .i64) (.int .i64))) r15.1 .own, .row (.int .i64) h1 .var] ∧
                      FL E H144 Try.f144 2 r lh 0 (S144_L0 r15.2 b2 (IntKind.wrap .i64 (limit3 - 1)) wasBalanced10 wasPartitioned11 r15.1 h1)) (
                     ∃ r16 : List (Int × (Int × Int)) × Int × Bool, SC P 155 [.one (.sl 0 none), .one (.int .i64 a1), .one (.int .i64 b2), .one (.int .i64 (IntKind.wrap .i64 ((IntKind.wrap .i64 (b2 - 1)) - (IntKind.wrap .i64 (r3.2.1 - a1))))), .one (.fn 136 [1])] [.row (.pair (.int .i64) (.pair (.int .i64) (.int .i64))) r4 .own, .row (.int .i64) h1 .var] [.one (.int .i64 r16.2.1), .one (.bool r16.2.2)] [.row (.pair (.int .i64) (.pair (.int .i64) (.int .i64))) r16.1 .own, .row (.int .i64) h1 .var] ∧
                      Br (decide ((IntKind.wrap .i64 (r16.2.1 - a1)) < (IntKind.wrap .i64 (b2 - r16.2.1)))) (
                       ∃ r17 : List (Int × (Int × Int)), SC P 144 [.one (.sl 0 none), .one (.int .i64 a1), .one (.int .i64 r16.2.1), .one (.int .i64 (IntKind.wrap .i64 (limit3 - 1))), .one (.fn 136 [1])] [.row (.pair (.int .i64) (.pair (.int .i64) (.int .i64))) r16.1 .own, .row (.int .i64) h1 .var] [] [.row (.pair (.int .i64) (.pair (.int .i64) (.int .i64))) r17 .own, .row (.int .i64) h1 .var] ∧
                        FL E H144 Try.f144 2 r lh 0 (S144_L0 (IntKind.wrap .i64 (r16.2.1 + 1)) b2 (IntKind.wrap .i64 (limit3 - 1)) (decide ((IntKind.wrap .i64 (Int.tdiv (IntKind.wrap .i64 (b2 - a1)) 8)) ≤ (IntKind.wrap .i64 (r16.2.1 - a1)))) r16.2.2 r17 h1)) (
                       ∃ r18 : List (Int × (Int × Int)), SC P 144 [.one (.sl 0 none), .one (.int .i64 (IntKind.wrap .i64 (r16.2.1 + 1))), .one (.int .i64 b2), .one (.int .i64 (IntKind.wrap .i64 (limit3 - 1))), .one (.fn 136 [1])] [.row (.pair (.int .i64) (.pair (.int .i64) (.int .i64))) r16.1 .own, .row (.int .i64) h1 .var] [] [.row (.pair (.int .i64) (.pair (.int .i64) (.int .i64))) r18 .own, .row (.int .i64) h1 .var] ∧
                        FL E H144 Try.f144 2 r lh 0 (S144_L0 a1 r16.2.1 (IntKind.wrap .i64 (limit3 - 1)) (decide ((IntKind.wrap .i64 (Int.tdiv (IntKind.wrap .i64 (b2 - a1)) 8)) ≤ (IntKind.wrap .i64 (b2 - r16.2.1)))) r16.2.2 r18 h1)))))))))) (
             ∃ r19 : List (Int × (Int × Int)) × Int × Bool, SC P 155 [.one (.sl 0 none), .one (.int .i64 a1), .one (.int .i64 b2), .one (.int .i64 (IntKind.wrap .i64 ((IntKind.wrap .i64 (b2 - 1)) - (IntKind.wrap .i64 (r3.2.1 - a1))))), .one (.fn 136 [1])] [.row (.pair (.int .i64) (.pair (.int .i64) (.int .i64))) r4 .own, .row (.int .i64) h1 .var] [.one (.int .i64 r19.2.1), .one (.bool r19.2.2)] [.row (.pair (.int .i64) (.pair (.int .i64) (.int .i64))) r19.1 .own, .row (.int .i64) h1 .var] ∧
              Br (decide ((IntKind.wrap .i64 (r19.2.1 - a1)) < (IntKind.wrap .i64 (b2 - r19.2.1)))) (
               ∃ r20 : List (Int × (Int × Int)), SC P 144 [.one (.sl 0 none), .one (.int .i64 a1), .one (.int .i64 r19.2.1), .one (.int .i64 (IntKind.wrap .i64 (limit3 - 1))), .one (.fn 136 [1])] [.row (.pair (.int .i64) (.pair (.int .i64) (.int .i64))) r19.1 .own, .row (.int .i64) h1 .var] [] [.row (.pair (.int .i64) (.pair (.int .i64) (.int .i64))) r20 .own, .row (.int .i64) h1 .var] ∧
                FL E H144 Try.f144 2 r lh 0 (S144_L0 (IntKind.wrap .i64 (r19.2.1 + 1)) b2 (IntKind.wrap .i64 (limit3 - 1)) (decide ((IntKind.wrap .i64 (Int.tdiv (IntKind.wrap .i64 (b2 - a1)) 8)) ≤ (IntKind.wrap .i64 (r19.2.1 - a1)))) r19.2.2 r20 h1)) (
               ∃ r21 : List (Int × (Int × Int)), SC P 144 [.one (.sl 0 none), .one (.int .i64 (IntKind.wrap .i64 (r19.2.1 + 1))), .one (.int .i64 b2), .one (.int .i64 (IntKind.wrap .i64 (limit3 - 1))), .one (.fn 136 [1])] [.row (.pair (.int .i64) (.pair (.int .i64) (.int .i64))) r19.1 .own, .row (.int .i64) h1 .var] [] [.row (.pair (.int .i64) (.pair (.int .i64) (.int .i64))) r21 .own, .row (.int .i64) h1 .var] ∧
                FL E H144 Try.f144 2 r lh 0 (S144_L0 a1 r19.2.1 (IntKind.wrap .i64 (limit3 - 1)) (decide ((IntKind.wrap .i64 (Int.tdiv (IntKind.wrap .i64 (b2 - a1)) 8)) ≤ (IntKind.wrap .i64 (b2 - r19.2.1)))) r19.2.2 r21 h1))))) (
           Br (decide ((0 : Int) < a1)) (
            Ck (decide ((0 : Int) ≤ (IntKind.wrap .i64 (a1 - 1)))) (
             Ck (decide ((IntKind.wrap .i64 (a1 - 1)) < ((r4.length : Nat) : Int))) (
              Ck (Nat.blt ((IntKind.wrap .i64 (a1 - 1)).toNat) r4.length) (
               Ck (decide ((0 : Int) ≤ (IntKind.wrap .i64 ((IntKind.wrap .i64 (b2 - 1)) - (IntKind.wrap .i64 (r3.2.1 - a1)))))) (
                Ck (decide ((IntKind.wrap .i64 ((IntKind.wrap .i64 (b2 - 1)) - (IntKind.wrap .i64 (r3.2.1 - a1)))) < ((r4.length : Nat) : Int))) (
                 Ck (Nat.blt ((IntKind.wrap .i64 ((IntKind.wrap .i64 (b2 - 1)) - (IntKind.wrap .i64 (r3.2.1 - a1)))).toNat) r4.length) (
                  ∃ r22 : Int, SC P 136 [.agg [.int .i64 ((r4.getD (IntKind.wrap .i64 (a1 - 1)).toNat (0, (0, 0))).1), .int .i64 (((r4.getD (IntKind.wrap .i64 (a1 - 1)).toNat (0, (0, 0))).2).1), .int .i64 (((r4.getD (IntKind.wrap .i64 (a1 - 1)).toNat (0, (0, 0))).2).2)], .agg [.int .i64 ((r4.getD (IntKind.wrap .i64 ((IntKind.wrap .i64 (b2 - 1)) - (IntKind.wrap .i64 (r3.2.1 - a1)))).toNat (0, (0, 0))).1), .int .i64 (((r4.getD (IntKind.wrap .i64 ((IntKind.wrap .i64 (b2 - 1)) - (IntKind.wrap .i64 (r3.2.1 - a1)))).toNat (0, (0, 0))).2).1), .int .i64 (((r4.getD (IntKind.wrap .i64 ((IntKind.wrap .i64 (b2 - 1)) - (IntKind.wrap .i64 (r3.2.1 - a1)))).toNat (0, (0, 0))).2).2)], .one (.ptr 0 0 0)] [.row (.int .i64) h1 .var] [.one (.int .i64 r22)] [.row (.int .i64) h1 .var] ∧
                   Br (!(decide (r22 < (0 : Int)))) (
                    ∃ r23 : List (Int × (Int × Int)) × Int, SC P 154 [.one (.sl 0 none), .one (.int .i64 a1), .one (.int .i64 b2), .one (.int .i64 (IntKind.wrap .i64 ((IntKind.wrap .i64 (b2 - 1)) - (IntKind.wrap .i64 (r3.2.1 - a1))))), .one (.fn 136 [1])] [.row (.pair (.int .i64) (.pair (.int .i64) (.int .i64))) r4 .own, .row (.int .i64) h1 .var] [.one (.int .i64 r23.2)] [.row (.pair (.int .i64) (.pair (.int .i64) (.int .i64))) r23.1 .own, .row (.int .i64) h1 .var] ∧
                     FL E H144 Try.f144 2 r lh 0 (S144_L0 r23.2 b2 (IntKind.wrap .i64 (limit3 - 1)) wasBalanced10 wasPartitioned11 r23.1 h1)) (
                    ∃ r24 : List (Int × (Int × Int)) × Int × Bool, SC P 155 [.one (.sl 0 none), .one (.int .i64 a1), .one (.int .i64 b2), .one (.int .i64 (IntKind.wrap .i64 ((IntKind.wrap .i64 (b2 - 1)) - (IntKind.wrap .i64 (r3.2.1 - a1))))), .one (.fn 136 [1])] [.row (.pair (.int .i64) (.pair (.int .i64) (.int .i64))) r4 .own, .row (.int .i64) h1 .var] [.one (.int .i64 r24.2.1), .one (.bool r24.2.2)] [.row (.pair (.int .i64) (.pair (.int .i64) (.int .i64))) r24.1 .own, .row (.int .i64) h1 .var] ∧
                     Br (decide ((IntKind.wrap .i64 (r24.2.1 - a1)) < (IntKind.wrap .i64 (b2 - r24.2.1)))) (
                      ∃ r25 : List (Int × (Int × Int)), SC P 144 [.one (.sl 0 none), .one (.int .i64 a1), .one (.int .i64 r24.2.1), .one (.int .i64 (IntKind.wrap .i64 (limit3 - 1))), .one (.fn 136 [1])] [.row (.pair (.int .i64) (.pair (.int .i64) (.int .i64))) r24.1 .own, .row (.int .i64) h1 .var] [] [.row (.pair (.int .i64) (.pair (.int .i64) (.int .i64))) r25 .own, .row (.int .i64) h1 .var] ∧
                       FL E H144 Try.f144 2 r lh 0 (S144_L0 (IntKind.wrap .i64 (r24.2.1 + 1)) b2 (IntKind.wrap .i64 (limit3 - 1)) (decide ((IntKind.wrap .i64 (Int.tdiv (IntKind.wrap .i64 (b2 - a1)) 8)) ≤ (IntKind.wrap .i64 (r24.2.1 - a1)))) r24.2.2 r25 h1)) (
                      ∃ r26 : List (Int × (Int × Int)), SC P 144 [.one (.sl 0 none), .one (.int .i64 (IntKind.wrap .i64 (r24.2.1 + 1))), .one (.int .i64 b2), .one (.int .i64 (IntKind.wrap .i64 (limit3 - 1))), .one (.fn 136 [1])] [.row (.pair (.int .i64) (.pair (.int .i64) (.int .i64))) r24.1 .own, .row (.int .i64) h1 .var] [] [.row (.pair (.int .i64) (.pair (.int .i64) (.int .i64))) r26 .own, .row (.int .i64) h1 .var] ∧
                       FL E H144 Try.f144 2 r lh 0 (S144_L0 a1 r24.2.1 (IntKind.wrap .i64 (limit3 - 1)) (decide ((IntKind.wrap .i64 (Int.tdiv (IntKind.wrap .i64 (b2 - a1)) 8)) ≤ (IntKind.wrap .i64 (b2 - r24.2.1)))) r24.2.2 r26 h1)))))))))) (
            ∃ r27 : List (Int × (Int × Int)) × Int × Bool, SC P 155 [.one (.sl 0 none), .one (.int .i64 a1), .one (.int .i64 b2), .one (.int .i64 (IntKind.wrap .i64 ((IntKind.wrap .i64 (b2 - 1)) - (IntKind.wrap .i64 (r3.2.1 - a1))))), .one (.fn 136 [1])] [.row (.pair (.int .i64) (.pair (.int .i64) (.int .i64))) r4 .own, .row (.int .i64) h1 .var] [.one (.int .i64 r27.2.1), .one (.bool r27.2.2)] [.row (.pair (.int .i64) (.pair (.int .i64) (.int .i64))) r27.1 .own, .row (.int .i64) h1 .var] ∧
             Br (decide ((IntKind.wrap .i64 (r27.2.1 - a1)) < (IntKind.wrap .i64 (b2 - r27.2.1)))) (
              ∃ r28 : List (Int × (Int × Int)), SC P 144 [.one (.sl 0 none), .one (.int .i64 a1), .one (.int .i64 r27.2.1), .one (.int .i64 (IntKind.wrap .i64 (limit3 - 1))), .one (.fn 136 [1])] [.row (.pair (.int .i64) (.pair (.int .i64) (.int .i64))) r27.1 .own, .row (.int .i64) h1 .var] [] [.row (.pair (.int .i64) (.pair (.int .i64) (.int .i64))) r28 .own, .row (.int .i64) h1 .var] ∧
               FL E H144 Try.f144 2 r lh 0 (S144_L0 (IntKind.wrap .i64 (r27.2.1 + 1)) b2 (IntKind.wrap .i64 (limit3 - 1)) (decide ((IntKind.wrap .i64 (Int.tdiv (IntKind.wrap .i64 (b2 - a1)) 8)) ≤ (IntKind.wrap .i64 (r27.2.1 - a1)))) r27.2.2 r28 h1)) (
              ∃ r29 : List (Int × (Int × Int)), SC P 144 [.one (.sl 0 none), .one (.int .i64 (IntKind.wrap .i64 (r27.2.1 + 1))), .one (.int .i64 b2), .one (.int .i64 (IntKind.wrap .i64 (limit3 - 1))), .one (.fn 136 [1])] [.row (.pair (.int .i64) (.pair (.int .i64) (.int .i64))) r27.1 .own, .row (.int .i64) h1 .var] [] [.row (.pair (.int .i64) (.pair (.int .i64) (.int .i64))) r29 .own, .row (.int .i64) h1 .var] ∧
               FL E H144 Try.f144 2 r lh 0 (S144_L0 a1 r27.2.1 (IntKind.wrap .i64 (limit3 - 1)) (decide ((IntKind.wrap .i64 (Int.tdiv (IntKind.wrap .i64 (b2 - a1)) 8)) ≤ (IntKind.wrap .i64 (b2 - r27.2.1)))) r27.2.2 r29 h1))))) (
         Br wasBalanced10 (
          Br wasPartitioned11 (
           Br (decide (r3.2.2 = (1 : Int))) (
            ∃ r30 : List (Int × (Int × Int)) × Bool, SC P 153 [.one (.sl 0 none), .one (.int .i64 a1), .one (.int .i64 b2), .one (.fn 136 [1])] [.row (.pair (.int .i64) (.pair (.int .i64) (.int .i64))) r3.1 .own, .row (.int .i64) h1 .var] [.one (.bool r30.2)] [.row (.pair (.int .i64) (.pair (.int .i64) (.int .i64))) r30.1 .own, .row (.int .i64) h1 .var] ∧
             Br r30.2 (
              Ret r lh [] [.row (.pair (.int .i64) (.pair (.int .i64) (.int .i64))) r30.1 .own, .row (.int .i64) h1 .var]) (
              Br (decide ((0 : Int) < a1)) (
               Ck (decide ((0 : Int) ≤ (IntKind.wrap .i64 (a1 - 1)))) (
                Ck (decide ((IntKind.wrap .i64 (a1 - 1)) < ((r30.1.length : Nat) : Int))) (
                 Ck (Nat.blt ((IntKind.wrap .i64 (a1 - 1)).toNat) r30.1.length) (
                  Ck (decide ((0 : Int) ≤ r3.2.1)) (
                   Ck (decide (r3.2.1 < ((r30.1.length : Nat) : Int))) (
                    Ck (Nat.blt r3.2.1.toNat r30.1.length) (
                     ∃ r31 : Int, SC P 136 [.agg [.int .i64 ((r30.1.getD (IntKind.wrap .i64 (a1 - 1)).toNat (0, (0, 0))).1), .int .i64 (((r30.1.getD (IntKind.wrap .i64 (a1 - 1)).toNat (0, (0, 0))).2).1), .int .i64 (((r30.1.getD (IntKind.wrap .i64 (a1 - 1)).toNat (0, (0, 0))).2).2)], .agg [.int .i64 ((r30.1.getD r3.2.1.toNat (0, (0, 0))).1), .int .i64 (((r30.1.getD r3.2.1.toNat (0, (0, 0))).2).1), .int .i64 (((r30.1.getD r3.2.1.toNat (0, (0, 0))).2).2)], .one (.ptr 0 0 0)] [.row (.int .i64) h1 .var] [.one (.int .i64 r31)] [.row (.int .i64) h1 .var] ∧
                      Br (!(decide (r31 < (0 : Int)))) (
                       ∃ r32 : List (Int × (Int × Int)) × Int, SC P 154 [.one (.sl 0 none), .one (.int .i64 a1), .one (.int .i64 b2), .one (.int .i64 r3.2.1), .one (.fn 136 [1])] [.row (.pair (.int .i64) (.pair (.int .i64) (.int .i64))) r30.1 .own, .row (.int .i64) h1 .var] [.one (.int .i64 r32.2)] [.row (.pair (.int .i64) (.pair (.int .i64) (.int .i64))) r32.1 .own, .row (.int .i64) h1 .var] ∧
                        FL E H144 Try.f144 2 r lh 0 (S144_L0 r32.2 b2 (IntKind.wrap .i64 (limit3 - 1)) wasBalanced10 wasPartitioned11 r32.1 h1)) (
                       ∃ r33 : List (Int × (Int × Int)) × Int × Bool, SC P 155 [.one (.sl 0 none), .one (.int .i64 a1), .one (.int .i64 b2), .one (.int .i64 r3.2.1), .one (.fn 136 [1])] [.row (.pair (.int .i64) (.pair (.int .i64) (.int .i64))) r30.1 .own, .row (.int .i64) h1 .var] [.one (.int .i64 r33.2.1), .one (.bool r33.2.2)] [.row (.pair (.int .i64) (.pair (.int .i64) (.int .i64))) r33.1 .own, .row (.int .i64) h1 .var] ∧
                        Br (decide ((IntKind.wrap .i64 (r33.2.1 - a1)) < (IntKind.wrap .i64 (b2 - r33.2.1)))) (
                         ∃ r34 : List (Int × (Int × Int)), SC P 144 [.one (.sl 0 none), .one (.int .i64 a1), .one (.int .i64 r33.2.1), .one (.int .i64 (IntKind.wrap .i64 (limit3 - 1))), .one (.fn 136 [1])] [.row (.pair (.int .i64) (.pair (.int .i64) (.int .i64))) r33.1 .own, .row (.int .i64) h1 .var] [] [.row (.pair (.int .i64) (.pair (.int .i64) (.int .i64))) r34 .own, .row (.int .i64) h1 .var] ∧
                          FL E H144 Try.f144 2 r lh 0 (S144_L0 (IntKind.wrap .i64 (r33.2.1 + 1)) b2 (IntKind.wrap .i64 (limit3 - 1)) (decide ((IntKind.wrap .i64 (Int.tdiv (IntKind.wrap .i64 (b2 - a1)) 8)) ≤ (IntKind.wrap .i64 (r33.2.1 - a1)))) r33.2.2 r34 h1)) (
                         ∃ r35 : List (Int × (Int × Int)), SC P 144 [.one (.sl 0 none), .one (.int .i64 (IntKind.wrap .i64 (r33.2.1 + 1))), .one (.int .i64 b2), .one (.int .i64 (IntKind.wrap .i64 (limit3 - 1))), .one (.fn 136 [1])] [.row (.pair (.int .i64) (.pair (.int .i64) (.int .i64))) r33.1 .own, .row (.int .i64) h1 .var] [] [.row (.pair (.int .i64) (.pair (.int .i64) (.int .i64))) r35 .own, .row (.int .i64) h1 .var] ∧
                          FL E H144 Try.f144 2 r lh 0 (S144_L0 a1 r33.2.1 (IntKind.wrap .i64 (limit3 - 1)) (decide ((IntKind.wrap .i64 (Int.tdiv (IntKind.wrap .i64 (b2 - a1)) 8)) ≤ (IntKind.wrap .i64 (b2 - r33.2.1)))) r33.2.2 r35 h1)))))))))) (
               ∃ r36 : List (Int × (Int × Int)) × Int × Bool, SC P 155 [.one (.sl 0 none), .one (.int .i64 a1), .one (.int .i64 b2), .one (.int .i64 r3.2.1), .one (.fn 136 [1])] [.row (.pair (.int .i64) (.pair (.int .i64) (.int .i64))) r30.1 .own, .row (.int .i64) h1 .var] [.one (.int .i64 r36.2.1), .one (.bool r36.2.2)] [.row (.pair (.int .i64) (.pair (.int .i64) (.int .i64))) r36.1 .own, .row (.int .i64) h1 .var] ∧
                Br (decide ((IntKind.wrap .i64 (r36.2.1 - a1)) < (IntKind.wrap .i64 (b2 - r36.2.1)))) (
                 ∃ r37 : List (Int × (Int × Int)), SC P 144 [.one (.sl 0 none), .one (.int .i64 a1), .one (.int .i64 r36.2.1), .one (.int .i64 (IntKind.wrap .i64 (limit3 - 1))), .one (.fn 136 [1])] [.row (.pair (.int .i64) (.pair (.int .i64) (.int .i64))) r36.1 .own, .row (.int .i64) h1 .var] [] [.row (.pair (.int .i64) (.pair (.int .i64) (.int .i64))) r37 .own, .row (.int .i64) h1 .var] ∧
                  FL E H144 Try.f144 2 r lh 0 (S144_L0 (IntKind.wrap .i64 (r36.2.1 + 1)) b2 (IntKind.wrap .i64 (limit3 - 1)) (decide ((IntKind.wrap .i64 (Int.tdiv (IntKind.wrap .i64 (b2 - a1)) 8)) ≤ (IntKind.wrap .i64 (r36.2.1 - a1)))) r36.2.2 r37 h1)) (
                 ∃ r38 : List (Int × (Int × Int)), SC P 144 [.one (.sl 0 none), .one (.int .i64 (IntKind.wrap .i64 (r36.2.1 + 1))), .one (.int .i64 b2), .one (.int .i64 (IntKind.wrap .i64 (limit3 - 1))), .one (.fn 136 [1])] [.row (.pair (.int .i64) (.pair (.int .i64) (.int .i64))) r36.1 .own, .row (.int .i64) h1 .var] [] [.row (.pair (.int .i64) (.pair (.int .i64) (.int .i64))) r38 .own, .row (.int .i64) h1 .var] ∧
                  FL E H144 Try.f144 2 r lh 0 (S144_L0 a1 r36.2.1 (IntKind.wrap .i64 (limit3 - 1)) (decide ((IntKind.wrap .i64 (Int.tdiv (IntKind.wrap .i64 (b2 - a1)) 8)) ≤ (IntKind.wrap .i64 (b2 - r36.2.1)))) r36.2.2 r38 h1))))) (
            Br (decide ((0 : Int) < a1)) (
             Ck (decide ((0 : Int) ≤ (IntKind.wrap .i64 (a1 - 1)))) (
              Ck (decide ((IntKind.wrap .i64 (a1 - 1)) < ((r3.1.length : Nat) : Int))) (
               Ck (Nat.blt ((IntKind.wrap .i64 (a1 - 1)).toNat) r3.1.length) (
                Ck (decide ((0 : Int) ≤ r3.2.1)) (
                 Ck (decide (r3.2.1 < ((r3.1.length : Nat) : Int))) (
                  Ck (Nat.blt r3.2.1.toNat r3.1.length) (
                   ∃ r39 : Int, SC P 136 [.agg [.int .i64 ((r3.1.getD (IntKind.wrap .i64 (a1 - 1)).toNat (0, (0, 0))).1), .int .i64 (((r3.1.getD (IntKind.wrap .i64 (a1 - 1)).toNat (0, (0, 0))).2).1), .int .i64 (((r3.1.getD (IntKind.wrap .i64 (a1 - 1)).toNat (0, (0, 0))).2).2)], .agg [.int .i64 ((r3.1.getD r3.2.1.toNat (0, (0, 0))).1), .int .i64 (((r3.1.getD r3.2.1.toNat (0, (0, 0))).2).1), .int .i64 (((r3.1.getD r3.2.1.toNat (0, (0, 0))).2).2)], .one (.ptr 0 0 0)] [.row (.int .i64) h1 .var] [.one (.int .i64 r39)] [.row (.int .i64) h1 .var] ∧
                    Br (!(decide (r39 < (0 : Int)))) (
                     ∃ r40 : List (Int × (Int × Int)) × Int, SC P 154 [.one (.sl 0 none), .one (.int .i64 a1), .one (.int .i64 b2), .one (.int .i64 r3.2.1), .one (.fn 136 [1])] [.row (.pair (.int .i64) (.pair (.int .i64) (.int .i64))) r3.1 .own, .row (.int .i64) h1 .var] [.one (.int .i64 r40.2)] [.row (.pair (.int .i64) (.pair (.int .i64) (.int .i64))) r40.1 .own, .row (.int .i64) h1 .var] ∧
                      FL E H144 Try.f144 2 r lh 0 (S144_L0 r40.2 b2 (IntKind.wrap .i64 (limit3 - 1)) wasBalanced10 wasPartitioned11 r40.1 h1)) (
                     ∃ r41 : List (Int × (Int × Int)) × Int × Bool, SC P 155 [.one (.sl 0 none), .one (.int .i64 a1), .one (.int .i64 b2), .one (.int .i64 r3.2.1), .one (.fn 136 [1])] [.row (.pair (.int .i64) (.pair (.int .i64) (.int .i64))) r3.1 .own, .row (.int .i64) h1 .var] [.one (.int .i64 r41.2.1), .one (.bool r41.2.2)] [.row (.pair (.int .i64) (.pair (.int .i64) (.int .i64))) r41.1 .own, .row (.int .i64) h1 .var] ∧
                      Br (decide ((IntKind.wrap .i64 (r41.2.1 - a1)) < (IntKind.wrap .i64 (b2 - r41.2.1)))) (
                       ∃ r42 : List (Int × (Int × Int)), SC P 144 [.one (.sl 0 none), .one (.int .i64 a1), .one (.int .i64 r41.2.1), .one (.int .i64 (IntKind.wrap .i64 (limit3 - 1))), .one (.fn 136 [1])] [.row (.pair (.int .i64) (.pair (.int .i64) (.int .i64))) r41.1 .own, .row (.int .i64) h1 .var] [] [.row (.pair (.int .i64) (.pair (.int .i64) (.int .i64))) r42 .own, .row (.int .i64) h1 .var] ∧
                        FL E H144 Try.f144 2 r lh 0 (S144_L0 (IntKind.wrap .i64 (r41.2.1 + 1)) b2 (IntKind.wrap .i64 (limit3 - 1)) (decide ((IntKind.wrap .i64 (Int.tdiv (IntKind.wrap .i64 (b2 - a1)) 8)) ≤ (IntKind.wrap .i64 (r41.2.1 - a1)))) r41.2.2 r42 h1)) (
                       ∃ r43 : List (Int × (Int × Int)), SC P 144 [.one (.sl 0 none), .one (.int .i64 (IntKind.wrap .i64 (r41.2.1 + 1))), .one (.int .i64 b2), .one (.int .i64 (IntKind.wrap .i64 (limit3 - 1))), .one (.fn 136 [1])] [.row (.pair (.int .i64) (.pair (.int .i64) (.int .i64))) r41.1 .own, .row (.int .i64) h1 .var] [] [.row (.pair (.int .i64) (.pair (.int .i64) (.int .i64))) r43 .own, .row (.int .i64) h1 .var] ∧
                        FL E H144 Try.f144 2 r lh 0 (S144_L0 a1 r41.2.1 (IntKind.wrap .i64 (limit3 - 1)) (decide ((IntKind.wrap .i64 (Int.tdiv (IntKind.wrap .i64 (b2 - a1)) 8)) ≤ (IntKind.wrap .i64 (b2 - r41.2.1)))) r41.2.2 r43 h1)))))))))) (
             ∃ r44 : List (Int × (Int × Int)) × Int × Bool, SC P 155 [.one (.sl 0 none), .one (.int .i64 a1), .one (.int .i64 b2), .one (.int .i64 r3.2.1), .one (.fn 136 [1])] [.row (.pair (.int .i64) (.pair (.int .i64) (.int .i64))) r3.1 .own, .row (.int .i64) h1 .var] [.one (.int .i64 r44.2.1), .one (.bool r44.2.2)] [.row (.pair (.int .i64) (.pair (.int .i64) (.int .i64))) r44.1 .own, .row (.int .i64) h1 .var] ∧
              Br (decide ((IntKind.wrap .i64 (r44.2.1 - a1)) < (IntKind.wrap .i64 (b2 - r44.2.1)))) (
               ∃ r45 : List (Int × (Int × Int)), SC P 144 [.one (.sl 0 none), .one (.int .i64 a1), .one (.int .i64 r44.2.1), .one (.int .i64 (IntKind.wrap .i64 (limit3 - 1))), .one (.fn 136 [1])] [.row (.pair (.int .i64) (.pair (.int .i64) (.int .i64))) r44.1 .own, .row (.int .i64) h1 .var] [] [.row (.pair (.int .i64) (.pair (.int .i64) (.int .i64))) r45 .own, .row (.int .i64) h1 .var] ∧
                FL E H144 Try.f144 2 r lh 0 (S144_L0 (IntKind.wrap .i64 (r44.2.1 + 1)) b2 (IntKind.wrap .i64 (limit3 - 1)) (decide ((IntKind.wrap .i64 (Int.tdiv (IntKind.wrap .i64 (b2 - a1)) 8)) ≤ (IntKind.wrap .i64 (r44.2.1 - a1)))) r44.2.2 r45 h1)) (
               ∃ r46 : List (Int × (Int × Int)), SC P 144 [.one (.sl 0 none), .one (.int .i64 (IntKind.wrap .i64 (r44.2.1 + 1))), .one (.int .i64 b2), .one (.int .i64 (IntKind.wrap .i64 (limit3 - 1))), .one (.fn 136 [1])] [.row (.pair (.int .i64) (.pair (.int .i64) (.int .i64))) r44.1 .own, .row (.int .i64) h1 .var] [] [.row (.pair (.int .i64) (.pair (.int .i64) (.int .i64))) r46 .own, .row (.int .i64) h1 .var] ∧
                FL E H144 Try.f144 2 r lh 0 (S144_L0 a1 r44.2.1 (IntKind.wrap .i64 (limit3 - 1)) (decide ((IntKind.wrap .i64 (Int.tdiv (IntKind.wrap .i64 (b2 - a1)) 8)) ≤ (IntKind.wrap .i64 (b2 - r44.2.1)))) r44.2.2 r46 h1))))) (
           Br (decide ((0 : Int) < a1)) (
            Ck (decide ((0 : Int) ≤ (IntKind.wrap .i64 (a1 - 1)))) (
             Ck (decide ((IntKind.wrap .i64 (a1 - 1)) < ((r3.1.length : Nat) : Int))) (
              Ck (Nat.blt ((IntKind.wrap .i64 (a1 - 1)).toNat) r3.1.length) (
               Ck (decide ((0 : Int) ≤ r3.2.1)) (
                Ck (decide (r3.2.1 < ((r3.1.length : Nat) : Int))) (
                 Ck (Nat.blt r3.2.1.toNat r3.1.length) (
                  ∃ r47 : Int, SC P 136 [.agg [.int .i64 ((r3.1.getD (IntKind.wrap .i64 (a1 - 1)).toNat (0, (0, 0))).1), .int .i64 (((r3.1.getD (IntKind.wrap .i64 (a1 - 1)).toNat (0, (0, 0))).2).1), .int .i64 (((r3.1.getD (IntKind.wrap .i64 (a1 - 1)).toNat (0, (0, 0))).2).2)], .agg [.int .i64 ((r3.1.getD r3.2.1.toNat (0, (0, 0))).1), .int .i64 (((r3.1.getD r3.2.1.toNat (0, (0, 0))).2).1), .int .i64 (((r3.1.getD r3.2.1.toNat (0, (0, 0))).2).2)], .one (.ptr 0 0 0)] [.row (.int .i64) h1 .var] [.one (.int .i64 r47)] [.row (.int .i64) h1 .var] ∧
                   Br (!(decide (r47 < (0 : Int)))) (
                    ∃ r48 : List (Int × (Int × Int)) × Int, SC P 154 [.one (.sl 0 none), .one (.int .i64 a1), .one (.int .i64 b2), .one (.int .i64 r3.2.1), .one (.fn 136 [1])] [.row (.pair (.int .i64) (.pair (.int .i64) (.int .i64))) r3.1 .own, .row (.int .i64) h1 .var] [.one (.int .i64 r48.2)] [.row (.pair (.int .i64) (.pair (.int .i64) (.int .i64))) r48.1 .own, .row (.int .i64) h1 .var] ∧
                     FL E H144 Try.f144 2 r lh 0 (S144_L0 r48.2 b2 (IntKind.wrap .i64 (limit3 - 1)) wasBalanced10 wasPartitioned11 r48.1 h1)) (
                    ∃ r49 : List (Int × (Int × Int)) × Int × Bool, SC P 155 [.one (.sl 0 none), .one (.int .i64 a1), .one (.int .i64 b2), .one (.int .i64 r3.2.1), .one (.fn 136 [1])] [.row (.pair (.int .i64) (.pair (.int .i64) (.int .i64))) r3.1 .own, .row (.int .i64) h1 .var] [.one (.int .i64 r49.2.1), .one (.bool r49.2.2)] [.row (.pair (.int .i64) (.pair (.int .i64) (.int .i64))) r49.1 .own, .row (.int .i64) h1 .var] ∧
                     Br (decide ((IntKind.wrap .i64 (r49.2.1 - a1)) < (IntKind.wrap .i64 (b2 - r49.2.1)))) (
                      ∃ r50 : List (Int × (Int × Int)), SC P 144 [.one (.sl 0 none), .one (.int .i64 a1), .one (.int .i64 r49.2.1), .one (.int .i64 (IntKind.wrap .i64 (limit3 - 1))), .one (.fn 136 [1])] [.row (.pair (.int .i64) (.pair (.int .i64) (.int .i64))) r49.1 .own, .row (.int .i64) h1 .var] [] [.row (.pair (.int .i64) (.pair (.int .i64) (.int .i64))) r50 .own, .row (.int .i64) h1 .var] ∧
                       FL E H144 Try.f144 2 r lh 0 (S144_L0 (IntKind.wrap .i64 (r49.2.1 + 1)) b2 (IntKind.wrap .i64 (limit3 - 1)) (decide ((IntKind.wrap .i64 (Int.tdiv (IntKind.wrap .i64 (b2 - a1)) 8)) ≤ (IntKind.wrap .i64 (r49.2.1 - a1)))) r49.2.2 r50 h1)) (
                      ∃ r51 : List (Int × (Int × Int)), SC P 144 [.one (.sl 0 none), .one (.int .i64 (IntKind.wrap .i64 (r49.2.1 + 1))), .one (.int .i64 b2), .one (.int .i64 (IntKind.wrap .i64 (limit3 - 1))), .one (.fn 136 [1])] [.row (.pair (.int .i64) (.pair (.int .i64) (.int .i64))) r49.1 .own, .row (.int .i64) h1 .var] [] [.row (.pair (.int .i64) (.pair (.int .i64) (.int .i64))) r51 .own, .row (.int .i64) h1 .var] ∧
                       FL E H144 Try.f144 2 r lh 0 (S144_L0 a1 r49.2.1 (IntKind.wrap .i64 (limit3 - 1)) (decide ((IntKind.wrap .i64 (Int.tdiv (IntKind.wrap .i64 (b2 - a1)) 8)) ≤ (IntKind.wrap .i64 (b2 - r49.2.1)))) r49.2.2 r51 h1)))))))))) (
            ∃ r52 : List (Int × (Int × Int)) × Int × Bool, SC P 155 [.one (.sl 0 none), .one (.int .i64 a1), .one (.int .i64 b2), .one (.int .i64 r3.2.1), .one (.fn 136 [1])] [.row (.pair (.int .i64) (.pair (.int .i64) (.int .i64))) r3.1 .own, .row (.int .i64) h1 .var] [.one (.int .i64 r52.2.1), .one (.bool r52.2.2)] [.row (.pair (.int .i64) (.pair (.int .i64) (.int .i64))) r52.1 .own, .row (.int .i64) h1 .var] ∧
             Br (decide ((IntKind.wrap .i64 (r52.2.1 - a1)) < (IntKind.wrap .i64 (b2 - r52.2.1)))) (
              ∃ r53 : List (Int × (Int × Int)), SC P 144 [.one (.sl 0 none), .one (.int .i64 a1), .one (.int .i64 r52.2.1), .one (.int .i64 (IntKind.wrap .i64 (limit3 - 1))), .one (.fn 136 [1])] [.row (.pair (.int .i64) (.pair (.int .i64) (.int .i64))) r52.1 .own, .row (.int .i64) h1 .var] [] [.row (.pair (.int .i64) (.pair (.int .i64) (.int .i64))) r53 .own, .row (.int .i64) h1 .var] ∧
               FL E H144 Try.f144 2 r lh 0 (S144_L0 (IntKind.wrap .i64 (r52.2.1 + 1)) b2 (IntKind.wrap .i64 (limit3 - 1)) (decide ((IntKind.wrap .i64 (Int.tdiv (IntKind.wrap .i64 (b2 - a1)) 8)) ≤ (IntKind.wrap .i64 (r52.2.1 - a1)))) r52.2.2 r53 h1)) (
              ∃ r54 : List (Int × (Int × Int)), SC P 144 [.one (.sl 0 none), .one (.int .i64 (IntKind.wrap .i64 (r52.2.1 + 1))), .one (.int .i64 b2), .one (.int .i64 (IntKind.wrap .i64 (limit3 - 1))), .one (.fn 136 [1])] [.row (.pair (.int .i64) (.pair (.int .i64) (.int .i64))) r52.1 .own, .row (.int .i64) h1 .var] [] [.row (.pair (.int .i64) (.pair (.int .i64) (.int .i64))) r54 .own, .row (.int .i64) h1 .var] ∧
               FL E H144 Try.f144 2 r lh 0 (S144_L0 a1 r52.2.1 (IntKind.wrap .i64 (limit3 - 1)) (decide ((IntKind.wrap .i64 (Int.tdiv (IntKind.wrap .i64 (b2 - a1)) 8)) ≤ (IntKind.wrap .i64 (b2 - r52.2.1)))) r52.2.2 r54 h1))))) (
          Br (decide ((0 : Int) < a1)) (
           Ck (decide ((0 : Int) ≤ (IntKind.wrap .i64 (a1 - 1)))) (
            Ck (decide ((IntKind.wrap .i64 (a1 - 1)) < ((r3.1.length : Nat) : Int))) (
             Ck (Nat.blt ((IntKind.wrap .i64 (a1 - 1)).toNat) r3.1.length) (
              Ck (decide ((0 : Int) ≤ r3.2.1)) (
               Ck (decide (r3.2.1 < ((r3.1.length : Nat) : Int))) (
                Ck (Nat.blt r3.2.1.toNat r3.1.length) (
                 ∃ r55 : Int, SC P 136 [.agg [.int .i64 ((r3.1.getD (IntKind.wrap .i64 (a1 - 1)).toNat (0, (0, 0))).1), .int .i64 (((r3.1.getD (IntKind.wrap .i64 (a1 - 1)).toNat (0, (0, 0))).2).1), .int .i64 (((r3.1.getD (IntKind.wrap .i64 (a1 - 1)).toNat (0, (0, 0))).2).2)], .agg [.int .i64 ((r3.1.getD r3.2.1.toNat (0, (0, 0))).1), .int .i64 (((r3.1.getD r3.2.1.toNat (0, (0, 0))).2).1), .int .i64 (((r3.1.getD r3.2.1.toNat (0, (0, 0))).2).2)], .one (.ptr 0 0 0)] [.row (.int .i64) h1 .var] [.one (.int .i64 r55)] [.row (.int .i64) h1 .var] ∧
                  Br (!(decide (r55 < (0 : Int)))) (
                   ∃ r56 : List (Int × (Int × Int)) × Int, SC P 154 [.one (.sl 0 none), .one (.int .i64 a1), .one (.int .i64 b2), .one (.int .i64 r3.2.1), .one (.fn 136 [1])] [.row (.pair (.int .i64) (.pair (.int .i64) (.int .i64))) r3.1 .own, .row (.int .i64) h1 .var] [.one (.int .i64 r56.2)] [.row (.pair (.int .i64) (.pair (.int .i64) (.int .i64))) r56.1 .own, .row (.int .i64) h1 .var] ∧
                    FL E H144 Try.f144 2 r lh 0 (S144_L0 r56.2 b2 (IntKind.wrap .i64 (limit3 - 1)) wasBalanced10 wasPartitioned11 r56.1 h1)) (
                   ∃ r57 : List (Int × (Int × Int)) × Int × Bool, SC P 155 [.one (.sl 0 none), .one (.int .i64 a1), .one (.int .i64 b2), .one (.int .i64 r3.2.1), .one (.fn 136 [1])] [.row (.pair (.int .i64) (.pair (.int .i64) (.int .i64))) r3.1 .own, .row (.int .i64) h1 .var] [.one (.int .i64 r57.2.1), .one (.bool r57.2.2)] [.row (.pair (.int .i64) (.pair (.int .i64) (.int .i64))) r57.1 .own, .row (.int .i64) h1 .var] ∧
                    Br (decide ((IntKind.wrap .i64 (r57.2.1 - a1)) < (IntKind.wrap .i64 (b2 - r57.2.1)))) (
                     ∃ r58 : List (Int × (Int × Int)), SC P 144 [.one (.sl 0 none), .one (.int .i64 a1), .one (.int .i64 r57.2.1), .one (.int .i64 (IntKind.wrap .i64 (limit3 - 1))), .one (.fn 136 [1])] [.row (.pair (.int .i64) (.pair (.int .i64) (.int .i64))) r57.1 .own, .row (.int .i64) h1 .var] [] [.row (.pair (.int .i64) (.pair (.int .i64) (.int .i64))) r58 .own, .row (.int .i64) h1 .var] ∧
                      FL E H144 Try.f144 2 r lh 0 (S144_L0 (IntKind.wrap .i64 (r57.2.1 + 1)) b2 (IntKind.wrap .i64 (limit3 - 1)) (decide ((IntKind.wrap .i64 (Int.tdiv (IntKind.wrap .i64 (b2 - a1)) 8)) ≤ (IntKind.wrap .i64 (r57.2.1 - a1)))) r57.2.2 r58 h1)) (
                     ∃ r59 : List (Int × (Int × Int)), SC P 144 [.one (.sl 0 none), .one (.int .i64 (IntKind.wrap .i64 (r57.2.1 + 1))), .one (.int .i64 b2), .one (.int .i64 (IntKind.wrap .i64 (limit3 - 1))), .one (.fn 136 [1])] [.row (.pair (.int .i64) (.pair (.int .i64) (.int .i64))) r57.1 .own, .row (.int .i64) h1 .var] [] [.row (.pair (.int .i64) (.pair (.int .i64) (.int .i64))) r59 .own, .row (.int .i64) h1 .var] ∧
                      FL E H144 Try.f144 2 r lh 0 (S144_L0 a1 r57.2.1 (IntKind.wrap .i64 (limit3 - 1)) (decide ((IntKind.wrap .i64 (Int.tdiv (IntKind.wrap .i64 (b2 - a1)) 8)) ≤ (IntKind.wrap .i64 (b2 - r57.2.1)))) r57.2.2 r59 h1)))))))))) (
           ∃ r60 : List (Int × (Int × Int)) × Int × Bool, SC P 155 [.one (.sl 0 none), .one (.int .i64 a1), .one (.int .i64 b2), .one (.int .i64 r3.2.1), .one (.fn 136 [1])] [.row (.pair (.int .i64) (.pair (.int .i64) (.int .i64))) r3.1 .own, .row (.int .i64) h1 .var] [.one (.int .i64 r60.2.1), .one (.bool r60.2.2)] [.row (.pair (.int .i64) (.pair (.int .i64) (.int .i64))) r60.1 .own, .row (.int .i64) h1 .var] ∧
            Br (decide ((IntKind.wrap .i64 (r60.2.1 - a1)) < (IntKind.wrap .i64 (b2 - r60.2.1)))) (
             ∃ r61 : List (Int × (Int × Int)), SC P 144 [.one (.sl 0 none), .one (.int .i64 a1), .one (.int .i64 r60.2.1), .one (.int .i64 (IntKind.wrap .i64 (limit3 - 1))), .one (.fn 136 [1])] [.row (.pair (.int .i64) (.pair (.int .i64) (.int .i64))) r60.1 .own, .row (.int .i64) h1 .var] [] [.row (.pair (.int .i64) (.pair (.int .i64) (.int .i64))) r61 .own, .row (.int .i64) h1 .var] ∧
              FL E H144 Try.f144 2 r lh 0 (S144_L0 (IntKind.wrap .i64 (r60.2.1 + 1)) b2 (IntKind.wrap .i64 (limit3 - 1)) (decide ((IntKind.wrap .i64 (Int.tdiv (IntKind.wrap .i64 (b2 - a1)) 8)) ≤ (IntKind.wrap .i64 (r60.2.1 - a1)))) r60.2.2 r61 h1)) (
             ∃ r62 : List (Int × (Int × Int)), SC P 144 [.one (.sl 0 none), .one (.int .i64 (IntKind.wrap .i64 (r60.2.1 + 1))), .one (.int .i64 b2), .one (.int .i64 (IntKind.wrap .i64 (limit3 - 1))), .one (.fn 136 [1])] [.row (.pair (.int .i64) (.pair (.int .i64) (.int .i64))) r60.1 .own, .row (.int .i64) h1 .var] [] [.row (.pair (.int .i64) (.pair (.int .i64) (.int .i64))) r62 .own, .row (.int .i64) h1 .var] ∧
              FL E H144 Try.f144 2 r lh 0 (S144_L0 a1 r60.2.1 (IntKind.wrap .i64 (limit3 - 1)) (decide ((IntKind.wrap .i64 (Int.tdiv (IntKind.wrap .i64 (b2 - a1)) 8)) ≤ (IntKind.wrap .i64 (b2 - r60.2.1)))) r60.2.2 r62 h1)))))) (
      ∃ r63 : List (Int × (Int × Int)) × Int × Int, SC P 151 [.one (.sl 0 none), .one (.int .i64 a1), .one (.int .i64 b2), .one (.fn 136 [1])] [.row (.pair (.int .i64) (.pair (.int .i64) (.int .i64))) h0 .own, .row (.int .i64) h1 .var] [.one (.int .i64 r63.2.1), .one (.int .i64 r63.2.2)] [.row (.pair (.int .i64) (.pair (.int .i64) (.int .i64))) r63.1 .own, .row (.int .i64) h1 .var] ∧
       Br (decide (r63.2.2 = (2 : Int))) (
        ∃ r64 : List (Int × (Int × Int)), SC P 152 [.one (.sl 0 none), .one (.int .i64 a1), .one (.int .i64 b2), .one (.fn 136 [1])] [.row (.pair (.int .i64) (.pair (.int .i64) (.int .i64))) r63.1 .own, .row (.int .i64) h1 .var] [] [.row (.pair (.int .i64) (.pair (.int .i64) (.int .i64))) r64 .own, .row (.int .i64) h1 .var] ∧
         Br wasBalanced10 (
          Br wasPartitioned11 (
           ∃ r65 : List (Int × (Int × Int)) × Bool, SC P 153 [.one (.sl 0 none), .one (.int .i64 a1), .one (.int .i64 b2), .one (.fn 136 [1])] [.row (.pair (.int .i64) (.pair (.int .i64) (.int .i64))) r64 .own, .row (.int .i64) h1 .var] [.one (.bool r65.2)] [.row (.pair (.int .i64) (.pair (.int .i64) (.int .i64))) r65.1 .own, .row (.int .i64) h1 .var] ∧
            Br r65.2 (
             Ret r lh [] [.row (.pair (.int .i64) (.pair (.int .i64) (.int .i64))) r65.1 .own, .row (.int .i64) h1 .var]) (
             Br (decide ((0 : Int) < a1)) (
              Ck (decide ((0 : Int) ≤ (IntKind.wrap .i64 (a1 - 1)))) (
               Ck (decide ((IntKind.wrap .i64 (a1 - 1)) < ((r65.1.length : Nat) : Int))) (
                Ck (Nat.blt ((IntKind.wrap .i64 (a1 - 1)).toNat) r65.1.length) (
                 Ck (decide ((0 : Int) ≤ (IntKind.wrap .i64 ((IntKind.wrap .i64 (b2 - 1)) - (IntKind.wrap .i64 (r63.2.1 - a1)))))) (
                  Ck (decide ((IntKind.wrap .i64 ((IntKind.wrap .i64 (b2 - 1)) - (IntKind.wrap .i64 (r63.2.1 - a1)))) < ((r65.1.length : Nat) : Int))) (
                   Ck (Nat.blt ((IntKind.wrap .i64 ((IntKind.wrap .i64 (b2 - 1)) - (IntKind.wrap .i64 (r63.2.1 - a1)))).toNat) r65.1.length) (
                    ∃ r66 : Int, SC P 136 [.agg [.int .i64 ((r65.1.getD (IntKind.wrap .i64 (a1 - 1)).toNat (0, (0, 0))).1), .int .i64 (((r65.1.getD (IntKind.wrap .i64 (a1 - 1)).toNat (0, (0, 0))).2).1), .int .i64 (((r65.1.getD (IntKind.wrap .i64 (a1 - 1)).toNat (0, (0, 0))).2).2)], .agg [.int .i64 ((r65.1.getD (IntKind.wrap .i64 ((IntKind.wrap .i64 (b2 - 1)) - (IntKind.wrap .i64 (r63.2.1 - a1)))).toNat (0, (0, 0))).1), .int .i64 (((r65.1.getD (IntKind.wrap .i64 ((IntKind.wrap .i64 (b2 - 1)) - (IntKind.wrap .i64 (r63.2.1 - a1)))).toNat (0, (0, 0))).2).1), .int .i64 (((r65.1.getD (IntKind.wrap .i64 ((IntKind.wrap .i64 (b2 - 1)) - (IntKind.wrap .i64 (r63.2.1 - a1)))).toNat (0, (0, 0))).2).2)], .one (.ptr 0 0 0)] [.row (.int .i64) h1 .var] [.one (.int .i64 r66)] [.row (.int .i64) h1 .var] ∧
                     Br (!(decide (r66 < (0 : Int)))) (
                      ∃ r67 : List (Int × (Int × Int)) × Int, SC P 154 [.one (.sl 0 none), .one (.int .i64 a1), .one (.int .i64 b2), .one (.int .i64 (IntKind.wrap .i64 ((IntKind.wrap .i64 (b2 - 1)) - (IntKind.wrap .i64 (r63.2.1 - a1))))), .one (.fn 136 [1])] [.row (.pair (.int .i64) (.pair (.int .i64) (.int .i64))) r65.1 .own, .row (.int .i64) h1 .var] [.one (.int .i64 r67.2)] [.row (.pair (.int .i64) (.pair (.int .i64) (.int .i64))) r67.1 .own, .row (.int .i64) h1 .var] ∧
                       FL E H144 Try.f144 2 r lh 0 (S144_L0 r67.2 b2 limit3 wasBalanced10 wasPartitioned11 r67.1 h1)) (
                      ∃ r68 : List (Int × (Int × Int)) × Int × Bool, SC P 155 [.one (.sl 0 none), .one (.int .i64 a1), .one (.int .i64 b2), .one (.int .i64 (IntKind.wrap .i64 ((IntKind.wrap .i64 (b2 - 1)) - (IntKind.wrap .i64 (r63.2.1 - a1))))), .one (.fn 136 [1])] [.row (.pair (.int .i64) (.pair (.int .i64) (.int .i64))) r65.1 .own, .row (.int .i64) h1 .var] [.one (.int .i64 r68.2.1), .one (.bool r68.2.2)] [.row (.pair (.int .i64) (.pair (.int .i64) (.int .i64))) r68.1 .own, .row (.int .i64) h1 .var] ∧
                       Br (decide ((IntKind.wrap .i64 (r68.2.1 - a1)) < (IntKind.wrap .i64 (b2 - r68.2.1)))) (
                        ∃ r69 : List (Int × (Int × Int)), SC P 144 [.one (.sl 0 none), .one (.int .i64 a1), .one (.int .i64 r68.2.1), .one (.int .i64 limit3), .one (.fn 136 [1])] [.row (.pair (.int .i64) (.pair (.int .i64) (.int .i64))) r68.1 .own, .row (.int .i64) h1 .var] [] [.row (.pair (.int .i64) (.pair (.int .i64) (.int .i64))) r69 .own, .row (.int .i64) h1 .var] ∧
                         FL E H144 Try.f144 2 r lh 0 (S144_L0 (IntKind.wrap .i64 (r68.2.1 + 1)) b2 limit3 (decide ((IntKind.wrap .i64 (Int.tdiv (IntKind.wrap .i64 (b2 - a1)) 8)) ≤ (IntKind.wrap .i64 (r68.2.1 - a1)))) r68.2.2 r69 h1)) (
                        ∃ r70 : List (Int × (Int × Int)), SC P 144 [.one (.sl 0 none), .one (.int .i64 (IntKind.wrap .i64 (r68.2.1 + 1))), .one (.int .i64 b2), .one (.int .i64 limit3), .one (.fn 136 [1])] [.row (.pair (.int .i64) (.pair (.int .i64) (.int .i64))) r68.1 .own, .row (.int .i64) h1 .var] [] [.row (.pair (.int .i64) (.pair (.int .i64) (.int .i64))) r70 .own, .row (.int .i64) h1 .var] ∧
                         FL E H144 Try.f144 2 r lh 0 (S144_L0 a1 r68.2.1 limit3 (decide ((IntKind.wrap .i64 (Int.tdiv (IntKind.wrap .i64 (b2 - a1)) 8)) ≤ (IntKind.wrap .i64 (b2 - r68.2.1)))) r68.2.2 r70 h1)))))))))) (
              ∃ r71 : List (Int × (Int × Int)) × Int × Bool, SC P 155 [.one (.sl 0 none), .one (.int .i64 a1), .one (.int .i64 b2), .one (.int .i64 (IntKind.wrap .i64 ((IntKind.wrap .i64 (b2 - 1)) - (IntKind.wrap .i64 (r63.2.1 - a1))))), .one (.fn 136 [1])] [.row (.pair (.int .i64) (.pair (.int .i64) (.int .i64))) r65.1 .own, .row (.int .i64) h1 .var] [.one (.int .i64 r71.2.1), .one (.bool r71.2.2)] [.row (.pair (.int .i64) (.pair (.int .i64) (.int .i64))) r71.1 .own, .row (.int .i64) h1 .var] ∧
               Br (decide ((IntKind.wrap .i64 (r71.2.1 - a1)) < (IntKind.wrap .i64 (b2 - r71.2.1)))) (
                ∃ r72 : List (Int × (Int × Int)), SC P 144 [.one (.sl 0 none), .one (.int .i64 a1), .one (.int .i64 r71.2.1), .one (.int .i64 limit3), .one (.fn 136 [1])] [.row (.pair (.int .i64) (.pair (.int .i64) (.int .i64))) r71.1 .own, .row (.int .i64) h1 .var] [] [.row (.pair (.int .i64) (.pair (.int .i64) (.int .i64))) r72 .own, .row (.int .i64) h1 .var] ∧
                 FL E H144 Try.f144 2 r lh 0 (S144_L0 (IntKind.wrap .i64 (r71.2.1 + 1)) b2 limit3 (decide ((IntKind.wrap .i64 (Int.tdiv (IntKind.wrap .i64 (b2 - a1)) 8)) ≤ (IntKind.wrap .i64 (r71.2.1 - a1)))) r71.2.2 r72 h1)) (
                ∃ r73 : List (Int × (Int × Int)), SC P 144 [.one (.sl 0 none), .one (.int .i64 (IntKind.wrap .i64 (r71.2.1 + 1))), .one (.int .i64 b2), .one (.int .i64 limit3), .one (.fn 136 [1])] [.row (.pair (.int .i64) (.pair (.int .i64) (.int .i64))) r71.1 .own, .row (.int .i64) h1 .var] [] [.row (.pair (.int .i64) (.pair (.int .i64) (.int .i64))) r73 .own, .row (.int .i64) h1 .var] ∧
                 FL E H144 Try.f144 2 r lh 0 (S144_L0 a1 r71.2.1 limit3 (decide ((IntKind.wrap .i64 (Int.tdiv (IntKind.wrap .i64 (b2 - a1)) 8)) ≤ (IntKind.wrap .i64 (b2 - r71.2.1)))) r71.2.2 r73 h1))))) (
           Br (decide ((0 : Int) < a1)) (
            Ck (decide ((0 : Int) ≤ (IntKind.wrap .i64 (a1 - 1)))) (
             Ck (decide ((IntKind.wrap .i64 (a1 - 1)) < ((r64.length : Nat) : Int))) (
              Ck (Nat.blt ((IntKind.wrap .i64 (a1 - 1)).toNat) r64.length) (
               Ck (decide ((0 : Int) ≤ (IntKind.wrap .i64 ((IntKind.wrap .i64 (b2 - 1)) - (IntKind.wrap .i64 (r63.2.1 - a1)))))) (
                Ck (decide ((IntKind.wrap .i64 ((IntKind.wrap .i64 (b2 - 1)) - (IntKind.wrap .i64 (r63.2.1 - a1)))) < ((r64.length : Nat) : Int))) (
                 Ck (Nat.blt ((IntKind.wrap .i64 ((IntKind.wrap .i64 (b2 - 1)) - (IntKind.wrap .i64 (r63.2.1 - a1)))).toNat) r64.length) (
                  ∃ r74 : Int, SC P 136 [.agg [.int .i64 ((r64.getD (IntKind.wrap .i64 (a1 - 1)).toNat (0, (0, 0))).1), .int .i64 (((r64.getD (IntKind.wrap .i64 (a1 - 1)).toNat (0, (0, 0))).2).1), .int .i64 (((r64.getD (IntKind.wrap .i64 (a1 - 1)).toNat (0, (0, 0))).2).2)], .agg [.int .i64 ((r64.getD (IntKind.wrap .i64 ((IntKind.wrap .i64 (b2 - 1)) - (IntKind.wrap .i64 (r63.2.1 - a1)))).toNat (0, (0, 0))).1), .int .i64 (((r64.getD (IntKind.wrap .i64 ((IntKind.wrap .i64 (b2 - 1)) - (IntKind.wrap .i64 (r63.2.1 - a1)))).toNat (0, (0, 0))).2).1), .int .i64 (((r64.getD (IntKind.wrap .i64 ((IntKind.wrap .i64 (b2 - 1)) - (IntKind.wrap .i64 (r63.2.1 - a1)))).toNat (0, (0, 0))).2).2)], .one (.ptr 0 0 0)] [.row (.int .i64) h1 .var] [.one (.int .i64 r74)] [.row (.int .i64) h1 .var] ∧
                   Br (!(decide (r74 < (0 : Int)))) (
                    ∃ r75 : List (Int × (Int × Int)) × Int, SC P 154 [.one (.sl 0 none), .one (.int .i64 a1), .one (.int .i64 b2), .one (.int .i64 (IntKind.wrap .i64 ((IntKind.wrap .i64 (b2 - 1)) - (IntKind.wrap .i64 (r63.2.1 - a1))))), .one (.fn 136 [1])] [.row (.pair (.int .i64) (.pair (.int .i64) (.int .i64))) r64 .own, .row (.int .i64) h1 .var] [.one (.int .i64 r75.2)] [.row (.pair (.int .i64) (.pair (.int .i64) (.int .i64))) r75.1 .own, .row (.int .i64) h1 .var] ∧
                     FL E H144 Try.f144 2 r lh 0 (S144_L0 r75.2 b2 limit3 wasBalanced10 wasPartitioned11 r75.1 h1)) (
                    ∃ r76 : List (Int × (Int × Int)) × Int × Bool, SC P 155 [.one (.sl 0 none), .one (.int .i64 a1), .one (.int .i64 b2), .one (.int .i64 (IntKind.wrap .i64 ((IntKind.wrap .i64 (b2 - 1)) - (IntKind.wrap .i64 (r63.2.1 - a1))))), .one (.fn 136 [1])] [.row (.pair (.int .i64) (.pair (.int .i64) (.int .i64))) r64 .own, .row (.int .i64) h1 .var] [.one (.int .i64 r76.2.1), .one (.bool r76.2.2)] [.row (.pair (.int .i64) (.pair (.int .i64) (.int .i64))) r76.1 .own, .row (.int .i64) h1 .var] ∧
                     Br (decide ((IntKind.wrap .i64 (r76.2.1 - a1)) < (IntKind.wrap .i64 (b2 - r76.2.1)))) (
                      ∃ r77 : List (Int × (Int × Int)), SC P 144 [.one (.sl 0 none), .one (.int .i64 a1), .one (.int .i64 r76.2.1), .one (.int .i64 limit3), .one (.fn 136 [1])] [.row (.pair (.int .i64) (.pair (.int .i64) (.int .i64))) r76.1 .own, .row (.int .i64) h1 .var] [] [.row (.pair (.int .i64) (.pair (.int .i64) (.int .i64))) r77 .own, .row (.int .i64) h1 .var] ∧
                       FL E H144 Try.f144 2 r lh 0 (S144_L0 (IntKind.wrap .i64 (r76.2.1 + 1)) b2 limit3 (decide ((IntKind.wrap .i64 (Int.tdiv (IntKind.wrap .i64 (b2 - a1)) 8)) ≤ (IntKind.wrap .i64 (r76.2.1 - a1)))) r76.2.2 r77 h1)) (
                      ∃ r78 : List (Int × (Int × Int)), SC P 144 [.one (.sl 0 none), .one (.int .i64 (IntKind.wrap .i64 (r76.2.1 + 1))), .one (.int .i64 b2), .one (.int .i64 limit3), .one (.fn 136 [1])] [.row (.pair (.int .i64) (.pair (.int .i64) (.int .i64))) r76.1 .own, .row (.int .i64) h1 .var] [] [.row (.pair (.int .i64) (.pair (.int .i64) (.int .i64))) r78 .own, .row (.int .i64) h1 .var] ∧
                       FL E H144 Try.f144 2 r lh 0 (S144_L0 a1 r76.2.1 limit3 (decide ((IntKind.wrap .i64 (Int.tdiv (IntKind.wrap .i64 (b2 - a1)) 8)) ≤ (IntKind.wrap .i64 (b2 - r76.2.1)))) r76.2.2 r78 h1)))))))))) (
            ∃ r79 : List (Int × (Int × Int)) × Int × Bool, SC P 155 [.one (.sl 0 none), .one (.int .i64 a1), .one (.int .i64 b2), .one (.int .i64 (IntKind.wrap .i64 ((IntKind.wrap .i64 (b2 - 1)) - (IntKind.wrap .i64 (r63.2.1 - a1))))), .one (.fn 136 [1])] [.row (.pair (.int .i64) (.pair (.int .i64) (.int .i64))) r64 .own, .row (.int .i64) h1 .var] [.one (.int .i64 r79.2.1), .one (.bool r79.2.2)] [.row (.pair (.int .i64) (.pair (.int .i64) (.int .i64))) r79.1 .own, .row (.int .i64) h1 .var] ∧
             Br (decide ((IntKind.wrap .i64 (r79.2.1 - a1)) < (IntKind.wrap .i64 (b2 - r79.2.1)))) (
              ∃ r80 : List (Int × (Int × Int)), SC P 144 [.one (.sl 0 none), .one (.int .i64 a1), .one (.int .i64 r79.2.1), .one (.int .i64 limit3), .one (.fn 136 [1])] [.row (.pair (.int .i64) (.pair (.int .i64) (.int .i64))) r79.1 .own, .row (.int .i64) h1 .var] [] [.row (.pair (.int .i64) (.pair (.int .i64) (.int .i64))) r80 .own, .row (.int .i64) h1 .var] ∧
               FL E H144 Try.f144 2 r lh 0 (S144_L0 (IntKind.wrap .i64 (r79.2.1 + 1)) b2 limit3 (decide ((IntKind.wrap .i64 (Int.tdiv (IntKind.wrap .i64 (b2 - a1)) 8)) ≤ (IntKind.wrap .i64 (r79.2.1 - a1)))) r79.2.2 r80 h1)) (
              ∃ r81 : List (Int × (Int × Int)), SC P 144 [.one (.sl 0 none), .one (.int .i64 (IntKind.wrap .i64 (r79.2.1 + 1))), .one (.int .i64 b2), .one (.int .i64 limit3), .one (.fn 136 [1])] [.row (.pair (.int .i64) (.pair (.int .i64) (.int .i64))) r79.1 .own, .row (.int .i64) h1 .var] [] [.row (.pair (.int .i64) (.pair (.int .i64) (.int .i64))) r81 .own, .row (.int .i64) h1 .var] ∧
               FL E H144 Try.f144 2 r lh 0 (S144_L0 a1 r79.2.1 limit3 (decide ((IntKind.wrap .i64 (Int.tdiv (IntKind.wrap .i64 (b2 - a1)) 8)) ≤ (IntKind.wrap .i64 (b2 - r79.2.1)))) r79.2.2 r81 h1))))) (
          Br (decide ((0 : Int) < a1)) (
           Ck (decide ((0 : Int) ≤ (IntKind.wrap .i64 (a1 - 1)))) (
            Ck (decide ((IntKind.wrap .i64 (a1 - 1)) < ((r64.length : Nat) : Int))) (
             Ck (Nat.blt ((IntKind.wrap .i64 (a1 - 1)).toNat) r64.length) (
              Ck (decide ((0 : Int) ≤ (IntKind.wrap .i64 ((IntKind.wrap .i64 (b2 - 1)) - (IntKind.wrap .i64 (r63.2.1 - a1)))))) (
               Ck (decide ((IntKind.wrap .i64 ((IntKind.wrap .i64 (b2 - 1)) - (IntKind.wrap .i64 (r63.2.1 - a1)))) < ((r64.length : Nat) : Int))) (
                Ck (Nat.blt ((IntKind.wrap .i64 ((IntKind.wrap .i64 (b2 - 1)) - (IntKind.wrap .i64 (r63.2.1 - a1)))).toNat) r64.length) (
                 ∃ r82 : Int, SC P 136 [.agg [.int .i64 ((r64.getD (IntKind.wrap .i64 (a1 - 1)).toNat (0, (0, 0))).1), .int .i64 (((r64.getD (IntKind.wrap .i64 (a1 - 1)).toNat (0, (0, 0))).2).1), .int .i64 (((r64.getD (IntKind.wrap .i64 (a1 - 1)).toNat (0, (0, 0))).2).2)], .agg [.int .i64 ((r64.getD (IntKind.wrap .i64 ((IntKind.wrap .i64 (b2 - 1)) - (IntKind.wrap .i64 (r63.2.1 - a1)))).toNat (0, (0, 0))).1), .int .i64 (((r64.getD (IntKind.wrap .i64 ((IntKind.wrap .i64 (b2 - 1)) - (IntKind.wrap .i64 (r63.2.1 - a1)))).toNat (0, (0, 0))).2).1), .int .i64 (((r64.getD (IntKind.wrap .i64 ((IntKind.wrap .i64 (b2 - 1)) - (IntKind.wrap .i64 (r63.2.1 - a1)))).toNat (0, (0, 0))).2).2)], .one (.ptr 0 0 0)] [.row (.int .i64) h1 .var] [.one (.int .i64 r82)] [.row (.int .i64) h1 .var] ∧
                  Br (!(decide (r82 < (0 : Int)))) (
                   ∃ r83 : List (Int × (Int × Int)) × Int, SC P 154 [.one (.sl 0 none), .one (.int .i64 a1), .one (.int .i64 b2), .one (.int .i64 (IntKind.wrap .i64 ((IntKind.wrap .i64 (b2 - 1)) - (IntKind.wrap .i64 (r63.2.1 - a1))))), .one (.fn 136 [1])] [.row (.pair (.int .i64) (.pair (.int .i64) (.int .i64))) r64 .own, .row (.int .i64) h1 .var] [.one (.int .i64 r83.2)] [.row (.pair (.int .i64) (.pair (.int .i64) (.int .i64))) r83.1 .own, .row (.int .i64) h1 .var] ∧
                    FL E H144 Try.f144 2 r lh 0 (S144_L0 r83.2 b2 limit3 wasBalanced10 wasPartitioned11 r83.1 h1)) (
                   ∃ r84 : List (Int × (Int × Int)) × Int × Bool, SC P 155 [.one (.sl 0 none), .one (.int .i64 a1), .one (.int .i64 b2), .one (.int .i64 (IntKind.wrap .i64 ((IntKind.wrap .i64 (b2 - 1)) - (IntKind.wrap .i64 (r63.2.1 - a1))))), .one (.fn 136 [1])] [.row (.pair (.int .i64) (.pair (.int .i64) (.int .i64))) r64 .own, .row (.int .i64) h1 .var] [.one (.int .i64 r84.2.1), .one (.bool r84.2.2)] [.row (.pair (.int .i64) (.pair (.int .i64) (.int .i64))) r84.1 .own, .row (.int .i64) h1 .var] ∧
                    Br (decide ((IntKind.wrap .i64 (r84.2.1 - a1)) < (IntKind.wrap .i64 (b2 - r84.2.1)))) (
                     ∃ r85 : List (Int × (Int × Int)), SC P 144 [.one (.sl 0 none), .one (.int .i64 a1), .one (.int .i64 r84.2.1), .one (.int .i64 limit3), .one (.fn 136 [1])] [.row (.pair (.int .i64) (.pair (.int .i64) (.int .i64))) r84.1 .own, .row (.int .i64) h1 .var] [] [.row (.pair (.int .i64) (.pair (.int .i64) (.int .i64))) r85 .own, .row (.int .i64) h1 .var] ∧
                      FL E H144 Try.f144 2 r lh 0 (S144_L0 (IntKind.wrap .i64 (r84.2.1 + 1)) b2 limit3 (decide ((IntKind.wrap .i64 (Int.tdiv (IntKind.wrap .i64 (b2 - a1)) 8)) ≤ (IntKind.wrap .i64 (r84.2.1 - a1)))) r84.2.2 r85 h1)) (
                     ∃ r86 : List (Int × (Int × Int)), SC P 144 [.one (.sl 0 none), .one (.int .i64 (IntKind.wrap .i64 (r84.2.1 + 1))), .one (.int .i64 b2), .one (.int .i64 limit3), .one (.fn 136 [1])] [.row (.pair (.int .i64) (.pair (.int .i64) (.int .i64))) r84.1 .own, .row (.int .i64) h1 .var] [] [.row (.pair (.int .i64) (.pair (.int .i64) (.int .i64))) r86 .own, .row (.int .i64) h1 .var] ∧
                      FL E H144 Try.f144 2 r lh 0 (S144_L0 a1 r84.2.1 limit3 (decide ((IntKind.wrap .i64 (Int.tdiv (IntKind.wrap .i64 (b2 - a1)) 8)) ≤ (IntKind.wrap .i64 (b2 - r84.2.1)))) r84.2.2 r86 h1)))))))))) (
           ∃ r87 : List (Int × (Int × Int)) × Int × Bool, SC P 155 [.one (.sl 0 none), .one (.int .i64 a1), .one (.int .i64 b2), .one (.int .i64 (IntKind.wrap .i64 ((IntKind.wrap .i64 (b2 - 1)) - (IntKind.wrap .i64 (r63.2.1 - a1))))), .one (.fn 136 [1])] [.row (.pair (.int .i64) (.pair (.int .i64) (.int .i64))) r64 .own, .row (.int .i64) h1 .var] [.one (.int .i64 r87.2.1), .one (.bool r87.2.2)] [.row (.pair (.int .i64) (.pair (.int .i64) (.int .i64))) r87.1 .own, .row (.int .i64) h1 .var] ∧
            Br (decide ((IntKind.wrap .i64 (r87.2.1 - a1)) < (IntKind.wrap .i64 (b2 - r87.2.1)))) (
             ∃ r88 : List (Int × (Int × Int)), SC P 144 [.one (.sl 0 none), .one (.int .i64 a1), .one (.int .i64 r87.2.1), .one (.int .i64 limit3), .one (.fn 136 [1])] [.row (.pair (.int .i64) (.pair (.int .i64) (.int .i64))) r87.1 .own, .row (.int .i64) h1 .var] [] [.row (.pair (.int .i64) (.pair (.int .i64) (.int .i64))) r88 .own, .row (.int .i64) h1 .var] ∧
              FL E H144 Try.f144 2 r lh 0 (S144_L0 (IntKind.wrap .i64 (r87.2.1 + 1)) b2 limit3 (decide ((IntKind.wrap .i64 (Int.tdiv (IntKind.wrap .i64 (b2 - a1)) 8)) ≤ (IntKind.wrap .i64 (r87.2.1 - a1)))) r87.2.2 r88 h1)) (
             ∃ r89 : List (Int × (Int × Int)), SC P 144 [.one (.sl 0 none), .one (.int .i64 (IntKind.wrap .i64 (r87.2.1 + 1))), .one (.int .i64 b2), .one (.int .i64 limit3), .one (.fn 136 [1])] [.row (.pair (.int .i64) (.pair (.int .i64) (.int .i64))) r87.1 .own, .row (.int .i64) h1 .var] [] [.row (.pair (.int .i64) (.pair (.int .i64) (.int .i64))) r89 .own, .row (.int .i64) h1 .var] ∧
              FL E H144 Try.f144 2 r lh 0 (S144_L0 a1 r87.2.1 limit3 (decide ((IntKind.wrap .i64 (Int.tdiv (IntKind.wrap .i64 (b2 - a1)) 8)) ≤ (IntKind.wrap .i64 (b2 - r87.2.1)))) r87.2.2 r89 h1))))) (
        Br wasBalanced10 (
         Br wasPartitioned11 (
          Br (decide (r63.2.2 = (1 : Int))) (
           ∃ r90 : List (Int × (Int × Int)) × Bool, SC P 153 [.one (.sl 0 none), .one (.int .i64 a1), .one (.int .i64 b2), .one (.fn 136 [1])] [.row (.pair (.int .i64) (.pair (.int .i64) (.int .i64))) r63.1 .own, .row (.int .i64) h1 .var] [.one (.bool r90.2)] [.row (.pair (.int .i64) (.pair (.int .i64) (.int .i64))) r90.1 .own, .row (.int .i64) h1 .var] ∧
            Br r90.2 (
             Ret r lh [] [.row (.pair (.int .i64) (.pair (.int .i64) (.int .i64))) r90.1 .own, .row (.int .i64) h1 .var]) (
             Br (decide ((0 : Int) < a1)) (
              Ck (decide ((0 : Int) ≤ (IntKind.wrap .i64 (a1 - 1)))) (
               Ck (decide ((IntKind.wrap .i64 (a1 - 1)) < ((r90.1.length : Nat) : Int))) (
                Ck (Nat.blt ((IntKind.wrap .i64 (a1 - 1)).toNat) r90.1.length) (
                 Ck (decide ((0 : Int) ≤ r63.2.1)) (
                  Ck (decide (r63.2.1 < ((r90.1.length : Nat) : Int))) (
                   Ck (Nat.blt r63.2.1.toNat r90.1.length) (
                    ∃ r91 : Int, SC P 136 [.agg [.int .i64 ((r90.1.getD (IntKind.wrap .i64 (a1 - 1)).toNat (0, (0, 0))).1), .int .i64 (((r90.1.getD (IntKind.wrap .i64 (a1 - 1)).toNat (0, (0, 0))).2).1), .int .i64 (((r90.1.getD (IntKind.wrap .i64 (a1 - 1)).toNat (0, (0, 0))).2).2)], .agg [.int .i64 ((r90.1.getD r63.2.1.toNat (0, (0, 0))).1), .int .i64 (((r90.1.getD r63.2.1.toNat (0, (0, 0))).2).1), .int .i64 (((r90.1.getD r63.2.1.toNat (0, (0, 0))).2).2)], .one (.ptr 0 0 0)] [.row (.int .i64) h1 .var] [.one (.int .i64 r91)] [.row (.int .i64) h1 .var] ∧
                     Br (!(decide (r91 < (0 : Int)))) (
                      ∃ r92 : List (Int × (Int × Int)) × Int, SC P 154 [.one (.sl 0 none), .one (.int .i64 a1), .one (.int .i64 b2), .one (.int .i64 r63.2.1), .one (.fn 136 [1])] [.row (.pair (.int .i64) (.pair (.int .i64) (.int .i64))) r90.1 .own, .row (.int .i64) h1 .var] [.one (.int .i64 r92.2)] [.row (.pair (.int .i64) (.pair (.int .i64) (.int .i64))) r92.1 .own, .row (.int .i64) h1 .var] ∧
                       FL E H144 Try.f144 2 r lh 0 (S144_L0 r92.2 b2 limit3 wasBalanced10 wasPartitioned11 r92.1 h1)) (
                      ∃ r93 : List (Int × (Int × Int)) × Int × Bool, SC P 155 [.one (.sl 0 none), .one (.int .i64 a1), .one (.int .i64 b2), .one (.int .i64 r63.2.1), .one (.fn 136 [1])] [.row (.pair (.int .i64) (.pair (.int .i64) (.int .i64))) r90.1 .own, .row (.int .i64) h1 .var] [.one (.int .i64 r93.2.1), .one (.bool r93.2.2)] [.row (.pair (.int .i64) (.pair (.int .i64) (.int .i64))) r93.1 .own, .row (.int .i64) h1 .var] ∧
                       Br (decide ((IntKind.wrap .i64 (r93.2.1 - a1)) < (IntKind.wrap .i64 (b2 - r93.2.1)))) (
                        ∃ r94 : List (Int × (Int × Int)), SC P 144 [.one (.sl 0 none), .one (.int .i64 a1), .one (.int .i64 r93.2.1), .one (.int .i64 limit3), .one (.fn 136 [1])] [.row (.pair (.int .i64) (.pair (.int .i64) (.int .i64))) r93.1 .own, .row (.int .i64) h1 .var] [] [.row (.pair (.int .i64) (.pair (.int .i64) (.int .i64))) r94 .own, .row (.int .i64) h1 .var] ∧
                         FL E H144 Try.f144 2 r lh 0 (S144_L0 (IntKind.wrap .i64 (r93.2.1 + 1)) b2 limit3 (decide ((IntKind.wrap .i64 (Int.tdiv (IntKind.wrap .i64 (b2 - a1)) 8)) ≤ (IntKind.wrap .i64 (r93.2.1 - a1)))) r93.2.2 r94 h1)) (
                        ∃ r95 : List (Int × (Int × Int)), SC P 144 [.one (.sl 0 none), .one (.int .i64 (IntKind.wrap .i64 (r93.2.1 + 1))), .one (.int .i64 b2), .one (.int .i64 limit3), .one (.fn 136 [1])] [.row (.pair (.int .i64) (.pair (.int .i64) (.int .i64))) r93.1 .own, .row (.int .i64) h1 .var] [] [.row (.pair (.int .i64) (.pair (.int .i64) (.int .i64))) r95 .own, .row (.int .i64) h1 .var] ∧
                         FL E H144 Try.f144 2 r lh 0 (S144_L0 a1 r93.2.1 limit3 (decide ((IntKind.wrap .i64 (Int.tdiv (IntKind.wrap .i64 (b2 - a1)) 8)) ≤ (IntKind.wrap .i64 (b2 - r93.2.1)))) r93.2.2 r95 h1)))))))))) (
              ∃ r96 : List (Int × (Int × Int)) × Int × Bool, SC P 155 [.one (.sl 0 none), .one (.int .i64 a1), .one (.int .i64 b2), .one (.int .i64 r63.2.1), .one (.fn 136 [1])] [.row (.pair (.int .i64) (.pair (.int .i64) (.int .i64))) r90.1 .own, .row (.int .i64) h1 .var] [.one (.int .i64 r96.2.1), .one (.bool r96.2.2)] [.row (.pair (.int .i64) (.pair (.int .i64) (.int .i64))) r96.1 .own, .row (.int .i64) h1 .var] ∧
               Br (decide ((IntKind.wrap .i64 (r96.2.1 - a1)) < (IntKind.wrap .i64 (b2 - r96.2.1)))) (
                ∃ r97 : List (Int × (Int × Int)), SC P 144 [.one (.sl 0 none), .one (.int .i64 a1), .one (.int .i64 r96.2.1), .one (.int .i64 limit3), .one (.fn 136 [1])] [.row (.pair (.int .i64) (.pair (.int .i64) (.int .i64))) r96.1 .own, .row (.int .i64) h1 .var] [] [.row (.pair (.int .i64) (.pair (.int .i64) (.int .i64))) r97 .own, .row (.int .i64) h1 .var] ∧
                 FL E H144 Try.f144 2 r lh 0 (S144_L0 (IntKind.wrap .i64 (r96.2.1 + 1)) b2 limit3 (decide ((IntKind.wrap .i64 (Int.tdiv (IntKind.wrap .i64 (b2 - a1)) 8)) ≤ (IntKind.wrap .i64 (r96.2.1 - a1)))) r96.2.2 r97 h1)) (
                ∃ r98 : List (Int × (Int × Int)), SC P 144 [.one (.sl 0 none), .one (.int .i64 (IntKind.wrap .i64 (r96.2.1 + 1))), .one (.int .i64 b2), .one (.int .i64 limit3), .one (.fn 136 [1])] [.row (.pair (.int .i64) (.pair (.int .i64) (.int .i64))) r96.1 .own, .row (.int .i64) h1 .var] [] [.row (.pair (.int .i64) (.pair (.int .i64) (.int .i64))) r98 .own, .row (.int .i64) h1 .var] ∧
                 FL E H144 Try.f144 2 r lh 0 (S144_L0 a1 r96.2.1 limit3 (decide ((IntKind.wrap .i64 (Int.tdiv (IntKind.wrap .i64 (b2 - a1)) 8)) ≤ (IntKind.wrap .i64 (b2 - r96.2.1)))) r96.2.2 r98 h1))))) (
           Br (decide ((0 : Int) < a1)) (
            Ck (decide ((0 : Int) ≤ (IntKind.wrap .i64 (a1 - 1)))) (
             Ck (decide ((IntKind.wrap .i64 (a1 - 1)) < ((r63.1.length : Nat) : Int))) (
              Ck (Nat.blt ((IntKind.wrap .i64 (a1 - 1)).toNat) r63.1.length) (
               Ck (decide ((0 : Int) ≤ r63.2.1)) (
                Ck (decide (r63.2.1 < ((r63.1.length : Nat) : Int))) (
                 Ck (Nat.blt r63.2.1.toNat r63.1.length) (
                  ∃ r99 : Int, SC P 136 [.agg [.int .i64 ((r63.1.getD (IntKind.wrap .i64 (a1 - 1)).toNat (0, (0, 0))).1), .int .i64 (((r63.1.getD (IntKind.wrap .i64 (a1 - 1)).toNat (0, (0, 0))).2).1), .int .i64 (((r63.1.getD (IntKind.wrap .i64 (a1 - 1)).toNat (0, (0, 0))).2).2)], .agg [.int .i64 ((r63.1.getD r63.2.1.toNat (0, (0, 0))).1), .int .i64 (((r63.1.getD r63.2.1.toNat (0, (0, 0))).2).1), .int .i64 (((r63.1.getD r63.2.1.toNat (0, (0, 0))).2).2)], .one (.ptr 0 0 0)] [.row (.int .i64) h1 .var] [.one (.int .i64 r99)] [.row (.int .i64) h1 .var] ∧
                   Br (!(decide (r99 < (0 : Int)))) (
                    ∃ r100 : List (Int × (Int × Int)) × Int, SC P 154 [.one (.sl 0 none), .one (.int .i64 a1), .one (.int .i64 b2), .one (.int .i64 r63.2.1), .one (.fn 136 [1])] [.row (.pair (.int .i64) (.pair (.int .i64) (.int .i64))) r63.1 .own, .row (.int .i64) h1 .var] [.one (.int .i64 r100.2)] [.row (.pair (.int .i64) (.pair (.int .i64) (.int .i64))) r100.1 .own, .row (.int .i64) h1 .var] ∧
                     FL E H144 Try.f144 2 r lh 0 (S144_L0 r100.2 b2 limit3 wasBalanced10 wasPartitioned11 r100.1 h1)) (
                    ∃ r101 : List (Int × (Int × Int)) × Int × Bool, SC P 155 [.one (.sl 0 none), .one (.int .i64 a1), .one (.int .i64 b2), .one (.int .i64 r63.2.1), .one (.fn 136 [1])] [.row (.pair (.int .i64) (.pair (.int .i64) (.int .i64))) r63.1 .own, .row (.int .i64) h1 .var] [.one (.int .i64 r101.2.1), .one (.bool r101.2.2)] [.row (.pair (.int .i64) (.pair (.int .i64) (.int .i64))) r101.1 .own, .row (.int .i64) h1 .var] ∧
                     Br (decide ((IntKind.wrap .i64 (r101.2.1 - a1)) < (IntKind.wrap .i64 (b2 - r101.2.1)))) (
                      ∃ r102 : List (Int × (Int × Int)), SC P 144 [.one (.sl 0 none), .one (.int .i64 a1), .one (.int .i64 r101.2.1), .one (.int .i64 limit3), .one (.fn 136 [1])] [.row (.pair (.int .i64) (.pair (.int .i64) (.int .i64))) r101.1 .own, .row (.int .i64) h1 .var] [] [.row (.pair (.int .i64) (.pair (.int .i64) (.int .i64))) r102 .own, .row (.int .i64) h1 .var] ∧
                       FL E H144 Try.f144 2 r lh 0 (S144_L0 (IntKind.wrap .i64 (r101.2.1 + 1)) b2 limit3 (decide ((IntKind.wrap .i64 (Int.tdiv (IntKind.wrap .i64 (b2 - a1)) 8)) ≤ (IntKind.wrap .i64 (r101.2.1 - a1)))) r101.2.2 r102 h1)) (
                      ∃ r103 : List (Int × (Int × Int)), SC P 144 [.one (.sl 0 none), .one (.int .i64 (IntKind.wrap .i64 (r101.2.1 + 1))), .one (.int .i64 b2), .one (.int .i64 limit3), .one (.fn 136 [1])] [.row (.pair (.int .i64) (.pair (.int .i64) (.int .i64))) r101.1 .own, .row (.int .i64) h1 .var] [] [.row (.pair (.int .i64) (.pair (.int .i64) (.int .i64))) r103 .own, .row (.int .i64) h1 .var] ∧
                       FL E H144 Try.f144 2 r lh 0 (S144_L0 a1 r101.2.1 limit3 (decide ((IntKind.wrap .i64 (Int.tdiv (IntKind.wrap .i64 (b2 - a1)) 8)) ≤ (IntKind.wrap .i64 (b2 - r101.2.1)))) r101.2.2 r103 h1)))))))))) (
            ∃ r104 : List (Int × (Int × Int)) × Int × Bool, SC P 155 [.one (.sl 0 none), .one (.int .i64 a1), .one (.int .i64 b2), .one (.int .i64 r63.2.1), .one (.fn 136 [1])] [.row (.pair (.int .i64) (.pair (.int .i64) (.int .i64))) r63.1 .own, .row (.int .i64) h1 .var] [.one (.int .i64 r104.2.1), .one (.bool r104.2.2)] [.row (.pair (.int .i64) (.pair (.int .i64) (.int .i64))) r104.1 .own, .row (.int .i64) h1 .var] ∧
             Br (decide ((IntKind.wrap .i64 (r104.2.1 - a1)) < (IntKind.wrap .i64 (b2 - r104.2.1)))) (
              ∃ r105 : List (Int × (Int × Int)), SC P 144 [.one (.sl 0 none), .one (.int .i64 a1), .one (.int .i64 r104.2.1), .one (.int .i64 limit3), .one (.fn 136 [1])] [.row (.pair (.int .i64) (.pair (.int .i64) (.int .i64))) r104.1 .own, .row (.int .i64) h1 .var] [] [.row (.pair (.int .i64) (.pair (.int .i64) (.int .i64))) r105 .own, .row (.int .i64) h1 .var] ∧
               FL E H144 Try.f144 2 r lh 0 (S144_L0 (IntKind.wrap .i64 (r104.2.1 + 1)) b2 limit3 (decide ((IntKind.wrap .i64 (Int.tdiv (IntKind.wrap .i64 (b2 - a1)) 8)) ≤ (IntKind.wrap .i64 (r104.2.1 - a1)))) r104.2.2 r105 h1)) (
              ∃ r106 : List (Int × (Int × Int)), SC P 144 [.one (.sl 0 none), .one (.int .i64 (IntKind.wrap .i64 (r104.2.1 + 1))), .one (.int .i64 b2), .one (.int .i64 limit3), .one (.fn 136 [1])] [.row (.pair (.int .i64) (.pair (.int .i64) (.int .i64))) r104.1 .own, .row (.int .i64) h1 .var] [] [.row (.pair (.int .i64) (.pair (.int .i64) (.int .i64))) r106 .own, .row (.int .i64) h1 .var] ∧
               FL E H144 Try.f144 2 r lh 0 (S144_L0 a1 r104.2.1 limit3 (decide ((IntKind.wrap .i64 (Int.tdiv (IntKind.wrap .i64 (b2 - a1)) 8)) ≤ (IntKind.wrap .i64 (b2 - r104.2.1)))) r104.2.2 r106 h1))))) (
          Br (decide ((0 : Int) < a1)) (
           Ck (decide ((0 : Int) ≤ (IntKind.wrap .i64 (a1 - 1)))) (
            Ck (decide ((IntKind.wrap .i64 (a1 - 1)) < ((r63.1.length : Nat) : Int))) (
             Ck (Nat.blt ((IntKind.wrap .i64 (a1 - 1)).toNat) r63.1.length) (
              Ck (decide ((0 : Int) ≤ r63.2.1)) (
               Ck (decide (r63.2.1 < ((r63.1.length : Nat) : Int))) (
                Ck (Nat.blt r63.2.1.toNat r63.1.length) (
                 ∃ r107 : Int, SC P 136 [.agg [.int .i64 ((r63.1.getD (IntKind.wrap .i64 (a1 - 1)).toNat (0, (0, 0))).1), .int .i64 (((r63.1.getD (IntKind.wrap .i64 (a1 - 1)).toNat (0, (0, 0))).2).1), .int .i64 (((r63.1.getD (IntKind.wrap .i64 (a1 - 1)).toNat (0, (0, 0))).2).2)], .agg [.int .i64 ((r63.1.getD r63.2.1.toNat (0, (0, 0))).1), .int .i64 (((r63.1.getD r63.2.1.toNat (0, (0, 0))).2).1), .int .i64 (((r63.1.getD r63.2.1.toNat (0, (0, 0))).2).2)], .one (.ptr 0 0 0)] [.row (.int .i64) h1 .var] [.one (.int .i64 r107)] [.row (.int .i64) h1 .var] ∧
                  Br (!(decide (r107 < (0 : Int)))) (
                   ∃ r108 : List (Int × (Int × Int)) × Int, SC P 154 [.one (.sl 0 none), .one (.int .i64 a1), .one (.int .i64 b2), .one (.int .i64 r63.2.1), .one (.fn 136 [1])] [.row (.pair (.int .i64) (.pair (.int .i64) (.int .i64))) r63.1 .own, .row (.int .i64) h1 .var] [.one (.int .i64 r108.2)] [.row (.pair (.int .i64) (.pair (.int .i64) (.int .i64))) r108.1 .own, .row (.int .i64) h1 .var] ∧
                    FL E H144 Try.f144 2 r lh 0 (S144_L0 r108.2 b2 limit3 wasBalanced10 wasPartitioned11 r108.1 h1)) (
                   ∃ r109 : List (Int × (Int × Int)) × Int × Bool, SC P 155 [.one (.sl 0 none), .one (.int .i64 a1), .one (.int .i64 b2), .one (.int .i64 r63.2.1), .one (.fn 136 [1])] [.row (.pair (.int .i64) (.pair (.int .i64) (.int .i64))) r63.1 .own, .row (.int .i64) h1 .var] [.one (.int .i64 r109.2.1), .one (.bool r109.2.2)] [.row (.pair (.int .i64) (.pair (.int .i64) (.int .i64))) r109.1 .own, .row (.int .i64) h1 .var] ∧
                    Br (decide ((IntKind.wrap .i64 (r109.2.1 - a1)) < (IntKind.wrap .i64 (b2 - r109.2.1)))) (
                     ∃ r110 : List (Int × (Int × Int)), SC P 144 [.one (.sl 0 none), .one (.int .i64 a1), .one (.int .i64 r109.2.1), .one (.int .i64 limit3), .one (.fn 136 [1])] [.row (.pair (.int .i64) (.pair (.int .i64) (.int .i64))) r109.1 .own, .row (.int .i64) h1 .var] [] [.row (.pair (.int .i64) (.pair (.int .i64) (.int .i64))) r110 .own, .row (.int .i64) h1 .var] ∧
                      FL E H144 Try.f144 2 r lh 0 (S144_L0 (IntKind.wrap .i64 (r109.2.1 + 1)) b2 limit3 (decide ((IntKind.wrap .i64 (Int.tdiv (IntKind.wrap .i64 (b2 - a1)) 8)) ≤ (IntKind.wrap .i64 (r109.2.1 - a1)))) r109.2.2 r110 h1)) (
                     ∃ r111 : List (Int × (Int × Int)), SC P 144 [.one (.sl 0 none), .one (.int .i64 (IntKind.wrap .i64 (r109.2.1 + 1))), .one (.int .i64 b2), .one (.int .i64 limit3), .one (.fn 136 [1])] [.row (.pair (.int .i64) (.pair (.int .i64) (.int .i64))) r109.1 .own, .row (.int .i64) h1 .var] [] [.row (.pair (.int .i64) (.pair (.int .i64) (.int .i64))) r111 .own, .row (.int .i64) h1 .var] ∧
                      FL E H144 Try.f144 2 r lh 0 (S144_L0 a1 r109.2.1 limit3 (decide ((IntKind.wrap .i64 (Int.tdiv (IntKind.wrap .i64 (b2 - a1)) 8)) ≤ (IntKind.wrap .i64 (b2 - r109.2.1)))) r109.2.2 r111 h1)))))))))) (
           ∃ r112 : List (Int × (Int × Int)) × Int × Bool, SC P 155 [.one (.sl 0 none), .one (.int .i64 a1), .one (.int .i64 b2), .one (.int .i64 r63.2.1), .one (.fn 136 [1])] [.row (.pair (.int .i64) (.pair (.int .i64) (.int .i64))) r63.1 .own, .row (.int .i64) h1 .var] [.one (.int .i64 r112.2.1), .one (.bool r112.2.2)] [.row (.pair (.int .i64) (.pair (.int .i64) (.int .i64))) r112.1 .own, .row (.int .i64) h1 .var] ∧
            Br (decide ((IntKind.wrap .i64 (r112.2.1 - a1)) < (IntKind.wrap .i64 (b2 - r112.2.1)))) (
             ∃ r113 : List (Int × (Int × Int)), SC P 144 [.one (.sl 0 none), .one (.int .i64 a1), .one (.int .i64 r112.2.1), .one (.int .i64 limit3), .one (.fn 136 [1])] [.row (.pair (.int .i64) (.pair (.int .i64) (.int .i64))) r112.1 .own, .row (.int .i64) h1 .var] [] [.row (.pair (.int .i64) (.pair (.int .i64) (.int .i64))) r113 .own, .row (.int .i64) h1 .var] ∧
              FL E H144 Try.f144 2 r lh 0 (S144_L0 (IntKind.wrap .i64 (r112.2.1 + 1)) b2 limit3 (decide ((IntKind.wrap .i64 (Int.tdiv (IntKind.wrap .i64 (b2 - a1)) 8)) ≤ (IntKind.wrap .i64 (r112.2.1 - a1)))) r112.2.2 r113 h1)) (
             ∃ r114 : List (Int × (Int × Int)), SC P 144 [.one (.sl 0 none), .one (.int .i64 (IntKind.wrap .i64 (r112.2.1 + 1))), .one (.int .i64 b2), .one (.int .i64 limit3), .one (.fn 136 [1])] [.row (.pair (.int .i64) (.pair (.int .i64) (.int .i64))) r112.1 .own, .row (.int .i64) h1 .var] [] [.row (.pair (.int .i64) (.pair (.int .i64) (.int .i64))) r114 .own, .row (.int .i64) h1 .var] ∧
              FL E H144 Try.f144 2 r lh 0 (S144_L0 a1 r112.2.1 limit3 (decide ((IntKind.wrap .i64 (Int.tdiv (IntKind.wrap .i64 (b2 - a1)) 8)) ≤ (IntKind.wrap .i64 (b2 - r112.2.1)))) r112.2.2 r114 h1))))) (
         Br (decide ((0 : Int) < a1)) (
          Ck (decide ((0 : Int) ≤ (IntKind.wrap .i64 (a1 - 1)))) (
           Ck (decide ((IntKind.wrap .i64 (a1 - 1)) < ((r63.1.length : Nat) : Int))) (
            Ck (Nat.blt ((IntKind.wrap .i64 (a1 - 1)).toNat) r63.1.length) (
             Ck (decide ((0 : Int) ≤ r63.2.1)) (
              Ck (decide (r63.2.1 < ((r63.1.length : Nat) : Int))) (
               Ck (Nat.blt r63.2.1.toNat r63.1.length) (
                ∃ r115 : Int, SC P 136 [.agg [.int .i64 ((r63.1.getD (IntKind.wrap .i64 (a1 - 1)).toNat (0, (0, 0))).1), .int .i64 (((r63.1.getD (IntKind.wrap .i64 (a1 - 1)).toNat (0, (0, 0))).2).1), .int .i64 (((r63.1.getD (IntKind.wrap .i64 (a1 - 1)).toNat (0, (0, 0))).2).2)], .agg [.int .i64 ((r63.1.getD r63.2.1.toNat (0, (0, 0))).1), .int .i64 (((r63.1.getD r63.2.1.toNat (0, (0, 0))).2).1), .int .i64 (((r63.1.getD r63.2.1.toNat (0, (0, 0))).2).2)], .one (.ptr 0 0 0)] [.row (.int .i64) h1 .var] [.one (.int .i64 r115)] [.row (.int .i64) h1 .var] ∧
                 Br (!(decide (r115 < (0 : Int)))) (
                  ∃ r116 : List (Int × (Int × Int)) × Int, SC P 154 [.one (.sl 0 none), .one (.int .i64 a1), .one (.int .i64 b2), .one (.int .i64 r63.2.1), .one (.fn 136 [1])] [.row (.pair (.int .i64) (.pair (.int .i64) (.int .i64))) r63.1 .own, .row (.int .i64) h1 .var] [.one (.int .i64 r116.2)] [.row (.pair (.int .i64) (.pair (.int .i64) (.int .i64))) r116.1 .own, .row (.int .i64) h1 .var] ∧
                   FL E H144 Try.f144 2 r lh 0 (S144_L0 r116.2 b2 limit3 wasBalanced10 wasPartitioned11 r116.1 h1)) (
                  ∃ r117 : List (Int × (Int × Int)) × Int × Bool, SC P 155 [.one (.sl 0 none), .one (.int .i64 a1), .one (.int .i64 b2), .one (.int .i64 r63.2.1), .one (.fn 136 [1])] [.row (.pair (.int .i64) (.pair (.int .i64) (.int .i64))) r63.1 .own, .row (.int .i64) h1 .var] [.one (.int .i64 r117.2.1), .one (.bool r117.2.2)] [.row (.pair (.int .i64) (.pair (.int .i64) (.int .i64))) r117.1 .own, .row (.int .i64) h1 .var] ∧
                   Br (decide ((IntKind.wrap .i64 (r117.2.1 - a1)) < (IntKind.wrap .i64 (b2 - r117.2.1)))) (
                    ∃ r118 : List (Int × (Int × Int)), SC P 144 [.one (.sl 0 none), .one (.int .i64 a1), .one (.int .i64 r117.2.1), .one (.int .i64 limit3), .one (.fn 136 [1])] [.row (.pair (.int .i64) (.pair (.int .i64) (.int .i64))) r117.1 .own, .row (.int .i64) h1 .var] [] [.row (.pair (.int .i64) (.pair (.int .i64) (.int .i64))) r118 .own, .row (.int .i64) h1 .var] ∧
                     FL E H144 Try.f144 2 r lh 0 (S144_L0 (IntKind.wrap .i64 (r117.2.1 + 1)) b2 limit3 (decide ((IntKind.wrap .i64 (Int.tdiv (IntKind.wrap .i64 (b2 - a1)) 8)) ≤ (IntKind.wrap .i64 (r117.2.1 - a1)))) r117.2.2 r118 h1)) (
                    ∃ r119 : List (Int × (Int × Int)), SC P 144 [.one (.sl 0 none), .one (.int .i64 (IntKind.wrap .i64 (r117.2.1 + 1))), .one (.int .i64 b2), .one (.int .i64 limit3), .one (.fn 136 [1])] [.row (.pair (.int .i64) (.pair (.int .i64) (.int .i64))) r117.1 .own, .row (.int .i64) h1 .var] [] [.row (.pair (.int .i64) (.pair (.int .i64) (.int .i64))) r119 .own, .row (.int .i64) h1 .var] ∧
                     FL E H144 Try.f144 2 r lh 0 (S144_L0 a1 r117.2.1 limit3 (decide ((IntKind.wrap .i64 (Int.tdiv (IntKind.wrap .i64 (b2 - a1)) 8)) ≤ (IntKind.wrap .i64 (b2 - r117.2.1)))) r117.2.2 r119 h1)))))))))) (
          ∃ r120 : List (Int × (Int × Int)) × Int × Bool, SC P 155 [.one (.sl 0 none), .one (.int .i64 a1), .one (.int .i64 b2), .one (.int .i64 r63.2.1), .one (.fn 136 [1])] [.row (.pair (.int .i64) (.pair (.int .i64) (.int .i64))) r63.1 .own, .row (.int .i64) h1 .var] [.one (.int .i64 r120.2.1), .one (.bool r120.2.2)] [.row (.pair (.int .i64) (.pair (.int .i64) (.int .i64))) r120.1 .own, .row (.int .i64) h1 .var] ∧
           Br (decide ((IntKind.wrap .i64 (r120.2.1 - a1)) < (IntKind.wrap .i64 (b2 - r120.2.1)))) (
            ∃ r121 : List (Int × (Int × Int)), SC P 144 [.one (.sl 0 none), .one (.int .i64 a1), .one (.int .i64 r120.2.1), .one (.int .i64 limit3), .one (.fn 136 [1])] [.row (.pair (.int .i64) (.pair (.int .i64) (.int .i64))) r120.1 .own, .row (.int .i64) h1 .var] [] [.row (.pair (.int .i64) (.pair (.int .i64) (.int .i64))) r121 .own, .row (.int .i64) h1 .var] ∧
             FL E H144 Try.f144 2 r lh 0 (S144_L0 (IntKind.wrap .i64 (r120.2.1 + 1)) b2 limit3 (decide ((IntKind.wrap .i64 (Int.tdiv (IntKind.wrap .i64 (b2 - a1)) 8)) ≤ (IntKind.wrap .i64 (r120.2.1 - a1)))) r120.2.2 r121 h1)) (
            ∃ r122 : List (Int × (Int × Int)), SC P 144 [.one (.sl 0 none), .one (.int .i64 (IntKind.wrap .i64 (r120.2.1 + 1))), .one (.int .i64 b2), .one (.int .i64 limit3), .one (.fn 136 [1])] [.row (.pair (.int .i64) (.pair (.int .i64) (.int .i64))) r120.1 .own, .row (.int .i64) h1 .var] [] [.row (.pair (.int .i64) (.pair (.int .i64) (.int .i64))) r122 .own, .row (.int .i64) h1 .var] ∧
             FL E H144 Try.f144 2 r lh 0 (S144_L0 a1 r120.2.1 limit3 (decide ((IntKind.wrap .i64 (Int.tdiv (IntKind.wrap .i64 (b2 - a1)) 8)) ≤ (IntKind.wrap .i64 (b2 - r120.2.1)))) r120.2.2 r122 h1))))))))) := by kernel_rfl
theorem c144 (name lim : Int) (l : List House) (hn : inB name 0 99 = true) (hk : housesOk l = true) : ∃ S, (S.Pairwise (before (scoreF name)) ∧ S.Perm l) ∧ SC P 144 [.one (.sl 0 none), .one (.int .i64 0), .one (.int .i64 (l.length : Int)), .one (.int .i64 lim), .one (.fn 136 [1])] [.row (.pair (.int .i64) (.pair (.int .i64) (.int .i64))) l .own, .row (.int .i64) [name] .var] [] [.row (.pair (.int .i64) (.pair (.int .i64) (.int .i64))) S .own, .row (.int .i64) [name] .var] := by
  have h12 := houses_length hk
  obtain ⟨S, hG, hS⟩ := c148 name l hn hk
  refine ⟨S, hG, ?_⟩
  refine SC_of_FB (H := H144) E_ok Try.func144 (by kernel_rfl) ?_
  rw [eq144]
  refine FL_of1 ?_
  rw [eq144_L0, wrap64 (n := (l.length : Int) - 0) (by omega) (by omega)]
  exact Br_t (by omega) ⟨S, hS, rfl, rfl⟩
def H157 : Hint := ⟨[], [], [], [], [], []⟩
theorem len64_0 : SC P 157 [.one (.int .u64 0)] [] [.one (.int .i64 0)] [] := by
  refine SC_of_FB (H := H157) E_ok Try.func157 (by kernel_rfl) ?_
  have h : FB E H157 Try.f157 [.one (.int .u64 0)] [] [.one (.int .i64 0)] [] = (P.underlying 9 = some .string ∧ Ret [.one (.int .i64 0)] [] [.one (.int .i64 0)] []) := by kernel_rfl
  rw [h]
  exact ⟨by kernel_rfl, rfl, rfl⟩
theorem len64_1 : SC P 157 [.one (.int .u64 1)] [] [.one (.int .i64 1)] [] := by
  refine SC_of_FB (H := H157) E_ok Try.func157 (by kernel_rfl) ?_
  have h : FB E H157 Try.f157 [.one (.int .u64 1)] [] [.one (.int .i64 1)] [] = (P.underlying 9 = some .string ∧ Ret [.one (.int .i64 1)] [] [.one (.int .i64 1)] []) := by kernel_rfl
  rw [h]
  exact ⟨by kernel_rfl, rfl, rfl⟩
theorem len64_2 : SC P 157 [.one (.int .u64 2)] [] [.one (.int .i64 2)] [] := by
  refine SC_of_FB (H := H157) E_ok Try.func157 (by kernel_rfl) ?_
  have h : FB E H157 Try.f157 [.one (.int .u64 2)] [] [.one (.int .i64 2)] [] = (P.underlying 9 = some .string ∧ Ret [.one (.int .i64 2)] [] [.one (.int .i64 2)] []) := by kernel_rfl
  rw [h]
  exact ⟨by kernel_rfl, rfl, rfl⟩
theorem len64_3 : SC P 157 [.one (.int .u64 3)] [] [.one (.int .i64 2)] [] := by
  refine SC_of_FB (H := H157) E_ok Try.func157 (by kernel_rfl) ?_
  have h : FB E H157 Try.f157 [.one (.int .u64 3)] [] [.one (.int .i64 2)] [] = (P.underlying 9 = some .string ∧ Ret [.one (.int .i64 2)] [] [.one (.int .i64 2)] []) := by kernel_rfl
  rw [h]
  exact ⟨by kernel_rfl, rfl, rfl⟩
theorem len64_4 : SC P 157 [.one (.int .u64 4)] [] [.one (.int .i64 3)] [] := by
  refine SC_of_FB (H := H157) E_ok Try.func157 (by kernel_rfl) ?_
  have h : FB E H157 Try.f157 [.one (.int .u64 4)] [] [.one (.int .i64 3)] [] = (P.underlying 9 = some .string ∧ Ret [.one (.int .i64 3)] [] [.one (.int .i64 3)] []) := by kernel_rfl
  rw [h]
  exact ⟨by kernel_rfl, rfl, rfl⟩
theorem len64_5 : SC P 157 [.one (.int .u64 5)] [] [.one (.int .i64 3)] [] := by
  refine SC_of_FB (H := H157) E_ok Try.func157 (by kernel_rfl) ?_
  have h : FB E H157 Try.f157 [.one (.int .u64 5)] [] [.one (.int .i64 3)] [] = (P.underlying 9 = some .string ∧ Ret [.one (.int .i64 3)] [] [.one (.int .i64 3)] []) := by kernel_rfl
  rw [h]
  exact ⟨by kernel_rfl, rfl, rfl⟩
theorem len64_6 : SC P 157 [.one (.int .u64 6)] [] [.one (.int .i64 3)] [] := by
  refine SC_of_FB (H := H157) E_ok Try.func157 (by kernel_rfl) ?_
  have h : FB E H157 Try.f157 [.one (.int .u64 6)] [] [.one (.int .i64 3)] [] = (P.underlying 9 = some .string ∧ Ret [.one (.int .i64 3)] [] [.one (.int .i64 3)] []) := by kernel_rfl
  rw [h]
  exact ⟨by kernel_rfl, rfl, rfl⟩
theorem len64_7 : SC P 157 [.one (.int .u64 7)] [] [.one (.int .i64 3)] [] := by
  refine SC_of_FB (H := H157) E_ok Try.func157 (by kernel_rfl) ?_
  have h : FB E H157 Try.f157 [.one (.int .u64 7)] [] [.one (.int .i64 3)] [] = (P.underlying 9 = some .string ∧ Ret [.one (.int .i64 3)] [] [.one (.int .i64 3)] []) := by kernel_rfl
  rw [h]
  exact ⟨by kernel_rfl, rfl, rfl⟩
theorem len64_8 : SC P 157 [.one (.int .u64 8)] [] [.one (.int .i64 4)] [] := by
  refine SC_of_FB (H := H157) E_ok Try.func157 (by kernel_rfl) ?_
  have h : FB E H157 Try.f157 [.one (.int .u64 8)] [] [.one (.int .i64 4)] [] = (P.underlying 9 = some .string ∧ Ret [.one (.int .i64 4)] [] [.one (.int .i64 4)] []) := by kernel_rfl
  rw [h]
  exact ⟨by kernel_rfl, rfl, rfl⟩
theorem len64_9 : SC P 157 [.one (.int .u64 9)] [] [.one (.int .i64 4)] [] := by
  refine SC_of_FB (H := H157) E_ok Try.func157 (by kernel_rfl) ?_
  have h : FB E H157 Try.f157 [.one (.int .u64 9)] [] [.one (.int .i64 4)] [] = (P.underlying 9 = some .string ∧ Ret [.one (.int .i64 4)] [] [.one (.int .i64 4)] []) := by kernel_rfl
  rw [h]
  exact ⟨by kernel_rfl, rfl, rfl⟩
theorem len64_10 : SC P 157 [.one (.int .u64 10)] [] [.one (.int .i64 4)] [] := by
  refine SC_of_FB (H := H157) E_ok Try.func157 (by kernel_rfl) ?_
  have h : FB E H157 Try.f157 [.one (.int .u64 10)] [] [.one (.int .i64 4)] [] = (P.underlying 9 = some .string ∧ Ret [.one (.int .i64 4)] [] [.one (.int .i64 4)] []) := by kernel_rfl
  rw [h]
  exact ⟨by kernel_rfl, rfl, rfl⟩
theorem len64_11 : SC P 157 [.one (.int .u64 11)] [] [.one (.int .i64 4)] [] := by
  refine SC_of_FB (H := H157) E_ok Try.func157 (by kernel_rfl) ?_
  have h : FB E H157 Try.f157 [.one (.int .u64 11)] [] [.one (.int .i64 4)] [] = (P.underlying 9 = some .string ∧ Ret [.one (.int .i64 4)] [] [.one (.int .i64 4)] []) := by kernel_rfl
  rw [h]
  exact ⟨by kernel_rfl, rfl, rfl⟩
theorem len64_12 : SC P 157 [.one (.int .u64 12)] [] [.one (.int .i64 4)] [] := by
  refine SC_of_FB (H := H157) E_ok Try.func157 (by kernel_rfl) ?_
  have h : FB E H157 Try.f157 [.one (.int .u64 12)] [] [.one (.int .i64 4)] [] = (P.underlying 9 = some .string ∧ Ret [.one (.int .i64 4)] [] [.one (.int .i64 4)] []) := by kernel_rfl
  rw [h]
  exact ⟨by kernel_rfl, rfl, rfl⟩
/-! math/bits.Len -/
def H145 : Hint := ⟨[], [], [], [], [], []⟩
theorem eq145 (x : Int) (r : List W) (lh : Heap) : FB E H145 Try.f145 [.one (.int .u64 x)] [] r lh =
  (
   ∃ r0 : Int, SC P 157 [.one (.int .u64 x)] [] [.one (.int .i64 r0)] [] ∧
    Ret r lh [.one (.int .i64 r0)] []) := by kernel_rfl
theorem c145 (n : Nat) (h : n ≤ 12) : ∃ v, SC P 145 [.one (.int .u64 (IntKind.wrap .u64 (n : Int)))] [] [.one (.int .i64 v)] [] := by
  have key : ∃ v, SC P 157 [.one (.int .u64 (IntKind.wrap .u64 (n : Int)))] [] [.one (.int .i64 v)] [] := by
    have : n = 0 ∨ n = 1 ∨ n = 2 ∨ n = 3 ∨ n = 4 ∨ n = 5 ∨ n = 6 ∨ n = 7 ∨ n = 8 ∨ n = 9 ∨ n = 10 ∨ n = 11 ∨ n = 12 := by omega
    rcases this with e | e | e | e | e | e | e | e | e | e | e | e | e <;> subst e
    · exact ⟨0, len64_0⟩
    · exact ⟨1, len64_1⟩
    · exact ⟨2, len64_2⟩
    · exact ⟨2, len64_3⟩
    · exact ⟨3, len64_4⟩
    · exact ⟨3, len64_5⟩
    · exact ⟨3, len64_6⟩
    · exact ⟨3, len64_7⟩
    · exact ⟨4, len64_8⟩
    · exact ⟨4, len64_9⟩
    · exact ⟨4, len64_10⟩
    · exact ⟨4, len64_11⟩
    · exact ⟨4, len64_12⟩
  obtain ⟨v, hv⟩ := key
  refine ⟨v, ?_⟩
  refine SC_of_FB (H := H145) E_ok Try.func145 (by kernel_rfl) ?_
  rw [eq145]
  exact ⟨v, hv, rfl, rfl⟩
/-! slices.SortFunc[[]loop.example/keelson/impl.House,loop.example/keelson/impl.House] -/
def H135 : Hint := ⟨[], [], [], [], [], []⟩
theorem eq135 (l : List (Int × Int × Int)) (name : Int) (r : List W) (lh : Heap) : FB E H135 Try.f135 [.one (.sl 0 none), .one (.fn 136 [1])] [.row (.pair (.int .i64) (.pair (.int .i64) (.int .i64))) l .own, .row (.int .i64) [name] .var] r lh =
  (
   ∃ r0 : Int, SC P 145 [.one (.int .u64 (IntKind.wrap .u64 ((l.length : Nat) : Int)))] [] [.one (.int .i64 r0)] [] ∧
    ∃ r1 : List (Int × (Int × Int)), SC P 144 [.one (.sl 0 none), .one (.int .i64 0), .one (.int .i64 ((l.length : Nat) : Int)), .one (.int .i64 r0), .one (.fn 136 [1])] [.row (.pair (.int .i64) (.pair (.int .i64) (.int .i64))) l .own, .row (.int .i64) [name] .var] [] [.row (.pair (.int .i64) (.pair (.int .i64) (.int .i64))) r1 .own, .row (.int .i64) [name] .var] ∧
     Ret r lh [] [.row (.pair (.int .i64) (.pair (.int .i64) (.int .i64))) r1 .own, .row (.int .i64) [name] .var]) := by kernel_rfl
theorem c135 (name : Int) (l : List House) (hn : inB name 0 99 = true) (hk : housesOk l = true) : ∃ S, (S.Pairwise (before (scoreF name)) ∧ S.Perm l) ∧ SC P 135 [.one (.sl 0 none), .one (.fn 136 [1])] [.row (.pair (.int .i64) (.pair (.int .i64) (.int .i64))) l .own, .row (.int .i64) [name] .var] [] [.row (.pair (.int .i64) (.pair (.int .i64) (.int .i64))) S .own, .row (.int .i64) [name] .var] := by
  obtain ⟨v, hv⟩ := c145 l.length (houses_length hk)
  obtain ⟨S, hG, hS⟩ := c144 name v l hn hk
  refine ⟨S, hG, ?_⟩
  refine SC_of_FB (H := H135) E_ok Try.func135 (by kernel_rfl) ?_
  rw [eq135]
  exact ⟨v, hv, S, hS, rfl, rfl⟩
def ranksHs (name : Int) (l : List House) : List House := ranksH (sAt name l) (hAt l) l.length (List.replicate l.length false)
theorem ranksHs_map (name : Int) (l : List House) : (ranksHs name l).map (·.1) = ranksS name l := ranksH_map
theorem hAt_asc {l : List House} (hk : housesOk l = true) : ∀ i j, i < j → j < l.length → (hAt l i).1 < (hAt l j).1 := by
  intro i j hij hj
  rw [hAt, hAt, getD_eq hj, getD_eq (show i < l.length by omega)]
  exact List.pairwise_iff_getElem.1 (housesOk_iff.1 hk).2 i j (by omega) hj hij
theorem ranksHs_sorted {name : Int} {l : List House} (hk : housesOk l = true) : (ranksHs name l).Pairwise (before (scoreF name)) :=
  ranksH_sorted (sc := scoreF name) (hAt_asc hk) (by simp) (count_replicate _)
theorem ranksHs_mem {name : Int} {l : List House} {x : House} : x ∈ ranksHs name l ↔ x ∈ l := by
  have h := ranksH_all (score := sAt name l) (at' := hAt l) (count_replicate l.length)
  constructor
  · intro hx
    obtain ⟨j, g1, g2, rfl⟩ := h.1 x hx
    rw [List.length_replicate] at g1
    rw [hAt, getD_eq g1]
    exact List.getElem_mem _
  · intro hx
    obtain ⟨j, hj, rfl⟩ := List.getElem_of_mem hx
    have := h.2 j (by simpa using hj) (by rw [List.getD, List.getElem?_replicate, if_pos hj]; rfl)
    rw [hAt, getD_eq hj] at this
    exact this
theorem ranksHs_eq {name : Int} {l S : List House} (hk : housesOk l = true) (h1 : S.Pairwise (before (scoreF name))) (h2 : ∀ x, x ∈ S ↔ x ∈ l) : S = ranksHs name l :=
  sorted_unique h1 (ranksHs_sorted hk) fun x => (h2 x).trans ranksHs_mem.symm
def ranksF (name : Int) (l : List House) : List Int := bif inB name 0 99 && housesOk l then ranksS name l else []
theorem ranksF_length {name : Int} {l : List House} : (ranksF name l).length ≤ l.length := by
  unfold ranksF
  cases inB name 0 99 && housesOk l
  · simp
  · rw [cond_true, ranksS_length]; exact Nat.le_refl _
/-! loop.example/keelson/impl.ranks -/
def H121 : Hint := ⟨[], [], [], [], [.one (.own (.pair (.int .i64) (.pair (.int .i64) (.int .i64))))], []⟩
theorem eq121 (name : Int) (l : List (Int × (Int × Int))) (r : List W) (lh : Heap) : FB E H121 Try.f121 [.one (.int .i64 name), .one (.ro (.pair (.int .i64) (.pair (.int .i64) (.int .i64))) l)] [] r lh =
  (
   ∃ r0 : List (Int × (Int × Int)), SC P 107 [.one (.ro (.pair (.int .i64) (.pair (.int .i64) (.int .i64))) l)] [] [.one (.sl 0 none)] [.row (.pair (.int .i64) (.pair (.int .i64) (.int .i64))) r0 .own] ∧
    ∃ r1 : List (Int × (Int × Int)), SC P 135 [.one (.sl 0 none), .one (.fn 136 [1])] [.row (.pair (.int .i64) (.pair (.int .i64) (.int .i64))) r0 .own, .row (.int .i64) [name] .var] [] [.row (.pair (.int .i64) (.pair (.int .i64) (.int .i64))) r1 .own, .row (.int .i64) [name] .var] ∧
     Ret r lh [.one (.sl 0 none)] [.row (.pair (.int .i64) (.pair (.int .i64) (.int .i64))) r1 .own]) := by kernel_rfl
theorem c121 (name : Int) (l : List House) (hn : inB name 0 99 = true) (hk : housesOk l = true) : SC P 121 [.one (.int .i64 name), .one (.ro (.pair (.int .i64) (.pair (.int .i64) (.int .i64))) l)] [] [.one (.sl 0 none)] [.row (.pair (.int .i64) (.pair (.int .i64) (.int .i64))) (ranksHs name l) .own] := by
  have h12 := houses_length hk
  obtain ⟨S, ⟨h1, h2⟩, hS⟩ := c135 name l hn hk
  have e := ranksHs_eq hk h1 fun x => h2.mem_iff
  subst e
  refine SC_of_FB (H := H121) E_ok Try.func121 (by kernel_rfl) ?_
  rw [eq121]
  exact ⟨_, c107 l (by omega), _, hS, rfl, rfl⟩
/-! loop.example/keelson/impl.HouseRanks -/
def H83 : Hint := ⟨[[(5, 0, .bool), (21, 0, .bool), (22, 0, .bool), (23, 0, .bool)]], [], [], [], [.one (.own (.int .i64))], []⟩
def S83_L0 (x22 : Int) (x23 : Int) (h0 : List Int) (h1 : List (Int × (Int × Int))) : St := ⟨[(5, .w (.one (.sl 0 none))), (21, .w (.one (.sl 1 none))), (22, .w (.one (.int .i64 x22))), (23, .w (.one (.int .i64 x23)))], [.row (.int .i64) h0 .own, .row (.pair (.int .i64) (.pair (.int .i64) (.int .i64))) h1 .own]⟩
theorem eq83 (name : Int) (l : List (Int × (Int × Int))) (r : List W) (lh : Heap) : FB E H83 Try.f83 [.one (.int .i64 name), .one (.ro (.pair (.int .i64) (.pair (.int .i64) (.int .i64))) l)] [] r lh =
  (
   ∃ r0 : Bool, SC P 89 [.one (.int .i64 name)] [] [.one (.bool r0)] [] ∧
    Br (!r0) (
     Ret r lh [.one (.sl 0 none)] [.row (.int .i64) [] .own]) (
     ∃ r1 : Bool, SC P 35 [.one (.ro (.pair (.int .i64) (.pair (.int .i64) (.int .i64))) l)] [] [.one (.bool r1)] [] ∧
      Br (!r1) (
       Ret r lh [.one (.sl 0 none)] [.row (.int .i64) [] .own]) (
       Ck (decide ((0 : Int) ≤ ((l.length : Nat) : Int))) (
        Ck (decide (((l.length : Nat) : Int) * (8 : Nat) ≤ (roomy : Int))) (
         ∃ r2 : List (Int × (Int × Int)), SC P 121 [.one (.int .i64 name), .one (.ro (.pair (.int .i64) (.pair (.int .i64) (.int .i64))) l)] [] [.one (.sl 0 none)] [.row (.pair (.int .i64) (.pair (.int .i64) (.int .i64))) r2 .own] ∧
          FL E H83 Try.f83 0 r lh 0 (S83_L0 ((r2.length : Nat) : Int) 0 [] r2)))))) := by kernel_rfl
theorem eq83_L0 (x22 : Int) (x23 : Int) (h0 : List Int) (h1 : List (Int × (Int × Int))) (r : List W) (lh : Heap) : FL1 E H83 Try.f83 0 r lh 0 (S83_L0 x22 x23 h0 h1) =
  (
   Br (decide (x23 < x22)) (
    Ck (decide ((0 : Int) ≤ x23)) (
     Ck (decide (x23 < ((h1.length : Nat) : Int))) (
      Ck (Nat.blt x23.toNat h1.length) (
       Ck (Nat.ble ((h0.length + 1) * 8) roomy) (
        FL E H83 Try.f83 0 r lh 0 (S83_L0 x22 (IntKind.wrap .i64 (x23 + 1)) (h0 ++ [(h1.getD x23.toNat (0, (0, 0))).1]) h1)))))) (
    Ret r lh [.one (.sl 0 none)] [.row (.int .i64) h0 .own])) := by kernel_rfl
theorem l83 (rs : List House) (hl : rs.length ≤ 1048576) : ∀ (n i : Nat) (out : List Int), i + n = rs.length → out.length = i → FL E H83 Try.f83 0 [.one (.sl 0 none)] [.row (.int .i64) (out ++ mapR (fun j => (rs.getD j (0, 0, 0)).1) i n) .own] 0 (S83_L0 (rs.length : Int) (i : Int) out rs)
  | 0, i, out, h, ho => by
    refine FL_of1 ?_
    rw [eq83_L0]
    exact Br_f (by omega) ⟨rfl, by rw [mapR, List.append_nil]⟩
  | n + 1, i, out, h, ho => by
    refine FL_of1 ?_
    rw [eq83_L0, wS (by omega), mapR]
    simp only [Int.toNat_natCast]
    refine Br_t (by omega) (Ck_d (by omega) (Ck_d (by omega) (Ck_lt (by omega) (Ck_room (by omega) ?_))))
    have := l83 rs hl n (i + 1) (out ++ [(rs.getD i (0, 0, 0)).1]) (by omega) (by simp; omega)
    rw [List.append_assoc] at this
    exact this
theorem ranksHs_length {name : Int} {l : List House} : (ranksHs name l).length = l.length := by
  have := congrArg List.length (ranksHs_map name l)
  rw [List.length_map, ranksS_length] at this
  exact this
theorem c83 (name : Int) (l : List House) (hl : l.length ≤ 1048576) : SC P 83 [.one (.int .i64 name), .one (.ro (.pair (.int .i64) (.pair (.int .i64) (.int .i64))) l)] [] [.one (.sl 0 none)] [.row (.int .i64) (ranksF name l) .own] := by
  refine SC_of_FB (H := H83) E_ok Try.func83 (by kernel_rfl) ?_
  rw [eq83]
  refine ⟨_, c89 name, Br_nb (fun e => ⟨rfl, by rw [ranksF, e]; rfl⟩) (fun e => ⟨_, c35 l hl, Br_nb (fun e' => ⟨rfl, by rw [ranksF, e', Bool.and_false]; rfl⟩) (fun e' => Ck_d (by omega) (Ck_roomI (by omega) ⟨_, c121 name l e e', ?_⟩))⟩)⟩
  have := l83 (ranksHs name l) (by rw [ranksHs_length]; exact hl) (ranksHs name l).length 0 [] (by omega) rfl
  rw [mapR_map (l := ranksHs name l) (z := (0, 0, 0)) (fun h : House => h.1), List.nil_append] at this
  rw [ranksF, e, e']
  have e2 := ranksHs_map name l
  rw [← e2]
  exact this
/-! loop.example/keelson/spec.HouseRanks -/
def H84 : Hint := ⟨[], [], [], [], [], []⟩
theorem eq84 (name : Int) (l : List (Int × (Int × Int))) (r : List W) (lh : Heap) : FB E H84 Try.f84 [.one (.int .i64 name), .one (.ro (.pair (.int .i64) (.pair (.int .i64) (.int .i64))) l)] [] r lh =
  (
   ∃ r0 : Bool, SC P 85 [.one (.int .i64 name), .one (.int .i64 0), .one (.int .i64 99)] [] [.one (.bool r0)] [] ∧
    Br (!r0) (
     Ret r lh [.one (.sl 0 none)] [.row (.int .i64) [] .own]) (
     ∃ r1 : Bool, SC P 36 [.one (.ro (.pair (.int .i64) (.pair (.int .i64) (.int .i64))) l)] [] [.one (.bool r1)] [] ∧
      Br (!r1) (
       Ret r lh [.one (.sl 0 none)] [.row (.int .i64) [] .own]) (
       ∃ r2 : List Int, SC P 122 [.one (.int .i64 name), .one (.ro (.pair (.int .i64) (.pair (.int .i64) (.int .i64))) l)] [] [.one (.sl 0 none)] [.row (.int .i64) r2 .own] ∧
        Ret r lh [.one (.sl 0 none)] [.row (.int .i64) r2 .own]))) := by kernel_rfl
theorem c84 (name : Int) (l : List House) (hl : l.length ≤ 1048576) : SC P 84 [.one (.int .i64 name), .one (.ro (.pair (.int .i64) (.pair (.int .i64) (.int .i64))) l)] [] [.one (.sl 0 none)] [.row (.int .i64) (ranksF name l) .own] := by
  refine SC_of_FB (H := H84) E_ok Try.func84 (by kernel_rfl) ?_
  rw [eq84]
  exact ⟨_, c85 _ _ _, Br_nb (fun e => ⟨rfl, by rw [ranksF, e]; rfl⟩) (fun e => ⟨_, c36 l hl, Br_nb (fun e' => ⟨rfl, by rw [ranksF, e', Bool.and_false]; rfl⟩) (fun e' => ⟨_, c122 name l e (housesOk_iff.1 e').1 hl, rfl, by rw [ranksF, e, e']; rfl⟩)⟩)⟩
/-! loop.example/keelson/spec.DrawHouseRanks -/
def H82 : Hint := ⟨[], [], [], [], [], []⟩
theorem eq82 (code : List Int) (r : List W) (lh : Heap) : FB E H82 Try.f82 [.one (.ro (.int .u8) code)] [] r lh =
  (
   ∃ r0 : (List Int × Int), SC P 92 [.one (.ro (.int .u8) code)] [] [.one (.ptr 0 0 0)] [.box [.ro (.int .u8) r0.1, .int .i64 r0.2]] ∧
    ∃ r1 : List Int × Int × Int, SC P 93 [.one (.ptr 0 0 0), .one (.int .i64 100)] [.box [.ro (.int .u8) r0.1, .int .i64 r0.2]] [.one (.int .i64 r1.2.2)] [.box [.ro (.int .u8) r1.1, .int .i64 r1.2.1]] ∧
     ∃ r2 : List Int × Int × List (Int × (Int × Int)), SC P 94 [.one (.ptr 0 0 0)] [.box [.ro (.int .u8) r1.1, .int .i64 r1.2.1]] [.one (.sl 1 none)] [.box [.ro (.int .u8) r2.1, .int .i64 r2.2.1], .row (.pair (.int .i64) (.pair (.int .i64) (.int .i64))) r2.2.2 .own] ∧
      Ret r lh [.one (.int .i64 r1.2.2), .one (.sl 0 none)] [.row (.pair (.int .i64) (.pair (.int .i64) (.int .i64))) r2.2.2 .own]) := by kernel_rfl
theorem c82 (code : List Int) (hc : Bytes code) : ∃ (name : Int) (l : List House), (inB name 0 99 = true ∧ l.length ≤ 13) ∧ SC P 82 [.one (.ro (.int .u8) code)] [] [.one (.int .i64 name), .one (.sl 0 none)] [.row (.pair (.int .i64) (.pair (.int .i64) (.int .i64))) l .own] := by
  obtain ⟨b, hb, s0⟩ := c92 code hc
  obtain ⟨v2, a2, b2, s2⟩ := c93 b 0 100 hb (by omega) (by omega) (by omega)
  obtain ⟨l, p, hl, p0, p1, s1⟩ := c94 b (0 + 1) hb (by omega) (by omega)
  refine ⟨v2, l, ⟨inB_iff.2 ⟨a2, by omega⟩, hl⟩, ?_⟩
  refine SC_of_FB (H := H82) E_ok Try.func82 (by kernel_rfl) ?_
  rw [eq82]
  exact ⟨(b, 0), s0, (b, 0 + 1, v2), s2, (b, p, l), s1, rfl, rfl⟩
/-! loop.example/keelson/laws.FnExactHouseRanks -/
def H25 : Hint := ⟨[], [], [], [], [], []⟩
theorem eq25 (aName : Int) (aL : List (Int × (Int × Int))) (r : List W) (lh : Heap) : FB E H25 Try.f25 [.one (.int .i64 aName), .one (.ro (.pair (.int .i64) (.pair (.int .i64) (.int .i64))) aL)] [] r lh =
  (
   ∃ r0 : Int, SC P 37 [.one (.ro (.pair (.int .i64) (.pair (.int .i64) (.int .i64))) aL), .one (.int .i64 1048576)] [] [.one (.int .i64 r0)] [] ∧
    Br (decide (r0 < (0 : Int))) (
     Ret r lh [.one (.bool true)] []) (
     ∃ r1 : List (Int × (Int × Int)), SC P 38 [.one (.ro (.pair (.int .i64) (.pair (.int .i64) (.int .i64))) aL)] [] [.one (.sl 0 none)] [.row (.pair (.int .i64) (.pair (.int .i64) (.int .i64))) r1 .own] ∧
      ∃ r2 : List Int, SC P 84 [.one (.int .i64 aName), .one (.ro (.pair (.int .i64) (.pair (.int .i64) (.int .i64))) r1)] [] [.one (.sl 0 none)] [.row (.int .i64) r2 .own] ∧
       ∃ r3 : List (Int × (Int × Int)), SC P 38 [.one (.ro (.pair (.int .i64) (.pair (.int .i64) (.int .i64))) aL)] [] [.one (.sl 0 none)] [.row (.pair (.int .i64) (.pair (.int .i64) (.int .i64))) r3 .own] ∧
        ∃ r4 : List Int, SC P 83 [.one (.int .i64 aName), .one (.ro (.pair (.int .i64) (.pair (.int .i64) (.int .i64))) r3)] [] [.one (.sl 0 none)] [.row (.int .i64) r4 .own] ∧
         ∃ r5 : Bool, SC P 52 [.one (.ro (.int .i64) r4), .one (.ro (.int .i64) r2)] [] [.one (.bool r5)] [] ∧
          Br (!r5) (
           Ret r lh [.one (.bool false)] []) (
           ∃ r6 : List (Int × (Int × Int)), SC P 38 [.one (.ro (.pair (.int .i64) (.pair (.int .i64) (.int .i64))) aL)] [] [.one (.sl 0 none)] [.row (.pair (.int .i64) (.pair (.int .i64) (.int .i64))) r6 .own] ∧
            ∃ r7 : Bool, SC P 39 [.one (.ro (.pair (.int .i64) (.pair (.int .i64) (.int .i64))) r3), .one (.ro (.pair (.int .i64) (.pair (.int .i64) (.int .i64))) r6)] [] [.one (.bool r7)] [] ∧
             Br (!r7) (
              Ret r lh [.one (.bool false)] []) (
              ∃ r8 : List (Int × (Int × Int)) × Int, SC P 66 [.one (.sl 0 none), .one (.int .i64 1)] [.row (.pair (.int .i64) (.pair (.int .i64) (.int .i64))) r3 .own] [.one (.int .i64 r8.2)] [.row (.pair (.int .i64) (.pair (.int .i64) (.int .i64))) r8.1 .own] ∧
               Br (decide (r8.2 < (0 : Int))) (
                Ret r lh [.one (.bool false)] []) (
                ∃ r9 : Bool, SC P 52 [.one (.ro (.int .i64) r4), .one (.ro (.int .i64) r2)] [] [.one (.bool r9)] [] ∧
                 Br (!r9) (
                  Ret r lh [.one (.bool false)] []) (
                  ∃ r10 : List Int × Int, SC P 53 [.one (.sl 0 none), .one (.int .i64 1)] [.row (.int .i64) r4 .own] [.one (.int .i64 r10.2)] [.row (.int .i64) r10.1 .own] ∧
                   ∃ r11 : Int, SC P 65 [.one (.ro (.int .i64) r10.1), .one (.int .i64 1)] [] [.one (.int .i64 r11)] [] ∧
                    Br (decide (r11 < (0 : Int))) (
                     Ret r lh [.one (.bool false)] []) (
                     Br (!(decide (r11 = r10.2))) (
                      Ret r lh [.one (.bool false)] []) (
                      ∃ r12 : List (Int × (Int × Int)), SC P 38 [.one (.ro (.pair (.int .i64) (.pair (.int .i64) (.int .i64))) aL)] [] [.one (.sl 0 none)] [.row (.pair (.int .i64) (.pair (.int .i64) (.int .i64))) r12 .own] ∧
                       ∃ r13 : List Int, SC P 83 [.one (.int .i64 aName), .one (.ro (.pair (.int .i64) (.pair (.int .i64) (.int .i64))) r12)] [] [.one (.sl 0 none)] [.row (.int .i64) r13 .own] ∧
                        ∃ r14 : Bool, SC P 52 [.one (.ro (.int .i64) r13), .one (.ro (.int .i64) r2)] [] [.one (.bool r14)] [] ∧
                         Br (!r14) (
                          Ret r lh [.one (.bool false)] []) (
                          ∃ r15 : Int, SC P 65 [.one (.ro (.int .i64) r10.1), .one (.int .i64 1)] [] [.one (.int .i64 r15)] [] ∧
                           Br (decide (r15 < (0 : Int))) (
                            Ret r lh [.one (.bool false)] []) (
                            Br (!(decide (r15 = r10.2))) (
                             Ret r lh [.one (.bool false)] []) (
                             Ret r lh [.one (.bool true)] []))))))))))) := by kernel_rfl
theorem c25 (name : Int) (l : List House) (hl : l.length ≤ 9223372036854775807) : SC P 25 [.one (.int .i64 name), .one (.ro (.pair (.int .i64) (.pair (.int .i64) (.int .i64))) l)] [] [.one (.bool true)] [] := by
  refine SC_of_FB (H := H25) E_ok Try.func25 (by kernel_rfl) ?_
  rw [eq25]
  refine ⟨_, c37 l hl, ?_⟩
  by_cases h : l.length ≤ 1048576
  · rw [decide_eq_true h, cond_true]
    have hr : (ranksF name l).length ≤ 1048576 := Nat.le_trans ranksF_length h
    refine Br_f (by omega) ⟨_, c38 l h, _, c84 name l h, _, c38 l h, _, c83 name l h, _, c52 _ _ hr, Br_nb (fun e => by simp at e) (fun _ => ⟨_, c38 l h, _, c39 _ _ h, Br_nb (fun e => by simp at e) (fun _ => 
      ⟨(_, _), c66 l 1 h (by omega) (by omega), Br_f (by dsimp only; omega) ⟨_, c52 _ _ hr, Br_nb (fun e => by simp at e) (fun _ => ⟨(_, _), c53 (ranksF name l) 1 hr (by omega) (by omega), _, c65 1 _ hr (by omega) (by omega), Br_f (by omega) (Br_nd (fun e => absurd rfl e) (fun _ =>
      ⟨_, c38 l h, _, c83 name l h, _, c52 _ _ hr, Br_nb (fun e => by simp at e) (fun _ => ⟨_, c65 1 _ hr (by omega) (by omega), Br_f (by omega) (Br_nd (fun e => absurd rfl e) (fun _ => ⟨rfl, rfl⟩))⟩)⟩))⟩)⟩⟩)⟩)⟩
  · rw [decide_eq_false h, cond_false]
    exact Br_t (by omega) ⟨rfl, rfl⟩
/-! loop.example/keelson/laws.FnRanksLess -/
def H26 : Hint := ⟨[[(5, 0, .bool), (6, 0, .bool), (7, 0, .bool), (8, 0, .bool), (9, 0, .bool), (10, 0, .bool)]], [], [], [], [], []⟩
def S26_L0 (name5 : Int) (id8 : Int) (i10 : Int) (h0 : List (Int × (Int × Int))) (h1 : List Int) (h2 : List Int) : St := ⟨[(5, .w (.one (.int .i64 name5))), (6, .w (.one (.sl 0 none))), (7, .w (.one (.sl 1 none))), (8, .w (.one (.int .i64 id8))), (9, .w (.one (.sl 2 none))), (10, .w (.one (.int .i64 i10)))], [.row (.pair (.int .i64) (.pair (.int .i64) (.int .i64))) h0 .own, .row (.int .i64) h1 .own, .row (.int .i64) h2 .own]⟩
theorem eq26 (code : List Int) (more : List Int) (r : List W) (lh : Heap) : FB E H26 Try.f26 [.one (.ro (.int .u8) code), .one (.ro (.int .u8) more)] [] r lh =
  (
   Br (decide ((1048576 : Int) < ((code.length : Nat) : Int))) (
    Ret r lh [.one (.bool true)] []) (
    Br (decide ((1048576 : Int) < ((more.length : Nat) : Int))) (
     Ret r lh [.one (.bool true)] []) (
     ∃ r0 : Int × List (Int × (Int × Int)), SC P 82 [.one (.ro (.int .u8) code)] [] [.one (.int .i64 r0.1), .one (.sl 0 none)] [.row (.pair (.int .i64) (.pair (.int .i64) (.int .i64))) r0.2 .own] ∧
      ∃ r1 : List Int, SC P 83 [.one (.int .i64 r0.1), .one (.ro (.pair (.int .i64) (.pair (.int .i64) (.int .i64))) r0.2)] [] [.one (.sl 0 none)] [.row (.int .i64) r1 .own] ∧
       ∃ r2 : List Int, SC P 84 [.one (.int .i64 r0.1), .one (.ro (.pair (.int .i64) (.pair (.int .i64) (.int .i64))) r0.2)] [] [.one (.sl 0 none)] [.row (.int .i64) r2 .own] ∧
        ∃ r3 : Bool, SC P 74 [.one (.ro (.int .i64) r1), .one (.ro (.int .i64) r2)] [] [.one (.bool r3)] [] ∧
         Br (!r3) (
          ∃ r4 : List Int, SC P 84 [.one (.int .i64 r0.1), .one (.ro (.pair (.int .i64) (.pair (.int .i64) (.int .i64))) r0.2)] [] [.one (.sl 0 none)] [.row (.int .i64) r4 .own] ∧
           ∃ r5 : Bool, SC P 74 [.one (.ro (.int .i64) r1), .one (.ro (.int .i64) r4)] [] [.one (.bool r5)] [] ∧
            Ret r lh [.one (.bool r5)] []) (
          ∃ r6 : Bool, SC P 36 [.one (.ro (.pair (.int .i64) (.pair (.int .i64) (.int .i64))) r0.2)] [] [.one (.bool r6)] [] ∧
           Br (!r6) (
            ∃ r7 : List Int, SC P 84 [.one (.int .i64 r0.1), .one (.ro (.pair (.int .i64) (.pair (.int .i64) (.int .i64))) r0.2)] [] [.one (.sl 0 none)] [.row (.int .i64) r7 .own] ∧
             ∃ r8 : Bool, SC P 74 [.one (.ro (.int .i64) r1), .one (.ro (.int .i64) r7)] [] [.one (.bool r8)] [] ∧
              Ret r lh [.one (.bool r8)] []) (
            Br (decide (((r0.2.length : Nat) : Int) = (0 : Int))) (
             ∃ r9 : List Int, SC P 84 [.one (.int .i64 r0.1), .one (.ro (.pair (.int .i64) (.pair (.int .i64) (.int .i64))) r0.2)] [] [.one (.sl 0 none)] [.row (.int .i64) r9 .own] ∧
              ∃ r10 : Bool, SC P 74 [.one (.ro (.int .i64) r1), .one (.ro (.int .i64) r9)] [] [.one (.bool r10)] [] ∧
               Ret r lh [.one (.bool r10)] []) (
             Ck (!decide (((r0.2.length : Nat) : Int) = 0)) (
              Ck (decide ((0 : Int) ≤ (Int.tmod ((more.length : Nat) : Int) ((r0.2.length : Nat) : Int)))) (
               Ck (decide ((Int.tmod ((more.length : Nat) : Int) ((r0.2.length : Nat) : Int)) < ((r0.2.length : Nat) : Int))) (
                Ck (Nat.blt ((Int.tmod ((more.length : Nat) : Int) ((r0.2.length : Nat) : Int)).toNat) r0.2.length) (
                 FL E H26 Try.f26 0 r lh 0 (S26_L0 r0.1 ((r0.2.getD (Int.tmod ((more.length : Nat) : Int) ((r0.2.length : Nat) : Int)).toNat (0, (0, 0))).1) 0 r0.2 r1 []))))))))))) := by kernel_rfl
theorem eq26_L0 (name5 : Int) (id8 : Int) (i10 : Int) (h0 : List (Int × (Int × Int))) (h1 : List Int) (h2 : List Int) (r : List W) (lh : Heap) : FL1 E H26 Try.f26 0 r lh 0 (S26_L0 name5 id8 i10 h0 h1 h2) =
  (
   Br (decide (i10 < ((h1.length : Nat) : Int))) (
    Ck (decide ((0 : Int) ≤ i10)) (
     Ck (decide (i10 < ((h1.length : Nat) : Int))) (
      Ck (Nat.ble (i10.toNat + 1) h1.length) (
       Br (!(decide ((h1.getD i10.toNat 0) = id8))) (
        Ck (decide ((0 : Int) ≤ i10)) (
         Ck (decide (i10 < ((h1.length : Nat) : Int))) (
          Ck (Nat.ble (i10.toNat + 1) h1.length) (
           Ck (Nat.ble ((h2.length + 1) * 8) roomy) (
            FL E H26 Try.f26 0 r lh 0 (S26_L0 name5 id8 (IntKind.wrap .i64 (i10 + 1)) h0 h1 (h2 ++ [(h1.getD i10.toNat 0)]))))))) (
        FL E H26 Try.f26 0 r lh 0 (S26_L0 name5 id8 (IntKind.wrap .i64 (i10 + 1)) h0 h1 h2)))))) (
    ∃ r0 : List (Int × (Int × Int)), SC P 59 [.one (.ro (.pair (.int .i64) (.pair (.int .i64) (.int .i64))) h0), .one (.int .i64 id8)] [] [.one (.sl 0 none)] [.row (.pair (.int .i64) (.pair (.int .i64) (.int .i64))) r0 .own] ∧
     ∃ r1 : List Int, SC P 83 [.one (.int .i64 name5), .one (.ro (.pair (.int .i64) (.pair (.int .i64) (.int .i64))) r0)] [] [.one (.sl 0 none)] [.row (.int .i64) r1 .own] ∧
      ∃ r2 : Bool, SC P 74 [.one (.ro (.int .i64) r1), .one (.ro (.int .i64) h2)] [] [.one (.bool r2)] [] ∧
       Ret r lh [.one (.bool r2)] [])) := by kernel_rfl
theorem ranks_less {name : Int} {l : List House} (id : Int) (hk : housesOk l = true) : (ranksS name l).filter (fun x => !decide (x = id)) = ranksS name (housesLess l id) := by
  rw [← ranksHs_map, ← ranksHs_map, List.filter_map]
  congr 1
  refine ranksHs_eq (housesOk_less id hk) ((ranksHs_sorted hk).filter _) fun x => ?_
  rw [List.mem_filter, ranksHs_mem, housesLess, List.mem_filter]
  rfl
theorem l26 (name id : Int) (l : List House) (hn : inB name 0 99 = true) (hk : housesOk l = true) (hl : l.length ≤ 1048576) : ∀ (n i : Nat) (out : List Int), i + n = (ranksS name l).length → out.length ≤ i → out ++ filterR (fun j => !decide ((ranksS name l).getD j 0 = id)) (fun j => (ranksS name l).getD j 0) i n = ranksS name (housesLess l id) →
    FL E H26 Try.f26 0 [.one (.bool true)] [] 0 (S26_L0 name id (i : Int) l (ranksS name l) out)
  | 0, i, out, h, ho, he => by
    have hle : (housesLess l id).length ≤ 1048576 := Nat.le_trans (List.length_filter_le _ _) hl
    have e1 : housesLessF l id = housesLess l id := by rw [housesLessF, hk]; rfl
    have e2 : ranksF name (housesLess l id) = ranksS name (housesLess l id) := by rw [ranksF, hn, housesOk_less id hk]; rfl
    rw [filterR, List.append_nil] at he
    have s1 := c59 l id hl
    rw [e1] at s1
    have s2 := c83 name (housesLess l id) hle
    rw [e2] at s2
    refine FL_of1 ?_
    rw [eq26_L0]
    exact Br_f (by omega) ⟨_, s1, _, s2, _, c74 _ _ (by rw [ranksS_length]; exact hle), by rw [he]; simp, rfl⟩
  | n + 1, i, out, h, ho, he => by
    rw [ranksS_length] at h
    rw [filterR] at he
    refine FL_of1 ?_
    rw [eq26_L0, wS (by omega), ranksS_length]
    simp only [Int.toNat_natCast]
    refine Br_t (by omega) (Ck_d (by omega) (Ck_d (by omega) (Ck_le (by omega) (Br_nd (fun c => ?_) (fun c => ?_)))))
    · rw [decide_eq_false c] at he
      refine Ck_d (by omega) (Ck_d (by omega) (Ck_le (by omega) (Ck_room (by omega) ?_)))
      exact l26 name id l hn hk hl n (i + 1) _ (by rw [ranksS_length]; omega) (by simp; omega) (by rw [List.append_assoc]; exact he)
    · rw [decide_eq_true c] at he
      exact l26 name id l hn hk hl n (i + 1) out (by rw [ranksS_length]; omega) (by omega) he
theorem c26 (code more : List Int) (hc : Bytes code) : SC P 26 [.one (.ro (.int .u8) code), .one (.ro (.int .u8) more)] [] [.one (.bool true)] [] := by
  refine SC_of_FB (H := H26) E_ok Try.func26 (by kernel_rfl) ?_
  rw [eq26]
  refine Br_d (fun _ => ⟨rfl, rfl⟩) (fun _ => Br_d (fun _ => ⟨rfl, rfl⟩) (fun _ => ?_))
  obtain ⟨name, l, ⟨hn, hl⟩, s0⟩ := c82 code hc
  have hl' : l.length ≤ 1048576 := by omega
  have hr : (ranksF name l).length ≤ 1048576 := Nat.le_trans ranksF_length hl'
  refine ⟨(name, l), s0, _, c83 name l hl', _, c84 name l hl', _, c74 _ _ hr, Br_nb (fun e => by simp at e) (fun _ => ⟨_, c36 l hl', Br_nb (fun _ => ⟨_, c84 name l hl', _, c74 _ _ hr, by simp, rfl⟩) (fun hk => Br_d (fun _ => ⟨_, c84 name l hl', _, c74 _ _ hr, by simp, rfl⟩) (fun hne => ?_))⟩)⟩
  dsimp only at hne ⊢
  have hpos : (0 : Int) < l.length := by omega
  have t1 := Int.tmod_nonneg (l.length : Int) (show (0 : Int) ≤ ((more.length : Nat) : Int) by omega)
  have t2 := Int.tmod_lt_of_pos ((more.length : Nat) : Int) hpos
  refine Ck_n (by omega) (Ck_d t1 (Ck_d t2 (Ck_lt (by omega) ?_)))
  rw [show ranksF name l = ranksS name l by rw [ranksF, hn, hk]; rfl]
  refine l26 name _ l hn hk hl' (ranksS name l).length 0 [] (by omega) (by simp) ?_
  rw [filterR_filter (l := ranksS name l) (z := 0) (fun x => !decide (x = (l.getD (Int.tmod ((more.length : Nat) : Int) ((l.length : Nat) : Int)).toNat (0, 0, 0)).1)), List.nil_append]
  exact ranks_less _ hk
/-! loop.example/keelson/laws.FnRanks -/
def H24 : Hint := ⟨[[(3, 0, .bool), (4, 0, .bool), (5, 0, .bool), (6, 0, .bool), (7, 0, .bool)], [(3, 0, .bool), (4, 0, .bool), (5, 0, .bool), (6, 0, .bool), (7, 0, .bool), (8, 0, .bool), (9, 0, .bool)]], [], [(15, [0, 1, 2, 3, 4, 5, 6, 7, 8, 9]), (17, [0, 1, 2, 3, 4, 5, 6, 7, 8, 9, 10, 11, 12, 13, 14, 15, 16, 17, 18, 19, 20, 21, 22, 23, 24, 25, 26, 27])], [], [], []⟩
def S24_L0 (name3 : Int) (last6 : Int) (i7 : Int) (h0 : List (Int × (Int × Int))) (h1 : List Int) : St := ⟨[(3, .w (.one (.int .i64 name3))), (4, .w (.one (.sl 0 none))), (5, .w (.one (.sl 1 none))), (6, .w (.one (.int .i64 last6))), (7, .w (.one (.int .i64 i7)))], [.row (.pair (.int .i64) (.pair (.int .i64) (.int .i64))) h0 .own, .row (.int .i64) h1 .own]⟩
def S24_L1 (name3 : Int) (last6 : Int) (i7 : Int) (score8 : Int) (k9 : Int) (h0 : List (Int × (Int × Int))) (h1 : List Int) : St := ⟨[(3, .w (.one (.int .i64 name3))), (4, .w (.one (.sl 0 none))), (5, .w (.one (.sl 1 none))), (6, .w (.one (.int .i64 last6))), (7, .w (.one (.int .i64 i7))), (8, .w (.one (.int .i64 score8))), (9, .w (.one (.int .i64 k9)))], [.row (.pair (.int .i64) (.pair (.int .i64) (.int .i64))) h0 .own, .row (.int .i64) h1 .own]⟩
theorem eq24 (code : List Int) (r : List W) (lh : Heap) : FB E H24 Try.f24 [.one (.ro (.int .u8) code)] [] r lh =
  (
   Br (decide ((1048576 : Int) < ((code.length : Nat) : Int))) (
    Ret r lh [.one (.bool true)] []) (
    ∃ r0 : Int × List (Int × (Int × Int)), SC P 82 [.one (.ro (.int .u8) code)] [] [.one (.int .i64 r0.1), .one (.sl 0 none)] [.row (.pair (.int .i64) (.pair (.int .i64) (.int .i64))) r0.2 .own] ∧
     ∃ r1 : List Int, SC P 83 [.one (.int .i64 r0.1), .one (.ro (.pair (.int .i64) (.pair (.int .i64) (.int .i64))) r0.2)] [] [.one (.sl 0 none)] [.row (.int .i64) r1 .own] ∧
      ∃ r2 : List Int, SC P 84 [.one (.int .i64 r0.1), .one (.ro (.pair (.int .i64) (.pair (.int .i64) (.int .i64))) r0.2)] [] [.one (.sl 0 none)] [.row (.int .i64) r2 .own] ∧
       ∃ r3 : Bool, SC P 74 [.one (.ro (.int .i64) r1), .one (.ro (.int .i64) r2)] [] [.one (.bool r3)] [] ∧
        Br (!r3) (
         ∃ r4 : List Int, SC P 84 [.one (.int .i64 r0.1), .one (.ro (.pair (.int .i64) (.pair (.int .i64) (.int .i64))) r0.2)] [] [.one (.sl 0 none)] [.row (.int .i64) r4 .own] ∧
          ∃ r5 : Bool, SC P 74 [.one (.ro (.int .i64) r1), .one (.ro (.int .i64) r4)] [] [.one (.bool r5)] [] ∧
           Ret r lh [.one (.bool r5)] []) (
         ∃ r6 : Bool, SC P 36 [.one (.ro (.pair (.int .i64) (.pair (.int .i64) (.int .i64))) r0.2)] [] [.one (.bool r6)] [] ∧
          Br (!r6) (
           ∃ r7 : List Int, SC P 84 [.one (.int .i64 r0.1), .one (.ro (.pair (.int .i64) (.pair (.int .i64) (.int .i64))) r0.2)] [] [.one (.sl 0 none)] [.row (.int .i64) r7 .own] ∧
            ∃ r8 : Bool, SC P 74 [.one (.ro (.int .i64) r1), .one (.ro (.int .i64) r7)] [] [.one (.bool r8)] [] ∧
             Ret r lh [.one (.bool r8)] []) (
           FL E H24 Try.f24 0 r lh 0 (S24_L0 r0.1 (-1) 0 r0.2 r1))))) := by kernel_rfl
theorem eq24_L0 (name3 : Int) (last6 : Int) (i7 : Int) (h0 : List (Int × (Int × Int))) (h1 : List Int) (r : List W) (lh : Heap) : FL1 E H24 Try.f24 0 r lh 0 (S24_L0 name3 last6 i7 h0 h1) =
  (
   Br (decide (i7 < ((h1.length : Nat) : Int))) (
    FL E H24 Try.f24 0 r lh 1 (S24_L1 name3 last6 i7 (-1) 0 h0 h1)) (
    Ret r lh [.one (.bool (decide (((h1.length : Nat) : Int) = ((h0.length : Nat) : Int))))] [])) := by kernel_rfl
theorem eq24_L1 (name3 : Int) (last6 : Int) (i7 : Int) (score8 : Int) (k9 : Int) (h0 : List (Int × (Int × Int))) (h1 : List Int) (r : List W) (lh : Heap) : FL1 E H24 Try.f24 0 r lh 1 (S24_L1 name3 last6 i7 score8 k9 h0 h1) =
  (
   Br (decide (k9 < ((h0.length : Nat) : Int))) (
    Ck (decide ((0 : Int) ≤ k9)) (
     Ck (decide (k9 < ((h0.length : Nat) : Int))) (
      Ck (Nat.blt k9.toNat h0.length) (
       Ck (decide ((0 : Int) ≤ i7)) (
        Ck (decide (i7 < ((h1.length : Nat) : Int))) (
         Ck (Nat.ble (i7.toNat + 1) h1.length) (
          Br (decide ((h0.getD k9.toNat (0, (0, 0))).1 = (h1.getD i7.toNat 0))) (
           Ck (decide ((0 : Int) ≤ k9)) (
            Ck (decide (k9 < ((h0.length : Nat) : Int))) (
             Ck (Nat.blt k9.toNat h0.length) (
              ∃ r0 : Int, SC P 32 [.one (.int .i64 name3), .agg [.int .i64 ((h0.getD k9.toNat (0, (0, 0))).1), .int .i64 (((h0.getD k9.toNat (0, (0, 0))).2).1), .int .i64 (((h0.getD k9.toNat (0, (0, 0))).2).2)]] [] [.one (.int .i64 r0)] [] ∧
               FL E H24 Try.f24 0 r lh 1 (S24_L1 name3 last6 i7 r0 (IntKind.wrap .i64 (k9 + 1)) h0 h1))))) (
           FL E H24 Try.f24 0 r lh 1 (S24_L1 name3 last6 i7 score8 (IntKind.wrap .i64 (k9 + 1)) h0 h1))))))))) (
    Br (decide (score8 < (0 : Int))) (
     Ret r lh [.one (.bool false)] []) (
     Br (decide ((0 : Int) < i7)) (
      Br (decide (last6 < score8)) (
       Ret r lh [.one (.bool false)] []) (
       Br (decide (score8 = last6)) (
        Ck (decide ((0 : Int) ≤ (IntKind.wrap .i64 (i7 - 1)))) (
         Ck (decide ((IntKind.wrap .i64 (i7 - 1)) < ((h1.length : Nat) : Int))) (
          Ck (Nat.ble ((IntKind.wrap .i64 (i7 - 1)).toNat + 1) h1.length) (
           Ck (decide ((0 : Int) ≤ i7)) (
            Ck (decide (i7 < ((h1.length : Nat) : Int))) (
             Ck (Nat.ble (i7.toNat + 1) h1.length) (
              Br (decide ((h1.getD i7.toNat 0) ≤ (h1.getD (IntKind.wrap .i64 (i7 - 1)).toNat 0))) (
               Ret r lh [.one (.bool false)] []) (
               FL E H24 Try.f24 0 r lh 0 (S24_L0 name3 score8 (IntKind.wrap .i64 (i7 + 1)) h0 h1))))))))) (
        FL E H24 Try.f24 0 r lh 0 (S24_L0 name3 score8 (IntKind.wrap .i64 (i7 + 1)) h0 h1)))) (
      FL E H24 Try.f24 0 r lh 0 (S24_L0 name3 score8 (IntKind.wrap .i64 (i7 + 1)) h0 h1))))) := by kernel_rfl
theorem l24_1 (name last : Int) (l : List House) (rs : List Int) (i : Nat) (hn : inB name 0 99 = true) (hk : housesOk l = true) (hl : l.length ≤ 1048576) (hi : i < rs.length) (hrl : rs.length ≤ 1048576) (x : House) (hx : x ∈ l) (hxi : rs.getD i 0 = x.1)
    (H : FL E H24 Try.f24 0 [.one (.bool true)] [] 0 (S24_L0 name (scoreF name x) ((i + 1 : Nat) : Int) l rs))
    (h1 : 0 < i → scoreF name x ≤ last) (h2 : 0 < i → scoreF name x = last → rs.getD (i - 1) 0 < rs.getD i 0) : ∀ (n k : Nat) (s : Int), k + n = l.length → ((∃ q, ∃ h : q < l.length, q < k ∧ l[q] = x) → s = scoreF name x) →
    FL E H24 Try.f24 0 [.one (.bool true)] [] 1 (S24_L1 name last (i : Int) s (k : Int) l rs)
  | 0, k, s, h, hs => by
    have hok := housesOk_iff.1 hk
    obtain ⟨q, hq, e⟩ := List.getElem_of_mem hx
    have hs := hs ⟨q, hq, by omega, e⟩
    subst hs
    have hpos := (scoreF_nonneg (name := name) (hok.1 x hx)).1
    refine FL_of1 ?_
    rw [eq24_L1, wS (i := i) (by omega)]
    simp only [Int.toNat_natCast]
    refine Br_f (by omega) (Br_f (by omega) (Br_d (fun c => ?_) (fun _ => H)))
    obtain ⟨i, rfl⟩ : ∃ q, i = q + 1 := ⟨i - 1, by omega⟩
    have h1 := h1 (by omega)
    have h2 := h2 (by omega)
    rw [Nat.add_sub_cancel] at h2
    rw [wP (by omega)]
    simp only [Int.toNat_natCast]
    refine Br_f (by omega) (Br_d (fun c2 => ?_) (fun _ => H))
    have h2 := h2 c2
    exact Ck_d (by omega) (Ck_d (by omega) (Ck_le (by omega) (Ck_d (by omega) (Ck_d (by omega) (Ck_le (by omega) (Br_f (by omega) H))))))
  | n + 1, k, s, h, hs => by
    have hok := housesOk_iff.1 hk
    have hkl : k < l.length := by omega
    refine FL_of1 ?_
    rw [eq24_L1, wS (i := k) (by omega)]
    simp only [Int.toNat_natCast]
    refine Br_t (by omega) (Ck_d (by omega) (Ck_d (by omega) (Ck_lt (by omega) (Ck_d (by omega) (Ck_d (by omega) (Ck_le (by omega) (Br_d (fun c => ?_) (fun c => ?_))))))))
    · rw [getD_eq hkl, hxi] at c
      have e : l[k] = x := asc_inj hok.2 (List.getElem_mem _) hx c
      have ehs : houseScore name x = scoreF name x := by rw [houseScore, hn, hok.1 x hx]; rfl
      refine Ck_d (by omega) (Ck_d (by omega) (Ck_lt (by omega) ⟨_, c32 name (l.getD k (0, 0, 0)), ?_⟩))
      rw [getD_eq hkl, e, ehs]
      exact l24_1 name last l rs i hn hk hl hi hrl x hx hxi H h1 h2 n (k + 1) _ (by omega) (fun _ => rfl)
    · refine l24_1 name last l rs i hn hk hl hi hrl x hx hxi H h1 h2 n (k + 1) s (by omega) (fun ⟨q, hq, hqk, e⟩ => ?_)
      rcases Nat.lt_succ_iff_lt_or_eq.1 hqk with g | rfl
      · exact hs ⟨q, hq, g, e⟩
      · rw [getD_eq hkl, hxi, e] at c; exact absurd rfl c
theorem l24 (name : Int) (l : List House) (hn : inB name 0 99 = true) (hk : housesOk l = true) (hl : l.length ≤ 1048576) : ∀ (n i : Nat) (last : Int), i + n = (ranksHs name l).length → (0 < i → last = scoreF name ((ranksHs name l).getD (i - 1) (0, 0, 0))) →
    FL E H24 Try.f24 0 [.one (.bool true)] [] 0 (S24_L0 name last (i : Int) l (ranksS name l))
  | 0, i, last, h, hlast => by
    rw [ranksHs_length] at h
    refine FL_of1 ?_
    rw [eq24_L0, ranksS_length]
    exact Br_f (by omega) ⟨by simp, rfl⟩
  | n + 1, i, last, h, hlast => by
    have hlen := ranksHs_length (name := name) (l := l)
    have hil : i < (ranksHs name l).length := by omega
    have hmap : ∀ j, j < (ranksHs name l).length → (ranksS name l).getD j 0 = ((ranksHs name l).getD j (0, 0, 0)).1 := by
      intro j hj
      rw [← ranksHs_map, getD_eq (show j < ((ranksHs name l).map (·.1)).length by simpa using hj), getD_eq hj, List.getElem_map]
    have hs := ranksHs_sorted (name := name) hk
    have hmem : (ranksHs name l)[i] ∈ l := ranksHs_mem.1 (List.getElem_mem _)
    have adj : 0 < i → before (scoreF name) ((ranksHs name l).getD (i - 1) (0, 0, 0)) (ranksHs name l)[i] := by
      intro h0
      rw [getD_eq (show i - 1 < (ranksHs name l).length by omega)]
      exact List.pairwise_iff_getElem.1 hs (i - 1) i (by omega) hil (by omega)
    have ih := l24 name l hn hk hl n (i + 1) (scoreF name (ranksHs name l)[i]) (by omega) (fun _ => by rw [Nat.add_sub_cancel, getD_eq hil])
    refine FL_of1 ?_
    rw [eq24_L0, ranksS_length]
    refine Br_t (by omega) ?_
    refine l24_1 name last l (ranksS name l) i hn hk hl (by rw [ranksS_length]; omega) (by rw [ranksS_length]; omega) (ranksHs name l)[i] hmem (by rw [hmap i hil, getD_eq hil]) ih ?_ ?_ l.length 0 (-1) (by omega) (fun ⟨q, _, hq, _⟩ => absurd hq (by omega))
    · intro h0
      have := adj h0
      rw [hlast h0]
      unfold before at this
      omega
    · intro h0 e
      have := adj h0
      rw [hmap i hil, hmap (i - 1) (by omega), getD_eq hil]
      rw [hlast h0] at e
      unfold before at this
      omega
theorem c24 (code : List Int) (hc : Bytes code) : SC P 24 [.one (.ro (.int .u8) code)] [] [.one (.bool true)] [] := by
  refine SC_of_FB (H := H24) E_ok Try.func24 (by kernel_rfl) ?_
  rw [eq24]
  refine Br_d (fun _ => ⟨rfl, rfl⟩) (fun _ => ?_)
  obtain ⟨name, l, ⟨hn, hl⟩, s0⟩ := c82 code hc
  have hl' : l.length ≤ 1048576 := by omega
  have hr : (ranksF name l).length ≤ 1048576 := Nat.le_trans ranksF_length hl'
  refine ⟨(name, l), s0, _, c83 name l hl', _, c84 name l hl', _, c74 _ _ hr, Br_nb (fun e => by simp at e) (fun _ => ⟨_, c36 l hl', Br_nb (fun _ => ⟨_, c84 name l hl', _, c74 _ _ hr, by simp, rfl⟩) (fun hk => ?_)⟩)⟩
  dsimp only
  rw [show ranksF name l = ranksS name l by rw [ranksF, hn, hk]; rfl]
  exact l24 name l hn hk hl' (ranksHs name l).length 0 (-1) (by omega) (fun h => absurd h (by omega))
end Go.Proofs.Ytiagcjjobfoflaa.Sh
