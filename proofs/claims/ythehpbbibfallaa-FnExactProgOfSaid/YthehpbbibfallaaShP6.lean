/- Programs of plans: contracts, and the exact law on them. -/
import Derived.Test.YthehpbbibfallaaShP4
namespace Go.Proofs.Ythehpbbibfallaa.Sh
open Go
set_option linter.unusedVariables false
set_option linter.unusedSimpArgs false
abbrev Pln := Int × List Int × List Int
def formedAt (p : Pln) (i : Nat) : Bool := (inB (p.2.1.getD i 0) 0 7 && !decide (p.2.1.getD i 0 = p.1)) && (decide (i = 0) || decide (p.2.1.getD (i - 1) 0 < p.2.1.getD i 0))
def byAt (p : Pln) (i : Nat) : Bool := inB (p.2.2.getD i 0) 1 30
def formed (p : Pln) : Bool := ((inB p.1 0 7 && inB (p.2.1.length : Int) 1 4) && decide (p.2.2.length = p.2.1.length)) && allR (fun i => formedAt p i && byAt p i) 0 p.2.1.length
theorem allR_and {p q : Nat → Bool} : ∀ {n i : Nat}, allR (fun j => p j && q j) i n = (allR p i n && allR q i n)
  | 0, _ => rfl
  | n + 1, i => by
    rw [allR, allR, allR, allR_and (n := n) (i := i + 1)]
    cases p i <;> cases q i <;> simp
theorem formed_iff {p : Pln} (h : formed p = true) : (1 ≤ p.2.1.length ∧ p.2.1.length ≤ 4) ∧ p.2.2.length = p.2.1.length ∧ ∀ i, i < p.2.1.length → formedAt p i = true ∧ byAt p i = true := by
  rw [formed, Bool.and_eq_true, Bool.and_eq_true, Bool.and_eq_true, inB_iff, inB_iff, decide_eq_true_iff, allR_iff] at h
  refine ⟨by omega, h.1.2, fun i hi => ?_⟩
  have := h.2 i (Nat.zero_le _) (by omega)
  rwa [Bool.and_eq_true] at this
/-! (loop.example/keelson/impl.Plan).formed -/
def H92 : Hint := ⟨[[(1, 0, .bool), (26, 0, .bool), (27, 0, .bool), (28, 0, .bool)]], [], [], [], [], []⟩
def S92_L0 (x26 : List Int) (x27 : Int) (x28 : Int) (b0_0 : Int) (b0_1 : List Int) (b0_2 : List Int) : St := ⟨[(1, .w (.one (.ptr 0 0 0))), (26, .w (.one (.ro (.int .i64) x26))), (27, .w (.one (.int .i64 x27))), (28, .w (.one (.int .i64 x28)))], [.box [.int .i64 b0_0, .ro (.int .i64) b0_1, .ro (.int .i64) b0_2]]⟩
theorem eq92 (p : (Int × (List Int × List Int))) (r : List W) (lh : Heap) : FB E H92 Try.f92 [.agg [.int .i64 p.1, .ro (.int .i64) p.2.1, .ro (.int .i64) p.2.2]] [] r lh =
  (
   ∃ r0 : Bool, SC P 124 [.one (.int .i64 p.1)] [] [.one (.bool r0)] [] ∧
    Br (!r0) (
     Ret r lh [.one (.bool false)] []) (
     ∃ r1 : Bool, SC P 68 [.one (.int .i64 ((p.2.1.length : Nat) : Int)), .one (.int .i64 1), .one (.int .i64 4)] [] [.one (.bool r1)] [] ∧
      Br (!r1) (
       Ret r lh [.one (.bool false)] []) (
       Br (!(decide (((p.2.2.length : Nat) : Int) = ((p.2.1.length : Nat) : Int)))) (
        Ret r lh [.one (.bool false)] []) (
        FL E H92 Try.f92 0 r lh 0 (S92_L0 p.2.1 ((p.2.1.length : Nat) : Int) 0 p.1 p.2.1 p.2.2))))) := by kernel_rfl
theorem eq92_L0 (x26 : List Int) (x27 : Int) (x28 : Int) (b0_0 : Int) (b0_1 : List Int) (b0_2 : List Int) (r : List W) (lh : Heap) : FL1 E H92 Try.f92 0 r lh 0 (S92_L0 x26 x27 x28 b0_0 b0_1 b0_2) =
  (
   Br (decide (x28 < x27)) (
    Ck (decide ((0 : Int) ≤ x28)) (
     Ck (decide (x28 < ((x26.length : Nat) : Int))) (
      ∃ r0 : Bool, SC P 124 [.one (.int .i64 (x26.getD x28.toNat 0))] [] [.one (.bool r0)] [] ∧
       Br (!r0) (
        Ret r lh [.one (.bool false)] []) (
        Br (decide ((x26.getD x28.toNat 0) = b0_0)) (
         Ret r lh [.one (.bool false)] []) (
         Br (decide ((0 : Int) < x28)) (
          Ck (decide ((0 : Int) ≤ (IntKind.wrap .i64 (x28 - 1)))) (
           Ck (decide ((IntKind.wrap .i64 (x28 - 1)) < ((b0_1.length : Nat) : Int))) (
            Br (decide ((x26.getD x28.toNat 0) ≤ (b0_1.getD (IntKind.wrap .i64 (x28 - 1)).toNat 0))) (
             Ret r lh [.one (.bool false)] []) (
             Ck (decide ((0 : Int) ≤ x28)) (
              Ck (decide (x28 < ((b0_2.length : Nat) : Int))) (
               ∃ r1 : Bool, SC P 68 [.one (.int .i64 (b0_2.getD x28.toNat 0)), .one (.int .i64 1), .one (.int .i64 30)] [] [.one (.bool r1)] [] ∧
                Br (!r1) (
                 Ret r lh [.one (.bool false)] []) (
                 FL E H92 Try.f92 0 r lh 0 (S92_L0 x26 x27 (IntKind.wrap .i64 (x28 + 1)) b0_0 b0_1 b0_2)))))))) (
          Ck (decide ((0 : Int) ≤ x28)) (
           Ck (decide (x28 < ((b0_2.length : Nat) : Int))) (
            ∃ r2 : Bool, SC P 68 [.one (.int .i64 (b0_2.getD x28.toNat 0)), .one (.int .i64 1), .one (.int .i64 30)] [] [.one (.bool r2)] [] ∧
             Br (!r2) (
              Ret r lh [.one (.bool false)] []) (
              FL E H92 Try.f92 0 r lh 0 (S92_L0 x26 x27 (IntKind.wrap .i64 (x28 + 1)) b0_0 b0_1 b0_2)))))))))) (
    Ret r lh [.one (.bool true)] [])) := by kernel_rfl
theorem l92 (p : Pln) (hl : p.2.1.length ≤ 1048576) (he : p.2.2.length = p.2.1.length) : ∀ (n i : Nat), i + n = p.2.1.length → FL E H92 Try.f92 0 [.one (.bool (allR (fun i => formedAt p i && byAt p i) i n))] [] 0 (S92_L0 p.2.1 (p.2.1.length : Int) (i : Int) p.1 p.2.1 p.2.2)
  | 0, i, h => by
    refine FL_of1 ?_
    rw [eq92_L0]
    exact Br_f (by omega) ⟨rfl, rfl⟩
  | n + 1, i, h => by
    have no : formedAt p i = false → [W.one (.bool false)] = [W.one (.bool (allR (fun i => formedAt p i && byAt p i) i (n + 1)))] := fun e => by rw [allR_f (by rw [e, Bool.false_and])]
    have no2 : byAt p i = false → [W.one (.bool false)] = [W.one (.bool (allR (fun i => formedAt p i && byAt p i) i (n + 1)))] := fun e => by rw [allR_f (by rw [e, Bool.and_false])]
    have ih := l92 p hl he n (i + 1) (by omega)
    refine FL_of1 ?_
    rw [eq92_L0, wS (by omega)]
    simp only [Int.toNat_natCast]
    refine Br_t (by omega) (Ck_d (by omega) (Ck_d (by omega) ⟨_, c124 _, Br_nb (fun e => ⟨no (by rw [formedAt, e]; rfl), rfl⟩) (fun e1 => Br_d (fun e => ⟨no (by rw [formedAt, decide_eq_true e, Bool.not_true, Bool.and_false, Bool.false_and]), rfl⟩) (fun e2 => Br_d (fun hi => ?_) (fun hi => ?_)))⟩))
    · rw [wrap64 (n := (i : Int) - 1) (by omega) (by omega), show ((i : Int) - 1).toNat = i - 1 by omega]
      refine Ck_d (by omega) (Ck_d (by omega) (Br_d (fun e => ⟨no ?_, rfl⟩) (fun e3 => Ck_d (by omega) (Ck_d (by omega) ⟨_, c68 _ _ _, Br_nb (fun e => ⟨no2 e, rfl⟩) (fun e4 => ?_)⟩))))
      · rw [formedAt, decide_eq_false (show ¬ i = 0 by omega), decide_eq_false (show ¬ p.2.1.getD (i - 1) 0 < p.2.1.getD i 0 by omega), Bool.or_false, Bool.and_false]
      · rw [allR_t (by rw [formedAt, byAt, e1, e4, decide_eq_false e2, decide_eq_true (show p.2.1.getD (i - 1) 0 < p.2.1.getD i 0 by omega), Bool.or_true]; rfl)]
        exact ih
    · refine Ck_d (by omega) (Ck_d (by omega) ⟨_, c68 _ _ _, Br_nb (fun e => ⟨no2 e, rfl⟩) (fun e4 => ?_)⟩)
      rw [allR_t (by rw [formedAt, byAt, e1, e4, decide_eq_false e2, decide_eq_true (show i = 0 by omega), Bool.true_or]; rfl)]
      exact ih
theorem c92 (p : Pln) (hl : p.2.1.length ≤ 1048576) (hb : p.2.2.length ≤ 1048576) : SC P 92 [.agg [.int .i64 p.1, .ro (.int .i64) p.2.1, .ro (.int .i64) p.2.2]] [] [.one (.bool (formed p))] [] := by
  refine SC_of_FB (H := H92) E_ok Try.func92 (by kernel_rfl) ?_
  rw [eq92]
  refine ⟨_, c124 _, Br_nb (fun e => ⟨by rw [formed, e]; rfl, rfl⟩) (fun e1 => ⟨_, c68 _ _ _, Br_nb (fun e => ⟨by rw [formed, e, Bool.and_false]; rfl, rfl⟩) (fun e2 => Br_nd (fun e => ⟨?_, rfl⟩) (fun e3 => ?_))⟩)⟩
  · rw [formed, decide_eq_false (show ¬ p.2.2.length = p.2.1.length by omega), Bool.and_false]; rfl
  · have := l92 p hl (by omega) p.2.1.length 0 (by omega)
    rw [formed, e1, e2, decide_eq_true (show p.2.2.length = p.2.1.length by omega)]
    exact this
/-! loop.example/keelson/spec.l11Form -/
def H91 : Hint := ⟨[[(1, 0, .bool), (3, 0, .bool)], [(1, 0, .bool), (4, 0, .bool)]], [], [(4, [0, 1, 2, 3, 4, 5, 6, 7, 8, 9, 10, 11, 12, 13, 14, 15, 16, 17, 18, 19, 20, 21, 22, 23, 24, 25, 26, 27, 28, 29, 30, 31, 32, 33, 34])], [], [], []⟩
def S91_L0 (i3 : Int) (b0_0 : Int) (b0_1 : List Int) (b0_2 : List Int) : St := ⟨[(1, .w (.one (.ptr 0 0 0))), (3, .w (.one (.int .i64 i3)))], [.box [.int .i64 b0_0, .ro (.int .i64) b0_1, .ro (.int .i64) b0_2]]⟩
def S91_L1 (i4 : Int) (b0_0 : Int) (b0_1 : List Int) (b0_2 : List Int) : St := ⟨[(1, .w (.one (.ptr 0 0 0))), (4, .w (.one (.int .i64 i4)))], [.box [.int .i64 b0_0, .ro (.int .i64) b0_1, .ro (.int .i64) b0_2]]⟩
theorem eq91 (p : (Int × (List Int × List Int))) (r : List W) (lh : Heap) : FB E H91 Try.f91 [.agg [.int .i64 p.1, .ro (.int .i64) p.2.1, .ro (.int .i64) p.2.2]] [] r lh =
  (
   FL E H91 Try.f91 0 r lh 0 (S91_L0 0 p.1 p.2.1 p.2.2)) := by kernel_rfl
theorem eq91_L0 (i3 : Int) (b0_0 : Int) (b0_1 : List Int) (b0_2 : List Int) (r : List W) (lh : Heap) : FL1 E H91 Try.f91 0 r lh 0 (S91_L0 i3 b0_0 b0_1 b0_2) =
  (
   Br (decide (i3 < ((b0_1.length : Nat) : Int))) (
    Ck (decide ((0 : Int) ≤ i3)) (
     Ck (decide (i3 < ((b0_1.length : Nat) : Int))) (
      ∃ r0 : Bool, SC P 69 [.one (.int .i64 (b0_1.getD i3.toNat 0)), .one (.int .i64 0), .one (.int .i64 7)] [] [.one (.bool r0)] [] ∧
       Br (!r0) (
        Ret r lh [.one (.bool false)] []) (
        Ck (decide ((0 : Int) ≤ i3)) (
         Ck (decide (i3 < ((b0_1.length : Nat) : Int))) (
          Br (decide ((b0_1.getD i3.toNat 0) = b0_0)) (
           Ret r lh [.one (.bool false)] []) (
           Br (decide ((0 : Int) < i3)) (
            Ck (decide ((0 : Int) ≤ (IntKind.wrap .i64 (i3 - 1)))) (
             Ck (decide ((IntKind.wrap .i64 (i3 - 1)) < ((b0_1.length : Nat) : Int))) (
              Ck (decide ((0 : Int) ≤ i3)) (
               Ck (decide (i3 < ((b0_1.length : Nat) : Int))) (
                Br (decide ((b0_1.getD i3.toNat 0) ≤ (b0_1.getD (IntKind.wrap .i64 (i3 - 1)).toNat 0))) (
                 Ret r lh [.one (.bool false)] []) (
                 FL E H91 Try.f91 0 r lh 0 (S91_L0 (IntKind.wrap .i64 (i3 + 1)) b0_0 b0_1 b0_2))))))) (
            FL E H91 Try.f91 0 r lh 0 (S91_L0 (IntKind.wrap .i64 (i3 + 1)) b0_0 b0_1 b0_2))))))))) (
    FL E H91 Try.f91 0 r lh 1 (S91_L1 0 b0_0 b0_1 b0_2))) := by kernel_rfl
theorem eq91_L1 (i4 : Int) (b0_0 : Int) (b0_1 : List Int) (b0_2 : List Int) (r : List W) (lh : Heap) : FL1 E H91 Try.f91 0 r lh 1 (S91_L1 i4 b0_0 b0_1 b0_2) =
  (
   Br (decide (i4 < ((b0_2.length : Nat) : Int))) (
    Ck (decide ((0 : Int) ≤ i4)) (
     Ck (decide (i4 < ((b0_2.length : Nat) : Int))) (
      ∃ r0 : Bool, SC P 69 [.one (.int .i64 (b0_2.getD i4.toNat 0)), .one (.int .i64 1), .one (.int .i64 30)] [] [.one (.bool r0)] [] ∧
       Br (!r0) (
        Ret r lh [.one (.bool false)] []) (
        FL E H91 Try.f91 0 r lh 1 (S91_L1 (IntKind.wrap .i64 (i4 + 1)) b0_0 b0_1 b0_2))))) (
    ∃ r1 : Bool, SC P 69 [.one (.int .i64 b0_0), .one (.int .i64 0), .one (.int .i64 7)] [] [.one (.bool r1)] [] ∧
     Br r1 (
      Br (decide (((b0_2.length : Nat) : Int) = ((b0_1.length : Nat) : Int))) (
       ∃ r2 : Bool, SC P 69 [.one (.int .i64 ((b0_1.length : Nat) : Int)), .one (.int .i64 1), .one (.int .i64 4)] [] [.one (.bool r2)] [] ∧
        Ret r lh [.one (.bool r2)] []) (
       Ret r lh [.one (.bool false)] [])) (
      Ret r lh [.one (.bool false)] []))) := by kernel_rfl
theorem l91_1 (p : Pln) (hl : p.2.1.length ≤ 1048576) (hb : p.2.2.length ≤ 1048576) : ∀ (n i : Nat), i + n = p.2.2.length → FL E H91 Try.f91 0 [.one (.bool (allR (byAt p) i n && (inB p.1 0 7 && (decide (p.2.2.length = p.2.1.length) && inB (p.2.1.length : Int) 1 4))))] [] 1 (S91_L1 (i : Int) p.1 p.2.1 p.2.2)
  | 0, i, h => by
    refine FL_of1 ?_
    rw [eq91_L1, allR, Bool.true_and]
    refine Br_f (by omega) ⟨_, c69 _ _ _, Br_b (fun e => ?_) (fun e => ⟨by rw [e]; rfl, rfl⟩)⟩
    rw [e, Bool.true_and]
    refine Br_d (fun e2 => ⟨_, c69 _ _ _, by rw [decide_eq_true (show p.2.2.length = p.2.1.length by omega), Bool.true_and], rfl⟩) (fun e2 => ⟨by rw [decide_eq_false (show ¬ p.2.2.length = p.2.1.length by omega)]; rfl, rfl⟩)
  | n + 1, i, h => by
    refine FL_of1 ?_
    rw [eq91_L1, wS (by omega)]
    simp only [Int.toNat_natCast]
    refine Br_t (by omega) (Ck_d (by omega) (Ck_d (by omega) ⟨_, c69 _ _ _, Br_nb (fun e => ⟨by rw [allR_f e]; rfl, rfl⟩) (fun e => ?_)⟩))
    rw [allR_t e]
    exact l91_1 p hl hb n (i + 1) (by omega)
theorem l91_0 (p : Pln) (hl : p.2.1.length ≤ 1048576) (hb : p.2.2.length ≤ 1048576) : ∀ (n i : Nat), i + n = p.2.1.length → FL E H91 Try.f91 0 [.one (.bool (allR (formedAt p) i n && (allR (byAt p) 0 p.2.2.length && (inB p.1 0 7 && (decide (p.2.2.length = p.2.1.length) && inB (p.2.1.length : Int) 1 4)))))] [] 0 (S91_L0 (i : Int) p.1 p.2.1 p.2.2)
  | 0, i, h => by
    refine FL_of1 ?_
    rw [eq91_L0, allR, Bool.true_and]
    exact Br_f (by omega) (l91_1 p hl hb p.2.2.length 0 (by omega))
  | n + 1, i, h => by
    have no : formedAt p i = false → [W.one (.bool false)] = [W.one (.bool (allR (formedAt p) i (n + 1) && (allR (byAt p) 0 p.2.2.length && (inB p.1 0 7 && (decide (p.2.2.length = p.2.1.length) && inB (p.2.1.length : Int) 1 4)))))] := fun e => by rw [allR_f e, Bool.false_and]
    have ih := l91_0 p hl hb n (i + 1) (by omega)
    refine FL_of1 ?_
    rw [eq91_L0, wS (by omega)]
    simp only [Int.toNat_natCast]
    refine Br_t (by omega) (Ck_d (by omega) (Ck_d (by omega) ⟨_, c69 _ _ _, Br_nb (fun e => ⟨no (by rw [formedAt, e]; rfl), rfl⟩) (fun e1 => Ck_d (by omega) (Ck_d (by omega) (Br_d (fun e => ⟨no (by rw [formedAt, decide_eq_true e, Bool.not_true, Bool.and_false, Bool.false_and]), rfl⟩) (fun e2 => Br_d (fun hi => ?_) (fun hi => ?_)))))⟩))
    · rw [wrap64 (n := (i : Int) - 1) (by omega) (by omega), show ((i : Int) - 1).toNat = i - 1 by omega]
      refine Ck_d (by omega) (Ck_d (by omega) (Ck_d (by omega) (Ck_d (by omega) (Br_d (fun e => ⟨no ?_, rfl⟩) (fun e3 => ?_)))))
      · rw [formedAt, decide_eq_false (show ¬ i = 0 by omega), decide_eq_false (show ¬ p.2.1.getD (i - 1) 0 < p.2.1.getD i 0 by omega), Bool.or_false, Bool.and_false]
      · rw [allR_t (by rw [formedAt, e1, decide_eq_false e2, decide_eq_true (show p.2.1.getD (i - 1) 0 < p.2.1.getD i 0 by omega), Bool.or_true]; rfl)]
        exact ih
    · rw [allR_t (by rw [formedAt, e1, decide_eq_false e2, decide_eq_true (show i = 0 by omega), Bool.true_or]; rfl)]
      exact ih
theorem formed_spec (p : Pln) : (allR (formedAt p) 0 p.2.1.length && (allR (byAt p) 0 p.2.2.length && (inB p.1 0 7 && (decide (p.2.2.length = p.2.1.length) && inB (p.2.1.length : Int) 1 4)))) = formed p := by
  rw [formed, allR_and]
  by_cases h : p.2.2.length = p.2.1.length
  · rw [h, decide_eq_true rfl]
    cases allR (formedAt p) 0 p.2.1.length <;> cases allR (byAt p) 0 p.2.1.length <;> cases inB p.1 0 7 <;> cases inB (p.2.1.length : Int) 1 4 <;> rfl
  · rw [decide_eq_false h]
    cases allR (formedAt p) 0 p.2.1.length <;> cases allR (byAt p) 0 p.2.2.length <;> cases inB p.1 0 7 <;> cases inB (p.2.1.length : Int) 1 4 <;> rfl
theorem c91 (p : Pln) (hl : p.2.1.length ≤ 1048576) (hb : p.2.2.length ≤ 1048576) : SC P 91 [.agg [.int .i64 p.1, .ro (.int .i64) p.2.1, .ro (.int .i64) p.2.2]] [] [.one (.bool (formed p))] [] := by
  refine SC_of_FB (H := H91) E_ok Try.func91 (by kernel_rfl) ?_
  rw [eq91]
  rw [← formed_spec]
  exact l91_0 p hl hb p.2.1.length 0 (by omega)
abbrev st1 (a : Int) : Step := (1, a, 0)
abbrev st2 (one b : Int) : Step := (2, one, b)
abbrev st3 (sum one : Int) : Step := (3, sum, one)
def progStep (f b : List Int) (sum : Int) (out : List Step) (i : Nat) : List Step :=
  let out1 := out ++ [st1 (f.getD i 0)]
  let out2 := bif decide (b.getD i 0 = 1) then out1 else out1 ++ [st2 ((out1.length : Int) - 1) (b.getD i 0)]
  bif decide (i = 0) then out2 else out2 ++ [st3 sum ((out2.length : Int) - 1)]
theorem progStep_len {f b : List Int} {sum : Int} {out : List Step} {i : Nat} : out.length + 1 ≤ (progStep f b sum out i).length ∧ (progStep f b sum out i).length ≤ out.length + 3 := by
  rw [progStep]
  cases decide (b.getD i 0 = 1) <;> cases decide (i = 0) <;> simp
def progOfR (f b : List Int) : Nat → Nat → Int → List Step → List Step
  | _, 0, _, out => out
  | i, n + 1, sum, out => progOfR f b (i + 1) n (((progStep f b sum out i).length : Int) - 1) (progStep f b sum out i)
theorem progOfR_len {f b : List Int} : ∀ {n i : Nat} {sum : Int} {out : List Step}, (progOfR f b i n sum out).length ≤ out.length + 3 * n
  | 0, _, _, _ => Nat.le_refl _
  | n + 1, i, sum, out => by
    have h1 := progOfR_len (f := f) (b := b) (n := n) (i := i + 1) (sum := ((progStep f b sum out i).length : Int) - 1) (out := progStep f b sum out i)
    have h2 := (progStep_len (f := f) (b := b) (sum := sum) (out := out) (i := i)).2
    rw [progOfR]
    omega
def progOfF (p : Pln) : List Step := bif formed p then progOfR p.2.1 p.2.2 0 p.2.1.length 0 [] else []
theorem progOfF_len {p : Pln} : (progOfF p).length ≤ 12 := by
  rw [progOfF]
  cases h : formed p
  · simp
  · have := formed_iff h
    have h1 := progOfR_len (f := p.2.1) (b := p.2.2) (n := p.2.1.length) (i := 0) (sum := 0) (out := [])
    simp only [List.length_nil] at h1
    rw [cond_true]
    omega
/-! loop.example/keelson/impl.ProgOf$1 -/
def H93 : Hint := ⟨[], [], [], [], [], []⟩
theorem eq93 (s : Int × Int × Int) (l : List (Int × Int × Int)) (r : List W) (lh : Heap) : FB E H93 Try.f93 [.agg [.int .i64 s.1, .int .i64 s.2.1, .int .i64 s.2.2], .one (.ptr 0 0 0)] [.box [.sl 1 none], .row (.pair (.int .i64) (.pair (.int .i64) (.int .i64))) l .own] r lh =
  (
   Ck (Nat.ble ((l.length + 1) * 24) roomy) (
    Ret r lh [.one (.int .i64 (IntKind.wrap .i64 ((((l ++ ([(s.1, (s.2.1, s.2.2))] : List (Int × (Int × Int)))).length : Nat) : Int) - 1)))] [.box [.sl 1 none], .row (.pair (.int .i64) (.pair (.int .i64) (.int .i64))) (l ++ ([(s.1, (s.2.1, s.2.2))] : List (Int × (Int × Int)))) .moved])) := by kernel_rfl
theorem c93 (s : Step) (l : List Step) (hl : l.length ≤ 100) : SC P 93 [.agg [.int .i64 s.1, .int .i64 s.2.1, .int .i64 s.2.2], .one (.ptr 0 0 0)] [.box [.sl 1 none], .row (.pair (.int .i64) (.pair (.int .i64) (.int .i64))) l .own] [.one (.int .i64 (((l ++ [s]).length : Int) - 1))] [.box [.sl 1 none], .row (.pair (.int .i64) (.pair (.int .i64) (.int .i64))) (l ++ [s]) .moved] := by
  refine SC_of_FB (H := H93) E_ok Try.func93 (by kernel_rfl) ?_
  rw [eq93]
  have : (l ++ [s]).length = l.length + 1 := by simp
  rw [wrap64 (n := ((l ++ [(s.1, (s.2.1, s.2.2))]).length : Int) - 1) (by simp <;> omega) (by simp <;> omega)]
  exact Ck_room (by omega) ⟨rfl, rfl⟩
/-! slices.Clip[[]loop.example/keelson/impl.Step,loop.example/keelson/impl.Step] -/
def H94 : Hint := ⟨[], [], [], [], [.one (.sub 0)], []⟩
theorem eq94 (l : List (Int × Int × Int)) (r : List W) (lh : Heap) : FB E H94 Try.f94 [.one (.sl 0 none)] [.row (.pair (.int .i64) (.pair (.int .i64) (.int .i64))) l .own] r lh =
  (
   Ck (decide ((0 : Int) ≤ ((l.length : Nat) : Int))) (
    Ck (decide (((l.length : Nat) : Int) ≤ ((l.length : Nat) : Int))) (
     Ck (decide (((l.length : Nat) : Int) ≤ ((l.length : Nat) : Int))) (
      Ret r lh [.one (.sl 0 (some (0, ((l.length : Nat) : Int).toNat)))] [.row (.pair (.int .i64) (.pair (.int .i64) (.int .i64))) l .own])))) := by kernel_rfl
theorem c94 (l : List Step) : SC P 94 [.one (.sl 0 none)] [.row (.pair (.int .i64) (.pair (.int .i64) (.int .i64))) l .own] [.one (.sl 0 (some (0, l.length)))] [.row (.pair (.int .i64) (.pair (.int .i64) (.int .i64))) l .own] := by
  refine SC_of_FB (H := H94) E_ok Try.func94 (by kernel_rfl) ?_
  rw [eq94]
  exact Ck_d (by omega) (Ck_d (by omega) (Ck_d (by omega) ⟨rfl, rfl⟩))
/-! loop.example/keelson/impl.ProgOf -/
def H44 : Hint := ⟨[[(1, 0, .bool), (4, 0, .bool), (5, 0, .bool), (6, 0, .bool), (16, 0, .bool), (17, 0, .bool), (18, 0, .bool)]], [], [], [], [.one (.own (.pair (.int .i64) (.pair (.int .i64) (.int .i64)))), .one (.c .bool)], []⟩
def S44_L0 (sum6 : Int) (x16 : List Int) (x17 : Int) (x18 : Int) (b0_0 : Int) (b0_1 : List Int) (b0_2 : List Int) (h2 : List (Int × (Int × Int))) : St := ⟨[(1, .w (.one (.ptr 0 0 0))), (4, .w (.one (.ptr 1 0 0))), (5, .w (.one (.fn 93 [1]))), (6, .w (.one (.int .i64 sum6))), (16, .w (.one (.ro (.int .i64) x16))), (17, .w (.one (.int .i64 x17))), (18, .w (.one (.int .i64 x18)))], [.box [.int .i64 b0_0, .ro (.int .i64) b0_1, .ro (.int .i64) b0_2], .box [.sl 2 none], .row (.pair (.int .i64) (.pair (.int .i64) (.int .i64))) h2 .own]⟩
theorem eq44 (p : (Int × (List Int × List Int))) (r : List W) (lh : Heap) : FB E H44 Try.f44 [.agg [.int .i64 p.1, .ro (.int .i64) p.2.1, .ro (.int .i64) p.2.2]] [] r lh =
  (
   ∃ r0 : Bool, SC P 92 [.agg [.int .i64 p.1, .ro (.int .i64) p.2.1, .ro (.int .i64) p.2.2]] [] [.one (.bool r0)] [] ∧
    Br (!r0) (
     Ret r lh [.one (.sl 0 none), .one (.bool false)] [.row (.pair (.int .i64) (.pair (.int .i64) (.int .i64))) [] .own]) (
     FL E H44 Try.f44 0 r lh 0 (S44_L0 0 p.2.1 ((p.2.1.length : Nat) : Int) 0 p.1 p.2.1 p.2.2 []))) := by kernel_rfl
theorem eq44_L0 (sum6 : Int) (x16 : List Int) (x17 : Int) (x18 : Int) (b0_0 : Int) (b0_1 : List Int) (b0_2 : List Int) (h2 : List (Int × (Int × Int))) (r : List W) (lh : Heap) : FL1 E H44 Try.f44 0 r lh 0 (S44_L0 sum6 x16 x17 x18 b0_0 b0_1 b0_2 h2) =
  (
   Br (decide (x18 < x17)) (
    Ck (decide ((0 : Int) ≤ x18)) (
     Ck (decide (x18 < ((x16.length : Nat) : Int))) (
      ∃ r0 : List (Int × (Int × Int)) × Int, SC P 93 [.agg [.int .i64 1, .int .i64 (x16.getD x18.toNat 0), .int .i64 0], .one (.ptr 0 0 0)] [.box [.sl 1 none], .row (.pair (.int .i64) (.pair (.int .i64) (.int .i64))) h2 .own] [.one (.int .i64 r0.2)] [.box [.sl 1 none], .row (.pair (.int .i64) (.pair (.int .i64) (.int .i64))) r0.1 .moved] ∧
       Ck (decide ((0 : Int) ≤ x18)) (
        Ck (decide (x18 < ((b0_2.length : Nat) : Int))) (
         Br (!(decide ((b0_2.getD x18.toNat 0) = (1 : Int)))) (
          Ck (decide ((0 : Int) ≤ x18)) (
           Ck (decide (x18 < ((b0_2.length : Nat) : Int))) (
            ∃ r1 : List (Int × (Int × Int)) × Int, SC P 93 [.agg [.int .i64 2, .int .i64 r0.2, .int .i64 (b0_2.getD x18.toNat 0)], .one (.ptr 0 0 0)] [.box [.sl 1 none], .row (.pair (.int .i64) (.pair (.int .i64) (.int .i64))) r0.1 .own] [.one (.int .i64 r1.2)] [.box [.sl 1 none], .row (.pair (.int .i64) (.pair (.int .i64) (.int .i64))) r1.1 .moved] ∧
             Br (decide ((0 : Int) < x18)) (
              ∃ r2 : List (Int × (Int × Int)) × Int, SC P 93 [.agg [.int .i64 3, .int .i64 sum6, .int .i64 r1.2], .one (.ptr 0 0 0)] [.box [.sl 1 none], .row (.pair (.int .i64) (.pair (.int .i64) (.int .i64))) r1.1 .own] [.one (.int .i64 r2.2)] [.box [.sl 1 none], .row (.pair (.int .i64) (.pair (.int .i64) (.int .i64))) r2.1 .moved] ∧
               FL E H44 Try.f44 0 r lh 0 (S44_L0 r2.2 x16 x17 (IntKind.wrap .i64 (x18 + 1)) b0_0 b0_1 b0_2 r2.1)) (
              FL E H44 Try.f44 0 r lh 0 (S44_L0 r1.2 x16 x17 (IntKind.wrap .i64 (x18 + 1)) b0_0 b0_1 b0_2 r1.1))))) (
          Br (decide ((0 : Int) < x18)) (
           ∃ r3 : List (Int × (Int × Int)) × Int, SC P 93 [.agg [.int .i64 3, .int .i64 sum6, .int .i64 r0.2], .one (.ptr 0 0 0)] [.box [.sl 1 none], .row (.pair (.int .i64) (.pair (.int .i64) (.int .i64))) r0.1 .own] [.one (.int .i64 r3.2)] [.box [.sl 1 none], .row (.pair (.int .i64) (.pair (.int .i64) (.int .i64))) r3.1 .moved] ∧
            FL E H44 Try.f44 0 r lh 0 (S44_L0 r3.2 x16 x17 (IntKind.wrap .i64 (x18 + 1)) b0_0 b0_1 b0_2 r3.1)) (
           FL E H44 Try.f44 0 r lh 0 (S44_L0 r0.2 x16 x17 (IntKind.wrap .i64 (x18 + 1)) b0_0 b0_1 b0_2 r0.1)))))))) (
    ∃ r4 : Nat, SC P 94 [.one (.sl 0 none)] [.row (.pair (.int .i64) (.pair (.int .i64) (.int .i64))) h2 .own] [.one (.sl 0 (some (0, r4)))] [.row (.pair (.int .i64) (.pair (.int .i64) (.int .i64))) h2 .own] ∧
     Ret r lh [.one (.sl 0 none), .one (.bool true)] [.row (.pair (.int .i64) (.pair (.int .i64) (.int .i64))) (h2.take r4) .own])) := by kernel_rfl
theorem l44 (p : Pln) (h4 : p.2.1.length ≤ 4) (he : p.2.2.length = p.2.1.length) : ∀ (n i : Nat) (sum : Int) (out : List Step), i + n = p.2.1.length → out.length ≤ 3 * i → FL E H44 Try.f44 0 [.one (.sl 0 none), .one (.bool true)] [.row (.pair (.int .i64) (.pair (.int .i64) (.int .i64))) (progOfR p.2.1 p.2.2 i n sum out) .own] 0 (S44_L0 sum p.2.1 (p.2.1.length : Int) (i : Int) p.1 p.2.1 p.2.2 out)
  | 0, i, sum, out, h, ho => by
    refine FL_of1 ?_
    rw [eq44_L0, progOfR]
    exact Br_f (by omega) ⟨_, c94 out, rfl, by rw [List.take_length]⟩
  | n + 1, i, sum, out, h, ho => by
    have hl := progStep_len (f := p.2.1) (b := p.2.2) (sum := sum) (out := out) (i := i)
    have ih := l44 p h4 he n (i + 1) (((progStep p.2.1 p.2.2 sum out i).length : Int) - 1) (progStep p.2.1 p.2.2 sum out i) (by omega) (by omega)
    refine FL_of1 ?_
    rw [eq44_L0, wS (by omega), progOfR]
    simp only [Int.toNat_natCast]
    refine Br_t (by omega) (Ck_d (by omega) (Ck_d (by omega) ⟨(out ++ [st1 (p.2.1.getD i 0)], _), c93 (st1 (p.2.1.getD i 0)) out (by omega), Ck_d (by omega) (Ck_d (by omega) (Br_nd (fun hb => ?_) (fun hb => ?_)))⟩))
    · refine Ck_d (by omega) (Ck_d (by omega) ⟨(_, _), c93 (st2 _ (p.2.2.getD i 0)) (out ++ [st1 (p.2.1.getD i 0)]) (by simp; omega), Br_d (fun hi => ?_) (fun hi => ?_)⟩)
      · have e : progStep p.2.1 p.2.2 sum out i = ((out ++ [st1 (p.2.1.getD i 0)]) ++ [st2 (((out ++ [st1 (p.2.1.getD i 0)]).length : Int) - 1) (p.2.2.getD i 0)]) ++ [st3 sum ((((out ++ [st1 (p.2.1.getD i 0)]) ++ [st2 (((out ++ [st1 (p.2.1.getD i 0)]).length : Int) - 1) (p.2.2.getD i 0)]).length : Int) - 1)] := by
          rw [progStep, decide_eq_false hb, decide_eq_false (show ¬ i = 0 by omega)]; rfl
        rw [e] at ih ⊢
        exact ⟨(_, _), c93 (st3 sum _) ((out ++ [st1 (p.2.1.getD i 0)]) ++ [st2 (((out ++ [st1 (p.2.1.getD i 0)]).length : Int) - 1) (p.2.2.getD i 0)]) (by simp; omega), ih⟩
      · have e : progStep p.2.1 p.2.2 sum out i = (out ++ [st1 (p.2.1.getD i 0)]) ++ [st2 (((out ++ [st1 (p.2.1.getD i 0)]).length : Int) - 1) (p.2.2.getD i 0)] := by
          rw [progStep, decide_eq_false hb, decide_eq_true (show i = 0 by omega)]; rfl
        rw [e] at ih ⊢
        exact ih
    · refine Br_d (fun hi => ?_) (fun hi => ?_)
      · have e : progStep p.2.1 p.2.2 sum out i = (out ++ [st1 (p.2.1.getD i 0)]) ++ [st3 sum (((out ++ [st1 (p.2.1.getD i 0)]).length : Int) - 1)] := by
          rw [progStep, decide_eq_true (show p.2.2.getD i 0 = 1 from hb), decide_eq_false (show ¬ i = 0 by omega)]; rfl
        rw [e] at ih ⊢
        exact ⟨(_, _), c93 (st3 sum _) (out ++ [st1 (p.2.1.getD i 0)]) (by simp; omega), ih⟩
      · have e : progStep p.2.1 p.2.2 sum out i = out ++ [st1 (p.2.1.getD i 0)] := by
          rw [progStep, decide_eq_true (show p.2.2.getD i 0 = 1 from hb), decide_eq_true (show i = 0 by omega)]; rfl
        rw [e] at ih ⊢
        exact ih
theorem c44 (p : Pln) (hl : p.2.1.length ≤ 1048576) (hb : p.2.2.length ≤ 1048576) : SC P 44 [.agg [.int .i64 p.1, .ro (.int .i64) p.2.1, .ro (.int .i64) p.2.2]] [] [.one (.sl 0 none), .one (.bool (formed p))] [.row (.pair (.int .i64) (.pair (.int .i64) (.int .i64))) (progOfF p) .own] := by
  refine SC_of_FB (H := H44) E_ok Try.func44 (by kernel_rfl) ?_
  rw [eq44]
  refine ⟨_, c92 p hl hb, Br_nb (fun e => ⟨by rw [e], by rw [progOfF, e]; rfl⟩) (fun e => ?_)⟩
  have h := formed_iff e
  rw [progOfF, e]
  exact l44 p h.1.2 h.2.1 p.2.1.length 0 0 [] (by omega) (by simp)
/-! loop.example/keelson/spec.ProgOf -/
def H42 : Hint := ⟨[[(1, 0, .bool), (4, 0, .bool), (5, 0, .bool), (6, 0, .bool)]], [], [], [], [], []⟩
def S42_L0 (sum5 : Int) (i6 : Int) (b0_0 : Int) (b0_1 : List Int) (b0_2 : List Int) (h1 : List (Int × (Int × Int))) : St := ⟨[(1, .w (.one (.ptr 0 0 0))), (4, .w (.one (.sl 1 none))), (5, .w (.one (.int .i64 sum5))), (6, .w (.one (.int .i64 i6)))], [.box [.int .i64 b0_0, .ro (.int .i64) b0_1, .ro (.int .i64) b0_2], .row (.pair (.int .i64) (.pair (.int .i64) (.int .i64))) h1 .own]⟩
theorem eq42 (p : (Int × (List Int × List Int))) (r : List W) (lh : Heap) : FB E H42 Try.f42 [.agg [.int .i64 p.1, .ro (.int .i64) p.2.1, .ro (.int .i64) p.2.2]] [] r lh =
  (
   ∃ r0 : Bool, SC P 91 [.agg [.int .i64 p.1, .ro (.int .i64) p.2.1, .ro (.int .i64) p.2.2]] [] [.one (.bool r0)] [] ∧
    Br (!r0) (
     Ret r lh [.one (.sl 0 none), .one (.bool false)] [.row (.pair (.int .i64) (.pair (.int .i64) (.int .i64))) [] .own]) (
     FL E H42 Try.f42 0 r lh 0 (S42_L0 (-1) 0 p.1 p.2.1 p.2.2 []))) := by kernel_rfl
theorem eq42_L0 (sum5 : Int) (i6 : Int) (b0_0 : Int) (b0_1 : List Int) (b0_2 : List Int) (h1 : List (Int × (Int × Int))) (r : List W) (lh : Heap) : FL1 E H42 Try.f42 0 r lh 0 (S42_L0 sum5 i6 b0_0 b0_1 b0_2 h1) =
  (
   Br (decide (i6 < ((b0_1.length : Nat) : Int))) (
    Ck (decide ((0 : Int) ≤ i6)) (
     Ck (decide (i6 < ((b0_1.length : Nat) : Int))) (
      Ck (Nat.ble ((h1.length + 1) * 24) roomy) (
       Ck (decide ((0 : Int) ≤ i6)) (
        Ck (decide (i6 < ((b0_2.length : Nat) : Int))) (
         Br (!(decide ((b0_2.getD i6.toNat 0) = (1 : Int)))) (
          Ck (decide ((0 : Int) ≤ i6)) (
           Ck (decide (i6 < ((b0_2.length : Nat) : Int))) (
            Ck (Nat.ble (((h1 ++ ([(1, ((b0_1.getD i6.toNat 0), 0))] : List (Int × (Int × Int)))).length + 1) * 24) roomy) (
             Br (decide ((0 : Int) ≤ sum5)) (
              Ck (Nat.ble ((((h1 ++ ([(1, ((b0_1.getD i6.toNat 0), 0))] : List (Int × (Int × Int)))) ++ ([(2, ((IntKind.wrap .i64 ((((h1 ++ ([(1, ((b0_1.getD i6.toNat 0), 0))] : List (Int × (Int × Int)))).length : Nat) : Int) - 1)), (b0_2.getD i6.toNat 0)))] : List (Int × (Int × Int)))).length + 1) * 24) roomy) (
               FL E H42 Try.f42 0 r lh 0 (S42_L0 (IntKind.wrap .i64 ((((((h1 ++ ([(1, ((b0_1.getD i6.toNat 0), 0))] : List (Int × (Int × Int)))) ++ ([(2, ((IntKind.wrap .i64 ((((h1 ++ ([(1, ((b0_1.getD i6.toNat 0), 0))] : List (Int × (Int × Int)))).length : Nat) : Int) - 1)), (b0_2.getD i6.toNat 0)))] : List (Int × (Int × Int)))) ++ ([(3, (sum5, (IntKind.wrap .i64 (((((h1 ++ ([(1, ((b0_1.getD i6.toNat 0), 0))] : List (Int × (Int × Int)))) ++ ([(2, ((IntKind.wrap .i64 ((((h1 ++ ([(1, ((b0_1.getD i6.toNat 0), 0))] : List (Int × (Int × Int)))).length : Nat) : Int) - 1)), (b0_2.getD i6.toNat 0)))] : List (Int × (Int × Int)))).length : Nat) : Int) - 1))))] : List (Int × (Int × Int)))).length : Nat) : Int) - 1)) (IntKind.wrap .i64 (i6 + 1)) b0_0 b0_1 b0_2 (((h1 ++ ([(1, ((b0_1.getD i6.toNat 0), 0))] : List (Int × (Int × Int)))) ++ ([(2, ((IntKind.wrap .i64 ((((h1 ++ ([(1, ((b0_1.getD i6.toNat 0), 0))] : List (Int × (Int × Int)))).length : Nat) : Int) - 1)), (b0_2.getD i6.toNat 0)))] : List (Int × (Int × Int)))) ++ ([(3, (sum5, (IntKind.wrap .i64 (((((h1 ++ ([(1, ((b0_1.getD i6.toNat 0), 0))] : List (Int × (Int × Int)))) ++ ([(2, ((IntKind.wrap .i64 ((((h1 ++ ([(1, ((b0_1.getD i6.toNat 0), 0))] : List (Int × (Int × Int)))).length : Nat) : Int) - 1)), (b0_2.getD i6.toNat 0)))] : List (Int × (Int × Int)))).length : Nat) : Int) - 1))))] : List (Int × (Int × Int))))))) (
              FL E H42 Try.f42 0 r lh 0 (S42_L0 (IntKind.wrap .i64 (((((h1 ++ ([(1, ((b0_1.getD i6.toNat 0), 0))] : List (Int × (Int × Int)))) ++ ([(2, ((IntKind.wrap .i64 ((((h1 ++ ([(1, ((b0_1.getD i6.toNat 0), 0))] : List (Int × (Int × Int)))).length : Nat) : Int) - 1)), (b0_2.getD i6.toNat 0)))] : List (Int × (Int × Int)))).length : Nat) : Int) - 1)) (IntKind.wrap .i64 (i6 + 1)) b0_0 b0_1 b0_2 ((h1 ++ ([(1, ((b0_1.getD i6.toNat 0), 0))] : List (Int × (Int × Int)))) ++ ([(2, ((IntKind.wrap .i64 ((((h1 ++ ([(1, ((b0_1.getD i6.toNat 0), 0))] : List (Int × (Int × Int)))).length : Nat) : Int) - 1)), (b0_2.getD i6.toNat 0)))] : List (Int × (Int × Int)))))))))) (
          Br (decide ((0 : Int) ≤ sum5)) (
           Ck (Nat.ble (((h1 ++ ([(1, ((b0_1.getD i6.toNat 0), 0))] : List (Int × (Int × Int)))).length + 1) * 24) roomy) (
            FL E H42 Try.f42 0 r lh 0 (S42_L0 (IntKind.wrap .i64 (((((h1 ++ ([(1, ((b0_1.getD i6.toNat 0), 0))] : List (Int × (Int × Int)))) ++ ([(3, (sum5, (IntKind.wrap .i64 ((((h1 ++ ([(1, ((b0_1.getD i6.toNat 0), 0))] : List (Int × (Int × Int)))).length : Nat) : Int) - 1))))] : List (Int × (Int × Int)))).length : Nat) : Int) - 1)) (IntKind.wrap .i64 (i6 + 1)) b0_0 b0_1 b0_2 ((h1 ++ ([(1, ((b0_1.getD i6.toNat 0), 0))] : List (Int × (Int × Int)))) ++ ([(3, (sum5, (IntKind.wrap .i64 ((((h1 ++ ([(1, ((b0_1.getD i6.toNat 0), 0))] : List (Int × (Int × Int)))).length : Nat) : Int) - 1))))] : List (Int × (Int × Int))))))) (
           FL E H42 Try.f42 0 r lh 0 (S42_L0 (IntKind.wrap .i64 ((((h1 ++ ([(1, ((b0_1.getD i6.toNat 0), 0))] : List (Int × (Int × Int)))).length : Nat) : Int) - 1)) (IntKind.wrap .i64 (i6 + 1)) b0_0 b0_1 b0_2 (h1 ++ ([(1, ((b0_1.getD i6.toNat 0), 0))] : List (Int × (Int × Int))))))))))))) (
    Ret r lh [.one (.sl 0 none), .one (.bool true)] [.row (.pair (.int .i64) (.pair (.int .i64) (.int .i64))) h1 .own])) := by kernel_rfl
theorem l42 (p : Pln) (h4 : p.2.1.length ≤ 4) (he : p.2.2.length = p.2.1.length) : ∀ (n i : Nat) (sum : Int) (out : List Step), i + n = p.2.1.length → out.length ≤ 3 * i → (0 ≤ sum ↔ 0 < i) → FL E H42 Try.f42 0 [.one (.sl 0 none), .one (.bool true)] [.row (.pair (.int .i64) (.pair (.int .i64) (.int .i64))) (progOfR p.2.1 p.2.2 i n sum out) .own] 0 (S42_L0 sum (i : Int) p.1 p.2.1 p.2.2 out)
  | 0, i, sum, out, h, ho, hs => by
    refine FL_of1 ?_
    rw [eq42_L0, progOfR]
    exact Br_f (by omega) ⟨rfl, rfl⟩
  | n + 1, i, sum, out, h, ho, hs => by
    have hl := progStep_len (f := p.2.1) (b := p.2.2) (sum := sum) (out := out) (i := i)
    have ih := l42 p h4 he n (i + 1) (((progStep p.2.1 p.2.2 sum out i).length : Int) - 1) (progStep p.2.1 p.2.2 sum out i) (by omega) (by omega) (by omega)
    refine FL_of1 ?_
    rw [eq42_L0, wS (by omega), progOfR]
    simp only [Int.toNat_natCast]
    have o1 : (out ++ [st1 (p.2.1.getD i 0)]).length = out.length + 1 := by simp
    rw [wrap64 (n := ((out ++ [st1 (p.2.1.getD i 0)]).length : Int) - 1) (by omega) (by omega)]
    have o2 : ((out ++ [st1 (p.2.1.getD i 0)]) ++ [st2 (((out ++ [st1 (p.2.1.getD i 0)]).length : Int) - 1) (p.2.2.getD i 0)]).length = out.length + 2 := by simp
    rw [wrap64 (n := (((out ++ [st1 (p.2.1.getD i 0)]) ++ [st2 (((out ++ [st1 (p.2.1.getD i 0)]).length : Int) - 1) (p.2.2.getD i 0)]).length : Int) - 1) (by omega) (by omega)]
    have o3 : (((out ++ [st1 (p.2.1.getD i 0)]) ++ [st2 (((out ++ [st1 (p.2.1.getD i 0)]).length : Int) - 1) (p.2.2.getD i 0)]) ++ [st3 sum ((((out ++ [st1 (p.2.1.getD i 0)]) ++ [st2 (((out ++ [st1 (p.2.1.getD i 0)]).length : Int) - 1) (p.2.2.getD i 0)]).length : Int) - 1)]).length = out.length + 3 := by simp
    rw [wrap64 (n := ((((out ++ [st1 (p.2.1.getD i 0)]) ++ [st2 (((out ++ [st1 (p.2.1.getD i 0)]).length : Int) - 1) (p.2.2.getD i 0)]) ++ [st3 sum ((((out ++ [st1 (p.2.1.getD i 0)]) ++ [st2 (((out ++ [st1 (p.2.1.getD i 0)]).length : Int) - 1) (p.2.2.getD i 0)]).length : Int) - 1)]).length : Int) - 1) (by omega) (by omega)]
    have o4 : ((out ++ [st1 (p.2.1.getD i 0)]) ++ [st3 sum (((out ++ [st1 (p.2.1.getD i 0)]).length : Int) - 1)]).length = out.length + 2 := by simp
    rw [wrap64 (n := (((out ++ [st1 (p.2.1.getD i 0)]) ++ [st3 sum (((out ++ [st1 (p.2.1.getD i 0)]).length : Int) - 1)]).length : Int) - 1) (by omega) (by omega)]
    refine Br_t (by omega) (Ck_d (by omega) (Ck_d (by omega) (Ck_room (by first | omega | (simp only [List.length_append, List.length_cons, List.length_nil]; omega)) (Ck_d (by omega) (Ck_d (by omega) (Br_nd (fun hb => ?_) (fun hb => ?_)))))))
    · refine Ck_d (by omega) (Ck_d (by omega) (Ck_room (by first | omega | (simp only [List.length_append, List.length_cons, List.length_nil]; omega)) (Br_d (fun hi => Ck_room (by first | omega | (simp only [List.length_append, List.length_cons, List.length_nil]; omega)) ?_) (fun hi => ?_))))
      · have e : progStep p.2.1 p.2.2 sum out i = ((out ++ [st1 (p.2.1.getD i 0)]) ++ [st2 (((out ++ [st1 (p.2.1.getD i 0)]).length : Int) - 1) (p.2.2.getD i 0)]) ++ [st3 sum ((((out ++ [st1 (p.2.1.getD i 0)]) ++ [st2 (((out ++ [st1 (p.2.1.getD i 0)]).length : Int) - 1) (p.2.2.getD i 0)]).length : Int) - 1)] := by
          rw [progStep, decide_eq_false hb, decide_eq_false (show ¬ i = 0 by omega)]; rfl
        rw [e] at ih ⊢
        exact ih
      · have e : progStep p.2.1 p.2.2 sum out i = (out ++ [st1 (p.2.1.getD i 0)]) ++ [st2 (((out ++ [st1 (p.2.1.getD i 0)]).length : Int) - 1) (p.2.2.getD i 0)] := by
          rw [progStep, decide_eq_false hb, decide_eq_true (show i = 0 by omega)]; rfl
        rw [e] at ih ⊢
        exact ih
    · refine Br_d (fun hi => Ck_room (by first | omega | (simp only [List.length_append, List.length_cons, List.length_nil]; omega)) ?_) (fun hi => ?_)
      · have e : progStep p.2.1 p.2.2 sum out i = (out ++ [st1 (p.2.1.getD i 0)]) ++ [st3 sum (((out ++ [st1 (p.2.1.getD i 0)]).length : Int) - 1)] := by
          rw [progStep, decide_eq_true (show p.2.2.getD i 0 = 1 from hb), decide_eq_false (show ¬ i = 0 by omega)]; rfl
        rw [e] at ih ⊢
        exact ih
      · have e : progStep p.2.1 p.2.2 sum out i = out ++ [st1 (p.2.1.getD i 0)] := by
          rw [progStep, decide_eq_true (show p.2.2.getD i 0 = 1 from hb), decide_eq_true (show i = 0 by omega)]; rfl
        rw [e] at ih ⊢
        exact ih
theorem progOfR_start {f b : List Int} {n : Nat} {s s' : Int} {out : List Step} : progOfR f b 0 n s out = progOfR f b 0 n s' out := by
  cases n
  · rfl
  · rfl
theorem c42 (p : Pln) (hl : p.2.1.length ≤ 1048576) (hb : p.2.2.length ≤ 1048576) : SC P 42 [.agg [.int .i64 p.1, .ro (.int .i64) p.2.1, .ro (.int .i64) p.2.2]] [] [.one (.sl 0 none), .one (.bool (formed p))] [.row (.pair (.int .i64) (.pair (.int .i64) (.int .i64))) (progOfF p) .own] := by
  refine SC_of_FB (H := H42) E_ok Try.func42 (by kernel_rfl) ?_
  rw [eq42]
  refine ⟨_, c91 p hl hb, Br_nb (fun e => ⟨by rw [e], by rw [progOfF, e]; rfl⟩) (fun e => ?_)⟩
  have h := formed_iff e
  rw [progOfF, e, progOfR_start (s := 0) (s' := -1)]
  exact l42 p h.1.2 h.2.1 p.2.1.length 0 (-1) [] (by omega) (by simp) (by omega)
/-! loop.example/keelson/laws.szIntS -/
def H90 : Hint := ⟨[], [], [], [], [], []⟩
theorem eq90 (a : List Int) (left : Int) (r : List W) (lh : Heap) : FB E H90 Try.f90 [.one (.ro (.int .i64) a), .one (.int .i64 left)] [] r lh =
  (
   Br (decide ((IntKind.wrap .i64 (left - ((a.length : Nat) : Int))) < (0 : Int))) (
    Ret r lh [.one (.int .i64 (-1))] []) (
    Ret r lh [.one (.int .i64 (IntKind.wrap .i64 (left - ((a.length : Nat) : Int))))] [])) := by kernel_rfl
theorem c90 (l : List Int) (m : Int) (hl : l.length ≤ 9223372036854775807) (h0 : 0 ≤ m) (h1 : m ≤ 1048576) : SC P 90 [.one (.ro (.int .i64) l), .one (.int .i64 m)] [] [.one (.int .i64 (bif decide ((l.length : Int) ≤ m) then m - (l.length : Int) else -1))] [] := by
  refine SC_of_FB (H := H90) E_ok Try.func90 (by kernel_rfl) ?_
  rw [eq90]
  rw [wrap64 (by omega) (by omega)]
  refine Br_d (fun h => ⟨?_, rfl⟩) (fun h => ⟨?_, rfl⟩)
  · rw [decide_eq_false (by omega)]; rfl
  · rw [decide_eq_true (by omega)]; rfl
/-! loop.example/keelson/laws.szPlan -/
def H41 : Hint := ⟨[], [], [], [], [], []⟩
theorem eq41 (a : (Int × (List Int × List Int))) (left : Int) (r : List W) (lh : Heap) : FB E H41 Try.f41 [.agg [.int .i64 a.1, .ro (.int .i64) a.2.1, .ro (.int .i64) a.2.2], .one (.int .i64 left)] [] r lh =
  (
   ∃ r0 : Int, SC P 90 [.one (.ro (.int .i64) a.2.1), .one (.int .i64 left)] [] [.one (.int .i64 r0)] [] ∧
    Br (decide (r0 < (0 : Int))) (
     Ret r lh [.one (.int .i64 (-1))] []) (
     ∃ r1 : Int, SC P 90 [.one (.ro (.int .i64) a.2.2), .one (.int .i64 r0)] [] [.one (.int .i64 r1)] [] ∧
      Br (decide (r1 < (0 : Int))) (
       Ret r lh [.one (.int .i64 (-1))] []) (
       Ret r lh [.one (.int .i64 r1)] []))) := by kernel_rfl
theorem c41 (p : Pln) (h1 : p.2.1.length ≤ 9223372036854775807) (h2 : p.2.2.length ≤ 9223372036854775807) : SC P 41 [.agg [.int .i64 p.1, .ro (.int .i64) p.2.1, .ro (.int .i64) p.2.2], .one (.int .i64 1048576)] [] [.one (.int .i64 (bif decide (p.2.1.length + p.2.2.length ≤ 1048576) then 1048576 - (p.2.1.length : Int) - (p.2.2.length : Int) else -1))] [] := by
  refine SC_of_FB (H := H41) E_ok Try.func41 (by kernel_rfl) ?_
  rw [eq41]
  refine ⟨_, c90 _ 1048576 h1 (by omega) (by omega), ?_⟩
  by_cases c1 : (p.2.1.length : Int) ≤ 1048576
  · rw [decide_eq_true c1, cond_true]
    refine Br_f (by omega) ⟨_, c90 _ (1048576 - (p.2.1.length : Int)) h2 (by omega) (by omega), ?_⟩
    by_cases c2 : (p.2.2.length : Int) ≤ 1048576 - (p.2.1.length : Int)
    · rw [decide_eq_true c2, cond_true, decide_eq_true (show p.2.1.length + p.2.2.length ≤ 1048576 by omega), cond_true]
      exact Br_f (by omega) ⟨rfl, rfl⟩
    · rw [decide_eq_false c2, cond_false, decide_eq_false (show ¬ p.2.1.length + p.2.2.length ≤ 1048576 by omega), cond_false]
      exact Br_t (by omega) ⟨rfl, rfl⟩
  · rw [decide_eq_false c1, cond_false, decide_eq_false (show ¬ p.2.1.length + p.2.2.length ≤ 1048576 by omega), cond_false]
    exact Br_t (by omega) ⟨rfl, rfl⟩
/-! loop.example/keelson/laws.toPlan -/
def H43 : Hint := ⟨[], [], [], [], [], []⟩
theorem eq43 (a : (Int × (List Int × List Int))) (r : List W) (lh : Heap) : FB E H43 Try.f43 [.agg [.int .i64 a.1, .ro (.int .i64) a.2.1, .ro (.int .i64) a.2.2]] [] r lh =
  (
   ∃ r0 : List Int, SC P 31 [.one (.ro (.int .i64) a.2.1)] [] [.one (.sl 0 none)] [.row (.int .i64) r0 .own] ∧
    ∃ r1 : List Int, SC P 31 [.one (.ro (.int .i64) a.2.2)] [] [.one (.sl 0 none)] [.row (.int .i64) r1 .own] ∧
     Ret r lh [.agg [.int .i64 a.1, .sl 0 none, .sl 1 none]] [.row (.int .i64) r0 .own, .row (.int .i64) r1 .own]) := by kernel_rfl
theorem c43 (p : Pln) (hl : p.2.1.length ≤ 1048576) (hb : p.2.2.length ≤ 1048576) : SC P 43 [.agg [.int .i64 p.1, .ro (.int .i64) p.2.1, .ro (.int .i64) p.2.2]] [] [.agg [.int .i64 p.1, .sl 0 none, .sl 1 none]] [.row (.int .i64) p.2.1 .own, .row (.int .i64) p.2.2 .own] := by
  refine SC_of_FB (H := H43) E_ok Try.func43 (by kernel_rfl) ?_
  rw [eq43]
  exact ⟨_, c31 _ hl, _, c31 _ hb, rfl, rfl⟩
/-! loop.example/keelson/laws.eqPlan -/
def H46 : Hint := ⟨[], [], [], [], [], []⟩
theorem eq46 (a : (Int × (List Int × List Int))) (b : (Int × (List Int × List Int))) (r : List W) (lh : Heap) : FB E H46 Try.f46 [.agg [.int .i64 a.1, .ro (.int .i64) a.2.1, .ro (.int .i64) a.2.2], .agg [.int .i64 b.1, .ro (.int .i64) b.2.1, .ro (.int .i64) b.2.2]] [] r lh =
  (
   Br (!(decide (a.1 = b.1))) (
    Ret r lh [.one (.bool false)] []) (
    ∃ r0 : Bool, SC P 26 [.one (.ro (.int .i64) a.2.1), .one (.ro (.int .i64) b.2.1)] [] [.one (.bool r0)] [] ∧
     Br (!r0) (
      Ret r lh [.one (.bool false)] []) (
      ∃ r1 : Bool, SC P 26 [.one (.ro (.int .i64) a.2.2), .one (.ro (.int .i64) b.2.2)] [] [.one (.bool r1)] [] ∧
       Br (!r1) (
        Ret r lh [.one (.bool false)] []) (
        Ret r lh [.one (.bool true)] [])))) := by kernel_rfl
theorem c46 (p : Pln) (hl : p.2.1.length ≤ 1048576) (hb : p.2.2.length ≤ 1048576) : SC P 46 [.agg [.int .i64 p.1, .ro (.int .i64) p.2.1, .ro (.int .i64) p.2.2], .agg [.int .i64 p.1, .ro (.int .i64) p.2.1, .ro (.int .i64) p.2.2]] [] [.one (.bool true)] [] := by
  refine SC_of_FB (H := H46) E_ok Try.func46 (by kernel_rfl) ?_
  rw [eq46]
  have s1 := c26 p.2.1 p.2.1 hl
  have s2 := c26 p.2.2 p.2.2 hb
  rw [decide_eq_true rfl] at s1 s2
  exact Br_nd (fun e => absurd rfl e) (fun _ => ⟨_, s1, Br_nb (fun e => by cases e) (fun _ => ⟨_, s2, Br_nb (fun e => by cases e) (fun _ => ⟨rfl, rfl⟩)⟩)⟩)
/-! loop.example/keelson/laws.markPlan -/
def H47 : Hint := ⟨[], [], [], [], [], []⟩
theorem eq47 (s : Int) (a : List Int) (b : List Int) (k : Int) (r : List W) (lh : Heap) : FB E H47 Try.f47 [.agg [.int .i64 s, .sl 0 none, .sl 1 none], .one (.int .i64 k)] [.row (.int .i64) a .own, .row (.int .i64) b .own] r lh =
  (
   ∃ r0 : List Int × Int, SC P 27 [.one (.sl 0 none), .one (.int .i64 k)] [.row (.int .i64) a .own] [.one (.int .i64 r0.2)] [.row (.int .i64) r0.1 .own] ∧
    ∃ r1 : List Int × Int, SC P 27 [.one (.sl 0 none), .one (.int .i64 r0.2)] [.row (.int .i64) b .own] [.one (.int .i64 r1.2)] [.row (.int .i64) r1.1 .own] ∧
     Ret r lh [.one (.int .i64 r1.2)] [.row (.int .i64) r0.1 .own, .row (.int .i64) r1.1 .own]) := by kernel_rfl
theorem c47 (s : Int) (a b : List Int) (k : Int) (h1 : a.length ≤ 1048576) (h2 : b.length ≤ 1048576) (k0 : 0 ≤ k) (k1 : k ≤ 1000) : SC P 47 [.agg [.int .i64 s, .sl 0 none, .sl 1 none], .one (.int .i64 k)] [.row (.int .i64) a .own, .row (.int .i64) b .own]
    [.one (.int .i64 (k + a.length + b.length))] [.row (.int .i64) (marks (fun k : Int => k) k a.length) .own, .row (.int .i64) (marks (fun k : Int => k) (k + a.length) b.length) .own] := by
  refine SC_of_FB (H := H47) E_ok Try.func47 (by kernel_rfl) ?_
  rw [eq47]
  exact ⟨(_, _), c27 a k h1 k0 (by omega), (_, _), c27 b (k + a.length) h2 (by omega) (by omega), rfl, rfl⟩
/-! loop.example/keelson/laws.FnExactProgOf -/
def H10 : Hint := ⟨[], [], [(10, [0, 1, 2, 3, 4])], [], [], []⟩
theorem eq10 (aP : (Int × (List Int × List Int))) (r : List W) (lh : Heap) : FB E H10 Try.f10 [.agg [.int .i64 aP.1, .ro (.int .i64) aP.2.1, .ro (.int .i64) aP.2.2]] [] r lh =
  (
   ∃ r0 : Int, SC P 41 [.agg [.int .i64 aP.1, .ro (.int .i64) aP.2.1, .ro (.int .i64) aP.2.2], .one (.int .i64 1048576)] [] [.one (.int .i64 r0)] [] ∧
    Br (decide (r0 < (0 : Int))) (
     Ret r lh [.one (.bool true)] []) (
     ∃ r1 : Int × List Int × List Int, SC P 43 [.agg [.int .i64 aP.1, .ro (.int .i64) aP.2.1, .ro (.int .i64) aP.2.2]] [] [.agg [.int .i64 r1.1, .sl 0 none, .sl 1 none]] [.row (.int .i64) r1.2.1 .own, .row (.int .i64) r1.2.2 .own] ∧
      ∃ r2 : List (Int × (Int × Int)) × Bool, SC P 42 [.agg [.int .i64 r1.1, .ro (.int .i64) r1.2.1, .ro (.int .i64) r1.2.2]] [] [.one (.sl 0 none), .one (.bool r2.2)] [.row (.pair (.int .i64) (.pair (.int .i64) (.int .i64))) r2.1 .own] ∧
       ∃ r3 : Int × List Int × List Int, SC P 43 [.agg [.int .i64 aP.1, .ro (.int .i64) aP.2.1, .ro (.int .i64) aP.2.2]] [] [.agg [.int .i64 r3.1, .sl 0 none, .sl 1 none]] [.row (.int .i64) r3.2.1 .own, .row (.int .i64) r3.2.2 .own] ∧
        ∃ r4 : List (Int × (Int × Int)) × Bool, SC P 44 [.agg [.int .i64 r3.1, .ro (.int .i64) r3.2.1, .ro (.int .i64) r3.2.2]] [] [.one (.sl 0 none), .one (.bool r4.2)] [.row (.pair (.int .i64) (.pair (.int .i64) (.int .i64))) r4.1 .own] ∧
         ∃ r5 : Bool, SC P 45 [.one (.ro (.pair (.int .i64) (.pair (.int .i64) (.int .i64))) r4.1), .one (.ro (.pair (.int .i64) (.pair (.int .i64) (.int .i64))) r2.1)] [] [.one (.bool r5)] [] ∧
          Br (!r5) (
           Ret r lh [.one (.bool false)] []) (
           Br (r4.2 != r2.2) (
            Ret r lh [.one (.bool false)] []) (
            ∃ r6 : Int × List Int × List Int, SC P 43 [.agg [.int .i64 aP.1, .ro (.int .i64) aP.2.1, .ro (.int .i64) aP.2.2]] [] [.agg [.int .i64 r6.1, .sl 0 none, .sl 1 none]] [.row (.int .i64) r6.2.1 .own, .row (.int .i64) r6.2.2 .own] ∧
             ∃ r7 : Bool, SC P 46 [.agg [.int .i64 r3.1, .ro (.int .i64) r3.2.1, .ro (.int .i64) r3.2.2], .agg [.int .i64 r6.1, .ro (.int .i64) r6.2.1, .ro (.int .i64) r6.2.2]] [] [.one (.bool r7)] [] ∧
              Br (!r7) (
               Ret r lh [.one (.bool false)] []) (
               ∃ r8 : List Int × List Int × Int, SC P 47 [.agg [.int .i64 r3.1, .sl 0 none, .sl 1 none], .one (.int .i64 1)] [.row (.int .i64) r3.2.1 .own, .row (.int .i64) r3.2.2 .own] [.one (.int .i64 r8.2.2)] [.row (.int .i64) r8.1 .own, .row (.int .i64) r8.2.1 .own] ∧
                Br (decide (r8.2.2 < (0 : Int))) (
                 Ret r lh [.one (.bool false)] []) (
                 ∃ r9 : Bool, SC P 45 [.one (.ro (.pair (.int .i64) (.pair (.int .i64) (.int .i64))) r4.1), .one (.ro (.pair (.int .i64) (.pair (.int .i64) (.int .i64))) r2.1)] [] [.one (.bool r9)] [] ∧
                  Br (!r9) (
                   Ret r lh [.one (.bool false)] []) (
                   Br (r4.2 != r2.2) (
                    Ret r lh [.one (.bool false)] []) (
                    ∃ r10 : List (Int × (Int × Int)) × Int, SC P 48 [.one (.sl 0 none), .one (.int .i64 1)] [.row (.pair (.int .i64) (.pair (.int .i64) (.int .i64))) r4.1 .own] [.one (.int .i64 r10.2)] [.row (.pair (.int .i64) (.pair (.int .i64) (.int .i64))) r10.1 .own] ∧
                     ∃ r11 : Int, SC P 49 [.one (.ro (.pair (.int .i64) (.pair (.int .i64) (.int .i64))) r10.1), .one (.int .i64 1)] [] [.one (.int .i64 r11)] [] ∧
                      Br (decide (r11 < (0 : Int))) (
                       Ret r lh [.one (.bool false)] []) (
                       Br (!(decide (r11 = r10.2))) (
                        Ret r lh [.one (.bool false)] []) (
                        ∃ r12 : Int × List Int × List Int, SC P 43 [.agg [.int .i64 aP.1, .ro (.int .i64) aP.2.1, .ro (.int .i64) aP.2.2]] [] [.agg [.int .i64 r12.1, .sl 0 none, .sl 1 none]] [.row (.int .i64) r12.2.1 .own, .row (.int .i64) r12.2.2 .own] ∧
                         ∃ r13 : List (Int × (Int × Int)) × Bool, SC P 44 [.agg [.int .i64 r12.1, .ro (.int .i64) r12.2.1, .ro (.int .i64) r12.2.2]] [] [.one (.sl 0 none), .one (.bool r13.2)] [.row (.pair (.int .i64) (.pair (.int .i64) (.int .i64))) r13.1 .own] ∧
                          ∃ r14 : Bool, SC P 45 [.one (.ro (.pair (.int .i64) (.pair (.int .i64) (.int .i64))) r13.1), .one (.ro (.pair (.int .i64) (.pair (.int .i64) (.int .i64))) r2.1)] [] [.one (.bool r14)] [] ∧
                           Br (!r14) (
                            Ret r lh [.one (.bool false)] []) (
                            Br (r13.2 != r2.2) (
                             Ret r lh [.one (.bool false)] []) (
                             ∃ r15 : Int, SC P 49 [.one (.ro (.pair (.int .i64) (.pair (.int .i64) (.int .i64))) r10.1), .one (.int .i64 1)] [] [.one (.int .i64 r15)] [] ∧
                              Br (decide (r15 < (0 : Int))) (
                               Ret r lh [.one (.bool false)] []) (
                               Br (!(decide (r15 = r10.2))) (
                                Ret r lh [.one (.bool false)] []) (
                                Ret r lh [.one (.bool true)] [])))))))))))))) := by kernel_rfl
theorem c10 (p : Pln) (h1 : p.2.1.length ≤ 9223372036854775807) (h2 : p.2.2.length ≤ 9223372036854775807) : SC P 10 [.agg [.int .i64 p.1, .ro (.int .i64) p.2.1, .ro (.int .i64) p.2.2]] [] [.one (.bool true)] [] := by
  refine SC_of_FB (H := H10) E_ok Try.func10 (by kernel_rfl) ?_
  rw [eq10]
  refine ⟨_, c41 p h1 h2, ?_⟩
  by_cases h : p.2.1.length + p.2.2.length ≤ 1048576
  · rw [decide_eq_true h, cond_true]
    have hl : p.2.1.length ≤ 1048576 := by omega
    have hb : p.2.2.length ≤ 1048576 := by omega
    have hr : (progOfF p).length ≤ 1048576 := Nat.le_trans progOfF_len (by omega)
    have s0 := c43 p hl hb
    have s1 := c42 p hl hb
    have s2 := c44 p hl hb
    have sE := c45 (progOfF p) (progOfF p) hr
    rw [decide_eq_true rfl] at sE
    have sP := c46 p hl hb
    have sH := c49 1 (progOfF p).length hr (by omega) (by omega)
    refine Br_f (by omega) ⟨p, s0, (progOfF p, formed p), s1, p, s0, (progOfF p, formed p), s2, _, sE, Br_nb (fun e => by cases e) (fun _ => Br_ne ⟨p, s0, _, sP, Br_nb (fun e => by cases e) (fun _ => ?_)⟩)⟩
    refine ⟨(_, _, _), c47 p.1 p.2.1 p.2.2 1 hl hb (by omega) (by omega), Br_f (by dsimp only; omega) ⟨_, sE, Br_nb (fun e => by cases e) (fun _ => Br_ne ?_)⟩⟩
    refine ⟨(_, _), c48 (progOfF p) 1 hr (by omega) (by omega), _, sH, Br_f (by omega) (Br_nd (fun e => absurd rfl e) (fun _ => ?_))⟩
    refine ⟨p, s0, (progOfF p, formed p), s2, _, sE, Br_nb (fun e => by cases e) (fun _ => Br_ne ?_)⟩
    exact ⟨_, sH, Br_f (by omega) (Br_nd (fun e => absurd rfl e) (fun _ => ⟨rfl, rfl⟩))⟩
  · rw [decide_eq_false h, cond_false]
    exact Br_t (by omega) ⟨rfl, rfl⟩
end Go.Proofs.Ythehpbbibfallaa.Sh
