/- The one that does not fit: the contract of the reference's function. -/
import Derived.Test.YtlebgbcoljnejaaShS2
namespace Go.Proofs.Ytlebgbcoljnejaa.Sh
open Go
set_option linter.unusedVariables false
set_option linter.unusedSimpArgs false
/-! loop.example/keelson/spec.ReadFind -/
def H54 : Hint := ⟨[[(0, 0, .bool), (1, 0, .bool), (2, 0, .bool), (7, 0, .bool), (8, 0, .bool)]], [], [], [], [], [], []⟩
def S54_L0 (kind0 : Int) (vals1 : List Int) (there2 : List Bool) (found7 : Int) (x8 : Int) : St := ⟨[(0, .w (.one (.int .i64 kind0))), (1, .w (.one (.ro (.int .i64) vals1))), (2, .w (.one (.ro .bool there2))), (7, .w (.one (.int .i64 found7))), (8, .w (.one (.int .i64 x8)))], []⟩
theorem eq54 (kind : Int) (vals : List Int) (there : List Bool) (r : List W) (lh : Heap) : FB E H54 Try.f54 [.one (.int .i64 kind), .one (.ro (.int .i64) vals), .one (.ro .bool there)] [] r lh =
  (
   ∃ r0 : Bool, SC P 78 [.one (.int .i64 kind)] [] [.one (.bool r0)] [] ∧
    Br (!r0) (
     Ret r lh [.one (.int .i64 (-2))] []) (
     ∃ r1 : Bool, SC P 103 [.one (.ro (.int .i64) vals), .one (.ro .bool there)] [] [.one (.bool r1)] [] ∧
      Br (!r1) (
       Ret r lh [.one (.int .i64 (-2))] []) (
       ∃ r2 : Bool, SC P 108 [.one (.int .i64 kind), .one (.ro (.int .i64) vals), .one (.ro .bool there)] [] [.one (.bool r2)] [] ∧
        Br r2 (
         Ret r lh [.one (.int .i64 (-1))] []) (
         FL E H54 Try.f54 0 r lh 0 (S54_L0 kind vals there (-2) 0))))) := by kernel_rfl
theorem eq54_L0 (kind0 : Int) (vals1 : List Int) (there2 : List Bool) (found7 : Int) (x8 : Int) (r : List W) (lh : Heap) : FL1 E H54 Try.f54 0 r lh 0 (S54_L0 kind0 vals1 there2 found7 x8) =
  (
   Br (decide (x8 < (8 : Int))) (
    Ck (Nat.ble ((0 + there2.length) * 1) roomy) (
     Ck (decide ((0 : Int) ≤ x8)) (
      Ck (decide (x8 < ((([] ++ there2).length : Nat) : Int))) (
       Ck (Nat.ble (x8.toNat + 1) (([] ++ there2).length)) (
        Ck (decide ((0 : Int) ≤ x8)) (
         Ck (decide (x8 < ((there2.length : Nat) : Int))) (
          Br (there2.getD x8.toNat false) (
           ∃ r0 : Bool, SC P 108 [.one (.int .i64 kind0), .one (.ro (.int .i64) vals1), .one (.ro .bool (([] ++ there2).set x8.toNat false))] [] [.one (.bool r0)] [] ∧
            Br r0 (
             Br (decide ((0 : Int) ≤ found7)) (
              Ret r lh [.one (.int .i64 (-2))] []) (
              FL E H54 Try.f54 0 r lh 0 (S54_L0 kind0 vals1 there2 x8 (IntKind.wrap .i64 (x8 + 1))))) (
             FL E H54 Try.f54 0 r lh 0 (S54_L0 kind0 vals1 there2 found7 (IntKind.wrap .i64 (x8 + 1))))) (
           FL E H54 Try.f54 0 r lh 0 (S54_L0 kind0 vals1 there2 found7 (IntKind.wrap .i64 (x8 + 1))))))))))) (
    Ret r lh [.one (.int .i64 found7)] [])) := by kernel_rfl
def findQ (kind : Int) (vals : List Int) (there : List Bool) : Nat → Nat → Int → Int
  | _, 0, found => found
  | a, n + 1, found => bif there.getD a false && fitsI kind vals (flagF (there.set a false)) then (bif decide (0 ≤ found) then -2 else findQ kind vals there (a + 1) n (a : Int)) else findQ kind vals there (a + 1) n found
theorem find_same {kind : Int} {vals : List Int} {there : List Bool} (h8 : there.length = 8) : ∀ (n a idx : Nat) (found : Int), (flagF there).drop idx = filterR (fun j => there.getD j false) (fun j => (j : Int)) a n → idx ≤ (flagF there).length →
    findQ kind vals there a n found = findS kind vals (flagF there) idx ((flagF there).length - idx) found
  | 0, a, idx, found, hd, hi => by
    rw [filterR] at hd
    have : (flagF there).length - idx = 0 := by
      have := congrArg List.length hd
      rw [List.length_drop, List.length_nil] at this
      exact this
    rw [this, findQ, findS]
  | n + 1, a, idx, found, hd, hi => by
    rw [filterR] at hd
    rw [findQ]
    cases ht : there.getD a false with
    | false =>
      rw [ht, cond_false] at hd
      rw [Bool.false_and, cond_false]
      exact find_same h8 n (a + 1) idx found hd hi
    | true =>
      rw [ht, cond_true] at hd
      have hlt : idx < (flagF there).length := by
        rcases Nat.lt_or_ge idx (flagF there).length with h | h
        · exact h
        · rw [List.drop_eq_nil_of_le h] at hd; cases hd
      rw [drop_cons hlt] at hd
      obtain ⟨e1, e2⟩ := List.cons.inj hd
      have hpa : (flagF there).getD idx 0 = (a : Int) := by rw [getD_eq hlt]; exact e1
      have hls := (flag_ok h8).less idx hlt
      rw [hpa, Int.toNat_natCast] at hls
      rw [Bool.true_and, show (flagF there).length - idx = ((flagF there).length - (idx + 1)) + 1 by omega, findS, hls, hpa]
      cases fitsI kind vals (flagF (there.set a false))
      · rw [cond_false, Bool.not_false, cond_true]
        exact find_same h8 n (a + 1) (idx + 1) found e2 (by omega)
      · rw [cond_true, Bool.not_true, cond_false]
        cases decide (0 ≤ found)
        · exact find_same h8 n (a + 1) (idx + 1) (a : Int) e2 (by omega)
        · rfl
theorem l54 (kind : Int) (hk : inB kind 1 2 = true) (vals : List Int) (hv : ValsP vals) (there : List Bool) (h8 : there.length = 8) : ∀ (n a : Nat) (found : Int), a + n = 8 → FL E H54 Try.f54 0 [.one (.int .i64 (findQ kind vals there a n found))] [] 0 (S54_L0 kind vals there found (a : Int))
  | 0, a, found, h => by
    refine FL_of1 ?_
    rw [eq54_L0]
    exact Br_f (by omega) ⟨rfl, rfl⟩
  | n + 1, a, found, h => by
    refine FL_of1 ?_
    rw [eq54_L0, wS (i := a) (by omega), findQ]
    simp only [Int.toNat_natCast, List.nil_append]
    refine Br_t (by omega) (Ck_room (by omega) (Ck_d (by omega) (Ck_d (by omega) (Ck_le (by omega) (Ck_d (by omega) (Ck_d (by omega) (Br_b (fun e => ?_) (fun e => ?_))))))))
    · rw [e, Bool.true_and]
      refine ⟨_, c108 kind hk vals hv _ (by rw [List.length_set]; exact h8), Br_b (fun e2 => Br_d (fun e3 => ?_) (fun e3 => ?_)) (fun e2 => ?_)⟩
      · rw [e2, decide_eq_true e3]; exact ⟨rfl, rfl⟩
      · rw [e2, decide_eq_false e3]; exact l54 kind hk vals hv there h8 n (a + 1) _ (by omega)
      · rw [e2]; exact l54 kind hk vals hv there h8 n (a + 1) found (by omega)
    · rw [e, Bool.false_and, cond_false]
      exact l54 kind hk vals hv there h8 n (a + 1) found (by omega)
theorem c54 (kind : Int) (vals : List Int) (there : List Bool) (hv : vals.length ≤ 1048576) : SC P 54 [.one (.int .i64 kind), .one (.ro (.int .i64) vals), .one (.ro .bool there)] [] [.one (.int .i64 (readFind kind vals there))] [] := by
  refine SC_of_FB (H := H54) E_ok Try.func54 (by kernel_rfl) ?_
  rw [eq54]
  refine ⟨_, c78 kind, Br_nb (fun e => ⟨by rw [readFind, e]; rfl, rfl⟩) (fun e => ⟨_, c103 vals there hv, Br_nb (fun e2 => ?_) (fun e2 => ?_)⟩)⟩
  · refine ⟨?_, rfl⟩
    rw [readFind, e, Bool.true_and, e2]; rfl
  · have e2' := e2
    rw [Bool.and_eq_true, decide_eq_true_iff] at e2
    rw [readFind, e, Bool.true_and, e2', cond_true]
    refine ⟨_, c108 kind e vals (vals_p e2.1) there e2.2, Br_b (fun e4 => ⟨by rw [e4]; rfl, rfl⟩) (fun e4 => ?_)⟩
    rw [e4, cond_false]
    have := find_same (kind := kind) (vals := vals) e2.2 8 0 0 (-2) (by rw [List.drop_zero, flagF, e2.2]) (Nat.zero_le _)
    rw [Nat.sub_zero] at this
    rw [← this]
    exact l54 kind e vals (vals_p e2.1) there e2.2 8 0 (-2) rfl
end Go.Proofs.Ytlebgbcoljnejaa.Sh
