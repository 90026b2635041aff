/- Draws of shards and values: contracts. -/
import Derived.Test.YtjoiadaogppmkaaShP3
import Derived.Test.YtjoiadaogppmkaaShS2
namespace Go.Proofs.Ytjoiadaogppmkaa.Sh
open Go
set_option linter.unusedVariables false
set_option linter.unusedSimpArgs false
/-! loop.example/keelson/spec.l4Set -/
def H76 : Hint := ⟨[[(0, 0, .bool), (3, 0, .bool), (4, 0, .bool)]], [], [], [], [], [], []⟩
def S76_L0 (bits0 : Int) (i4 : Int) (h0 : List Bool) : St := ⟨[(0, .w (.one (.int .i64 bits0))), (3, .w (.one (.sl 0 none))), (4, .w (.one (.int .i64 i4)))], [.row .bool h0 .own]⟩
theorem eq76 (bits : Int) (r : List W) (lh : Heap) : FB E H76 Try.f76 [.one (.int .i64 bits)] [] r lh =
  (
   FL E H76 Try.f76 0 r lh 0 (S76_L0 bits 0 [false, false, false, false, false, false, false, false])) := by kernel_rfl
theorem eq76_L0 (bits0 : Int) (i4 : Int) (h0 : List Bool) (r : List W) (lh : Heap) : FL1 E H76 Try.f76 0 r lh 0 (S76_L0 bits0 i4 h0) =
  (
   Br (decide (i4 < ((h0.length : Nat) : Int))) (
    Ck (decide ((0 : Int) ≤ i4)) (
     Ck (decide (i4 < ((h0.length : Nat) : Int))) (
      Ck (Nat.ble (i4.toNat + 1) h0.length) (
       FL E H76 Try.f76 0 r lh 0 (S76_L0 (IntKind.wrap .i64 (Int.tdiv bits0 2)) (IntKind.wrap .i64 (i4 + 1)) (h0.set i4.toNat (decide ((Int.tmod bits0 2) = (1 : Int))))))))) (
    Ret r lh [.one (.sl 0 none)] [.row .bool h0 .own])) := by kernel_rfl
theorem c76 : SC P 76 [.one (.int .i64 255)] [] [.one (.sl 0 none)] [.row .bool [true, true, true, true, true, true, true, true] .own] := by
  refine SC_of_FB (H := H76) E_ok Try.func76 (by kernel_rfl) ?_
  rw [eq76]
  have step : ∀ (i : Nat) (bits bits' : Int) (h : List Bool), i < 8 → h.length = 8 → bits.tmod 2 = 1 → IntKind.wrap .i64 (bits.tdiv 2) = bits' → FL E H76 Try.f76 0 [.one (.sl 0 none)] [.row .bool [true, true, true, true, true, true, true, true] .own] 0 (S76_L0 bits' ((i + 1 : Nat) : Int) (h.set i true)) →
      FL E H76 Try.f76 0 [.one (.sl 0 none)] [.row .bool [true, true, true, true, true, true, true, true] .own] 0 (S76_L0 bits (i : Int) h) := by
    intro i bits bits' h hi hl hb hw hF
    refine FL_of1 ?_
    rw [eq76_L0, wS (by omega), decide_eq_true hb, hw]
    simp only [Int.toNat_natCast]
    exact Br_t (by omega) (Ck_d (by omega) (Ck_d (by omega) (Ck_le (by omega) hF)))
  refine step 0 255 127 _ (by omega) rfl rfl rfl (step 1 127 63 _ (by omega) rfl rfl rfl (step 2 63 31 _ (by omega) rfl rfl rfl (step 3 31 15 _ (by omega) rfl rfl rfl (step 4 15 7 _ (by omega) rfl rfl rfl (step 5 7 3 _ (by omega) rfl rfl rfl (step 6 3 1 _ (by omega) rfl rfl rfl (step 7 1 0 _ (by omega) rfl rfl rfl ?_)))))))
  refine FL_of1 ?_
  rw [eq76_L0]
  exact Br_f (by simp) ⟨rfl, rfl⟩
/-! loop.example/keelson/spec.l91There -/
def H36 : Hint := ⟨[[(0, 0, .bool), (3, 0, .bool), (4, 0, .bool)]], [], [], [], [.one (.c (.sl .bool))], [], []⟩
def S36_L0 (n4 : Int) (b0_0 : List Int) (b0_1 : Int) (h1 : List Bool) : St := ⟨[(0, .w (.one (.ptr 0 0 0))), (3, .w (.one (.sl 1 none))), (4, .w (.one (.int .i64 n4)))], [.box [.ro (.int .u8) b0_0, .int .i64 b0_1], .row .bool h1 .own]⟩
theorem eq36 (b : List Int) (p : Int) (r : List W) (lh : Heap) : FB E H36 Try.f36 [.one (.ptr 0 0 0)] [.box [.ro (.int .u8) b, .int .i64 p]] r lh =
  (
   ∃ r0 : List Bool, SC P 76 [.one (.int .i64 255)] [] [.one (.sl 0 none)] [.row .bool r0 .own] ∧
    ∃ r1 : List Int × Int × Int, SC P 49 [.one (.ptr 0 0 0), .one (.int .i64 6)] [.box [.ro (.int .u8) b, .int .i64 p]] [.one (.int .i64 r1.2.2)] [.box [.ro (.int .u8) r1.1, .int .i64 r1.2.1]] ∧
     FL E H36 Try.f36 1 r lh 0 (S36_L0 r1.2.2 r1.1 r1.2.1 r0)) := by kernel_rfl
theorem eq36_L0 (n4 : Int) (b0_0 : List Int) (b0_1 : Int) (h1 : List Bool) (r : List W) (lh : Heap) : FL1 E H36 Try.f36 1 r lh 0 (S36_L0 n4 b0_0 b0_1 h1) =
  (
   Br (decide ((0 : Int) < n4)) (
    ∃ r0 : List Int × Int × Int, SC P 49 [.one (.ptr 0 0 0), .one (.int .i64 ((h1.length : Nat) : Int))] [.box [.ro (.int .u8) b0_0, .int .i64 b0_1]] [.one (.int .i64 r0.2.2)] [.box [.ro (.int .u8) r0.1, .int .i64 r0.2.1]] ∧
     Ck (decide ((0 : Int) ≤ r0.2.2)) (
      Ck (decide (r0.2.2 < ((h1.length : Nat) : Int))) (
       Ck (Nat.ble (r0.2.2.toNat + 1) h1.length) (
        FL E H36 Try.f36 1 r lh 0 (S36_L0 (IntKind.wrap .i64 (n4 - 1)) r0.1 r0.2.1 (h1.set r0.2.2.toNat false)))))) (
    ∃ r1 : List Int × Int × Int, SC P 49 [.one (.ptr 0 0 0), .one (.int .i64 40)] [.box [.ro (.int .u8) b0_0, .int .i64 b0_1]] [.one (.int .i64 r1.2.2)] [.box [.ro (.int .u8) r1.1, .int .i64 r1.2.1]] ∧
     Br (decide (r1.2.2 = (0 : Int))) (
      Ck (decide ((1 : Int) ≤ ((h1.length : Nat) : Int))) (
       Ck (decide (((h1.length : Nat) : Int) ≤ ((h1.length : Nat) : Int))) (
        Ck (decide (((h1.length : Nat) : Int) ≤ ((h1.length : Nat) : Int))) (
         Ret r lh [.one (.ro .bool ((h1.drop 1).take (((h1.length : Nat) : Int).toNat - 1)))] [.box [.ro (.int .u8) r1.1, .int .i64 r1.2.1]])))) (
      Ret r lh [.one (.ro .bool h1)] [.box [.ro (.int .u8) r1.1, .int .i64 r1.2.1]]))) := by kernel_rfl
theorem l36 (b : List Int) (hb : RdB b) : ∀ (n : Nat) (p : Int) (h : List Bool), 0 ≤ p → p + n ≤ 20000 → h.length = 8 → ∃ t p', (t : List Bool).length ≤ 8 ∧ 0 ≤ p' ∧ p' ≤ p + n + 1 ∧
    FL E H36 Try.f36 1 [.one (.ro .bool t)] [.box [.ro (.int .u8) b, .int .i64 p']] 0 (S36_L0 (n : Int) b p h)
  | 0, p, h, h0, h1, hl => by
    obtain ⟨v1, a1, b1, s1⟩ := c49 b p 40 hb (by omega) (by omega) (by omega)
    by_cases c0 : v1 = 0
    · refine ⟨(h.drop 1).take ((h.length : Int).toNat - 1), p + 1, by simp; omega, by omega, by omega, ?_⟩
      refine FL_of1 ?_
      rw [eq36_L0]
      exact Br_f (by omega) ⟨(b, p + 1, v1), s1, Br_t c0 (Ck_d (by omega) (Ck_d (by omega) (Ck_d (by omega) ⟨rfl, rfl⟩)))⟩
    · refine ⟨h, p + 1, by omega, by omega, by omega, ?_⟩
      refine FL_of1 ?_
      rw [eq36_L0]
      exact Br_f (by omega) ⟨(b, p + 1, v1), s1, Br_f c0 ⟨rfl, rfl⟩⟩
  | n + 1, p, h, h0, h1, hl => by
    obtain ⟨v1, a1, b1, s1⟩ := c49 b p (h.length : Int) hb (by omega) (by omega) (by omega)
    obtain ⟨t, p', e1, e2, e3, hF⟩ := l36 b hb n (p + 1) (h.set v1.toNat false) (by omega) (by omega) (by rw [List.length_set]; exact hl)
    refine ⟨t, p', e1, e2, by omega, ?_⟩
    refine FL_of1 ?_
    rw [eq36_L0, wrap64 (n := ((n + 1 : Nat) : Int) - 1) (by omega) (by omega), show ((n + 1 : Nat) : Int) - 1 = (n : Int) by omega]
    exact Br_t (by omega) ⟨(b, p + 1, v1), s1, Ck_d (by omega) (Ck_d (by omega) (Ck_le (by dsimp only; omega) hF))⟩
theorem c36 (b : List Int) (p : Int) (hb : RdB b) (h0 : 0 ≤ p) (h1 : p ≤ 10000) : ∃ t p', (t : List Bool).length ≤ 8 ∧ 0 ≤ p' ∧ p' ≤ p + 10 ∧ SC P 36 [.one (.ptr 0 0 0)] [.box [.ro (.int .u8) b, .int .i64 p]] [.one (.ro .bool t)] [.box [.ro (.int .u8) b, .int .i64 p']] := by
  obtain ⟨v1, a1, b1, s1⟩ := c49 b p 6 hb (by omega) (by omega) (by omega)
  obtain ⟨t, p', e1, e2, e3, hF⟩ := l36 b hb v1.toNat (p + 1) [true, true, true, true, true, true, true, true] (by omega) (by omega) rfl
  rw [show ((v1.toNat : Nat) : Int) = v1 by omega] at hF
  refine ⟨t, p', e1, e2, by omega, ?_⟩
  refine SC_of_FB (H := H36) E_ok Try.func36 (by kernel_rfl) ?_
  rw [eq36]
  exact ⟨_, c76, (b, p + 1, v1), s1, hF⟩








theorem thereB_len : ∀ (n b : Nat), (thereB n b).length = n
  | 0, _ => rfl
  | n + 1, b => by rw [thereB, List.length_cons, thereB_len n]

end Go.Proofs.Ytjoiadaogppmkaa.Sh
