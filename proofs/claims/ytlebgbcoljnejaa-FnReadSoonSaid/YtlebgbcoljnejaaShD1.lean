/- Draws of shards and values: contracts. -/
import Derived.Test.YtlebgbcoljnejaaShP3
import Derived.Test.YtlebgbcoljnejaaShS2
namespace Go.Proofs.Ytlebgbcoljnejaa.Sh
open Go
set_option linter.unusedVariables false
set_option linter.unusedSimpArgs false
/-! loop.example/keelson/spec.l4Set -/
def H127 : Hint := ⟨[[(0, 0, .bool), (3, 0, .bool), (4, 0, .bool)]], [], [], [], [], [], []⟩
def S127_L0 (bits0 : Int) (i4 : Int) (h0 : List Bool) : St := ⟨[(0, .w (.one (.int .i64 bits0))), (3, .w (.one (.sl 0 none))), (4, .w (.one (.int .i64 i4)))], [.row .bool h0 .own]⟩
theorem eq127 (bits : Int) (r : List W) (lh : Heap) : FB E H127 Try.f127 [.one (.int .i64 bits)] [] r lh =
  (
   FL E H127 Try.f127 0 r lh 0 (S127_L0 bits 0 [false, false, false, false, false, false, false, false])) := by kernel_rfl
theorem eq127_L0 (bits0 : Int) (i4 : Int) (h0 : List Bool) (r : List W) (lh : Heap) : FL1 E H127 Try.f127 0 r lh 0 (S127_L0 bits0 i4 h0) =
  (
   Br (decide (i4 < ((h0.length : Nat) : Int))) (
    Ck (decide ((0 : Int) ≤ i4)) (
     Ck (decide (i4 < ((h0.length : Nat) : Int))) (
      Ck (Nat.ble (i4.toNat + 1) h0.length) (
       FL E H127 Try.f127 0 r lh 0 (S127_L0 (IntKind.wrap .i64 (Int.tdiv bits0 2)) (IntKind.wrap .i64 (i4 + 1)) (h0.set i4.toNat (decide ((Int.tmod bits0 2) = (1 : Int))))))))) (
    Ret r lh [.one (.sl 0 none)] [.row .bool h0 .own])) := by kernel_rfl
theorem c127 : SC P 127 [.one (.int .i64 255)] [] [.one (.sl 0 none)] [.row .bool [true, true, true, true, true, true, true, true] .own] := by
  refine SC_of_FB (H := H127) E_ok Try.func127 (by kernel_rfl) ?_
  rw [eq127]
  have step : ∀ (i : Nat) (bits bits' : Int) (h : List Bool), i < 8 → h.length = 8 → bits.tmod 2 = 1 → IntKind.wrap .i64 (bits.tdiv 2) = bits' → FL E H127 Try.f127 0 [.one (.sl 0 none)] [.row .bool [true, true, true, true, true, true, true, true] .own] 0 (S127_L0 bits' ((i + 1 : Nat) : Int) (h.set i true)) →
      FL E H127 Try.f127 0 [.one (.sl 0 none)] [.row .bool [true, true, true, true, true, true, true, true] .own] 0 (S127_L0 bits (i : Int) h) := by
    intro i bits bits' h hi hl hb hw hF
    refine FL_of1 ?_
    rw [eq127_L0, wS (by omega), decide_eq_true hb, hw]
    simp only [Int.toNat_natCast]
    exact Br_t (by omega) (Ck_d (by omega) (Ck_d (by omega) (Ck_le (by omega) hF)))
  refine step 0 255 127 _ (by omega) rfl rfl rfl (step 1 127 63 _ (by omega) rfl rfl rfl (step 2 63 31 _ (by omega) rfl rfl rfl (step 3 31 15 _ (by omega) rfl rfl rfl (step 4 15 7 _ (by omega) rfl rfl rfl (step 5 7 3 _ (by omega) rfl rfl rfl (step 6 3 1 _ (by omega) rfl rfl rfl (step 7 1 0 _ (by omega) rfl rfl rfl ?_)))))))
  refine FL_of1 ?_
  rw [eq127_L0]
  exact Br_f (by simp) ⟨rfl, rfl⟩
/-! loop.example/keelson/spec.l91There -/
def H91 : Hint := ⟨[[(0, 0, .bool), (3, 0, .bool), (4, 0, .bool)]], [], [], [], [.one (.c (.sl .bool))], [], []⟩
def S91_L0 (n4 : Int) (b0_0 : List Int) (b0_1 : Int) (h1 : List Bool) : St := ⟨[(0, .w (.one (.ptr 0 0 0))), (3, .w (.one (.sl 1 none))), (4, .w (.one (.int .i64 n4)))], [.box [.ro (.int .u8) b0_0, .int .i64 b0_1], .row .bool h1 .own]⟩
theorem eq91 (b : List Int) (p : Int) (r : List W) (lh : Heap) : FB E H91 Try.f91 [.one (.ptr 0 0 0)] [.box [.ro (.int .u8) b, .int .i64 p]] r lh =
  (
   ∃ r0 : List Bool, SC P 127 [.one (.int .i64 255)] [] [.one (.sl 0 none)] [.row .bool r0 .own] ∧
    ∃ r1 : List Int × Int × Int, SC P 60 [.one (.ptr 0 0 0), .one (.int .i64 6)] [.box [.ro (.int .u8) b, .int .i64 p]] [.one (.int .i64 r1.2.2)] [.box [.ro (.int .u8) r1.1, .int .i64 r1.2.1]] ∧
     FL E H91 Try.f91 1 r lh 0 (S91_L0 r1.2.2 r1.1 r1.2.1 r0)) := by kernel_rfl
theorem eq91_L0 (n4 : Int) (b0_0 : List Int) (b0_1 : Int) (h1 : List Bool) (r : List W) (lh : Heap) : FL1 E H91 Try.f91 1 r lh 0 (S91_L0 n4 b0_0 b0_1 h1) =
  (
   Br (decide ((0 : Int) < n4)) (
    ∃ r0 : List Int × Int × Int, SC P 60 [.one (.ptr 0 0 0), .one (.int .i64 ((h1.length : Nat) : Int))] [.box [.ro (.int .u8) b0_0, .int .i64 b0_1]] [.one (.int .i64 r0.2.2)] [.box [.ro (.int .u8) r0.1, .int .i64 r0.2.1]] ∧
     Ck (decide ((0 : Int) ≤ r0.2.2)) (
      Ck (decide (r0.2.2 < ((h1.length : Nat) : Int))) (
       Ck (Nat.ble (r0.2.2.toNat + 1) h1.length) (
        FL E H91 Try.f91 1 r lh 0 (S91_L0 (IntKind.wrap .i64 (n4 - 1)) r0.1 r0.2.1 (h1.set r0.2.2.toNat false)))))) (
    ∃ r1 : List Int × Int × Int, SC P 60 [.one (.ptr 0 0 0), .one (.int .i64 40)] [.box [.ro (.int .u8) b0_0, .int .i64 b0_1]] [.one (.int .i64 r1.2.2)] [.box [.ro (.int .u8) r1.1, .int .i64 r1.2.1]] ∧
     Br (decide (r1.2.2 = (0 : Int))) (
      Ck (decide ((1 : Int) ≤ ((h1.length : Nat) : Int))) (
       Ck (decide (((h1.length : Nat) : Int) ≤ ((h1.length : Nat) : Int))) (
        Ck (decide (((h1.length : Nat) : Int) ≤ ((h1.length : Nat) : Int))) (
         Ret r lh [.one (.ro .bool ((h1.drop 1).take (((h1.length : Nat) : Int).toNat - 1)))] [.box [.ro (.int .u8) r1.1, .int .i64 r1.2.1]])))) (
      Ret r lh [.one (.ro .bool h1)] [.box [.ro (.int .u8) r1.1, .int .i64 r1.2.1]]))) := by kernel_rfl
theorem l91 (b : List Int) (hb : RdB b) : ∀ (n : Nat) (p : Int) (h : List Bool), 0 ≤ p → p + n ≤ 20000 → h.length = 8 → ∃ t p', (t : List Bool).length ≤ 8 ∧ 0 ≤ p' ∧ p' ≤ p + n + 1 ∧
    FL E H91 Try.f91 1 [.one (.ro .bool t)] [.box [.ro (.int .u8) b, .int .i64 p']] 0 (S91_L0 (n : Int) b p h)
  | 0, p, h, h0, h1, hl => by
    obtain ⟨v1, a1, b1, s1⟩ := c60 b p 40 hb (by omega) (by omega) (by omega)
    by_cases c0 : v1 = 0
    · refine ⟨(h.drop 1).take ((h.length : Int).toNat - 1), p + 1, by simp; omega, by omega, by omega, ?_⟩
      refine FL_of1 ?_
      rw [eq91_L0]
      exact Br_f (by omega) ⟨(b, p + 1, v1), s1, Br_t c0 (Ck_d (by omega) (Ck_d (by omega) (Ck_d (by omega) ⟨rfl, rfl⟩)))⟩
    · refine ⟨h, p + 1, by omega, by omega, by omega, ?_⟩
      refine FL_of1 ?_
      rw [eq91_L0]
      exact Br_f (by omega) ⟨(b, p + 1, v1), s1, Br_f c0 ⟨rfl, rfl⟩⟩
  | n + 1, p, h, h0, h1, hl => by
    obtain ⟨v1, a1, b1, s1⟩ := c60 b p (h.length : Int) hb (by omega) (by omega) (by omega)
    obtain ⟨t, p', e1, e2, e3, hF⟩ := l91 b hb n (p + 1) (h.set v1.toNat false) (by omega) (by omega) (by rw [List.length_set]; exact hl)
    refine ⟨t, p', e1, e2, by omega, ?_⟩
    refine FL_of1 ?_
    rw [eq91_L0, wrap64 (n := ((n + 1 : Nat) : Int) - 1) (by omega) (by omega), show ((n + 1 : Nat) : Int) - 1 = (n : Int) by omega]
    exact Br_t (by omega) ⟨(b, p + 1, v1), s1, Ck_d (by omega) (Ck_d (by omega) (Ck_le (by dsimp only; omega) hF))⟩
theorem c91 (b : List Int) (p : Int) (hb : RdB b) (h0 : 0 ≤ p) (h1 : p ≤ 10000) : ∃ t p', (t : List Bool).length ≤ 8 ∧ 0 ≤ p' ∧ p' ≤ p + 10 ∧ SC P 91 [.one (.ptr 0 0 0)] [.box [.ro (.int .u8) b, .int .i64 p]] [.one (.ro .bool t)] [.box [.ro (.int .u8) b, .int .i64 p']] := by
  obtain ⟨v1, a1, b1, s1⟩ := c60 b p 6 hb (by omega) (by omega) (by omega)
  obtain ⟨t, p', e1, e2, e3, hF⟩ := l91 b hb v1.toNat (p + 1) [true, true, true, true, true, true, true, true] (by omega) (by omega) rfl
  rw [show ((v1.toNat : Nat) : Int) = v1 by omega] at hF
  refine ⟨t, p', e1, e2, by omega, ?_⟩
  refine SC_of_FB (H := H91) E_ok Try.func91 (by kernel_rfl) ?_
  rw [eq91]
  exact ⟨_, c127, (b, p + 1, v1), s1, hF⟩
/-! loop.example/keelson/spec.l91Num -/
def H137 : Hint := ⟨[], [], [], [], [], [], []⟩
theorem eq137 (b : List Int) (p : Int) (r : List W) (lh : Heap) : FB E H137 Try.f137 [.one (.ptr 0 0 0)] [.box [.ro (.int .u8) b, .int .i64 p]] r lh =
  (
   ∃ r0 : List Int × Int × Int, SC P 60 [.one (.ptr 0 0 0), .one (.int .i64 10)] [.box [.ro (.int .u8) b, .int .i64 p]] [.one (.int .i64 r0.2.2)] [.box [.ro (.int .u8) r0.1, .int .i64 r0.2.1]] ∧
    Br (decide (r0.2.2 = (0 : Int))) (
     Ret r lh [.one (.int .i64 0)] [.box [.ro (.int .u8) r0.1, .int .i64 r0.2.1]]) (
     Br (decide (r0.2.2 = (1 : Int))) (
      ∃ r1 : List Int × Int × Int, SC P 60 [.one (.ptr 0 0 0), .one (.int .i64 2)] [.box [.ro (.int .u8) r0.1, .int .i64 r0.2.1]] [.one (.int .i64 r1.2.2)] [.box [.ro (.int .u8) r1.1, .int .i64 r1.2.1]] ∧
       Ck (decide ((0 : Int) ≤ r1.2.2)) (
        Ck (decide (r1.2.2 < (2 : Int))) (
         Ck (Nat.ble (r1.2.2.toNat + 1) 2) (
          Ret r lh [.one (.int .i64 ([1, 30].getD r1.2.2.toNat 0))] [.box [.ro (.int .u8) r1.1, .int .i64 r1.2.1]])))) (
      Br (decide (r0.2.2 = (2 : Int))) (
       ∃ r2 : List Int × Int × Int, SC P 60 [.one (.ptr 0 0 0), .one (.int .i64 5)] [.box [.ro (.int .u8) r0.1, .int .i64 r0.2.1]] [.one (.int .i64 r2.2.2)] [.box [.ro (.int .u8) r2.1, .int .i64 r2.2.1]] ∧
        Br (decide (r2.2.2 = (0 : Int))) (
         ∃ r3 : List Int × Int × Int, SC P 60 [.one (.ptr 0 0 0), .one (.int .i64 2)] [.box [.ro (.int .u8) r2.1, .int .i64 r2.2.1]] [.one (.int .i64 r3.2.2)] [.box [.ro (.int .u8) r3.1, .int .i64 r3.2.1]] ∧
          Ck (decide ((0 : Int) ≤ r3.2.2)) (
           Ck (decide (r3.2.2 < (2 : Int))) (
            Ck (Nat.ble (r3.2.2.toNat + 1) 2) (
             Ret r lh [.one (.int .i64 ([(-1), 31].getD r3.2.2.toNat 0))] [.box [.ro (.int .u8) r3.1, .int .i64 r3.2.1]])))) (
         ∃ r4 : List Int × Int × Int, SC P 60 [.one (.ptr 0 0 0), .one (.int .i64 31)] [.box [.ro (.int .u8) r2.1, .int .i64 r2.2.1]] [.one (.int .i64 r4.2.2)] [.box [.ro (.int .u8) r4.1, .int .i64 r4.2.1]] ∧
          Ret r lh [.one (.int .i64 r4.2.2)] [.box [.ro (.int .u8) r4.1, .int .i64 r4.2.1]])) (
       ∃ r5 : List Int × Int × Int, SC P 60 [.one (.ptr 0 0 0), .one (.int .i64 31)] [.box [.ro (.int .u8) r0.1, .int .i64 r0.2.1]] [.one (.int .i64 r5.2.2)] [.box [.ro (.int .u8) r5.1, .int .i64 r5.2.1]] ∧
        Ret r lh [.one (.int .i64 r5.2.2)] [.box [.ro (.int .u8) r5.1, .int .i64 r5.2.1]])))) := by kernel_rfl
theorem c137 (b : List Int) (p : Int) (hb : RdB b) (h0 : 0 ≤ p) (h1 : p ≤ 10000) : ∃ v p', 0 ≤ p' ∧ p' ≤ p + 4 ∧ SC P 137 [.one (.ptr 0 0 0)] [.box [.ro (.int .u8) b, .int .i64 p]] [.one (.int .i64 v)] [.box [.ro (.int .u8) b, .int .i64 p']] := by
  obtain ⟨v0, a0, b0, s0⟩ := c60 b p 10 hb (by omega) (by omega) (by omega)
  by_cases c0 : v0 = 0
  · refine ⟨0, p + 1, by omega, by omega, ?_⟩
    refine SC_of_FB (H := H137) E_ok Try.func137 (by kernel_rfl) ?_
    rw [eq137]
    exact ⟨(b, p + 1, v0), s0, Br_t c0 ⟨rfl, rfl⟩⟩
  by_cases c1 : v0 = 1
  · obtain ⟨v1, a1, b1, s1⟩ := c60 b (p + 1) 2 hb (by omega) (by omega) (by omega)
    refine ⟨[1, 30].getD v1.toNat 0, p + 1 + 1, by omega, by omega, ?_⟩
    refine SC_of_FB (H := H137) E_ok Try.func137 (by kernel_rfl) ?_
    rw [eq137]
    exact ⟨(b, p + 1, v0), s0, Br_f c0 (Br_t c1 ⟨(b, p + 1 + 1, v1), s1, Ck_d (by omega) (Ck_d (by omega) (Ck_le (by dsimp only; omega) ⟨rfl, rfl⟩))⟩)⟩
  by_cases c2 : v0 = 2
  · obtain ⟨v2, a2, b2, s2⟩ := c60 b (p + 1) 5 hb (by omega) (by omega) (by omega)
    by_cases c3 : v2 = 0
    · obtain ⟨v3, a3, b3, s3⟩ := c60 b (p + 1 + 1) 2 hb (by omega) (by omega) (by omega)
      refine ⟨[-1, 31].getD v3.toNat 0, p + 1 + 1 + 1, by omega, by omega, ?_⟩
      refine SC_of_FB (H := H137) E_ok Try.func137 (by kernel_rfl) ?_
      rw [eq137]
      exact ⟨(b, p + 1, v0), s0, Br_f c0 (Br_f c1 (Br_t c2 ⟨(b, p + 1 + 1, v2), s2, Br_t c3 ⟨(b, p + 1 + 1 + 1, v3), s3, Ck_d (by omega) (Ck_d (by omega) (Ck_le (by dsimp only; omega) ⟨rfl, rfl⟩))⟩⟩))⟩
    · obtain ⟨v3, a3, b3, s3⟩ := c60 b (p + 1 + 1) 31 hb (by omega) (by omega) (by omega)
      refine ⟨v3, p + 1 + 1 + 1, by omega, by omega, ?_⟩
      refine SC_of_FB (H := H137) E_ok Try.func137 (by kernel_rfl) ?_
      rw [eq137]
      exact ⟨(b, p + 1, v0), s0, Br_f c0 (Br_f c1 (Br_t c2 ⟨(b, p + 1 + 1, v2), s2, Br_f c3 ⟨(b, p + 1 + 1 + 1, v3), s3, rfl, rfl⟩⟩))⟩
  · obtain ⟨v3, a3, b3, s3⟩ := c60 b (p + 1) 31 hb (by omega) (by omega) (by omega)
    refine ⟨v3, p + 1 + 1, by omega, by omega, ?_⟩
    refine SC_of_FB (H := H137) E_ok Try.func137 (by kernel_rfl) ?_
    rw [eq137]
    exact ⟨(b, p + 1, v0), s0, Br_f c0 (Br_f c1 (Br_f c2 ⟨(b, p + 1 + 1, v3), s3, rfl, rfl⟩))⟩
/-! loop.example/keelson/spec.l91Vals -/
def H105 : Hint := ⟨[], [], [], [], [.one (.c (.int .i64)), .one (.own (.int .i64)), .one (.c (.sl .bool))], [], []⟩
theorem eq105 (b : List Int) (p : Int) (r : List W) (lh : Heap) : FB E H105 Try.f105 [.one (.ptr 0 0 0)] [.box [.ro (.int .u8) b, .int .i64 p]] r lh =
  (
   ∃ r0 : List Int × Int × Int, SC P 60 [.one (.ptr 0 0 0), .one (.int .i64 2)] [.box [.ro (.int .u8) b, .int .i64 p]] [.one (.int .i64 r0.2.2)] [.box [.ro (.int .u8) r0.1, .int .i64 r0.2.1]] ∧
    ∃ r1 : List Int × Int × Int, SC P 60 [.one (.ptr 0 0 0), .one (.int .i64 31)] [.box [.ro (.int .u8) r0.1, .int .i64 r0.2.1]] [.one (.int .i64 r1.2.2)] [.box [.ro (.int .u8) r1.1, .int .i64 r1.2.1]] ∧
     ∃ r2 : List Int × Int × Int, SC P 60 [.one (.ptr 0 0 0), .one (.int .i64 5)] [.box [.ro (.int .u8) r1.1, .int .i64 r1.2.1]] [.one (.int .i64 r2.2.2)] [.box [.ro (.int .u8) r2.1, .int .i64 r2.2.1]] ∧
      ∃ r3 : List Int × Int × Int, SC P 60 [.one (.ptr 0 0 0), .one (.int .i64 31)] [.box [.ro (.int .u8) r2.1, .int .i64 r2.2.1]] [.one (.int .i64 r3.2.2)] [.box [.ro (.int .u8) r3.1, .int .i64 r3.2.1]] ∧
       ∃ r4 : List Int × Int × Int, SC P 60 [.one (.ptr 0 0 0), .one (.int .i64 3)] [.box [.ro (.int .u8) r3.1, .int .i64 r3.2.1]] [.one (.int .i64 r4.2.2)] [.box [.ro (.int .u8) r4.1, .int .i64 r4.2.1]] ∧
        ∃ r5 : List Int, SC P 99 [.one (.int .i64 (IntKind.wrap .i64 (1 + r0.2.2))), .one (.ro (.int .i64) [r1.2.2, r2.2.2, r3.2.2, r4.2.2])] [] [.one (.sl 0 none)] [.row (.int .i64) r5 .own] ∧
         ∃ r6 : List Int × Int × List Bool, SC P 91 [.one (.ptr 0 0 0)] [.box [.ro (.int .u8) r4.1, .int .i64 r4.2.1]] [.one (.ro .bool r6.2.2)] [.box [.ro (.int .u8) r6.1, .int .i64 r6.2.1]] ∧
          ∃ r7 : List Int × Int × Int, SC P 60 [.one (.ptr 0 0 0), .one (.int .i64 6)] [.box [.ro (.int .u8) r6.1, .int .i64 r6.2.1]] [.one (.int .i64 r7.2.2)] [.box [.ro (.int .u8) r7.1, .int .i64 r7.2.1]] ∧
           Br (decide (r7.2.2 = (0 : Int))) (
            ∃ r8 : List Int × Int × Int, SC P 60 [.one (.ptr 0 0 0), .one (.int .i64 ((r5.length : Nat) : Int))] [.box [.ro (.int .u8) r7.1, .int .i64 r7.2.1]] [.one (.int .i64 r8.2.2)] [.box [.ro (.int .u8) r8.1, .int .i64 r8.2.1]] ∧
             ∃ r9 : List Int × Int × Int, SC P 137 [.one (.ptr 0 0 0)] [.box [.ro (.int .u8) r8.1, .int .i64 r8.2.1]] [.one (.int .i64 r9.2.2)] [.box [.ro (.int .u8) r9.1, .int .i64 r9.2.1]] ∧
              Ck (decide ((0 : Int) ≤ r8.2.2)) (
               Ck (decide (r8.2.2 < ((r5.length : Nat) : Int))) (
                Ck (Nat.ble (r8.2.2.toNat + 1) r5.length) (
                 Ret r lh [.one (.int .i64 (IntKind.wrap .i64 (1 + r0.2.2))), .one (.sl 1 none), .one (.ro .bool r6.2.2)] [.box [.ro (.int .u8) r9.1, .int .i64 r9.2.1], .row (.int .i64) (r5.set r8.2.2.toNat r9.2.2) .own])))) (
            Br (decide (r7.2.2 = (1 : Int))) (
             ∃ r10 : List Int × Int × Int, SC P 60 [.one (.ptr 0 0 0), .one (.int .i64 3)] [.box [.ro (.int .u8) r7.1, .int .i64 r7.2.1]] [.one (.int .i64 r10.2.2)] [.box [.ro (.int .u8) r10.1, .int .i64 r10.2.1]] ∧
              Br (decide (r10.2.2 = (0 : Int))) (
               ∃ r11 : List Int × Int × Int, SC P 72 [.one (.ptr 0 0 0)] [.box [.ro (.int .u8) r10.1, .int .i64 r10.2.1]] [.one (.int .i64 r11.2.2)] [.box [.ro (.int .u8) r11.1, .int .i64 r11.2.1]] ∧
                Ret r lh [.one (.int .i64 r11.2.2), .one (.sl 1 none), .one (.ro .bool r6.2.2)] [.box [.ro (.int .u8) r11.1, .int .i64 r11.2.1], .row (.int .i64) r5 .own]) (
               Ret r lh [.one (.int .i64 (IntKind.wrap .i64 (1 + r0.2.2))), .one (.sl 1 none), .one (.ro .bool r6.2.2)] [.box [.ro (.int .u8) r10.1, .int .i64 r10.2.1], .row (.int .i64) r5 .own])) (
             Ret r lh [.one (.int .i64 (IntKind.wrap .i64 (1 + r0.2.2))), .one (.sl 1 none), .one (.ro .bool r6.2.2)] [.box [.ro (.int .u8) r7.1, .int .i64 r7.2.1], .row (.int .i64) r5 .own]))) := by kernel_rfl
theorem c105 (b : List Int) (p : Int) (hb : RdB b) (h0 : 0 ≤ p) (h1 : p ≤ 1000) : ∃ k vals t p', (vals : List Int).length = 8 ∧ (t : List Bool).length ≤ 8 ∧ 0 ≤ p' ∧ p' ≤ p + 30 ∧
    SC P 105 [.one (.ptr 0 0 0)] [.box [.ro (.int .u8) b, .int .i64 p]] [.one (.int .i64 k), .one (.sl 1 none), .one (.ro .bool t)] [.box [.ro (.int .u8) b, .int .i64 p'], .row (.int .i64) vals .own] := by
  obtain ⟨v0, a0, b0, s0⟩ := c60 b p 2 hb (by omega) (by omega) (by omega)
  obtain ⟨v1, a1, b1, s1⟩ := c60 b (p + 1) 31 hb (by omega) (by omega) (by omega)
  obtain ⟨v2, a2, b2, s2⟩ := c60 b (p + 1 + 1) 5 hb (by omega) (by omega) (by omega)
  obtain ⟨v3, a3, b3, s3⟩ := c60 b (p + 1 + 1 + 1) 31 hb (by omega) (by omega) (by omega)
  obtain ⟨v4, a4, b4, s4⟩ := c60 b (p + 1 + 1 + 1 + 1) 3 hb (by omega) (by omega) (by omega)
  obtain ⟨t, q, ht, q0, q1, sT⟩ := c91 b (p + 1 + 1 + 1 + 1 + 1) hb (by omega) (by omega)
  obtain ⟨v5, a5, b5, s5⟩ := c60 b q 6 hb (by omega) (by omega) (by omega)
  have hw := wrap64 (n := 1 + v0) (by omega) (by omega)
  have hk : inB (IntKind.wrap .i64 (1 + v0)) 1 2 = true := by rw [hw]; exact inB_iff.2 ⟨by omega, by omega⟩
  have sA := c99 (IntKind.wrap .i64 (1 + v0)) hk (v1, v2, v3, v4) ⟨show FOk v1 from ⟨a1, by omega⟩, show FOk v2 from ⟨a2, by omega⟩, show FOk v3 from ⟨a3, by omega⟩, show FOk v4 from ⟨a4, by omega⟩⟩
  have hal := allF_length (IntKind.wrap .i64 (1 + v0)) (v1, v2, v3, v4)
  by_cases c0 : v5 = 0
  · obtain ⟨v6, a6, b6, s6⟩ := c60 b (q + 1) ((allF (IntKind.wrap .i64 (1 + v0)) (v1, v2, v3, v4)).length : Int) hb (by omega) (by omega) (by omega)
    obtain ⟨v7, q2, g0, g1, s7⟩ := c137 b (q + 1 + 1) hb (by omega) (by omega)
    refine ⟨IntKind.wrap .i64 (1 + v0), (allF (IntKind.wrap .i64 (1 + v0)) (v1, v2, v3, v4)).set v6.toNat v7, t, q2, by rw [List.length_set]; exact hal, ht, g0, by omega, ?_⟩
    refine SC_of_FB (H := H105) E_ok Try.func105 (by kernel_rfl) ?_
    rw [eq105]
    exact ⟨(b, p + 1, v0), s0, (b, _, v1), s1, (b, _, v2), s2, (b, _, v3), s3, (b, _, v4), s4, _, sA, (b, q, t), sT, (b, q + 1, v5), s5, Br_t c0 ⟨(b, q + 1 + 1, v6), s6, (b, q2, v7), s7, Ck_d (by omega) (Ck_d (by omega) (Ck_le (by dsimp only; omega) ⟨rfl, rfl⟩))⟩⟩
  by_cases c1 : v5 = 1
  · obtain ⟨v6, a6, b6, s6⟩ := c60 b (q + 1) 3 hb (by omega) (by omega) (by omega)
    by_cases c2 : v6 = 0
    · obtain ⟨k, q2, g0, g1, s7⟩ := c72 b (q + 1 + 1) hb (by omega) (by omega)
      refine ⟨k, allF (IntKind.wrap .i64 (1 + v0)) (v1, v2, v3, v4), t, q2, hal, ht, g0, by omega, ?_⟩
      refine SC_of_FB (H := H105) E_ok Try.func105 (by kernel_rfl) ?_
      rw [eq105]
      exact ⟨(b, p + 1, v0), s0, (b, _, v1), s1, (b, _, v2), s2, (b, _, v3), s3, (b, _, v4), s4, _, sA, (b, q, t), sT, (b, q + 1, v5), s5, Br_f c0 (Br_t c1 ⟨(b, q + 1 + 1, v6), s6, Br_t c2 ⟨(b, q2, k), s7, rfl, rfl⟩⟩)⟩
    · refine ⟨IntKind.wrap .i64 (1 + v0), allF (IntKind.wrap .i64 (1 + v0)) (v1, v2, v3, v4), t, q + 1 + 1, hal, ht, by omega, by omega, ?_⟩
      refine SC_of_FB (H := H105) E_ok Try.func105 (by kernel_rfl) ?_
      rw [eq105]
      exact ⟨(b, p + 1, v0), s0, (b, _, v1), s1, (b, _, v2), s2, (b, _, v3), s3, (b, _, v4), s4, _, sA, (b, q, t), sT, (b, q + 1, v5), s5, Br_f c0 (Br_t c1 ⟨(b, q + 1 + 1, v6), s6, Br_f c2 ⟨rfl, rfl⟩⟩)⟩
  · refine ⟨IntKind.wrap .i64 (1 + v0), allF (IntKind.wrap .i64 (1 + v0)) (v1, v2, v3, v4), t, q + 1, hal, ht, by omega, by omega, ?_⟩
    refine SC_of_FB (H := H105) E_ok Try.func105 (by kernel_rfl) ?_
    rw [eq105]
    exact ⟨(b, p + 1, v0), s0, (b, _, v1), s1, (b, _, v2), s2, (b, _, v3), s3, (b, _, v4), s4, _, sA, (b, q, t), sT, (b, q + 1, v5), s5, Br_f c0 (Br_f c1 ⟨rfl, rfl⟩)⟩
/-! loop.example/keelson/spec.DrawReadFrom -/
def H40 : Hint := ⟨[], [], [], [], [.one (.c (.int .i64)), .one (.c (.sl .bool))], [], []⟩
theorem eq40 (code : List Int) (r : List W) (lh : Heap) : FB E H40 Try.f40 [.one (.ro (.int .u8) code)] [] r lh =
  (
   ∃ r0 : (List Int × Int), SC P 58 [.one (.ro (.int .u8) code)] [] [.one (.ptr 0 0 0)] [.box [.ro (.int .u8) r0.1, .int .i64 r0.2]] ∧
    ∃ r1 : List Int × Int × Int, SC P 72 [.one (.ptr 0 0 0)] [.box [.ro (.int .u8) r0.1, .int .i64 r0.2]] [.one (.int .i64 r1.2.2)] [.box [.ro (.int .u8) r1.1, .int .i64 r1.2.1]] ∧
     ∃ r2 : List Int × Int × List Bool, SC P 91 [.one (.ptr 0 0 0)] [.box [.ro (.int .u8) r1.1, .int .i64 r1.2.1]] [.one (.ro .bool r2.2.2)] [.box [.ro (.int .u8) r2.1, .int .i64 r2.2.1]] ∧
      Ret r lh [.one (.int .i64 r1.2.2), .one (.ro .bool r2.2.2)] []) := by kernel_rfl
theorem c40 (code : List Int) (hc : Bytes code) : ∃ (k : Int) (t : List Bool), t.length ≤ 8 ∧ SC P 40 [.one (.ro (.int .u8) code)] [] [.one (.int .i64 k), .one (.ro .bool t)] [] := by
  obtain ⟨b, hb, s0⟩ := c58 code hc
  obtain ⟨k, p, p0, p1, s1⟩ := c72 b 0 hb (by omega) (by omega)
  obtain ⟨t, q, ht, q0, q1, s2⟩ := c91 b p hb p0 (by omega)
  refine ⟨k, t, ht, ?_⟩
  refine SC_of_FB (H := H40) E_ok Try.func40 (by kernel_rfl) ?_
  rw [eq40]
  exact ⟨(b, 0), s0, (b, p, k), s1, (b, q, t), s2, rfl, rfl⟩
/-! loop.example/keelson/spec.DrawReadData -/
def H51 : Hint := ⟨[], [], [], [], [.one (.c (.int .i64)), .one (.own (.int .i64)), .one (.c (.sl .bool))], [], []⟩
theorem eq51 (code : List Int) (r : List W) (lh : Heap) : FB E H51 Try.f51 [.one (.ro (.int .u8) code)] [] r lh =
  (
   ∃ r0 : (List Int × Int), SC P 58 [.one (.ro (.int .u8) code)] [] [.one (.ptr 0 0 0)] [.box [.ro (.int .u8) r0.1, .int .i64 r0.2]] ∧
    ∃ r1 : List Int × Int × Int × List Int × List Bool, SC P 105 [.one (.ptr 0 0 0)] [.box [.ro (.int .u8) r0.1, .int .i64 r0.2]] [.one (.int .i64 r1.2.2.1), .one (.sl 1 none), .one (.ro .bool r1.2.2.2.2)] [.box [.ro (.int .u8) r1.1, .int .i64 r1.2.1], .row (.int .i64) r1.2.2.2.1 .own] ∧
     Ret r lh [.one (.int .i64 r1.2.2.1), .one (.sl 0 none), .one (.ro .bool r1.2.2.2.2)] [.row (.int .i64) r1.2.2.2.1 .own]) := by kernel_rfl
theorem c51 (code : List Int) (hc : Bytes code) : ∃ (k : Int) (vals : List Int) (t : List Bool), vals.length = 8 ∧ t.length ≤ 8 ∧ SC P 51 [.one (.ro (.int .u8) code)] [] [.one (.int .i64 k), .one (.sl 0 none), .one (.ro .bool t)] [.row (.int .i64) vals .own] := by
  obtain ⟨b, hb, s0⟩ := c58 code hc
  obtain ⟨k, vals, t, p, hv, ht, p0, p1, s1⟩ := c105 b 0 hb (by omega) (by omega)
  refine ⟨k, vals, t, hv, ht, ?_⟩
  refine SC_of_FB (H := H51) E_ok Try.func51 (by kernel_rfl) ?_
  rw [eq51]
  exact ⟨(b, 0), s0, (b, p, k, vals, t), s1, rfl, rfl⟩
/-! loop.example/keelson/spec.DrawReadFind -/
def H55 : Hint := ⟨[], [], [], [], [.one (.c (.int .i64)), .one (.own (.int .i64)), .one (.c (.sl .bool))], [5], [(5, .fork [0, 1, 2, 3, 4, 8] 5 (.lin [6, 7, 9, 10, 11, 12, 13]) 9 (.lin [5, 6, 7, 10, 11, 12, 13]))]⟩
theorem eq55 (code : List Int) (r : List W) (lh : Heap) : FB E H55 Try.f55 [.one (.ro (.int .u8) code)] [] r lh =
  (
   ∃ r0 : (List Int × Int), SC P 58 [.one (.ro (.int .u8) code)] [] [.one (.ptr 0 0 0)] [.box [.ro (.int .u8) r0.1, .int .i64 r0.2]] ∧
    ∃ r1 : List Int × Int × Int × List Int × List Bool, SC P 105 [.one (.ptr 0 0 0)] [.box [.ro (.int .u8) r0.1, .int .i64 r0.2]] [.one (.int .i64 r1.2.2.1), .one (.sl 1 none), .one (.ro .bool r1.2.2.2.2)] [.box [.ro (.int .u8) r1.1, .int .i64 r1.2.1], .row (.int .i64) r1.2.2.2.1 .own] ∧
     ∃ r2 : List Int × Int × Int, SC P 60 [.one (.ptr 0 0 0), .one (.int .i64 2)] [.box [.ro (.int .u8) r1.1, .int .i64 r1.2.1]] [.one (.int .i64 r2.2.2)] [.box [.ro (.int .u8) r2.1, .int .i64 r2.2.1]] ∧
      Br (decide (r2.2.2 = (0 : Int))) (
       ∃ r3 : List Int × Int × Int, SC P 60 [.one (.ptr 0 0 0), .one (.int .i64 ((r1.2.2.2.1.length : Nat) : Int))] [.box [.ro (.int .u8) r2.1, .int .i64 r2.2.1]] [.one (.int .i64 r3.2.2)] [.box [.ro (.int .u8) r3.1, .int .i64 r3.2.1]] ∧
        Ck (decide ((0 : Int) ≤ r3.2.2)) (
         Ck (decide (r3.2.2 < ((r1.2.2.2.1.length : Nat) : Int))) (
          (
           Ck (Nat.ble (r3.2.2.toNat + 1) r1.2.2.2.1.length) (
            ∃ r4 : List Int × Int × Int, SC P 60 [.one (.ptr 0 0 0), .one (.int .i64 20)] [.box [.ro (.int .u8) r3.1, .int .i64 r3.2.1]] [.one (.int .i64 r4.2.2)] [.box [.ro (.int .u8) r4.1, .int .i64 r4.2.1]] ∧
             Ck (decide ((0 : Int) ≤ r3.2.2)) (
              Ck (decide (r3.2.2 < ((r1.2.2.2.1.length : Nat) : Int))) (
               Ck (Nat.ble (r3.2.2.toNat + 1) r1.2.2.2.1.length) (
                Ret r lh [.one (.int .i64 r1.2.2.1), .one (.sl 0 none), .one (.ro .bool r1.2.2.2.2)] [.row (.int .i64) (r1.2.2.2.1.set r3.2.2.toNat (Int.tmod (IntKind.wrap .i64 ((IntKind.wrap .i64 ((max (r1.2.2.2.1.getD r3.2.2.toNat 0) 0) + 1)) + r4.2.2)) 31)) .own]))))) ∧ (
           ∃ r5 : List Int × Int × Int, SC P 60 [.one (.ptr 0 0 0), .one (.int .i64 20)] [.box [.ro (.int .u8) r3.1, .int .i64 r3.2.1]] [.one (.int .i64 r5.2.2)] [.box [.ro (.int .u8) r5.1, .int .i64 r5.2.1]] ∧
            Ck (Nat.ble (r3.2.2.toNat + 1) r1.2.2.2.1.length) (
             Ck (decide ((0 : Int) ≤ r3.2.2)) (
              Ck (decide (r3.2.2 < ((r1.2.2.2.1.length : Nat) : Int))) (
               Ck (Nat.ble (r3.2.2.toNat + 1) r1.2.2.2.1.length) (
                Ret r lh [.one (.int .i64 r1.2.2.1), .one (.sl 0 none), .one (.ro .bool r1.2.2.2.2)] [.row (.int .i64) (r1.2.2.2.1.set r3.2.2.toNat (Int.tmod (IntKind.wrap .i64 ((IntKind.wrap .i64 ((max (r1.2.2.2.1.getD r3.2.2.toNat 0) 0) + 1)) + r5.2.2)) 31)) .own])))))))) (
       Ret r lh [.one (.int .i64 r1.2.2.1), .one (.sl 0 none), .one (.ro .bool r1.2.2.2.2)] [.row (.int .i64) r1.2.2.2.1 .own])) := by kernel_rfl
theorem c55 (code : List Int) (hc : Bytes code) : ∃ (k : Int) (vals : List Int) (t : List Bool), vals.length = 8 ∧ t.length ≤ 8 ∧ SC P 55 [.one (.ro (.int .u8) code)] [] [.one (.int .i64 k), .one (.sl 0 none), .one (.ro .bool t)] [.row (.int .i64) vals .own] := by
  obtain ⟨b, hb, s0⟩ := c58 code hc
  obtain ⟨k, vals, t, p, hv, ht, p0, p1, s1⟩ := c105 b 0 hb (by omega) (by omega)
  obtain ⟨v1, a1, b1, s2⟩ := c60 b p 2 hb (by omega) (by omega) (by omega)
  by_cases c0 : v1 = 0
  · obtain ⟨v2, a2, b2, s3⟩ := c60 b (p + 1) (vals.length : Int) hb (by omega) (by omega) (by omega)
    obtain ⟨v3, a3, b3, s4⟩ := c60 b (p + 1 + 1) 20 hb (by omega) (by omega) (by omega)
    refine ⟨k, vals.set v2.toNat (Int.tmod (IntKind.wrap .i64 (IntKind.wrap .i64 (max (vals.getD v2.toNat 0) 0 + 1) + v3)) 31), t, by rw [List.length_set]; exact hv, ht, ?_⟩
    refine SC_of_FB (H := H55) E_ok Try.func55 (by kernel_rfl) ?_
    rw [eq55]
    refine ⟨(b, 0), s0, (b, p, k, vals, t), s1, (b, p + 1, v1), s2, Br_t c0 ⟨(b, p + 1 + 1, v2), s3, Ck_d (by omega) (Ck_d (by omega) ⟨Ck_le (by dsimp only; omega) ⟨(b, p + 1 + 1 + 1, v3), s4, Ck_d (by omega) (Ck_d (by omega) (Ck_le (by dsimp only; omega) ⟨rfl, rfl⟩))⟩, ⟨(b, p + 1 + 1 + 1, v3), s4, Ck_le (by dsimp only; omega) (Ck_d (by omega) (Ck_d (by omega) (Ck_le (by dsimp only; omega) ⟨rfl, rfl⟩)))⟩⟩)⟩⟩
  · refine ⟨k, vals, t, hv, ht, ?_⟩
    refine SC_of_FB (H := H55) E_ok Try.func55 (by kernel_rfl) ?_
    rw [eq55]
    exact ⟨(b, 0), s0, (b, p, k, vals, t), s1, (b, p + 1, v1), s2, Br_f c0 ⟨rfl, rfl⟩⟩
/-! loop.example/keelson/spec.DrawCodeAll -/
def H44 : Hint := ⟨[], [], [], [], [.one (.c (.int .i64)), .one (.c (.sl (.int .i64)))], [], []⟩
theorem eq44 (code : List Int) (r : List W) (lh : Heap) : FB E H44 Try.f44 [.one (.ro (.int .u8) code)] [] r lh =
  (
   ∃ r0 : (List Int × Int), SC P 58 [.one (.ro (.int .u8) code)] [] [.one (.ptr 0 0 0)] [.box [.ro (.int .u8) r0.1, .int .i64 r0.2]] ∧
    ∃ r1 : List Int × Int × Int, SC P 72 [.one (.ptr 0 0 0)] [.box [.ro (.int .u8) r0.1, .int .i64 r0.2]] [.one (.int .i64 r1.2.2)] [.box [.ro (.int .u8) r1.1, .int .i64 r1.2.1]] ∧
     ∃ r2 : List Int × Int × List Int, SC P 97 [.one (.ptr 0 0 0)] [.box [.ro (.int .u8) r1.1, .int .i64 r1.2.1]] [.one (.ro (.int .i64) r2.2.2)] [.box [.ro (.int .u8) r2.1, .int .i64 r2.2.1]] ∧
      Ret r lh [.one (.int .i64 r1.2.2), .one (.ro (.int .i64) r2.2.2)] []) := by kernel_rfl
theorem c44 (code : List Int) (hc : Bytes code) : ∃ (k : Int) (d : List Int), d.length ≤ 4 ∧ SC P 44 [.one (.ro (.int .u8) code)] [] [.one (.int .i64 k), .one (.ro (.int .i64) d)] [] := by
  obtain ⟨b, hb, s0⟩ := c58 code hc
  obtain ⟨k, p, p0, p1, s1⟩ := c72 b 0 hb (by omega) (by omega)
  obtain ⟨d, q, h3, h4, q0, q1, s2⟩ := c97 b p hb p0 (by omega)
  refine ⟨k, d, h4, ?_⟩
  refine SC_of_FB (H := H44) E_ok Try.func44 (by kernel_rfl) ?_
  rw [eq44]
  exact ⟨(b, 0), s0, (b, p, k), s1, (b, q, d), s2, rfl, rfl⟩
/-! loop.example/keelson/spec.l32Has -/
def H110 : Hint := ⟨[[(0, 0, .bool), (1, 0, .bool), (5, 0, .bool)]], [], [], [], [], [], []⟩
def S110_L0 (l0 : List Int) (n1 : Int) (i5 : Int) : St := ⟨[(0, .w (.one (.ro (.int .i64) l0))), (1, .w (.one (.int .i64 n1))), (5, .w (.one (.int .i64 i5)))], []⟩
theorem eq110 (l : List Int) (n : Int) (r : List W) (lh : Heap) : FB E H110 Try.f110 [.one (.ro (.int .i64) l), .one (.int .i64 n)] [] r lh =
  (
   FL E H110 Try.f110 0 r lh 0 (S110_L0 l n 0)) := by kernel_rfl
theorem eq110_L0 (l0 : List Int) (n1 : Int) (i5 : Int) (r : List W) (lh : Heap) : FL1 E H110 Try.f110 0 r lh 0 (S110_L0 l0 n1 i5) =
  (
   Br (decide (i5 < ((l0.length : Nat) : Int))) (
    Ck (decide ((0 : Int) ≤ i5)) (
     Ck (decide (i5 < ((l0.length : Nat) : Int))) (
      Br (decide ((l0.getD i5.toNat 0) = n1)) (
       Ret r lh [.one (.bool true)] []) (
       FL E H110 Try.f110 0 r lh 0 (S110_L0 l0 n1 (IntKind.wrap .i64 (i5 + 1))))))) (
    Ret r lh [.one (.bool false)] [])) := by kernel_rfl
theorem l110 (l : List Int) (x : Int) (hl : l.length ≤ 1048576) : ∀ (n i : Nat), i + n = l.length → FL E H110 Try.f110 0 [.one (.bool (findR (fun j => decide (l.getD j 0 = x)) (fun _ => true) false i n))] [] 0 (S110_L0 l x (i : Int))
  | 0, i, h => by
    refine FL_of1 ?_
    rw [eq110_L0]
    exact Br_f (by omega) ⟨rfl, rfl⟩
  | n + 1, i, h => by
    refine FL_of1 ?_
    rw [eq110_L0, wS (by omega), findR]
    simp only [Int.toNat_natCast]
    refine Br_t (by omega) (Ck_d (by omega) (Ck_d (by omega) (Br_d (fun h1 => ?_) (fun h1 => ?_))))
    · exact ⟨by rw [decide_eq_true h1, cond_true], rfl⟩
    · rw [decide_eq_false h1, cond_false]
      exact l110 l x hl n (i + 1) (by omega)
theorem c110 (l : List Int) (x : Int) (hl : l.length ≤ 1048576) : SC P 110 [.one (.ro (.int .i64) l), .one (.int .i64 x)] [] [.one (.bool (has l x))] [] := by
  refine SC_of_FB (H := H110) E_ok Try.func110 (by kernel_rfl) ?_
  rw [eq110]
  rw [← has_findR]
  exact l110 l x hl l.length 0 (by omega)
/-! loop.example/keelson/spec.DrawReadSoon -/
def H57 : Hint := ⟨[[(5, 0, .bool), (6, 0, .bool), (7, 0, .bool), (9, 0, .bool), (10, 0, .bool)]], [], [], [], [], [], []⟩
def S57_L0 (kind6 : Int) (n10 : Int) (b0_0 : List Int) (b0_1 : Int) (h1 : List Int) (h2 : List Int) : St := ⟨[(5, .w (.one (.ptr 0 0 0))), (6, .w (.one (.int .i64 kind6))), (7, .w (.one (.sl 1 none))), (9, .w (.one (.sl 2 none))), (10, .w (.one (.int .i64 n10)))], [.box [.ro (.int .u8) b0_0, .int .i64 b0_1], .row (.int .i64) h1 .own, .row (.int .i64) h2 .own]⟩
theorem eq57 (code : List Int) (r : List W) (lh : Heap) : FB E H57 Try.f57 [.one (.ro (.int .u8) code)] [] r lh =
  (
   ∃ r0 : (List Int × Int), SC P 58 [.one (.ro (.int .u8) code)] [] [.one (.ptr 0 0 0)] [.box [.ro (.int .u8) r0.1, .int .i64 r0.2]] ∧
    ∃ r1 : List Int × Int × Int × List Int × List Bool, SC P 105 [.one (.ptr 0 0 0)] [.box [.ro (.int .u8) r0.1, .int .i64 r0.2]] [.one (.int .i64 r1.2.2.1), .one (.sl 1 none), .one (.ro .bool r1.2.2.2.2)] [.box [.ro (.int .u8) r1.1, .int .i64 r1.2.1], .row (.int .i64) r1.2.2.2.1 .own] ∧
     ∃ r2 : List Int × Int × Int, SC P 60 [.one (.ptr 0 0 0), .one (.int .i64 8)] [.box [.ro (.int .u8) r1.1, .int .i64 r1.2.1]] [.one (.int .i64 r2.2.2)] [.box [.ro (.int .u8) r2.1, .int .i64 r2.2.1]] ∧
      FL E H57 Try.f57 0 r lh 0 (S57_L0 r1.2.2.1 (IntKind.wrap .i64 (3 + r2.2.2)) r2.1 r2.2.1 r1.2.2.2.1 [])) := by kernel_rfl
theorem eq57_L0 (kind6 : Int) (n10 : Int) (b0_0 : List Int) (b0_1 : Int) (h1 : List Int) (h2 : List Int) (r : List W) (lh : Heap) : FL1 E H57 Try.f57 0 r lh 0 (S57_L0 kind6 n10 b0_0 b0_1 h1 h2) =
  (
   Br (decide ((0 : Int) < n10)) (
    ∃ r0 : List Int × Int × Int, SC P 60 [.one (.ptr 0 0 0), .one (.int .i64 8)] [.box [.ro (.int .u8) b0_0, .int .i64 b0_1]] [.one (.int .i64 r0.2.2)] [.box [.ro (.int .u8) r0.1, .int .i64 r0.2.1]] ∧
     ∃ r1 : Bool, SC P 110 [.one (.ro (.int .i64) h2), .one (.int .i64 r0.2.2)] [] [.one (.bool r1)] [] ∧
      Br (!r1) (
       Ck (Nat.ble ((h2.length + 1) * 8) roomy) (
        FL E H57 Try.f57 0 r lh 0 (S57_L0 kind6 (IntKind.wrap .i64 (n10 - 1)) r0.1 r0.2.1 h1 (h2 ++ [r0.2.2])))) (
       ∃ r2 : List Int × Int × Int, SC P 60 [.one (.ptr 0 0 0), .one (.int .i64 24)] [.box [.ro (.int .u8) r0.1, .int .i64 r0.2.1]] [.one (.int .i64 r2.2.2)] [.box [.ro (.int .u8) r2.1, .int .i64 r2.2.1]] ∧
        Br (decide (r2.2.2 = (0 : Int))) (
         Ck (Nat.ble ((h2.length + 1) * 8) roomy) (
          FL E H57 Try.f57 0 r lh 0 (S57_L0 kind6 (IntKind.wrap .i64 (n10 - 1)) r2.1 r2.2.1 h1 (h2 ++ [r0.2.2])))) (
         FL E H57 Try.f57 0 r lh 0 (S57_L0 kind6 (IntKind.wrap .i64 (n10 - 1)) r2.1 r2.2.1 h1 h2)))) (
    Ret r lh [.one (.int .i64 kind6), .one (.sl 0 none), .one (.sl 1 none)] [.row (.int .i64) h1 .own, .row (.int .i64) h2 .own])) := by kernel_rfl
theorem l57 (b : List Int) (hb : RdB b) (k : Int) (vals : List Int) : ∀ (n : Nat) (p : Int) (h : List Int), 0 ≤ p → p + 2 * n ≤ 1000 → h.length + n ≤ 20 → ∃ l : List Int, l.length ≤ 20 ∧
    FL E H57 Try.f57 0 [.one (.int .i64 k), .one (.sl 0 none), .one (.sl 1 none)] [.row (.int .i64) vals .own, .row (.int .i64) l .own] 0 (S57_L0 k (n : Int) b p vals h)
  | 0, p, h, h0, h1, hl => by
    refine ⟨h, by omega, ?_⟩
    refine FL_of1 ?_
    rw [eq57_L0]
    exact Br_f (by omega) ⟨rfl, rfl⟩
  | n + 1, p, h, h0, h1, hl => by
    obtain ⟨v1, a1, b1, s1⟩ := c60 b p 8 hb (by omega) (by omega) (by omega)
    have hw : IntKind.wrap .i64 (((n + 1 : Nat) : Int) - 1) = (n : Int) := by rw [wrap64 (by omega) (by omega)]; omega
    cases hh : has h v1 with
    | false =>
      obtain ⟨l, hl', hF⟩ := l57 b hb k vals n (p + 1) (h ++ [v1]) (by omega) (by omega) (by simp; omega)
      refine ⟨l, hl', ?_⟩
      refine FL_of1 ?_
      rw [eq57_L0, hw]
      refine Br_t (by omega) ⟨(b, p + 1, v1), s1, _, c110 h v1 (by omega), ?_⟩
      rw [hh]
      exact Ck_room (by omega) hF
    | true =>
      obtain ⟨v2, a2, b2, s2⟩ := c60 b (p + 1) 24 hb (by omega) (by omega) (by omega)
      by_cases c0 : v2 = 0
      · obtain ⟨l, hl', hF⟩ := l57 b hb k vals n (p + 1 + 1) (h ++ [v1]) (by omega) (by omega) (by simp; omega)
        refine ⟨l, hl', ?_⟩
        refine FL_of1 ?_
        rw [eq57_L0, hw]
        refine Br_t (by omega) ⟨(b, p + 1, v1), s1, _, c110 h v1 (by omega), ?_⟩
        rw [hh]
        exact ⟨(b, p + 1 + 1, v2), s2, Br_t c0 (Ck_room (by omega) hF)⟩
      · obtain ⟨l, hl', hF⟩ := l57 b hb k vals n (p + 1 + 1) h (by omega) (by omega) (by omega)
        refine ⟨l, hl', ?_⟩
        refine FL_of1 ?_
        rw [eq57_L0, hw]
        refine Br_t (by omega) ⟨(b, p + 1, v1), s1, _, c110 h v1 (by omega), ?_⟩
        rw [hh]
        exact ⟨(b, p + 1 + 1, v2), s2, Br_f c0 hF⟩
theorem c57 (code : List Int) (hc : Bytes code) : ∃ (k : Int) (vals order : List Int), vals.length = 8 ∧ order.length ≤ 20 ∧ SC P 57 [.one (.ro (.int .u8) code)] [] [.one (.int .i64 k), .one (.sl 0 none), .one (.sl 1 none)] [.row (.int .i64) vals .own, .row (.int .i64) order .own] := by
  obtain ⟨b, hb, s0⟩ := c58 code hc
  obtain ⟨k, vals, t, p, hv, ht, p0, p1, s1⟩ := c105 b 0 hb (by omega) (by omega)
  obtain ⟨v1, a1, b1, s2⟩ := c60 b p 8 hb (by omega) (by omega) (by omega)
  obtain ⟨l, hl, hF⟩ := l57 b hb k vals (3 + v1).toNat (p + 1) [] (by omega) (by omega) (by simp; omega)
  rw [show (((3 + v1).toNat : Nat) : Int) = 3 + v1 by omega] at hF
  refine ⟨k, vals, l, hv, hl, ?_⟩
  refine SC_of_FB (H := H57) E_ok Try.func57 (by kernel_rfl) ?_
  rw [eq57]
  refine ⟨(b, 0), s0, (b, p, k, vals, t), s1, (b, p + 1, v1), s2, ?_⟩
  rw [wrap64 (n := 3 + v1) (by omega) (by omega)]
  exact hF
/-! loop.example/keelson/laws.lkThere -/
def H47 : Hint := ⟨[[(0, 0, .bool), (3, 0, .bool), (4, 0, .bool)]], [], [], [], [], [], []⟩
def S47_L0 (bits0 : Int) (i4 : Int) (h0 : List Bool) : St := ⟨[(0, .w (.one (.int .i64 bits0))), (3, .w (.one (.sl 0 none))), (4, .w (.one (.int .i64 i4)))], [.row .bool h0 .own]⟩
theorem eq47 (bits : Int) (r : List W) (lh : Heap) : FB E H47 Try.f47 [.one (.int .i64 bits)] [] r lh =
  (
   FL E H47 Try.f47 0 r lh 0 (S47_L0 bits 0 [])) := by kernel_rfl
theorem eq47_L0 (bits0 : Int) (i4 : Int) (h0 : List Bool) (r : List W) (lh : Heap) : FL1 E H47 Try.f47 0 r lh 0 (S47_L0 bits0 i4 h0) =
  (
   Br (decide (i4 < (8 : Int))) (
    Ck (Nat.ble ((h0.length + 1) * 1) roomy) (
     FL E H47 Try.f47 0 r lh 0 (S47_L0 (IntKind.wrap .i64 (Int.tdiv bits0 2)) (IntKind.wrap .i64 (i4 + 1)) (h0 ++ [(decide ((Int.tmod bits0 2) = (1 : Int)))])))) (
    Ret r lh [.one (.sl 0 none)] [.row .bool h0 .own])) := by kernel_rfl
theorem l47 : ∀ (n i b : Nat) (out : List Bool), i + n = 8 → out.length = i → b < 1000 → FL E H47 Try.f47 0 [.one (.sl 0 none)] [.row .bool (out ++ thereB n b) .own] 0 (S47_L0 (b : Int) (i : Int) out)
  | 0, i, b, out, h, ho, hb => by
    refine FL_of1 ?_
    rw [eq47_L0]
    exact Br_f (by omega) ⟨rfl, by rw [thereB, List.append_nil]⟩
  | n + 1, i, b, out, h, ho, hb => by
    have hw : IntKind.wrap .i64 (Int.tdiv (b : Int) 2) = ((b / 2 : Nat) : Int) := by
      rw [Int.tdiv_eq_ediv_of_nonneg (by omega), wrap64 (by omega) (by omega)]; omega
    have hd : decide (Int.tmod (b : Int) 2 = 1) = decide (b % 2 = 1) := by
      rw [Int.tmod_eq_emod_of_nonneg (by omega)]
      exact decide_eq_decide.2 (by omega)
    refine FL_of1 ?_
    rw [eq47_L0, wS (i := i) (by omega), hw, hd, thereB]
    refine Br_t (by omega) (Ck_room (by omega) ?_)
    have := l47 n (i + 1) (b / 2) (out ++ [decide (b % 2 = 1)]) (by omega) (by simp; omega) (by omega)
    rw [List.append_assoc] at this
    exact this
theorem c47 (b : Int) (h0 : 0 ≤ b) (h1 : b < 256) : SC P 47 [.one (.int .i64 b)] [] [.one (.sl 0 none)] [.row .bool (thereB 8 b.toNat) .own] := by
  refine SC_of_FB (H := H47) E_ok Try.func47 (by kernel_rfl) ?_
  rw [eq47]
  have := l47 8 0 b.toNat [] rfl rfl (by omega)
  rw [show ((b.toNat : Nat) : Int) = b by omega] at this
  exact this
theorem thereB_len : ∀ (n b : Nat), (thereB n b).length = n
  | 0, _ => rfl
  | n + 1, b => by rw [thereB, List.length_cons, thereB_len n]
/-! loop.example/keelson/spec.CodeAll -/
def H45 : Hint := ⟨[], [], [], [], [], [], []⟩
theorem eq45 (kind : Int) (data : List Int) (r : List W) (lh : Heap) : FB E H45 Try.f45 [.one (.int .i64 kind), .one (.ro (.int .i64) data)] [] r lh =
  (
   ∃ r0 : Bool, SC P 78 [.one (.int .i64 kind)] [] [.one (.bool r0)] [] ∧
    Br (!r0) (
     Ret r lh [.one (.sl 0 none)] [.row (.int .i64) [] .own]) (
     ∃ r1 : Bool, SC P 98 [.one (.ro (.int .i64) data)] [] [.one (.bool r1)] [] ∧
      Br (!r1) (
       Ret r lh [.one (.sl 0 none)] [.row (.int .i64) [] .own]) (
       ∃ r2 : List Int, SC P 99 [.one (.int .i64 kind), .one (.ro (.int .i64) data)] [] [.one (.sl 0 none)] [.row (.int .i64) r2 .own] ∧
        Ret r lh [.one (.sl 0 none)] [.row (.int .i64) r2 .own]))) := by kernel_rfl
theorem c45 (kind : Int) (d : List Int) (hd : d.length ≤ 1048576) : SC P 45 [.one (.int .i64 kind), .one (.ro (.int .i64) d)] [] [.one (.sl 0 none)] [.row (.int .i64) (codeAll kind d) .own] := by
  refine SC_of_FB (H := H45) E_ok Try.func45 (by kernel_rfl) ?_
  rw [eq45]
  refine ⟨_, c78 kind, Br_nb (fun e => ⟨rfl, by rw [codeAll, e]; rfl⟩) (fun e => ⟨_, c98 d hd, Br_nb (fun e2 => ⟨rfl, by rw [codeAll, e2, Bool.and_false]; rfl⟩) (fun e2 => ?_)⟩)⟩
  obtain ⟨v, hv, rfl⟩ := vecOk_v e2
  rw [codeAll, e, e2, vecF_l hv]
  exact ⟨_, c99 kind e v hv, rfl, rfl⟩
end Go.Proofs.Ytlebgbcoljnejaa.Sh
