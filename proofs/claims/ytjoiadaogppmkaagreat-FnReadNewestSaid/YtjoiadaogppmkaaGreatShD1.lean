/- Draws of shards and values: contracts. -/
import Derived.Test.YtjoiadaogppmkaaGreatShP3
import Derived.Test.YtjoiadaogppmkaaGreatShS2
namespace Go.Proofs.YtjoiadaogppmkaaGreat.Sh
open Go
set_option linter.unusedVariables false
set_option linter.unusedSimpArgs false
/-! loop.example/keelson/spec.l4Set -/
def H86 : Hint := ⟨[[(0, 0, .bool), (3, 0, .bool), (4, 0, .bool)]], [], [], [], [], [], []⟩
def S86_L0 (bits0 : Int) (i4 : Int) (h0 : List Bool) : St := ⟨[(0, .w (.one (.int .i64 bits0))), (3, .w (.one (.sl 0 none))), (4, .w (.one (.int .i64 i4)))], [.row .bool h0 .own]⟩
theorem eq86 (bits : Int) (r : List W) (lh : Heap) : FB E H86 Tryz.f86 [.one (.int .i64 bits)] [] r lh =
  (
   FL E H86 Tryz.f86 0 r lh 0 (S86_L0 bits 0 [false, false, false, false, false, false, false, false])) := by kernel_rfl
theorem eq86_L0 (bits0 : Int) (i4 : Int) (h0 : List Bool) (r : List W) (lh : Heap) : FL1 E H86 Tryz.f86 0 r lh 0 (S86_L0 bits0 i4 h0) =
  (
   Br (decide (i4 < ((h0.length : Nat) : Int))) (
    Ck (decide ((0 : Int) ≤ i4)) (
     Ck (decide (i4 < ((h0.length : Nat) : Int))) (
      Ck (Nat.ble (i4.toNat + 1) h0.length) (
       FL E H86 Tryz.f86 0 r lh 0 (S86_L0 (IntKind.wrap .i64 (Int.tdiv bits0 2)) (IntKind.wrap .i64 (i4 + 1)) (h0.set i4.toNat (decide ((Int.tmod bits0 2) = (1 : Int))))))))) (
    Ret r lh [.one (.sl 0 none)] [.row .bool h0 .own])) := by kernel_rfl
theorem c86 : SC P 86 [.one (.int .i64 255)] [] [.one (.sl 0 none)] [.row .bool [true, true, true, true, true, true, true, true] .own] := by
  refine SC_of_FB (H := H86) E_ok Tryz.func86 (by kernel_rfl) ?_
  rw [eq86]
  have step : ∀ (i : Nat) (bits bits' : Int) (h : List Bool), i < 8 → h.length = 8 → bits.tmod 2 = 1 → IntKind.wrap .i64 (bits.tdiv 2) = bits' → FL E H86 Tryz.f86 0 [.one (.sl 0 none)] [.row .bool [true, true, true, true, true, true, true, true] .own] 0 (S86_L0 bits' ((i + 1 : Nat) : Int) (h.set i true)) →
      FL E H86 Tryz.f86 0 [.one (.sl 0 none)] [.row .bool [true, true, true, true, true, true, true, true] .own] 0 (S86_L0 bits (i : Int) h) := by
    intro i bits bits' h hi hl hb hw hF
    refine FL_of1 ?_
    rw [eq86_L0, wS (by omega), decide_eq_true hb, hw]
    simp only [Int.toNat_natCast]
    exact Br_t (by omega) (Ck_d (by omega) (Ck_d (by omega) (Ck_le (by omega) hF)))
  refine step 0 255 127 _ (by omega) rfl rfl rfl (step 1 127 63 _ (by omega) rfl rfl rfl (step 2 63 31 _ (by omega) rfl rfl rfl (step 3 31 15 _ (by omega) rfl rfl rfl (step 4 15 7 _ (by omega) rfl rfl rfl (step 5 7 3 _ (by omega) rfl rfl rfl (step 6 3 1 _ (by omega) rfl rfl rfl (step 7 1 0 _ (by omega) rfl rfl rfl ?_)))))))
  refine FL_of1 ?_
  rw [eq86_L0]
  exact Br_f (by simp) ⟨rfl, rfl⟩

/-! loop.example/keelson/spec.l91Num -/
def H61 : Hint := ⟨[], [], [], [], [], [], []⟩
theorem eq61 (b : List Int) (p : Int) (r : List W) (lh : Heap) : FB E H61 Tryz.f61 [.one (.ptr 0 0 0)] [.box [.ro (.int .u8) b, .int .i64 p]] r lh =
  (
   ∃ r0 : List Int × Int × Int, SC P 56 [.one (.ptr 0 0 0), .one (.int .i64 10)] [.box [.ro (.int .u8) b, .int .i64 p]] [.one (.int .i64 r0.2.2)] [.box [.ro (.int .u8) r0.1, .int .i64 r0.2.1]] ∧
    Br (decide (r0.2.2 = (0 : Int))) (
     Ret r lh [.one (.int .i64 0)] [.box [.ro (.int .u8) r0.1, .int .i64 r0.2.1]]) (
     Br (decide (r0.2.2 = (1 : Int))) (
      ∃ r1 : List Int × Int × Int, SC P 56 [.one (.ptr 0 0 0), .one (.int .i64 2)] [.box [.ro (.int .u8) r0.1, .int .i64 r0.2.1]] [.one (.int .i64 r1.2.2)] [.box [.ro (.int .u8) r1.1, .int .i64 r1.2.1]] ∧
       Ck (decide ((0 : Int) ≤ r1.2.2)) (
        Ck (decide (r1.2.2 < (2 : Int))) (
         Ck (Nat.ble (r1.2.2.toNat + 1) 2) (
          Ret r lh [.one (.int .i64 ([1, 30].getD r1.2.2.toNat 0))] [.box [.ro (.int .u8) r1.1, .int .i64 r1.2.1]])))) (
      Br (decide (r0.2.2 = (2 : Int))) (
       ∃ r2 : List Int × Int × Int, SC P 56 [.one (.ptr 0 0 0), .one (.int .i64 5)] [.box [.ro (.int .u8) r0.1, .int .i64 r0.2.1]] [.one (.int .i64 r2.2.2)] [.box [.ro (.int .u8) r2.1, .int .i64 r2.2.1]] ∧
        Br (decide (r2.2.2 = (0 : Int))) (
         ∃ r3 : List Int × Int × Int, SC P 56 [.one (.ptr 0 0 0), .one (.int .i64 2)] [.box [.ro (.int .u8) r2.1, .int .i64 r2.2.1]] [.one (.int .i64 r3.2.2)] [.box [.ro (.int .u8) r3.1, .int .i64 r3.2.1]] ∧
          Ck (decide ((0 : Int) ≤ r3.2.2)) (
           Ck (decide (r3.2.2 < (2 : Int))) (
            Ck (Nat.ble (r3.2.2.toNat + 1) 2) (
             Ret r lh [.one (.int .i64 ([(-1), 31].getD r3.2.2.toNat 0))] [.box [.ro (.int .u8) r3.1, .int .i64 r3.2.1]])))) (
         ∃ r4 : List Int × Int × Int, SC P 56 [.one (.ptr 0 0 0), .one (.int .i64 31)] [.box [.ro (.int .u8) r2.1, .int .i64 r2.2.1]] [.one (.int .i64 r4.2.2)] [.box [.ro (.int .u8) r4.1, .int .i64 r4.2.1]] ∧
          Ret r lh [.one (.int .i64 r4.2.2)] [.box [.ro (.int .u8) r4.1, .int .i64 r4.2.1]])) (
       ∃ r5 : List Int × Int × Int, SC P 56 [.one (.ptr 0 0 0), .one (.int .i64 31)] [.box [.ro (.int .u8) r0.1, .int .i64 r0.2.1]] [.one (.int .i64 r5.2.2)] [.box [.ro (.int .u8) r5.1, .int .i64 r5.2.1]] ∧
        Ret r lh [.one (.int .i64 r5.2.2)] [.box [.ro (.int .u8) r5.1, .int .i64 r5.2.1]])))) := by kernel_rfl
theorem c61 (b : List Int) (p : Int) (hb : RdB b) (h0 : 0 ≤ p) (h1 : p ≤ 10000) : ∃ v p', 0 ≤ p' ∧ p' ≤ p + 4 ∧ SC P 61 [.one (.ptr 0 0 0)] [.box [.ro (.int .u8) b, .int .i64 p]] [.one (.int .i64 v)] [.box [.ro (.int .u8) b, .int .i64 p']] := by
  obtain ⟨v0, a0, b0, s0⟩ := c56 b p 10 hb (by omega) (by omega) (by omega)
  by_cases c0 : v0 = 0
  · refine ⟨0, p + 1, by omega, by omega, ?_⟩
    refine SC_of_FB (H := H61) E_ok Tryz.func61 (by kernel_rfl) ?_
    rw [eq61]
    exact ⟨(b, p + 1, v0), s0, Br_t c0 ⟨rfl, rfl⟩⟩
  by_cases c1 : v0 = 1
  · obtain ⟨v1, a1, b1, s1⟩ := c56 b (p + 1) 2 hb (by omega) (by omega) (by omega)
    refine ⟨[1, 30].getD v1.toNat 0, p + 1 + 1, by omega, by omega, ?_⟩
    refine SC_of_FB (H := H61) E_ok Tryz.func61 (by kernel_rfl) ?_
    rw [eq61]
    exact ⟨(b, p + 1, v0), s0, Br_f c0 (Br_t c1 ⟨(b, p + 1 + 1, v1), s1, Ck_d (by omega) (Ck_d (by omega) (Ck_le (by dsimp only; omega) ⟨rfl, rfl⟩))⟩)⟩
  by_cases c2 : v0 = 2
  · obtain ⟨v2, a2, b2, s2⟩ := c56 b (p + 1) 5 hb (by omega) (by omega) (by omega)
    by_cases c3 : v2 = 0
    · obtain ⟨v3, a3, b3, s3⟩ := c56 b (p + 1 + 1) 2 hb (by omega) (by omega) (by omega)
      refine ⟨[-1, 31].getD v3.toNat 0, p + 1 + 1 + 1, by omega, by omega, ?_⟩
      refine SC_of_FB (H := H61) E_ok Tryz.func61 (by kernel_rfl) ?_
      rw [eq61]
      exact ⟨(b, p + 1, v0), s0, Br_f c0 (Br_f c1 (Br_t c2 ⟨(b, p + 1 + 1, v2), s2, Br_t c3 ⟨(b, p + 1 + 1 + 1, v3), s3, Ck_d (by omega) (Ck_d (by omega) (Ck_le (by dsimp only; omega) ⟨rfl, rfl⟩))⟩⟩))⟩
    · obtain ⟨v3, a3, b3, s3⟩ := c56 b (p + 1 + 1) 31 hb (by omega) (by omega) (by omega)
      refine ⟨v3, p + 1 + 1 + 1, by omega, by omega, ?_⟩
      refine SC_of_FB (H := H61) E_ok Tryz.func61 (by kernel_rfl) ?_
      rw [eq61]
      exact ⟨(b, p + 1, v0), s0, Br_f c0 (Br_f c1 (Br_t c2 ⟨(b, p + 1 + 1, v2), s2, Br_f c3 ⟨(b, p + 1 + 1 + 1, v3), s3, rfl, rfl⟩⟩))⟩
  · obtain ⟨v3, a3, b3, s3⟩ := c56 b (p + 1) 31 hb (by omega) (by omega) (by omega)
    refine ⟨v3, p + 1 + 1, by omega, by omega, ?_⟩
    refine SC_of_FB (H := H61) E_ok Tryz.func61 (by kernel_rfl) ?_
    rw [eq61]
    exact ⟨(b, p + 1, v0), s0, Br_f c0 (Br_f c1 (Br_f c2 ⟨(b, p + 1 + 1, v3), s3, rfl, rfl⟩))⟩







theorem thereB_len : ∀ (n b : Nat), (thereB n b).length = n
  | 0, _ => rfl
  | n + 1, b => by rw [thereB, List.length_cons, thereB_len n]

end Go.Proofs.YtjoiadaogppmkaaGreat.Sh
