/- Patches that are drawn: contracts of the draws, and the laws on them. -/
import Derived.Test.YthehpbbibfallaaShP2
import Derived.Test.YthehpbbibfallaaShOpen
namespace Go.Proofs.Ythehpbbibfallaa.Sh
open Go
set_option linter.unusedVariables false
set_option linter.unusedSimpArgs false
/-- bytes that a draw reads -/
def RdB (b : List Int) : Prop := b.length ≤ 2000 ∧ ∀ x ∈ b, 0 ≤ x ∧ x ≤ 255
def Bytes (code : List Int) : Prop := ∀ x ∈ code, 0 ≤ x ∧ x ≤ 255
theorem bytes_of {l : List Int} (h : InR (.sl (.int .u8)) l) : Bytes l := by
  intro x hx
  have := h.2 x hx
  simp only [InR, Lit.wf, Bool.and_eq_true, decide_eq_true_iff] at this
  exact this
theorem rdB_get {b : List Int} (h : RdB b) (i : Nat) : 0 ≤ b.getD i 0 ∧ b.getD i 0 ≤ 255 := by
  by_cases hi : i < b.length
  · rw [getD_eq hi]; exact h.2 _ (List.getElem_mem hi)
  · rw [List.getD, List.getElem?_eq_none (by omega)]; simp
theorem xorI_small {a b : Int} (ha : 0 ≤ a) (ha' : a < 1099511627776) (hb : 0 ≤ b) (hb' : b < 1099511627776) : 0 ≤ xorI .i64 a b ∧ xorI .i64 a b < 1099511627776 := by
  unfold xorI
  have h1 : (BitVec.ofInt (IntKind.bits .i64) a).toNat < 2 ^ 40 := by
    rw [BitVec.toNat_ofInt]
    simp only [IntKind.bits]
    omega
  have h2 : (BitVec.ofInt (IntKind.bits .i64) b).toNat < 2 ^ 40 := by
    rw [BitVec.toNat_ofInt]
    simp only [IntKind.bits]
    omega
  have h3 := Nat.xor_lt_two_pow h1 h2
  rw [BitVec.toNat_xor]
  rw [wrap64 (by omega) (by omega)]
  omega
/-! loop.example/keelson/spec.l6Open -/
def H66 : Hint := ⟨[], [], [], [], [], []⟩
theorem eq66 (code : List Int) (r : List W) (lh : Heap) : FB E H66 Try.f66 [.one (.ro (.int .u8) code)] [] r lh =
  (
   Br (decide ((2000 : Int) < ((code.length : Nat) : Int))) (
    Ck (decide ((2000 : Int) ≤ ((code.length : Nat) : Int))) (
     Ck (decide (((code.length : Nat) : Int) ≤ ((code.length : Nat) : Int))) (
      Ret r lh [.one (.ptr 0 0 0)] [.box [.ro (.int .u8) ((code.drop 0).take (2000 - 0)), .int .i64 0]]))) (
    Ret r lh [.one (.ptr 0 0 0)] [.box [.ro (.int .u8) code, .int .i64 0]])) := by kernel_rfl
theorem c66 (code : List Int) (h : Bytes code) : ∃ b, RdB b ∧ SC P 66 [.one (.ro (.int .u8) code)] [] [.one (.ptr 0 0 0)] [.box [.ro (.int .u8) b, .int .i64 0]] := by
  by_cases hl : 2000 < code.length
  · refine ⟨(code.drop 0).take (2000 - 0), ⟨by simp; omega, fun x hx => h x (List.mem_of_mem_drop (List.mem_of_mem_take hx))⟩, ?_⟩
    refine SC_of_FB (H := H66) E_ok Try.func66 (by kernel_rfl) ?_
    rw [eq66]
    exact Br_t (by omega) (Ck_d (by omega) (Ck_d (by omega) ⟨rfl, rfl⟩))
  · refine ⟨code, ⟨by omega, h⟩, ?_⟩
    refine SC_of_FB (H := H66) E_ok Try.func66 (by kernel_rfl) ?_
    rw [eq66]
    exact Br_f (by omega) ⟨rfl, rfl⟩
/-! (*loop.example/keelson/spec.l6Rd).pick -/
def H67 : Hint := ⟨[], [], [(7, [0, 1, 2, 3, 4, 5, 6, 7, 8, 9, 10, 11, 12, 13, 14, 15, 16, 17, 18, 19, 20, 21, 22, 23, 24, 25, 26, 27, 28, 29, 30, 31, 32, 33, 34, 35, 36, 37, 38, 39, 40, 41, 42, 43, 44, 45])], [], [], []⟩
theorem eq67 (n : Int) (b : List Int) (p : Int) (r : List W) (lh : Heap) : FB E H67 Try.f67 [.one (.ptr 0 0 0), .one (.int .i64 n)] [.box [.ro (.int .u8) b, .int .i64 p]] r lh =
  (
   Br (decide (n < (1 : Int))) (
    Ret r lh [.one (.int .i64 0)] [.box [.ro (.int .u8) b, .int .i64 (IntKind.wrap .i64 (p + 1))]]) (
    Br (decide (((b.length : Nat) : Int) = (0 : Int))) (
     Ret r lh [.one (.int .i64 0)] [.box [.ro (.int .u8) b, .int .i64 (IntKind.wrap .i64 (p + 1))]]) (
     Br (decide ((IntKind.wrap .i64 ((IntKind.wrap .i64 (p + 1)) - 1)) < ((b.length : Nat) : Int))) (
      Ck (decide ((0 : Int) ≤ (IntKind.wrap .i64 ((IntKind.wrap .i64 (p + 1)) - 1)))) (
       Ck (decide ((IntKind.wrap .i64 ((IntKind.wrap .i64 (p + 1)) - 1)) < ((b.length : Nat) : Int))) (
        Ck (!decide (n = 0)) (
         Ret r lh [.one (.int .i64 (Int.tmod (IntKind.wrap .i64 (b.getD (IntKind.wrap .i64 ((IntKind.wrap .i64 (p + 1)) - 1)).toNat 0)) n))] [.box [.ro (.int .u8) b, .int .i64 (IntKind.wrap .i64 (p + 1))]])))) (
      Ck (!decide (((b.length : Nat) : Int) = 0)) (
       Ck (decide ((0 : Int) ≤ (Int.tmod (IntKind.wrap .i64 ((IntKind.wrap .i64 (p + 1)) - 1)) ((b.length : Nat) : Int)))) (
        Ck (decide ((Int.tmod (IntKind.wrap .i64 ((IntKind.wrap .i64 (p + 1)) - 1)) ((b.length : Nat) : Int)) < ((b.length : Nat) : Int))) (
         Ck (!decide (((b.length : Nat) : Int) = 0)) (
          Ck (decide ((0 : Int) ≤ (Int.tmod (IntKind.wrap .i64 ((IntKind.wrap .i64 ((IntKind.wrap .i64 ((IntKind.wrap .i64 (p + 1)) - 1)) * 7)) + 3)) ((b.length : Nat) : Int)))) (
           Ck (decide ((Int.tmod (IntKind.wrap .i64 ((IntKind.wrap .i64 ((IntKind.wrap .i64 ((IntKind.wrap .i64 (p + 1)) - 1)) * 7)) + 3)) ((b.length : Nat) : Int)) < ((b.length : Nat) : Int))) (
            Ck (!decide (((b.length : Nat) : Int) = 0)) (
             Ck (!decide (n = 0)) (
              Ret r lh [.one (.int .i64 (Int.tmod (xorI .i64 (IntKind.wrap .i64 ((IntKind.wrap .i64 ((IntKind.wrap .i64 ((IntKind.wrap .i64 ((IntKind.wrap .i64 (b.getD (Int.tmod (IntKind.wrap .i64 ((IntKind.wrap .i64 (p + 1)) - 1)) ((b.length : Nat) : Int)).toNat 0)) * 131)) + (IntKind.wrap .i64 ((IntKind.wrap .i64 (b.getD (Int.tmod (IntKind.wrap .i64 ((IntKind.wrap .i64 ((IntKind.wrap .i64 ((IntKind.wrap .i64 (p + 1)) - 1)) * 7)) + 3)) ((b.length : Nat) : Int)).toNat 0)) * 1117)))) + (IntKind.wrap .i64 ((IntKind.wrap .i64 ((IntKind.wrap .i64 (p + 1)) - 1)) * 29)))) + (IntKind.wrap .i64 ((IntKind.wrap .i64 (Int.tdiv (IntKind.wrap .i64 ((IntKind.wrap .i64 (p + 1)) - 1)) ((b.length : Nat) : Int))) * 53)))) (IntKind.wrap .i64 (Int.tdiv (IntKind.wrap .i64 ((IntKind.wrap .i64 ((IntKind.wrap .i64 ((IntKind.wrap .i64 ((IntKind.wrap .i64 (b.getD (Int.tmod (IntKind.wrap .i64 ((IntKind.wrap .i64 (p + 1)) - 1)) ((b.length : Nat) : Int)).toNat 0)) * 131)) + (IntKind.wrap .i64 ((IntKind.wrap .i64 (b.getD (Int.tmod (IntKind.wrap .i64 ((IntKind.wrap .i64 ((IntKind.wrap .i64 ((IntKind.wrap .i64 (p + 1)) - 1)) * 7)) + 3)) ((b.length : Nat) : Int)).toNat 0)) * 1117)))) + (IntKind.wrap .i64 ((IntKind.wrap .i64 ((IntKind.wrap .i64 (p + 1)) - 1)) * 29)))) + (IntKind.wrap .i64 ((IntKind.wrap .i64 (Int.tdiv (IntKind.wrap .i64 ((IntKind.wrap .i64 (p + 1)) - 1)) ((b.length : Nat) : Int))) * 53)))) 64))) n))] [.box [.ro (.int .u8) b, .int .i64 (IntKind.wrap .i64 (p + 1))]])))))))))))) := by kernel_rfl
theorem c67 (b : List Int) (p n : Int) (hb : RdB b) (h0 : 0 ≤ p) (h1 : p ≤ 100000) (hn : 1 ≤ n) : ∃ v, 0 ≤ v ∧ v < n ∧ SC P 67 [.one (.ptr 0 0 0), .one (.int .i64 n)] [.box [.ro (.int .u8) b, .int .i64 p]] [.one (.int .i64 v)] [.box [.ro (.int .u8) b, .int .i64 (p + 1)]] := by
  by_cases e0 : (b.length : Int) = 0
  · refine ⟨0, by omega, by omega, ?_⟩
    refine SC_of_FB (H := H67) E_ok Try.func67 (by kernel_rfl) ?_
    rw [eq67]
    rw [wrap64 (n := p + 1) (by omega) (by omega)]
    exact Br_f (by omega) (Br_t e0 ⟨rfl, rfl⟩)
  · by_cases e1 : p < b.length
    · have hg := rdB_get hb p.toNat
      refine ⟨(b.getD p.toNat 0).tmod n, Int.tmod_nonneg _ hg.1, Int.tmod_lt_of_pos _ (by omega), ?_⟩
      refine SC_of_FB (H := H67) E_ok Try.func67 (by kernel_rfl) ?_
      rw [eq67]
      rw [wrap64 (n := p + 1) (by omega) (by omega), Int.add_sub_cancel, wrap64 (n := p) (by omega) (by omega), wrap64 (n := b.getD p.toNat 0) (by omega) (by omega)]
      exact Br_f (by omega) (Br_f e0 (Br_t e1 (Ck_d (by omega) (Ck_d (by omega) (Ck_n (by omega) ⟨rfl, rfl⟩)))))
    · have hl : (0 : Int) < b.length := by omega
      have q1 := Int.tmod_nonneg (b.length : Int) (show (0 : Int) ≤ p by omega)
      have q2 := Int.tmod_lt_of_pos p hl
      have q3 := Int.tmod_nonneg (b.length : Int) (show (0 : Int) ≤ p * 7 + 3 by omega)
      have q4 := Int.tmod_lt_of_pos (p * 7 + 3) hl
      have d1 : (p.tdiv b.length) = p / b.length := Int.tdiv_eq_ediv_of_nonneg h0
      have d2 := Int.ediv_nonneg h0 (show (0 : Int) ≤ b.length by omega)
      have d3 : p / (b.length : Int) ≤ p := Int.ediv_le_self _ h0
      have g1 := rdB_get hb (p.tmod b.length).toNat
      have g2 := rdB_get hb ((p * 7 + 3).tmod b.length).toNat
      have key : ∀ A B D : Int, 0 ≤ A → A ≤ 255 → 0 ≤ B → B ≤ 255 → 0 ≤ D → D ≤ p →
          0 ≤ A * 131 + B * 1117 + p * 29 + D * 53 ∧ A * 131 + B * 1117 + p * 29 + D * 53 < 1099511627776 := by
        intro A B D a1 a2 b1 b2 c1 c2
        omega
      have k1 := key _ _ _ g1.1 g1.2 g2.1 g2.2 d2 d3
      have k2 : 0 ≤ (b.getD (p.tmod b.length).toNat 0 * 131 + b.getD ((p * 7 + 3).tmod b.length).toNat 0 * 1117 + p * 29 + p / b.length * 53).tdiv 64 ∧
          (b.getD (p.tmod b.length).toNat 0 * 131 + b.getD ((p * 7 + 3).tmod b.length).toNat 0 * 1117 + p * 29 + p / b.length * 53).tdiv 64 < 1099511627776 := by
        rw [Int.tdiv_eq_ediv_of_nonneg k1.1]
        omega
      have k3 := xorI_small k1.1 k1.2 k2.1 k2.2
      refine ⟨Int.tmod _ n, Int.tmod_nonneg _ k3.1, Int.tmod_lt_of_pos _ (by omega), ?_⟩
      refine SC_of_FB (H := H67) E_ok Try.func67 (by kernel_rfl) ?_
      rw [eq67]
      rw [wrap64 (n := p + 1) (by omega) (by omega), Int.add_sub_cancel, wrap64 (n := p) (by omega) (by omega), wrap64 (n := p * 7) (by omega) (by omega), wrap64 (n := p * 7 + 3) (by omega) (by omega), d1]
      generalize b.getD (p.tmod b.length).toNat 0 = A at g1 k1 k2 k3 ⊢
      generalize b.getD ((p * 7 + 3).tmod b.length).toNat 0 = B at g2 k1 k2 k3 ⊢
      generalize p / (b.length : Int) = D at d2 d3 k1 k2 k3 ⊢
      rw [wrap64 (n := A) (by omega) (by omega), wrap64 (n := B) (by omega) (by omega), wrap64 (n := D) (by omega) (by omega), wrap64 (n := A * 131) (by omega) (by omega), wrap64 (n := B * 1117) (by omega) (by omega), wrap64 (n := p * 29) (by omega) (by omega), wrap64 (n := D * 53) (by omega) (by omega),
        wrap64 (n := A * 131 + B * 1117) (by omega) (by omega), wrap64 (n := A * 131 + B * 1117 + p * 29) (by omega) (by omega), wrap64 (n := A * 131 + B * 1117 + p * 29 + D * 53) (by omega) (by omega), wrap64 (n := (A * 131 + B * 1117 + p * 29 + D * 53).tdiv 64) (by omega) (by omega)]
      exact Br_f (by omega) (Br_f e0 (Br_f e1 (Ck_n e0 (Ck_d q1 (Ck_d q2 (Ck_n e0 (Ck_d q3 (Ck_d q4 (Ck_n e0 (Ck_n (by omega) ⟨rfl, rfl⟩))))))))))
/-! loop.example/keelson/spec.l92Patch -/
def H76 : Hint := ⟨[], [], [], [], [], []⟩
theorem eq76 (b : List Int) (p : Int) (r : List W) (lh : Heap) : FB E H76 Try.f76 [.one (.ptr 0 0 0)] [.box [.ro (.int .u8) b, .int .i64 p]] r lh =
  (
   ∃ r0 : List Int × Int × Int, SC P 67 [.one (.ptr 0 0 0), .one (.int .i64 4)] [.box [.ro (.int .u8) b, .int .i64 p]] [.one (.int .i64 r0.2.2)] [.box [.ro (.int .u8) r0.1, .int .i64 r0.2.1]] ∧
    ∃ r1 : List Int × Int × Int, SC P 67 [.one (.ptr 0 0 0), .one (.int .i64 30)] [.box [.ro (.int .u8) r0.1, .int .i64 r0.2.1]] [.one (.int .i64 r1.2.2)] [.box [.ro (.int .u8) r1.1, .int .i64 r1.2.1]] ∧
     ∃ r2 : List Int × Int × Int, SC P 67 [.one (.ptr 0 0 0), .one (.int .i64 40)] [.box [.ro (.int .u8) r1.1, .int .i64 r1.2.1]] [.one (.int .i64 r2.2.2)] [.box [.ro (.int .u8) r2.1, .int .i64 r2.2.1]] ∧
      Ret r lh [.agg [.int .i64 r0.2.2, .int .i64 (IntKind.wrap .i64 ((IntKind.wrap .i64 (1 + r1.2.2)) - (IntKind.wrap .i64 ((IntKind.wrap .i64 (Int.tdiv r2.2.2 39)) * 31))))]] [.box [.ro (.int .u8) r2.1, .int .i64 r2.2.1]]) := by kernel_rfl
theorem c76 (b : List Int) (p : Int) (hb : RdB b) (h0 : 0 ≤ p) (h1 : p ≤ 10000) : ∃ q : Pat, SC P 76 [.one (.ptr 0 0 0)] [.box [.ro (.int .u8) b, .int .i64 p]] [.agg [.int .i64 q.1, .int .i64 q.2]] [.box [.ro (.int .u8) b, .int .i64 (p + 1 + 1 + 1)]] := by
  obtain ⟨v1, a1, b1, s1⟩ := c67 b p 4 hb (by omega) (by omega) (by omega)
  obtain ⟨v2, a2, b2, s2⟩ := c67 b (p + 1) 30 hb (by omega) (by omega) (by omega)
  obtain ⟨v3, a3, b3, s3⟩ := c67 b (p + 1 + 1) 40 hb (by omega) (by omega) (by omega)
  refine ⟨(v1, IntKind.wrap .i64 (IntKind.wrap .i64 (1 + v2) - IntKind.wrap .i64 (IntKind.wrap .i64 (Int.tdiv v3 39) * 31))), ?_⟩
  refine SC_of_FB (H := H76) E_ok Try.func76 (by kernel_rfl) ?_
  rw [eq76]
  exact ⟨(b, p + 1, v1), s1, (b, p + 1 + 1, v2), s2, (b, p + 1 + 1 + 1, v3), s3, rfl, rfl⟩
/-! loop.example/keelson/spec.l91Vec -/
def H77 : Hint := ⟨[[(0, 0, .bool), (3, 0, .bool), (4, 0, .bool)]], [], [], [], [.one (.c (.sl (.int .i64)))], []⟩
def S77_L0 (i4 : Int) (b0_0 : List Int) (b0_1 : Int) (h1 : List Int) : St := ⟨[(0, .w (.one (.ptr 0 0 0))), (3, .w (.one (.sl 1 none))), (4, .w (.one (.int .i64 i4)))], [.box [.ro (.int .u8) b0_0, .int .i64 b0_1], .row (.int .i64) h1 .own]⟩
theorem eq77 (b : List Int) (p : Int) (r : List W) (lh : Heap) : FB E H77 Try.f77 [.one (.ptr 0 0 0)] [.box [.ro (.int .u8) b, .int .i64 p]] r lh =
  (
   FL E H77 Try.f77 1 r lh 0 (S77_L0 0 b p [])) := by kernel_rfl
theorem eq77_L0 (i4 : Int) (b0_0 : List Int) (b0_1 : Int) (h1 : List Int) (r : List W) (lh : Heap) : FL1 E H77 Try.f77 1 r lh 0 (S77_L0 i4 b0_0 b0_1 h1) =
  (
   Br (decide (i4 < (4 : Int))) (
    ∃ r0 : List Int × Int × Int, SC P 67 [.one (.ptr 0 0 0), .one (.int .i64 4)] [.box [.ro (.int .u8) b0_0, .int .i64 b0_1]] [.one (.int .i64 r0.2.2)] [.box [.ro (.int .u8) r0.1, .int .i64 r0.2.1]] ∧
     ∃ r1 : List Int × Int × Int, SC P 67 [.one (.ptr 0 0 0), .one (.int .i64 31)] [.box [.ro (.int .u8) r0.1, .int .i64 r0.2.1]] [.one (.int .i64 r1.2.2)] [.box [.ro (.int .u8) r1.1, .int .i64 r1.2.1]] ∧
      ∃ r2 : List Int × Int × Int, SC P 67 [.one (.ptr 0 0 0), .one (.int .i64 31)] [.box [.ro (.int .u8) r1.1, .int .i64 r1.2.1]] [.one (.int .i64 r2.2.2)] [.box [.ro (.int .u8) r2.1, .int .i64 r2.2.1]] ∧
       ∃ r3 : List Int × Int × Int, SC P 67 [.one (.ptr 0 0 0), .one (.int .i64 4)] [.box [.ro (.int .u8) r2.1, .int .i64 r2.2.1]] [.one (.int .i64 r3.2.2)] [.box [.ro (.int .u8) r3.1, .int .i64 r3.2.1]] ∧
        Ck (decide ((0 : Int) ≤ r3.2.2)) (
         Ck (decide (r3.2.2 < (4 : Int))) (
          Ck (Nat.ble (r3.2.2.toNat + 1) 4) (
           Ck (Nat.ble ((h1.length + 1) * 8) roomy) (
            FL E H77 Try.f77 1 r lh 0 (S77_L0 (IntKind.wrap .i64 (i4 + 1)) r3.1 r3.2.1 (h1 ++ [([0, r0.2.2, r1.2.2, r2.2.2].getD r3.2.2.toNat 0)]))))))) (
    ∃ r4 : List Int × Int × Int, SC P 67 [.one (.ptr 0 0 0), .one (.int .i64 40)] [.box [.ro (.int .u8) b0_0, .int .i64 b0_1]] [.one (.int .i64 r4.2.2)] [.box [.ro (.int .u8) r4.1, .int .i64 r4.2.1]] ∧
     Br (decide (r4.2.2 = (0 : Int))) (
      Ck (decide ((1 : Int) ≤ ((h1.length : Nat) : Int))) (
       Ck (decide (((h1.length : Nat) : Int) ≤ ((h1.length : Nat) : Int))) (
        Ck (decide (((h1.length : Nat) : Int) ≤ ((h1.length : Nat) : Int))) (
         Ret r lh [.one (.ro (.int .i64) ((h1.drop 1).take (((h1.length : Nat) : Int).toNat - 1)))] [.box [.ro (.int .u8) r4.1, .int .i64 r4.2.1]])))) (
      Br (decide (r4.2.2 = (1 : Int))) (
       ∃ r5 : List Int × Int × Int, SC P 67 [.one (.ptr 0 0 0), .one (.int .i64 ((h1.length : Nat) : Int))] [.box [.ro (.int .u8) r4.1, .int .i64 r4.2.1]] [.one (.int .i64 r5.2.2)] [.box [.ro (.int .u8) r5.1, .int .i64 r5.2.1]] ∧
        ∃ r6 : List Int × Int × Int, SC P 67 [.one (.ptr 0 0 0), .one (.int .i64 2)] [.box [.ro (.int .u8) r5.1, .int .i64 r5.2.1]] [.one (.int .i64 r6.2.2)] [.box [.ro (.int .u8) r6.1, .int .i64 r6.2.1]] ∧
         Ck (decide ((0 : Int) ≤ r6.2.2)) (
          Ck (decide (r6.2.2 < (2 : Int))) (
           Ck (Nat.ble (r6.2.2.toNat + 1) 2) (
            Ck (decide ((0 : Int) ≤ r5.2.2)) (
             Ck (decide (r5.2.2 < ((h1.length : Nat) : Int))) (
              Ck (Nat.ble (r5.2.2.toNat + 1) h1.length) (
               Ret r lh [.one (.ro (.int .i64) (h1.set r5.2.2.toNat ([(-1), 31].getD r6.2.2.toNat 0)))] [.box [.ro (.int .u8) r6.1, .int .i64 r6.2.1]]))))))) (
       Ret r lh [.one (.ro (.int .i64) h1)] [.box [.ro (.int .u8) r4.1, .int .i64 r4.2.1]])))) := by kernel_rfl
theorem l77 (b : List Int) (hb : RdB b) : ∀ (n i : Nat) (p : Int) (h : List Int), i + n = 4 → h.length = i → 0 ≤ p → p + 4 * n ≤ 10000 → ∃ l p', 3 ≤ l.length ∧ l.length ≤ 4 ∧ 0 ≤ p' ∧ p' ≤ p + 4 * n + 3 ∧
    FL E H77 Try.f77 1 [.one (.ro (.int .i64) l)] [.box [.ro (.int .u8) b, .int .i64 p']] 0 (S77_L0 (i : Int) b p h)
  | 0, i, p, h, hi, hl, h0, h1 => by
    obtain ⟨v1, a1, b1, s1⟩ := c67 b p 40 hb (by omega) (by omega) (by omega)
    by_cases c0 : v1 = 0
    · refine ⟨(h.drop 1).take ((h.length : Int).toNat - 1), p + 1, by simp; omega, by simp; omega, by omega, by omega, ?_⟩
      refine FL_of1 ?_
      rw [eq77_L0]
      exact Br_f (by omega) ⟨(b, p + 1, v1), s1, Br_t c0 (Ck_d (by omega) (Ck_d (by omega) (Ck_d (by omega) ⟨rfl, rfl⟩)))⟩
    · by_cases c1 : v1 = 1
      · obtain ⟨v2, a2, b2, s2⟩ := c67 b (p + 1) (h.length : Int) hb (by omega) (by omega) (by omega)
        obtain ⟨v3, a3, b3, s3⟩ := c67 b (p + 1 + 1) 2 hb (by omega) (by omega) (by omega)
        refine ⟨h.set v2.toNat ([-1, 31].getD v3.toNat 0), p + 1 + 1 + 1, by simp; omega, by simp; omega, by omega, by omega, ?_⟩
        refine FL_of1 ?_
        rw [eq77_L0]
        exact Br_f (by omega) ⟨(b, p + 1, v1), s1, Br_f c0 (Br_t c1 ⟨(b, p + 1 + 1, v2), s2, (b, p + 1 + 1 + 1, v3), s3, Ck_d (by omega) (Ck_d (by omega) (Ck_le (by dsimp only; omega) (Ck_d (by omega) (Ck_d (by omega) (Ck_le (by dsimp only; omega) ⟨rfl, rfl⟩)))))⟩)⟩
      · refine ⟨h, p + 1, by omega, by omega, by omega, by omega, ?_⟩
        refine FL_of1 ?_
        rw [eq77_L0]
        exact Br_f (by omega) ⟨(b, p + 1, v1), s1, Br_f c0 (Br_f c1 ⟨rfl, rfl⟩)⟩
  | n + 1, i, p, h, hi, hl, h0, h1 => by
    obtain ⟨v0, a0, b0, s0⟩ := c67 b p 4 hb (by omega) (by omega) (by omega)
    obtain ⟨v1, a1, b1, s1⟩ := c67 b (p + 1) 31 hb (by omega) (by omega) (by omega)
    obtain ⟨v2, a2, b2, s2⟩ := c67 b (p + 1 + 1) 31 hb (by omega) (by omega) (by omega)
    obtain ⟨v3, a3, b3, s3⟩ := c67 b (p + 1 + 1 + 1) 4 hb (by omega) (by omega) (by omega)
    obtain ⟨l, p', e1, e2, e3, e4, hF⟩ := l77 b hb n (i + 1) (p + 1 + 1 + 1 + 1) (h ++ [[0, v0, v1, v2].getD v3.toNat 0]) (by omega) (by simp; omega) (by omega) (by omega)
    refine ⟨l, p', e1, e2, e3, by omega, ?_⟩
    refine FL_of1 ?_
    rw [eq77_L0, wS (by omega)]
    exact Br_t (by omega) ⟨(b, p + 1, v0), s0, (b, p + 1 + 1, v1), s1, (b, p + 1 + 1 + 1, v2), s2, (b, p + 1 + 1 + 1 + 1, v3), s3, Ck_d (by omega) (Ck_d (by omega) (Ck_le (by dsimp only; omega) (Ck_room (by omega) hF)))⟩
theorem c77 (b : List Int) (p : Int) (hb : RdB b) (h0 : 0 ≤ p) (h1 : p ≤ 5000) : ∃ l p', 3 ≤ l.length ∧ l.length ≤ 4 ∧ 0 ≤ p' ∧ p' ≤ p + 19 ∧
    SC P 77 [.one (.ptr 0 0 0)] [.box [.ro (.int .u8) b, .int .i64 p]] [.one (.ro (.int .i64) l)] [.box [.ro (.int .u8) b, .int .i64 p']] := by
  obtain ⟨l, p', e1, e2, e3, e4, hF⟩ := l77 b hb 4 0 p [] (by omega) rfl h0 (by omega)
  refine ⟨l, p', e1, e2, e3, by omega, ?_⟩
  refine SC_of_FB (H := H77) E_ok Try.func77 (by kernel_rfl) ?_
  rw [eq77]
  exact hF
/-! loop.example/keelson/spec.l91Kind -/
def H85 : Hint := ⟨[], [], [], [], [], []⟩
theorem eq85 (b : List Int) (p : Int) (r : List W) (lh : Heap) : FB E H85 Try.f85 [.one (.ptr 0 0 0)] [.box [.ro (.int .u8) b, .int .i64 p]] r lh =
  (
   ∃ r0 : List Int × Int × Int, SC P 67 [.one (.ptr 0 0 0), .one (.int .i64 40)] [.box [.ro (.int .u8) b, .int .i64 p]] [.one (.int .i64 r0.2.2)] [.box [.ro (.int .u8) r0.1, .int .i64 r0.2.1]] ∧
    Br (decide (r0.2.2 = (0 : Int))) (
     ∃ r1 : List Int × Int × Int, SC P 67 [.one (.ptr 0 0 0), .one (.int .i64 2)] [.box [.ro (.int .u8) r0.1, .int .i64 r0.2.1]] [.one (.int .i64 r1.2.2)] [.box [.ro (.int .u8) r1.1, .int .i64 r1.2.1]] ∧
      Ck (decide ((0 : Int) ≤ r1.2.2)) (
       Ck (decide (r1.2.2 < (2 : Int))) (
        Ck (Nat.ble (r1.2.2.toNat + 1) 2) (
         Ret r lh [.one (.int .i64 ([0, 3].getD r1.2.2.toNat 0))] [.box [.ro (.int .u8) r1.1, .int .i64 r1.2.1]])))) (
     ∃ r2 : List Int × Int × Int, SC P 67 [.one (.ptr 0 0 0), .one (.int .i64 2)] [.box [.ro (.int .u8) r0.1, .int .i64 r0.2.1]] [.one (.int .i64 r2.2.2)] [.box [.ro (.int .u8) r2.1, .int .i64 r2.2.1]] ∧
      Ret r lh [.one (.int .i64 (IntKind.wrap .i64 (1 + r2.2.2)))] [.box [.ro (.int .u8) r2.1, .int .i64 r2.2.1]])) := by kernel_rfl
theorem c85 (b : List Int) (p : Int) (hb : RdB b) (h0 : 0 ≤ p) (h1 : p ≤ 10000) : ∃ k p', 0 ≤ p' ∧ p' ≤ p + 2 ∧ SC P 85 [.one (.ptr 0 0 0)] [.box [.ro (.int .u8) b, .int .i64 p]] [.one (.int .i64 k)] [.box [.ro (.int .u8) b, .int .i64 p']] := by
  obtain ⟨v1, a1, b1, s1⟩ := c67 b p 40 hb (by omega) (by omega) (by omega)
  obtain ⟨v2, a2, b2, s2⟩ := c67 b (p + 1) 2 hb (by omega) (by omega) (by omega)
  by_cases c0 : v1 = 0
  · refine ⟨[0, 3].getD v2.toNat 0, p + 1 + 1, by omega, by omega, ?_⟩
    refine SC_of_FB (H := H85) E_ok Try.func85 (by kernel_rfl) ?_
    rw [eq85]
    exact ⟨(b, p + 1, v1), s1, Br_t c0 ⟨(b, p + 1 + 1, v2), s2, Ck_d (by omega) (Ck_d (by omega) (Ck_le (by dsimp only; omega) ⟨rfl, rfl⟩))⟩⟩
  · refine ⟨IntKind.wrap .i64 (1 + v2), p + 1 + 1, by omega, by omega, ?_⟩
    refine SC_of_FB (H := H85) E_ok Try.func85 (by kernel_rfl) ?_
    rw [eq85]
    exact ⟨(b, p + 1, v1), s1, Br_f c0 ⟨(b, p + 1 + 1, v2), s2, rfl, rfl⟩⟩
/-! loop.example/keelson/spec.DrawPatchOk -/
def H15 : Hint := ⟨[], [], [], [], [], []⟩
theorem eq15 (code : List Int) (r : List W) (lh : Heap) : FB E H15 Try.f15 [.one (.ro (.int .u8) code)] [] r lh =
  (
   ∃ r0 : (List Int × Int), SC P 66 [.one (.ro (.int .u8) code)] [] [.one (.ptr 0 0 0)] [.box [.ro (.int .u8) r0.1, .int .i64 r0.2]] ∧
    ∃ r1 : List Int × Int × Int, SC P 67 [.one (.ptr 0 0 0), .one (.int .i64 6)] [.box [.ro (.int .u8) r0.1, .int .i64 r0.2]] [.one (.int .i64 r1.2.2)] [.box [.ro (.int .u8) r1.1, .int .i64 r1.2.1]] ∧
     ∃ r2 : List Int × Int × Int, SC P 67 [.one (.ptr 0 0 0), .one (.int .i64 33)] [.box [.ro (.int .u8) r1.1, .int .i64 r1.2.1]] [.one (.int .i64 r2.2.2)] [.box [.ro (.int .u8) r2.1, .int .i64 r2.2.1]] ∧
      Ret r lh [.agg [.int .i64 (IntKind.wrap .i64 (r1.2.2 - 1)), .int .i64 r2.2.2]] []) := by kernel_rfl
theorem c15 (code : List Int) (hc : Bytes code) : ∃ q : Pat, SC P 15 [.one (.ro (.int .u8) code)] [] [.agg [.int .i64 q.1, .int .i64 q.2]] [] := by
  obtain ⟨b, hb, s0⟩ := c66 code hc
  obtain ⟨v1, a1, b1, s1⟩ := c67 b 0 6 hb (by omega) (by omega) (by omega)
  obtain ⟨v2, a2, b2, s2⟩ := c67 b (0 + 1) 33 hb (by omega) (by omega) (by omega)
  refine ⟨(IntKind.wrap .i64 (v1 - 1), v2), ?_⟩
  refine SC_of_FB (H := H15) E_ok Try.func15 (by kernel_rfl) ?_
  rw [eq15]
  exact ⟨(b, 0), s0, (b, 0 + 1, v1), s1, (b, 0 + 1 + 1, v2), s2, rfl, rfl⟩
/-! loop.example/keelson/spec.DrawPatchData -/
def H21 : Hint := ⟨[[(4, 0, .bool), (5, 0, .bool), (6, 0, .bool)]], [], [], [], [], []⟩
def S21_L0 (n6 : Int) (b0_0 : List Int) (b0_1 : Int) (h1 : List (Int × Int)) : St := ⟨[(4, .w (.one (.ptr 0 0 0))), (5, .w (.one (.sl 1 none))), (6, .w (.one (.int .i64 n6)))], [.box [.ro (.int .u8) b0_0, .int .i64 b0_1], .row (.pair (.int .i64) (.int .i64)) h1 .own]⟩
theorem eq21 (code : List Int) (r : List W) (lh : Heap) : FB E H21 Try.f21 [.one (.ro (.int .u8) code)] [] r lh =
  (
   ∃ r0 : (List Int × Int), SC P 66 [.one (.ro (.int .u8) code)] [] [.one (.ptr 0 0 0)] [.box [.ro (.int .u8) r0.1, .int .i64 r0.2]] ∧
    ∃ r1 : List Int × Int × Int, SC P 67 [.one (.ptr 0 0 0), .one (.int .i64 5)] [.box [.ro (.int .u8) r0.1, .int .i64 r0.2]] [.one (.int .i64 r1.2.2)] [.box [.ro (.int .u8) r1.1, .int .i64 r1.2.1]] ∧
     FL E H21 Try.f21 0 r lh 0 (S21_L0 r1.2.2 r1.1 r1.2.1 [])) := by kernel_rfl
theorem eq21_L0 (n6 : Int) (b0_0 : List Int) (b0_1 : Int) (h1 : List (Int × Int)) (r : List W) (lh : Heap) : FL1 E H21 Try.f21 0 r lh 0 (S21_L0 n6 b0_0 b0_1 h1) =
  (
   Br (decide ((0 : Int) < n6)) (
    ∃ r0 : List Int × Int × Int × Int, SC P 76 [.one (.ptr 0 0 0)] [.box [.ro (.int .u8) b0_0, .int .i64 b0_1]] [.agg [.int .i64 r0.2.2.1, .int .i64 r0.2.2.2]] [.box [.ro (.int .u8) r0.1, .int .i64 r0.2.1]] ∧
     Ck (Nat.ble ((h1.length + 1) * 16) roomy) (
      FL E H21 Try.f21 0 r lh 0 (S21_L0 (IntKind.wrap .i64 (n6 - 1)) r0.1 r0.2.1 (h1 ++ [(r0.2.2.1, r0.2.2.2)])))) (
    ∃ r1 : List Int × Int × List Int, SC P 77 [.one (.ptr 0 0 0)] [.box [.ro (.int .u8) b0_0, .int .i64 b0_1]] [.one (.ro (.int .i64) r1.2.2)] [.box [.ro (.int .u8) r1.1, .int .i64 r1.2.1]] ∧
     Ret r lh [.one (.ro (.int .i64) r1.2.2), .one (.sl 0 none)] [.row (.pair (.int .i64) (.int .i64)) h1 .own])) := by kernel_rfl
theorem l21 (b : List Int) (hb : RdB b) : ∀ (n : Nat) (p : Int) (h : List Pat), 0 ≤ p → p + 3 * n ≤ 100 → h.length + n ≤ 10 → ∃ (d : List Int) (l : List Pat), d.length ≤ 4 ∧ l.length ≤ 10 ∧
    FL E H21 Try.f21 0 [.one (.ro (.int .i64) d), .one (.sl 0 none)] [.row (.pair (.int .i64) (.int .i64)) l .own] 0 (S21_L0 (n : Int) b p h)
  | 0, p, h, h0, h1, hl => by
    obtain ⟨l, p', e1, e2, e3, e4, s⟩ := c77 b p hb h0 (by omega)
    refine ⟨l, h, e2, by omega, ?_⟩
    refine FL_of1 ?_
    rw [eq21_L0]
    exact Br_f (by omega) ⟨(b, p', l), s, rfl, rfl⟩
  | n + 1, p, h, h0, h1, hl => by
    obtain ⟨q, s⟩ := c76 b p hb h0 (by omega)
    obtain ⟨d, l, e1, e2, hF⟩ := l21 b hb n (p + 1 + 1 + 1) (h ++ [q]) (by omega) (by omega) (by simp; omega)
    refine ⟨d, l, e1, e2, ?_⟩
    refine FL_of1 ?_
    rw [eq21_L0, wrap64 (n := ((n + 1 : Nat) : Int) - 1) (by omega) (by omega), show ((n + 1 : Nat) : Int) - 1 = (n : Int) by omega]
    exact Br_t (by omega) ⟨(b, p + 1 + 1 + 1, q.1, q.2), s, Ck_room (by omega) hF⟩
theorem c21 (code : List Int) (hc : Bytes code) : ∃ (d : List Int) (l : List Pat), d.length ≤ 4 ∧ l.length ≤ 10 ∧ SC P 21 [.one (.ro (.int .u8) code)] [] [.one (.ro (.int .i64) d), .one (.sl 0 none)] [.row (.pair (.int .i64) (.int .i64)) l .own] := by
  obtain ⟨b, hb, s0⟩ := c66 code hc
  obtain ⟨v1, a1, b1, s1⟩ := c67 b 0 5 hb (by omega) (by omega) (by omega)
  obtain ⟨d, l, e1, e2, hF⟩ := l21 b hb v1.toNat (0 + 1) [] (by omega) (by omega) (by simp; omega)
  rw [show ((v1.toNat : Nat) : Int) = v1 by omega] at hF
  refine ⟨d, l, e1, e2, ?_⟩
  refine SC_of_FB (H := H21) E_ok Try.func21 (by kernel_rfl) ?_
  rw [eq21]
  exact ⟨(b, 0), s0, (b, 0 + 1, v1), s1, hF⟩
/-! loop.example/keelson/spec.DrawPatchRow -/
def H29 : Hint := ⟨[], [], [], [], [], []⟩
theorem eq29 (code : List Int) (r : List W) (lh : Heap) : FB E H29 Try.f29 [.one (.ro (.int .u8) code)] [] r lh =
  (
   ∃ r0 : (List Int × Int), SC P 66 [.one (.ro (.int .u8) code)] [] [.one (.ptr 0 0 0)] [.box [.ro (.int .u8) r0.1, .int .i64 r0.2]] ∧
    ∃ r1 : List Int × Int × Int, SC P 85 [.one (.ptr 0 0 0)] [.box [.ro (.int .u8) r0.1, .int .i64 r0.2]] [.one (.int .i64 r1.2.2)] [.box [.ro (.int .u8) r1.1, .int .i64 r1.2.1]] ∧
     ∃ r2 : List Int × Int × Int × Int, SC P 76 [.one (.ptr 0 0 0)] [.box [.ro (.int .u8) r1.1, .int .i64 r1.2.1]] [.agg [.int .i64 r2.2.2.1, .int .i64 r2.2.2.2]] [.box [.ro (.int .u8) r2.1, .int .i64 r2.2.1]] ∧
      Ret r lh [.one (.int .i64 r1.2.2), .agg [.int .i64 r2.2.2.1, .int .i64 r2.2.2.2]] []) := by kernel_rfl
theorem c29 (code : List Int) (hc : Bytes code) : ∃ (k : Int) (q : Pat), SC P 29 [.one (.ro (.int .u8) code)] [] [.one (.int .i64 k), .agg [.int .i64 q.1, .int .i64 q.2]] [] := by
  obtain ⟨b, hb, s0⟩ := c66 code hc
  obtain ⟨k, p, p0, p1, s1⟩ := c85 b 0 hb (by omega) (by omega)
  obtain ⟨q, s2⟩ := c76 b p hb p0 (by omega)
  refine ⟨k, q, ?_⟩
  refine SC_of_FB (H := H29) E_ok Try.func29 (by kernel_rfl) ?_
  rw [eq29]
  exact ⟨(b, 0), s0, (b, p, k), s1, (b, p + 1 + 1 + 1, q.1, q.2), s2, rfl, rfl⟩
/-! loop.example/keelson/spec.DrawPatchOf -/
def H38 : Hint := ⟨[], [], [], [], [.one (.c (.sl (.int .i64))), .one (.c (.sl (.int .i64)))], []⟩
theorem eq38 (code : List Int) (r : List W) (lh : Heap) : FB E H38 Try.f38 [.one (.ro (.int .u8) code)] [] r lh =
  (
   ∃ r0 : (List Int × Int), SC P 66 [.one (.ro (.int .u8) code)] [] [.one (.ptr 0 0 0)] [.box [.ro (.int .u8) r0.1, .int .i64 r0.2]] ∧
    ∃ r1 : List Int × Int × List Int, SC P 77 [.one (.ptr 0 0 0)] [.box [.ro (.int .u8) r0.1, .int .i64 r0.2]] [.one (.ro (.int .i64) r1.2.2)] [.box [.ro (.int .u8) r1.1, .int .i64 r1.2.1]] ∧
     Ck (Nat.ble ((0 + r1.2.2.length) * 8) roomy) (
      ∃ r2 : List Int × Int × Int, SC P 67 [.one (.ptr 0 0 0), .one (.int .i64 3)] [.box [.ro (.int .u8) r1.1, .int .i64 r1.2.1]] [.one (.int .i64 r2.2.2)] [.box [.ro (.int .u8) r2.1, .int .i64 r2.2.1]] ∧
       Br (decide (r2.2.2 = (0 : Int))) (
        ∃ r3 : List Int × Int × List Int, SC P 77 [.one (.ptr 0 0 0)] [.box [.ro (.int .u8) r2.1, .int .i64 r2.2.1]] [.one (.ro (.int .i64) r3.2.2)] [.box [.ro (.int .u8) r3.1, .int .i64 r3.2.1]] ∧
         Ret r lh [.one (.ro (.int .i64) r1.2.2), .one (.ro (.int .i64) r3.2.2)] []) (
        ∃ r4 : List Int × Int × Int, SC P 67 [.one (.ptr 0 0 0), .one (.int .i64 ((([] ++ r1.2.2).length : Nat) : Int))] [.box [.ro (.int .u8) r2.1, .int .i64 r2.2.1]] [.one (.int .i64 r4.2.2)] [.box [.ro (.int .u8) r4.1, .int .i64 r4.2.1]] ∧
         ∃ r5 : List Int × Int × Int, SC P 67 [.one (.ptr 0 0 0), .one (.int .i64 31)] [.box [.ro (.int .u8) r4.1, .int .i64 r4.2.1]] [.one (.int .i64 r5.2.2)] [.box [.ro (.int .u8) r5.1, .int .i64 r5.2.1]] ∧
          Ck (decide ((0 : Int) ≤ r4.2.2)) (
           Ck (decide (r4.2.2 < ((([] ++ r1.2.2).length : Nat) : Int))) (
            Ck (Nat.ble (r4.2.2.toNat + 1) (([] ++ r1.2.2).length)) (
             Ret r lh [.one (.ro (.int .i64) r1.2.2), .one (.ro (.int .i64) (([] ++ r1.2.2).set r4.2.2.toNat r5.2.2))] [])))))) := by kernel_rfl
theorem c38 (code : List Int) (hc : Bytes code) : ∃ (a d : List Int), a.length ≤ 4 ∧ d.length ≤ 4 ∧ SC P 38 [.one (.ro (.int .u8) code)] [] [.one (.ro (.int .i64) a), .one (.ro (.int .i64) d)] [] := by
  obtain ⟨b, hb, s0⟩ := c66 code hc
  obtain ⟨a, p, l0, l1, p0, p1, s1⟩ := c77 b 0 hb (by omega) (by omega)
  obtain ⟨v, v0, v1, s2⟩ := c67 b p 3 hb p0 (by omega) (by omega)
  by_cases c0 : v = 0
  · obtain ⟨d, p', m0, m1, q0, q1, s3⟩ := c77 b (p + 1) hb (by omega) (by omega)
    refine ⟨a, d, l1, m1, ?_⟩
    refine SC_of_FB (H := H38) E_ok Try.func38 (by kernel_rfl) ?_
    rw [eq38]
    exact ⟨(b, 0), s0, (b, p, a), s1, Ck_room (by dsimp only; omega) ⟨(b, p + 1, v), s2, Br_t c0 ⟨(b, p', d), s3, rfl, rfl⟩⟩⟩
  · have hn : (([] ++ a).length : Int) = a.length := by rw [List.nil_append]
    obtain ⟨w, w0, w1, s3⟩ := c67 b (p + 1) (([] ++ a).length : Int) hb (by omega) (by omega) (by omega)
    obtain ⟨u, u0, u1, s4⟩ := c67 b (p + 1 + 1) 31 hb (by omega) (by omega) (by omega)
    refine ⟨a, ([] ++ a).set w.toNat u, l1, by simp; exact l1, ?_⟩
    refine SC_of_FB (H := H38) E_ok Try.func38 (by kernel_rfl) ?_
    rw [eq38]
    exact ⟨(b, 0), s0, (b, p, a), s1, Ck_room (by dsimp only; omega) ⟨(b, p + 1, v), s2, Br_f c0 ⟨(b, p + 1 + 1, w), s3, (b, p + 1 + 1 + 1, u), s4, Ck_d (by omega) (Ck_d (by dsimp only; omega) (Ck_le (by dsimp only; omega) ⟨rfl, rfl⟩))⟩⟩⟩
/-! loop.example/keelson/laws.lkInts -/
def H20 : Hint := ⟨[[(0, 0, .bool), (1, 0, .bool), (5, 0, .bool)]], [], [(6, [0, 1, 2, 3, 4, 5, 6, 7, 8])], [], [], []⟩
def S20_L0 (a0 : List Int) (b1 : List Int) (i5 : Int) : St := ⟨[(0, .w (.one (.ro (.int .i64) a0))), (1, .w (.one (.ro (.int .i64) b1))), (5, .w (.one (.int .i64 i5)))], []⟩
theorem eq20 (a : List Int) (b : List Int) (r : List W) (lh : Heap) : FB E H20 Try.f20 [.one (.ro (.int .i64) a), .one (.ro (.int .i64) b)] [] r lh =
  (
   Br (!(decide (((a.length : Nat) : Int) = ((b.length : Nat) : Int)))) (
    Ret r lh [.one (.bool false)] []) (
    FL E H20 Try.f20 0 r lh 0 (S20_L0 a b 0))) := by kernel_rfl
theorem eq20_L0 (a0 : List Int) (b1 : List Int) (i5 : Int) (r : List W) (lh : Heap) : FL1 E H20 Try.f20 0 r lh 0 (S20_L0 a0 b1 i5) =
  (
   Br (decide (i5 < ((a0.length : Nat) : Int))) (
    Ck (decide ((0 : Int) ≤ i5)) (
     Ck (decide (i5 < ((a0.length : Nat) : Int))) (
      Ck (decide ((0 : Int) ≤ i5)) (
       Ck (decide (i5 < ((b1.length : Nat) : Int))) (
        Br (!(decide ((a0.getD i5.toNat 0) = (b1.getD i5.toNat 0)))) (
         Ret r lh [.one (.bool false)] []) (
         FL E H20 Try.f20 0 r lh 0 (S20_L0 a0 b1 (IntKind.wrap .i64 (i5 + 1))))))))) (
    Ret r lh [.one (.bool true)] [])) := by kernel_rfl
theorem l20 (a b : List Int) (hl : a.length ≤ 1048576) (hb : a.length = b.length) : ∀ (n i : Nat), i + n = a.length → FL E H20 Try.f20 0 [.one (.bool (allR (fun j => decide (a.getD j 0 = b.getD j 0)) i n))] [] 0 (S20_L0 a b (i : Int))
  | 0, i, h => by
    refine FL_of1 ?_
    rw [eq20_L0]
    exact Br_f (by omega) ⟨rfl, rfl⟩
  | n + 1, i, h => by
    refine FL_of1 ?_
    rw [eq20_L0, wS (by omega)]
    simp only [Int.toNat_natCast]
    refine Br_t (by omega) (Ck_d (by omega) (Ck_d (by omega) (Ck_d (by omega) (Ck_d (by omega) (Br_nd (fun h1 => ?_) (fun h1 => ?_))))))
    · exact ⟨by rw [allR_f (by simpa using h1)], rfl⟩
    · rw [allR_t (by simpa using h1)]
      exact l20 a b hl hb n (i + 1) (by omega)
theorem c20 (a b : List Int) (hl : a.length ≤ 1048576) : SC P 20 [.one (.ro (.int .i64) a), .one (.ro (.int .i64) b)] [] [.one (.bool (decide (a = b)))] [] := by
  refine SC_of_FB (H := H20) E_ok Try.func20 (by kernel_rfl) ?_
  rw [eq20]
  refine Br_nd (fun h => ⟨?_, rfl⟩) (fun h => ?_)
  · rw [decide_eq_false (by rintro rfl; exact h rfl)]
  · have h : a.length = b.length := by omega
    rw [← eqR (z := 0) h]
    exact l20 a b hl h a.length 0 (by omega)
/-! loop.example/keelson/laws.lkPatches -/
def H39 : Hint := ⟨[[(0, 0, .bool), (1, 0, .bool), (5, 0, .bool)]], [], [(6, [0, 1, 2, 3, 4, 5, 6, 7, 8])], [], [], []⟩
def S39_L0 (a0 : List (Int × Int)) (b1 : List (Int × Int)) (i5 : Int) : St := ⟨[(0, .w (.one (.ro (.pair (.int .i64) (.int .i64)) a0))), (1, .w (.one (.ro (.pair (.int .i64) (.int .i64)) b1))), (5, .w (.one (.int .i64 i5)))], []⟩
theorem eq39 (a : List (Int × Int)) (b : List (Int × Int)) (r : List W) (lh : Heap) : FB E H39 Try.f39 [.one (.ro (.pair (.int .i64) (.int .i64)) a), .one (.ro (.pair (.int .i64) (.int .i64)) b)] [] r lh =
  (
   Br (!(decide (((a.length : Nat) : Int) = ((b.length : Nat) : Int)))) (
    Ret r lh [.one (.bool false)] []) (
    FL E H39 Try.f39 0 r lh 0 (S39_L0 a b 0))) := by kernel_rfl
theorem eq39_L0 (a0 : List (Int × Int)) (b1 : List (Int × Int)) (i5 : Int) (r : List W) (lh : Heap) : FL1 E H39 Try.f39 0 r lh 0 (S39_L0 a0 b1 i5) =
  (
   Br (decide (i5 < ((a0.length : Nat) : Int))) (
    Ck (decide ((0 : Int) ≤ i5)) (
     Ck (decide (i5 < ((a0.length : Nat) : Int))) (
      Ck (decide ((0 : Int) ≤ i5)) (
       Ck (decide (i5 < ((b1.length : Nat) : Int))) (
        Br (!((decide ((a0.getD i5.toNat (0, 0)).1 = (b1.getD i5.toNat (0, 0)).1)) && (decide ((a0.getD i5.toNat (0, 0)).2 = (b1.getD i5.toNat (0, 0)).2)))) (
         Ret r lh [.one (.bool false)] []) (
         FL E H39 Try.f39 0 r lh 0 (S39_L0 a0 b1 (IntKind.wrap .i64 (i5 + 1))))))))) (
    Ret r lh [.one (.bool true)] [])) := by kernel_rfl
theorem l39 (a b : List Pat) (hl : a.length ≤ 1048576) (hb : a.length = b.length) : ∀ (n i : Nat), i + n = a.length → FL E H39 Try.f39 0 [.one (.bool (allR (fun j => decide (a.getD j (0, 0) = b.getD j (0, 0))) i n))] [] 0 (S39_L0 a b (i : Int))
  | 0, i, h => by
    refine FL_of1 ?_
    rw [eq39_L0]
    exact Br_f (by omega) ⟨rfl, rfl⟩
  | n + 1, i, h => by
    refine FL_of1 ?_
    rw [eq39_L0, wS (by omega)]
    simp only [Int.toNat_natCast]
    have e : ∀ x y : Pat, (decide (x.1 = y.1) && decide (x.2 = y.2)) = decide (x = y) := by
      intro x y
      rw [Bool.eq_iff_iff]
      simp [Prod.ext_iff]
    refine Br_t (by omega) (Ck_d (by omega) (Ck_d (by omega) (Ck_d (by omega) (Ck_d (by omega) ?_))))
    rw [e]
    refine Br_nd (fun h1 => ?_) (fun h1 => ?_)
    · exact ⟨by rw [allR_f (by simpa using h1)], rfl⟩
    · rw [allR_t (by simpa using h1)]
      exact l39 a b hl hb n (i + 1) (by omega)
theorem c39 (a b : List Pat) (hl : a.length ≤ 1048576) : SC P 39 [.one (.ro (.pair (.int .i64) (.int .i64)) a), .one (.ro (.pair (.int .i64) (.int .i64)) b)] [] [.one (.bool (decide (a = b)))] [] := by
  refine SC_of_FB (H := H39) E_ok Try.func39 (by kernel_rfl) ?_
  rw [eq39]
  refine Br_nd (fun h => ⟨?_, rfl⟩) (fun h => ?_)
  · rw [decide_eq_false (by rintro rfl; exact h rfl)]
  · have h : a.length = b.length := by omega
    rw [← eqR (z := (0, 0)) h]
    exact l39 a b hl h a.length 0 (by omega)
/-! loop.example/keelson/laws.lkNum -/
def H70 : Hint := ⟨[], [], [], [], [], []⟩
theorem eq70 (n : Int) (r : List W) (lh : Heap) : FB E H70 Try.f70 [.one (.int .i64 n)] [] r lh =
  (
   Ret r lh [.one (.int .i64 (Int.tmod n 31))] []) := by kernel_rfl
theorem c70 (n : Int) (h : 0 ≤ n) : SC P 70 [.one (.int .i64 n)] [] [.one (.int .i64 (n % 31))] [] := by
  refine SC_of_FB (H := H70) E_ok Try.func70 (by kernel_rfl) ?_
  rw [eq70]
  rw [Int.tmod_eq_emod_of_nonneg h]
  exact ⟨rfl, rfl⟩
def lkV (n : Int) : List Int := [n % 31, n * 3 % 31, (n * n + 1) % 31, (n + 7) % 31]
theorem lkV_ok (n : Int) : vecOk (lkV n) = true := vecOk_l (v := (n % 31, n * 3 % 31, (n * n + 1) % 31, (n + 7) % 31)) ⟨fok_mod _, fok_mod _, fok_mod _, fok_mod _⟩
/-! loop.example/keelson/laws.lkVec -/
def H18 : Hint := ⟨[], [], [], [], [], []⟩
theorem eq18 (n : Int) (r : List W) (lh : Heap) : FB E H18 Try.f18 [.one (.int .i64 n)] [] r lh =
  (
   ∃ r0 : Int, SC P 70 [.one (.int .i64 n)] [] [.one (.int .i64 r0)] [] ∧
    ∃ r1 : Int, SC P 70 [.one (.int .i64 (IntKind.wrap .i64 (n * 3)))] [] [.one (.int .i64 r1)] [] ∧
     ∃ r2 : Int, SC P 70 [.one (.int .i64 (IntKind.wrap .i64 ((IntKind.wrap .i64 (n * n)) + 1)))] [] [.one (.int .i64 r2)] [] ∧
      ∃ r3 : Int, SC P 70 [.one (.int .i64 (IntKind.wrap .i64 (n + 7)))] [] [.one (.int .i64 r3)] [] ∧
       Ret r lh [.one (.sl 0 none)] [.row (.int .i64) [r0, r1, r2, r3] .own]) := by kernel_rfl
theorem c18 (n : Int) (h0 : 0 ≤ n) (h1 : n ≤ 1048576) : SC P 18 [.one (.int .i64 n)] [] [.one (.sl 0 none)] [.row (.int .i64) (lkV n) .own] := by
  refine SC_of_FB (H := H18) E_ok Try.func18 (by kernel_rfl) ?_
  rw [eq18]
  have h2 : 0 ≤ n * n := Int.mul_nonneg h0 h0
  have h3 : n * n ≤ 1048576 * 1048576 := Int.mul_le_mul h1 h1 h0 (by omega)
  rw [wrap64 (n := n * 3) (by omega) (by omega), wrap64 (n := n * n) (by omega) (by omega), wrap64 (n := n * n + 1) (by omega) (by omega), wrap64 (n := n + 7) (by omega) (by omega)]
  exact ⟨_, c70 _ h0, _, c70 _ (by omega), _, c70 _ (by omega), _, c70 _ (by omega), rfl, rfl⟩
theorem Br_T {A B : Prop} (a : A) : Br true A B := a
theorem Br_F {A B : Prop} (b : B) : Br false A B := b
theorem patchDataF_one {d : List Int} {q : Pat} (hd : vecOk d = true) (hq : patchOk q = true) : patchDataF d [q] = addP d q := by
  rw [patchDataF, hd, List.all_cons, hq]; rfl
theorem patchDataF_no {d : List Int} {q : Pat} (hq : patchOk q = false) : patchDataF d [q] = [] := by
  rw [patchDataF, List.all_cons, hq, Bool.false_and, Bool.and_false]; rfl
theorem addP_get {d : List Int} {q : Pat} (h : q.1.toNat < d.length) : (addP d q).getD q.1.toNat 0 = (d.getD q.1.toNat 0 + q.2) % 31 := get_set_self h
theorem addP_ne {d : List Int} {q : Pat} (hd : vecOk d = true) (hq : patchOk q = true) : addP d q ≠ d := by
  obtain ⟨⟨p0, p1⟩, q0, q1⟩ := patchOk_iff.1 hq
  have hl := vecOk_len hd
  intro e
  have := addP_get (d := d) (q := q) (by omega)
  rw [e] at this
  obtain ⟨a, b⟩ := vecOk_get hd q.1.toNat
  omega
theorem addP_back {d : List Int} {q : Pat} (hd : vecOk d = true) (hq : patchOk q = true) : addP (addP d q) (q.1, 31 - q.2) = d := by
  obtain ⟨⟨p0, p1⟩, q0, q1⟩ := patchOk_iff.1 hq
  have hl := vecOk_len hd
  obtain ⟨a, b⟩ := vecOk_get hd q.1.toNat
  have hi : q.1.toNat < d.length := by omega
  have e := addP_get (d := d) (q := q) hi
  show (addP d q).set q.1.toNat (((addP d q).getD q.1.toNat 0 + (31 - q.2)) % 31) = d
  rw [e, addP, List.set_set, show ((d.getD q.1.toNat 0 + q.2) % 31 + (31 - q.2)) % 31 = d.getD q.1.toNat 0 by omega, getD_eq hi, List.set_getElem_self]
/-! loop.example/keelson/laws.FnPatchForm -/
def H3 : Hint := ⟨[], [], [], [], [], []⟩
theorem eq3 (code : List Int) (more : List Int) (r : List W) (lh : Heap) : FB E H3 Try.f3 [.one (.ro (.int .u8) code), .one (.ro (.int .u8) more)] [] r lh =
  (
   Br (decide ((1048576 : Int) < ((code.length : Nat) : Int))) (
    Ret r lh [.one (.bool true)] []) (
    Br (decide ((1048576 : Int) < ((more.length : Nat) : Int))) (
     Ret r lh [.one (.bool true)] []) (
     ∃ r0 : Int × Int, SC P 15 [.one (.ro (.int .u8) code)] [] [.agg [.int .i64 r0.1, .int .i64 r0.2]] [] ∧
      ∃ r1 : Bool, SC P 16 [.agg [.int .i64 r0.1, .int .i64 r0.2]] [] [.one (.bool r1)] [] ∧
       ∃ r2 : Bool, SC P 17 [.agg [.int .i64 r0.1, .int .i64 r0.2]] [] [.one (.bool r2)] [] ∧
        Br (r1 != r2) (
         Ret r lh [.one (.bool false)] []) (
         ∃ r3 : List Int, SC P 18 [.one (.int .i64 ((more.length : Nat) : Int))] [] [.one (.sl 0 none)] [.row (.int .i64) r3 .own] ∧
          ∃ r4 : List Int, SC P 19 [.one (.ro (.int .i64) r3), .one (.ro (.pair (.int .i64) (.int .i64)) [(r0.1, r0.2)])] [] [.one (.sl 0 none)] [.row (.int .i64) r4 .own] ∧
           Br (decide ((0 : Int) ≤ r0.1)) (
            Br (decide (r0.1 < (4 : Int))) (
             Br (decide ((0 : Int) < r0.2)) (
              Br (r1 == (decide (r0.2 < (31 : Int)))) (
               Br ((decide ((0 : Int) < ((r4.length : Nat) : Int))) == r1) (
                Br (!r1) (
                 Ret r lh [.one (.bool true)] []) (
                 ∃ r5 : Bool, SC P 20 [.one (.ro (.int .i64) r4), .one (.ro (.int .i64) r3)] [] [.one (.bool r5)] [] ∧
                  Br (!r5) (
                   ∃ r6 : List Int, SC P 19 [.one (.ro (.int .i64) r4), .one (.ro (.pair (.int .i64) (.int .i64)) [(r0.1, (IntKind.wrap .i64 (31 - r0.2)))])] [] [.one (.sl 0 none)] [.row (.int .i64) r6 .own] ∧
                    ∃ r7 : Bool, SC P 20 [.one (.ro (.int .i64) r6), .one (.ro (.int .i64) r3)] [] [.one (.bool r7)] [] ∧
                     Ret r lh [.one (.bool r7)] []) (
                   Ret r lh [.one (.bool false)] []))) (
                Ret r lh [.one (.bool false)] [])) (
               Ret r lh [.one (.bool false)] [])) (
              Br (r1 == false) (
               Br ((decide ((0 : Int) < ((r4.length : Nat) : Int))) == r1) (
                Br (!r1) (
                 Ret r lh [.one (.bool true)] []) (
                 ∃ r8 : Bool, SC P 20 [.one (.ro (.int .i64) r4), .one (.ro (.int .i64) r3)] [] [.one (.bool r8)] [] ∧
                  Br (!r8) (
                   ∃ r9 : List Int, SC P 19 [.one (.ro (.int .i64) r4), .one (.ro (.pair (.int .i64) (.int .i64)) [(r0.1, (IntKind.wrap .i64 (31 - r0.2)))])] [] [.one (.sl 0 none)] [.row (.int .i64) r9 .own] ∧
                    ∃ r10 : Bool, SC P 20 [.one (.ro (.int .i64) r9), .one (.ro (.int .i64) r3)] [] [.one (.bool r10)] [] ∧
                     Ret r lh [.one (.bool r10)] []) (
                   Ret r lh [.one (.bool false)] []))) (
                Ret r lh [.one (.bool false)] [])) (
               Ret r lh [.one (.bool false)] []))) (
             Br (r1 == false) (
              Br ((decide ((0 : Int) < ((r4.length : Nat) : Int))) == r1) (
               Br (!r1) (
                Ret r lh [.one (.bool true)] []) (
                ∃ r11 : Bool, SC P 20 [.one (.ro (.int .i64) r4), .one (.ro (.int .i64) r3)] [] [.one (.bool r11)] [] ∧
                 Br (!r11) (
                  ∃ r12 : List Int, SC P 19 [.one (.ro (.int .i64) r4), .one (.ro (.pair (.int .i64) (.int .i64)) [(r0.1, (IntKind.wrap .i64 (31 - r0.2)))])] [] [.one (.sl 0 none)] [.row (.int .i64) r12 .own] ∧
                   ∃ r13 : Bool, SC P 20 [.one (.ro (.int .i64) r12), .one (.ro (.int .i64) r3)] [] [.one (.bool r13)] [] ∧
                    Ret r lh [.one (.bool r13)] []) (
                  Ret r lh [.one (.bool false)] []))) (
               Ret r lh [.one (.bool false)] [])) (
              Ret r lh [.one (.bool false)] []))) (
            Br (r1 == false) (
             Br ((decide ((0 : Int) < ((r4.length : Nat) : Int))) == r1) (
              Br (!r1) (
               Ret r lh [.one (.bool true)] []) (
               ∃ r14 : Bool, SC P 20 [.one (.ro (.int .i64) r4), .one (.ro (.int .i64) r3)] [] [.one (.bool r14)] [] ∧
                Br (!r14) (
                 ∃ r15 : List Int, SC P 19 [.one (.ro (.int .i64) r4), .one (.ro (.pair (.int .i64) (.int .i64)) [(r0.1, (IntKind.wrap .i64 (31 - r0.2)))])] [] [.one (.sl 0 none)] [.row (.int .i64) r15 .own] ∧
                  ∃ r16 : Bool, SC P 20 [.one (.ro (.int .i64) r15), .one (.ro (.int .i64) r3)] [] [.one (.bool r16)] [] ∧
                   Ret r lh [.one (.bool r16)] []) (
                 Ret r lh [.one (.bool false)] []))) (
              Ret r lh [.one (.bool false)] [])) (
             Ret r lh [.one (.bool false)] [])))))) := by kernel_rfl
theorem c3 (code more : List Int) (hc : Bytes code) : SC P 3 [.one (.ro (.int .u8) code), .one (.ro (.int .u8) more)] [] [.one (.bool true)] [] := by
  refine SC_of_FB (H := H3) E_ok Try.func3 (by kernel_rfl) ?_
  rw [eq3]
  refine Br_d (fun _ => ⟨rfl, rfl⟩) (fun _ => Br_d (fun _ => ⟨rfl, rfl⟩) (fun hm => ?_))
  obtain ⟨q, s0⟩ := c15 code hc
  have hv := lkV_ok (more.length : Int)
  have hvl := vecOk_len hv
  refine ⟨q, s0, _, c16 q, _, c17 q, ?_⟩
  cases hq : patchOk q
  · have hx := patchDataF_no (d := lkV (more.length : Int)) hq
    have e := c19 (lkV (more.length : Int)) [q] (by omega) (by simp)
    rw [hx] at e
    refine Br_F ⟨_, c18 (more.length : Int) (by omega) (by omega), _, e, ?_⟩
    refine Br_d (fun c1 => Br_d (fun c2 => Br_d (fun c3 => ?_) (fun _ => ?_)) (fun _ => ?_)) (fun _ => ?_)
    · rw [decide_eq_false (p := q.2 < 31) (fun c4 => by rw [patchOk_iff.2 ⟨⟨c1, by omega⟩, by omega, by omega⟩] at hq; cases hq)]
      exact Br_T (Br_T (Br_T ⟨rfl, rfl⟩))
    all_goals exact Br_T (Br_T (Br_T ⟨rfl, rfl⟩))
  · obtain ⟨⟨p0, p1⟩, q0, q1⟩ := patchOk_iff.1 hq
    have hx := patchDataF_one hv hq
    have hxv := vecOk_addP (p := q) hv
    have hxl := vecOk_len hxv
    have hq' : patchOk (q.1, 31 - q.2) = true := patchOk_iff.2 ⟨⟨p0, p1⟩, by dsimp only; omega, by dsimp only; omega⟩
    have e := c19 (lkV (more.length : Int)) [q] (by omega) (by simp)
    have e' := c19 (addP (lkV (more.length : Int)) q) [(q.1, 31 - q.2)] (by omega) (by simp)
    rw [hx] at e
    rw [patchDataF_one hxv hq', addP_back hv hq] at e'
    refine Br_F ⟨_, c18 (more.length : Int) (by omega) (by omega), _, e, Br_t p0 (Br_t (by omega) (Br_t (by omega) ?_))⟩
    rw [decide_eq_true (show q.2 < 31 by omega), hxl]
    refine Br_T (Br_T (Br_F ⟨_, c20 _ _ (by omega), ?_⟩))
    rw [decide_eq_false (addP_ne hv hq), wrap64 (n := 31 - q.2) (by omega) (by omega)]
    exact Br_T ⟨_, e', _, c20 _ _ (by omega), by rw [decide_eq_true rfl], rfl⟩
theorem addP_comm (d : List Int) (p q : Pat) : addP (addP d p) q = addP (addP d q) p := by
  by_cases h : p.1.toNat = q.1.toNat
  · by_cases hi : p.1.toNat < d.length
    · have e1 : (addP d p).getD q.1.toNat 0 = (d.getD q.1.toNat 0 + p.2) % 31 := by
        rw [← h]; exact addP_get hi
      have e2 : (addP d q).getD p.1.toNat 0 = (d.getD p.1.toNat 0 + q.2) % 31 := by
        rw [h]; exact addP_get (by omega)
      rw [addP, addP.eq_def (addP d q) p, e1, e2, addP, addP, h, List.set_set, List.set_set]
      congr 1
      omega
    · have z : ∀ (l : List Int) (r : Pat), ¬ r.1.toNat < l.length → addP l r = l := fun l r h => List.set_eq_of_length_le (by omega)
      rw [z d p hi, z d q (by omega), z d p hi]
  · have g : ∀ (r s : Pat), r.1.toNat ≠ s.1.toNat → (addP d r).getD s.1.toNat 0 = d.getD s.1.toNat 0 := by
      intro r s hrs
      rw [addP, List.getD, List.getElem?_set_ne hrs]; rfl
    rw [addP, g p q h, addP.eq_def (addP d q) p, g q p (Ne.symm h), addP, addP, List.set_comm _ _ h]
theorem addP_fold (p : Pat) : ∀ (l : List Pat) (d : List Int), l.foldl addP (addP d p) = addP (l.foldl addP d) p
  | [], d => rfl
  | q :: l, d => by rw [List.foldl_cons, List.foldl_cons, addP_comm, addP_fold p l]
theorem addP_reverse : ∀ (l : List Pat) (d : List Int), l.reverse.foldl addP d = l.foldl addP d
  | [], d => rfl
  | p :: l, d => by rw [List.reverse_cons, List.foldl_append, addP_reverse l, List.foldl_cons, List.foldl_nil, List.foldl_cons, addP_fold]
/-! loop.example/keelson/laws.FnPatchData -/
def H4 : Hint := ⟨[[(1, 0, .bool), (5, 0, .bool), (6, 0, .bool), (7, 0, .bool), (8, 0, .bool), (9, 0, .bool)]], [], [(13, [0, 1, 3, 2, 4, 5, 6, 7, 8, 9, 11, 12, 13, 15, 10, 14, 16, 17, 18])], [], [], []⟩
def S4_L0 (more1 : List Int) (d5 : List Int) (i9 : Int) (h0 : List (Int × Int)) (h1 : List Int) (h2 : List (Int × Int)) : St := ⟨[(1, .w (.one (.ro (.int .u8) more1))), (5, .w (.one (.ro (.int .i64) d5))), (6, .w (.one (.sl 0 none))), (7, .w (.one (.sl 1 none))), (8, .w (.one (.sl 2 none))), (9, .w (.one (.int .i64 i9)))], [.row (.pair (.int .i64) (.int .i64)) h0 .own, .row (.int .i64) h1 .own, .row (.pair (.int .i64) (.int .i64)) h2 .own]⟩
theorem eq4 (code : List Int) (more : List Int) (r : List W) (lh : Heap) : FB E H4 Try.f4 [.one (.ro (.int .u8) code), .one (.ro (.int .u8) more)] [] r lh =
  (
   Br (decide ((1048576 : Int) < ((code.length : Nat) : Int))) (
    Ret r lh [.one (.bool true)] []) (
    Br (decide ((1048576 : Int) < ((more.length : Nat) : Int))) (
     Ret r lh [.one (.bool true)] []) (
     ∃ r0 : List Int × List (Int × Int), SC P 21 [.one (.ro (.int .u8) code)] [] [.one (.ro (.int .i64) r0.1), .one (.sl 0 none)] [.row (.pair (.int .i64) (.int .i64)) r0.2 .own] ∧
      ∃ r1 : List Int, SC P 19 [.one (.ro (.int .i64) r0.1), .one (.ro (.pair (.int .i64) (.int .i64)) r0.2)] [] [.one (.sl 0 none)] [.row (.int .i64) r1 .own] ∧
       ∃ r2 : List Int, SC P 22 [.one (.ro (.int .i64) r0.1), .one (.ro (.pair (.int .i64) (.int .i64)) r0.2)] [] [.one (.sl 0 none)] [.row (.int .i64) r2 .own] ∧
        ∃ r3 : Bool, SC P 20 [.one (.ro (.int .i64) r1), .one (.ro (.int .i64) r2)] [] [.one (.bool r3)] [] ∧
         Br (!r3) (
          ∃ r4 : List Int, SC P 22 [.one (.ro (.int .i64) r0.1), .one (.ro (.pair (.int .i64) (.int .i64)) r0.2)] [] [.one (.sl 0 none)] [.row (.int .i64) r4 .own] ∧
           ∃ r5 : Bool, SC P 20 [.one (.ro (.int .i64) r1), .one (.ro (.int .i64) r4)] [] [.one (.bool r5)] [] ∧
            Ret r lh [.one (.bool r5)] []) (
          Br (decide (((r1.length : Nat) : Int) = (0 : Int))) (
           ∃ r6 : List Int, SC P 22 [.one (.ro (.int .i64) r0.1), .one (.ro (.pair (.int .i64) (.int .i64)) r0.2)] [] [.one (.sl 0 none)] [.row (.int .i64) r6 .own] ∧
            ∃ r7 : Bool, SC P 20 [.one (.ro (.int .i64) r1), .one (.ro (.int .i64) r6)] [] [.one (.bool r7)] [] ∧
             Ret r lh [.one (.bool r7)] []) (
           FL E H4 Try.f4 0 r lh 0 (S4_L0 more r0.1 (IntKind.wrap .i64 (((r0.2.length : Nat) : Int) - 1)) r0.2 r1 [])))))) := by kernel_rfl
theorem eq4_L0 (more1 : List Int) (d5 : List Int) (i9 : Int) (h0 : List (Int × Int)) (h1 : List Int) (h2 : List (Int × Int)) (r : List W) (lh : Heap) : FL1 E H4 Try.f4 0 r lh 0 (S4_L0 more1 d5 i9 h0 h1 h2) =
  (
   Br (decide ((0 : Int) ≤ i9)) (
    Ck (decide ((0 : Int) ≤ i9)) (
     Ck (decide (i9 < ((h0.length : Nat) : Int))) (
      Ck (Nat.blt i9.toNat h0.length) (
       Ck (Nat.ble ((h2.length + 1) * 16) roomy) (
        FL E H4 Try.f4 0 r lh 0 (S4_L0 more1 d5 (IntKind.wrap .i64 (i9 - 1)) h0 h1 (h2 ++ [((h0.getD i9.toNat (0, 0)).1, (h0.getD i9.toNat (0, 0)).2)]))))))) (
    Ck (!decide ((IntKind.wrap .i64 (((h0.length : Nat) : Int) + 1)) = 0)) (
     ∃ r0 : List Int, SC P 19 [.one (.ro (.int .i64) d5), .one (.ro (.pair (.int .i64) (.int .i64)) h2)] [] [.one (.sl 0 none)] [.row (.int .i64) r0 .own] ∧
      ∃ r1 : Bool, SC P 20 [.one (.ro (.int .i64) r0), .one (.ro (.int .i64) h1)] [] [.one (.bool r1)] [] ∧
       Br r1 (
        Ck (decide ((0 : Int) ≤ (Int.tmod ((more1.length : Nat) : Int) (IntKind.wrap .i64 (((h0.length : Nat) : Int) + 1))))) (
         Ck (decide ((Int.tmod ((more1.length : Nat) : Int) (IntKind.wrap .i64 (((h0.length : Nat) : Int) + 1))) ≤ ((h0.length : Nat) : Int))) (
          Ck (decide (((h0.length : Nat) : Int) ≤ ((h0.length : Nat) : Int))) (
           Ck (decide ((0 : Int) ≤ (Int.tmod ((more1.length : Nat) : Int) (IntKind.wrap .i64 (((h0.length : Nat) : Int) + 1))))) (
            Ck (decide ((Int.tmod ((more1.length : Nat) : Int) (IntKind.wrap .i64 (((h0.length : Nat) : Int) + 1))) ≤ ((h0.length : Nat) : Int))) (
             Ck (decide (((h0.length : Nat) : Int) ≤ ((h0.length : Nat) : Int))) (
              Ck (decide (((h0.length : Nat) : Int) ≤ ((h0.length : Nat) : Int))) (
               ∃ r2 : List Int, SC P 19 [.one (.ro (.int .i64) d5), .one (.ro (.pair (.int .i64) (.int .i64)) ((h0.drop 0).take (Int.tmod ((more1.length : Nat) : Int) (IntKind.wrap .i64 (((h0.length : Nat) : Int) + 1))).toNat))] [] [.one (.sl 0 none)] [.row (.int .i64) r2 .own] ∧
                ∃ r3 : List Int, SC P 19 [.one (.ro (.int .i64) r2), .one (.ro (.pair (.int .i64) (.int .i64)) ((h0.drop (Int.tmod ((more1.length : Nat) : Int) (IntKind.wrap .i64 (((h0.length : Nat) : Int) + 1))).toNat).take (((h0.length : Nat) : Int).toNat - (Int.tmod ((more1.length : Nat) : Int) (IntKind.wrap .i64 (((h0.length : Nat) : Int) + 1))).toNat)))] [] [.one (.sl 0 none)] [.row (.int .i64) r3 .own] ∧
                 ∃ r4 : Bool, SC P 20 [.one (.ro (.int .i64) r3), .one (.ro (.int .i64) h1)] [] [.one (.bool r4)] [] ∧
                  Ret r lh [.one (.bool r4)] [])))))))) (
        Ret r lh [.one (.bool false)] [])))) := by kernel_rfl
theorem l4 (more d : List Int) (l : List Pat) (hm : more.length ≤ 1048576) (hl : l.length ≤ 10) (hd : vecOk d = true) (ha : l.all patchOk = true) : ∀ (n : Nat) (back : List Pat), n ≤ l.length → back = (l.drop n).reverse →
    FL E H4 Try.f4 0 [.one (.bool true)] [] 0 (S4_L0 more d ((n : Int) - 1) l (l.foldl addP d) back)
  | 0, back, hn, hb => by
    have hdl := vecOk_len hd
    have hxl := vecOk_len (vecOk_fold (l := l) hd)
    rw [List.drop_zero] at hb
    subst hb
    have e : patchDataF d l.reverse = l.foldl addP d := by
      rw [patchDataF, hd, List.all_reverse, ha, addP_reverse]; rfl
    have s0 := c19 d l.reverse (by omega) (by simp; omega)
    rw [e] at s0
    refine FL_of1 ?_
    have t0 := Int.tmod_nonneg ((l.length : Int) + 1) (show (0 : Int) ≤ more.length by omega)
    have t1 := Int.tmod_lt_of_pos (more.length : Int) (show (0 : Int) < (l.length : Int) + 1 by omega)
    rw [eq4_L0, wrap64 (n := (l.length : Int) + 1) (by omega) (by omega)]
    refine Br_f (by omega) (Ck_n (by omega) ⟨_, s0, _, c20 _ _ (by omega), ?_⟩)
    rw [decide_eq_true rfl]
    generalize (more.length : Int).tmod ((l.length : Int) + 1) = k at t0 t1
    have hk : (l.drop k.toNat).take ((l.length : Int).toNat - k.toNat) = l.drop k.toNat := by
      rw [List.take_of_length_le]
      rw [List.length_drop]; omega
    rw [hk, List.drop_zero]
    have hs : l.take k.toNat ++ l.drop k.toNat = l := List.take_append_drop _ _
    have ha2 : (l.take k.toNat).all patchOk = true ∧ (l.drop k.toNat).all patchOk = true := by
      rw [← hs, List.all_append, Bool.and_eq_true] at ha
      exact ha
    have e1 : patchDataF d (l.take k.toNat) = (l.take k.toNat).foldl addP d := by rw [patchDataF, hd, ha2.1]; rfl
    have e2 : patchDataF ((l.take k.toNat).foldl addP d) (l.drop k.toNat) = l.foldl addP d := by
      rw [patchDataF, vecOk_fold hd, ha2.2, ← List.foldl_append, hs]; rfl
    have s1 := c19 d (l.take k.toNat) (by omega) (by simp; omega)
    rw [e1] at s1
    have s2 := c19 ((l.take k.toNat).foldl addP d) (l.drop k.toNat) (by rw [vecOk_len (vecOk_fold hd)]; omega) (by simp; omega)
    rw [e2] at s2
    exact Br_T (Ck_d (by omega) (Ck_d (by omega) (Ck_d (by omega) (Ck_d (by omega) (Ck_d (by omega) (Ck_d (by omega) (Ck_d (by omega) ⟨_, s1, _, s2, _, c20 _ _ (by omega), by rw [decide_eq_true rfl], rfl⟩)))))))
  | n + 1, back, hn, hb => by
    have hi : n < l.length := by omega
    refine FL_of1 ?_
    rw [show ((n + 1 : Nat) : Int) - 1 = (n : Int) by omega, eq4_L0, wrap64 (n := (n : Int) - 1) (by omega) (by omega)]
    simp only [Int.toNat_natCast]
    refine Br_t (by omega) (Ck_d (by omega) (Ck_d (by omega) (Ck_lt (by omega) (Ck_room ?_ ?_))))
    · rw [hb, List.length_reverse, List.length_drop]; omega
    · refine l4 more d l hm hl hd ha n _ (by omega) ?_
      rw [drop_cons hi, List.reverse_cons, ← hb, getD_eq hi]
theorem c4 (code more : List Int) (hc : Bytes code) : SC P 4 [.one (.ro (.int .u8) code), .one (.ro (.int .u8) more)] [] [.one (.bool true)] [] := by
  refine SC_of_FB (H := H4) E_ok Try.func4 (by kernel_rfl) ?_
  rw [eq4]
  refine Br_d (fun _ => ⟨rfl, rfl⟩) (fun _ => Br_d (fun _ => ⟨rfl, rfl⟩) (fun hm => ?_))
  obtain ⟨d, l, hd, hl, s0⟩ := c21 code hc
  have hx := patchDataF_len (d := d) (l := l)
  refine ⟨(d, l), s0, _, c19 d l (by omega) (by omega), _, c22 d l (by omega) (by omega), _, c20 _ _ (by omega), ?_⟩
  rw [decide_eq_true rfl]
  refine Br_F (Br_d (fun _ => ⟨_, c22 d l (by omega) (by omega), _, c20 _ _ (by omega), by rw [decide_eq_true rfl], rfl⟩) (fun hn => ?_))
  rw [wrap64 (n := (l.length : Int) - 1) (by omega) (by omega)]
  cases hk : vecOk d && l.all patchOk
  · rw [patchDataF, hk] at hn; exact absurd rfl hn
  · rw [Bool.and_eq_true] at hk
    rw [patchDataF, hk.1, hk.2]
    exact l4 more d l (by omega) hl hk.1 hk.2 l.length [] (Nat.le_refl _) (by simp)
theorem near0 {a q : Int} (h0 : 0 ≤ a) (h1 : a ≤ 3) (q0 : 1 ≤ q) (q1 : q ≤ 30) : (∀ i : Nat, i < 4 → (allF 1 (vtimes (unitF a) q)).getD i 0 = if (i : Int) = a then q else 0) ∧
    (allF 1 (vtimes (unitF a) q)).getD (4 + a / 2).toNat 0 = q ∧ (allF 1 (vtimes (unitF a) q)).getD (5 - a / 2).toNat 0 = 0 := by
  have e1 : 1 * q % 31 = q := by omega
  have e0 : 0 * q % 31 = 0 := by omega
  have g : ∀ w x y z : Int, allF 1 (w, x, y, z) = [(1 * w + 0 * x + 0 * y + 0 * z) % 31, (0 * w + 1 * x + 0 * y + 0 * z) % 31, (0 * w + 0 * x + 1 * y + 0 * z) % 31, (0 * w + 0 * x + 0 * y + 1 * z) % 31, (1 * w + 1 * x + 0 * y + 0 * z) % 31, (0 * w + 0 * x + 1 * y + 1 * z) % 31, (1 * w + 2 * x + 4 * y + 8 * z) % 31, (1 * w + 3 * x + 9 * y + 27 * z) % 31] := fun w x y z => rfl
  have : a = 0 ∨ a = 1 ∨ a = 2 ∨ a = 3 := by omega
  rcases this with rfl | rfl | rfl | rfl
  · rw [show vtimes (unitF 0) q = (1 * q % 31, 0 * q % 31, 0 * q % 31, 0 * q % 31) from rfl, e1, e0, g]
    refine ⟨fun i hi => ?_, ?_, ?_⟩
    · have : i = 0 ∨ i = 1 ∨ i = 2 ∨ i = 3 := by omega
      rcases this with rfl | rfl | rfl | rfl <;> simp <;> omega
    · show (_ : Int) % 31 = _; omega
    · show (_ : Int) % 31 = _; omega
  · rw [show vtimes (unitF 1) q = (0 * q % 31, 1 * q % 31, 0 * q % 31, 0 * q % 31) from rfl, e1, e0, g]
    refine ⟨fun i hi => ?_, ?_, ?_⟩
    · have : i = 0 ∨ i = 1 ∨ i = 2 ∨ i = 3 := by omega
      rcases this with rfl | rfl | rfl | rfl <;> simp <;> omega
    · show (_ : Int) % 31 = _; omega
    · show (_ : Int) % 31 = _; omega
  · rw [show vtimes (unitF 2) q = (0 * q % 31, 0 * q % 31, 1 * q % 31, 0 * q % 31) from rfl, e1, e0, g]
    refine ⟨fun i hi => ?_, ?_, ?_⟩
    · have : i = 0 ∨ i = 1 ∨ i = 2 ∨ i = 3 := by omega
      rcases this with rfl | rfl | rfl | rfl <;> simp <;> omega
    · show (_ : Int) % 31 = _; omega
    · show (_ : Int) % 31 = _; omega
  · rw [show vtimes (unitF 3) q = (0 * q % 31, 0 * q % 31, 0 * q % 31, 1 * q % 31) from rfl, e1, e0, g]
    refine ⟨fun i hi => ?_, ?_, ?_⟩
    · have : i = 0 ∨ i = 1 ∨ i = 2 ∨ i = 3 := by omega
      rcases this with rfl | rfl | rfl | rfl <;> simp <;> omega
    · show (_ : Int) % 31 = _; omega
    · show (_ : Int) % 31 = _; omega
/-! loop.example/keelson/laws.FnPatchNear -/
def H6 : Hint := ⟨[[(4, 0, .bool), (5, 0, .bool), (6, 0, .bool)]], [], [(10, [0, 1, 2, 3, 4, 5, 6, 7, 8, 9, 10, 11, 12, 13, 14, 15, 16, 17, 18, 19, 20, 21, 22, 23, 24, 25]), (12, [0, 1, 2, 3, 4, 5, 6, 7, 8, 9, 10, 11, 12, 13, 14, 15, 16, 17, 18, 19, 20])], [], [], []⟩
def S6_L0 (i6 : Int) (h0 : List Int) (h1 : List Int) : St := ⟨[(4, .w (.one (.ptr 0 0 0))), (5, .w (.one (.sl 1 none))), (6, .w (.one (.int .i64 i6)))], [.row (.int .i64) h0 .var, .row (.int .i64) h1 .own]⟩
theorem eq6 (code : List Int) (r : List W) (lh : Heap) : FB E H6 Try.f6 [.one (.ro (.int .u8) code)] [] r lh =
  (
   Br (decide ((1048576 : Int) < ((code.length : Nat) : Int))) (
    Ret r lh [.one (.bool true)] []) (
    ∃ r0 : Int × Int × Int, SC P 29 [.one (.ro (.int .u8) code)] [] [.one (.int .i64 r0.1), .agg [.int .i64 r0.2.1, .int .i64 r0.2.2]] [] ∧
     ∃ r1 : List Int, SC P 25 [.one (.int .i64 r0.1), .agg [.int .i64 r0.2.1, .int .i64 r0.2.2]] [] [.one (.sl 0 none)] [.row (.int .i64) r1 .own] ∧
      ∃ r2 : List Int, SC P 23 [.one (.int .i64 r0.1), .agg [.int .i64 r0.2.1, .int .i64 r0.2.2]] [] [.one (.sl 0 none)] [.row (.int .i64) r2 .own] ∧
       ∃ r3 : Bool, SC P 20 [.one (.ro (.int .i64) r1), .one (.ro (.int .i64) r2)] [] [.one (.bool r3)] [] ∧
        Br (!r3) (
         ∃ r4 : List Int, SC P 23 [.one (.int .i64 r0.1), .agg [.int .i64 r0.2.1, .int .i64 r0.2.2]] [] [.one (.sl 0 none)] [.row (.int .i64) r4 .own] ∧
          ∃ r5 : Bool, SC P 20 [.one (.ro (.int .i64) r1), .one (.ro (.int .i64) r4)] [] [.one (.bool r5)] [] ∧
           Ret r lh [.one (.bool r5)] []) (
         Br (decide (((r1.length : Nat) : Int) = (0 : Int))) (
          ∃ r6 : List Int, SC P 23 [.one (.int .i64 r0.1), .agg [.int .i64 r0.2.1, .int .i64 r0.2.2]] [] [.one (.sl 0 none)] [.row (.int .i64) r6 .own] ∧
           ∃ r7 : Bool, SC P 20 [.one (.ro (.int .i64) r1), .one (.ro (.int .i64) r6)] [] [.one (.bool r7)] [] ∧
            Ret r lh [.one (.bool r7)] []) (
          Br (!(decide (r0.1 = (1 : Int)))) (
           ∃ r8 : List Int, SC P 23 [.one (.int .i64 r0.1), .agg [.int .i64 r0.2.1, .int .i64 r0.2.2]] [] [.one (.sl 0 none)] [.row (.int .i64) r8 .own] ∧
            ∃ r9 : Bool, SC P 20 [.one (.ro (.int .i64) r1), .one (.ro (.int .i64) r8)] [] [.one (.bool r9)] [] ∧
             Ret r lh [.one (.bool r9)] []) (
           FL E H6 Try.f6 0 r lh 0 (S6_L0 0 [r0.2.1, r0.2.2] r1)))))) := by kernel_rfl
theorem eq6_L0 (i6 : Int) (h0 : List Int) (h1 : List Int) (r : List W) (lh : Heap) : FL1 E H6 Try.f6 0 r lh 0 (S6_L0 i6 h0 h1) =
  (
   Br (decide (i6 < (4 : Int))) (
    Ck (Nat.ble 1 h0.length) (
     Br (!(decide (i6 = (h0.getD 0 0)))) (
      Ck (decide ((0 : Int) ≤ i6)) (
       Ck (decide (i6 < ((h1.length : Nat) : Int))) (
        Ck (Nat.ble (i6.toNat + 1) h1.length) (
         Br (!(decide ((h1.getD i6.toNat 0) = (0 : Int)))) (
          Ret r lh [.one (.bool false)] []) (
          Ck (Nat.ble 1 h0.length) (
           Br (decide (i6 = (h0.getD 0 0))) (
            Ck (decide ((0 : Int) ≤ i6)) (
             Ck (decide (i6 < ((h1.length : Nat) : Int))) (
              Ck (Nat.ble (i6.toNat + 1) h1.length) (
               Ck (Nat.ble 2 h0.length) (
                Br (!(decide ((h1.getD i6.toNat 0) = (h0.getD 1 0)))) (
                 Ret r lh [.one (.bool false)] []) (
                 FL E H6 Try.f6 0 r lh 0 (S6_L0 (IntKind.wrap .i64 (i6 + 1)) h0 h1))))))) (
            FL E H6 Try.f6 0 r lh 0 (S6_L0 (IntKind.wrap .i64 (i6 + 1)) h0 h1)))))))) (
      Ck (Nat.ble 1 h0.length) (
       Br (decide (i6 = (h0.getD 0 0))) (
        Ck (decide ((0 : Int) ≤ i6)) (
         Ck (decide (i6 < ((h1.length : Nat) : Int))) (
          Ck (Nat.ble (i6.toNat + 1) h1.length) (
           Ck (Nat.ble 2 h0.length) (
            Br (!(decide ((h1.getD i6.toNat 0) = (h0.getD 1 0)))) (
             Ret r lh [.one (.bool false)] []) (
             FL E H6 Try.f6 0 r lh 0 (S6_L0 (IntKind.wrap .i64 (i6 + 1)) h0 h1))))))) (
        FL E H6 Try.f6 0 r lh 0 (S6_L0 (IntKind.wrap .i64 (i6 + 1)) h0 h1)))))) (
    Ck (Nat.ble 1 h0.length) (
     Ck (decide ((0 : Int) ≤ (IntKind.wrap .i64 (4 + (IntKind.wrap .i64 (Int.tdiv (h0.getD 0 0) 2)))))) (
      Ck (decide ((IntKind.wrap .i64 (4 + (IntKind.wrap .i64 (Int.tdiv (h0.getD 0 0) 2)))) < ((h1.length : Nat) : Int))) (
       Ck (Nat.ble ((IntKind.wrap .i64 (4 + (IntKind.wrap .i64 (Int.tdiv (h0.getD 0 0) 2)))).toNat + 1) h1.length) (
        Ck (Nat.ble 2 h0.length) (
         Br (decide ((h1.getD (IntKind.wrap .i64 (4 + (IntKind.wrap .i64 (Int.tdiv (h0.getD 0 0) 2)))).toNat 0) = (h0.getD 1 0))) (
          Ck (Nat.ble 1 h0.length) (
           Ck (decide ((0 : Int) ≤ (IntKind.wrap .i64 (5 - (IntKind.wrap .i64 (Int.tdiv (h0.getD 0 0) 2)))))) (
            Ck (decide ((IntKind.wrap .i64 (5 - (IntKind.wrap .i64 (Int.tdiv (h0.getD 0 0) 2)))) < ((h1.length : Nat) : Int))) (
             Ck (Nat.ble ((IntKind.wrap .i64 (5 - (IntKind.wrap .i64 (Int.tdiv (h0.getD 0 0) 2)))).toNat + 1) h1.length) (
              Ret r lh [.one (.bool (decide ((h1.getD (IntKind.wrap .i64 (5 - (IntKind.wrap .i64 (Int.tdiv (h0.getD 0 0) 2)))).toNat 0) = (0 : Int))))] []))))) (
          Ret r lh [.one (.bool false)] [])))))))) := by kernel_rfl
theorem l6 (p : Pat) (hp : patchOk p = true) : ∀ (n i : Nat), i + n = 4 → FL E H6 Try.f6 0 [.one (.bool true)] [] 0 (S6_L0 (i : Int) [p.1, p.2] (allF 1 (vtimes (unitF p.1) p.2)))
  | 0, i, h => by
    obtain ⟨⟨p0, p1⟩, q0, q1⟩ := patchOk_iff.1 hp
    obtain ⟨n1, n2, n3⟩ := near0 p0 p1 q0 q1
    have hl := allF_length 1 (vtimes (unitF p.1) p.2)
    refine FL_of1 ?_
    rw [eq6_L0]
    simp only [List.getD_cons_zero, List.getD_cons_succ]
    rw [Int.tdiv_eq_ediv_of_nonneg p0, wrap64 (n := p.1 / 2) (by omega) (by omega), wrap64 (n := 4 + p.1 / 2) (by omega) (by omega), wrap64 (n := 5 - p.1 / 2) (by omega) (by omega)]
    exact Br_f (by omega) (Ck_le (by simp) (Ck_d (by omega) (Ck_d (by omega) (Ck_le (by omega) (Ck_le (by simp) (Br_t n2 (Ck_le (by simp) (Ck_d (by omega) (Ck_d (by omega) (Ck_le (by omega) ⟨by rw [decide_eq_true n3], rfl⟩))))))))))
  | n + 1, i, h => by
    obtain ⟨⟨p0, p1⟩, q0, q1⟩ := patchOk_iff.1 hp
    have n1 := (near0 p0 p1 q0 q1).1 i (by omega)
    have hl := allF_length 1 (vtimes (unitF p.1) p.2)
    refine FL_of1 ?_
    rw [eq6_L0, wS (by omega)]
    simp only [List.getD_cons_zero, List.getD_cons_succ, Int.toNat_natCast]
    have ih := l6 p hp n (i + 1) (by omega)
    refine Br_t (by omega) (Ck_le (by simp) (Br_nd (fun c => ?_) (fun c => ?_)))
    · rw [if_neg c] at n1
      exact Ck_d (by omega) (Ck_d (by omega) (Ck_le (by omega) (Br_nd (fun e => absurd n1 e) (fun _ => Ck_le (by simp) (Br_f c ih)))))
    · rw [if_pos c] at n1
      exact Ck_le (by simp) (Br_t c (Ck_d (by omega) (Ck_d (by omega) (Ck_le (by omega) (Ck_le (by simp) (Br_nd (fun e => absurd n1 e) (fun _ => ih)))))))
theorem c6 (code : List Int) (hc : Bytes code) : SC P 6 [.one (.ro (.int .u8) code)] [] [.one (.bool true)] [] := by
  refine SC_of_FB (H := H6) E_ok Try.func6 (by kernel_rfl) ?_
  rw [eq6]
  refine Br_d (fun _ => ⟨rfl, rfl⟩) (fun _ => ?_)
  obtain ⟨k, q, s0⟩ := c29 code hc
  have hx := patchRowF_len (kind := k) (p := q)
  refine ⟨(k, q.1, q.2), s0, _, c25 k q, _, c23 k q, _, c20 _ _ (by omega), ?_⟩
  rw [decide_eq_true rfl]
  refine Br_F (Br_d (fun _ => ⟨_, c23 k q, _, c20 _ _ (by omega), by rw [decide_eq_true rfl], rfl⟩) (fun hn => Br_nd (fun _ => ⟨_, c23 k q, _, c20 _ _ (by omega), by rw [decide_eq_true rfl], rfl⟩) (fun hk => ?_)))
  have hk : k = 1 := hk
  subst hk
  cases hq : patchOk q
  · rw [patchRowF, hq, Bool.and_false] at hn; exact absurd rfl hn
  · rw [patchRowF, hq]
    exact l6 q hq 4 0 (by omega)
theorem diffsR_length {q : Nat → Int} : ∀ {n i : Nat}, (diffsR q i n).length = countR (fun j => !decide (q j = 0)) i n
  | 0, _ => rfl
  | n + 1, i => by
    rw [diffsR, countR, List.length_append, diffsR_length]
    cases decide (q i = 0) <;> rfl
theorem diffsR_ok {a b : List Int} : ∀ {n i : Nat}, i + n ≤ 4 → (diffsR (difQ a b) i n).all patchOk = true
  | 0, _, _ => rfl
  | n + 1, i, h => by
    rw [diffsR, List.all_append, diffsR_ok (n := n) (by omega), Bool.and_true]
    by_cases hq : difQ a b i = 0
    · rw [decide_eq_true hq]; rfl
    · rw [decide_eq_false hq, cond_false, List.all_cons, List.all_nil, Bool.and_true]
      have h2 : FOk (difQ a b i) := fok_mod _
      exact patchOk_iff.2 ⟨⟨by dsimp only; omega, by dsimp only; omega⟩, by have := h2.1; dsimp only; omega, h2.2⟩
theorem diffsR_fold {a b : List Int} (ha : vecOk a = true) (hb : vecOk b = true) : ∀ {n i : Nat} {d : List Int}, i + n = 4 → d.length = 4 → (∀ j, j < i → d.getD j 0 = b.getD j 0) → (∀ j, i ≤ j → d.getD j 0 = a.getD j 0) → (diffsR (difQ a b) i n).foldl addP d = b
  | 0, i, d, h, hd, h1, h2 => by
    have hbl := vecOk_len hb
    rw [diffsR, List.foldl_nil]
    refine fill_done (by omega) fun j hj => ?_
    have := h1 j (by omega)
    rw [getD_eq (by omega), getD_eq (by omega)] at this
    rw [List.getElem?_eq_getElem (by omega), List.getElem?_eq_getElem (by omega), this]
  | n + 1, i, d, h, hd, h1, h2 => by
    rw [diffsR, List.foldl_append]
    have hz := difQ_zero ha hb i
    by_cases hq : difQ a b i = 0
    · rw [decide_eq_true hq, cond_true, List.foldl_nil]
      refine diffsR_fold ha hb (by omega) hd (fun j hj => ?_) (fun j hj => h2 j (by omega))
      rcases Nat.lt_succ_iff_lt_or_eq.1 hj with h3 | rfl
      · exact h1 j h3
      · rw [h2 j (Nat.le_refl _), hz.1 hq]
    · rw [decide_eq_false hq, cond_false, List.foldl_cons, List.foldl_nil]
      have e : (d.getD i 0 + difQ a b i) % 31 = b.getD i 0 := by
        obtain ⟨a0, a1⟩ := vecOk_get ha i
        obtain ⟨b0, b1⟩ := vecOk_get hb i
        rw [h2 i (Nat.le_refl _), difQ]
        omega
      have ea : addP d ((i : Int), difQ a b i) = d.set i (b.getD i 0) := by
        rw [addP]
        simp only [Int.toNat_natCast]
        rw [e]
      rw [ea]
      refine diffsR_fold ha hb (by omega) (by rw [List.length_set]; exact hd) (fun j hj => ?_) (fun j hj => ?_)
      · rcases Nat.lt_succ_iff_lt_or_eq.1 hj with h3 | rfl
        · rw [List.getD, List.getElem?_set_ne (by omega)]; exact h1 j h3
        · exact get_set_self (by omega)
      · rw [List.getD, List.getElem?_set_ne (by omega)]; exact h2 j (by omega)
/-! loop.example/keelson/laws.FnPatchOf -/
def H9 : Hint := ⟨[[(3, 0, .bool), (4, 0, .bool), (5, 0, .bool), (6, 0, .bool), (7, 0, .bool)], [(3, 0, .bool), (4, 0, .bool), (5, 0, .bool), (6, 0, .bool), (8, 0, .bool)]], [], [(11, [0, 1, 2, 3, 4, 5, 6, 7, 8])], [], [], []⟩
def S9_L0 (a3 : List Int) (b4 : List Int) (n6 : Int) (i7 : Int) (h0 : List (Int × Int)) : St := ⟨[(3, .w (.one (.ro (.int .i64) a3))), (4, .w (.one (.ro (.int .i64) b4))), (5, .w (.one (.sl 0 none))), (6, .w (.one (.int .i64 n6))), (7, .w (.one (.int .i64 i7)))], [.row (.pair (.int .i64) (.int .i64)) h0 .own]⟩
def S9_L1 (a3 : List Int) (b4 : List Int) (n6 : Int) (i8 : Int) (h0 : List (Int × Int)) : St := ⟨[(3, .w (.one (.ro (.int .i64) a3))), (4, .w (.one (.ro (.int .i64) b4))), (5, .w (.one (.sl 0 none))), (6, .w (.one (.int .i64 n6))), (8, .w (.one (.int .i64 i8)))], [.row (.pair (.int .i64) (.int .i64)) h0 .own]⟩
theorem eq9 (code : List Int) (r : List W) (lh : Heap) : FB E H9 Try.f9 [.one (.ro (.int .u8) code)] [] r lh =
  (
   Br (decide ((1048576 : Int) < ((code.length : Nat) : Int))) (
    Ret r lh [.one (.bool true)] []) (
    ∃ r0 : List Int × List Int, SC P 38 [.one (.ro (.int .u8) code)] [] [.one (.ro (.int .i64) r0.1), .one (.ro (.int .i64) r0.2)] [] ∧
     ∃ r1 : List (Int × Int), SC P 32 [.one (.ro (.int .i64) r0.1), .one (.ro (.int .i64) r0.2)] [] [.one (.sl 0 none)] [.row (.pair (.int .i64) (.int .i64)) r1 .own] ∧
      ∃ r2 : List (Int × Int), SC P 30 [.one (.ro (.int .i64) r0.1), .one (.ro (.int .i64) r0.2)] [] [.one (.sl 0 none)] [.row (.pair (.int .i64) (.int .i64)) r2 .own] ∧
       ∃ r3 : Bool, SC P 39 [.one (.ro (.pair (.int .i64) (.int .i64)) r1), .one (.ro (.pair (.int .i64) (.int .i64)) r2)] [] [.one (.bool r3)] [] ∧
        Br (!r3) (
         ∃ r4 : List (Int × Int), SC P 30 [.one (.ro (.int .i64) r0.1), .one (.ro (.int .i64) r0.2)] [] [.one (.sl 0 none)] [.row (.pair (.int .i64) (.int .i64)) r4 .own] ∧
          ∃ r5 : Bool, SC P 39 [.one (.ro (.pair (.int .i64) (.int .i64)) r1), .one (.ro (.pair (.int .i64) (.int .i64)) r4)] [] [.one (.bool r5)] [] ∧
           Ret r lh [.one (.bool r5)] []) (
         ∃ r6 : Bool, SC P 40 [.one (.ro (.int .i64) r0.1)] [] [.one (.bool r6)] [] ∧
          Br (!r6) (
           ∃ r7 : List (Int × Int), SC P 30 [.one (.ro (.int .i64) r0.1), .one (.ro (.int .i64) r0.2)] [] [.one (.sl 0 none)] [.row (.pair (.int .i64) (.int .i64)) r7 .own] ∧
            ∃ r8 : Bool, SC P 39 [.one (.ro (.pair (.int .i64) (.int .i64)) r1), .one (.ro (.pair (.int .i64) (.int .i64)) r7)] [] [.one (.bool r8)] [] ∧
             Ret r lh [.one (.bool r8)] []) (
           ∃ r9 : Bool, SC P 40 [.one (.ro (.int .i64) r0.2)] [] [.one (.bool r9)] [] ∧
            Br (!r9) (
             ∃ r10 : List (Int × Int), SC P 30 [.one (.ro (.int .i64) r0.1), .one (.ro (.int .i64) r0.2)] [] [.one (.sl 0 none)] [.row (.pair (.int .i64) (.int .i64)) r10 .own] ∧
              ∃ r11 : Bool, SC P 39 [.one (.ro (.pair (.int .i64) (.int .i64)) r1), .one (.ro (.pair (.int .i64) (.int .i64)) r10)] [] [.one (.bool r11)] [] ∧
               Ret r lh [.one (.bool r11)] []) (
             FL E H9 Try.f9 0 r lh 0 (S9_L0 r0.1 r0.2 0 0 r1)))))) := by kernel_rfl
theorem eq9_L0 (a3 : List Int) (b4 : List Int) (n6 : Int) (i7 : Int) (h0 : List (Int × Int)) (r : List W) (lh : Heap) : FL1 E H9 Try.f9 0 r lh 0 (S9_L0 a3 b4 n6 i7 h0) =
  (
   Br (decide (i7 < ((a3.length : Nat) : Int))) (
    Ck (decide ((0 : Int) ≤ i7)) (
     Ck (decide (i7 < ((a3.length : Nat) : Int))) (
      Ck (decide ((0 : Int) ≤ i7)) (
       Ck (decide (i7 < ((b4.length : Nat) : Int))) (
        Br (!(decide ((a3.getD i7.toNat 0) = (b4.getD i7.toNat 0)))) (
         FL E H9 Try.f9 0 r lh 0 (S9_L0 a3 b4 (IntKind.wrap .i64 (n6 + 1)) (IntKind.wrap .i64 (i7 + 1)) h0)) (
         FL E H9 Try.f9 0 r lh 0 (S9_L0 a3 b4 n6 (IntKind.wrap .i64 (i7 + 1)) h0))))))) (
    FL E H9 Try.f9 0 r lh 1 (S9_L1 a3 b4 n6 0 h0))) := by kernel_rfl
theorem eq9_L1 (a3 : List Int) (b4 : List Int) (n6 : Int) (i8 : Int) (h0 : List (Int × Int)) (r : List W) (lh : Heap) : FL1 E H9 Try.f9 0 r lh 1 (S9_L1 a3 b4 n6 i8 h0) =
  (
   Br (decide (i8 < ((h0.length : Nat) : Int))) (
    Ck (decide ((0 : Int) ≤ i8)) (
     Ck (decide (i8 < ((h0.length : Nat) : Int))) (
      Ck (Nat.blt i8.toNat h0.length) (
       ∃ r0 : Bool, SC P 16 [.agg [.int .i64 ((h0.getD i8.toNat (0, 0)).1), .int .i64 ((h0.getD i8.toNat (0, 0)).2)]] [] [.one (.bool r0)] [] ∧
        Br (!r0) (
         Ret r lh [.one (.bool false)] []) (
         FL E H9 Try.f9 0 r lh 1 (S9_L1 a3 b4 n6 (IntKind.wrap .i64 (i8 + 1)) h0)))))) (
    ∃ r1 : List Int, SC P 19 [.one (.ro (.int .i64) a3), .one (.ro (.pair (.int .i64) (.int .i64)) h0)] [] [.one (.sl 0 none)] [.row (.int .i64) r1 .own] ∧
     ∃ r2 : Bool, SC P 20 [.one (.ro (.int .i64) r1), .one (.ro (.int .i64) b4)] [] [.one (.bool r2)] [] ∧
      Br r2 (
       Br (decide (((h0.length : Nat) : Int) = n6)) (
        ∃ r3 : List (Int × Int), SC P 32 [.one (.ro (.int .i64) a3), .one (.ro (.int .i64) a3)] [] [.one (.sl 0 none)] [.row (.pair (.int .i64) (.int .i64)) r3 .own] ∧
         Ret r lh [.one (.bool (decide (((r3.length : Nat) : Int) = (0 : Int))))] []) (
        Ret r lh [.one (.bool false)] [])) (
       Ret r lh [.one (.bool false)] []))) := by kernel_rfl
theorem l9_1 (a b : List Int) (ha : vecOk a = true) (hb : vecOk b = true) (m : Int) (hm : m = ((diffsR (difQ a b) 0 4).length : Int)) : ∀ (n i : Nat), i + n = (diffsR (difQ a b) 0 4).length →
    FL E H9 Try.f9 0 [.one (.bool true)] [] 1 (S9_L1 a b m (i : Int) (diffsR (difQ a b) 0 4))
  | 0, i, h => by
    have hal := vecOk_len ha
    have hl := diffsR_len (q := difQ a b) (i := 0) (n := 4)
    have s0 := c19 a (diffsR (difQ a b) 0 4) (by omega) (by omega)
    rw [patchDataF, ha, diffsR_ok (by omega), Bool.and_self, cond_true, diffsR_fold ha hb (by omega) hal (fun j hj => absurd hj (by omega)) (fun j _ => rfl)] at s0
    have s1 := c32 a a (by omega) (by omega)
    have e : patchOfF a a = [] := by
      rw [patchOfF, ha, Bool.and_self, cond_true, diffsR_congr (q' := fun _ => 0) (fun j _ _ => (difQ_zero ha ha j).2 rfl)]
      rfl
    rw [e] at s1
    refine FL_of1 ?_
    rw [eq9_L1]
    have hbl := vecOk_len hb
    refine Br_f (by omega) ⟨_, s0, _, c20 _ _ (by omega), ?_⟩
    rw [decide_eq_true rfl]
    exact Br_T (Br_t hm.symm ⟨_, s1, rfl, rfl⟩)
  | n + 1, i, h => by
    have hl := diffsR_len (q := difQ a b) (i := 0) (n := 4)
    have hi : i < (diffsR (difQ a b) 0 4).length := by omega
    have hok := List.all_eq_true.1 (diffsR_ok (a := a) (b := b) (i := 0) (n := 4) (by omega)) _ (List.getElem_mem hi)
    rw [← getD_eq (z := (0, 0)) hi] at hok
    refine FL_of1 ?_
    rw [eq9_L1, wS (by omega)]
    simp only [Int.toNat_natCast]
    exact Br_t (by omega) (Ck_d (by omega) (Ck_d (by omega) (Ck_lt (by omega) ⟨_, c16 _, Br_nb (fun e => by rw [hok] at e; cases e) (fun _ => l9_1 a b ha hb m hm n (i + 1) (by omega))⟩)))
theorem l9_0 (a b : List Int) (ha : vecOk a = true) (hb : vecOk b = true) : ∀ (n i : Nat) (m : Int), i + n = 4 → 0 ≤ m → m + n ≤ 100 → m + (countR (fun j => !decide (difQ a b j = 0)) i n : Int) = ((diffsR (difQ a b) 0 4).length : Int) →
    FL E H9 Try.f9 0 [.one (.bool true)] [] 0 (S9_L0 a b m (i : Int) (diffsR (difQ a b) 0 4))
  | 0, i, m, h, m0, m1, hm => by
    have hal := vecOk_len ha
    refine FL_of1 ?_
    rw [eq9_L0]
    rw [countR] at hm
    exact Br_f (by omega) (l9_1 a b ha hb m (by omega) (diffsR (difQ a b) 0 4).length 0 (by omega))
  | n + 1, i, m, h, m0, m1, hm => by
    have hal := vecOk_len ha
    have hbl := vecOk_len hb
    have hz := difQ_zero ha hb i
    refine FL_of1 ?_
    rw [eq9_L0, wS (by omega), wrap64 (n := m + 1) (by omega) (by omega)]
    simp only [Int.toNat_natCast]
    rw [countR] at hm
    refine Br_t (by omega) (Ck_d (by omega) (Ck_d (by omega) (Ck_d (by omega) (Ck_d (by omega) (Br_nd (fun c => ?_) (fun c => ?_))))))
    · rw [decide_eq_false (fun e => c (hz.1 e))] at hm
      exact l9_0 a b ha hb n (i + 1) (m + 1) (by omega) (by omega) (by omega) (by simp at hm; omega)
    · rw [decide_eq_true (hz.2 c)] at hm
      exact l9_0 a b ha hb n (i + 1) m (by omega) (by omega) (by omega) (by simp at hm; omega)
theorem c9 (code : List Int) (hc : Bytes code) : SC P 9 [.one (.ro (.int .u8) code)] [] [.one (.bool true)] [] := by
  refine SC_of_FB (H := H9) E_ok Try.func9 (by kernel_rfl) ?_
  rw [eq9]
  refine Br_d (fun _ => ⟨rfl, rfl⟩) (fun _ => ?_)
  obtain ⟨a, b, hal, hbl, s0⟩ := c38 code hc
  have hx := patchOfF_len (a := a) (b := b)
  refine ⟨(a, b), s0, _, c32 a b (by omega) (by omega), _, c30 a b (by omega) (by omega), _, c39 _ _ (by omega), ?_⟩
  rw [decide_eq_true rfl]
  refine Br_F ⟨_, c40 a (by omega), Br_nb (fun _ => ⟨_, c30 a b (by omega) (by omega), _, c39 _ _ (by omega), by rw [decide_eq_true rfl], rfl⟩) (fun ha => ⟨_, c40 b (by omega), Br_nb (fun _ => ⟨_, c30 a b (by omega) (by omega), _, c39 _ _ (by omega), by rw [decide_eq_true rfl], rfl⟩) (fun hb => ?_)⟩)⟩
  rw [patchOfF, ha, hb]
  exact l9_0 a b ha hb 4 0 0 (by omega) (by omega) (by omega) (by rw [diffsR_length]; omega)
end Go.Proofs.Ythehpbbibfallaa.Sh
