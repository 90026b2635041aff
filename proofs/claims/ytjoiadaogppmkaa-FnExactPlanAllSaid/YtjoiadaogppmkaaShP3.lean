/- Patches that are drawn: contracts of the draws, and the laws on them. -/
import Derived.Test.YtjoiadaogppmkaaShP2
import Derived.Test.YtjoiadaogppmkaaShOpen
namespace Go.Proofs.Ytjoiadaogppmkaa.Sh
open Go
set_option linter.unusedVariables false
set_option linter.unusedSimpArgs false
/-- bytes that a draw reads -/
def RdB (b : List Int) : Prop := b.length ≤ 2000 ∧ ∀ x ∈ b, 0 ≤ x ∧ x ≤ 255
def Bytes (code : List Int) : Prop := ∀ x ∈ code, 0 ≤ x ∧ x ≤ 255
theorem bytes_of {l : List Int} (h : InR (.sl (.int .u8)) l) : Bytes l := by
  intro x hx
  have := h.2 x hx
  simp only [InR, Lit.wf, Bool.and_eq_true, decide_eq_true_iff] at this
  exact this
theorem rdB_get {b : List Int} (h : RdB b) (i : Nat) : 0 ≤ b.getD i 0 ∧ b.getD i 0 ≤ 255 := by
  by_cases hi : i < b.length
  · rw [getD_eq hi]; exact h.2 _ (List.getElem_mem hi)
  · rw [List.getD, List.getElem?_eq_none (by omega)]; simp
theorem xorI_small {a b : Int} (ha : 0 ≤ a) (ha' : a < 1099511627776) (hb : 0 ≤ b) (hb' : b < 1099511627776) : 0 ≤ xorI .i64 a b ∧ xorI .i64 a b < 1099511627776 := by
  unfold xorI
  have h1 : (BitVec.ofInt (IntKind.bits .i64) a).toNat < 2 ^ 40 := by
    rw [BitVec.toNat_ofInt]
    simp only [IntKind.bits]
    omega
  have h2 : (BitVec.ofInt (IntKind.bits .i64) b).toNat < 2 ^ 40 := by
    rw [BitVec.toNat_ofInt]
    simp only [IntKind.bits]
    omega
  have h3 := Nat.xor_lt_two_pow h1 h2
  rw [BitVec.toNat_xor]
  rw [wrap64 (by omega) (by omega)]
  omega
/-! loop.example/keelson/spec.l6Open -/
def H34 : Hint := ⟨[], [], [], [], [], [], []⟩
theorem eq34 (code : List Int) (r : List W) (lh : Heap) : FB E H34 Try.f34 [.one (.ro (.int .u8) code)] [] r lh =
  (
   Br (decide ((2000 : Int) < ((code.length : Nat) : Int))) (
    Ck (decide ((2000 : Int) ≤ ((code.length : Nat) : Int))) (
     Ck (decide (((code.length : Nat) : Int) ≤ ((code.length : Nat) : Int))) (
      Ret r lh [.one (.ptr 0 0 0)] [.box [.ro (.int .u8) ((code.drop 0).take (2000 - 0)), .int .i64 0]]))) (
    Ret r lh [.one (.ptr 0 0 0)] [.box [.ro (.int .u8) code, .int .i64 0]])) := by kernel_rfl
theorem c34 (code : List Int) (h : Bytes code) : ∃ b, RdB b ∧ SC P 34 [.one (.ro (.int .u8) code)] [] [.one (.ptr 0 0 0)] [.box [.ro (.int .u8) b, .int .i64 0]] := by
  by_cases hl : 2000 < code.length
  · refine ⟨(code.drop 0).take (2000 - 0), ⟨by simp; omega, fun x hx => h x (List.mem_of_mem_drop (List.mem_of_mem_take hx))⟩, ?_⟩
    refine SC_of_FB (H := H34) E_ok Try.func34 (by kernel_rfl) ?_
    rw [eq34]
    exact Br_t (by omega) (Ck_d (by omega) (Ck_d (by omega) ⟨rfl, rfl⟩))
  · refine ⟨code, ⟨by omega, h⟩, ?_⟩
    refine SC_of_FB (H := H34) E_ok Try.func34 (by kernel_rfl) ?_
    rw [eq34]
    exact Br_f (by omega) ⟨rfl, rfl⟩
/-! (*loop.example/keelson/spec.l6Rd).pick -/
def H49 : Hint := ⟨[], [], [(7, [0, 1, 2, 3, 4, 5, 6, 7, 8, 9, 10, 11, 12, 13, 14, 15, 16, 17, 18, 19, 20, 21, 22, 23, 24, 25, 26, 27, 28, 29, 30, 31, 32, 33, 34, 35, 36, 37, 38, 39, 40, 41, 42, 43, 44, 45])], [], [], [], []⟩
theorem eq49 (n : Int) (b : List Int) (p : Int) (r : List W) (lh : Heap) : FB E H49 Try.f49 [.one (.ptr 0 0 0), .one (.int .i64 n)] [.box [.ro (.int .u8) b, .int .i64 p]] r lh =
  (
   Br (decide (n < (1 : Int))) (
    Ret r lh [.one (.int .i64 0)] [.box [.ro (.int .u8) b, .int .i64 (IntKind.wrap .i64 (p + 1))]]) (
    Br (decide (((b.length : Nat) : Int) = (0 : Int))) (
     Ret r lh [.one (.int .i64 0)] [.box [.ro (.int .u8) b, .int .i64 (IntKind.wrap .i64 (p + 1))]]) (
     Br (decide ((IntKind.wrap .i64 ((IntKind.wrap .i64 (p + 1)) - 1)) < ((b.length : Nat) : Int))) (
      Ck (decide ((0 : Int) ≤ (IntKind.wrap .i64 ((IntKind.wrap .i64 (p + 1)) - 1)))) (
       Ck (decide ((IntKind.wrap .i64 ((IntKind.wrap .i64 (p + 1)) - 1)) < ((b.length : Nat) : Int))) (
        Ck (!decide (n = 0)) (
         Ret r lh [.one (.int .i64 (Int.tmod (IntKind.wrap .i64 (b.getD (IntKind.wrap .i64 ((IntKind.wrap .i64 (p + 1)) - 1)).toNat 0)) n))] [.box [.ro (.int .u8) b, .int .i64 (IntKind.wrap .i64 (p + 1))]])))) (
      Ck (!decide (((b.length : Nat) : Int) = 0)) (
       Ck (decide ((0 : Int) ≤ (Int.tmod (IntKind.wrap .i64 ((IntKind.wrap .i64 (p + 1)) - 1)) ((b.length : Nat) : Int)))) (
        Ck (decide ((Int.tmod (IntKind.wrap .i64 ((IntKind.wrap .i64 (p + 1)) - 1)) ((b.length : Nat) : Int)) < ((b.length : Nat) : Int))) (
         Ck (!decide (((b.length : Nat) : Int) = 0)) (
          Ck (decide ((0 : Int) ≤ (Int.tmod (IntKind.wrap .i64 ((IntKind.wrap .i64 ((IntKind.wrap .i64 ((IntKind.wrap .i64 (p + 1)) - 1)) * 7)) + 3)) ((b.length : Nat) : Int)))) (
           Ck (decide ((Int.tmod (IntKind.wrap .i64 ((IntKind.wrap .i64 ((IntKind.wrap .i64 ((IntKind.wrap .i64 (p + 1)) - 1)) * 7)) + 3)) ((b.length : Nat) : Int)) < ((b.length : Nat) : Int))) (
            Ck (!decide (((b.length : Nat) : Int) = 0)) (
             Ck (!decide (n = 0)) (
              Ret r lh [.one (.int .i64 (Int.tmod (xorI .i64 (IntKind.wrap .i64 ((IntKind.wrap .i64 ((IntKind.wrap .i64 ((IntKind.wrap .i64 ((IntKind.wrap .i64 (b.getD (Int.tmod (IntKind.wrap .i64 ((IntKind.wrap .i64 (p + 1)) - 1)) ((b.length : Nat) : Int)).toNat 0)) * 131)) + (IntKind.wrap .i64 ((IntKind.wrap .i64 (b.getD (Int.tmod (IntKind.wrap .i64 ((IntKind.wrap .i64 ((IntKind.wrap .i64 ((IntKind.wrap .i64 (p + 1)) - 1)) * 7)) + 3)) ((b.length : Nat) : Int)).toNat 0)) * 1117)))) + (IntKind.wrap .i64 ((IntKind.wrap .i64 ((IntKind.wrap .i64 (p + 1)) - 1)) * 29)))) + (IntKind.wrap .i64 ((IntKind.wrap .i64 (Int.tdiv (IntKind.wrap .i64 ((IntKind.wrap .i64 (p + 1)) - 1)) ((b.length : Nat) : Int))) * 53)))) (IntKind.wrap .i64 (Int.tdiv (IntKind.wrap .i64 ((IntKind.wrap .i64 ((IntKind.wrap .i64 ((IntKind.wrap .i64 ((IntKind.wrap .i64 (b.getD (Int.tmod (IntKind.wrap .i64 ((IntKind.wrap .i64 (p + 1)) - 1)) ((b.length : Nat) : Int)).toNat 0)) * 131)) + (IntKind.wrap .i64 ((IntKind.wrap .i64 (b.getD (Int.tmod (IntKind.wrap .i64 ((IntKind.wrap .i64 ((IntKind.wrap .i64 ((IntKind.wrap .i64 (p + 1)) - 1)) * 7)) + 3)) ((b.length : Nat) : Int)).toNat 0)) * 1117)))) + (IntKind.wrap .i64 ((IntKind.wrap .i64 ((IntKind.wrap .i64 (p + 1)) - 1)) * 29)))) + (IntKind.wrap .i64 ((IntKind.wrap .i64 (Int.tdiv (IntKind.wrap .i64 ((IntKind.wrap .i64 (p + 1)) - 1)) ((b.length : Nat) : Int))) * 53)))) 64))) n))] [.box [.ro (.int .u8) b, .int .i64 (IntKind.wrap .i64 (p + 1))]])))))))))))) := by kernel_rfl
theorem c49 (b : List Int) (p n : Int) (hb : RdB b) (h0 : 0 ≤ p) (h1 : p ≤ 100000) (hn : 1 ≤ n) : ∃ v, 0 ≤ v ∧ v < n ∧ SC P 49 [.one (.ptr 0 0 0), .one (.int .i64 n)] [.box [.ro (.int .u8) b, .int .i64 p]] [.one (.int .i64 v)] [.box [.ro (.int .u8) b, .int .i64 (p + 1)]] := by
  by_cases e0 : (b.length : Int) = 0
  · refine ⟨0, by omega, by omega, ?_⟩
    refine SC_of_FB (H := H49) E_ok Try.func49 (by kernel_rfl) ?_
    rw [eq49]
    rw [wrap64 (n := p + 1) (by omega) (by omega)]
    exact Br_f (by omega) (Br_t e0 ⟨rfl, rfl⟩)
  · by_cases e1 : p < b.length
    · have hg := rdB_get hb p.toNat
      refine ⟨(b.getD p.toNat 0).tmod n, Int.tmod_nonneg _ hg.1, Int.tmod_lt_of_pos _ (by omega), ?_⟩
      refine SC_of_FB (H := H49) E_ok Try.func49 (by kernel_rfl) ?_
      rw [eq49]
      rw [wrap64 (n := p + 1) (by omega) (by omega), Int.add_sub_cancel, wrap64 (n := p) (by omega) (by omega), wrap64 (n := b.getD p.toNat 0) (by omega) (by omega)]
      exact Br_f (by omega) (Br_f e0 (Br_t e1 (Ck_d (by omega) (Ck_d (by omega) (Ck_n (by omega) ⟨rfl, rfl⟩)))))
    · have hl : (0 : Int) < b.length := by omega
      have q1 := Int.tmod_nonneg (b.length : Int) (show (0 : Int) ≤ p by omega)
      have q2 := Int.tmod_lt_of_pos p hl
      have q3 := Int.tmod_nonneg (b.length : Int) (show (0 : Int) ≤ p * 7 + 3 by omega)
      have q4 := Int.tmod_lt_of_pos (p * 7 + 3) hl
      have d1 : (p.tdiv b.length) = p / b.length := Int.tdiv_eq_ediv_of_nonneg h0
      have d2 := Int.ediv_nonneg h0 (show (0 : Int) ≤ b.length by omega)
      have d3 : p / (b.length : Int) ≤ p := Int.ediv_le_self _ h0
      have g1 := rdB_get hb (p.tmod b.length).toNat
      have g2 := rdB_get hb ((p * 7 + 3).tmod b.length).toNat
      have key : ∀ A B D : Int, 0 ≤ A → A ≤ 255 → 0 ≤ B → B ≤ 255 → 0 ≤ D → D ≤ p →
          0 ≤ A * 131 + B * 1117 + p * 29 + D * 53 ∧ A * 131 + B * 1117 + p * 29 + D * 53 < 1099511627776 := by
        intro A B D a1 a2 b1 b2 c1 c2
        omega
      have k1 := key _ _ _ g1.1 g1.2 g2.1 g2.2 d2 d3
      have k2 : 0 ≤ (b.getD (p.tmod b.length).toNat 0 * 131 + b.getD ((p * 7 + 3).tmod b.length).toNat 0 * 1117 + p * 29 + p / b.length * 53).tdiv 64 ∧
          (b.getD (p.tmod b.length).toNat 0 * 131 + b.getD ((p * 7 + 3).tmod b.length).toNat 0 * 1117 + p * 29 + p / b.length * 53).tdiv 64 < 1099511627776 := by
        rw [Int.tdiv_eq_ediv_of_nonneg k1.1]
        omega
      have k3 := xorI_small k1.1 k1.2 k2.1 k2.2
      refine ⟨Int.tmod _ n, Int.tmod_nonneg _ k3.1, Int.tmod_lt_of_pos _ (by omega), ?_⟩
      refine SC_of_FB (H := H49) E_ok Try.func49 (by kernel_rfl) ?_
      rw [eq49]
      rw [wrap64 (n := p + 1) (by omega) (by omega), Int.add_sub_cancel, wrap64 (n := p) (by omega) (by omega), wrap64 (n := p * 7) (by omega) (by omega), wrap64 (n := p * 7 + 3) (by omega) (by omega), d1]
      generalize b.getD (p.tmod b.length).toNat 0 = A at g1 k1 k2 k3 ⊢
      generalize b.getD ((p * 7 + 3).tmod b.length).toNat 0 = B at g2 k1 k2 k3 ⊢
      generalize p / (b.length : Int) = D at d2 d3 k1 k2 k3 ⊢
      rw [wrap64 (n := A) (by omega) (by omega), wrap64 (n := B) (by omega) (by omega), wrap64 (n := D) (by omega) (by omega), wrap64 (n := A * 131) (by omega) (by omega), wrap64 (n := B * 1117) (by omega) (by omega), wrap64 (n := p * 29) (by omega) (by omega), wrap64 (n := D * 53) (by omega) (by omega),
        wrap64 (n := A * 131 + B * 1117) (by omega) (by omega), wrap64 (n := A * 131 + B * 1117 + p * 29) (by omega) (by omega), wrap64 (n := A * 131 + B * 1117 + p * 29 + D * 53) (by omega) (by omega), wrap64 (n := (A * 131 + B * 1117 + p * 29 + D * 53).tdiv 64) (by omega) (by omega)]
      exact Br_f (by omega) (Br_f e0 (Br_f e1 (Ck_n e0 (Ck_d q1 (Ck_d q2 (Ck_n e0 (Ck_d q3 (Ck_d q4 (Ck_n e0 (Ck_n (by omega) ⟨rfl, rfl⟩))))))))))

/-! loop.example/keelson/spec.l91Vec -/
def H48 : Hint := ⟨[[(0, 0, .bool), (3, 0, .bool), (4, 0, .bool)]], [], [], [], [.one (.c (.sl (.int .i64)))], [], []⟩
def S48_L0 (i4 : Int) (b0_0 : List Int) (b0_1 : Int) (h1 : List Int) : St := ⟨[(0, .w (.one (.ptr 0 0 0))), (3, .w (.one (.sl 1 none))), (4, .w (.one (.int .i64 i4)))], [.box [.ro (.int .u8) b0_0, .int .i64 b0_1], .row (.int .i64) h1 .own]⟩
theorem eq48 (b : List Int) (p : Int) (r : List W) (lh : Heap) : FB E H48 Try.f48 [.one (.ptr 0 0 0)] [.box [.ro (.int .u8) b, .int .i64 p]] r lh =
  (
   FL E H48 Try.f48 1 r lh 0 (S48_L0 0 b p [])) := by kernel_rfl
theorem eq48_L0 (i4 : Int) (b0_0 : List Int) (b0_1 : Int) (h1 : List Int) (r : List W) (lh : Heap) : FL1 E H48 Try.f48 1 r lh 0 (S48_L0 i4 b0_0 b0_1 h1) =
  (
   Br (decide (i4 < (4 : Int))) (
    ∃ r0 : List Int × Int × Int, SC P 49 [.one (.ptr 0 0 0), .one (.int .i64 4)] [.box [.ro (.int .u8) b0_0, .int .i64 b0_1]] [.one (.int .i64 r0.2.2)] [.box [.ro (.int .u8) r0.1, .int .i64 r0.2.1]] ∧
     ∃ r1 : List Int × Int × Int, SC P 49 [.one (.ptr 0 0 0), .one (.int .i64 31)] [.box [.ro (.int .u8) r0.1, .int .i64 r0.2.1]] [.one (.int .i64 r1.2.2)] [.box [.ro (.int .u8) r1.1, .int .i64 r1.2.1]] ∧
      ∃ r2 : List Int × Int × Int, SC P 49 [.one (.ptr 0 0 0), .one (.int .i64 31)] [.box [.ro (.int .u8) r1.1, .int .i64 r1.2.1]] [.one (.int .i64 r2.2.2)] [.box [.ro (.int .u8) r2.1, .int .i64 r2.2.1]] ∧
       ∃ r3 : List Int × Int × Int, SC P 49 [.one (.ptr 0 0 0), .one (.int .i64 4)] [.box [.ro (.int .u8) r2.1, .int .i64 r2.2.1]] [.one (.int .i64 r3.2.2)] [.box [.ro (.int .u8) r3.1, .int .i64 r3.2.1]] ∧
        Ck (decide ((0 : Int) ≤ r3.2.2)) (
         Ck (decide (r3.2.2 < (4 : Int))) (
          Ck (Nat.ble (r3.2.2.toNat + 1) 4) (
           Ck (Nat.ble ((h1.length + 1) * 8) roomy) (
            FL E H48 Try.f48 1 r lh 0 (S48_L0 (IntKind.wrap .i64 (i4 + 1)) r3.1 r3.2.1 (h1 ++ [([0, r0.2.2, r1.2.2, r2.2.2].getD r3.2.2.toNat 0)]))))))) (
    ∃ r4 : List Int × Int × Int, SC P 49 [.one (.ptr 0 0 0), .one (.int .i64 40)] [.box [.ro (.int .u8) b0_0, .int .i64 b0_1]] [.one (.int .i64 r4.2.2)] [.box [.ro (.int .u8) r4.1, .int .i64 r4.2.1]] ∧
     Br (decide (r4.2.2 = (0 : Int))) (
      Ck (decide ((1 : Int) ≤ ((h1.length : Nat) : Int))) (
       Ck (decide (((h1.length : Nat) : Int) ≤ ((h1.length : Nat) : Int))) (
        Ck (decide (((h1.length : Nat) : Int) ≤ ((h1.length : Nat) : Int))) (
         Ret r lh [.one (.ro (.int .i64) ((h1.drop 1).take (((h1.length : Nat) : Int).toNat - 1)))] [.box [.ro (.int .u8) r4.1, .int .i64 r4.2.1]])))) (
      Br (decide (r4.2.2 = (1 : Int))) (
       ∃ r5 : List Int × Int × Int, SC P 49 [.one (.ptr 0 0 0), .one (.int .i64 ((h1.length : Nat) : Int))] [.box [.ro (.int .u8) r4.1, .int .i64 r4.2.1]] [.one (.int .i64 r5.2.2)] [.box [.ro (.int .u8) r5.1, .int .i64 r5.2.1]] ∧
        ∃ r6 : List Int × Int × Int, SC P 49 [.one (.ptr 0 0 0), .one (.int .i64 2)] [.box [.ro (.int .u8) r5.1, .int .i64 r5.2.1]] [.one (.int .i64 r6.2.2)] [.box [.ro (.int .u8) r6.1, .int .i64 r6.2.1]] ∧
         Ck (decide ((0 : Int) ≤ r6.2.2)) (
          Ck (decide (r6.2.2 < (2 : Int))) (
           Ck (Nat.ble (r6.2.2.toNat + 1) 2) (
            Ck (decide ((0 : Int) ≤ r5.2.2)) (
             Ck (decide (r5.2.2 < ((h1.length : Nat) : Int))) (
              Ck (Nat.ble (r5.2.2.toNat + 1) h1.length) (
               Ret r lh [.one (.ro (.int .i64) (h1.set r5.2.2.toNat ([(-1), 31].getD r6.2.2.toNat 0)))] [.box [.ro (.int .u8) r6.1, .int .i64 r6.2.1]]))))))) (
       Ret r lh [.one (.ro (.int .i64) h1)] [.box [.ro (.int .u8) r4.1, .int .i64 r4.2.1]])))) := by kernel_rfl
theorem l48 (b : List Int) (hb : RdB b) : ∀ (n i : Nat) (p : Int) (h : List Int), i + n = 4 → h.length = i → 0 ≤ p → p + 4 * n ≤ 10000 → ∃ l p', 3 ≤ l.length ∧ l.length ≤ 4 ∧ 0 ≤ p' ∧ p' ≤ p + 4 * n + 3 ∧
    FL E H48 Try.f48 1 [.one (.ro (.int .i64) l)] [.box [.ro (.int .u8) b, .int .i64 p']] 0 (S48_L0 (i : Int) b p h)
  | 0, i, p, h, hi, hl, h0, h1 => by
    obtain ⟨v1, a1, b1, s1⟩ := c49 b p 40 hb (by omega) (by omega) (by omega)
    by_cases c0 : v1 = 0
    · refine ⟨(h.drop 1).take ((h.length : Int).toNat - 1), p + 1, by simp; omega, by simp; omega, by omega, by omega, ?_⟩
      refine FL_of1 ?_
      rw [eq48_L0]
      exact Br_f (by omega) ⟨(b, p + 1, v1), s1, Br_t c0 (Ck_d (by omega) (Ck_d (by omega) (Ck_d (by omega) ⟨rfl, rfl⟩)))⟩
    · by_cases c1 : v1 = 1
      · obtain ⟨v2, a2, b2, s2⟩ := c49 b (p + 1) (h.length : Int) hb (by omega) (by omega) (by omega)
        obtain ⟨v3, a3, b3, s3⟩ := c49 b (p + 1 + 1) 2 hb (by omega) (by omega) (by omega)
        refine ⟨h.set v2.toNat ([-1, 31].getD v3.toNat 0), p + 1 + 1 + 1, by simp; omega, by simp; omega, by omega, by omega, ?_⟩
        refine FL_of1 ?_
        rw [eq48_L0]
        exact Br_f (by omega) ⟨(b, p + 1, v1), s1, Br_f c0 (Br_t c1 ⟨(b, p + 1 + 1, v2), s2, (b, p + 1 + 1 + 1, v3), s3, Ck_d (by omega) (Ck_d (by omega) (Ck_le (by dsimp only; omega) (Ck_d (by omega) (Ck_d (by omega) (Ck_le (by dsimp only; omega) ⟨rfl, rfl⟩)))))⟩)⟩
      · refine ⟨h, p + 1, by omega, by omega, by omega, by omega, ?_⟩
        refine FL_of1 ?_
        rw [eq48_L0]
        exact Br_f (by omega) ⟨(b, p + 1, v1), s1, Br_f c0 (Br_f c1 ⟨rfl, rfl⟩)⟩
  | n + 1, i, p, h, hi, hl, h0, h1 => by
    obtain ⟨v0, a0, b0, s0⟩ := c49 b p 4 hb (by omega) (by omega) (by omega)
    obtain ⟨v1, a1, b1, s1⟩ := c49 b (p + 1) 31 hb (by omega) (by omega) (by omega)
    obtain ⟨v2, a2, b2, s2⟩ := c49 b (p + 1 + 1) 31 hb (by omega) (by omega) (by omega)
    obtain ⟨v3, a3, b3, s3⟩ := c49 b (p + 1 + 1 + 1) 4 hb (by omega) (by omega) (by omega)
    obtain ⟨l, p', e1, e2, e3, e4, hF⟩ := l48 b hb n (i + 1) (p + 1 + 1 + 1 + 1) (h ++ [[0, v0, v1, v2].getD v3.toNat 0]) (by omega) (by simp; omega) (by omega) (by omega)
    refine ⟨l, p', e1, e2, e3, by omega, ?_⟩
    refine FL_of1 ?_
    rw [eq48_L0, wS (by omega)]
    exact Br_t (by omega) ⟨(b, p + 1, v0), s0, (b, p + 1 + 1, v1), s1, (b, p + 1 + 1 + 1, v2), s2, (b, p + 1 + 1 + 1 + 1, v3), s3, Ck_d (by omega) (Ck_d (by omega) (Ck_le (by dsimp only; omega) (Ck_room (by omega) hF)))⟩
theorem c48 (b : List Int) (p : Int) (hb : RdB b) (h0 : 0 ≤ p) (h1 : p ≤ 5000) : ∃ l p', 3 ≤ l.length ∧ l.length ≤ 4 ∧ 0 ≤ p' ∧ p' ≤ p + 19 ∧
    SC P 48 [.one (.ptr 0 0 0)] [.box [.ro (.int .u8) b, .int .i64 p]] [.one (.ro (.int .i64) l)] [.box [.ro (.int .u8) b, .int .i64 p']] := by
  obtain ⟨l, p', e1, e2, e3, e4, hF⟩ := l48 b hb 4 0 p [] (by omega) rfl h0 (by omega)
  refine ⟨l, p', e1, e2, e3, by omega, ?_⟩
  refine SC_of_FB (H := H48) E_ok Try.func48 (by kernel_rfl) ?_
  rw [eq48]
  exact hF
/-! loop.example/keelson/spec.l91Kind -/
def H35 : Hint := ⟨[], [], [], [], [], [], []⟩
theorem eq35 (b : List Int) (p : Int) (r : List W) (lh : Heap) : FB E H35 Try.f35 [.one (.ptr 0 0 0)] [.box [.ro (.int .u8) b, .int .i64 p]] r lh =
  (
   ∃ r0 : List Int × Int × Int, SC P 49 [.one (.ptr 0 0 0), .one (.int .i64 40)] [.box [.ro (.int .u8) b, .int .i64 p]] [.one (.int .i64 r0.2.2)] [.box [.ro (.int .u8) r0.1, .int .i64 r0.2.1]] ∧
    Br (decide (r0.2.2 = (0 : Int))) (
     ∃ r1 : List Int × Int × Int, SC P 49 [.one (.ptr 0 0 0), .one (.int .i64 2)] [.box [.ro (.int .u8) r0.1, .int .i64 r0.2.1]] [.one (.int .i64 r1.2.2)] [.box [.ro (.int .u8) r1.1, .int .i64 r1.2.1]] ∧
      Ck (decide ((0 : Int) ≤ r1.2.2)) (
       Ck (decide (r1.2.2 < (2 : Int))) (
        Ck (Nat.ble (r1.2.2.toNat + 1) 2) (
         Ret r lh [.one (.int .i64 ([0, 3].getD r1.2.2.toNat 0))] [.box [.ro (.int .u8) r1.1, .int .i64 r1.2.1]])))) (
     ∃ r2 : List Int × Int × Int, SC P 49 [.one (.ptr 0 0 0), .one (.int .i64 2)] [.box [.ro (.int .u8) r0.1, .int .i64 r0.2.1]] [.one (.int .i64 r2.2.2)] [.box [.ro (.int .u8) r2.1, .int .i64 r2.2.1]] ∧
      Ret r lh [.one (.int .i64 (IntKind.wrap .i64 (1 + r2.2.2)))] [.box [.ro (.int .u8) r2.1, .int .i64 r2.2.1]])) := by kernel_rfl
theorem c35 (b : List Int) (p : Int) (hb : RdB b) (h0 : 0 ≤ p) (h1 : p ≤ 10000) : ∃ k p', 0 ≤ p' ∧ p' ≤ p + 2 ∧ SC P 35 [.one (.ptr 0 0 0)] [.box [.ro (.int .u8) b, .int .i64 p]] [.one (.int .i64 k)] [.box [.ro (.int .u8) b, .int .i64 p']] := by
  obtain ⟨v1, a1, b1, s1⟩ := c49 b p 40 hb (by omega) (by omega) (by omega)
  obtain ⟨v2, a2, b2, s2⟩ := c49 b (p + 1) 2 hb (by omega) (by omega) (by omega)
  by_cases c0 : v1 = 0
  · refine ⟨[0, 3].getD v2.toNat 0, p + 1 + 1, by omega, by omega, ?_⟩
    refine SC_of_FB (H := H35) E_ok Try.func35 (by kernel_rfl) ?_
    rw [eq35]
    exact ⟨(b, p + 1, v1), s1, Br_t c0 ⟨(b, p + 1 + 1, v2), s2, Ck_d (by omega) (Ck_d (by omega) (Ck_le (by dsimp only; omega) ⟨rfl, rfl⟩))⟩⟩
  · refine ⟨IntKind.wrap .i64 (1 + v2), p + 1 + 1, by omega, by omega, ?_⟩
    refine SC_of_FB (H := H35) E_ok Try.func35 (by kernel_rfl) ?_
    rw [eq35]
    exact ⟨(b, p + 1, v1), s1, Br_f c0 ⟨(b, p + 1 + 1, v2), s2, rfl, rfl⟩⟩




/-! loop.example/keelson/laws.lkInts -/
def H26 : Hint := ⟨[[(0, 0, .bool), (1, 0, .bool), (5, 0, .bool)]], [], [(6, [0, 1, 2, 3, 4, 5, 6, 7, 8])], [], [], [], []⟩
def S26_L0 (a0 : List Int) (b1 : List Int) (i5 : Int) : St := ⟨[(0, .w (.one (.ro (.int .i64) a0))), (1, .w (.one (.ro (.int .i64) b1))), (5, .w (.one (.int .i64 i5)))], []⟩
theorem eq26 (a : List Int) (b : List Int) (r : List W) (lh : Heap) : FB E H26 Try.f26 [.one (.ro (.int .i64) a), .one (.ro (.int .i64) b)] [] r lh =
  (
   Br (!(decide (((a.length : Nat) : Int) = ((b.length : Nat) : Int)))) (
    Ret r lh [.one (.bool false)] []) (
    FL E H26 Try.f26 0 r lh 0 (S26_L0 a b 0))) := by kernel_rfl
theorem eq26_L0 (a0 : List Int) (b1 : List Int) (i5 : Int) (r : List W) (lh : Heap) : FL1 E H26 Try.f26 0 r lh 0 (S26_L0 a0 b1 i5) =
  (
   Br (decide (i5 < ((a0.length : Nat) : Int))) (
    Ck (decide ((0 : Int) ≤ i5)) (
     Ck (decide (i5 < ((a0.length : Nat) : Int))) (
      Ck (decide ((0 : Int) ≤ i5)) (
       Ck (decide (i5 < ((b1.length : Nat) : Int))) (
        Br (!(decide ((a0.getD i5.toNat 0) = (b1.getD i5.toNat 0)))) (
         Ret r lh [.one (.bool false)] []) (
         FL E H26 Try.f26 0 r lh 0 (S26_L0 a0 b1 (IntKind.wrap .i64 (i5 + 1))))))))) (
    Ret r lh [.one (.bool true)] [])) := by kernel_rfl
theorem l26 (a b : List Int) (hl : a.length ≤ 1048576) (hb : a.length = b.length) : ∀ (n i : Nat), i + n = a.length → FL E H26 Try.f26 0 [.one (.bool (allR (fun j => decide (a.getD j 0 = b.getD j 0)) i n))] [] 0 (S26_L0 a b (i : Int))
  | 0, i, h => by
    refine FL_of1 ?_
    rw [eq26_L0]
    exact Br_f (by omega) ⟨rfl, rfl⟩
  | n + 1, i, h => by
    refine FL_of1 ?_
    rw [eq26_L0, wS (by omega)]
    simp only [Int.toNat_natCast]
    refine Br_t (by omega) (Ck_d (by omega) (Ck_d (by omega) (Ck_d (by omega) (Ck_d (by omega) (Br_nd (fun h1 => ?_) (fun h1 => ?_))))))
    · exact ⟨by rw [allR_f (by simpa using h1)], rfl⟩
    · rw [allR_t (by simpa using h1)]
      exact l26 a b hl hb n (i + 1) (by omega)
theorem c26 (a b : List Int) (hl : a.length ≤ 1048576) : SC P 26 [.one (.ro (.int .i64) a), .one (.ro (.int .i64) b)] [] [.one (.bool (decide (a = b)))] [] := by
  refine SC_of_FB (H := H26) E_ok Try.func26 (by kernel_rfl) ?_
  rw [eq26]
  refine Br_nd (fun h => ⟨?_, rfl⟩) (fun h => ?_)
  · rw [decide_eq_false (by rintro rfl; exact h rfl)]
  · have h : a.length = b.length := by omega
    rw [← eqR (z := 0) h]
    exact l26 a b hl h a.length 0 (by omega)

def lkV (n : Int) : List Int := [n % 31, n * 3 % 31, (n * n + 1) % 31, (n + 7) % 31]
theorem lkV_ok (n : Int) : vecOk (lkV n) = true := vecOk_l (v := (n % 31, n * 3 % 31, (n * n + 1) % 31, (n + 7) % 31)) ⟨fok_mod _, fok_mod _, fok_mod _, fok_mod _⟩
theorem Br_T {A B : Prop} (a : A) : Br true A B := a
theorem Br_F {A B : Prop} (b : B) : Br false A B := b
theorem patchDataF_one {d : List Int} {q : Pat} (hd : vecOk d = true) (hq : patchOk q = true) : patchDataF d [q] = addP d q := by
  rw [patchDataF, hd, List.all_cons, hq]; rfl
theorem patchDataF_no {d : List Int} {q : Pat} (hq : patchOk q = false) : patchDataF d [q] = [] := by
  rw [patchDataF, List.all_cons, hq, Bool.false_and, Bool.and_false]; rfl
theorem addP_get {d : List Int} {q : Pat} (h : q.1.toNat < d.length) : (addP d q).getD q.1.toNat 0 = (d.getD q.1.toNat 0 + q.2) % 31 := get_set_self h
theorem addP_ne {d : List Int} {q : Pat} (hd : vecOk d = true) (hq : patchOk q = true) : addP d q ≠ d := by
  obtain ⟨⟨p0, p1⟩, q0, q1⟩ := patchOk_iff.1 hq
  have hl := vecOk_len hd
  intro e
  have := addP_get (d := d) (q := q) (by omega)
  rw [e] at this
  obtain ⟨a, b⟩ := vecOk_get hd q.1.toNat
  omega
theorem addP_back {d : List Int} {q : Pat} (hd : vecOk d = true) (hq : patchOk q = true) : addP (addP d q) (q.1, 31 - q.2) = d := by
  obtain ⟨⟨p0, p1⟩, q0, q1⟩ := patchOk_iff.1 hq
  have hl := vecOk_len hd
  obtain ⟨a, b⟩ := vecOk_get hd q.1.toNat
  have hi : q.1.toNat < d.length := by omega
  have e := addP_get (d := d) (q := q) hi
  show (addP d q).set q.1.toNat (((addP d q).getD q.1.toNat 0 + (31 - q.2)) % 31) = d
  rw [e, addP, List.set_set, show ((d.getD q.1.toNat 0 + q.2) % 31 + (31 - q.2)) % 31 = d.getD q.1.toNat 0 by omega, getD_eq hi, List.set_getElem_self]
theorem addP_comm (d : List Int) (p q : Pat) : addP (addP d p) q = addP (addP d q) p := by
  by_cases h : p.1.toNat = q.1.toNat
  · by_cases hi : p.1.toNat < d.length
    · have e1 : (addP d p).getD q.1.toNat 0 = (d.getD q.1.toNat 0 + p.2) % 31 := by
        rw [← h]; exact addP_get hi
      have e2 : (addP d q).getD p.1.toNat 0 = (d.getD p.1.toNat 0 + q.2) % 31 := by
        rw [h]; exact addP_get (by omega)
      rw [addP, addP.eq_def (addP d q) p, e1, e2, addP, addP, h, List.set_set, List.set_set]
      congr 1
      omega
    · have z : ∀ (l : List Int) (r : Pat), ¬ r.1.toNat < l.length → addP l r = l := fun l r h => List.set_eq_of_length_le (by omega)
      rw [z d p hi, z d q (by omega), z d p hi]
  · have g : ∀ (r s : Pat), r.1.toNat ≠ s.1.toNat → (addP d r).getD s.1.toNat 0 = d.getD s.1.toNat 0 := by
      intro r s hrs
      rw [addP, List.getD, List.getElem?_set_ne hrs]; rfl
    rw [addP, g p q h, addP.eq_def (addP d q) p, g q p (Ne.symm h), addP, addP, List.set_comm _ _ h]
theorem addP_fold (p : Pat) : ∀ (l : List Pat) (d : List Int), l.foldl addP (addP d p) = addP (l.foldl addP d) p
  | [], d => rfl
  | q :: l, d => by rw [List.foldl_cons, List.foldl_cons, addP_comm, addP_fold p l]
theorem addP_reverse : ∀ (l : List Pat) (d : List Int), l.reverse.foldl addP d = l.foldl addP d
  | [], d => rfl
  | p :: l, d => by rw [List.reverse_cons, List.foldl_append, addP_reverse l, List.foldl_cons, List.foldl_nil, List.foldl_cons, addP_fold]
theorem near0 {a q : Int} (h0 : 0 ≤ a) (h1 : a ≤ 3) (q0 : 1 ≤ q) (q1 : q ≤ 30) : (∀ i : Nat, i < 4 → (allF 1 (vtimes (unitF a) q)).getD i 0 = if (i : Int) = a then q else 0) ∧
    (allF 1 (vtimes (unitF a) q)).getD (4 + a / 2).toNat 0 = q ∧ (allF 1 (vtimes (unitF a) q)).getD (5 - a / 2).toNat 0 = 0 := by
  have e1 : 1 * q % 31 = q := by omega
  have e0 : 0 * q % 31 = 0 := by omega
  have g : ∀ w x y z : Int, allF 1 (w, x, y, z) = [(1 * w + 0 * x + 0 * y + 0 * z) % 31, (0 * w + 1 * x + 0 * y + 0 * z) % 31, (0 * w + 0 * x + 1 * y + 0 * z) % 31, (0 * w + 0 * x + 0 * y + 1 * z) % 31, (1 * w + 1 * x + 0 * y + 0 * z) % 31, (0 * w + 0 * x + 1 * y + 1 * z) % 31, (1 * w + 2 * x + 4 * y + 8 * z) % 31, (1 * w + 3 * x + 9 * y + 27 * z) % 31] := fun w x y z => rfl
  have : a = 0 ∨ a = 1 ∨ a = 2 ∨ a = 3 := by omega
  rcases this with rfl | rfl | rfl | rfl
  · rw [show vtimes (unitF 0) q = (1 * q % 31, 0 * q % 31, 0 * q % 31, 0 * q % 31) from rfl, e1, e0, g]
    refine ⟨fun i hi => ?_, ?_, ?_⟩
    · have : i = 0 ∨ i = 1 ∨ i = 2 ∨ i = 3 := by omega
      rcases this with rfl | rfl | rfl | rfl <;> simp <;> omega
    · show (_ : Int) % 31 = _; omega
    · show (_ : Int) % 31 = _; omega
  · rw [show vtimes (unitF 1) q = (0 * q % 31, 1 * q % 31, 0 * q % 31, 0 * q % 31) from rfl, e1, e0, g]
    refine ⟨fun i hi => ?_, ?_, ?_⟩
    · have : i = 0 ∨ i = 1 ∨ i = 2 ∨ i = 3 := by omega
      rcases this with rfl | rfl | rfl | rfl <;> simp <;> omega
    · show (_ : Int) % 31 = _; omega
    · show (_ : Int) % 31 = _; omega
  · rw [show vtimes (unitF 2) q = (0 * q % 31, 0 * q % 31, 1 * q % 31, 0 * q % 31) from rfl, e1, e0, g]
    refine ⟨fun i hi => ?_, ?_, ?_⟩
    · have : i = 0 ∨ i = 1 ∨ i = 2 ∨ i = 3 := by omega
      rcases this with rfl | rfl | rfl | rfl <;> simp <;> omega
    · show (_ : Int) % 31 = _; omega
    · show (_ : Int) % 31 = _; omega
  · rw [show vtimes (unitF 3) q = (0 * q % 31, 0 * q % 31, 0 * q % 31, 1 * q % 31) from rfl, e1, e0, g]
    refine ⟨fun i hi => ?_, ?_, ?_⟩
    · have : i = 0 ∨ i = 1 ∨ i = 2 ∨ i = 3 := by omega
      rcases this with rfl | rfl | rfl | rfl <;> simp <;> omega
    · show (_ : Int) % 31 = _; omega
    · show (_ : Int) % 31 = _; omega
theorem diffsR_length {q : Nat → Int} : ∀ {n i : Nat}, (diffsR q i n).length = countR (fun j => !decide (q j = 0)) i n
  | 0, _ => rfl
  | n + 1, i => by
    rw [diffsR, countR, List.length_append, diffsR_length]
    cases decide (q i = 0) <;> rfl
theorem diffsR_ok {a b : List Int} : ∀ {n i : Nat}, i + n ≤ 4 → (diffsR (difQ a b) i n).all patchOk = true
  | 0, _, _ => rfl
  | n + 1, i, h => by
    rw [diffsR, List.all_append, diffsR_ok (n := n) (by omega), Bool.and_true]
    by_cases hq : difQ a b i = 0
    · rw [decide_eq_true hq]; rfl
    · rw [decide_eq_false hq, cond_false, List.all_cons, List.all_nil, Bool.and_true]
      have h2 : FOk (difQ a b i) := fok_mod _
      exact patchOk_iff.2 ⟨⟨by dsimp only; omega, by dsimp only; omega⟩, by have := h2.1; dsimp only; omega, h2.2⟩
theorem diffsR_fold {a b : List Int} (ha : vecOk a = true) (hb : vecOk b = true) : ∀ {n i : Nat} {d : List Int}, i + n = 4 → d.length = 4 → (∀ j, j < i → d.getD j 0 = b.getD j 0) → (∀ j, i ≤ j → d.getD j 0 = a.getD j 0) → (diffsR (difQ a b) i n).foldl addP d = b
  | 0, i, d, h, hd, h1, h2 => by
    have hbl := vecOk_len hb
    rw [diffsR, List.foldl_nil]
    refine fill_done (by omega) fun j hj => ?_
    have := h1 j (by omega)
    rw [getD_eq (by omega), getD_eq (by omega)] at this
    rw [List.getElem?_eq_getElem (by omega), List.getElem?_eq_getElem (by omega), this]
  | n + 1, i, d, h, hd, h1, h2 => by
    rw [diffsR, List.foldl_append]
    have hz := difQ_zero ha hb i
    by_cases hq : difQ a b i = 0
    · rw [decide_eq_true hq, cond_true, List.foldl_nil]
      refine diffsR_fold ha hb (by omega) hd (fun j hj => ?_) (fun j hj => h2 j (by omega))
      rcases Nat.lt_succ_iff_lt_or_eq.1 hj with h3 | rfl
      · exact h1 j h3
      · rw [h2 j (Nat.le_refl _), hz.1 hq]
    · rw [decide_eq_false hq, cond_false, List.foldl_cons, List.foldl_nil]
      have e : (d.getD i 0 + difQ a b i) % 31 = b.getD i 0 := by
        obtain ⟨a0, a1⟩ := vecOk_get ha i
        obtain ⟨b0, b1⟩ := vecOk_get hb i
        rw [h2 i (Nat.le_refl _), difQ]
        omega
      have ea : addP d ((i : Int), difQ a b i) = d.set i (b.getD i 0) := by
        rw [addP]
        simp only [Int.toNat_natCast]
        rw [e]
      rw [ea]
      refine diffsR_fold ha hb (by omega) (by rw [List.length_set]; exact hd) (fun j hj => ?_) (fun j hj => ?_)
      · rcases Nat.lt_succ_iff_lt_or_eq.1 hj with h3 | rfl
        · rw [List.getD, List.getElem?_set_ne (by omega)]; exact h1 j h3
        · exact get_set_self (by omega)
      · rw [List.getD, List.getElem?_set_ne (by omega)]; exact h2 j (by omega)

end Go.Proofs.Ytjoiadaogppmkaa.Sh
