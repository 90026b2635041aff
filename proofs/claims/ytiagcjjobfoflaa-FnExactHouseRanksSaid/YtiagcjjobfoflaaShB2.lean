/- Draws of houses, and what of them holds. -/
import Derived.Test.YtiagcjjobfoflaaShB1
import Derived.Test.YtiagcjjobfoflaaShOpen
namespace Go.Proofs.Ytiagcjjobfoflaa.Sh
open Go
set_option linter.unusedVariables false
set_option linter.unusedSimpArgs false
/-- bytes that a draw reads -/
def RdB (b : List Int) : Prop := b.length ≤ 2000 ∧ ∀ x ∈ b, 0 ≤ x ∧ x ≤ 255
def Bytes (code : List Int) : Prop := ∀ x ∈ code, 0 ≤ x ∧ x ≤ 255
theorem bytes_of {l : List Int} (h : InR (.sl (.int .u8)) l) : Bytes l := by
  intro x hx
  have := h.2 x hx
  simp only [InR, Lit.wf, Bool.and_eq_true, decide_eq_true_iff] at this
  exact this
theorem rdB_get {b : List Int} (h : RdB b) (i : Nat) : 0 ≤ b.getD i 0 ∧ b.getD i 0 ≤ 255 := by
  by_cases hi : i < b.length
  · rw [getD_eq hi]; exact h.2 _ (List.getElem_mem hi)
  · rw [List.getD, List.getElem?_eq_none (by omega)]; simp
theorem xorI_small {a b : Int} (ha : 0 ≤ a) (ha' : a < 1099511627776) (hb : 0 ≤ b) (hb' : b < 1099511627776) : 0 ≤ xorI .i64 a b ∧ xorI .i64 a b < 1099511627776 := by
  unfold xorI
  have h1 : (BitVec.ofInt (IntKind.bits .i64) a).toNat < 2 ^ 40 := by
    rw [BitVec.toNat_ofInt]
    simp only [IntKind.bits]
    omega
  have h2 : (BitVec.ofInt (IntKind.bits .i64) b).toNat < 2 ^ 40 := by
    rw [BitVec.toNat_ofInt]
    simp only [IntKind.bits]
    omega
  have h3 := Nat.xor_lt_two_pow h1 h2
  rw [BitVec.toNat_xor]
  rw [wrap64 (by omega) (by omega)]
  omega
/-! loop.example/keelson/spec.l6Open -/
def H92 : Hint := ⟨[], [], [], [], [], []⟩
theorem eq92 (code : List Int) (r : List W) (lh : Heap) : FB E H92 Try.f92 [.one (.ro (.int .u8) code)] [] r lh =
  (
   Br (decide ((2000 : Int) < ((code.length : Nat) : Int))) (
    Ck (decide ((2000 : Int) ≤ ((code.length : Nat) : Int))) (
     Ck (decide (((code.length : Nat) : Int) ≤ ((code.length : Nat) : Int))) (
      Ret r lh [.one (.ptr 0 0 0)] [.box [.ro (.int .u8) ((code.drop 0).take (2000 - 0)), .int .i64 0]]))) (
    Ret r lh [.one (.ptr 0 0 0)] [.box [.ro (.int .u8) code, .int .i64 0]])) := by kernel_rfl
theorem c92 (code : List Int) (h : Bytes code) : ∃ b, RdB b ∧ SC P 92 [.one (.ro (.int .u8) code)] [] [.one (.ptr 0 0 0)] [.box [.ro (.int .u8) b, .int .i64 0]] := by
  by_cases hl : 2000 < code.length
  · refine ⟨(code.drop 0).take (2000 - 0), ⟨by simp; omega, fun x hx => h x (List.mem_of_mem_drop (List.mem_of_mem_take hx))⟩, ?_⟩
    refine SC_of_FB (H := H92) E_ok Try.func92 (by kernel_rfl) ?_
    rw [eq92]
    exact Br_t (by omega) (Ck_d (by omega) (Ck_d (by omega) ⟨rfl, rfl⟩))
  · refine ⟨code, ⟨by omega, h⟩, ?_⟩
    refine SC_of_FB (H := H92) E_ok Try.func92 (by kernel_rfl) ?_
    rw [eq92]
    exact Br_f (by omega) ⟨rfl, rfl⟩
/-! (*loop.example/keelson/spec.l6Rd).pick -/
def H93 : Hint := ⟨[], [], [(7, [0, 1, 2, 3, 4, 5, 6, 7, 8, 9, 10, 11, 12, 13, 14, 15, 16, 17, 18, 19, 20, 21, 22, 23, 24, 25, 26, 27, 28, 29, 30, 31, 32, 33, 34, 35, 36, 37, 38, 39, 40, 41, 42, 43, 44, 45])], [], [], []⟩
theorem eq93 (n : Int) (b : List Int) (p : Int) (r : List W) (lh : Heap) : FB E H93 Try.f93 [.one (.ptr 0 0 0), .one (.int .i64 n)] [.box [.ro (.int .u8) b, .int .i64 p]] r lh =
  (
   Br (decide (n < (1 : Int))) (
    Ret r lh [.one (.int .i64 0)] [.box [.ro (.int .u8) b, .int .i64 (IntKind.wrap .i64 (p + 1))]]) (
    Br (decide (((b.length : Nat) : Int) = (0 : Int))) (
     Ret r lh [.one (.int .i64 0)] [.box [.ro (.int .u8) b, .int .i64 (IntKind.wrap .i64 (p + 1))]]) (
     Br (decide ((IntKind.wrap .i64 ((IntKind.wrap .i64 (p + 1)) - 1)) < ((b.length : Nat) : Int))) (
      Ck (decide ((0 : Int) ≤ (IntKind.wrap .i64 ((IntKind.wrap .i64 (p + 1)) - 1)))) (
       Ck (decide ((IntKind.wrap .i64 ((IntKind.wrap .i64 (p + 1)) - 1)) < ((b.length : Nat) : Int))) (
        Ck (!decide (n = 0)) (
         Ret r lh [.one (.int .i64 (Int.tmod (IntKind.wrap .i64 (b.getD (IntKind.wrap .i64 ((IntKind.wrap .i64 (p + 1)) - 1)).toNat 0)) n))] [.box [.ro (.int .u8) b, .int .i64 (IntKind.wrap .i64 (p + 1))]])))) (
      Ck (!decide (((b.length : Nat) : Int) = 0)) (
       Ck (decide ((0 : Int) ≤ (Int.tmod (IntKind.wrap .i64 ((IntKind.wrap .i64 (p + 1)) - 1)) ((b.length : Nat) : Int)))) (
        Ck (decide ((Int.tmod (IntKind.wrap .i64 ((IntKind.wrap .i64 (p + 1)) - 1)) ((b.length : Nat) : Int)) < ((b.length : Nat) : Int))) (
         Ck (!decide (((b.length : Nat) : Int) = 0)) (
          Ck (decide ((0 : Int) ≤ (Int.tmod (IntKind.wrap .i64 ((IntKind.wrap .i64 ((IntKind.wrap .i64 ((IntKind.wrap .i64 (p + 1)) - 1)) * 7)) + 3)) ((b.length : Nat) : Int)))) (
           Ck (decide ((Int.tmod (IntKind.wrap .i64 ((IntKind.wrap .i64 ((IntKind.wrap .i64 ((IntKind.wrap .i64 (p + 1)) - 1)) * 7)) + 3)) ((b.length : Nat) : Int)) < ((b.length : Nat) : Int))) (
            Ck (!decide (((b.length : Nat) : Int) = 0)) (
             Ck (!decide (n = 0)) (
              Ret r lh [.one (.int .i64 (Int.tmod (xorI .i64 (IntKind.wrap .i64 ((IntKind.wrap .i64 ((IntKind.wrap .i64 ((IntKind.wrap .i64 ((IntKind.wrap .i64 (b.getD (Int.tmod (IntKind.wrap .i64 ((IntKind.wrap .i64 (p + 1)) - 1)) ((b.length : Nat) : Int)).toNat 0)) * 131)) + (IntKind.wrap .i64 ((IntKind.wrap .i64 (b.getD (Int.tmod (IntKind.wrap .i64 ((IntKind.wrap .i64 ((IntKind.wrap .i64 ((IntKind.wrap .i64 (p + 1)) - 1)) * 7)) + 3)) ((b.length : Nat) : Int)).toNat 0)) * 1117)))) + (IntKind.wrap .i64 ((IntKind.wrap .i64 ((IntKind.wrap .i64 (p + 1)) - 1)) * 29)))) + (IntKind.wrap .i64 ((IntKind.wrap .i64 (Int.tdiv (IntKind.wrap .i64 ((IntKind.wrap .i64 (p + 1)) - 1)) ((b.length : Nat) : Int))) * 53)))) (IntKind.wrap .i64 (Int.tdiv (IntKind.wrap .i64 ((IntKind.wrap .i64 ((IntKind.wrap .i64 ((IntKind.wrap .i64 ((IntKind.wrap .i64 (b.getD (Int.tmod (IntKind.wrap .i64 ((IntKind.wrap .i64 (p + 1)) - 1)) ((b.length : Nat) : Int)).toNat 0)) * 131)) + (IntKind.wrap .i64 ((IntKind.wrap .i64 (b.getD (Int.tmod (IntKind.wrap .i64 ((IntKind.wrap .i64 ((IntKind.wrap .i64 ((IntKind.wrap .i64 (p + 1)) - 1)) * 7)) + 3)) ((b.length : Nat) : Int)).toNat 0)) * 1117)))) + (IntKind.wrap .i64 ((IntKind.wrap .i64 ((IntKind.wrap .i64 (p + 1)) - 1)) * 29)))) + (IntKind.wrap .i64 ((IntKind.wrap .i64 (Int.tdiv (IntKind.wrap .i64 ((IntKind.wrap .i64 (p + 1)) - 1)) ((b.length : Nat) : Int))) * 53)))) 64))) n))] [.box [.ro (.int .u8) b, .int .i64 (IntKind.wrap .i64 (p + 1))]])))))))))))) := by kernel_rfl
theorem c93 (b : List Int) (p n : Int) (hb : RdB b) (h0 : 0 ≤ p) (h1 : p ≤ 100000) (hn : 1 ≤ n) : ∃ v, 0 ≤ v ∧ v < n ∧ SC P 93 [.one (.ptr 0 0 0), .one (.int .i64 n)] [.box [.ro (.int .u8) b, .int .i64 p]] [.one (.int .i64 v)] [.box [.ro (.int .u8) b, .int .i64 (p + 1)]] := by
  by_cases e0 : (b.length : Int) = 0
  · refine ⟨0, by omega, by omega, ?_⟩
    refine SC_of_FB (H := H93) E_ok Try.func93 (by kernel_rfl) ?_
    rw [eq93]
    rw [wrap64 (n := p + 1) (by omega) (by omega)]
    exact Br_f (by omega) (Br_t e0 ⟨rfl, rfl⟩)
  · by_cases e1 : p < b.length
    · have hg := rdB_get hb p.toNat
      refine ⟨(b.getD p.toNat 0).tmod n, Int.tmod_nonneg _ hg.1, Int.tmod_lt_of_pos _ (by omega), ?_⟩
      refine SC_of_FB (H := H93) E_ok Try.func93 (by kernel_rfl) ?_
      rw [eq93]
      rw [wrap64 (n := p + 1) (by omega) (by omega), Int.add_sub_cancel, wrap64 (n := p) (by omega) (by omega), wrap64 (n := b.getD p.toNat 0) (by omega) (by omega)]
      exact Br_f (by omega) (Br_f e0 (Br_t e1 (Ck_d (by omega) (Ck_d (by omega) (Ck_n (by omega) ⟨rfl, rfl⟩)))))
    · have hl : (0 : Int) < b.length := by omega
      have q1 := Int.tmod_nonneg (b.length : Int) (show (0 : Int) ≤ p by omega)
      have q2 := Int.tmod_lt_of_pos p hl
      have q3 := Int.tmod_nonneg (b.length : Int) (show (0 : Int) ≤ p * 7 + 3 by omega)
      have q4 := Int.tmod_lt_of_pos (p * 7 + 3) hl
      have d1 : (p.tdiv b.length) = p / b.length := Int.tdiv_eq_ediv_of_nonneg h0
      have d2 := Int.ediv_nonneg h0 (show (0 : Int) ≤ b.length by omega)
      have d3 : p / (b.length : Int) ≤ p := Int.ediv_le_self _ h0
      have g1 := rdB_get hb (p.tmod b.length).toNat
      have g2 := rdB_get hb ((p * 7 + 3).tmod b.length).toNat
      have key : ∀ A B D : Int, 0 ≤ A → A ≤ 255 → 0 ≤ B → B ≤ 255 → 0 ≤ D → D ≤ p →
          0 ≤ A * 131 + B * 1117 + p * 29 + D * 53 ∧ A * 131 + B * 1117 + p * 29 + D * 53 < 1099511627776 := by
        intro A B D a1 a2 b1 b2 c1 c2
        omega
      have k1 := key _ _ _ g1.1 g1.2 g2.1 g2.2 d2 d3
      have k2 : 0 ≤ (b.getD (p.tmod b.length).toNat 0 * 131 + b.getD ((p * 7 + 3).tmod b.length).toNat 0 * 1117 + p * 29 + p / b.length * 53).tdiv 64 ∧
          (b.getD (p.tmod b.length).toNat 0 * 131 + b.getD ((p * 7 + 3).tmod b.length).toNat 0 * 1117 + p * 29 + p / b.length * 53).tdiv 64 < 1099511627776 := by
        rw [Int.tdiv_eq_ediv_of_nonneg k1.1]
        omega
      have k3 := xorI_small k1.1 k1.2 k2.1 k2.2
      refine ⟨Int.tmod _ n, Int.tmod_nonneg _ k3.1, Int.tmod_lt_of_pos _ (by omega), ?_⟩
      refine SC_of_FB (H := H93) E_ok Try.func93 (by kernel_rfl) ?_
      rw [eq93]
      rw [wrap64 (n := p + 1) (by omega) (by omega), Int.add_sub_cancel, wrap64 (n := p) (by omega) (by omega), wrap64 (n := p * 7) (by omega) (by omega), wrap64 (n := p * 7 + 3) (by omega) (by omega), d1]
      generalize b.getD (p.tmod b.length).toNat 0 = A at g1 k1 k2 k3 ⊢
      generalize b.getD ((p * 7 + 3).tmod b.length).toNat 0 = B at g2 k1 k2 k3 ⊢
      generalize p / (b.length : Int) = D at d2 d3 k1 k2 k3 ⊢
      rw [wrap64 (n := A) (by omega) (by omega), wrap64 (n := B) (by omega) (by omega), wrap64 (n := D) (by omega) (by omega), wrap64 (n := A * 131) (by omega) (by omega), wrap64 (n := B * 1117) (by omega) (by omega), wrap64 (n := p * 29) (by omega) (by omega), wrap64 (n := D * 53) (by omega) (by omega),
        wrap64 (n := A * 131 + B * 1117) (by omega) (by omega), wrap64 (n := A * 131 + B * 1117 + p * 29) (by omega) (by omega), wrap64 (n := A * 131 + B * 1117 + p * 29 + D * 53) (by omega) (by omega), wrap64 (n := (A * 131 + B * 1117 + p * 29 + D * 53).tdiv 64) (by omega) (by omega)]
      exact Br_f (by omega) (Br_f e0 (Br_f e1 (Ck_n e0 (Ck_d q1 (Ck_d q2 (Ck_n e0 (Ck_d q3 (Ck_d q4 (Ck_n e0 (Ck_n (by omega) ⟨rfl, rfl⟩))))))))))
/-! loop.example/keelson/spec.l92Houses -/
def H94 : Hint := ⟨[[(0, 0, .bool), (3, 0, .bool), (4, 0, .bool)], [(0, 0, .bool), (3, 0, .bool), (5, 0, .bool)]], [], [], [], [], []⟩
def S94_L0 (id4 : Int) (b0_0 : List Int) (b0_1 : Int) (h1 : List (Int × (Int × Int))) : St := ⟨[(0, .w (.one (.ptr 0 0 0))), (3, .w (.one (.sl 1 none))), (4, .w (.one (.int .i64 id4)))], [.box [.ro (.int .u8) b0_0, .int .i64 b0_1], .row (.pair (.int .i64) (.pair (.int .i64) (.int .i64))) h1 .own]⟩
def S94_L1 (i5 : Int) (b0_0 : List Int) (b0_1 : Int) (h1 : List (Int × (Int × Int))) : St := ⟨[(0, .w (.one (.ptr 0 0 0))), (3, .w (.one (.sl 1 none))), (5, .w (.one (.int .i64 i5)))], [.box [.ro (.int .u8) b0_0, .int .i64 b0_1], .row (.pair (.int .i64) (.pair (.int .i64) (.int .i64))) h1 .own]⟩
theorem eq94 (b : List Int) (p : Int) (r : List W) (lh : Heap) : FB E H94 Try.f94 [.one (.ptr 0 0 0)] [.box [.ro (.int .u8) b, .int .i64 p]] r lh =
  (
   FL E H94 Try.f94 1 r lh 0 (S94_L0 1 b p [])) := by kernel_rfl
theorem eq94_L0 (id4 : Int) (b0_0 : List Int) (b0_1 : Int) (h1 : List (Int × (Int × Int))) (r : List W) (lh : Heap) : FL1 E H94 Try.f94 1 r lh 0 (S94_L0 id4 b0_0 b0_1 h1) =
  (
   Br (decide (id4 ≤ (12 : Int))) (
    ∃ r0 : List Int × Int × Int, SC P 93 [.one (.ptr 0 0 0), .one (.int .i64 8)] [.box [.ro (.int .u8) b0_0, .int .i64 b0_1]] [.one (.int .i64 r0.2.2)] [.box [.ro (.int .u8) r0.1, .int .i64 r0.2.1]] ∧
     Br (decide ((0 : Int) < r0.2.2)) (
      ∃ r1 : List Int × Int × Int, SC P 93 [.one (.ptr 0 0 0), .one (.int .i64 9)] [.box [.ro (.int .u8) r0.1, .int .i64 r0.2.1]] [.one (.int .i64 r1.2.2)] [.box [.ro (.int .u8) r1.1, .int .i64 r1.2.1]] ∧
       Ck (Nat.ble ((h1.length + 1) * 24) roomy) (
        FL E H94 Try.f94 1 r lh 0 (S94_L0 (IntKind.wrap .i64 (id4 + 1)) r1.1 r1.2.1 (h1 ++ [(id4, ((IntKind.wrap .i64 (1 + (Int.tmod id4 4))), (IntKind.wrap .i64 (1 + r1.2.2))))])))) (
      FL E H94 Try.f94 1 r lh 0 (S94_L0 (IntKind.wrap .i64 (id4 + 1)) r0.1 r0.2.1 h1))) (
    ∃ r2 : List Int × Int × Int, SC P 93 [.one (.ptr 0 0 0), .one (.int .i64 30)] [.box [.ro (.int .u8) b0_0, .int .i64 b0_1]] [.one (.int .i64 r2.2.2)] [.box [.ro (.int .u8) r2.1, .int .i64 r2.2.1]] ∧
     Br (decide (r2.2.2 = (0 : Int))) (
      ∃ r3 : List Int × Int × Int, SC P 93 [.one (.ptr 0 0 0), .one (.int .i64 14)] [.box [.ro (.int .u8) r2.1, .int .i64 r2.2.1]] [.one (.int .i64 r3.2.2)] [.box [.ro (.int .u8) r3.1, .int .i64 r3.2.1]] ∧
       Ck (Nat.ble ((h1.length + 1) * 24) roomy) (
        Ret r lh [.one (.sl 1 none)] [.box [.ro (.int .u8) r3.1, .int .i64 r3.2.1], .row (.pair (.int .i64) (.pair (.int .i64) (.int .i64))) (h1 ++ [(r3.2.2, (1, 1))]) .own])) (
      Br (decide (r2.2.2 = (1 : Int))) (
       FL E H94 Try.f94 1 r lh 1 (S94_L1 0 r2.1 r2.2.1 h1)) (
       Ret r lh [.one (.sl 1 none)] [.box [.ro (.int .u8) r2.1, .int .i64 r2.2.1], .row (.pair (.int .i64) (.pair (.int .i64) (.int .i64))) h1 .own])))) := by kernel_rfl
theorem eq94_L1 (i5 : Int) (b0_0 : List Int) (b0_1 : Int) (h1 : List (Int × (Int × Int))) (r : List W) (lh : Heap) : FL1 E H94 Try.f94 1 r lh 1 (S94_L1 i5 b0_0 b0_1 h1) =
  (
   Br (decide (i5 < ((h1.length : Nat) : Int))) (
    ∃ r0 : List Int × Int × Int, SC P 93 [.one (.ptr 0 0 0), .one (.int .i64 2)] [.box [.ro (.int .u8) b0_0, .int .i64 b0_1]] [.one (.int .i64 r0.2.2)] [.box [.ro (.int .u8) r0.1, .int .i64 r0.2.1]] ∧
     Ck (decide ((0 : Int) ≤ i5)) (
      Ck (decide (i5 < ((h1.length : Nat) : Int))) (
       Ck (Nat.blt i5.toNat h1.length) (
        FL E H94 Try.f94 1 r lh 1 (S94_L1 (IntKind.wrap .i64 (i5 + 1)) r0.1 r0.2.1 (h1.set i5.toNat ((h1.getD i5.toNat (0, (0, 0))).1, ((IntKind.wrap .i64 (1 + r0.2.2)), ((h1.getD i5.toNat (0, (0, 0))).2).2)))))))) (
    Ret r lh [.one (.sl 1 none)] [.box [.ro (.int .u8) b0_0, .int .i64 b0_1], .row (.pair (.int .i64) (.pair (.int .i64) (.int .i64))) h1 .own])) := by kernel_rfl
theorem l94_1 (b : List Int) (hb : RdB b) : ∀ (n i : Nat) (p : Int) (l : List House), 0 ≤ p → p + n ≤ 100000 → l.length ≤ 1048576 → i + n = l.length → ∃ l' p', l'.length = l.length ∧ 0 ≤ p' ∧ p' ≤ p + n ∧
    FL E H94 Try.f94 1 [.one (.sl 1 none)] [.box [.ro (.int .u8) b, .int .i64 p'], .row (.pair (.int .i64) (.pair (.int .i64) (.int .i64))) l' .own] 1 (S94_L1 (i : Int) b p l)
  | 0, i, p, l, h0, h1, hl, h => ⟨l, p, rfl, h0, by omega, by
    refine FL_of1 ?_
    rw [eq94_L1]
    exact Br_f (by omega) ⟨rfl, rfl⟩⟩
  | n + 1, i, p, l, h0, h1, hl, h => by
    obtain ⟨v, v0, v1, sc⟩ := c93 b p 2 hb h0 (by omega) (by omega)
    obtain ⟨l', p', e1, e2, e3, hF⟩ := l94_1 b hb n (i + 1) (p + 1) (l.set i ((l.getD i (0, 0, 0)).1, (IntKind.wrap .i64 (1 + v), (l.getD i (0, 0, 0)).2.2))) (by omega) (by omega) (by rw [List.length_set]; exact hl) (by rw [List.length_set]; omega)
    refine ⟨l', p', by rw [e1, List.length_set], e2, by omega, ?_⟩
    refine FL_of1 ?_
    rw [eq94_L1, wS (by omega)]
    simp only [Int.toNat_natCast]
    exact Br_t (by omega) ⟨(b, p + 1, v), sc, Ck_d (by omega) (Ck_d (by omega) (Ck_lt (by omega) hF))⟩
theorem l94_0 (b : List Int) (hb : RdB b) : ∀ (n : Nat) (i p : Int) (l : List House), 0 ≤ p → p + 2 * n ≤ 1000 → l.length + n ≤ 12 → i + n = 13 → ∃ l' p', l'.length ≤ 13 ∧ 0 ≤ p' ∧ p' ≤ p + 2 * n + 30 ∧
    FL E H94 Try.f94 1 [.one (.sl 1 none)] [.box [.ro (.int .u8) b, .int .i64 p'], .row (.pair (.int .i64) (.pair (.int .i64) (.int .i64))) l' .own] 0 (S94_L0 i b p l)
  | 0, i, p, l, h0, h1, hl, h => by
    obtain ⟨v, v0, v1, sc⟩ := c93 b p 30 hb h0 (by omega) (by omega)
    by_cases c0 : v = 0
    · obtain ⟨v', w0, w1, sc'⟩ := c93 b (p + 1) 14 hb (by omega) (by omega) (by omega)
      refine ⟨l ++ [(v', 1, 1)], p + 1 + 1, by simp; omega, by omega, by omega, ?_⟩
      refine FL_of1 ?_
      rw [eq94_L0]
      exact Br_f (by omega) ⟨(b, p + 1, v), sc, Br_t c0 ⟨(b, p + 1 + 1, v'), sc', Ck_room (by omega) ⟨rfl, rfl⟩⟩⟩
    · by_cases c1 : v = 1
      · obtain ⟨l', p', e1, e2, e3, hF⟩ := l94_1 b hb l.length 0 (p + 1) l (by omega) (by omega) (by omega) (by omega)
        refine ⟨l', p', by omega, e2, by omega, ?_⟩
        refine FL_of1 ?_
        rw [eq94_L0]
        exact Br_f (by omega) ⟨(b, p + 1, v), sc, Br_f c0 (Br_t c1 hF)⟩
      · refine ⟨l, p + 1, by omega, by omega, by omega, ?_⟩
        refine FL_of1 ?_
        rw [eq94_L0]
        exact Br_f (by omega) ⟨(b, p + 1, v), sc, Br_f c0 (Br_f c1 ⟨rfl, rfl⟩)⟩
  | n + 1, i, p, l, h0, h1, hl, h => by
    obtain ⟨v, v0, v1, sc⟩ := c93 b p 8 hb h0 (by omega) (by omega)
    by_cases c0 : 0 < v
    · obtain ⟨v', w0, w1, sc'⟩ := c93 b (p + 1) 9 hb (by omega) (by omega) (by omega)
      obtain ⟨l', p', e1, e2, e3, hF⟩ := l94_0 b hb n (i + 1) (p + 1 + 1) (l ++ [(i, IntKind.wrap .i64 (1 + Int.tmod i 4), IntKind.wrap .i64 (1 + v'))]) (by omega) (by omega) (by simp; omega) (by omega)
      refine ⟨l', p', e1, e2, by omega, ?_⟩
      refine FL_of1 ?_
      rw [eq94_L0, wrap64 (n := i + 1) (by omega) (by omega)]
      exact Br_t (by omega) ⟨(b, p + 1, v), sc, Br_t c0 ⟨(b, p + 1 + 1, v'), sc', Ck_room (by omega) hF⟩⟩
    · obtain ⟨l', p', e1, e2, e3, hF⟩ := l94_0 b hb n (i + 1) (p + 1) l (by omega) (by omega) (by omega) (by omega)
      refine ⟨l', p', e1, e2, by omega, ?_⟩
      refine FL_of1 ?_
      rw [eq94_L0, wrap64 (n := i + 1) (by omega) (by omega)]
      exact Br_t (by omega) ⟨(b, p + 1, v), sc, Br_f c0 hF⟩
theorem c94 (b : List Int) (p : Int) (hb : RdB b) (h0 : 0 ≤ p) (h1 : p ≤ 500) : ∃ l p', l.length ≤ 13 ∧ 0 ≤ p' ∧ p' ≤ p + 60 ∧
    SC P 94 [.one (.ptr 0 0 0)] [.box [.ro (.int .u8) b, .int .i64 p]] [.one (.sl 1 none)] [.box [.ro (.int .u8) b, .int .i64 p'], .row (.pair (.int .i64) (.pair (.int .i64) (.int .i64))) l .own] := by
  obtain ⟨l', p', e1, e2, e3, hF⟩ := l94_0 b hb 12 1 p [] h0 (by omega) (by simp) (by omega)
  refine ⟨l', p', e1, e2, by omega, ?_⟩
  refine SC_of_FB (H := H94) E_ok Try.func94 (by kernel_rfl) ?_
  rw [eq94]
  exact hF
/-! loop.example/keelson/spec.DrawHouseScore -/
def H33 : Hint := ⟨[], [], [], [], [], []⟩
theorem eq33 (code : List Int) (r : List W) (lh : Heap) : FB E H33 Try.f33 [.one (.ro (.int .u8) code)] [] r lh =
  (
   ∃ r0 : (List Int × Int), SC P 92 [.one (.ro (.int .u8) code)] [] [.one (.ptr 0 0 0)] [.box [.ro (.int .u8) r0.1, .int .i64 r0.2]] ∧
    ∃ r1 : List Int × Int × Int, SC P 93 [.one (.ptr 0 0 0), .one (.int .i64 104)] [.box [.ro (.int .u8) r0.1, .int .i64 r0.2]] [.one (.int .i64 r1.2.2)] [.box [.ro (.int .u8) r1.1, .int .i64 r1.2.1]] ∧
     ∃ r2 : List Int × Int × Int, SC P 93 [.one (.ptr 0 0 0), .one (.int .i64 12)] [.box [.ro (.int .u8) r1.1, .int .i64 r1.2.1]] [.one (.int .i64 r2.2.2)] [.box [.ro (.int .u8) r2.1, .int .i64 r2.2.1]] ∧
      ∃ r3 : List Int × Int × Int, SC P 93 [.one (.ptr 0 0 0), .one (.int .i64 4)] [.box [.ro (.int .u8) r2.1, .int .i64 r2.2.1]] [.one (.int .i64 r3.2.2)] [.box [.ro (.int .u8) r3.1, .int .i64 r3.2.1]] ∧
       ∃ r4 : List Int × Int × Int, SC P 93 [.one (.ptr 0 0 0), .one (.int .i64 10)] [.box [.ro (.int .u8) r3.1, .int .i64 r3.2.1]] [.one (.int .i64 r4.2.2)] [.box [.ro (.int .u8) r4.1, .int .i64 r4.2.1]] ∧
        Ret r lh [.one (.int .i64 (IntKind.wrap .i64 (r1.2.2 - 2))), .agg [.int .i64 (IntKind.wrap .i64 (1 + r2.2.2)), .int .i64 (IntKind.wrap .i64 (1 + r3.2.2)), .int .i64 (IntKind.wrap .i64 (1 + r4.2.2))]] []) := by kernel_rfl
theorem c33 (code : List Int) (hc : Bytes code) : ∃ (name : Int) (h : House), (1 ≤ h.2.1 ∧ h.2.1 ≤ 4) ∧ SC P 33 [.one (.ro (.int .u8) code)] [] [.one (.int .i64 name), .agg [.int .i64 h.1, .int .i64 h.2.1, .int .i64 h.2.2]] [] := by
  obtain ⟨b, hb, s0⟩ := c92 code hc
  obtain ⟨v1, a1, b1, s1⟩ := c93 b 0 104 hb (by omega) (by omega) (by omega)
  obtain ⟨v2, a2, b2, s2⟩ := c93 b (0 + 1) 12 hb (by omega) (by omega) (by omega)
  obtain ⟨v3, a3, b3, s3⟩ := c93 b (0 + 1 + 1) 4 hb (by omega) (by omega) (by omega)
  obtain ⟨v4, a4, b4, s4⟩ := c93 b (0 + 1 + 1 + 1) 10 hb (by omega) (by omega) (by omega)
  refine ⟨IntKind.wrap .i64 (v1 - 2), (IntKind.wrap .i64 (1 + v2), IntKind.wrap .i64 (1 + v3), IntKind.wrap .i64 (1 + v4)), ?_, ?_⟩
  · dsimp only
    rw [wrap64 (by omega) (by omega)]
    omega
  refine SC_of_FB (H := H33) E_ok Try.func33 (by kernel_rfl) ?_
  rw [eq33]
  exact ⟨(b, 0), s0, (b, 0 + 1, v1), s1, (b, 0 + 1 + 1, v2), s2, (b, 0 + 1 + 1 + 1, v3), s3, (b, 0 + 1 + 1 + 1 + 1, v4), s4, rfl, rfl⟩
/-! loop.example/keelson/spec.DrawHousesOk -/
def H34 : Hint := ⟨[], [], [], [], [], []⟩
theorem eq34 (code : List Int) (r : List W) (lh : Heap) : FB E H34 Try.f34 [.one (.ro (.int .u8) code)] [] r lh =
  (
   ∃ r0 : (List Int × Int), SC P 92 [.one (.ro (.int .u8) code)] [] [.one (.ptr 0 0 0)] [.box [.ro (.int .u8) r0.1, .int .i64 r0.2]] ∧
    ∃ r1 : List Int × Int × List (Int × (Int × Int)), SC P 94 [.one (.ptr 0 0 0)] [.box [.ro (.int .u8) r0.1, .int .i64 r0.2]] [.one (.sl 1 none)] [.box [.ro (.int .u8) r1.1, .int .i64 r1.2.1], .row (.pair (.int .i64) (.pair (.int .i64) (.int .i64))) r1.2.2 .own] ∧
     ∃ r2 : List Int × Int × Int, SC P 93 [.one (.ptr 0 0 0), .one (.int .i64 4)] [.box [.ro (.int .u8) r1.1, .int .i64 r1.2.1]] [.one (.int .i64 r2.2.2)] [.box [.ro (.int .u8) r2.1, .int .i64 r2.2.1]] ∧
      Br (decide (r2.2.2 = (0 : Int))) (
       ∃ r3 : List Int × Int × Int, SC P 93 [.one (.ptr 0 0 0), .one (.int .i64 4)] [.box [.ro (.int .u8) r2.1, .int .i64 r2.2.1]] [.one (.int .i64 r3.2.2)] [.box [.ro (.int .u8) r3.1, .int .i64 r3.2.1]] ∧
        ∃ r4 : List Int × Int × Int, SC P 93 [.one (.ptr 0 0 0), .one (.int .i64 6)] [.box [.ro (.int .u8) r3.1, .int .i64 r3.2.1]] [.one (.int .i64 r4.2.2)] [.box [.ro (.int .u8) r4.1, .int .i64 r4.2.1]] ∧
         ∃ r5 : List Int × Int × Int, SC P 93 [.one (.ptr 0 0 0), .one (.int .i64 11)] [.box [.ro (.int .u8) r4.1, .int .i64 r4.2.1]] [.one (.int .i64 r5.2.2)] [.box [.ro (.int .u8) r5.1, .int .i64 r5.2.1]] ∧
          Ck (Nat.ble ((r1.2.2.length + 1) * 24) roomy) (
           Ret r lh [.one (.sl 0 none)] [.row (.pair (.int .i64) (.pair (.int .i64) (.int .i64))) (r1.2.2 ++ [((IntKind.wrap .i64 (10 + r3.2.2)), (r4.2.2, r5.2.2))]) .own])) (
       Ret r lh [.one (.sl 0 none)] [.row (.pair (.int .i64) (.pair (.int .i64) (.int .i64))) r1.2.2 .own])) := by kernel_rfl
theorem c34 (code : List Int) (hc : Bytes code) : ∃ l : List House, l.length ≤ 14 ∧ SC P 34 [.one (.ro (.int .u8) code)] [] [.one (.sl 0 none)] [.row (.pair (.int .i64) (.pair (.int .i64) (.int .i64))) l .own] := by
  obtain ⟨b, hb, s0⟩ := c92 code hc
  obtain ⟨l, p, hl, p0, p1, s1⟩ := c94 b 0 hb (by omega) (by omega)
  obtain ⟨v2, a2, b2, s2⟩ := c93 b p 4 hb p0 (by omega) (by omega)
  by_cases c0 : v2 = 0
  · obtain ⟨v3, a3, b3, s3⟩ := c93 b (p + 1) 4 hb (by omega) (by omega) (by omega)
    obtain ⟨v4, a4, b4, s4⟩ := c93 b (p + 1 + 1) 6 hb (by omega) (by omega) (by omega)
    obtain ⟨v5, a5, b5, s5⟩ := c93 b (p + 1 + 1 + 1) 11 hb (by omega) (by omega) (by omega)
    refine ⟨l ++ [(IntKind.wrap .i64 (10 + v3), v4, v5)], by simp; omega, ?_⟩
    refine SC_of_FB (H := H34) E_ok Try.func34 (by kernel_rfl) ?_
    rw [eq34]
    exact ⟨(b, 0), s0, (b, p, l), s1, (b, p + 1, v2), s2, Br_t c0 ⟨(b, p + 1 + 1, v3), s3, (b, p + 1 + 1 + 1, v4), s4, (b, p + 1 + 1 + 1 + 1, v5), s5, Ck_room (show (l.length + 1) * 24 ≤ _ by omega) ⟨rfl, rfl⟩⟩⟩
  · refine ⟨l, by omega, ?_⟩
    refine SC_of_FB (H := H34) E_ok Try.func34 (by kernel_rfl) ?_
    rw [eq34]
    exact ⟨(b, 0), s0, (b, p, l), s1, (b, p + 1, v2), s2, Br_f c0 ⟨rfl, rfl⟩⟩
/-! loop.example/keelson/spec.DrawHouseRack -/
def H40 : Hint := ⟨[], [], [], [], [], []⟩
theorem eq40 (code : List Int) (r : List W) (lh : Heap) : FB E H40 Try.f40 [.one (.ro (.int .u8) code)] [] r lh =
  (
   ∃ r0 : (List Int × Int), SC P 92 [.one (.ro (.int .u8) code)] [] [.one (.ptr 0 0 0)] [.box [.ro (.int .u8) r0.1, .int .i64 r0.2]] ∧
    ∃ r1 : List Int × Int × List (Int × (Int × Int)), SC P 94 [.one (.ptr 0 0 0)] [.box [.ro (.int .u8) r0.1, .int .i64 r0.2]] [.one (.sl 1 none)] [.box [.ro (.int .u8) r1.1, .int .i64 r1.2.1], .row (.pair (.int .i64) (.pair (.int .i64) (.int .i64))) r1.2.2 .own] ∧
     ∃ r2 : List Int × Int × Int, SC P 93 [.one (.ptr 0 0 0), .one (.int .i64 14)] [.box [.ro (.int .u8) r1.1, .int .i64 r1.2.1]] [.one (.int .i64 r2.2.2)] [.box [.ro (.int .u8) r2.1, .int .i64 r2.2.1]] ∧
      Ret r lh [.one (.sl 0 none), .one (.int .i64 r2.2.2)] [.row (.pair (.int .i64) (.pair (.int .i64) (.int .i64))) r1.2.2 .own]) := by kernel_rfl
theorem c40 (code : List Int) (hc : Bytes code) : ∃ (l : List House) (id : Int), l.length ≤ 13 ∧ SC P 40 [.one (.ro (.int .u8) code)] [] [.one (.sl 0 none), .one (.int .i64 id)] [.row (.pair (.int .i64) (.pair (.int .i64) (.int .i64))) l .own] := by
  obtain ⟨b, hb, s0⟩ := c92 code hc
  obtain ⟨l, p, hl, p0, p1, s1⟩ := c94 b 0 hb (by omega) (by omega)
  obtain ⟨v2, a2, b2, s2⟩ := c93 b p 14 hb p0 (by omega) (by omega)
  refine ⟨l, v2, hl, ?_⟩
  refine SC_of_FB (H := H40) E_ok Try.func40 (by kernel_rfl) ?_
  rw [eq40]
  exact ⟨(b, 0), s0, (b, p, l), s1, (b, p + 1, v2), s2, rfl, rfl⟩
/-! loop.example/keelson/laws.FnScore -/
def H5 : Hint := ⟨[], [], [(11, [0, 1, 2, 3, 4, 5, 6, 7, 8, 9, 10, 12, 11, 13, 14, 15])], [], [], []⟩
theorem eq5 (code : List Int) (r : List W) (lh : Heap) : FB E H5 Try.f5 [.one (.ro (.int .u8) code)] [] r lh =
  (
   Br (decide ((1048576 : Int) < ((code.length : Nat) : Int))) (
    Ret r lh [.one (.bool true)] []) (
    ∃ r0 : Int × Int × Int × Int, SC P 33 [.one (.ro (.int .u8) code)] [] [.one (.int .i64 r0.1), .agg [.int .i64 r0.2.1, .int .i64 r0.2.2.1, .int .i64 r0.2.2.2]] [] ∧
     ∃ r1 : Int, SC P 32 [.one (.int .i64 r0.1), .agg [.int .i64 r0.2.1, .int .i64 r0.2.2.1, .int .i64 r0.2.2.2]] [] [.one (.int .i64 r1)] [] ∧
      ∃ r2 : Int, SC P 30 [.one (.int .i64 r0.1), .agg [.int .i64 r0.2.1, .int .i64 r0.2.2.1, .int .i64 r0.2.2.2]] [] [.one (.int .i64 r2)] [] ∧
       Br (!(decide (r1 = r2))) (
        ∃ r3 : Int, SC P 30 [.one (.int .i64 r0.1), .agg [.int .i64 r0.2.1, .int .i64 r0.2.2.1, .int .i64 r0.2.2.2]] [] [.one (.int .i64 r3)] [] ∧
         Ret r lh [.one (.bool (decide (r1 = r3)))] []) (
        Br (decide (r1 < (0 : Int))) (
         ∃ r4 : Int, SC P 30 [.one (.int .i64 r0.1), .agg [.int .i64 r0.2.1, .int .i64 r0.2.2.1, .int .i64 r0.2.2.2]] [] [.one (.int .i64 r4)] [] ∧
          Ret r lh [.one (.bool (decide (r1 = r4)))] []) (
         ∃ r5 : Int, SC P 32 [.one (.int .i64 r0.1), .agg [.int .i64 r0.2.1, .int .i64 r0.2.2.1, .int .i64 1]] [] [.one (.int .i64 r5)] [] ∧
          Br (decide (r1 = (IntKind.wrap .i64 (r0.2.2.2 * r5)))) (
           ∃ r6 : Int, SC P 32 [.one (.int .i64 r0.1), .agg [.int .i64 r0.2.1, .int .i64 (IntKind.wrap .i64 ((Int.tmod r0.2.2.1 4) + 1)), .int .i64 r0.2.2.2]] [] [.one (.int .i64 r6)] [] ∧
            Ret r lh [.one (.bool (decide (r6 = r1)))] []) (
           Ret r lh [.one (.bool false)] []))))) := by kernel_rfl
theorem scoreF_weight {name : Int} {h : House} : scoreF name h = h.2.2 * scoreF name (h.1, h.2.1, 1) := by
  simp only [scoreF, Int.mul_one]
  exact Int.mul_comm _ _
theorem c5 (code : List Int) (hc : Bytes code) : SC P 5 [.one (.ro (.int .u8) code)] [] [.one (.bool true)] [] := by
  refine SC_of_FB (H := H5) E_ok Try.func5 (by kernel_rfl) ?_
  rw [eq5]
  refine Br_d (fun _ => ⟨rfl, rfl⟩) (fun _ => ?_)
  obtain ⟨name, h, hr, s0⟩ := c33 code hc
  refine ⟨(name, h), s0, _, c32 name h, _, c30 name h, Br_nd (fun e => absurd rfl e) (fun _ => Br_d (fun _ => ⟨_, c30 name h, by simp, rfl⟩) (fun hn => ?_))⟩
  have hok : inB name 0 99 = true ∧ houseOk h = true := by
    rw [houseScore] at hn
    cases h1 : inB name 0 99 <;> cases h2 : houseOk h <;> simp_all
  obtain ⟨h1, h2⟩ := hok
  have e0 : houseScore name h = scoreF name h := by rw [houseScore, h1, h2]; rfl
  have h3 : houseOk (h.1, h.2.1, 1) = true := by rw [houseOk_iff] at h2 ⊢; dsimp only; omega
  have e1 : houseScore name (h.1, h.2.1, 1) = scoreF name (h.1, h.2.1, 1) := by rw [houseScore, h1, h3]; rfl
  have hw : (Int.tmod h.2.1 4) + 1 = h.2.1 % 4 + 1 := by rw [Int.tmod_eq_emod_of_nonneg (by omega)]
  have h4 : houseOk (h.1, IntKind.wrap .i64 ((Int.tmod h.2.1 4) + 1), h.2.2) = true := by
    rw [hw, wrap64 (by omega) (by omega)]
    rw [houseOk_iff] at h2 ⊢; dsimp only; omega
  have e2 : houseScore name (h.1, IntKind.wrap .i64 ((Int.tmod h.2.1 4) + 1), h.2.2) = scoreF name h := by rw [houseScore, h1, h4]; rfl
  refine ⟨_, c32 name (h.1, h.2.1, 1), Br_t ?_ ⟨_, c32 name (h.1, IntKind.wrap .i64 ((Int.tmod h.2.1 4) + 1), h.2.2), ?_, rfl⟩⟩
  · dsimp only
    rw [e0, e1, ← scoreF_weight]
    have := scoreF_nonneg (name := name) h2
    rw [wrap64 (by omega) (by omega)]
  · rw [e0, e2, decide_eq_true rfl]
/-! loop.example/keelson/laws.FnHouseRack -/
def H8 : Hint := ⟨[[(3, 0, .bool), (4, 0, .bool), (5, 0, .bool), (6, 0, .bool)]], [], [], [], [], []⟩
def S8_L0 (id4 : Int) (r5 : Int) (i6 : Int) (h0 : List (Int × (Int × Int))) : St := ⟨[(3, .w (.one (.sl 0 none))), (4, .w (.one (.int .i64 id4))), (5, .w (.one (.int .i64 r5))), (6, .w (.one (.int .i64 i6)))], [.row (.pair (.int .i64) (.pair (.int .i64) (.int .i64))) h0 .own]⟩
theorem eq8 (code : List Int) (r : List W) (lh : Heap) : FB E H8 Try.f8 [.one (.ro (.int .u8) code)] [] r lh =
  (
   Br (decide ((1048576 : Int) < ((code.length : Nat) : Int))) (
    Ret r lh [.one (.bool true)] []) (
    ∃ r0 : List (Int × (Int × Int)) × Int, SC P 40 [.one (.ro (.int .u8) code)] [] [.one (.sl 0 none), .one (.int .i64 r0.2)] [.row (.pair (.int .i64) (.pair (.int .i64) (.int .i64))) r0.1 .own] ∧
     ∃ r1 : Int, SC P 41 [.one (.ro (.pair (.int .i64) (.pair (.int .i64) (.int .i64))) r0.1), .one (.int .i64 r0.2)] [] [.one (.int .i64 r1)] [] ∧
      ∃ r2 : Int, SC P 42 [.one (.ro (.pair (.int .i64) (.pair (.int .i64) (.int .i64))) r0.1), .one (.int .i64 r0.2)] [] [.one (.int .i64 r2)] [] ∧
       Br (!(decide (r1 = r2))) (
        ∃ r3 : Int, SC P 42 [.one (.ro (.pair (.int .i64) (.pair (.int .i64) (.int .i64))) r0.1), .one (.int .i64 r0.2)] [] [.one (.int .i64 r3)] [] ∧
         Ret r lh [.one (.bool (decide (r1 = r3)))] []) (
        ∃ r4 : Bool, SC P 36 [.one (.ro (.pair (.int .i64) (.pair (.int .i64) (.int .i64))) r0.1)] [] [.one (.bool r4)] [] ∧
         Br (!r4) (
          ∃ r5 : Int, SC P 42 [.one (.ro (.pair (.int .i64) (.pair (.int .i64) (.int .i64))) r0.1), .one (.int .i64 r0.2)] [] [.one (.int .i64 r5)] [] ∧
           Ret r lh [.one (.bool (decide (r1 = r5)))] []) (
          FL E H8 Try.f8 0 r lh 0 (S8_L0 r0.2 r1 0 r0.1))))) := by kernel_rfl
theorem eq8_L0 (id4 : Int) (r5 : Int) (i6 : Int) (h0 : List (Int × (Int × Int))) (r : List W) (lh : Heap) : FL1 E H8 Try.f8 0 r lh 0 (S8_L0 id4 r5 i6 h0) =
  (
   Br (decide (i6 < ((h0.length : Nat) : Int))) (
    Ck (decide ((0 : Int) ≤ i6)) (
     Ck (decide (i6 < ((h0.length : Nat) : Int))) (
      Ck (Nat.blt i6.toNat h0.length) (
       Br (decide ((h0.getD i6.toNat (0, (0, 0))).1 = id4)) (
        Ck (decide ((0 : Int) ≤ i6)) (
         Ck (decide (i6 < ((h0.length : Nat) : Int))) (
          Ck (Nat.blt i6.toNat h0.length) (
           Ret r lh [.one (.bool (decide (r5 = ((h0.getD i6.toNat (0, (0, 0))).2).1)))] [])))) (
        FL E H8 Try.f8 0 r lh 0 (S8_L0 id4 r5 (IntKind.wrap .i64 (i6 + 1)) h0)))))) (
    Ret r lh [.one (.bool (decide (r5 = (0 : Int))))] [])) := by kernel_rfl
theorem l8 (l : List House) (id r : Int) (hl : l.length ≤ 1048576) : ∀ (n i : Nat), i + n = l.length → r = findR (fun j => decide ((l.getD j (0, 0, 0)).1 = id)) (fun j => (l.getD j (0, 0, 0)).2.1) 0 i n → FL E H8 Try.f8 0 [.one (.bool true)] [] 0 (S8_L0 id r (i : Int) l)
  | 0, i, h, hr => by
    refine FL_of1 ?_
    rw [eq8_L0]
    have hr : r = 0 := hr
    exact Br_f (by omega) ⟨by rw [decide_eq_true hr], rfl⟩
  | n + 1, i, h, hr => by
    refine FL_of1 ?_
    rw [eq8_L0, wS (by omega)]
    simp only [Int.toNat_natCast]
    rw [findR] at hr
    refine Br_t (by omega) (Ck_d (by omega) (Ck_d (by omega) (Ck_lt (by omega) (Br_d (fun h1 => ?_) (fun h1 => ?_)))))
    · rw [decide_eq_true h1, cond_true] at hr
      exact Ck_d (by omega) (Ck_d (by omega) (Ck_lt (by omega) ⟨by rw [decide_eq_true hr], rfl⟩))
    · rw [decide_eq_false h1, cond_false] at hr
      exact l8 l id r hl n (i + 1) (by omega) hr
theorem c8 (code : List Int) (hc : Bytes code) : SC P 8 [.one (.ro (.int .u8) code)] [] [.one (.bool true)] [] := by
  refine SC_of_FB (H := H8) E_ok Try.func8 (by kernel_rfl) ?_
  rw [eq8]
  refine Br_d (fun _ => ⟨rfl, rfl⟩) (fun _ => ?_)
  obtain ⟨l, id, hl, s0⟩ := c40 code hc
  have hl' : l.length ≤ 1048576 := by omega
  refine ⟨(l, id), s0, _, c41 l id hl', _, c42 l id hl', Br_nd (fun e => absurd rfl e) (fun _ => ⟨_, c36 l hl', Br_nb (fun e => ⟨_, c42 l id hl', by simp, rfl⟩) (fun e => ?_)⟩)⟩
  refine l8 l id _ hl' l.length 0 (by omega) ?_
  rw [houseRack_findR, houseRackOk, e, cond_true]
end Go.Proofs.Ytiagcjjobfoflaa.Sh
