/- Houses and placements: contracts. -/
import Derived.Test.YtlebgbcoljnejaaShD1
import Derived.Test.YtlebgbcoljnejaaMaRank
import Derived.Test.YtlebgbcoljnejaaMaDel
import Derived.Test.YtlebgbcoljnejaaMaPlace
import Derived.Test.YtlebgbcoljnejaaMaHouse
import Derived.Test.YtlebgbcoljnejaaShOpen
namespace Go.Proofs.Ytlebgbcoljnejaa.Sh
open Go
set_option linter.unusedVariables false
set_option linter.unusedSimpArgs false
/-! loop.example/keelson/spec.l31House -/
def H155 : Hint := ⟨[], [], [], [], [], [], []⟩
theorem eq155 (h0 : (Int × (Int × Int))) (r : List W) (lh : Heap) : FB E H155 Try.f155 [.agg [.int .i64 h0.1, .int .i64 h0.2.1, .int .i64 h0.2.2]] [] r lh =
  (
   ∃ r0 : Bool, SC P 109 [.one (.int .i64 h0.1), .one (.int .i64 1), .one (.int .i64 12)] [] [.one (.bool r0)] [] ∧
    Br r0 (
     ∃ r1 : Bool, SC P 109 [.one (.int .i64 h0.2.1), .one (.int .i64 1), .one (.int .i64 4)] [] [.one (.bool r1)] [] ∧
      Br r1 (
       ∃ r2 : Bool, SC P 109 [.one (.int .i64 h0.2.2), .one (.int .i64 1), .one (.int .i64 9)] [] [.one (.bool r2)] [] ∧
        Ret r lh [.one (.bool r2)] []) (
       Ret r lh [.one (.bool false)] [])) (
     Ret r lh [.one (.bool false)] [])) := by kernel_rfl
theorem c155 (h : House) : SC P 155 [.agg [.int .i64 h.1, .int .i64 h.2.1, .int .i64 h.2.2]] [] [.one (.bool (houseOk h))] [] := by
  refine SC_of_FB (H := H155) E_ok Try.func155 (by kernel_rfl) ?_
  rw [eq155]
  exact ⟨_, c109 _ _ _, Br_b (fun e => ⟨_, c109 _ _ _, Br_b (fun e' => ⟨_, c109 _ _ _, by simp [houseOk, e, e'], rfl⟩) (fun e' => ⟨by simp [houseOk, e, e'], rfl⟩)⟩) (fun e => ⟨by simp [houseOk, e], rfl⟩)⟩

def scoreF (name : Int) (h : House) : Int := (37 * name + 61 * h.1 + 13 * (name * h.1) + 7) % 101 * h.2.2
theorem score_bounds {name : Int} {h : House} (hn : inB name 0 99 = true) (hh : houseOk h = true) : 0 ≤ name * h.1 ∧ name * h.1 ≤ 1188 := by
  rw [inB_iff] at hn
  rw [houseOk_iff] at hh
  have h1 := Int.mul_nonneg hn.1 (show (0 : Int) ≤ h.1 by omega)
  have h2 := Int.mul_le_mul hn.2 hh.1.2 (show (0 : Int) ≤ h.1 by omega) (by omega)
  omega
theorem score_small {t w : Int} (h1 : 0 ≤ t) (h2 : t < 101) (h3 : 1 ≤ w) (h4 : w ≤ 9) : 0 ≤ t * w ∧ t * w ≤ 900 := by
  have g1 := Int.mul_nonneg h1 (show (0 : Int) ≤ w by omega)
  have g2 := Int.mul_le_mul (show t ≤ 100 by omega) h4 (show (0 : Int) ≤ w by omega) (by omega)
  omega
theorem scoreF_nonneg {name : Int} {h : House} (hh : houseOk h = true) : 0 ≤ scoreF name h ∧ scoreF name h ≤ 900 := by
  rw [houseOk_iff] at hh
  exact score_small (Int.emod_nonneg _ (by omega)) (Int.emod_lt_of_pos _ (by omega)) hh.2.2.1 hh.2.2.2
def houseScore (name : Int) (h : House) : Int := bif inB name 0 99 && houseOk h then scoreF name h else -1

/-! loop.example/keelson/spec.l31Score -/
def H156 : Hint := ⟨[], [], [], [], [], [], []⟩
theorem eq156 (name : Int) (h0 : (Int × (Int × Int))) (r : List W) (lh : Heap) : FB E H156 Try.f156 [.one (.int .i64 name), .agg [.int .i64 h0.1, .int .i64 h0.2.1, .int .i64 h0.2.2]] [] r lh =
  (
   Ret r lh [.one (.int .i64 (IntKind.wrap .i64 ((Int.tmod (IntKind.wrap .i64 ((IntKind.wrap .i64 ((IntKind.wrap .i64 ((IntKind.wrap .i64 (name * 37)) + (IntKind.wrap .i64 (h0.1 * 61)))) + (IntKind.wrap .i64 ((IntKind.wrap .i64 (name * h0.1)) * 13)))) + 7)) 101) * h0.2.2)))] []) := by kernel_rfl
theorem c156 (name : Int) (h : House) (hn : inB name 0 99 = true) (hh : houseOk h = true) : SC P 156 [.one (.int .i64 name), .agg [.int .i64 h.1, .int .i64 h.2.1, .int .i64 h.2.2]] [] [.one (.int .i64 (scoreF name h))] [] := by
  refine SC_of_FB (H := H156) E_ok Try.func156 (by kernel_rfl) ?_
  rw [eq156]
  refine ⟨?_, rfl⟩
  have hb := score_bounds hn hh
  have hsc := scoreF_nonneg (name := name) hh
  unfold scoreF at hsc ⊢
  rw [inB_iff] at hn
  rw [houseOk_iff] at hh
  generalize name * h.1 = m at hb hsc ⊢
  rw [wrap64 (n := m) (by omega) (by omega), wrap64 (n := name * 37) (by omega) (by omega), wrap64 (n := h.1 * 61) (by omega) (by omega), wrap64 (n := m * 13) (by omega) (by omega), wrap64 (n := name * 37 + h.1 * 61) (by omega) (by omega),
    wrap64 (n := name * 37 + h.1 * 61 + m * 13) (by omega) (by omega), wrap64 (n := name * 37 + h.1 * 61 + m * 13 + 7) (by omega) (by omega), Int.tmod_eq_emod_of_nonneg (by omega)]
  have e : name * 37 + h.1 * 61 + m * 13 + 7 = 37 * name + 61 * h.1 + 13 * m + 7 := by omega
  rw [e, wrap64 (by omega) (by omega)]

/-! loop.example/keelson/spec.HousesOk -/
def H141 : Hint := ⟨[[(0, 0, .bool), (3, 0, .bool)]], [], [(4, [0, 1, 2, 3, 4, 5, 6, 7, 8, 9, 10, 11, 12, 13, 14, 15, 16, 17, 18, 19, 20, 21, 22, 23])], [], [], [], []⟩
def S141_L0 (l0 : List (Int × (Int × Int))) (i3 : Int) : St := ⟨[(0, .w (.one (.ro (.pair (.int .i64) (.pair (.int .i64) (.int .i64))) l0))), (3, .w (.one (.int .i64 i3)))], []⟩
theorem eq141 (l : List (Int × (Int × Int))) (r : List W) (lh : Heap) : FB E H141 Try.f141 [.one (.ro (.pair (.int .i64) (.pair (.int .i64) (.int .i64))) l)] [] r lh =
  (
   FL E H141 Try.f141 0 r lh 0 (S141_L0 l 0)) := by kernel_rfl
theorem eq141_L0 (l0 : List (Int × (Int × Int))) (i3 : Int) (r : List W) (lh : Heap) : FL1 E H141 Try.f141 0 r lh 0 (S141_L0 l0 i3) =
  (
   Br (decide (i3 < ((l0.length : Nat) : Int))) (
    Ck (decide ((0 : Int) ≤ i3)) (
     Ck (decide (i3 < ((l0.length : Nat) : Int))) (
      ∃ r0 : Bool, SC P 155 [.agg [.int .i64 ((l0.getD i3.toNat (0, (0, 0))).1), .int .i64 (((l0.getD i3.toNat (0, (0, 0))).2).1), .int .i64 (((l0.getD i3.toNat (0, (0, 0))).2).2)]] [] [.one (.bool r0)] [] ∧
       Br (!r0) (
        Ret r lh [.one (.bool false)] []) (
        Br (decide ((0 : Int) < i3)) (
         Ck (decide ((0 : Int) ≤ (IntKind.wrap .i64 (i3 - 1)))) (
          Ck (decide ((IntKind.wrap .i64 (i3 - 1)) < ((l0.length : Nat) : Int))) (
           Ck (decide ((0 : Int) ≤ i3)) (
            Ck (decide (i3 < ((l0.length : Nat) : Int))) (
             Br (decide ((l0.getD i3.toNat (0, (0, 0))).1 ≤ (l0.getD (IntKind.wrap .i64 (i3 - 1)).toNat (0, (0, 0))).1)) (
              Ret r lh [.one (.bool false)] []) (
              FL E H141 Try.f141 0 r lh 0 (S141_L0 l0 (IntKind.wrap .i64 (i3 + 1))))))))) (
         FL E H141 Try.f141 0 r lh 0 (S141_L0 l0 (IntKind.wrap .i64 (i3 + 1)))))))) (
    Ret r lh [.one (.bool true)] [])) := by kernel_rfl
theorem l141 (l : List House) (hl : l.length ≤ 1048576) : ∀ (n i : Nat), i + n = l.length → FL E H141 Try.f141 0 [.one (.bool (allR (houseAtOk l) i n))] [] 0 (S141_L0 l (i : Int))
  | 0, i, h => by
    refine FL_of1 ?_
    rw [eq141_L0]
    exact Br_f (by omega) ⟨rfl, rfl⟩
  | n + 1, i, h => by
    refine FL_of1 ?_
    rw [eq141_L0, wS (by omega)]
    simp only [Int.toNat_natCast]
    refine Br_t (by omega) (Ck_d (by omega) (Ck_d (by omega) ⟨_, c155 (hAt l i), Br_nb (fun h1 => ?_) (fun h1 => ?_)⟩))
    · exact ⟨by rw [allR_f (by rw [houseAtOk, h1, Bool.false_and])], rfl⟩
    · cases i with
      | zero =>
        refine Br_f (by omega) ?_
        rw [allR_t (by rw [houseAt_zero, h1])]
        exact l141 l hl n 1 (by omega)
      | succ i =>
        rw [wP (by omega)]
        simp only [Int.toNat_natCast]
        refine Br_t (by omega) (Ck_d (by omega) (Ck_d (by omega) (Ck_d (by omega) (Ck_d (by omega) (Br_d (fun h2 => ?_) (fun h2 => ?_))))))
        · exact ⟨by rw [allR_f (by rw [houseAt_succ, h1, Bool.true_and]; exact decide_eq_false (Int.not_lt.2 h2))], rfl⟩
        · rw [allR_t (by rw [houseAt_succ, h1, Bool.true_and]; exact decide_eq_true (Int.not_le.1 h2))]
          exact l141 l hl n (i + 2) (by omega)
theorem c141 (l : List House) (hl : l.length ≤ 1048576) : SC P 141 [.one (.ro (.pair (.int .i64) (.pair (.int .i64) (.int .i64))) l)] [] [.one (.bool (housesOk l))] [] := by
  refine SC_of_FB (H := H141) E_ok Try.func141 (by kernel_rfl) ?_
  rw [eq141]
  exact l141 l hl l.length 0 (by omega)

/-! loop.example/keelson/spec.l31Rack -/
def H143 : Hint := ⟨[[(0, 0, .bool), (1, 0, .bool), (5, 0, .bool)]], [], [], [], [], [], []⟩
def S143_L0 (l0 : List (Int × (Int × Int))) (id1 : Int) (i5 : Int) : St := ⟨[(0, .w (.one (.ro (.pair (.int .i64) (.pair (.int .i64) (.int .i64))) l0))), (1, .w (.one (.int .i64 id1))), (5, .w (.one (.int .i64 i5)))], []⟩
theorem eq143 (l : List (Int × (Int × Int))) (id : Int) (r : List W) (lh : Heap) : FB E H143 Try.f143 [.one (.ro (.pair (.int .i64) (.pair (.int .i64) (.int .i64))) l), .one (.int .i64 id)] [] r lh =
  (
   FL E H143 Try.f143 0 r lh 0 (S143_L0 l id 0)) := by kernel_rfl
theorem eq143_L0 (l0 : List (Int × (Int × Int))) (id1 : Int) (i5 : Int) (r : List W) (lh : Heap) : FL1 E H143 Try.f143 0 r lh 0 (S143_L0 l0 id1 i5) =
  (
   Br (decide (i5 < ((l0.length : Nat) : Int))) (
    Ck (decide ((0 : Int) ≤ i5)) (
     Ck (decide (i5 < ((l0.length : Nat) : Int))) (
      Br (decide ((l0.getD i5.toNat (0, (0, 0))).1 = id1)) (
       Ck (decide ((0 : Int) ≤ i5)) (
        Ck (decide (i5 < ((l0.length : Nat) : Int))) (
         Ret r lh [.one (.int .i64 (((l0.getD i5.toNat (0, (0, 0))).2).1))] []))) (
       FL E H143 Try.f143 0 r lh 0 (S143_L0 l0 id1 (IntKind.wrap .i64 (i5 + 1))))))) (
    Ret r lh [.one (.int .i64 0)] [])) := by kernel_rfl
theorem l143 (l : List House) (id : Int) (hl : l.length ≤ 1048576) : ∀ (n i : Nat), i + n = l.length → FL E H143 Try.f143 0 [.one (.int .i64 (findR (fun j => decide ((l.getD j (0, 0, 0)).1 = id)) (fun j => (l.getD j (0, 0, 0)).2.1) 0 i n))] [] 0 (S143_L0 l id (i : Int))
  | 0, i, h => by
    refine FL_of1 ?_
    rw [eq143_L0]
    exact Br_f (by omega) ⟨rfl, rfl⟩
  | n + 1, i, h => by
    refine FL_of1 ?_
    rw [eq143_L0, wS (by omega), findR]
    simp only [Int.toNat_natCast]
    refine Br_t (by omega) (Ck_d (by omega) (Ck_d (by omega) (Br_d (fun h1 => ?_) (fun h1 => ?_))))
    · exact Ck_d (by omega) (Ck_d (by omega) ⟨by rw [decide_eq_true h1, cond_true], rfl⟩)
    · rw [decide_eq_false h1, cond_false]
      exact l143 l id hl n (i + 1) (by omega)
theorem c143 (l : List House) (id : Int) (hl : l.length ≤ 1048576) : SC P 143 [.one (.ro (.pair (.int .i64) (.pair (.int .i64) (.int .i64))) l), .one (.int .i64 id)] [] [.one (.int .i64 (houseRack l id))] [] := by
  refine SC_of_FB (H := H143) E_ok Try.func143 (by kernel_rfl) ?_
  rw [eq143]
  have := l143 l id hl l.length 0 (by omega)
  rw [houseRack_findR] at this
  exact this
def houseRackOk (l : List House) (id : Int) : Int := bif housesOk l then houseRack l id else 0

/-! loop.example/keelson/spec.l92Houses -/
def H111 : Hint := ⟨[[(0, 0, .bool), (3, 0, .bool), (4, 0, .bool)], [(0, 0, .bool), (3, 0, .bool), (5, 0, .bool)]], [], [], [], [], [], []⟩
def S111_L0 (id4 : Int) (b0_0 : List Int) (b0_1 : Int) (h1 : List (Int × (Int × Int))) : St := ⟨[(0, .w (.one (.ptr 0 0 0))), (3, .w (.one (.sl 1 none))), (4, .w (.one (.int .i64 id4)))], [.box [.ro (.int .u8) b0_0, .int .i64 b0_1], .row (.pair (.int .i64) (.pair (.int .i64) (.int .i64))) h1 .own]⟩
def S111_L1 (i5 : Int) (b0_0 : List Int) (b0_1 : Int) (h1 : List (Int × (Int × Int))) : St := ⟨[(0, .w (.one (.ptr 0 0 0))), (3, .w (.one (.sl 1 none))), (5, .w (.one (.int .i64 i5)))], [.box [.ro (.int .u8) b0_0, .int .i64 b0_1], .row (.pair (.int .i64) (.pair (.int .i64) (.int .i64))) h1 .own]⟩
theorem eq111 (b : List Int) (p : Int) (r : List W) (lh : Heap) : FB E H111 Try.f111 [.one (.ptr 0 0 0)] [.box [.ro (.int .u8) b, .int .i64 p]] r lh =
  (
   FL E H111 Try.f111 1 r lh 0 (S111_L0 1 b p [])) := by kernel_rfl
theorem eq111_L0 (id4 : Int) (b0_0 : List Int) (b0_1 : Int) (h1 : List (Int × (Int × Int))) (r : List W) (lh : Heap) : FL1 E H111 Try.f111 1 r lh 0 (S111_L0 id4 b0_0 b0_1 h1) =
  (
   Br (decide (id4 ≤ (12 : Int))) (
    ∃ r0 : List Int × Int × Int, SC P 60 [.one (.ptr 0 0 0), .one (.int .i64 8)] [.box [.ro (.int .u8) b0_0, .int .i64 b0_1]] [.one (.int .i64 r0.2.2)] [.box [.ro (.int .u8) r0.1, .int .i64 r0.2.1]] ∧
     Br (decide ((0 : Int) < r0.2.2)) (
      ∃ r1 : List Int × Int × Int, SC P 60 [.one (.ptr 0 0 0), .one (.int .i64 9)] [.box [.ro (.int .u8) r0.1, .int .i64 r0.2.1]] [.one (.int .i64 r1.2.2)] [.box [.ro (.int .u8) r1.1, .int .i64 r1.2.1]] ∧
       Ck (Nat.ble ((h1.length + 1) * 24) roomy) (
        FL E H111 Try.f111 1 r lh 0 (S111_L0 (IntKind.wrap .i64 (id4 + 1)) r1.1 r1.2.1 (h1 ++ ([(id4, ((IntKind.wrap .i64 (1 + (Int.tmod id4 4))), (IntKind.wrap .i64 (1 + r1.2.2))))] : List (Int × (Int × Int))))))) (
      FL E H111 Try.f111 1 r lh 0 (S111_L0 (IntKind.wrap .i64 (id4 + 1)) r0.1 r0.2.1 h1))) (
    ∃ r2 : List Int × Int × Int, SC P 60 [.one (.ptr 0 0 0), .one (.int .i64 30)] [.box [.ro (.int .u8) b0_0, .int .i64 b0_1]] [.one (.int .i64 r2.2.2)] [.box [.ro (.int .u8) r2.1, .int .i64 r2.2.1]] ∧
     Br (decide (r2.2.2 = (0 : Int))) (
      ∃ r3 : List Int × Int × Int, SC P 60 [.one (.ptr 0 0 0), .one (.int .i64 14)] [.box [.ro (.int .u8) r2.1, .int .i64 r2.2.1]] [.one (.int .i64 r3.2.2)] [.box [.ro (.int .u8) r3.1, .int .i64 r3.2.1]] ∧
       Ck (Nat.ble ((h1.length + 1) * 24) roomy) (
        Ret r lh [.one (.sl 1 none)] [.box [.ro (.int .u8) r3.1, .int .i64 r3.2.1], .row (.pair (.int .i64) (.pair (.int .i64) (.int .i64))) (h1 ++ ([(r3.2.2, (1, 1))] : List (Int × (Int × Int)))) .own])) (
      Br (decide (r2.2.2 = (1 : Int))) (
       FL E H111 Try.f111 1 r lh 1 (S111_L1 0 r2.1 r2.2.1 h1)) (
       Ret r lh [.one (.sl 1 none)] [.box [.ro (.int .u8) r2.1, .int .i64 r2.2.1], .row (.pair (.int .i64) (.pair (.int .i64) (.int .i64))) h1 .own])))) := by kernel_rfl
theorem eq111_L1 (i5 : Int) (b0_0 : List Int) (b0_1 : Int) (h1 : List (Int × (Int × Int))) (r : List W) (lh : Heap) : FL1 E H111 Try.f111 1 r lh 1 (S111_L1 i5 b0_0 b0_1 h1) =
  (
   Br (decide (i5 < ((h1.length : Nat) : Int))) (
    ∃ r0 : List Int × Int × Int, SC P 60 [.one (.ptr 0 0 0), .one (.int .i64 2)] [.box [.ro (.int .u8) b0_0, .int .i64 b0_1]] [.one (.int .i64 r0.2.2)] [.box [.ro (.int .u8) r0.1, .int .i64 r0.2.1]] ∧
     Ck (decide ((0 : Int) ≤ i5)) (
      Ck (decide (i5 < ((h1.length : Nat) : Int))) (
       Ck (Nat.blt i5.toNat h1.length) (
        FL E H111 Try.f111 1 r lh 1 (S111_L1 (IntKind.wrap .i64 (i5 + 1)) r0.1 r0.2.1 (h1.set i5.toNat ((h1.getD i5.toNat (0, (0, 0))).1, ((IntKind.wrap .i64 (1 + r0.2.2)), ((h1.getD i5.toNat (0, (0, 0))).2).2)))))))) (
    Ret r lh [.one (.sl 1 none)] [.box [.ro (.int .u8) b0_0, .int .i64 b0_1], .row (.pair (.int .i64) (.pair (.int .i64) (.int .i64))) h1 .own])) := by kernel_rfl
theorem l111_1 (b : List Int) (hb : RdB b) : ∀ (n i : Nat) (p : Int) (l : List House), 0 ≤ p → p + n ≤ 100000 → l.length ≤ 1048576 → i + n = l.length → ∃ l' p', l'.length = l.length ∧ 0 ≤ p' ∧ p' ≤ p + n ∧
    FL E H111 Try.f111 1 [.one (.sl 1 none)] [.box [.ro (.int .u8) b, .int .i64 p'], .row (.pair (.int .i64) (.pair (.int .i64) (.int .i64))) l' .own] 1 (S111_L1 (i : Int) b p l)
  | 0, i, p, l, h0, h1, hl, h => ⟨l, p, rfl, h0, by omega, by
    refine FL_of1 ?_
    rw [eq111_L1]
    exact Br_f (by omega) ⟨rfl, rfl⟩⟩
  | n + 1, i, p, l, h0, h1, hl, h => by
    obtain ⟨v, v0, v1, sc⟩ := c60 b p 2 hb h0 (by omega) (by omega)
    obtain ⟨l', p', e1, e2, e3, hF⟩ := l111_1 b hb n (i + 1) (p + 1) (l.set i ((l.getD i (0, 0, 0)).1, (IntKind.wrap .i64 (1 + v), (l.getD i (0, 0, 0)).2.2))) (by omega) (by omega) (by rw [List.length_set]; exact hl) (by rw [List.length_set]; omega)
    refine ⟨l', p', by rw [e1, List.length_set], e2, by omega, ?_⟩
    refine FL_of1 ?_
    rw [eq111_L1, wS (by omega)]
    simp only [Int.toNat_natCast]
    exact Br_t (by omega) ⟨(b, p + 1, v), sc, Ck_d (by omega) (Ck_d (by omega) (Ck_lt (by omega) hF))⟩
theorem l111_0 (b : List Int) (hb : RdB b) : ∀ (n : Nat) (i p : Int) (l : List House), 0 ≤ p → p + 2 * n ≤ 1000 → l.length + n ≤ 12 → i + n = 13 → ∃ l' p', l'.length ≤ 13 ∧ 0 ≤ p' ∧ p' ≤ p + 2 * n + 30 ∧
    FL E H111 Try.f111 1 [.one (.sl 1 none)] [.box [.ro (.int .u8) b, .int .i64 p'], .row (.pair (.int .i64) (.pair (.int .i64) (.int .i64))) l' .own] 0 (S111_L0 i b p l)
  | 0, i, p, l, h0, h1, hl, h => by
    obtain ⟨v, v0, v1, sc⟩ := c60 b p 30 hb h0 (by omega) (by omega)
    by_cases c0 : v = 0
    · obtain ⟨v', w0, w1, sc'⟩ := c60 b (p + 1) 14 hb (by omega) (by omega) (by omega)
      refine ⟨l ++ [(v', 1, 1)], p + 1 + 1, by simp; omega, by omega, by omega, ?_⟩
      refine FL_of1 ?_
      rw [eq111_L0]
      exact Br_f (by omega) ⟨(b, p + 1, v), sc, Br_t c0 ⟨(b, p + 1 + 1, v'), sc', Ck_room (by omega) ⟨rfl, rfl⟩⟩⟩
    · by_cases c1 : v = 1
      · obtain ⟨l', p', e1, e2, e3, hF⟩ := l111_1 b hb l.length 0 (p + 1) l (by omega) (by omega) (by omega) (by omega)
        refine ⟨l', p', by omega, e2, by omega, ?_⟩
        refine FL_of1 ?_
        rw [eq111_L0]
        exact Br_f (by omega) ⟨(b, p + 1, v), sc, Br_f c0 (Br_t c1 hF)⟩
      · refine ⟨l, p + 1, by omega, by omega, by omega, ?_⟩
        refine FL_of1 ?_
        rw [eq111_L0]
        exact Br_f (by omega) ⟨(b, p + 1, v), sc, Br_f c0 (Br_f c1 ⟨rfl, rfl⟩)⟩
  | n + 1, i, p, l, h0, h1, hl, h => by
    obtain ⟨v, v0, v1, sc⟩ := c60 b p 8 hb h0 (by omega) (by omega)
    by_cases c0 : 0 < v
    · obtain ⟨v', w0, w1, sc'⟩ := c60 b (p + 1) 9 hb (by omega) (by omega) (by omega)
      obtain ⟨l', p', e1, e2, e3, hF⟩ := l111_0 b hb n (i + 1) (p + 1 + 1) (l ++ [(i, IntKind.wrap .i64 (1 + Int.tmod i 4), IntKind.wrap .i64 (1 + v'))]) (by omega) (by omega) (by simp; omega) (by omega)
      refine ⟨l', p', e1, e2, by omega, ?_⟩
      refine FL_of1 ?_
      rw [eq111_L0, wrap64 (n := i + 1) (by omega) (by omega)]
      exact Br_t (by omega) ⟨(b, p + 1, v), sc, Br_t c0 ⟨(b, p + 1 + 1, v'), sc', Ck_room (by omega) hF⟩⟩
    · obtain ⟨l', p', e1, e2, e3, hF⟩ := l111_0 b hb n (i + 1) (p + 1) l (by omega) (by omega) (by omega) (by omega)
      refine ⟨l', p', e1, e2, by omega, ?_⟩
      refine FL_of1 ?_
      rw [eq111_L0, wrap64 (n := i + 1) (by omega) (by omega)]
      exact Br_t (by omega) ⟨(b, p + 1, v), sc, Br_f c0 hF⟩
theorem c111 (b : List Int) (p : Int) (hb : RdB b) (h0 : 0 ≤ p) (h1 : p ≤ 500) : ∃ l p', l.length ≤ 13 ∧ 0 ≤ p' ∧ p' ≤ p + 60 ∧
    SC P 111 [.one (.ptr 0 0 0)] [.box [.ro (.int .u8) b, .int .i64 p]] [.one (.sl 1 none)] [.box [.ro (.int .u8) b, .int .i64 p'], .row (.pair (.int .i64) (.pair (.int .i64) (.int .i64))) l .own] := by
  obtain ⟨l', p', e1, e2, e3, hF⟩ := l111_0 b hb 12 1 p [] h0 (by omega) (by simp) (by omega)
  refine ⟨l', p', e1, e2, by omega, ?_⟩
  refine SC_of_FB (H := H111) E_ok Try.func111 (by kernel_rfl) ?_
  rw [eq111]
  exact hF

theorem scoreF_weight {name : Int} {h : House} : scoreF name h = h.2.2 * scoreF name (h.1, h.2.1, 1) := by
  simp only [scoreF, Int.mul_one]
  exact Int.mul_comm _ _

/-! loop.example/keelson/impl.placeOk -/
def H61 : Hint := ⟨[[(0, 0, .bool), (5, 0, .bool), (6, 0, .bool), (7, 0, .bool)]], [], [], [], [], [], []⟩
def S61_L0 (is0 : List Int) (x5 : List Int) (x6 : Int) (x7 : Int) : St := ⟨[(0, .w (.one (.ro (.int .i64) is0))), (5, .w (.one (.ro (.int .i64) x5))), (6, .w (.one (.int .i64 x6))), (7, .w (.one (.int .i64 x7)))], []⟩
theorem eq61 (is : List Int) (r : List W) (lh : Heap) : FB E H61 Try.f61 [.one (.ro (.int .i64) is)] [] r lh =
  (
   FL E H61 Try.f61 0 r lh 0 (S61_L0 is is ((is.length : Nat) : Int) 0)) := by kernel_rfl
theorem eq61_L0 (is0 : List Int) (x5 : List Int) (x6 : Int) (x7 : Int) (r : List W) (lh : Heap) : FL1 E H61 Try.f61 0 r lh 0 (S61_L0 is0 x5 x6 x7) =
  (
   Br (decide (x7 < x6)) (
    Ck (decide ((0 : Int) ≤ x7)) (
     Ck (decide (x7 < ((x5.length : Nat) : Int))) (
      ∃ r0 : Bool, SC P 114 [.one (.int .i64 (x5.getD x7.toNat 0)), .one (.int .i64 1), .one (.int .i64 12)] [] [.one (.bool r0)] [] ∧
       Br (!r0) (
        Ret r lh [.one (.bool false)] []) (
        Ck (decide ((0 : Int) ≤ x7)) (
         Ck (decide (x7 ≤ ((is0.length : Nat) : Int))) (
          Ck (decide (((is0.length : Nat) : Int) ≤ ((is0.length : Nat) : Int))) (
           ∃ r1 : Bool, SC P 101 [.one (.ro (.int .i64) ((is0.drop 0).take (x7.toNat - 0))), .one (.int .i64 (x5.getD x7.toNat 0))] [] [.one (.bool r1)] [] ∧
            Br r1 (
             Ret r lh [.one (.bool false)] []) (
             FL E H61 Try.f61 0 r lh 0 (S61_L0 is0 x5 x6 (IntKind.wrap .i64 (x7 + 1))))))))))) (
    Ret r lh [.one (.bool (decide (((is0.length : Nat) : Int) = (8 : Int))))] [])) := by kernel_rfl
theorem l61 (l : List Int) (hl : l.length ≤ 1048576) : ∀ (n i : Nat), i + n = l.length → FL E H61 Try.f61 0 [.one (.bool (allR (placeAtOk l) i n && decide (l.length = 8)))] [] 0 (S61_L0 l l (l.length : Int) (i : Int))
  | 0, i, h => by
    refine FL_of1 ?_
    rw [eq61_L0]
    refine Br_f (by omega) ⟨?_, rfl⟩
    rw [allR, Bool.true_and]
    congr 3
    exact decide_eq_decide.2 (by omega)
  | n + 1, i, h => by
    refine FL_of1 ?_
    rw [eq61_L0, wS (by omega)]
    simp only [Int.toNat_natCast]
    refine Br_t (by omega) (Ck_d (by omega) (Ck_d (by omega) ⟨_, c114 _ _ _, Br_nb (fun h1 => ?_) (fun h1 => ?_)⟩))
    · exact ⟨by rw [allR_f (by rw [placeAtOk, iAt, h1, Bool.false_and]), Bool.false_and], rfl⟩
    · refine Ck_d (by omega) (Ck_d (by omega) (Ck_d (by omega) ⟨_, c101 _ _ (by simp; omega), Br_b (fun h2 => ?_) (fun h2 => ?_)⟩))
      · exact ⟨by rw [allR_f (by rw [placeAtOk, iAt, h1, Bool.true_and]; rw [List.drop_zero, Nat.sub_zero] at h2; rw [h2]; rfl), Bool.false_and], rfl⟩
      · rw [allR_t (by rw [placeAtOk, iAt, h1, Bool.true_and]; rw [List.drop_zero, Nat.sub_zero] at h2; rw [h2]; rfl)]
        exact l61 l hl n (i + 1) (by omega)
theorem c61 (l : List Int) (hl : l.length ≤ 1048576) : SC P 61 [.one (.ro (.int .i64) l)] [] [.one (.bool (placeOk l))] [] := by
  refine SC_of_FB (H := H61) E_ok Try.func61 (by kernel_rfl) ?_
  rw [eq61]
  exact l61 l hl l.length 0 (by omega)

/-! loop.example/keelson/spec.l32Ok -/
def H64 : Hint := ⟨[[(0, 0, .bool), (3, 0, .bool)], [(0, 0, .bool), (3, 0, .bool), (4, 0, .bool)]], [], [(9, [0, 1, 2, 3, 4, 5, 6, 7, 8])], [], [], [], []⟩
def S64_L0 (is0 : List Int) (i3 : Int) : St := ⟨[(0, .w (.one (.ro (.int .i64) is0))), (3, .w (.one (.int .i64 i3)))], []⟩
def S64_L1 (is0 : List Int) (i3 : Int) (k4 : Int) : St := ⟨[(0, .w (.one (.ro (.int .i64) is0))), (3, .w (.one (.int .i64 i3))), (4, .w (.one (.int .i64 k4)))], []⟩
theorem eq64 (is : List Int) (r : List W) (lh : Heap) : FB E H64 Try.f64 [.one (.ro (.int .i64) is)] [] r lh =
  (
   FL E H64 Try.f64 0 r lh 0 (S64_L0 is 0)) := by kernel_rfl
theorem eq64_L0 (is0 : List Int) (i3 : Int) (r : List W) (lh : Heap) : FL1 E H64 Try.f64 0 r lh 0 (S64_L0 is0 i3) =
  (
   Br (decide (i3 < ((is0.length : Nat) : Int))) (
    Ck (decide ((0 : Int) ≤ i3)) (
     Ck (decide (i3 < ((is0.length : Nat) : Int))) (
      ∃ r0 : Bool, SC P 109 [.one (.int .i64 (is0.getD i3.toNat 0)), .one (.int .i64 1), .one (.int .i64 12)] [] [.one (.bool r0)] [] ∧
       Br (!r0) (
        Ret r lh [.one (.bool false)] []) (
        FL E H64 Try.f64 0 r lh 1 (S64_L1 is0 i3 0))))) (
    Ret r lh [.one (.bool (decide (((is0.length : Nat) : Int) = (8 : Int))))] [])) := by kernel_rfl
theorem eq64_L1 (is0 : List Int) (i3 : Int) (k4 : Int) (r : List W) (lh : Heap) : FL1 E H64 Try.f64 0 r lh 1 (S64_L1 is0 i3 k4) =
  (
   Br (decide (k4 < i3)) (
    Ck (decide ((0 : Int) ≤ k4)) (
     Ck (decide (k4 < ((is0.length : Nat) : Int))) (
      Ck (decide ((0 : Int) ≤ i3)) (
       Ck (decide (i3 < ((is0.length : Nat) : Int))) (
        Br (decide ((is0.getD k4.toNat 0) = (is0.getD i3.toNat 0))) (
         Ret r lh [.one (.bool false)] []) (
         FL E H64 Try.f64 0 r lh 1 (S64_L1 is0 i3 (IntKind.wrap .i64 (k4 + 1))))))))) (
    FL E H64 Try.f64 0 r lh 0 (S64_L0 is0 (IntKind.wrap .i64 (i3 + 1))))) := by kernel_rfl
theorem l64_1 (l : List Int) (i : Nat) (hi : i < l.length) (hl : l.length ≤ 1048576) (res : Bool) (h0 : ∀ k, k < i → iAt l k = iAt l i → res = false)
    (H : (∀ k, k < i → iAt l k ≠ iAt l i) → FL E H64 Try.f64 0 [.one (.bool res)] [] 0 (S64_L0 l ((i + 1 : Nat) : Int))) :
    ∀ (n k : Nat), k + n = i → (∀ q, q < k → iAt l q ≠ iAt l i) → FL E H64 Try.f64 0 [.one (.bool res)] [] 1 (S64_L1 l (i : Int) (k : Int))
  | 0, k, h, hk => by
    refine FL_of1 ?_
    rw [eq64_L1, wS (i := i) (by omega)]
    exact Br_f (by omega) (H fun q hq => hk q (by omega))
  | n + 1, k, h, hk => by
    refine FL_of1 ?_
    rw [eq64_L1, wS (i := k) (by omega)]
    simp only [Int.toNat_natCast]
    refine Br_t (by omega) (Ck_d (by omega) (Ck_d (by omega) (Ck_d (by omega) (Ck_d (by omega) (Br_d (fun h1 => ?_) (fun h1 => ?_))))))
    · exact ⟨by rw [h0 k (by omega) h1], rfl⟩
    · refine l64_1 l i hi hl res h0 H n (k + 1) (by omega) fun q hq => ?_
      rcases Nat.lt_succ_iff_lt_or_eq.1 hq with h2 | rfl
      · exact hk q h2
      · exact h1
theorem placeAt_iff {l : List Int} {i : Nat} (hi : i < l.length) (h : inB (iAt l i) 1 12 = true) : placeAtOk l i = true ↔ ∀ k, k < i → iAt l k ≠ iAt l i := by
  rw [placeAtOk, h, Bool.true_and, has, Bool.not_eq_true', decide_eq_false_iff_not, List.mem_take_iff_getElem]
  constructor
  · rintro H k hk e
    refine H ⟨k, by omega, ?_⟩
    rw [iAt, iAt, getD_eq (show k < l.length by omega), getD_eq hi] at e
    rw [iAt, getD_eq hi]; exact e
  · rintro H ⟨k, hk, e⟩
    refine H k (by omega) ?_
    rw [iAt, getD_eq (show k < l.length by omega)]
    exact e
theorem l64 (l : List Int) (hl : l.length ≤ 1048576) : ∀ (n i : Nat), i + n = l.length → FL E H64 Try.f64 0 [.one (.bool (allR (placeAtOk l) i n && decide (l.length = 8)))] [] 0 (S64_L0 l (i : Int))
  | 0, i, h => by
    refine FL_of1 ?_
    rw [eq64_L0]
    refine Br_f (by omega) ⟨?_, rfl⟩
    rw [allR, Bool.true_and]
    congr 3
    exact decide_eq_decide.2 (by omega)
  | n + 1, i, h => by
    refine FL_of1 ?_
    rw [eq64_L0]
    simp only [Int.toNat_natCast]
    refine Br_t (by omega) (Ck_d (by omega) (Ck_d (by omega) ⟨_, c109 _ _ _, Br_nb (fun h1 => ?_) (fun h1 => ?_)⟩))
    · exact ⟨by rw [allR_f (by rw [placeAtOk, iAt, h1, Bool.false_and]), Bool.false_and], rfl⟩
    · refine l64_1 l i (by omega) hl _ (fun k hk e => ?_) (fun H => ?_) i 0 (by omega) (fun q hq => absurd hq (by omega))
      · rw [allR_f, Bool.false_and]
        cases hp : placeAtOk l i with
        | false => rfl
        | true => exact absurd e ((placeAt_iff (by omega) h1).1 hp k hk)
      · rw [allR_t ((placeAt_iff (by omega) h1).2 H)]
        exact l64 l hl n (i + 1) (by omega)
theorem c64 (l : List Int) (hl : l.length ≤ 1048576) : SC P 64 [.one (.ro (.int .i64) l)] [] [.one (.bool (placeOk l))] [] := by
  refine SC_of_FB (H := H64) E_ok Try.func64 (by kernel_rfl) ?_
  rw [eq64]
  exact l64 l hl l.length 0 (by omega)

/-! loop.example/keelson/spec.l31Less -/
def H113 : Hint := ⟨[[(0, 0, .bool), (1, 0, .bool), (5, 0, .bool), (6, 0, .bool)]], [], [], [], [], [], []⟩
def S113_L0 (l0 : List (Int × (Int × Int))) (id1 : Int) (i6 : Int) (h0 : List (Int × (Int × Int))) : St := ⟨[(0, .w (.one (.ro (.pair (.int .i64) (.pair (.int .i64) (.int .i64))) l0))), (1, .w (.one (.int .i64 id1))), (5, .w (.one (.sl 0 none))), (6, .w (.one (.int .i64 i6)))], [.row (.pair (.int .i64) (.pair (.int .i64) (.int .i64))) h0 .own]⟩
theorem eq113 (l : List (Int × (Int × Int))) (id : Int) (r : List W) (lh : Heap) : FB E H113 Try.f113 [.one (.ro (.pair (.int .i64) (.pair (.int .i64) (.int .i64))) l), .one (.int .i64 id)] [] r lh =
  (
   FL E H113 Try.f113 0 r lh 0 (S113_L0 l id 0 [])) := by kernel_rfl
theorem eq113_L0 (l0 : List (Int × (Int × Int))) (id1 : Int) (i6 : Int) (h0 : List (Int × (Int × Int))) (r : List W) (lh : Heap) : FL1 E H113 Try.f113 0 r lh 0 (S113_L0 l0 id1 i6 h0) =
  (
   Br (decide (i6 < ((l0.length : Nat) : Int))) (
    Ck (decide ((0 : Int) ≤ i6)) (
     Ck (decide (i6 < ((l0.length : Nat) : Int))) (
      Br (!(decide ((l0.getD i6.toNat (0, (0, 0))).1 = id1))) (
       Ck (decide ((0 : Int) ≤ i6)) (
        Ck (decide (i6 < ((l0.length : Nat) : Int))) (
         Ck (Nat.ble ((h0.length + 1) * 24) roomy) (
          FL E H113 Try.f113 0 r lh 0 (S113_L0 l0 id1 (IntKind.wrap .i64 (i6 + 1)) (h0 ++ ([((l0.getD i6.toNat (0, (0, 0))).1, (((l0.getD i6.toNat (0, (0, 0))).2).1, ((l0.getD i6.toNat (0, (0, 0))).2).2))] : List (Int × (Int × Int))))))))) (
       FL E H113 Try.f113 0 r lh 0 (S113_L0 l0 id1 (IntKind.wrap .i64 (i6 + 1)) h0))))) (
    Ret r lh [.one (.sl 0 none)] [.row (.pair (.int .i64) (.pair (.int .i64) (.int .i64))) h0 .own])) := by kernel_rfl
theorem l113 (l : List House) (id : Int) (hl : l.length ≤ 1048576) : ∀ (n i : Nat) (out : List House), i + n = l.length → out.length ≤ i → FL E H113 Try.f113 0 [.one (.sl 0 none)] [.row (.pair (.int .i64) (.pair (.int .i64) (.int .i64))) (out ++ filterR (fun j => !decide ((l.getD j (0, 0, 0)).1 = id)) (fun j => l.getD j (0, 0, 0)) i n) .own] 0 (S113_L0 l id (i : Int) out)
  | 0, i, out, h, ho => by
    refine FL_of1 ?_
    rw [eq113_L0]
    exact Br_f (by omega) ⟨rfl, by rw [filterR, List.append_nil]⟩
  | n + 1, i, out, h, ho => by
    refine FL_of1 ?_
    rw [eq113_L0, wS (by omega), filterR]
    simp only [Int.toNat_natCast]
    refine Br_t (by omega) (Ck_d (by omega) (Ck_d (by omega) (Br_nd (fun h1 => ?_) (fun h1 => ?_))))
    · refine Ck_d (by omega) (Ck_d (by omega) (Ck_room (by omega) ?_))
      rw [decide_eq_false h1]
      have := l113 l id hl n (i + 1) (out ++ [l.getD i (0, 0, 0)]) (by omega) (by simp; omega)
      rw [List.append_assoc] at this
      exact this
    · rw [decide_eq_true h1]
      exact l113 l id hl n (i + 1) out (by omega) (by omega)
theorem c113 (l : List House) (id : Int) (hl : l.length ≤ 1048576) : SC P 113 [.one (.ro (.pair (.int .i64) (.pair (.int .i64) (.int .i64))) l), .one (.int .i64 id)] [] [.one (.sl 0 none)] [.row (.pair (.int .i64) (.pair (.int .i64) (.int .i64))) (housesLess l id) .own] := by
  refine SC_of_FB (H := H113) E_ok Try.func113 (by kernel_rfl) ?_
  rw [eq113]
  have := l113 l id hl l.length 0 [] (by omega) (by simp)
  rw [filterR_filter (l := l) (z := (0, 0, 0)) (fun h : House => !decide (h.1 = id)), List.nil_append] at this
  exact this
def housesLessF (l : List House) (id : Int) : List House := bif housesOk l then housesLess l id else []
theorem housesLessF_length {l : List House} {id : Int} (hl : l.length ≤ 1048576) : (housesLessF l id).length ≤ 1048576 := by
  unfold housesLessF
  cases housesOk l
  · simp
  · exact Nat.le_trans (List.length_filter_le _ _) hl

def nextF (is to : List Int) : List Int := bif placeOk is && placeOk to then next is to else []
theorem lack_free {is to : List Int} (hi : placeOk is = true) (ht : placeOk to = true) : lack to is ≤ (free is to).length := by
  rw [placeOk_iff] at hi ht
  rw [free_length, lack_eq hi.2.1 ht.2.1 (by omega)]
  exact Nat.le_refl _
theorem nextF_length {is to : List Int} : (nextF is to).length ≤ 8 := by
  unfold nextF
  cases h : placeOk is && placeOk to with
  | false => simp
  | true =>
    rw [Bool.and_eq_true] at h
    rw [cond_true, next_length, (placeOk_iff.1 h.1).2.2]
    exact Nat.le_refl _

def movesF (is to : List Int) : Int := bif placeOk is && placeOk to then (moves is to : Int) else -1

/-! loop.example/keelson/impl.PlaceThere$1 -/
def H63 : Hint := ⟨[], [], [], [], [], [], []⟩
theorem eq63 (id : Int) (lost : Int) (r : List W) (lh : Heap) : FB E H63 Try.f63 [.one (.int .i64 id), .one (.ptr 0 0 0)] [.row (.int .i64) [lost] .var] r lh =
  (
   Ret r lh [.one (.bool (!(decide (id = lost))))] [.row (.int .i64) [lost] .var]) := by kernel_rfl
theorem c63 (id lost : Int) : SC P 63 [.one (.int .i64 id), .one (.ptr 0 0 0)] [.row (.int .i64) [lost] .var] [.one (.bool (!decide (id = lost)))] [.row (.int .i64) [lost] .var] := by
  refine SC_of_FB (H := H63) E_ok Try.func63 (by kernel_rfl) ?_
  rw [eq63]
  exact ⟨rfl, rfl⟩

/-! loop.example/keelson/impl.flags -/
def H62t : Hint := ⟨[[(1, 0, .bool), (5, 0, .bool), (11, 0, .bool), (12, 0, .bool), (13, 0, .bool)]], [], [], [], [.one (.own .bool)], [], []⟩
def S62t_L0 (x11 : List Int) (x12 : Int) (x13 : Int) (h0 : List Int) (h1 : List Bool) : St := ⟨[(1, .w (.one (.fn 63 [0]))), (5, .w (.one (.sl 1 none))), (11, .w (.one (.ro (.int .i64) x11))), (12, .w (.one (.int .i64 x12))), (13, .w (.one (.int .i64 x13)))], [.row (.int .i64) h0 .var, .row .bool h1 .own]⟩
theorem eq62t (is : List Int) (lost : Int) (r : List W) (lh : Heap) : FB E H62t Try.f62 [.one (.ro (.int .i64) is), .one (.fn 63 [0])] [.row (.int .i64) [lost] .var] r lh =
  (
   Ck (decide ((0 : Int) ≤ ((is.length : Nat) : Int))) (
    Ck (decide (((is.length : Nat) : Int) * (1 : Nat) ≤ (roomy : Int))) (
     FL E H62t Try.f62 1 r lh 0 (S62t_L0 is ((is.length : Nat) : Int) 0 [lost] [])))) := by kernel_rfl
theorem eq62t_L0 (x11 : List Int) (x12 : Int) (x13 : Int) (h0 : List Int) (h1 : List Bool) (r : List W) (lh : Heap) : FL1 E H62t Try.f62 1 r lh 0 (S62t_L0 x11 x12 x13 h0 h1) =
  (
   Br (decide (x13 < x12)) (
    Ck (decide ((0 : Int) ≤ x13)) (
     Ck (decide (x13 < ((x11.length : Nat) : Int))) (
      ∃ r0 : Bool, SC P 63 [.one (.int .i64 (x11.getD x13.toNat 0)), .one (.ptr 0 0 0)] [.row (.int .i64) h0 .var] [.one (.bool r0)] [.row (.int .i64) h0 .var] ∧
       Ck (Nat.ble ((h1.length + 1) * 1) roomy) (
        FL E H62t Try.f62 1 r lh 0 (S62t_L0 x11 x12 (IntKind.wrap .i64 (x13 + 1)) h0 (h1 ++ [r0])))))) (
    Ret r lh [.one (.sl 1 none)] [.row (.int .i64) h0 .var, .row .bool h1 .own])) := by kernel_rfl
theorem l62t (is : List Int) (lost : Int) (hi : is.length ≤ 1048576) : ∀ (n i : Nat) (out : List Bool), i + n = is.length → out.length = i → FL E H62t Try.f62 1 [.one (.sl 1 none)] [.row (.int .i64) [lost] .var, .row .bool (out ++ mapR (fun j => (fun x : Int => !decide (x = lost)) (is.getD j 0)) i n) .own] 0 (S62t_L0 is (is.length : Int) (i : Int) [lost] out)
  | 0, i, out, h, ho => by
    refine FL_of1 ?_
    rw [eq62t_L0]
    exact Br_f (by omega) ⟨rfl, by rw [mapR, List.append_nil]⟩
  | n + 1, i, out, h, ho => by
    refine FL_of1 ?_
    rw [eq62t_L0, wS (by omega), mapR]
    simp only [Int.toNat_natCast]
    refine Br_t (by omega) (Ck_d (by omega) (Ck_d (by omega) ⟨_, c63 (is.getD i 0) lost, Ck_room (by omega) ?_⟩))
    have := l62t is lost hi n (i + 1) (out ++ [(fun x : Int => !decide (x = lost)) (is.getD i 0)]) (by omega) (by simp; omega)
    rw [List.append_assoc] at this
    exact this
theorem c62t (is : List Int) (lost : Int) (hi : is.length ≤ 1048576) : SC P 62 [.one (.ro (.int .i64) is), .one (.fn 63 [0])] [.row (.int .i64) [lost] .var] [.one (.sl 1 none)] [.row (.int .i64) [lost] .var, .row .bool (is.map (fun x : Int => !decide (x = lost))) .own] := by
  refine SC_of_FB (H := H62t) E_ok Try.func62 (by kernel_rfl) ?_
  rw [eq62t]
  refine Ck_d (by omega) (Ck_roomI (by omega) ?_)
  have := l62t is lost hi is.length 0 [] (by omega) rfl
  rw [mapR_map (l := is) (z := 0) (fun x : Int => !decide (x = lost)), List.nil_append] at this
  exact this

def thereF (is : List Int) (lost : Int) : List Bool := bif placeOk is then is.map (fun x => !decide (x = lost)) else []
theorem thereF_length {is : List Int} {lost : Int} (h : is.length ≤ 1048576) : (thereF is lost).length ≤ 1048576 := by
  unfold thereF
  cases placeOk is <;> simp [h]
def rackF (l : List House) (is : List Int) (rack : Int) : List Bool := bif placeOk is && housesOk l then is.map (fun x => !decide (houseRack l x = rack)) else []
theorem rackF_length {l : List House} {is : List Int} {rack : Int} (h : is.length ≤ 1048576) : (rackF l is rack).length ≤ 1048576 := by
  unfold rackF
  cases placeOk is && housesOk l <;> simp [h]

/-! loop.example/keelson/spec.PlaceThere -/
def H20 : Hint := ⟨[[(0, 0, .bool), (1, 0, .bool), (5, 0, .bool), (6, 0, .bool)]], [], [], [], [], [], []⟩
def S20_L0 (is0 : List Int) (lost1 : Int) (i6 : Int) (h0 : List Bool) : St := ⟨[(0, .w (.one (.ro (.int .i64) is0))), (1, .w (.one (.int .i64 lost1))), (5, .w (.one (.sl 0 none))), (6, .w (.one (.int .i64 i6)))], [.row .bool h0 .own]⟩
theorem eq20 (is : List Int) (lost : Int) (r : List W) (lh : Heap) : FB E H20 Try.f20 [.one (.ro (.int .i64) is), .one (.int .i64 lost)] [] r lh =
  (
   ∃ r0 : Bool, SC P 64 [.one (.ro (.int .i64) is)] [] [.one (.bool r0)] [] ∧
    Br (!r0) (
     Ret r lh [.one (.sl 0 none)] [.row .bool [] .own]) (
     FL E H20 Try.f20 0 r lh 0 (S20_L0 is lost 0 []))) := by kernel_rfl
theorem eq20_L0 (is0 : List Int) (lost1 : Int) (i6 : Int) (h0 : List Bool) (r : List W) (lh : Heap) : FL1 E H20 Try.f20 0 r lh 0 (S20_L0 is0 lost1 i6 h0) =
  (
   Br (decide (i6 < ((is0.length : Nat) : Int))) (
    Ck (decide ((0 : Int) ≤ i6)) (
     Ck (decide (i6 < ((is0.length : Nat) : Int))) (
      Ck (Nat.ble ((h0.length + 1) * 1) roomy) (
       FL E H20 Try.f20 0 r lh 0 (S20_L0 is0 lost1 (IntKind.wrap .i64 (i6 + 1)) (h0 ++ [(!(decide ((is0.getD i6.toNat 0) = lost1)))])))))) (
    Ret r lh [.one (.sl 0 none)] [.row .bool h0 .own])) := by kernel_rfl
theorem l20 (is : List Int) (lost : Int) (hi : is.length ≤ 1048576) : ∀ (n i : Nat) (out : List Bool), i + n = is.length → out.length = i → FL E H20 Try.f20 0 [.one (.sl 0 none)] [.row .bool (out ++ mapR (fun j => !decide (is.getD j 0 = lost)) i n) .own] 0 (S20_L0 is lost (i : Int) out)
  | 0, i, out, h, ho => by
    refine FL_of1 ?_
    rw [eq20_L0]
    exact Br_f (by omega) ⟨rfl, by rw [mapR, List.append_nil]⟩
  | n + 1, i, out, h, ho => by
    refine FL_of1 ?_
    rw [eq20_L0, wS (by omega), mapR]
    simp only [Int.toNat_natCast]
    refine Br_t (by omega) (Ck_d (by omega) (Ck_d (by omega) (Ck_room (by omega) ?_)))
    have := l20 is lost hi n (i + 1) (out ++ [!decide (is.getD i 0 = lost)]) (by omega) (by simp; omega)
    rw [List.append_assoc] at this
    exact this
theorem c20 (is : List Int) (lost : Int) (hi : is.length ≤ 1048576) : SC P 20 [.one (.ro (.int .i64) is), .one (.int .i64 lost)] [] [.one (.sl 0 none)] [.row .bool (thereF is lost) .own] := by
  refine SC_of_FB (H := H20) E_ok Try.func20 (by kernel_rfl) ?_
  rw [eq20]
  refine ⟨_, c64 is hi, Br_nb (fun e => ⟨rfl, by rw [thereF, e]; rfl⟩) (fun e => ?_)⟩
  have := l20 is lost hi is.length 0 [] (by omega) rfl
  rw [mapR_map (l := is) (z := 0) (fun x => !decide (x = lost)), List.nil_append] at this
  rw [thereF, e]
  exact this

/-! loop.example/keelson/impl.PlaceThere -/
def H18 : Hint := ⟨[], [], [], [], [.one (.own .bool)], [], []⟩
theorem eq18 (is : List Int) (lost : Int) (r : List W) (lh : Heap) : FB E H18 Try.f18 [.one (.ro (.int .i64) is), .one (.int .i64 lost)] [] r lh =
  (
   ∃ r0 : Bool, SC P 61 [.one (.ro (.int .i64) is)] [] [.one (.bool r0)] [] ∧
    Br (!r0) (
     Ret r lh [.one (.sl 0 none)] [.row .bool [] .own]) (
     ∃ r1 : List Bool, SC P 62 [.one (.ro (.int .i64) is), .one (.fn 63 [0])] [.row (.int .i64) [lost] .var] [.one (.sl 1 none)] [.row (.int .i64) [lost] .var, .row .bool r1 .own] ∧
      Ret r lh [.one (.sl 0 none)] [.row .bool r1 .own])) := by kernel_rfl
theorem c18 (is : List Int) (lost : Int) (hi : is.length ≤ 1048576) : SC P 18 [.one (.ro (.int .i64) is), .one (.int .i64 lost)] [] [.one (.sl 0 none)] [.row .bool (thereF is lost) .own] := by
  refine SC_of_FB (H := H18) E_ok Try.func18 (by kernel_rfl) ?_
  rw [eq18]
  exact ⟨_, c61 is hi, Br_nb (fun e => ⟨rfl, by rw [thereF, e]; rfl⟩) (fun e => ⟨_, c62t is lost hi, rfl, by rw [thereF, e]; rfl⟩)⟩

/-! loop.example/keelson/laws.lkBools -/
def H19 : Hint := ⟨[[(0, 0, .bool), (1, 0, .bool), (5, 0, .bool)]], [], [(6, [0, 1, 2, 3, 4, 5, 6, 7, 8])], [], [], [], []⟩
def S19_L0 (a0 : List Bool) (b1 : List Bool) (i5 : Int) : St := ⟨[(0, .w (.one (.ro .bool a0))), (1, .w (.one (.ro .bool b1))), (5, .w (.one (.int .i64 i5)))], []⟩
theorem eq19 (a : List Bool) (b : List Bool) (r : List W) (lh : Heap) : FB E H19 Try.f19 [.one (.ro .bool a), .one (.ro .bool b)] [] r lh =
  (
   Br (!(decide (((a.length : Nat) : Int) = ((b.length : Nat) : Int)))) (
    Ret r lh [.one (.bool false)] []) (
    FL E H19 Try.f19 0 r lh 0 (S19_L0 a b 0))) := by kernel_rfl
theorem eq19_L0 (a0 : List Bool) (b1 : List Bool) (i5 : Int) (r : List W) (lh : Heap) : FL1 E H19 Try.f19 0 r lh 0 (S19_L0 a0 b1 i5) =
  (
   Br (decide (i5 < ((a0.length : Nat) : Int))) (
    Ck (decide ((0 : Int) ≤ i5)) (
     Ck (decide (i5 < ((a0.length : Nat) : Int))) (
      Ck (decide ((0 : Int) ≤ i5)) (
       Ck (decide (i5 < ((b1.length : Nat) : Int))) (
        Br ((a0.getD i5.toNat false) != (b1.getD i5.toNat false)) (
         Ret r lh [.one (.bool false)] []) (
         FL E H19 Try.f19 0 r lh 0 (S19_L0 a0 b1 (IntKind.wrap .i64 (i5 + 1))))))))) (
    Ret r lh [.one (.bool true)] [])) := by kernel_rfl
theorem l19 (a b : List Bool) (hl : a.length ≤ 1048576) (hb : a.length = b.length) : ∀ (n i : Nat), i + n = a.length → FL E H19 Try.f19 0 [.one (.bool (allR (fun j => decide (a.getD j false = b.getD j false)) i n))] [] 0 (S19_L0 a b (i : Int))
  | 0, i, h => by
    refine FL_of1 ?_
    rw [eq19_L0]
    exact Br_f (by omega) ⟨rfl, rfl⟩
  | n + 1, i, h => by
    refine FL_of1 ?_
    rw [eq19_L0, wS (by omega)]
    simp only [Int.toNat_natCast]
    refine Br_t (by omega) (Ck_d (by omega) (Ck_d (by omega) (Ck_d (by omega) (Ck_d (by omega) (Br_b (fun h1 => ?_) (fun h1 => ?_))))))
    · exact ⟨by rw [allR_f (by simpa using h1)], rfl⟩
    · rw [allR_t (by simpa using h1)]
      exact l19 a b hl hb n (i + 1) (by omega)
theorem c19 (a b : List Bool) (hl : a.length ≤ 1048576) : SC P 19 [.one (.ro (.bool) a), .one (.ro (.bool) b)] [] [.one (.bool (decide (a = b)))] [] := by
  refine SC_of_FB (H := H19) E_ok Try.func19 (by kernel_rfl) ?_
  rw [eq19]
  refine Br_nd (fun h => ⟨?_, rfl⟩) (fun h => ?_)
  · rw [decide_eq_false (by rintro rfl; exact h rfl)]
  · have h : a.length = b.length := by omega
    rw [← eqR (z := false) h]
    exact l19 a b hl h a.length 0 (by omega)

/-! loop.example/keelson/laws.lkMany -/
def H22 : Hint := ⟨[[(0, 0, .bool), (3, 0, .bool), (4, 0, .bool)]], [], [], [], [], [], []⟩
def S22_L0 (there0 : List Bool) (n3 : Int) (i4 : Int) : St := ⟨[(0, .w (.one (.ro .bool there0))), (3, .w (.one (.int .i64 n3))), (4, .w (.one (.int .i64 i4)))], []⟩
theorem eq22 (there : List Bool) (r : List W) (lh : Heap) : FB E H22 Try.f22 [.one (.ro .bool there)] [] r lh =
  (
   FL E H22 Try.f22 0 r lh 0 (S22_L0 there 0 0)) := by kernel_rfl
theorem eq22_L0 (there0 : List Bool) (n3 : Int) (i4 : Int) (r : List W) (lh : Heap) : FL1 E H22 Try.f22 0 r lh 0 (S22_L0 there0 n3 i4) =
  (
   Br (decide (i4 < ((there0.length : Nat) : Int))) (
    Ck (decide ((0 : Int) ≤ i4)) (
     Ck (decide (i4 < ((there0.length : Nat) : Int))) (
      Br (there0.getD i4.toNat false) (
       FL E H22 Try.f22 0 r lh 0 (S22_L0 there0 (IntKind.wrap .i64 (n3 + 1)) (IntKind.wrap .i64 (i4 + 1)))) (
       FL E H22 Try.f22 0 r lh 0 (S22_L0 there0 n3 (IntKind.wrap .i64 (i4 + 1))))))) (
    Ret r lh [.one (.int .i64 n3)] [])) := by kernel_rfl
theorem l22 (l : List Bool) (hl : l.length ≤ 1048576) : ∀ (n i m : Nat), i + n = l.length → m ≤ i → FL E H22 Try.f22 0 [.one (.int .i64 ((m + countR (fun j => (fun b => b) (l.getD j false)) i n : Nat) : Int))] [] 0 (S22_L0 l (m : Int) (i : Int))
  | 0, i, m, h, hm => by
    refine FL_of1 ?_
    rw [eq22_L0]
    exact Br_f (by omega) ⟨rfl, rfl⟩
  | n + 1, i, m, h, hm => by
    refine FL_of1 ?_
    rw [eq22_L0, wS (i := i) (by omega), wS (i := m) (by omega), countR]
    simp only [Int.toNat_natCast]
    refine Br_t (by omega) (Ck_d (by omega) (Ck_d (by omega) (Br_b (fun c => ?_) (fun c => ?_))))
    · rw [c]
      have := l22 l hl n (i + 1) (m + 1) (by omega) (by omega)
      rw [Nat.add_assoc] at this
      exact this
    · rw [c]
      have := l22 l hl n (i + 1) m (by omega) (by omega)
      rw [show ∀ q : Nat, (bif false then 1 else 0) + q = q from fun q => Nat.zero_add q]
      exact this
theorem c22 (l : List Bool) (hl : l.length ≤ 1048576) : SC P 22 [.one (.ro .bool l)] [] [.one (.int .i64 (l.countP (fun b => b) : Nat))] [] := by
  refine SC_of_FB (H := H22) E_ok Try.func22 (by kernel_rfl) ?_
  rw [eq22]
  have := l22 l hl l.length 0 0 (by omega) (by omega)
  rw [countR_countP (l := l) (z := false) (fun b => b), Nat.zero_add] at this
  exact this

/-! loop.example/keelson/spec.l31Ranks -/
def H142 : Hint := ⟨[[(0, 0, .bool), (1, 0, .bool), (5, 0, .bool), (6, 0, .bool)], [(0, 0, .bool), (1, 0, .bool), (5, 0, .bool), (6, 0, .bool), (7, 0, .bool), (8, 0, .bool)]], [], [(8, [0, 1, 2, 3, 4, 5, 6, 7, 8, 9, 10, 11, 12, 13, 15, 16, 17, 18, 19, 14, 20, 21, 22, 23])], [], [], [], []⟩
def S142_L0 (name0 : Int) (l1 : List (Int × (Int × Int))) (h0 : List Int) (h1 : List Bool) : St := ⟨[(0, .w (.one (.int .i64 name0))), (1, .w (.one (.ro (.pair (.int .i64) (.pair (.int .i64) (.int .i64))) l1))), (5, .w (.one (.sl 0 none))), (6, .w (.one (.sl 1 none)))], [.row (.int .i64) h0 .own, .row .bool h1 .own]⟩
def S142_L1 (name0 : Int) (l1 : List (Int × (Int × Int))) (best7 : Int) (i8 : Int) (h0 : List Int) (h1 : List Bool) : St := ⟨[(0, .w (.one (.int .i64 name0))), (1, .w (.one (.ro (.pair (.int .i64) (.pair (.int .i64) (.int .i64))) l1))), (5, .w (.one (.sl 0 none))), (6, .w (.one (.sl 1 none))), (7, .w (.one (.int .i64 best7))), (8, .w (.one (.int .i64 i8)))], [.row (.int .i64) h0 .own, .row .bool h1 .own]⟩
theorem eq142 (name : Int) (l : List (Int × (Int × Int))) (r : List W) (lh : Heap) : FB E H142 Try.f142 [.one (.int .i64 name), .one (.ro (.pair (.int .i64) (.pair (.int .i64) (.int .i64))) l)] [] r lh =
  (
   Ck (decide ((0 : Int) ≤ ((l.length : Nat) : Int))) (
    Ck (decide (((l.length : Nat) : Int) ≤ ((l.length : Nat) : Int))) (
     Ck (decide (((l.length : Nat) : Int) * (1 : Nat) ≤ (roomy : Int))) (
      FL E H142 Try.f142 0 r lh 0 (S142_L0 name l [] (List.replicate (((l.length : Nat) : Int).toNat) (false : Bool))))))) := by kernel_rfl
theorem eq142_L0 (name0 : Int) (l1 : List (Int × (Int × Int))) (h0 : List Int) (h1 : List Bool) (r : List W) (lh : Heap) : FL1 E H142 Try.f142 0 r lh 0 (S142_L0 name0 l1 h0 h1) =
  (
   Br (decide (((h0.length : Nat) : Int) < ((l1.length : Nat) : Int))) (
    FL E H142 Try.f142 0 r lh 1 (S142_L1 name0 l1 (-1) 0 h0 h1)) (
    Ret r lh [.one (.sl 0 none)] [.row (.int .i64) h0 .own])) := by kernel_rfl
theorem eq142_L1 (name0 : Int) (l1 : List (Int × (Int × Int))) (best7 : Int) (i8 : Int) (h0 : List Int) (h1 : List Bool) (r : List W) (lh : Heap) : FL1 E H142 Try.f142 0 r lh 1 (S142_L1 name0 l1 best7 i8 h0 h1) =
  (
   Br (decide (i8 < ((l1.length : Nat) : Int))) (
    Ck (decide ((0 : Int) ≤ i8)) (
     Ck (decide (i8 < ((h1.length : Nat) : Int))) (
      Ck (Nat.ble (i8.toNat + 1) h1.length) (
       Br (!(h1.getD i8.toNat false)) (
        Br (decide (best7 < (0 : Int))) (
         FL E H142 Try.f142 0 r lh 1 (S142_L1 name0 l1 i8 (IntKind.wrap .i64 (i8 + 1)) h0 h1)) (
         Ck (decide ((0 : Int) ≤ i8)) (
          Ck (decide (i8 < ((l1.length : Nat) : Int))) (
           Ck (decide ((0 : Int) ≤ best7)) (
            Ck (decide (best7 < ((l1.length : Nat) : Int))) (
             ∃ r0 : Int, SC P 156 [.one (.int .i64 name0), .agg [.int .i64 ((l1.getD i8.toNat (0, (0, 0))).1), .int .i64 (((l1.getD i8.toNat (0, (0, 0))).2).1), .int .i64 (((l1.getD i8.toNat (0, (0, 0))).2).2)]] [] [.one (.int .i64 r0)] [] ∧
              ∃ r1 : Int, SC P 156 [.one (.int .i64 name0), .agg [.int .i64 ((l1.getD best7.toNat (0, (0, 0))).1), .int .i64 (((l1.getD best7.toNat (0, (0, 0))).2).1), .int .i64 (((l1.getD best7.toNat (0, (0, 0))).2).2)]] [] [.one (.int .i64 r1)] [] ∧
               Br (decide (r1 < r0)) (
                FL E H142 Try.f142 0 r lh 1 (S142_L1 name0 l1 i8 (IntKind.wrap .i64 (i8 + 1)) h0 h1)) (
                FL E H142 Try.f142 0 r lh 1 (S142_L1 name0 l1 best7 (IntKind.wrap .i64 (i8 + 1)) h0 h1)))))))) (
        FL E H142 Try.f142 0 r lh 1 (S142_L1 name0 l1 best7 (IntKind.wrap .i64 (i8 + 1)) h0 h1)))))) (
    Ck (decide ((0 : Int) ≤ best7)) (
     Ck (decide (best7 < ((h1.length : Nat) : Int))) (
      Ck (Nat.ble (best7.toNat + 1) h1.length) (
       Ck (decide ((0 : Int) ≤ best7)) (
        Ck (decide (best7 < ((l1.length : Nat) : Int))) (
         Ck (Nat.ble ((h0.length + 1) * 8) roomy) (
          FL E H142 Try.f142 0 r lh 0 (S142_L0 name0 l1 (h0 ++ [(l1.getD best7.toNat (0, (0, 0))).1]) (h1.set best7.toNat true)))))))))) := by kernel_rfl
def sAt (name : Int) (l : List House) (i : Nat) : Int := scoreF name (hAt l i)
theorem l142_1 (name : Int) (l : List House) (hn : inB name 0 99 = true) (hh : ∀ h ∈ l, houseOk h = true) (hl : l.length ≤ 1048576) (out : List Int) (done : List Bool) (hd : done.length = l.length) (R : List Int) (b : Nat) (hb : b < l.length) (ho : out.length ≤ 1048576)
    (H : FL E H142 Try.f142 0 [.one (.sl 0 none)] [.row (.int .i64) R .own] 0 (S142_L0 name l (out ++ [(hAt l b).1]) (done.set b true))) :
    ∀ (n i : Nat) (best : Option Nat), i + n = l.length → (∀ c, best = some c → c < i) → bestR (sAt name l) (fun i => done.getD i false) n i best = some b →
    FL E H142 Try.f142 0 [.one (.sl 0 none)] [.row (.int .i64) R .own] 1 (S142_L1 name l (bestI best) (i : Int) out done)
  | 0, i, best, h, hc, e => by
    have e : best = some b := by cases best <;> exact e
    subst e
    refine FL_of1 ?_
    rw [eq142_L1]
    simp only [bestI, Int.toNat_natCast]
    exact Br_f (by omega) (Ck_d (by omega) (Ck_d (by omega) (Ck_le (by omega) (Ck_d (by omega) (Ck_d (by omega) (Ck_room (by omega) H))))))
  | n + 1, i, best, h, hc, e => by
    rw [bestR_succ] at e
    refine FL_of1 ?_
    rw [eq142_L1, wS (by omega)]
    simp only [Int.toNat_natCast]
    refine Br_t (by omega) (Ck_d (by omega) (Ck_d (by omega) (Ck_le (by omega) (Br_nb (fun c => ?_) (fun c => ?_)))))
    · rw [c, cond_false] at e
      cases best with
      | none =>
        exact Br_t (by simp [bestI]) (l142_1 name l hn hh hl out done hd R b hb ho H n (i + 1) (some i) (by omega) (fun c e => by cases e; omega) e)
      | some q =>
        have hq := hc q rfl
        have g1 : houseOk (hAt l i) = true := by rw [hAt, getD_eq (show i < l.length by omega)]; exact hh _ (List.getElem_mem _)
        have g2 : houseOk (hAt l q) = true := by rw [hAt, getD_eq (show q < l.length by omega)]; exact hh _ (List.getElem_mem _)
        simp only [bestI, Int.toNat_natCast]
        dsimp only at e
        refine Br_f (by omega) (Ck_d (by omega) (Ck_d (by omega) (Ck_d (by omega) (Ck_d (by omega) ⟨_, c156 name (hAt l i) hn g1, _, c156 name (hAt l q) hn g2, Br_d (fun k => ?_) (fun k => ?_)⟩))))
        · rw [show decide (sAt name l q < sAt name l i) = true from decide_eq_true k, cond_true] at e
          exact l142_1 name l hn hh hl out done hd R b hb ho H n (i + 1) (some i) (by omega) (fun c e => by cases e; omega) e
        · rw [show decide (sAt name l q < sAt name l i) = false from decide_eq_false k, cond_false] at e
          exact l142_1 name l hn hh hl out done hd R b hb ho H n (i + 1) (some q) (by omega) (fun c e => by cases e; omega) e
    · rw [c, cond_true] at e
      exact l142_1 name l hn hh hl out done hd R b hb ho H n (i + 1) best (by omega) (fun c e => by have := hc c e; omega) e
theorem l142 (name : Int) (l : List House) (hn : inB name 0 99 = true) (hh : ∀ h ∈ l, houseOk h = true) (hl : l.length ≤ 1048576) : ∀ (n : Nat) (out : List Int) (done : List Bool), done.length = l.length → done.countP (fun b => !b) = n → out.length + n = l.length →
    FL E H142 Try.f142 0 [.one (.sl 0 none)] [.row (.int .i64) (out ++ ranksL (sAt name l) (fun i => (hAt l i).1) n done) .own] 0 (S142_L0 name l out done)
  | 0, out, done, hd, hc, ho => by
    refine FL_of1 ?_
    rw [eq142_L0]
    exact Br_f (by omega) ⟨rfl, by rw [ranksL, List.append_nil]⟩
  | n + 1, out, done, hd, hc, ho => by
    obtain ⟨b, e1, e2, e3⟩ := bestR_spec (score := sAt name l) (done := fun i => done.getD i false) (n := done.length) (i := 0) (best := none) (fun b e => by cases e) (.inr (count_false (by omega)))
    have hs := count_set (done := done) (b := b) (by omega) e3
    have ih := l142 name l hn hh hl n (out ++ [(hAt l b).1]) (done.set b true) (by simpa using hd) (by omega) (by simp; omega)
    rw [List.append_assoc] at ih
    refine FL_of1 ?_
    rw [eq142_L0, ranksL, e1]
    refine Br_t (by omega) ?_
    exact l142_1 name l hn hh hl out done hd _ b (by omega) (by omega) ih l.length 0 none (by omega) (fun c e => by cases e) (by rw [← hd]; exact e1)
def ranksS (name : Int) (l : List House) : List Int := ranksL (sAt name l) (fun i => (hAt l i).1) l.length (List.replicate l.length false)
theorem c142 (name : Int) (l : List House) (hn : inB name 0 99 = true) (hh : ∀ h ∈ l, houseOk h = true) (hl : l.length ≤ 1048576) : SC P 142 [.one (.int .i64 name), .one (.ro (.pair (.int .i64) (.pair (.int .i64) (.int .i64))) l)] [] [.one (.sl 0 none)] [.row (.int .i64) (ranksS name l) .own] := by
  refine SC_of_FB (H := H142) E_ok Try.func142 (by kernel_rfl) ?_
  rw [eq142]
  exact Ck_d (by omega) (Ck_d (by omega) (Ck_roomI (by omega) (l142 name l hn hh hl l.length [] _ (by simp) (count_replicate _) (by simp))))
theorem ranksS_mem {name : Int} {l : List House} {x : Int} (h : x ∈ ranksS name l) : ∃ y ∈ l, y.1 = x := by
  obtain ⟨b, h1, h2⟩ := ranksL_mem (count_replicate _) h
  rw [List.length_replicate] at h1
  exact ⟨l[b], List.getElem_mem _, by rw [h2, hAt, getD_eq h1]⟩
theorem ranksS_length {name : Int} {l : List House} : (ranksS name l).length = l.length := ranksL_length (count_replicate _)

/-! loop.example/keelson/spec.PlaceOf -/
def H112 : Hint := ⟨[[(1, 0, .bool), (6, 0, .bool), (7, 0, .bool), (8, 0, .bool), (9, 0, .bool)]], [], [], [], [], [], []⟩
def S112_L0 (l1 : List (Int × (Int × Int))) (i9 : Int) (h0 : List Int) (h1 : List Int) (h2 : List Int) : St := ⟨[(1, .w (.one (.ro (.pair (.int .i64) (.pair (.int .i64) (.int .i64))) l1))), (6, .w (.one (.sl 0 none))), (7, .w (.one (.sl 1 none))), (8, .w (.one (.sl 2 none))), (9, .w (.one (.int .i64 i9)))], [.row (.int .i64) h0 .own, .row (.int .i64) h1 .own, .row (.int .i64) h2 .own]⟩
theorem eq112 (name : Int) (l : List (Int × (Int × Int))) (r : List W) (lh : Heap) : FB E H112 Try.f112 [.one (.int .i64 name), .one (.ro (.pair (.int .i64) (.pair (.int .i64) (.int .i64))) l)] [] r lh =
  (
   ∃ r0 : Bool, SC P 109 [.one (.int .i64 name), .one (.int .i64 0), .one (.int .i64 99)] [] [.one (.bool r0)] [] ∧
    Br (!r0) (
     Ret r lh [.one (.sl 0 none), .one (.bool false)] [.row (.int .i64) [] .own]) (
     ∃ r1 : Bool, SC P 141 [.one (.ro (.pair (.int .i64) (.pair (.int .i64) (.int .i64))) l)] [] [.one (.bool r1)] [] ∧
      Br (!r1) (
       Ret r lh [.one (.sl 0 none), .one (.bool false)] [.row (.int .i64) [] .own]) (
       ∃ r2 : List Int, SC P 142 [.one (.int .i64 name), .one (.ro (.pair (.int .i64) (.pair (.int .i64) (.int .i64))) l)] [] [.one (.sl 0 none)] [.row (.int .i64) r2 .own] ∧
        FL E H112 Try.f112 0 r lh 0 (S112_L0 l 0 [] r2 [0, 0, 0, 0, 0])))) := by kernel_rfl
theorem eq112_L0 (l1 : List (Int × (Int × Int))) (i9 : Int) (h0 : List Int) (h1 : List Int) (h2 : List Int) (r : List W) (lh : Heap) : FL1 E H112 Try.f112 0 r lh 0 (S112_L0 l1 i9 h0 h1 h2) =
  (
   Br (decide (i9 < ((h1.length : Nat) : Int))) (
    Br (decide (((h0.length : Nat) : Int) < (8 : Int))) (
     Ck (decide ((0 : Int) ≤ i9)) (
      Ck (decide (i9 < ((h1.length : Nat) : Int))) (
       Ck (Nat.ble (i9.toNat + 1) h1.length) (
        ∃ r0 : Int, SC P 143 [.one (.ro (.pair (.int .i64) (.pair (.int .i64) (.int .i64))) l1), .one (.int .i64 (h1.getD i9.toNat 0))] [] [.one (.int .i64 r0)] [] ∧
         Ck (decide ((0 : Int) ≤ r0)) (
          Ck (decide (r0 < ((h2.length : Nat) : Int))) (
           Ck (Nat.ble (r0.toNat + 1) h2.length) (
            Br (decide ((h2.getD r0.toNat 0) < (3 : Int))) (
             Ck (decide ((0 : Int) ≤ r0)) (
              Ck (decide (r0 < ((h2.length : Nat) : Int))) (
               Ck (Nat.ble (r0.toNat + 1) h2.length) (
                Ck (decide ((0 : Int) ≤ r0)) (
                 Ck (decide (r0 < ((h2.length : Nat) : Int))) (
                  Ck (Nat.ble (r0.toNat + 1) h2.length) (
                   Ck (decide ((0 : Int) ≤ i9)) (
                    Ck (decide (i9 < ((h1.length : Nat) : Int))) (
                     Ck (Nat.ble (i9.toNat + 1) h1.length) (
                      Ck (Nat.ble ((h0.length + 1) * 8) roomy) (
                       FL E H112 Try.f112 0 r lh 0 (S112_L0 l1 (IntKind.wrap .i64 (i9 + 1)) (h0 ++ [(h1.getD i9.toNat 0)]) h1 (h2.set r0.toNat (IntKind.wrap .i64 ((h2.getD r0.toNat 0) + 1))))))))))))))) (
             FL E H112 Try.f112 0 r lh 0 (S112_L0 l1 (IntKind.wrap .i64 (i9 + 1)) h0 h1 h2))))))))) (
     Br (decide (((h0.length : Nat) : Int) < (8 : Int))) (
      Ret r lh [.one (.sl 0 none), .one (.bool false)] [.row (.int .i64) [] .own]) (
      Ret r lh [.one (.sl 0 none), .one (.bool true)] [.row (.int .i64) h0 .own]))) (
    Br (decide (((h0.length : Nat) : Int) < (8 : Int))) (
     Ret r lh [.one (.sl 0 none), .one (.bool false)] [.row (.int .i64) [] .own]) (
     Ret r lh [.one (.sl 0 none), .one (.bool true)] [.row (.int .i64) h0 .own]))) := by kernel_rfl
theorem l112 (l : List House) (hh : ∀ h ∈ l, houseOk h = true) (hl : l.length ≤ 1048576) (rs : List Int) (hr : ∀ x ∈ rs, ∃ y ∈ l, y.1 = x) (hrl : rs.length ≤ 1048576) : ∀ (n i : Nat) (out racks : List Int), i + n = rs.length → out.length ≤ 8 → (∀ x ∈ out, ∃ y ∈ l, y.1 = x) → racks.length = 5 →
    ∃ p ok, (p.length ≤ 8 ∧ ∀ x ∈ p, ∃ y ∈ l, y.1 = x) ∧ FL E H112 Try.f112 0 [.one (.sl 0 none), .one (.bool ok)] [.row (.int .i64) p .own] 0 (S112_L0 l (i : Int) out rs racks)
  | 0, i, out, racks, h, ho, hm, hk => by
    by_cases c : ((out.length : Nat) : Int) < 8
    · refine ⟨[], false, by simp, ?_⟩
      refine FL_of1 ?_
      rw [eq112_L0]
      exact Br_f (by omega) (Br_t c ⟨rfl, rfl⟩)
    · refine ⟨out, true, ⟨ho, hm⟩, ?_⟩
      refine FL_of1 ?_
      rw [eq112_L0]
      exact Br_f (by omega) (Br_f c ⟨rfl, rfl⟩)
  | n + 1, i, out, racks, h, ho, hm, hk => by
    by_cases c : ((out.length : Nat) : Int) < 8
    · have hb := houseRack_bounds hh (rs.getD i 0)
      have hx : ∃ y ∈ l, y.1 = rs.getD i 0 := by rw [getD_eq (show i < rs.length by omega)]; exact hr _ (List.getElem_mem _)
      by_cases c2 : racks.getD (houseRack l (rs.getD i 0)).toNat 0 < 3
      · obtain ⟨p, ok, h1, hF⟩ := l112 l hh hl rs hr hrl n (i + 1) (out ++ [rs.getD i 0]) (racks.set (houseRack l (rs.getD i 0)).toNat (IntKind.wrap .i64 (racks.getD (houseRack l (rs.getD i 0)).toNat 0 + 1))) (by omega) (by simp; omega) (by
          intro x hx'
          rcases List.mem_append.1 hx' with g | g
          · exact hm x g
          · rw [List.mem_singleton] at g; subst g; exact hx) (by simpa using hk)
        refine ⟨p, ok, h1, ?_⟩
        refine FL_of1 ?_
        rw [eq112_L0, wS (by omega)]
        simp only [Int.toNat_natCast]
        exact Br_t (by omega) (Br_t c (Ck_d (by omega) (Ck_d (by omega) (Ck_le (by omega) ⟨_, c143 l _ hl, Ck_d (by omega) (Ck_d (by omega) (Ck_le (by omega) (Br_t c2 (Ck_d (by omega) (Ck_d (by omega) (Ck_le (by omega) (Ck_d (by omega) (Ck_d (by omega) (Ck_le (by omega) (Ck_d (by omega) (Ck_d (by omega) (Ck_le (by omega) (Ck_room (by omega) hF)))))))))))))⟩))))
      · obtain ⟨p, ok, h1, hF⟩ := l112 l hh hl rs hr hrl n (i + 1) out racks (by omega) ho hm hk
        refine ⟨p, ok, h1, ?_⟩
        refine FL_of1 ?_
        rw [eq112_L0, wS (by omega)]
        simp only [Int.toNat_natCast]
        exact Br_t (by omega) (Br_t c (Ck_d (by omega) (Ck_d (by omega) (Ck_le (by omega) ⟨_, c143 l _ hl, Ck_d (by omega) (Ck_d (by omega) (Ck_le (by omega) (Br_f c2 hF)))⟩))))
    · refine ⟨out, true, ⟨ho, hm⟩, ?_⟩
      refine FL_of1 ?_
      rw [eq112_L0]
      exact Br_t (by omega) (Br_f c (Br_f c ⟨rfl, rfl⟩))
theorem c112 (name : Int) (l : List House) (hl : l.length ≤ 1048576) : ∃ p ok, (p.length ≤ 8 ∧ ∀ x ∈ p, ∃ y ∈ l, y.1 = x) ∧ SC P 112 [.one (.int .i64 name), .one (.ro (.pair (.int .i64) (.pair (.int .i64) (.int .i64))) l)] [] [.one (.sl 0 none), .one (.bool ok)] [.row (.int .i64) p .own] := by
  cases hn : inB name 0 99 with
  | false =>
    refine ⟨[], false, by simp, ?_⟩
    refine SC_of_FB (H := H112) E_ok Try.func112 (by kernel_rfl) ?_
    rw [eq112]
    exact ⟨_, c109 _ _ _, Br_nb (fun _ => ⟨rfl, rfl⟩) (fun e => absurd (hn.symm.trans e) (by simp))⟩
  | true =>
    cases hk : housesOk l with
    | false =>
      refine ⟨[], false, by simp, ?_⟩
      refine SC_of_FB (H := H112) E_ok Try.func112 (by kernel_rfl) ?_
      rw [eq112]
      exact ⟨_, c109 _ _ _, Br_nb (fun e => absurd (hn.symm.trans e) (by simp)) (fun _ => ⟨_, c141 l hl, Br_nb (fun _ => ⟨rfl, rfl⟩) (fun e => absurd (hk.symm.trans e) (by simp))⟩)⟩
    | true =>
      have hh := (housesOk_iff.1 hk).1
      obtain ⟨p, ok, h1, hF⟩ := l112 l hh hl (ranksS name l) (fun x hx => ranksS_mem hx) (by rw [ranksS_length]; exact hl) (ranksS name l).length 0 [] [0, 0, 0, 0, 0] (by omega) (by simp) (by simp) rfl
      refine ⟨p, ok, h1, ?_⟩
      refine SC_of_FB (H := H112) E_ok Try.func112 (by kernel_rfl) ?_
      rw [eq112]
      exact ⟨_, c109 _ _ _, Br_nb (fun e => absurd (hn.symm.trans e) (by simp)) (fun _ => ⟨_, c141 l hl, Br_nb (fun e => absurd (hk.symm.trans e) (by simp)) (fun _ => ⟨_, c142 name l hn hh hl, hF⟩)⟩)⟩

/-! loop.example/keelson/spec.l92Places -/
def H59 : Hint := ⟨[], [], [], [], [], [], []⟩
theorem eq59 (b : List Int) (p : Int) (r : List W) (lh : Heap) : FB E H59 Try.f59 [.one (.ptr 0 0 0)] [.box [.ro (.int .u8) b, .int .i64 p]] r lh =
  (
   ∃ r0 : List Int × Int × List (Int × (Int × Int)), SC P 111 [.one (.ptr 0 0 0)] [.box [.ro (.int .u8) b, .int .i64 p]] [.one (.sl 1 none)] [.box [.ro (.int .u8) r0.1, .int .i64 r0.2.1], .row (.pair (.int .i64) (.pair (.int .i64) (.int .i64))) r0.2.2 .own] ∧
    ∃ r1 : List Int × Int × Int, SC P 60 [.one (.ptr 0 0 0), .one (.int .i64 100)] [.box [.ro (.int .u8) r0.1, .int .i64 r0.2.1]] [.one (.int .i64 r1.2.2)] [.box [.ro (.int .u8) r1.1, .int .i64 r1.2.1]] ∧
     ∃ r2 : List Int × Bool, SC P 112 [.one (.int .i64 r1.2.2), .one (.ro (.pair (.int .i64) (.pair (.int .i64) (.int .i64))) r0.2.2)] [] [.one (.sl 0 none), .one (.bool r2.2)] [.row (.int .i64) r2.1 .own] ∧
      Br (decide ((0 : Int) < ((r0.2.2.length : Nat) : Int))) (
       ∃ r3 : List Int × Int × Int, SC P 60 [.one (.ptr 0 0 0), .one (.int .i64 3)] [.box [.ro (.int .u8) r1.1, .int .i64 r1.2.1]] [.one (.int .i64 r3.2.2)] [.box [.ro (.int .u8) r3.1, .int .i64 r3.2.1]] ∧
        Br (decide ((0 : Int) < r3.2.2)) (
         ∃ r4 : List Int × Int × Int, SC P 60 [.one (.ptr 0 0 0), .one (.int .i64 ((r0.2.2.length : Nat) : Int))] [.box [.ro (.int .u8) r3.1, .int .i64 r3.2.1]] [.one (.int .i64 r4.2.2)] [.box [.ro (.int .u8) r4.1, .int .i64 r4.2.1]] ∧
          Ck (decide ((0 : Int) ≤ r4.2.2)) (
           Ck (decide (r4.2.2 < ((r0.2.2.length : Nat) : Int))) (
            Ck (Nat.blt r4.2.2.toNat r0.2.2.length) (
             ∃ r5 : List (Int × (Int × Int)), SC P 113 [.one (.ro (.pair (.int .i64) (.pair (.int .i64) (.int .i64))) r0.2.2), .one (.int .i64 ((r0.2.2.getD r4.2.2.toNat (0, (0, 0))).1))] [] [.one (.sl 0 none)] [.row (.pair (.int .i64) (.pair (.int .i64) (.int .i64))) r5 .own] ∧
              ∃ r6 : List Int × Int × Int, SC P 60 [.one (.ptr 0 0 0), .one (.int .i64 2)] [.box [.ro (.int .u8) r4.1, .int .i64 r4.2.1]] [.one (.int .i64 r6.2.2)] [.box [.ro (.int .u8) r6.1, .int .i64 r6.2.1]] ∧
               ∃ r7 : List Int × Bool, SC P 112 [.one (.int .i64 (Int.tmod (IntKind.wrap .i64 (r1.2.2 + r6.2.2)) 100)), .one (.ro (.pair (.int .i64) (.pair (.int .i64) (.int .i64))) r5)] [] [.one (.sl 0 none), .one (.bool r7.2)] [.row (.int .i64) r7.1 .own] ∧
                Ret r lh [.one (.sl 1 none), .one (.sl 2 none)] [.box [.ro (.int .u8) r6.1, .int .i64 r6.2.1], .row (.int .i64) r2.1 .own, .row (.int .i64) r7.1 .own])))) (
         ∃ r8 : List Int × Int × Int, SC P 60 [.one (.ptr 0 0 0), .one (.int .i64 2)] [.box [.ro (.int .u8) r3.1, .int .i64 r3.2.1]] [.one (.int .i64 r8.2.2)] [.box [.ro (.int .u8) r8.1, .int .i64 r8.2.1]] ∧
          ∃ r9 : List Int × Bool, SC P 112 [.one (.int .i64 (Int.tmod (IntKind.wrap .i64 (r1.2.2 + r8.2.2)) 100)), .one (.ro (.pair (.int .i64) (.pair (.int .i64) (.int .i64))) r0.2.2)] [] [.one (.sl 0 none), .one (.bool r9.2)] [.row (.int .i64) r9.1 .own] ∧
           Ret r lh [.one (.sl 1 none), .one (.sl 2 none)] [.box [.ro (.int .u8) r8.1, .int .i64 r8.2.1], .row (.int .i64) r2.1 .own, .row (.int .i64) r9.1 .own])) (
       ∃ r10 : List Int × Int × Int, SC P 60 [.one (.ptr 0 0 0), .one (.int .i64 2)] [.box [.ro (.int .u8) r1.1, .int .i64 r1.2.1]] [.one (.int .i64 r10.2.2)] [.box [.ro (.int .u8) r10.1, .int .i64 r10.2.1]] ∧
        ∃ r11 : List Int × Bool, SC P 112 [.one (.int .i64 (Int.tmod (IntKind.wrap .i64 (r1.2.2 + r10.2.2)) 100)), .one (.ro (.pair (.int .i64) (.pair (.int .i64) (.int .i64))) r0.2.2)] [] [.one (.sl 0 none), .one (.bool r11.2)] [.row (.int .i64) r11.1 .own] ∧
         Ret r lh [.one (.sl 1 none), .one (.sl 2 none)] [.box [.ro (.int .u8) r10.1, .int .i64 r10.2.1], .row (.int .i64) r2.1 .own, .row (.int .i64) r11.1 .own])) := by kernel_rfl
theorem c59 (b : List Int) (p : Int) (hb : RdB b) (h0 : 0 ≤ p) (h1 : p ≤ 400) : ∃ a c p', (a.length ≤ 8 ∧ c.length ≤ 8) ∧ (0 ≤ p' ∧ p' ≤ p + 70) ∧
    SC P 59 [.one (.ptr 0 0 0)] [.box [.ro (.int .u8) b, .int .i64 p]] [.one (.sl 1 none), .one (.sl 2 none)] [.box [.ro (.int .u8) b, .int .i64 p'], .row (.int .i64) a .own, .row (.int .i64) c .own] := by
  obtain ⟨l, q, hl, q0, q1, s1⟩ := c111 b p hb h0 (by omega)
  obtain ⟨v2, a2, b2, s2⟩ := c60 b q 100 hb q0 (by omega) (by omega)
  obtain ⟨is, ok, h3, s3⟩ := c112 v2 l (by omega)
  by_cases c0 : (0 : Int) < ((l.length : Nat) : Int)
  · obtain ⟨v3, a3, b3, s4⟩ := c60 b (q + 1) 3 hb (by omega) (by omega) (by omega)
    by_cases c1 : 0 < v3
    · obtain ⟨v4, a4, b4, s5⟩ := c60 b (q + 1 + 1) (l.length : Int) hb (by omega) (by omega) (by omega)
      have hm : (housesLess l (l.getD v4.toNat (0, 0, 0)).1).length ≤ 13 := Nat.le_trans (List.length_filter_le _ _) hl
      obtain ⟨v5, a5, b5, s6⟩ := c60 b (q + 1 + 1 + 1) 2 hb (by omega) (by omega) (by omega)
      obtain ⟨is2, ok2, h4, s7⟩ := c112 (Int.tmod (IntKind.wrap .i64 (v2 + v5)) 100) (housesLess l (l.getD v4.toNat (0, 0, 0)).1) (by omega)
      refine ⟨is, is2, q + 1 + 1 + 1 + 1, ⟨h3.1, h4.1⟩, by omega, ?_⟩
      refine SC_of_FB (H := H59) E_ok Try.func59 (by kernel_rfl) ?_
      rw [eq59]
      exact ⟨(b, q, l), s1, (b, q + 1, v2), s2, (is, ok), s3, Br_t c0 ⟨(b, q + 1 + 1, v3), s4, Br_t c1 ⟨(b, q + 1 + 1 + 1, v4), s5, Ck_d a4 (Ck_d b4 (Ck_lt (by dsimp only; omega) ⟨_, c113 l _ (by omega), (b, q + 1 + 1 + 1 + 1, v5), s6, (is2, ok2), s7, rfl, rfl⟩))⟩⟩⟩
    · obtain ⟨v5, a5, b5, s6⟩ := c60 b (q + 1 + 1) 2 hb (by omega) (by omega) (by omega)
      obtain ⟨is2, ok2, h4, s7⟩ := c112 (Int.tmod (IntKind.wrap .i64 (v2 + v5)) 100) l (by omega)
      refine ⟨is, is2, q + 1 + 1 + 1, ⟨h3.1, h4.1⟩, by omega, ?_⟩
      refine SC_of_FB (H := H59) E_ok Try.func59 (by kernel_rfl) ?_
      rw [eq59]
      exact ⟨(b, q, l), s1, (b, q + 1, v2), s2, (is, ok), s3, Br_t c0 ⟨(b, q + 1 + 1, v3), s4, Br_f c1 ⟨(b, q + 1 + 1 + 1, v5), s6, (is2, ok2), s7, rfl, rfl⟩⟩⟩
  · obtain ⟨v5, a5, b5, s6⟩ := c60 b (q + 1) 2 hb (by omega) (by omega) (by omega)
    obtain ⟨is2, ok2, h4, s7⟩ := c112 (Int.tmod (IntKind.wrap .i64 (v2 + v5)) 100) l (by omega)
    refine ⟨is, is2, q + 1 + 1, ⟨h3.1, h4.1⟩, by omega, ?_⟩
    refine SC_of_FB (H := H59) E_ok Try.func59 (by kernel_rfl) ?_
    rw [eq59]
    exact ⟨(b, q, l), s1, (b, q + 1, v2), s2, (is, ok), s3, Br_f c0 ⟨(b, q + 1 + 1, v5), s6, (is2, ok2), s7, rfl, rfl⟩⟩

theorem less_rack {l : List House} {id : Int} (h : housesOk l = true) {x : House} (hx : x ∈ l) (hne : x.1 ≠ id) : houseRack (housesLess l id) x.1 = x.2.1 := by
  have h2 := housesOk_iff.1 (housesOk_less id h)
  exact houseRack_mem h2.2 (List.mem_filter.2 ⟨hx, by simpa using hne⟩)

theorem form_less {l : List House} (h : housesOk l = true) (k : Nat) : housesOk (l.take k ++ l.drop (k + 1)) = true := by
  rw [← List.eraseIdx_eq_take_drop_succ]
  exact housesOk_sub (List.eraseIdx_sublist _ _) h
theorem form_twice {l : List House} {k : Nat} (hk : k < l.length) : housesOk (l.take (k + 1) ++ l.drop k) = false := by
  cases e : housesOk (l.take (k + 1) ++ l.drop k) with
  | false => rfl
  | true =>
    rw [housesOk_iff, List.pairwise_append] at e
    have := e.2.2.2 l[k] (by rw [take_succ' hk]; exact List.mem_append_right _ (List.mem_singleton.2 rfl)) l[k] (by rw [drop_cons hk]; exact List.mem_cons_self)
    omega
theorem form_bad {l : List House} {k : Nat} (hk : k < l.length) (a b : Int) : housesOk (l.set k (a, b, 0)) = false := by
  cases e : housesOk (l.set k (a, b, 0)) with
  | false => rfl
  | true =>
    rw [housesOk_iff] at e
    have := houseOk_iff.1 (e.1 (a, b, 0) (List.mem_set hk _))
    dsimp only at this
    omega

end Go.Proofs.Ytlebgbcoljnejaa.Sh
