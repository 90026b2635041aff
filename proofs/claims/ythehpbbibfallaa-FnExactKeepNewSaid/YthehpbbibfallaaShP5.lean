/- Stripes and keeps that are new: contracts, and the exact laws on them. -/
import Derived.Test.YthehpbbibfallaaShP2
namespace Go.Proofs.Ythehpbbibfallaa.Sh
open Go
set_option linter.unusedVariables false
set_option linter.unusedSimpArgs false
/-! loop.example/keelson/laws.eqBoolS -/
def H114 : Hint := ⟨[[(0, 0, .bool), (1, 0, .bool), (5, 0, .bool)]], [], [(6, [0, 1, 2, 3, 4, 5, 6, 7, 8])], [], [], []⟩
def S114_L0 (a0 : List Bool) (b1 : List Bool) (i5 : Int) : St := ⟨[(0, .w (.one (.ro .bool a0))), (1, .w (.one (.ro .bool b1))), (5, .w (.one (.int .i64 i5)))], []⟩
theorem eq114 (a : List Bool) (b : List Bool) (r : List W) (lh : Heap) : FB E H114 Try.f114 [.one (.ro .bool a), .one (.ro .bool b)] [] r lh =
  (
   Br (!(decide (((a.length : Nat) : Int) = ((b.length : Nat) : Int)))) (
    Ret r lh [.one (.bool false)] []) (
    FL E H114 Try.f114 0 r lh 0 (S114_L0 a b 0))) := by kernel_rfl
theorem eq114_L0 (a0 : List Bool) (b1 : List Bool) (i5 : Int) (r : List W) (lh : Heap) : FL1 E H114 Try.f114 0 r lh 0 (S114_L0 a0 b1 i5) =
  (
   Br (decide (i5 < ((a0.length : Nat) : Int))) (
    Ck (decide ((0 : Int) ≤ i5)) (
     Ck (decide (i5 < ((a0.length : Nat) : Int))) (
      Ck (decide ((0 : Int) ≤ i5)) (
       Ck (decide (i5 < ((b1.length : Nat) : Int))) (
        Br ((a0.getD i5.toNat false) != (b1.getD i5.toNat false)) (
         Ret r lh [.one (.bool false)] []) (
         FL E H114 Try.f114 0 r lh 0 (S114_L0 a0 b1 (IntKind.wrap .i64 (i5 + 1))))))))) (
    Ret r lh [.one (.bool true)] [])) := by kernel_rfl
theorem l114 (a b : List Bool) (hl : a.length ≤ 1048576) (hb : a.length = b.length) : ∀ (n i : Nat), i + n = a.length → FL E H114 Try.f114 0 [.one (.bool (allR (fun j => decide (a.getD j false = b.getD j false)) i n))] [] 0 (S114_L0 a b (i : Int))
  | 0, i, h => by
    refine FL_of1 ?_
    rw [eq114_L0]
    exact Br_f (by omega) ⟨rfl, rfl⟩
  | n + 1, i, h => by
    refine FL_of1 ?_
    rw [eq114_L0, wS (by omega)]
    simp only [Int.toNat_natCast]
    refine Br_t (by omega) (Ck_d (by omega) (Ck_d (by omega) (Ck_d (by omega) (Ck_d (by omega) (Br_b (fun h1 => ?_) (fun h1 => ?_))))))
    · exact ⟨by rw [allR_f (by simpa using h1)], rfl⟩
    · rw [allR_t (by simpa using h1)]
      exact l114 a b hl hb n (i + 1) (by omega)
theorem c114 (a b : List Bool) (hl : a.length ≤ 1048576) : SC P 114 [.one (.ro (.bool) a), .one (.ro (.bool) b)] [] [.one (.bool (decide (a = b)))] [] := by
  refine SC_of_FB (H := H114) E_ok Try.func114 (by kernel_rfl) ?_
  rw [eq114]
  refine Br_nd (fun h => ⟨?_, rfl⟩) (fun h => ?_)
  · rw [decide_eq_false (by rintro rfl; exact h rfl)]
  · have h : a.length = b.length := by omega
    rw [← eqR (z := false) h]
    exact l114 a b hl h a.length 0 (by omega)
/-! loop.example/keelson/laws.markBoolS -/
def H115 : Hint := ⟨[[(0, 0, .bool), (1, 0, .bool), (5, 0, .bool)]], [], [], [], [], []⟩
def S115_L0 (k1 : Int) (i5 : Int) (h0 : List Bool) : St := ⟨[(0, .w (.one (.sl 0 none))), (1, .w (.one (.int .i64 k1))), (5, .w (.one (.int .i64 i5)))], [.row .bool h0 .own]⟩
theorem eq115 (l : List Bool) (k : Int) (r : List W) (lh : Heap) : FB E H115 Try.f115 [.one (.sl 0 none), .one (.int .i64 k)] [.row .bool l .own] r lh =
  (
   FL E H115 Try.f115 1 r lh 0 (S115_L0 k 0 l)) := by kernel_rfl
theorem eq115_L0 (k1 : Int) (i5 : Int) (h0 : List Bool) (r : List W) (lh : Heap) : FL1 E H115 Try.f115 1 r lh 0 (S115_L0 k1 i5 h0) =
  (
   Br (decide (i5 < ((h0.length : Nat) : Int))) (
    Ck (decide ((0 : Int) ≤ i5)) (
     Ck (decide (i5 < ((h0.length : Nat) : Int))) (
      Ck (Nat.ble (i5.toNat + 1) h0.length) (
       FL E H115 Try.f115 1 r lh 0 (S115_L0 (IntKind.wrap .i64 (k1 + 1)) (IntKind.wrap .i64 (i5 + 1)) (h0.set i5.toNat (decide ((Int.tmod k1 3) = (0 : Int))))))))) (
    Ret r lh [.one (.int .i64 k1)] [.row .bool h0 .own])) := by kernel_rfl
theorem l115 (k : Int) (m : Nat) (hm : m ≤ 1048576) (k0 : 0 ≤ k) (k1 : k ≤ 1073741824) : ∀ (n i : Nat) (out : List Bool), i + n = m → out.length = m → (∀ j, j < i → out[j]? = (marks (fun k : Int => decide (Int.tmod k 3 = 0)) k m)[j]?) →
    FL E H115 Try.f115 1 [.one (.int .i64 (k + m))] [.row (.bool) (marks (fun k : Int => decide (Int.tmod k 3 = 0)) k m) .own] 0 (S115_L0 (k + (i : Int)) (i : Int) out)
  | 0, i, out, h, ho, H => by
    refine FL_of1 ?_
    rw [eq115_L0]
    obtain rfl : out = marks (fun k : Int => decide (Int.tmod k 3 = 0)) k m := fill_done (by rw [marks_length]; exact ho) fun j hj => H j (by rw [marks_length] at hj; omega)
    refine Br_f (by omega) ⟨?_, rfl⟩
    rw [show (i : Int) = m by omega]
  | n + 1, i, out, h, ho, H => by
    refine FL_of1 ?_
    rw [eq115_L0, wS (by omega), wrap64 (n := k + (i : Int) + 1) (by omega) (by omega), show k + (i : Int) + 1 = k + ((i + 1 : Nat) : Int) by omega]
    simp only [Int.toNat_natCast]
    refine Br_t (by omega) (Ck_d (by omega) (Ck_d (by omega) (Ck_lt (by omega) ?_)))
    exact l115 k m hm k0 k1 n (i + 1) _ (by omega) (by simp [ho]) (fill_step (by rw [marks_length]; exact ho) (by rw [marks_get (by omega)]) H)
theorem c115 (l : List Bool) (k : Int) (hl : l.length ≤ 1048576) (k0 : 0 ≤ k) (k1 : k ≤ 1073741824) : SC P 115 [.one (.sl 0 none), .one (.int .i64 k)] [.row (.bool) l .own] [.one (.int .i64 (k + l.length))] [.row (.bool) (marks (fun k : Int => decide (Int.tmod k 3 = 0)) k l.length) .own] := by
  refine SC_of_FB (H := H115) E_ok Try.func115 (by kernel_rfl) ?_
  rw [eq115]
  have := l115 k l.length hl k0 k1 l.length 0 l (by omega) rfl (fun j hj => absurd hj (by omega))
  rw [show k + ((0 : Nat) : Int) = k by omega] at this
  exact this
/-! loop.example/keelson/laws.heldBoolS -/
def H116 : Hint := ⟨[[(0, 0, .bool), (1, 0, .bool), (5, 0, .bool)]], [], [], [], [], []⟩
def S116_L0 (a0 : List Bool) (k1 : Int) (i5 : Int) : St := ⟨[(0, .w (.one (.ro .bool a0))), (1, .w (.one (.int .i64 k1))), (5, .w (.one (.int .i64 i5)))], []⟩
theorem eq116 (a : List Bool) (k : Int) (r : List W) (lh : Heap) : FB E H116 Try.f116 [.one (.ro .bool a), .one (.int .i64 k)] [] r lh =
  (
   FL E H116 Try.f116 0 r lh 0 (S116_L0 a k 0)) := by kernel_rfl
theorem eq116_L0 (a0 : List Bool) (k1 : Int) (i5 : Int) (r : List W) (lh : Heap) : FL1 E H116 Try.f116 0 r lh 0 (S116_L0 a0 k1 i5) =
  (
   Br (decide (i5 < ((a0.length : Nat) : Int))) (
    Ck (decide ((0 : Int) ≤ i5)) (
     Ck (decide (i5 < ((a0.length : Nat) : Int))) (
      Br ((a0.getD i5.toNat false) != (decide ((Int.tmod k1 3) = (0 : Int)))) (
       Ret r lh [.one (.int .i64 (-1))] []) (
       FL E H116 Try.f116 0 r lh 0 (S116_L0 a0 (IntKind.wrap .i64 (k1 + 1)) (IntKind.wrap .i64 (i5 + 1))))))) (
    Ret r lh [.one (.int .i64 k1)] [])) := by kernel_rfl
theorem l116 (k : Int) (m : Nat) (hm : m ≤ 1048576) (k0 : 0 ≤ k) (k1 : k ≤ 1073741824) : ∀ (n i : Nat), i + n = m →
    FL E H116 Try.f116 0 [.one (.int .i64 (k + m))] [] 0 (S116_L0 (marks (fun k : Int => decide (Int.tmod k 3 = 0)) k m) (k + (i : Int)) (i : Int))
  | 0, i, h => by
    refine FL_of1 ?_
    rw [eq116_L0, marks_length]
    refine Br_f (by omega) ⟨?_, rfl⟩
    rw [show (i : Int) = m by omega]
  | n + 1, i, h => by
    refine FL_of1 ?_
    rw [eq116_L0, marks_length, wS (by omega), wrap64 (n := k + (i : Int) + 1) (by omega) (by omega), show k + (i : Int) + 1 = k + ((i + 1 : Nat) : Int) by omega]
    simp only [Int.toNat_natCast]
    have e := marks_getD (g := fun k : Int => decide (Int.tmod k 3 = 0)) (k := k) (n := m) (i := i) (z := false) (by omega)
    refine Br_t (by omega) (Ck_d (by omega) (Ck_d (by omega) (Br_b (fun h1 => ?_) (fun h1 => ?_))))
    · rw [e] at h1; simp at h1
    · exact l116 k m hm k0 k1 n (i + 1) (by omega)
theorem c116 (k : Int) (m : Nat) (hl : m ≤ 1048576) (k0 : 0 ≤ k) (k1 : k ≤ 1073741824) : SC P 116 [.one (.ro (.bool) (marks (fun k : Int => decide (Int.tmod k 3 = 0)) k m)), .one (.int .i64 k)] [] [.one (.int .i64 (k + m))] [] := by
  refine SC_of_FB (H := H116) E_ok Try.func116 (by kernel_rfl) ?_
  rw [eq116]
  have := l116 k m hl k0 k1 m 0 (by omega)
  rw [show k + ((0 : Nat) : Int) = k by omega] at this
  exact this
/-! math/bits.Mul64 -/
def H135 : Hint := ⟨[], [], [], [], [], []⟩
theorem eq135 (r : List W) (lh : Heap) : FB E H135 Try.f135 [.one (.int .u64 1), .one (.int .u64 8)] [] r lh =
  (
   Ret r lh [.one (.int .u64 0), .one (.int .u64 8)] []) := by kernel_rfl
theorem c135 : SC P 135 [.one (.int .u64 1), .one (.int .u64 8)] [] [.one (.int .u64 0), .one (.int .u64 8)] [] := by
  refine SC_of_FB (H := H135) E_ok Try.func135 (by kernel_rfl) ?_
  rw [eq135]
  exact ⟨rfl, rfl⟩
/-! math/bits.Mul -/
def H128 : Hint := ⟨[], [], [], [], [], []⟩
theorem eq128 (r : List W) (lh : Heap) : FB E H128 Try.f128 [.one (.int .u64 1), .one (.int .u64 8)] [] r lh =
  (
   ∃ r0 : Int × Int, SC P 135 [.one (.int .u64 1), .one (.int .u64 8)] [] [.one (.int .u64 r0.1), .one (.int .u64 r0.2)] [] ∧
    Ret r lh [.one (.int .u64 r0.1), .one (.int .u64 r0.2)] []) := by kernel_rfl
theorem c128 : SC P 128 [.one (.int .u64 1), .one (.int .u64 8)] [] [.one (.int .u64 0), .one (.int .u64 8)] [] := by
  refine SC_of_FB (H := H128) E_ok Try.func128 (by kernel_rfl) ?_
  rw [eq128]
  exact ⟨(0, 8), c135, rfl, rfl⟩
/-! slices.Repeat[[]int,int] -/
def H112 : Hint := ⟨[[(7, 0, .bool), (8, 0, .bool)]], [], [(9, [0, 1, 2, 3, 4, 5, 6, 7, 8, 9])], [], [], []⟩
def S112_L0 (n8 : Int) (h0 : List Int) : St := ⟨[(7, .w (.one (.sl 0 none))), (8, .w (.one (.int .i64 n8)))], [.row (.int .i64) h0 .own]⟩
theorem eq112 (v : Int) (r : List W) (lh : Heap) : FB E H112 Try.f112 [.one (.ro (.int .i64) [v]), .one (.int .i64 8)] [] r lh =
  (
   ∃ r0 : Int × Int, SC P 128 [.one (.int .u64 1), .one (.int .u64 8)] [] [.one (.int .u64 r0.1), .one (.int .u64 r0.2)] [] ∧
    Br (decide ((0 : Int) < r0.1)) (
     False) (
     Br (decide ((9223372036854775807 : Int) < r0.2)) (
      False) (
      Ck (decide ((0 : Int) ≤ (IntKind.wrap .i64 r0.2))) (
       Ck (decide ((IntKind.wrap .i64 r0.2) ≤ (IntKind.wrap .i64 r0.2))) (
        Ck (decide ((IntKind.wrap .i64 r0.2) * (8 : Nat) ≤ (roomy : Int))) (
         FL E H112 Try.f112 0 r lh 0 (S112_L0 (((min 1 ((List.replicate ((IntKind.wrap .i64 r0.2).toNat) (0 : Int)).length)) : Nat) : Int) ([v].take ((List.replicate ((IntKind.wrap .i64 r0.2).toNat) (0 : Int)).length) ++ (List.replicate ((IntKind.wrap .i64 r0.2).toNat) (0 : Int)).drop (min 1 ((List.replicate ((IntKind.wrap .i64 r0.2).toNat) (0 : Int)).length)))))))))) := by kernel_rfl
theorem eq112_L0 (n8 : Int) (h0 : List Int) (r : List W) (lh : Heap) : FL1 E H112 Try.f112 0 r lh 0 (S112_L0 n8 h0) =
  (
   Br (decide (n8 < ((h0.length : Nat) : Int))) (
    Ck (decide ((0 : Int) ≤ n8)) (
     Ck (decide (n8 ≤ ((h0.length : Nat) : Int))) (
      Ck (decide (((h0.length : Nat) : Int) ≤ ((h0.length : Nat) : Int))) (
       Ck (decide (((h0.length : Nat) : Int) ≤ ((h0.length : Nat) : Int))) (
        Ck (decide ((0 : Int) ≤ n8)) (
         Ck (decide (n8 ≤ ((h0.length : Nat) : Int))) (
          Ck (decide (((h0.length : Nat) : Int) ≤ ((h0.length : Nat) : Int))) (
           FL E H112 Try.f112 0 r lh 0 (S112_L0 (IntKind.wrap .i64 (n8 + (((min (((h0.drop 0).take n8.toNat).length) (((h0.length : Nat) : Int).toNat - n8.toNat)) : Nat) : Int))) (h0.take n8.toNat ++ ((h0.drop 0).take n8.toNat).take (((h0.length : Nat) : Int).toNat - n8.toNat) ++ h0.drop (n8.toNat + (min (((h0.drop 0).take n8.toNat).length) (((h0.length : Nat) : Int).toNat - n8.toNat))))))))))))) (
    Ret r lh [.one (.sl 0 none)] [.row (.int .i64) h0 .own])) := by kernel_rfl
theorem l112_4 (v : Int) : FL E H112 Try.f112 0 [.one (.sl 0 none)] [.row (.int .i64) [v, v, v, v, v, v, v, v] .own] 0 (S112_L0 8 [v, v, v, v, v, v, v, v]) := by
  refine FL_of1 ?_
  rw [eq112_L0]
  exact Br_f (by simp) ⟨rfl, rfl⟩
theorem l112_3 (v : Int) : FL E H112 Try.f112 0 [.one (.sl 0 none)] [.row (.int .i64) [v, v, v, v, v, v, v, v] .own] 0 (S112_L0 4 [v, v, v, v, 0, 0, 0, 0]) := by
  refine FL_of1 ?_
  rw [eq112_L0]
  exact Br_t (by simp) (Ck_d (by omega) (Ck_d (by simp) (Ck_d (by omega) (Ck_d (by omega) (Ck_d (by omega) (Ck_d (by simp) (Ck_d (by omega) (l112_4 v))))))))
theorem l112_2 (v : Int) : FL E H112 Try.f112 0 [.one (.sl 0 none)] [.row (.int .i64) [v, v, v, v, v, v, v, v] .own] 0 (S112_L0 2 [v, v, 0, 0, 0, 0, 0, 0]) := by
  refine FL_of1 ?_
  rw [eq112_L0]
  exact Br_t (by simp) (Ck_d (by omega) (Ck_d (by simp) (Ck_d (by omega) (Ck_d (by omega) (Ck_d (by omega) (Ck_d (by simp) (Ck_d (by omega) (l112_3 v))))))))
theorem l112_1 (v : Int) : FL E H112 Try.f112 0 [.one (.sl 0 none)] [.row (.int .i64) [v, v, v, v, v, v, v, v] .own] 0 (S112_L0 1 [v, 0, 0, 0, 0, 0, 0, 0]) := by
  refine FL_of1 ?_
  rw [eq112_L0]
  exact Br_t (by simp) (Ck_d (by omega) (Ck_d (by simp) (Ck_d (by omega) (Ck_d (by omega) (Ck_d (by omega) (Ck_d (by simp) (Ck_d (by omega) (l112_2 v))))))))
theorem c112 (v : Int) : SC P 112 [.one (.ro (.int .i64) [v]), .one (.int .i64 8)] [] [.one (.sl 0 none)] [.row (.int .i64) [v, v, v, v, v, v, v, v] .own] := by
  refine SC_of_FB (H := H112) E_ok Try.func112 (by kernel_rfl) ?_
  rw [eq112]
  exact ⟨(0, 8), c128, Br_f (by simp) (Br_f (by simp) (Ck_d (by decide) (Ck_d (by omega) (Ck_d (by decide) (l112_1 v)))))⟩
/-! slices.Repeat[[]bool,bool] -/
def H113 : Hint := ⟨[[(7, 0, .bool), (8, 0, .bool)]], [], [(9, [0, 1, 2, 3, 4, 5, 6, 7, 8, 9])], [], [], []⟩
def S113_L0 (n8 : Int) (h0 : List Bool) : St := ⟨[(7, .w (.one (.sl 0 none))), (8, .w (.one (.int .i64 n8)))], [.row .bool h0 .own]⟩
theorem eq113 (v : Bool) (r : List W) (lh : Heap) : FB E H113 Try.f113 [.one (.ro .bool [v]), .one (.int .i64 8)] [] r lh =
  (
   ∃ r0 : Int × Int, SC P 128 [.one (.int .u64 1), .one (.int .u64 8)] [] [.one (.int .u64 r0.1), .one (.int .u64 r0.2)] [] ∧
    Br (decide ((0 : Int) < r0.1)) (
     False) (
     Br (decide ((9223372036854775807 : Int) < r0.2)) (
      False) (
      Ck (decide ((0 : Int) ≤ (IntKind.wrap .i64 r0.2))) (
       Ck (decide ((IntKind.wrap .i64 r0.2) ≤ (IntKind.wrap .i64 r0.2))) (
        Ck (decide ((IntKind.wrap .i64 r0.2) * (1 : Nat) ≤ (roomy : Int))) (
         FL E H113 Try.f113 0 r lh 0 (S113_L0 (((min 1 ((List.replicate ((IntKind.wrap .i64 r0.2).toNat) (false : Bool)).length)) : Nat) : Int) ([v].take ((List.replicate ((IntKind.wrap .i64 r0.2).toNat) (false : Bool)).length) ++ (List.replicate ((IntKind.wrap .i64 r0.2).toNat) (false : Bool)).drop (min 1 ((List.replicate ((IntKind.wrap .i64 r0.2).toNat) (false : Bool)).length)))))))))) := by kernel_rfl
theorem eq113_L0 (n8 : Int) (h0 : List Bool) (r : List W) (lh : Heap) : FL1 E H113 Try.f113 0 r lh 0 (S113_L0 n8 h0) =
  (
   Br (decide (n8 < ((h0.length : Nat) : Int))) (
    Ck (decide ((0 : Int) ≤ n8)) (
     Ck (decide (n8 ≤ ((h0.length : Nat) : Int))) (
      Ck (decide (((h0.length : Nat) : Int) ≤ ((h0.length : Nat) : Int))) (
       Ck (decide (((h0.length : Nat) : Int) ≤ ((h0.length : Nat) : Int))) (
        Ck (decide ((0 : Int) ≤ n8)) (
         Ck (decide (n8 ≤ ((h0.length : Nat) : Int))) (
          Ck (decide (((h0.length : Nat) : Int) ≤ ((h0.length : Nat) : Int))) (
           FL E H113 Try.f113 0 r lh 0 (S113_L0 (IntKind.wrap .i64 (n8 + (((min (((h0.drop 0).take n8.toNat).length) (((h0.length : Nat) : Int).toNat - n8.toNat)) : Nat) : Int))) (h0.take n8.toNat ++ ((h0.drop 0).take n8.toNat).take (((h0.length : Nat) : Int).toNat - n8.toNat) ++ h0.drop (n8.toNat + (min (((h0.drop 0).take n8.toNat).length) (((h0.length : Nat) : Int).toNat - n8.toNat))))))))))))) (
    Ret r lh [.one (.sl 0 none)] [.row .bool h0 .own])) := by kernel_rfl
theorem l113_4 (v : Bool) : FL E H113 Try.f113 0 [.one (.sl 0 none)] [.row (.bool) [v, v, v, v, v, v, v, v] .own] 0 (S113_L0 8 [v, v, v, v, v, v, v, v]) := by
  refine FL_of1 ?_
  rw [eq113_L0]
  exact Br_f (by simp) ⟨rfl, rfl⟩
theorem l113_3 (v : Bool) : FL E H113 Try.f113 0 [.one (.sl 0 none)] [.row (.bool) [v, v, v, v, v, v, v, v] .own] 0 (S113_L0 4 [v, v, v, v, false, false, false, false]) := by
  refine FL_of1 ?_
  rw [eq113_L0]
  exact Br_t (by simp) (Ck_d (by omega) (Ck_d (by simp) (Ck_d (by omega) (Ck_d (by omega) (Ck_d (by omega) (Ck_d (by simp) (Ck_d (by omega) (l113_4 v))))))))
theorem l113_2 (v : Bool) : FL E H113 Try.f113 0 [.one (.sl 0 none)] [.row (.bool) [v, v, v, v, v, v, v, v] .own] 0 (S113_L0 2 [v, v, false, false, false, false, false, false]) := by
  refine FL_of1 ?_
  rw [eq113_L0]
  exact Br_t (by simp) (Ck_d (by omega) (Ck_d (by simp) (Ck_d (by omega) (Ck_d (by omega) (Ck_d (by omega) (Ck_d (by simp) (Ck_d (by omega) (l113_3 v))))))))
theorem l113_1 (v : Bool) : FL E H113 Try.f113 0 [.one (.sl 0 none)] [.row (.bool) [v, v, v, v, v, v, v, v] .own] 0 (S113_L0 1 [v, false, false, false, false, false, false, false]) := by
  refine FL_of1 ?_
  rw [eq113_L0]
  exact Br_t (by simp) (Ck_d (by omega) (Ck_d (by simp) (Ck_d (by omega) (Ck_d (by omega) (Ck_d (by omega) (Ck_d (by simp) (Ck_d (by omega) (l113_2 v))))))))
theorem c113 (v : Bool) : SC P 113 [.one (.ro (.bool) [v]), .one (.int .i64 8)] [] [.one (.sl 0 none)] [.row (.bool) [v, v, v, v, v, v, v, v] .own] := by
  refine SC_of_FB (H := H113) E_ok Try.func113 (by kernel_rfl) ?_
  rw [eq113]
  exact ⟨(0, 8), c128, Br_f (by simp) (Br_f (by simp) (Ck_d (by decide) (Ck_d (by omega) (Ck_d (by decide) (l113_1 v)))))⟩
abbrev Str := Int × List Int × List Int × List Bool
def stripeOk (kind : Int) (d : List Int) (vers : Int) : Bool := (inB kind 1 2 && vecOk d) && inB vers 1 99
def stripeF (kind : Int) (d : List Int) (vers : Int) : Str := bif stripeOk kind d vers then (kind, allF kind (vecF d), [vers, vers, vers, vers, vers, vers, vers, vers], [true, true, true, true, true, true, true, true]) else (0, [], [], [])
theorem stripeF_len {kind : Int} {d : List Int} {vers : Int} : (stripeF kind d vers).2.1.length ≤ 8 ∧ (stripeF kind d vers).2.2.1.length ≤ 8 ∧ (stripeF kind d vers).2.2.2.length ≤ 8 := by
  rw [stripeF]
  cases stripeOk kind d vers
  · exact ⟨Nat.zero_le _, Nat.zero_le _, Nat.zero_le _⟩
  · exact ⟨Nat.le_of_eq (allF_length _ _), Nat.le_refl _, Nat.le_refl _⟩
theorem Br_ne' {b : Bool} {A B : Prop} (h : B) : Br (b != b) A B := by cases b <;> exact h
/-! loop.example/keelson/spec.l4Set -/
def H127 : Hint := ⟨[[(0, 0, .bool), (3, 0, .bool), (4, 0, .bool)]], [], [], [], [], []⟩
def S127_L0 (bits0 : Int) (i4 : Int) (h0 : List Bool) : St := ⟨[(0, .w (.one (.int .i64 bits0))), (3, .w (.one (.sl 0 none))), (4, .w (.one (.int .i64 i4)))], [.row .bool h0 .own]⟩
theorem eq127 (bits : Int) (r : List W) (lh : Heap) : FB E H127 Try.f127 [.one (.int .i64 bits)] [] r lh =
  (
   FL E H127 Try.f127 0 r lh 0 (S127_L0 bits 0 [false, false, false, false, false, false, false, false])) := by kernel_rfl
theorem eq127_L0 (bits0 : Int) (i4 : Int) (h0 : List Bool) (r : List W) (lh : Heap) : FL1 E H127 Try.f127 0 r lh 0 (S127_L0 bits0 i4 h0) =
  (
   Br (decide (i4 < ((h0.length : Nat) : Int))) (
    Ck (decide ((0 : Int) ≤ i4)) (
     Ck (decide (i4 < ((h0.length : Nat) : Int))) (
      Ck (Nat.ble (i4.toNat + 1) h0.length) (
       FL E H127 Try.f127 0 r lh 0 (S127_L0 (IntKind.wrap .i64 (Int.tdiv bits0 2)) (IntKind.wrap .i64 (i4 + 1)) (h0.set i4.toNat (decide ((Int.tmod bits0 2) = (1 : Int))))))))) (
    Ret r lh [.one (.sl 0 none)] [.row .bool h0 .own])) := by kernel_rfl
theorem c127 : SC P 127 [.one (.int .i64 255)] [] [.one (.sl 0 none)] [.row .bool [true, true, true, true, true, true, true, true] .own] := by
  refine SC_of_FB (H := H127) E_ok Try.func127 (by kernel_rfl) ?_
  rw [eq127]
  have step : ∀ (i : Nat) (bits bits' : Int) (h : List Bool), i < 8 → h.length = 8 → bits.tmod 2 = 1 → IntKind.wrap .i64 (bits.tdiv 2) = bits' → FL E H127 Try.f127 0 [.one (.sl 0 none)] [.row .bool [true, true, true, true, true, true, true, true] .own] 0 (S127_L0 bits' ((i + 1 : Nat) : Int) (h.set i true)) →
      FL E H127 Try.f127 0 [.one (.sl 0 none)] [.row .bool [true, true, true, true, true, true, true, true] .own] 0 (S127_L0 bits (i : Int) h) := by
    intro i bits bits' h hi hl hb hw hF
    refine FL_of1 ?_
    rw [eq127_L0, wS (by omega), decide_eq_true hb, hw]
    simp only [Int.toNat_natCast]
    exact Br_t (by omega) (Ck_d (by omega) (Ck_d (by omega) (Ck_le (by omega) hF)))
  refine step 0 255 127 _ (by omega) rfl rfl rfl (step 1 127 63 _ (by omega) rfl rfl rfl (step 2 63 31 _ (by omega) rfl rfl rfl (step 3 31 15 _ (by omega) rfl rfl rfl (step 4 15 7 _ (by omega) rfl rfl rfl (step 5 7 3 _ (by omega) rfl rfl rfl (step 6 3 1 _ (by omega) rfl rfl rfl (step 7 1 0 _ (by omega) rfl rfl rfl ?_)))))))
  refine FL_of1 ?_
  rw [eq127_L0]
  exact Br_f (by simp) ⟨rfl, rfl⟩
/-! loop.example/keelson/spec.l21New -/
def H110 : Hint := ⟨[[(2, 0, .bool), (6, 0, .bool), (7, 0, .bool), (8, 0, .bool)]], [], [], [], [], []⟩
def S110_L0 (vers2 : Int) (i8 : Int) (b0_0 : Int) (b1_0 : Int) (h2 : List Int) (h3 : List Bool) : St := ⟨[(2, .w (.one (.int .i64 vers2))), (6, .w (.one (.ptr 0 0 0))), (7, .w (.one (.ptr 1 0 0))), (8, .w (.one (.int .i64 i8)))], [.box [.int .i64 b0_0, .nil, .nil, .nil], .box [.int .i64 b1_0, .sl 2 none, .nil, .sl 3 none], .row (.int .i64) h2 .own, .row .bool h3 .own]⟩
def S110_L0b (vers2 : Int) (i8 : Int) (b0_0 : Int) (b1_0 : Int) (h2 : List Int) (h3 : List Int) (h4 : List Bool) : St := ⟨[(2, .w (.one (.int .i64 vers2))), (6, .w (.one (.ptr 0 0 0))), (7, .w (.one (.ptr 1 0 0))), (8, .w (.one (.int .i64 i8)))], [.box [.int .i64 b0_0, .nil, .nil, .nil], .box [.int .i64 b1_0, .sl 2 none, .sl 3 none, .sl 4 none], .row (.int .i64) h2 .own, .row (.int .i64) h3 .own, .row .bool h4 .own]⟩
theorem eq110 (kind : Int) (data : List Int) (vers : Int) (r : List W) (lh : Heap) : FB E H110 Try.f110 [.one (.int .i64 kind), .one (.ro (.int .i64) data), .one (.int .i64 vers)] [] r lh =
  (
   ∃ r0 : List Int, SC P 120 [.one (.int .i64 kind), .one (.ro (.int .i64) data)] [] [.one (.sl 0 none)] [.row (.int .i64) r0 .own] ∧
    ∃ r1 : List Bool, SC P 127 [.one (.int .i64 255)] [] [.one (.sl 0 none)] [.row .bool r1 .own] ∧
     FL E H110 Try.f110 0 r lh 0 (S110_L0 vers 0 0 kind r0 r1)) := by kernel_rfl
theorem eq110_L0 (vers2 : Int) (i8 : Int) (b0_0 : Int) (b1_0 : Int) (h2 : List Int) (h3 : List Bool) (r : List W) (lh : Heap) : FL1 E H110 Try.f110 0 r lh 0 (S110_L0 vers2 i8 b0_0 b1_0 h2 h3) =
  (
   Br (decide (i8 < (8 : Int))) (
    FL E H110 Try.f110 0 r lh 0 (S110_L0b vers2 (IntKind.wrap .i64 (i8 + 1)) b0_0 b1_0 h2 [vers2] h3)) (
    Ret r lh [.agg [.int .i64 b1_0, .sl 0 none, .nil, .sl 1 none]] [.row (.int .i64) h2 .own, .row .bool h3 .own])) := by kernel_rfl
theorem eq110_L0b (vers2 : Int) (i8 : Int) (b0_0 : Int) (b1_0 : Int) (h2 : List Int) (h3 : List Int) (h4 : List Bool) (r : List W) (lh : Heap) : FL1 E H110 Try.f110 0 r lh 0 (S110_L0b vers2 i8 b0_0 b1_0 h2 h3 h4) =
  (
   Br (decide (i8 < (8 : Int))) (
    Ck (Nat.ble ((h3.length + 1) * 8) roomy) (
     FL E H110 Try.f110 0 r lh 0 (S110_L0b vers2 (IntKind.wrap .i64 (i8 + 1)) b0_0 b1_0 h2 (h3 ++ [vers2]) h4))) (
    Ret r lh [.agg [.int .i64 b1_0, .sl 0 none, .sl 1 none, .sl 2 none]] [.row (.int .i64) h2 .own, .row (.int .i64) h3 .own, .row .bool h4 .own])) := by kernel_rfl
theorem l110b (kind vers z : Int) (vals : List Int) (th : List Bool) : ∀ (n i : Nat) (vs : List Int), i + n = 8 → vs = List.replicate i vers → FL E H110 Try.f110 0 [.agg [.int .i64 kind, .sl 0 none, .sl 1 none, .sl 2 none]] [.row (.int .i64) vals .own, .row (.int .i64) [vers, vers, vers, vers, vers, vers, vers, vers] .own, .row .bool th .own] 0 (S110_L0b vers (i : Int) z kind vals vs th)
  | 0, i, vs, h, hv => by
    obtain rfl : i = 8 := by omega
    refine FL_of1 ?_
    rw [eq110_L0b, hv]
    exact Br_f (by omega) ⟨rfl, rfl⟩
  | n + 1, i, vs, h, hv => by
    have hl : vs.length = i := by rw [hv, List.length_replicate]
    refine FL_of1 ?_
    rw [eq110_L0b, wS (by omega)]
    exact Br_t (by omega) (Ck_room (by omega) (l110b kind vers z vals th n (i + 1) (vs ++ [vers]) (by omega) (by rw [hv, List.replicate_succ'])))
theorem c110 (kind : Int) (hk : inB kind 1 2 = true) (d : V4) (hd : VOk d) (vers : Int) : SC P 110 [.one (.int .i64 kind), .one (.ro (.int .i64) d.l), .one (.int .i64 vers)] [] [.agg [.int .i64 kind, .sl 0 none, .sl 1 none, .sl 2 none]] [.row (.int .i64) (allF kind d) .own, .row (.int .i64) [vers, vers, vers, vers, vers, vers, vers, vers] .own, .row .bool [true, true, true, true, true, true, true, true] .own] := by
  refine SC_of_FB (H := H110) E_ok Try.func110 (by kernel_rfl) ?_
  rw [eq110]
  refine ⟨_, c120 kind hk d hd, _, c127, ?_⟩
  refine FL_of1 ?_
  rw [eq110_L0]
  exact Br_t (by omega) (l110b kind vers 0 _ _ 7 1 [vers] (by omega) rfl)
/-! loop.example/keelson/impl.versOk -/
def H111 : Hint := ⟨[], [], [], [], [], []⟩
theorem eq111 (n : Int) (r : List W) (lh : Heap) : FB E H111 Try.f111 [.one (.int .i64 n)] [] r lh =
  (
   ∃ r0 : Bool, SC P 68 [.one (.int .i64 n), .one (.int .i64 1), .one (.int .i64 99)] [] [.one (.bool r0)] [] ∧
    Ret r lh [.one (.bool r0)] []) := by kernel_rfl
theorem c111 (n : Int) : SC P 111 [.one (.int .i64 n)] [] [.one (.bool (inB n 1 99))] [] := by
  refine SC_of_FB (H := H111) E_ok Try.func111 (by kernel_rfl) ?_
  rw [eq111]
  exact ⟨_, c68 _ _ _, rfl, rfl⟩
/-! loop.example/keelson/spec.StripeNew -/
def H56 : Hint := ⟨[], [], [], [], [.agg [.c (.int .i64), .own (.int .i64), .own (.int .i64), .own .bool], .one (.c .bool)], []⟩
theorem eq56 (kind : Int) (data : List Int) (vers : Int) (r : List W) (lh : Heap) : FB E H56 Try.f56 [.one (.int .i64 kind), .one (.ro (.int .i64) data), .one (.int .i64 vers)] [] r lh =
  (
   ∃ r0 : Bool, SC P 79 [.one (.int .i64 kind)] [] [.one (.bool r0)] [] ∧
    Br (!r0) (
     Ret r lh [.agg [.int .i64 0, .sl 0 none, .sl 1 none, .sl 2 none], .one (.bool false)] [.row (.int .i64) [] .own, .row (.int .i64) [] .own, .row .bool [] .own]) (
     ∃ r1 : Bool, SC P 40 [.one (.ro (.int .i64) data)] [] [.one (.bool r1)] [] ∧
      Br (!r1) (
       Ret r lh [.agg [.int .i64 0, .sl 0 none, .sl 1 none, .sl 2 none], .one (.bool false)] [.row (.int .i64) [] .own, .row (.int .i64) [] .own, .row .bool [] .own]) (
       ∃ r2 : Bool, SC P 69 [.one (.int .i64 vers), .one (.int .i64 1), .one (.int .i64 99)] [] [.one (.bool r2)] [] ∧
        Br (!r2) (
         Ret r lh [.agg [.int .i64 0, .sl 0 none, .sl 1 none, .sl 2 none], .one (.bool false)] [.row (.int .i64) [] .own, .row (.int .i64) [] .own, .row .bool [] .own]) (
         ∃ r3 : Int × List Int × List Int × List Bool, SC P 110 [.one (.int .i64 kind), .one (.ro (.int .i64) data), .one (.int .i64 vers)] [] [.agg [.int .i64 r3.1, .sl 0 none, .sl 1 none, .sl 2 none]] [.row (.int .i64) r3.2.1 .own, .row (.int .i64) r3.2.2.1 .own, .row .bool r3.2.2.2 .own] ∧
          Ret r lh [.agg [.int .i64 r3.1, .sl 0 none, .sl 1 none, .sl 2 none], .one (.bool true)] [.row (.int .i64) r3.2.1 .own, .row (.int .i64) r3.2.2.1 .own, .row .bool r3.2.2.2 .own])))) := by kernel_rfl
theorem c56 (kind : Int) (d : List Int) (vers : Int) (hd : d.length ≤ 1048576) : SC P 56 [.one (.int .i64 kind), .one (.ro (.int .i64) d), .one (.int .i64 vers)] [] [.agg [.int .i64 (stripeF kind d vers).1, .sl 0 none, .sl 1 none, .sl 2 none], .one (.bool (stripeOk kind d vers))] [.row (.int .i64) (stripeF kind d vers).2.1 .own, .row (.int .i64) (stripeF kind d vers).2.2.1 .own, .row .bool (stripeF kind d vers).2.2.2 .own] := by
  refine SC_of_FB (H := H56) E_ok Try.func56 (by kernel_rfl) ?_
  rw [eq56]
  have no : stripeOk kind d vers = false → [W.agg [.int .i64 0, .sl 0 none, .sl 1 none, .sl 2 none], W.one (.bool false)] = [W.agg [.int .i64 (stripeF kind d vers).1, .sl 0 none, .sl 1 none, .sl 2 none], W.one (.bool (stripeOk kind d vers))] ∧ ([.row (.int .i64) [] .own, .row (.int .i64) [] .own, .row .bool [] .own] : Heap) = [.row (.int .i64) (stripeF kind d vers).2.1 .own, .row (.int .i64) (stripeF kind d vers).2.2.1 .own, .row .bool (stripeF kind d vers).2.2.2 .own] := by
    intro h
    rw [stripeF, h]
    exact ⟨rfl, rfl⟩
  refine ⟨_, c79 kind, Br_nb (fun e => no (by rw [stripeOk, e]; rfl)) (fun e => ⟨_, c40 d hd, Br_nb (fun e' => no (by rw [stripeOk, e', Bool.and_false]; rfl)) (fun e' => ⟨_, c69 vers 1 99, Br_nb (fun e2 => no (by rw [stripeOk, e2, Bool.and_false])) (fun e2 => ?_)⟩)⟩)⟩
  obtain ⟨v, hv, rfl⟩ := vecOk_v e'
  rw [stripeF, stripeOk, e, e', e2, vecF_l hv]
  exact ⟨(kind, _, _, _), c110 kind e v hv vers, rfl, rfl⟩
/-! loop.example/keelson/impl.StripeNew -/
def H57 : Hint := ⟨[], [], [], [], [.agg [.c (.int .i64), .own (.int .i64), .own (.int .i64), .own .bool], .one (.c .bool)], []⟩
theorem eq57 (kind : Int) (data : List Int) (vers : Int) (r : List W) (lh : Heap) : FB E H57 Try.f57 [.one (.int .i64 kind), .one (.ro (.int .i64) data), .one (.int .i64 vers)] [] r lh =
  (
   ∃ r0 : Int × Int × Int × Int × Bool, SC P 71 [.one (.ro (.int .i64) data)] [] [.agg [.int .i64 r0.1, .int .i64 r0.2.1, .int .i64 r0.2.2.1, .int .i64 r0.2.2.2.1], .one (.bool r0.2.2.2.2)] [] ∧
    Br (!r0.2.2.2.2) (
     Ret r lh [.agg [.int .i64 0, .sl 0 none, .sl 1 none, .sl 2 none], .one (.bool false)] [.row (.int .i64) [] .own, .row (.int .i64) [] .own, .row .bool [] .own]) (
     ∃ r1 : Bool, SC P 81 [.one (.int .i64 kind)] [] [.one (.bool r1)] [] ∧
      Br (!r1) (
       Ret r lh [.agg [.int .i64 0, .sl 0 none, .sl 1 none, .sl 2 none], .one (.bool false)] [.row (.int .i64) [] .own, .row (.int .i64) [] .own, .row .bool [] .own]) (
       ∃ r2 : Bool, SC P 111 [.one (.int .i64 vers)] [] [.one (.bool r2)] [] ∧
        Br (!r2) (
         Ret r lh [.agg [.int .i64 0, .sl 0 none, .sl 1 none, .sl 2 none], .one (.bool false)] [.row (.int .i64) [] .own, .row (.int .i64) [] .own, .row .bool [] .own]) (
         ∃ r3 : List Int, SC P 82 [.one (.int .i64 kind), .agg [.int .i64 r0.1, .int .i64 r0.2.1, .int .i64 r0.2.2.1, .int .i64 r0.2.2.2.1]] [] [.one (.sl 0 none)] [.row (.int .i64) r3 .own] ∧
          ∃ r4 : List Int, SC P 112 [.one (.ro (.int .i64) [vers]), .one (.int .i64 8)] [] [.one (.sl 0 none)] [.row (.int .i64) r4 .own] ∧
           ∃ r5 : List Bool, SC P 113 [.one (.ro .bool [true]), .one (.int .i64 8)] [] [.one (.sl 0 none)] [.row .bool r5 .own] ∧
            Ret r lh [.agg [.int .i64 kind, .sl 0 none, .sl 1 none, .sl 2 none], .one (.bool true)] [.row (.int .i64) r3 .own, .row (.int .i64) r4 .own, .row .bool r5 .own])))) := by kernel_rfl
theorem c57 (kind : Int) (d : List Int) (vers : Int) (hd : d.length ≤ 1048576) : SC P 57 [.one (.int .i64 kind), .one (.ro (.int .i64) d), .one (.int .i64 vers)] [] [.agg [.int .i64 (stripeF kind d vers).1, .sl 0 none, .sl 1 none, .sl 2 none], .one (.bool (stripeOk kind d vers))] [.row (.int .i64) (stripeF kind d vers).2.1 .own, .row (.int .i64) (stripeF kind d vers).2.2.1 .own, .row .bool (stripeF kind d vers).2.2.2 .own] := by
  refine SC_of_FB (H := H57) E_ok Try.func57 (by kernel_rfl) ?_
  rw [eq57]
  have no : stripeOk kind d vers = false → [W.agg [.int .i64 0, .sl 0 none, .sl 1 none, .sl 2 none], W.one (.bool false)] = [W.agg [.int .i64 (stripeF kind d vers).1, .sl 0 none, .sl 1 none, .sl 2 none], W.one (.bool (stripeOk kind d vers))] ∧ ([.row (.int .i64) [] .own, .row (.int .i64) [] .own, .row .bool [] .own] : Heap) = [.row (.int .i64) (stripeF kind d vers).2.1 .own, .row (.int .i64) (stripeF kind d vers).2.2.1 .own, .row .bool (stripeF kind d vers).2.2.2 .own] := by
    intro h
    rw [stripeF, h]
    exact ⟨rfl, rfl⟩
  refine ⟨((vecF d).1, (vecF d).2.1, (vecF d).2.2.1, (vecF d).2.2.2, vecOk d), c71 d hd, Br_nb (fun e => no (by rw [stripeOk, show vecOk d = false from e, Bool.and_false]; rfl)) (fun e => ⟨_, c81 kind, Br_nb (fun e' => no (by rw [stripeOk, e']; rfl)) (fun e' => ⟨_, c111 vers, Br_nb (fun e2 => no (by rw [stripeOk, e2, Bool.and_false])) (fun e2 => ?_)⟩)⟩)⟩
  have e : vecOk d = true := e
  obtain ⟨v, hv, rfl⟩ := vecOk_v e
  rw [stripeF, stripeOk, e, e', e2, vecF_l hv]
  exact ⟨_, c82 kind v hv, _, c112 vers, _, c113 true, rfl, rfl⟩
/-! loop.example/keelson/laws.eqStripe -/
def H58 : Hint := ⟨[], [], [], [], [], []⟩
theorem eq58 (a : (Int × (List Int × (List Int × List Bool)))) (b : (Int × (List Int × (List Int × List Bool)))) (r : List W) (lh : Heap) : FB E H58 Try.f58 [.agg [.int .i64 a.1, .ro (.int .i64) a.2.1, .ro (.int .i64) a.2.2.1, .ro .bool a.2.2.2], .agg [.int .i64 b.1, .ro (.int .i64) b.2.1, .ro (.int .i64) b.2.2.1, .ro .bool b.2.2.2]] [] r lh =
  (
   Br (!(decide (a.1 = b.1))) (
    Ret r lh [.one (.bool false)] []) (
    ∃ r0 : Bool, SC P 26 [.one (.ro (.int .i64) a.2.1), .one (.ro (.int .i64) b.2.1)] [] [.one (.bool r0)] [] ∧
     Br (!r0) (
      Ret r lh [.one (.bool false)] []) (
      ∃ r1 : Bool, SC P 26 [.one (.ro (.int .i64) a.2.2.1), .one (.ro (.int .i64) b.2.2.1)] [] [.one (.bool r1)] [] ∧
       Br (!r1) (
        Ret r lh [.one (.bool false)] []) (
        ∃ r2 : Bool, SC P 114 [.one (.ro .bool a.2.2.2), .one (.ro .bool b.2.2.2)] [] [.one (.bool r2)] [] ∧
         Br (!r2) (
          Ret r lh [.one (.bool false)] []) (
          Ret r lh [.one (.bool true)] []))))) := by kernel_rfl
theorem c58 (a b : Str) (h1 : a.2.1.length ≤ 1048576) (h2 : a.2.2.1.length ≤ 1048576) (h3 : a.2.2.2.length ≤ 1048576) : SC P 58 [.agg [.int .i64 a.1, .ro (.int .i64) a.2.1, .ro (.int .i64) a.2.2.1, .ro .bool a.2.2.2], .agg [.int .i64 b.1, .ro (.int .i64) b.2.1, .ro (.int .i64) b.2.2.1, .ro .bool b.2.2.2]] [] [.one (.bool (decide (a = b)))] [] := by
  refine SC_of_FB (H := H58) E_ok Try.func58 (by kernel_rfl) ?_
  rw [eq58]
  have no : a ≠ b → [W.one (.bool false)] = [W.one (.bool (decide (a = b)))] := fun h => by rw [decide_eq_false h]
  refine Br_nd (fun h => ⟨no (fun e => h (by rw [e])), rfl⟩) (fun g1 => ⟨_, c26 _ _ h1, Br_nb (fun e => ⟨no (fun e' => of_decide_eq_false e (by rw [e'])), rfl⟩) (fun g2 => ⟨_, c26 _ _ h2, Br_nb (fun e => ⟨no (fun e' => of_decide_eq_false e (by rw [e'])), rfl⟩) (fun g3 => ⟨_, c114 _ _ h3, Br_nb (fun e => ⟨no (fun e' => of_decide_eq_false e (by rw [e'])), rfl⟩) (fun g4 => ⟨?_, rfl⟩)⟩)⟩)⟩)
  rw [decide_eq_true (Prod.ext g1 (Prod.ext (of_decide_eq_true g2) (Prod.ext (of_decide_eq_true g3) (of_decide_eq_true g4))))]
/-! loop.example/keelson/laws.markStripe -/
def H59 : Hint := ⟨[], [], [], [], [], []⟩
theorem eq59 (s : Int) (a : List Int) (b : List Int) (c : List Bool) (k : Int) (r : List W) (lh : Heap) : FB E H59 Try.f59 [.agg [.int .i64 s, .sl 0 none, .sl 1 none, .sl 2 none], .one (.int .i64 k)] [.row (.int .i64) a .own, .row (.int .i64) b .own, .row .bool c .own] r lh =
  (
   ∃ r0 : List Int × Int, SC P 27 [.one (.sl 0 none), .one (.int .i64 k)] [.row (.int .i64) a .own] [.one (.int .i64 r0.2)] [.row (.int .i64) r0.1 .own] ∧
    ∃ r1 : List Int × Int, SC P 27 [.one (.sl 0 none), .one (.int .i64 r0.2)] [.row (.int .i64) b .own] [.one (.int .i64 r1.2)] [.row (.int .i64) r1.1 .own] ∧
     ∃ r2 : List Bool × Int, SC P 115 [.one (.sl 0 none), .one (.int .i64 r1.2)] [.row .bool c .own] [.one (.int .i64 r2.2)] [.row .bool r2.1 .own] ∧
      Ret r lh [.one (.int .i64 r2.2)] [.row (.int .i64) r0.1 .own, .row (.int .i64) r1.1 .own, .row .bool r2.1 .own]) := by kernel_rfl
theorem c59 (s : Int) (a b : List Int) (c : List Bool) (k : Int) (h1 : a.length ≤ 8) (h2 : b.length ≤ 8) (h3 : c.length ≤ 8) (k0 : 0 ≤ k) (k1 : k ≤ 1000) : SC P 59 [.agg [.int .i64 s, .sl 0 none, .sl 1 none, .sl 2 none], .one (.int .i64 k)] [.row (.int .i64) a .own, .row (.int .i64) b .own, .row .bool c .own]
    [.one (.int .i64 (k + a.length + b.length + c.length))] [.row (.int .i64) (marks (fun k : Int => k) k a.length) .own, .row (.int .i64) (marks (fun k : Int => k) (k + a.length) b.length) .own, .row .bool (marks (fun k : Int => decide (Int.tmod k 3 = 0)) (k + a.length + b.length) c.length) .own] := by
  refine SC_of_FB (H := H59) E_ok Try.func59 (by kernel_rfl) ?_
  rw [eq59]
  exact ⟨(_, _), c27 a k (by omega) k0 (by omega), (_, _), c27 b (k + a.length) (by omega) (by omega) (by omega), (_, _), c115 c (k + a.length + b.length) (by omega) (by omega) (by omega), rfl, rfl⟩
/-! loop.example/keelson/laws.heldStripe -/
def H60 : Hint := ⟨[], [], [], [], [], []⟩
theorem eq60 (a : (Int × (List Int × (List Int × List Bool)))) (k : Int) (r : List W) (lh : Heap) : FB E H60 Try.f60 [.agg [.int .i64 a.1, .ro (.int .i64) a.2.1, .ro (.int .i64) a.2.2.1, .ro .bool a.2.2.2], .one (.int .i64 k)] [] r lh =
  (
   ∃ r0 : Int, SC P 28 [.one (.ro (.int .i64) a.2.1), .one (.int .i64 k)] [] [.one (.int .i64 r0)] [] ∧
    Br (decide (r0 < (0 : Int))) (
     Ret r lh [.one (.int .i64 (-1))] []) (
     ∃ r1 : Int, SC P 28 [.one (.ro (.int .i64) a.2.2.1), .one (.int .i64 r0)] [] [.one (.int .i64 r1)] [] ∧
      Br (decide (r1 < (0 : Int))) (
       Ret r lh [.one (.int .i64 (-1))] []) (
       ∃ r2 : Int, SC P 116 [.one (.ro .bool a.2.2.2), .one (.int .i64 r1)] [] [.one (.int .i64 r2)] [] ∧
        Br (decide (r2 < (0 : Int))) (
         Ret r lh [.one (.int .i64 (-1))] []) (
         Ret r lh [.one (.int .i64 r2)] [])))) := by kernel_rfl
theorem c60 (s : Int) (n1 n2 n3 : Nat) (k : Int) (h1 : n1 ≤ 8) (h2 : n2 ≤ 8) (h3 : n3 ≤ 8) (k0 : 0 ≤ k) (k1 : k ≤ 1000) (a : Str) (ha : a = (s, marks (fun k : Int => k) k n1, marks (fun k : Int => k) (k + n1) n2, marks (fun k : Int => decide (Int.tmod k 3 = 0)) (k + n1 + n2) n3)) : SC P 60 [.agg [.int .i64 a.1, .ro (.int .i64) a.2.1, .ro (.int .i64) a.2.2.1, .ro .bool a.2.2.2], .one (.int .i64 k)] []
    [.one (.int .i64 (k + n1 + n2 + n3))] [] := by
  refine SC_of_FB (H := H60) E_ok Try.func60 (by kernel_rfl) ?_
  rw [eq60]
  subst ha
  exact ⟨_, c28 k n1 (by omega) k0 (by omega), Br_f (by omega) ⟨_, c28 (k + n1) n2 (by omega) (by omega) (by omega), Br_f (by omega) ⟨_, c116 (k + n1 + n2) n3 (by omega) (by omega) (by omega), Br_f (by omega) ⟨rfl, rfl⟩⟩⟩⟩
/-! loop.example/keelson/laws.FnExactStripeNew -/
def H13 : Hint := ⟨[], [], [], [], [], []⟩
theorem eq13 (aKind : Int) (aData : List Int) (aVers : Int) (r : List W) (lh : Heap) : FB E H13 Try.f13 [.one (.int .i64 aKind), .one (.ro (.int .i64) aData), .one (.int .i64 aVers)] [] r lh =
  (
   Br (decide ((1048576 : Int) < ((aData.length : Nat) : Int))) (
    Ret r lh [.one (.bool true)] []) (
    ∃ r0 : List Int, SC P 31 [.one (.ro (.int .i64) aData)] [] [.one (.sl 0 none)] [.row (.int .i64) r0 .own] ∧
     ∃ r1 : Int × List Int × List Int × List Bool × Bool, SC P 56 [.one (.int .i64 aKind), .one (.ro (.int .i64) r0), .one (.int .i64 aVers)] [] [.agg [.int .i64 r1.1, .sl 0 none, .sl 1 none, .sl 2 none], .one (.bool r1.2.2.2.2)] [.row (.int .i64) r1.2.1 .own, .row (.int .i64) r1.2.2.1 .own, .row .bool r1.2.2.2.1 .own] ∧
      ∃ r2 : List Int, SC P 31 [.one (.ro (.int .i64) aData)] [] [.one (.sl 0 none)] [.row (.int .i64) r2 .own] ∧
       ∃ r3 : Int × List Int × List Int × List Bool × Bool, SC P 57 [.one (.int .i64 aKind), .one (.ro (.int .i64) r2), .one (.int .i64 aVers)] [] [.agg [.int .i64 r3.1, .sl 0 none, .sl 1 none, .sl 2 none], .one (.bool r3.2.2.2.2)] [.row (.int .i64) r3.2.1 .own, .row (.int .i64) r3.2.2.1 .own, .row .bool r3.2.2.2.1 .own] ∧
        ∃ r4 : Bool, SC P 58 [.agg [.int .i64 r3.1, .ro (.int .i64) r3.2.1, .ro (.int .i64) r3.2.2.1, .ro .bool r3.2.2.2.1], .agg [.int .i64 r1.1, .ro (.int .i64) r1.2.1, .ro (.int .i64) r1.2.2.1, .ro .bool r1.2.2.2.1]] [] [.one (.bool r4)] [] ∧
         Br (!r4) (
          Ret r lh [.one (.bool false)] []) (
          Br (r3.2.2.2.2 != r1.2.2.2.2) (
           Ret r lh [.one (.bool false)] []) (
           ∃ r5 : List Int, SC P 31 [.one (.ro (.int .i64) aData)] [] [.one (.sl 0 none)] [.row (.int .i64) r5 .own] ∧
            ∃ r6 : Bool, SC P 26 [.one (.ro (.int .i64) r2), .one (.ro (.int .i64) r5)] [] [.one (.bool r6)] [] ∧
             Br (!r6) (
              Ret r lh [.one (.bool false)] []) (
              ∃ r7 : List Int × Int, SC P 27 [.one (.sl 0 none), .one (.int .i64 1)] [.row (.int .i64) r2 .own] [.one (.int .i64 r7.2)] [.row (.int .i64) r7.1 .own] ∧
               Br (decide (r7.2 < (0 : Int))) (
                Ret r lh [.one (.bool false)] []) (
                ∃ r8 : Bool, SC P 58 [.agg [.int .i64 r3.1, .ro (.int .i64) r3.2.1, .ro (.int .i64) r3.2.2.1, .ro .bool r3.2.2.2.1], .agg [.int .i64 r1.1, .ro (.int .i64) r1.2.1, .ro (.int .i64) r1.2.2.1, .ro .bool r1.2.2.2.1]] [] [.one (.bool r8)] [] ∧
                 Br (!r8) (
                  Ret r lh [.one (.bool false)] []) (
                  Br (r3.2.2.2.2 != r1.2.2.2.2) (
                   Ret r lh [.one (.bool false)] []) (
                   ∃ r9 : List Int × List Int × List Bool × Int, SC P 59 [.agg [.int .i64 r3.1, .sl 0 none, .sl 1 none, .sl 2 none], .one (.int .i64 1)] [.row (.int .i64) r3.2.1 .own, .row (.int .i64) r3.2.2.1 .own, .row .bool r3.2.2.2.1 .own] [.one (.int .i64 r9.2.2.2)] [.row (.int .i64) r9.1 .own, .row (.int .i64) r9.2.1 .own, .row .bool r9.2.2.1 .own] ∧
                    ∃ r10 : Int, SC P 60 [.agg [.int .i64 r3.1, .ro (.int .i64) r9.1, .ro (.int .i64) r9.2.1, .ro .bool r9.2.2.1], .one (.int .i64 1)] [] [.one (.int .i64 r10)] [] ∧
                     Br (decide (r10 < (0 : Int))) (
                      Ret r lh [.one (.bool false)] []) (
                      Br (!(decide (r10 = r9.2.2.2))) (
                       Ret r lh [.one (.bool false)] []) (
                       ∃ r11 : List Int, SC P 31 [.one (.ro (.int .i64) aData)] [] [.one (.sl 0 none)] [.row (.int .i64) r11 .own] ∧
                        ∃ r12 : Int × List Int × List Int × List Bool × Bool, SC P 57 [.one (.int .i64 aKind), .one (.ro (.int .i64) r11), .one (.int .i64 aVers)] [] [.agg [.int .i64 r12.1, .sl 0 none, .sl 1 none, .sl 2 none], .one (.bool r12.2.2.2.2)] [.row (.int .i64) r12.2.1 .own, .row (.int .i64) r12.2.2.1 .own, .row .bool r12.2.2.2.1 .own] ∧
                         ∃ r13 : Bool, SC P 58 [.agg [.int .i64 r12.1, .ro (.int .i64) r12.2.1, .ro (.int .i64) r12.2.2.1, .ro .bool r12.2.2.2.1], .agg [.int .i64 r1.1, .ro (.int .i64) r1.2.1, .ro (.int .i64) r1.2.2.1, .ro .bool r1.2.2.2.1]] [] [.one (.bool r13)] [] ∧
                          Br (!r13) (
                           Ret r lh [.one (.bool false)] []) (
                           Br (r12.2.2.2.2 != r1.2.2.2.2) (
                            Ret r lh [.one (.bool false)] []) (
                            ∃ r14 : Int, SC P 60 [.agg [.int .i64 r3.1, .ro (.int .i64) r9.1, .ro (.int .i64) r9.2.1, .ro .bool r9.2.2.1], .one (.int .i64 1)] [] [.one (.int .i64 r14)] [] ∧
                             Br (decide (r14 < (0 : Int))) (
                              Ret r lh [.one (.bool false)] []) (
                              Br (!(decide (r14 = r9.2.2.2))) (
                               Ret r lh [.one (.bool false)] []) (
                               Ret r lh [.one (.bool true)] [])))))))))))))) := by kernel_rfl
theorem c13 (kind : Int) (d : List Int) (vers : Int) : SC P 13 [.one (.int .i64 kind), .one (.ro (.int .i64) d), .one (.int .i64 vers)] [] [.one (.bool true)] [] := by
  refine SC_of_FB (H := H13) E_ok Try.func13 (by kernel_rfl) ?_
  rw [eq13]
  refine Br_d (fun _ => ⟨rfl, rfl⟩) (fun h' => ?_)
  have hd : d.length ≤ 1048576 := by omega
  have s1 := c56 kind d vers hd
  have s2 := c57 kind d vers hd
  obtain ⟨h1, h2, h3⟩ := stripeF_len (kind := kind) (d := d) (vers := vers)
  generalize stripeF kind d vers = s at s1 s2 h1 h2 h3
  generalize stripeOk kind d vers = o at s1 s2
  have sE := c58 s s (by omega) (by omega) (by omega)
  rw [decide_eq_true rfl] at sE
  have sM := c59 s.1 s.2.1 s.2.2.1 s.2.2.2 1 h1 h2 h3 (by omega) (by omega)
  have sH := c60 s.1 s.2.1.length s.2.2.1.length s.2.2.2.length 1 h1 h2 h3 (by omega) (by omega) _ rfl
  have sI := c26 d d hd
  rw [decide_eq_true rfl] at sI
  refine ⟨_, c31 d hd, (s.1, s.2.1, s.2.2.1, s.2.2.2, o), s1, _, c31 d hd, (s.1, s.2.1, s.2.2.1, s.2.2.2, o), s2, _, sE, Br_nb (fun e => by cases e) (fun _ => Br_ne' ⟨_, c31 d hd, _, sI, Br_nb (fun e => by cases e) (fun _ => ?_)⟩)⟩
  refine ⟨(_, _), c27 d 1 hd (by omega) (by omega), Br_f (by dsimp only; omega) ⟨_, sE, Br_nb (fun e => by cases e) (fun _ => Br_ne' ?_)⟩⟩
  refine ⟨(_, _, _, _), sM, _, sH, Br_f (by omega) (Br_nd (fun e => absurd rfl e) (fun _ => ?_))⟩
  refine ⟨_, c31 d hd, (s.1, s.2.1, s.2.2.1, s.2.2.2, o), s2, _, sE, Br_nb (fun e => by cases e) (fun _ => Br_ne' ?_)⟩
  exact ⟨_, sH, Br_f (by omega) (Br_nd (fun e => absurd rfl e) (fun _ => ⟨rfl, rfl⟩))⟩
/-! loop.example/keelson/spec.KeepNew -/
def H61 : Hint := ⟨[], [], [], [], [.agg [.c (.int .i64), .own (.int .i64), .own (.int .i64), .own .bool, .c .bool, .c (.int .i64), .own (.int .i64), .c (.int .i64)], .one (.c .bool)], []⟩
theorem eq61 (kind : Int) (data : List Int) (r : List W) (lh : Heap) : FB E H61 Try.f61 [.one (.int .i64 kind), .one (.ro (.int .i64) data)] [] r lh =
  (
   ∃ r0 : Int × List Int × List Int × List Bool × Bool, SC P 56 [.one (.int .i64 kind), .one (.ro (.int .i64) data), .one (.int .i64 1)] [] [.agg [.int .i64 r0.1, .sl 0 none, .sl 1 none, .sl 2 none], .one (.bool r0.2.2.2.2)] [.row (.int .i64) r0.2.1 .own, .row (.int .i64) r0.2.2.1 .own, .row .bool r0.2.2.2.1 .own] ∧
    Br (!r0.2.2.2.2) (
     Ret r lh [.agg [.int .i64 0, .sl 0 none, .sl 1 none, .sl 2 none, .bool false, .int .i64 0, .sl 3 none, .int .i64 0], .one (.bool false)] [.row (.int .i64) [] .own, .row (.int .i64) [] .own, .row .bool [] .own, .row (.int .i64) [] .own]) (
     Ret r lh [.agg [.int .i64 r0.1, .sl 0 none, .sl 1 none, .sl 2 none, .bool false, .int .i64 0, .sl 3 none, .int .i64 0], .one (.bool true)] [.row (.int .i64) r0.2.1 .own, .row (.int .i64) r0.2.2.1 .own, .row .bool r0.2.2.2.1 .own, .row (.int .i64) [] .own])) := by kernel_rfl
theorem c61 (kind : Int) (d : List Int) (hd : d.length ≤ 1048576) : SC P 61 [.one (.int .i64 kind), .one (.ro (.int .i64) d)] [] [.agg [.int .i64 (stripeF kind d 1).1, .sl 0 none, .sl 1 none, .sl 2 none, .bool false, .int .i64 0, .sl 3 none, .int .i64 0], .one (.bool (stripeOk kind d 1))] [.row (.int .i64) (stripeF kind d 1).2.1 .own, .row (.int .i64) (stripeF kind d 1).2.2.1 .own, .row .bool (stripeF kind d 1).2.2.2 .own, .row (.int .i64) [] .own] := by
  refine SC_of_FB (H := H61) E_ok Try.func61 (by kernel_rfl) ?_
  rw [eq61]
  have s := c56 kind d 1 hd
  refine ⟨((stripeF kind d 1).1, (stripeF kind d 1).2.1, (stripeF kind d 1).2.2.1, (stripeF kind d 1).2.2.2, stripeOk kind d 1), s, Br_nb (fun e => ?_) (fun e => ?_)⟩
  · have e : stripeOk kind d 1 = false := e
    rw [stripeF, e]
    exact ⟨rfl, rfl⟩
  · have e : stripeOk kind d 1 = true := e
    rw [e]
    exact ⟨rfl, rfl⟩
/-! loop.example/keelson/impl.KeepNew -/
def H62 : Hint := ⟨[], [], [], [], [.agg [.c (.int .i64), .own (.int .i64), .own (.int .i64), .own .bool, .c .bool, .c (.int .i64), .own (.int .i64), .c (.int .i64)], .one (.c .bool)], []⟩
theorem eq62 (kind : Int) (data : List Int) (r : List W) (lh : Heap) : FB E H62 Try.f62 [.one (.int .i64 kind), .one (.ro (.int .i64) data)] [] r lh =
  (
   ∃ r0 : Int × List Int × List Int × List Bool × Bool, SC P 57 [.one (.int .i64 kind), .one (.ro (.int .i64) data), .one (.int .i64 1)] [] [.agg [.int .i64 r0.1, .sl 0 none, .sl 1 none, .sl 2 none], .one (.bool r0.2.2.2.2)] [.row (.int .i64) r0.2.1 .own, .row (.int .i64) r0.2.2.1 .own, .row .bool r0.2.2.2.1 .own] ∧
    Br (!r0.2.2.2.2) (
     Ret r lh [.agg [.int .i64 0, .sl 0 none, .sl 1 none, .sl 2 none, .bool false, .int .i64 0, .sl 3 none, .int .i64 0], .one (.bool false)] [.row (.int .i64) [] .own, .row (.int .i64) [] .own, .row .bool [] .own, .row (.int .i64) [] .own]) (
     Ret r lh [.agg [.int .i64 r0.1, .sl 0 none, .sl 1 none, .sl 2 none, .bool false, .int .i64 0, .sl 3 none, .int .i64 0], .one (.bool true)] [.row (.int .i64) r0.2.1 .own, .row (.int .i64) r0.2.2.1 .own, .row .bool r0.2.2.2.1 .own, .row (.int .i64) [] .own])) := by kernel_rfl
theorem c62 (kind : Int) (d : List Int) (hd : d.length ≤ 1048576) : SC P 62 [.one (.int .i64 kind), .one (.ro (.int .i64) d)] [] [.agg [.int .i64 (stripeF kind d 1).1, .sl 0 none, .sl 1 none, .sl 2 none, .bool false, .int .i64 0, .sl 3 none, .int .i64 0], .one (.bool (stripeOk kind d 1))] [.row (.int .i64) (stripeF kind d 1).2.1 .own, .row (.int .i64) (stripeF kind d 1).2.2.1 .own, .row .bool (stripeF kind d 1).2.2.2 .own, .row (.int .i64) [] .own] := by
  refine SC_of_FB (H := H62) E_ok Try.func62 (by kernel_rfl) ?_
  rw [eq62]
  have s := c57 kind d 1 hd
  refine ⟨((stripeF kind d 1).1, (stripeF kind d 1).2.1, (stripeF kind d 1).2.2.1, (stripeF kind d 1).2.2.2, stripeOk kind d 1), s, Br_nb (fun e => ?_) (fun e => ?_)⟩
  · have e : stripeOk kind d 1 = false := e
    rw [stripeF, e]
    exact ⟨rfl, rfl⟩
  · have e : stripeOk kind d 1 = true := e
    rw [e]
    exact ⟨rfl, rfl⟩
/-! loop.example/keelson/laws.eqKeep -/
def H63 : Hint := ⟨[], [], [], [], [], []⟩
theorem eq63 (a : ((Int × (List Int × (List Int × List Bool))) × (Bool × (Int × (List Int × Int))))) (b : ((Int × (List Int × (List Int × List Bool))) × (Bool × (Int × (List Int × Int))))) (r : List W) (lh : Heap) : FB E H63 Try.f63 [.agg [.int .i64 a.1.1, .ro (.int .i64) a.1.2.1, .ro (.int .i64) a.1.2.2.1, .ro .bool a.1.2.2.2, .bool a.2.1, .int .i64 a.2.2.1, .ro (.int .i64) a.2.2.2.1, .int .i64 a.2.2.2.2], .agg [.int .i64 b.1.1, .ro (.int .i64) b.1.2.1, .ro (.int .i64) b.1.2.2.1, .ro .bool b.1.2.2.2, .bool b.2.1, .int .i64 b.2.2.1, .ro (.int .i64) b.2.2.2.1, .int .i64 b.2.2.2.2]] [] r lh =
  (
   ∃ r0 : Bool, SC P 58 [.agg [.int .i64 a.1.1, .ro (.int .i64) a.1.2.1, .ro (.int .i64) a.1.2.2.1, .ro .bool a.1.2.2.2], .agg [.int .i64 b.1.1, .ro (.int .i64) b.1.2.1, .ro (.int .i64) b.1.2.2.1, .ro .bool b.1.2.2.2]] [] [.one (.bool r0)] [] ∧
    Br (!r0) (
     Ret r lh [.one (.bool false)] []) (
     Br (a.2.1 != b.2.1) (
      Ret r lh [.one (.bool false)] []) (
      Br (!(decide (a.2.2.1 = b.2.2.1))) (
       Ret r lh [.one (.bool false)] []) (
       ∃ r1 : Bool, SC P 26 [.one (.ro (.int .i64) a.2.2.2.1), .one (.ro (.int .i64) b.2.2.2.1)] [] [.one (.bool r1)] [] ∧
        Br (!r1) (
         Ret r lh [.one (.bool false)] []) (
         Br (!(decide (a.2.2.2.2 = b.2.2.2.2))) (
          Ret r lh [.one (.bool false)] []) (
          Ret r lh [.one (.bool true)] [])))))) := by kernel_rfl
abbrev Kee := Str × Bool × Int × List Int × Int
theorem c63 (a : Kee) (h1 : a.1.2.1.length ≤ 1048576) (h2 : a.1.2.2.1.length ≤ 1048576) (h3 : a.1.2.2.2.length ≤ 1048576) (h4 : a.2.2.2.1.length ≤ 1048576) : SC P 63 [.agg [.int .i64 a.1.1, .ro (.int .i64) a.1.2.1, .ro (.int .i64) a.1.2.2.1, .ro .bool a.1.2.2.2, .bool a.2.1, .int .i64 a.2.2.1, .ro (.int .i64) a.2.2.2.1, .int .i64 a.2.2.2.2], .agg [.int .i64 a.1.1, .ro (.int .i64) a.1.2.1, .ro (.int .i64) a.1.2.2.1, .ro .bool a.1.2.2.2, .bool a.2.1, .int .i64 a.2.2.1, .ro (.int .i64) a.2.2.2.1, .int .i64 a.2.2.2.2]] [] [.one (.bool true)] [] := by
  refine SC_of_FB (H := H63) E_ok Try.func63 (by kernel_rfl) ?_
  rw [eq63]
  have sE := c58 a.1 a.1 h1 h2 h3
  rw [decide_eq_true rfl] at sE
  have sI := c26 a.2.2.2.1 a.2.2.2.1 h4
  rw [decide_eq_true rfl] at sI
  exact ⟨_, sE, Br_nb (fun e => by cases e) (fun _ => Br_ne' (Br_nd (fun e => absurd rfl e) (fun _ => ⟨_, sI, Br_nb (fun e => by cases e) (fun _ => Br_nd (fun e => absurd rfl e) (fun _ => ⟨rfl, rfl⟩))⟩)))⟩
/-! loop.example/keelson/laws.markKeep -/
def H64 : Hint := ⟨[], [], [], [], [], []⟩
theorem eq64 (s : Int) (a : List Int) (b : List Int) (c : List Bool) (o : Bool) (kk : Int) (d : List Int) (v : Int) (k : Int) (r : List W) (lh : Heap) : FB E H64 Try.f64 [.agg [.int .i64 s, .sl 0 none, .sl 1 none, .sl 2 none, .bool o, .int .i64 kk, .sl 3 none, .int .i64 v], .one (.int .i64 k)] [.row (.int .i64) a .own, .row (.int .i64) b .own, .row .bool c .own, .row (.int .i64) d .own] r lh =
  (
   ∃ r0 : List Int × List Int × List Bool × Int, SC P 59 [.agg [.int .i64 s, .sl 0 none, .sl 1 none, .sl 2 none], .one (.int .i64 k)] [.row (.int .i64) a .own, .row (.int .i64) b .own, .row .bool c .own] [.one (.int .i64 r0.2.2.2)] [.row (.int .i64) r0.1 .own, .row (.int .i64) r0.2.1 .own, .row .bool r0.2.2.1 .own] ∧
    ∃ r1 : List Int × Int, SC P 27 [.one (.sl 0 none), .one (.int .i64 r0.2.2.2)] [.row (.int .i64) d .own] [.one (.int .i64 r1.2)] [.row (.int .i64) r1.1 .own] ∧
     Ret r lh [.one (.int .i64 r1.2)] [.row (.int .i64) r0.1 .own, .row (.int .i64) r0.2.1 .own, .row .bool r0.2.2.1 .own, .row (.int .i64) r1.1 .own]) := by kernel_rfl
theorem c64 (s : Int) (a b : List Int) (c : List Bool) (o : Bool) (kk : Int) (d : List Int) (v k : Int) (h1 : a.length ≤ 8) (h2 : b.length ≤ 8) (h3 : c.length ≤ 8) (h4 : d.length ≤ 8) (k0 : 0 ≤ k) (k1 : k ≤ 1000) : SC P 64 [.agg [.int .i64 s, .sl 0 none, .sl 1 none, .sl 2 none, .bool o, .int .i64 kk, .sl 3 none, .int .i64 v], .one (.int .i64 k)] [.row (.int .i64) a .own, .row (.int .i64) b .own, .row .bool c .own, .row (.int .i64) d .own]
    [.one (.int .i64 (k + a.length + b.length + c.length + d.length))] [.row (.int .i64) (marks (fun k : Int => k) k a.length) .own, .row (.int .i64) (marks (fun k : Int => k) (k + a.length) b.length) .own, .row .bool (marks (fun k : Int => decide (Int.tmod k 3 = 0)) (k + a.length + b.length) c.length) .own, .row (.int .i64) (marks (fun k : Int => k) (k + a.length + b.length + c.length) d.length) .own] := by
  refine SC_of_FB (H := H64) E_ok Try.func64 (by kernel_rfl) ?_
  rw [eq64]
  exact ⟨(_, _, _, _), c59 s a b c k h1 h2 h3 k0 k1, (_, _), c27 d (k + a.length + b.length + c.length) (by omega) (by omega) (by omega), rfl, rfl⟩
/-! loop.example/keelson/laws.heldKeep -/
def H65 : Hint := ⟨[], [], [], [], [], []⟩
theorem eq65 (a : ((Int × (List Int × (List Int × List Bool))) × (Bool × (Int × (List Int × Int))))) (k : Int) (r : List W) (lh : Heap) : FB E H65 Try.f65 [.agg [.int .i64 a.1.1, .ro (.int .i64) a.1.2.1, .ro (.int .i64) a.1.2.2.1, .ro .bool a.1.2.2.2, .bool a.2.1, .int .i64 a.2.2.1, .ro (.int .i64) a.2.2.2.1, .int .i64 a.2.2.2.2], .one (.int .i64 k)] [] r lh =
  (
   ∃ r0 : Int, SC P 60 [.agg [.int .i64 a.1.1, .ro (.int .i64) a.1.2.1, .ro (.int .i64) a.1.2.2.1, .ro .bool a.1.2.2.2], .one (.int .i64 k)] [] [.one (.int .i64 r0)] [] ∧
    Br (decide (r0 < (0 : Int))) (
     Ret r lh [.one (.int .i64 (-1))] []) (
     ∃ r1 : Int, SC P 28 [.one (.ro (.int .i64) a.2.2.2.1), .one (.int .i64 r0)] [] [.one (.int .i64 r1)] [] ∧
      Br (decide (r1 < (0 : Int))) (
       Ret r lh [.one (.int .i64 (-1))] []) (
       Ret r lh [.one (.int .i64 r1)] []))) := by kernel_rfl
theorem c65 (s : Int) (o : Bool) (kk v : Int) (n1 n2 n3 n4 : Nat) (k : Int) (h1 : n1 ≤ 8) (h2 : n2 ≤ 8) (h3 : n3 ≤ 8) (h4 : n4 ≤ 8) (k0 : 0 ≤ k) (k1 : k ≤ 1000) (a : Kee) (ha : a = ((s, marks (fun k : Int => k) k n1, marks (fun k : Int => k) (k + n1) n2, marks (fun k : Int => decide (Int.tmod k 3 = 0)) (k + n1 + n2) n3), o, kk, marks (fun k : Int => k) (k + n1 + n2 + n3) n4, v)) : SC P 65 [.agg [.int .i64 a.1.1, .ro (.int .i64) a.1.2.1, .ro (.int .i64) a.1.2.2.1, .ro .bool a.1.2.2.2, .bool a.2.1, .int .i64 a.2.2.1, .ro (.int .i64) a.2.2.2.1, .int .i64 a.2.2.2.2], .one (.int .i64 k)] []
    [.one (.int .i64 (k + n1 + n2 + n3 + n4))] [] := by
  refine SC_of_FB (H := H65) E_ok Try.func65 (by kernel_rfl) ?_
  rw [eq65]
  subst ha
  exact ⟨_, c60 s n1 n2 n3 k h1 h2 h3 k0 k1 _ rfl, Br_f (by omega) ⟨_, c28 (k + n1 + n2 + n3) n4 (by omega) (by omega) (by omega), Br_f (by omega) ⟨rfl, rfl⟩⟩⟩
/-! loop.example/keelson/laws.FnExactKeepNew -/
def H14 : Hint := ⟨[], [], [], [], [], []⟩
theorem eq14 (aKind : Int) (aData : List Int) (r : List W) (lh : Heap) : FB E H14 Try.f14 [.one (.int .i64 aKind), .one (.ro (.int .i64) aData)] [] r lh =
  (
   Br (decide ((1048576 : Int) < ((aData.length : Nat) : Int))) (
    Ret r lh [.one (.bool true)] []) (
    ∃ r0 : List Int, SC P 31 [.one (.ro (.int .i64) aData)] [] [.one (.sl 0 none)] [.row (.int .i64) r0 .own] ∧
     ∃ r1 : Int × List Int × List Int × List Bool × Bool × Int × List Int × Int × Bool, SC P 61 [.one (.int .i64 aKind), .one (.ro (.int .i64) r0)] [] [.agg [.int .i64 r1.1, .sl 0 none, .sl 1 none, .sl 2 none, .bool r1.2.2.2.2.1, .int .i64 r1.2.2.2.2.2.1, .sl 3 none, .int .i64 r1.2.2.2.2.2.2.2.1], .one (.bool r1.2.2.2.2.2.2.2.2)] [.row (.int .i64) r1.2.1 .own, .row (.int .i64) r1.2.2.1 .own, .row .bool r1.2.2.2.1 .own, .row (.int .i64) r1.2.2.2.2.2.2.1 .own] ∧
      ∃ r2 : List Int, SC P 31 [.one (.ro (.int .i64) aData)] [] [.one (.sl 0 none)] [.row (.int .i64) r2 .own] ∧
       ∃ r3 : Int × List Int × List Int × List Bool × Bool × Int × List Int × Int × Bool, SC P 62 [.one (.int .i64 aKind), .one (.ro (.int .i64) r2)] [] [.agg [.int .i64 r3.1, .sl 0 none, .sl 1 none, .sl 2 none, .bool r3.2.2.2.2.1, .int .i64 r3.2.2.2.2.2.1, .sl 3 none, .int .i64 r3.2.2.2.2.2.2.2.1], .one (.bool r3.2.2.2.2.2.2.2.2)] [.row (.int .i64) r3.2.1 .own, .row (.int .i64) r3.2.2.1 .own, .row .bool r3.2.2.2.1 .own, .row (.int .i64) r3.2.2.2.2.2.2.1 .own] ∧
        ∃ r4 : Bool, SC P 63 [.agg [.int .i64 r3.1, .ro (.int .i64) r3.2.1, .ro (.int .i64) r3.2.2.1, .ro .bool r3.2.2.2.1, .bool r3.2.2.2.2.1, .int .i64 r3.2.2.2.2.2.1, .ro (.int .i64) r3.2.2.2.2.2.2.1, .int .i64 r3.2.2.2.2.2.2.2.1], .agg [.int .i64 r1.1, .ro (.int .i64) r1.2.1, .ro (.int .i64) r1.2.2.1, .ro .bool r1.2.2.2.1, .bool r1.2.2.2.2.1, .int .i64 r1.2.2.2.2.2.1, .ro (.int .i64) r1.2.2.2.2.2.2.1, .int .i64 r1.2.2.2.2.2.2.2.1]] [] [.one (.bool r4)] [] ∧
         Br (!r4) (
          Ret r lh [.one (.bool false)] []) (
          Br (r3.2.2.2.2.2.2.2.2 != r1.2.2.2.2.2.2.2.2) (
           Ret r lh [.one (.bool false)] []) (
           ∃ r5 : List Int, SC P 31 [.one (.ro (.int .i64) aData)] [] [.one (.sl 0 none)] [.row (.int .i64) r5 .own] ∧
            ∃ r6 : Bool, SC P 26 [.one (.ro (.int .i64) r2), .one (.ro (.int .i64) r5)] [] [.one (.bool r6)] [] ∧
             Br (!r6) (
              Ret r lh [.one (.bool false)] []) (
              ∃ r7 : List Int × Int, SC P 27 [.one (.sl 0 none), .one (.int .i64 1)] [.row (.int .i64) r2 .own] [.one (.int .i64 r7.2)] [.row (.int .i64) r7.1 .own] ∧
               Br (decide (r7.2 < (0 : Int))) (
                Ret r lh [.one (.bool false)] []) (
                ∃ r8 : Bool, SC P 63 [.agg [.int .i64 r3.1, .ro (.int .i64) r3.2.1, .ro (.int .i64) r3.2.2.1, .ro .bool r3.2.2.2.1, .bool r3.2.2.2.2.1, .int .i64 r3.2.2.2.2.2.1, .ro (.int .i64) r3.2.2.2.2.2.2.1, .int .i64 r3.2.2.2.2.2.2.2.1], .agg [.int .i64 r1.1, .ro (.int .i64) r1.2.1, .ro (.int .i64) r1.2.2.1, .ro .bool r1.2.2.2.1, .bool r1.2.2.2.2.1, .int .i64 r1.2.2.2.2.2.1, .ro (.int .i64) r1.2.2.2.2.2.2.1, .int .i64 r1.2.2.2.2.2.2.2.1]] [] [.one (.bool r8)] [] ∧
                 Br (!r8) (
                  Ret r lh [.one (.bool false)] []) (
                  Br (r3.2.2.2.2.2.2.2.2 != r1.2.2.2.2.2.2.2.2) (
                   Ret r lh [.one (.bool false)] []) (
                   ∃ r9 : List Int × List Int × List Bool × List Int × Int, SC P 64 [.agg [.int .i64 r3.1, .sl 0 none, .sl 1 none, .sl 2 none, .bool r3.2.2.2.2.1, .int .i64 r3.2.2.2.2.2.1, .sl 3 none, .int .i64 r3.2.2.2.2.2.2.2.1], .one (.int .i64 1)] [.row (.int .i64) r3.2.1 .own, .row (.int .i64) r3.2.2.1 .own, .row .bool r3.2.2.2.1 .own, .row (.int .i64) r3.2.2.2.2.2.2.1 .own] [.one (.int .i64 r9.2.2.2.2)] [.row (.int .i64) r9.1 .own, .row (.int .i64) r9.2.1 .own, .row .bool r9.2.2.1 .own, .row (.int .i64) r9.2.2.2.1 .own] ∧
                    ∃ r10 : Int, SC P 65 [.agg [.int .i64 r3.1, .ro (.int .i64) r9.1, .ro (.int .i64) r9.2.1, .ro .bool r9.2.2.1, .bool r3.2.2.2.2.1, .int .i64 r3.2.2.2.2.2.1, .ro (.int .i64) r9.2.2.2.1, .int .i64 r3.2.2.2.2.2.2.2.1], .one (.int .i64 1)] [] [.one (.int .i64 r10)] [] ∧
                     Br (decide (r10 < (0 : Int))) (
                      Ret r lh [.one (.bool false)] []) (
                      Br (!(decide (r10 = r9.2.2.2.2))) (
                       Ret r lh [.one (.bool false)] []) (
                       ∃ r11 : List Int, SC P 31 [.one (.ro (.int .i64) aData)] [] [.one (.sl 0 none)] [.row (.int .i64) r11 .own] ∧
                        ∃ r12 : Int × List Int × List Int × List Bool × Bool × Int × List Int × Int × Bool, SC P 62 [.one (.int .i64 aKind), .one (.ro (.int .i64) r11)] [] [.agg [.int .i64 r12.1, .sl 0 none, .sl 1 none, .sl 2 none, .bool r12.2.2.2.2.1, .int .i64 r12.2.2.2.2.2.1, .sl 3 none, .int .i64 r12.2.2.2.2.2.2.2.1], .one (.bool r12.2.2.2.2.2.2.2.2)] [.row (.int .i64) r12.2.1 .own, .row (.int .i64) r12.2.2.1 .own, .row .bool r12.2.2.2.1 .own, .row (.int .i64) r12.2.2.2.2.2.2.1 .own] ∧
                         ∃ r13 : Bool, SC P 63 [.agg [.int .i64 r12.1, .ro (.int .i64) r12.2.1, .ro (.int .i64) r12.2.2.1, .ro .bool r12.2.2.2.1, .bool r12.2.2.2.2.1, .int .i64 r12.2.2.2.2.2.1, .ro (.int .i64) r12.2.2.2.2.2.2.1, .int .i64 r12.2.2.2.2.2.2.2.1], .agg [.int .i64 r1.1, .ro (.int .i64) r1.2.1, .ro (.int .i64) r1.2.2.1, .ro .bool r1.2.2.2.1, .bool r1.2.2.2.2.1, .int .i64 r1.2.2.2.2.2.1, .ro (.int .i64) r1.2.2.2.2.2.2.1, .int .i64 r1.2.2.2.2.2.2.2.1]] [] [.one (.bool r13)] [] ∧
                          Br (!r13) (
                           Ret r lh [.one (.bool false)] []) (
                           Br (r12.2.2.2.2.2.2.2.2 != r1.2.2.2.2.2.2.2.2) (
                            Ret r lh [.one (.bool false)] []) (
                            ∃ r14 : Int, SC P 65 [.agg [.int .i64 r3.1, .ro (.int .i64) r9.1, .ro (.int .i64) r9.2.1, .ro .bool r9.2.2.1, .bool r3.2.2.2.2.1, .int .i64 r3.2.2.2.2.2.1, .ro (.int .i64) r9.2.2.2.1, .int .i64 r3.2.2.2.2.2.2.2.1], .one (.int .i64 1)] [] [.one (.int .i64 r14)] [] ∧
                             Br (decide (r14 < (0 : Int))) (
                              Ret r lh [.one (.bool false)] []) (
                              Br (!(decide (r14 = r9.2.2.2.2))) (
                               Ret r lh [.one (.bool false)] []) (
                               Ret r lh [.one (.bool true)] [])))))))))))))) := by kernel_rfl
theorem c14 (kind : Int) (d : List Int) : SC P 14 [.one (.int .i64 kind), .one (.ro (.int .i64) d)] [] [.one (.bool true)] [] := by
  refine SC_of_FB (H := H14) E_ok Try.func14 (by kernel_rfl) ?_
  rw [eq14]
  refine Br_d (fun _ => ⟨rfl, rfl⟩) (fun h' => ?_)
  have hd : d.length ≤ 1048576 := by omega
  have s1 := c61 kind d hd
  have s2 := c62 kind d hd
  obtain ⟨h1, h2, h3⟩ := stripeF_len (kind := kind) (d := d) (vers := 1)
  generalize stripeF kind d 1 = s at s1 s2 h1 h2 h3
  generalize stripeOk kind d 1 = o at s1 s2
  have sE := c63 (s, false, 0, [], 0) (show s.2.1.length ≤ 1048576 by omega) (show s.2.2.1.length ≤ 1048576 by omega) (show s.2.2.2.length ≤ 1048576 by omega) (Nat.zero_le _)
  have sM := c64 s.1 s.2.1 s.2.2.1 s.2.2.2 false 0 [] 0 1 h1 h2 h3 (Nat.zero_le _) (by omega) (by omega)
  have sH := c65 s.1 false 0 0 s.2.1.length s.2.2.1.length s.2.2.2.length 0 1 h1 h2 h3 (Nat.zero_le _) (by omega) (by omega) _ rfl
  have sI := c26 d d hd
  rw [decide_eq_true rfl] at sI
  refine ⟨_, c31 d hd, (s.1, s.2.1, s.2.2.1, s.2.2.2, false, 0, [], 0, o), s1, _, c31 d hd, (s.1, s.2.1, s.2.2.1, s.2.2.2, false, 0, [], 0, o), s2, _, sE, Br_nb (fun e => by cases e) (fun _ => Br_ne' ⟨_, c31 d hd, _, sI, Br_nb (fun e => by cases e) (fun _ => ?_)⟩)⟩
  refine ⟨(_, _), c27 d 1 hd (by omega) (by omega), Br_f (by dsimp only; omega) ⟨_, sE, Br_nb (fun e => by cases e) (fun _ => Br_ne' ?_)⟩⟩
  refine ⟨(_, _, _, _, _), sM, _, sH, Br_f (by omega) (Br_nd (fun e => absurd rfl e) (fun _ => ?_))⟩
  refine ⟨_, c31 d hd, (s.1, s.2.1, s.2.2.1, s.2.2.2, false, 0, [], 0, o), s2, _, sE, Br_nb (fun e => by cases e) (fun _ => Br_ne' ?_)⟩
  exact ⟨_, sH, Br_f (by omega) (Br_nd (fun e => absurd rfl e) (fun _ => ⟨rfl, rfl⟩))⟩
end Go.Proofs.Ythehpbbibfallaa.Sh
