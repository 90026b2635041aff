/- Contracts, poured together. -/
import Derived.Test.YtjoiadaogppmkaaShD1
import Derived.Test.YtjoiadaogppmkaaShT1
namespace Go.Proofs.Ytjoiadaogppmkaa.Sh
open Go
set_option linter.unusedVariables false
set_option linter.unusedSimpArgs false
/-! loop.example/keelson/laws.eqBoolS -/
def H16 : Hint := ⟨[[(0, 0, .bool), (1, 0, .bool), (5, 0, .bool)]], [], [(6, [0, 1, 2, 3, 4, 5, 6, 7, 8])], [], [], [], []⟩
def S16_L0 (a0 : List Bool) (b1 : List Bool) (i5 : Int) : St := ⟨[(0, .w (.one (.ro .bool a0))), (1, .w (.one (.ro .bool b1))), (5, .w (.one (.int .i64 i5)))], []⟩
theorem eq16 (a : List Bool) (b : List Bool) (r : List W) (lh : Heap) : FB E H16 Try.f16 [.one (.ro .bool a), .one (.ro .bool b)] [] r lh =
  (
   Br (!(decide (((a.length : Nat) : Int) = ((b.length : Nat) : Int)))) (
    Ret r lh [.one (.bool false)] []) (
    FL E H16 Try.f16 0 r lh 0 (S16_L0 a b 0))) := by kernel_rfl
theorem eq16_L0 (a0 : List Bool) (b1 : List Bool) (i5 : Int) (r : List W) (lh : Heap) : FL1 E H16 Try.f16 0 r lh 0 (S16_L0 a0 b1 i5) =
  (
   Br (decide (i5 < ((a0.length : Nat) : Int))) (
    Ck (decide ((0 : Int) ≤ i5)) (
     Ck (decide (i5 < ((a0.length : Nat) : Int))) (
      Ck (decide ((0 : Int) ≤ i5)) (
       Ck (decide (i5 < ((b1.length : Nat) : Int))) (
        Br ((a0.getD i5.toNat false) != (b1.getD i5.toNat false)) (
         Ret r lh [.one (.bool false)] []) (
         FL E H16 Try.f16 0 r lh 0 (S16_L0 a0 b1 (IntKind.wrap .i64 (i5 + 1))))))))) (
    Ret r lh [.one (.bool true)] [])) := by kernel_rfl
theorem l16 (a b : List Bool) (hl : a.length ≤ 1048576) (hb : a.length = b.length) : ∀ (n i : Nat), i + n = a.length → FL E H16 Try.f16 0 [.one (.bool (allR (fun j => decide (a.getD j false = b.getD j false)) i n))] [] 0 (S16_L0 a b (i : Int))
  | 0, i, h => by
    refine FL_of1 ?_
    rw [eq16_L0]
    exact Br_f (by omega) ⟨rfl, rfl⟩
  | n + 1, i, h => by
    refine FL_of1 ?_
    rw [eq16_L0, wS (by omega)]
    simp only [Int.toNat_natCast]
    refine Br_t (by omega) (Ck_d (by omega) (Ck_d (by omega) (Ck_d (by omega) (Ck_d (by omega) (Br_b (fun h1 => ?_) (fun h1 => ?_))))))
    · exact ⟨by rw [allR_f (by simpa using h1)], rfl⟩
    · rw [allR_t (by simpa using h1)]
      exact l16 a b hl hb n (i + 1) (by omega)
theorem c16 (a b : List Bool) (hl : a.length ≤ 1048576) : SC P 16 [.one (.ro (.bool) a), .one (.ro (.bool) b)] [] [.one (.bool (decide (a = b)))] [] := by
  refine SC_of_FB (H := H16) E_ok Try.func16 (by kernel_rfl) ?_
  rw [eq16]
  refine Br_nd (fun h => ⟨?_, rfl⟩) (fun h => ?_)
  · rw [decide_eq_false (by rintro rfl; exact h rfl)]
  · have h : a.length = b.length := by omega
    rw [← eqR (z := false) h]
    exact l16 a b hl h a.length 0 (by omega)

/-! loop.example/keelson/laws.markBoolS -/
def H17 : Hint := ⟨[[(0, 0, .bool), (1, 0, .bool), (5, 0, .bool)]], [], [], [], [], [], []⟩
def S17_L0 (k1 : Int) (i5 : Int) (h0 : List Bool) : St := ⟨[(0, .w (.one (.sl 0 none))), (1, .w (.one (.int .i64 k1))), (5, .w (.one (.int .i64 i5)))], [.row .bool h0 .own]⟩
theorem eq17 (l : List Bool) (k : Int) (r : List W) (lh : Heap) : FB E H17 Try.f17 [.one (.sl 0 none), .one (.int .i64 k)] [.row .bool l .own] r lh =
  (
   FL E H17 Try.f17 1 r lh 0 (S17_L0 k 0 l)) := by kernel_rfl
theorem eq17_L0 (k1 : Int) (i5 : Int) (h0 : List Bool) (r : List W) (lh : Heap) : FL1 E H17 Try.f17 1 r lh 0 (S17_L0 k1 i5 h0) =
  (
   Br (decide (i5 < ((h0.length : Nat) : Int))) (
    Ck (decide ((0 : Int) ≤ i5)) (
     Ck (decide (i5 < ((h0.length : Nat) : Int))) (
      Ck (Nat.ble (i5.toNat + 1) h0.length) (
       FL E H17 Try.f17 1 r lh 0 (S17_L0 (IntKind.wrap .i64 (k1 + 1)) (IntKind.wrap .i64 (i5 + 1)) (h0.set i5.toNat (decide ((Int.tmod k1 3) = (0 : Int))))))))) (
    Ret r lh [.one (.int .i64 k1)] [.row .bool h0 .own])) := by kernel_rfl
theorem l17 (k : Int) (m : Nat) (hm : m ≤ 1048576) (k0 : 0 ≤ k) (k1 : k ≤ 1073741824) : ∀ (n i : Nat) (out : List Bool), i + n = m → out.length = m → (∀ j, j < i → out[j]? = (marks (fun k : Int => decide (Int.tmod k 3 = 0)) k m)[j]?) →
    FL E H17 Try.f17 1 [.one (.int .i64 (k + m))] [.row (.bool) (marks (fun k : Int => decide (Int.tmod k 3 = 0)) k m) .own] 0 (S17_L0 (k + (i : Int)) (i : Int) out)
  | 0, i, out, h, ho, H => by
    refine FL_of1 ?_
    rw [eq17_L0]
    obtain rfl : out = marks (fun k : Int => decide (Int.tmod k 3 = 0)) k m := fill_done (by rw [marks_length]; exact ho) fun j hj => H j (by rw [marks_length] at hj; omega)
    refine Br_f (by omega) ⟨?_, rfl⟩
    rw [show (i : Int) = m by omega]
  | n + 1, i, out, h, ho, H => by
    refine FL_of1 ?_
    rw [eq17_L0, wS (by omega), wrap64 (n := k + (i : Int) + 1) (by omega) (by omega), show k + (i : Int) + 1 = k + ((i + 1 : Nat) : Int) by omega]
    simp only [Int.toNat_natCast]
    refine Br_t (by omega) (Ck_d (by omega) (Ck_d (by omega) (Ck_lt (by omega) ?_)))
    exact l17 k m hm k0 k1 n (i + 1) _ (by omega) (by simp [ho]) (fill_step (by rw [marks_length]; exact ho) (by rw [marks_get (by omega)]) H)
theorem c17 (l : List Bool) (k : Int) (hl : l.length ≤ 1048576) (k0 : 0 ≤ k) (k1 : k ≤ 1073741824) : SC P 17 [.one (.sl 0 none), .one (.int .i64 k)] [.row (.bool) l .own] [.one (.int .i64 (k + l.length))] [.row (.bool) (marks (fun k : Int => decide (Int.tmod k 3 = 0)) k l.length) .own] := by
  refine SC_of_FB (H := H17) E_ok Try.func17 (by kernel_rfl) ?_
  rw [eq17]
  have := l17 k l.length hl k0 k1 l.length 0 l (by omega) rfl (fun j hj => absurd hj (by omega))
  rw [show k + ((0 : Nat) : Int) = k by omega] at this
  exact this

/-! math/bits.Mul64 -/
def H117 : Hint := ⟨[], [], [], [], [], [], []⟩
theorem eq117 (r : List W) (lh : Heap) : FB E H117 Try.f117 [.one (.int .u64 1), .one (.int .u64 8)] [] r lh =
  (
   Ret r lh [.one (.int .u64 0), .one (.int .u64 8)] []) := by kernel_rfl
theorem c117 : SC P 117 [.one (.int .u64 1), .one (.int .u64 8)] [] [.one (.int .u64 0), .one (.int .u64 8)] [] := by
  refine SC_of_FB (H := H117) E_ok Try.func117 (by kernel_rfl) ?_
  rw [eq117]
  exact ⟨rfl, rfl⟩

/-! math/bits.Mul -/
def H92 : Hint := ⟨[], [], [], [], [], [], []⟩
theorem eq92 (r : List W) (lh : Heap) : FB E H92 Try.f92 [.one (.int .u64 1), .one (.int .u64 8)] [] r lh =
  (
   ∃ r0 : Int × Int, SC P 117 [.one (.int .u64 1), .one (.int .u64 8)] [] [.one (.int .u64 r0.1), .one (.int .u64 r0.2)] [] ∧
    Ret r lh [.one (.int .u64 r0.1), .one (.int .u64 r0.2)] []) := by kernel_rfl
theorem c92 : SC P 92 [.one (.int .u64 1), .one (.int .u64 8)] [] [.one (.int .u64 0), .one (.int .u64 8)] [] := by
  refine SC_of_FB (H := H92) E_ok Try.func92 (by kernel_rfl) ?_
  rw [eq92]
  exact ⟨(0, 8), c117, rfl, rfl⟩

/-! slices.Repeat[[]int,int] -/
def H56 : Hint := ⟨[[(7, 0, .bool), (8, 0, .bool)]], [], [(9, [0, 1, 2, 3, 4, 5, 6, 7, 8, 9])], [], [], [], []⟩
def S56_L0 (n8 : Int) (h0 : List Int) : St := ⟨[(7, .w (.one (.sl 0 none))), (8, .w (.one (.int .i64 n8)))], [.row (.int .i64) h0 .own]⟩
theorem eq56 (v : Int) (r : List W) (lh : Heap) : FB E H56 Try.f56 [.one (.ro (.int .i64) [v]), .one (.int .i64 8)] [] r lh =
  (
   ∃ r0 : Int × Int, SC P 92 [.one (.int .u64 1), .one (.int .u64 8)] [] [.one (.int .u64 r0.1), .one (.int .u64 r0.2)] [] ∧
    Br (decide ((0 : Int) < r0.1)) (
     False) (
     Br (decide ((9223372036854775807 : Int) < r0.2)) (
      False) (
      Ck (decide ((0 : Int) ≤ (IntKind.wrap .i64 r0.2))) (
       Ck (decide ((IntKind.wrap .i64 r0.2) ≤ (IntKind.wrap .i64 r0.2))) (
        Ck (decide ((IntKind.wrap .i64 r0.2) * (8 : Nat) ≤ (roomy : Int))) (
         FL E H56 Try.f56 0 r lh 0 (S56_L0 (((min 1 ((List.replicate ((IntKind.wrap .i64 r0.2).toNat) (0 : Int)).length)) : Nat) : Int) ([v].take ((List.replicate ((IntKind.wrap .i64 r0.2).toNat) (0 : Int)).length) ++ (List.replicate ((IntKind.wrap .i64 r0.2).toNat) (0 : Int)).drop (min 1 ((List.replicate ((IntKind.wrap .i64 r0.2).toNat) (0 : Int)).length)))))))))) := by kernel_rfl
theorem eq56_L0 (n8 : Int) (h0 : List Int) (r : List W) (lh : Heap) : FL1 E H56 Try.f56 0 r lh 0 (S56_L0 n8 h0) =
  (
   Br (decide (n8 < ((h0.length : Nat) : Int))) (
    Ck (decide ((0 : Int) ≤ n8)) (
     Ck (decide (n8 ≤ ((h0.length : Nat) : Int))) (
      Ck (decide (((h0.length : Nat) : Int) ≤ ((h0.length : Nat) : Int))) (
       Ck (decide (((h0.length : Nat) : Int) ≤ ((h0.length : Nat) : Int))) (
        Ck (decide ((0 : Int) ≤ n8)) (
         Ck (decide (n8 ≤ ((h0.length : Nat) : Int))) (
          Ck (decide (((h0.length : Nat) : Int) ≤ ((h0.length : Nat) : Int))) (
           FL E H56 Try.f56 0 r lh 0 (S56_L0 (IntKind.wrap .i64 (n8 + (((min (((h0.drop 0).take n8.toNat).length) (((h0.length : Nat) : Int).toNat - n8.toNat)) : Nat) : Int))) (h0.take n8.toNat ++ ((h0.drop 0).take n8.toNat).take (((h0.length : Nat) : Int).toNat - n8.toNat) ++ h0.drop (n8.toNat + (min (((h0.drop 0).take n8.toNat).length) (((h0.length : Nat) : Int).toNat - n8.toNat))))))))))))) (
    Ret r lh [.one (.sl 0 none)] [.row (.int .i64) h0 .own])) := by kernel_rfl
theorem l56_4 (v : Int) : FL E H56 Try.f56 0 [.one (.sl 0 none)] [.row (.int .i64) [v, v, v, v, v, v, v, v] .own] 0 (S56_L0 8 [v, v, v, v, v, v, v, v]) := by
  refine FL_of1 ?_
  rw [eq56_L0]
  exact Br_f (by simp) ⟨rfl, rfl⟩
theorem l56_3 (v : Int) : FL E H56 Try.f56 0 [.one (.sl 0 none)] [.row (.int .i64) [v, v, v, v, v, v, v, v] .own] 0 (S56_L0 4 [v, v, v, v, 0, 0, 0, 0]) := by
  refine FL_of1 ?_
  rw [eq56_L0]
  exact Br_t (by simp) (Ck_d (by omega) (Ck_d (by simp) (Ck_d (by omega) (Ck_d (by omega) (Ck_d (by omega) (Ck_d (by simp) (Ck_d (by omega) (l56_4 v))))))))
theorem l56_2 (v : Int) : FL E H56 Try.f56 0 [.one (.sl 0 none)] [.row (.int .i64) [v, v, v, v, v, v, v, v] .own] 0 (S56_L0 2 [v, v, 0, 0, 0, 0, 0, 0]) := by
  refine FL_of1 ?_
  rw [eq56_L0]
  exact Br_t (by simp) (Ck_d (by omega) (Ck_d (by simp) (Ck_d (by omega) (Ck_d (by omega) (Ck_d (by omega) (Ck_d (by simp) (Ck_d (by omega) (l56_3 v))))))))
theorem l56_1 (v : Int) : FL E H56 Try.f56 0 [.one (.sl 0 none)] [.row (.int .i64) [v, v, v, v, v, v, v, v] .own] 0 (S56_L0 1 [v, 0, 0, 0, 0, 0, 0, 0]) := by
  refine FL_of1 ?_
  rw [eq56_L0]
  exact Br_t (by simp) (Ck_d (by omega) (Ck_d (by simp) (Ck_d (by omega) (Ck_d (by omega) (Ck_d (by omega) (Ck_d (by simp) (Ck_d (by omega) (l56_2 v))))))))
theorem c56 (v : Int) : SC P 56 [.one (.ro (.int .i64) [v]), .one (.int .i64 8)] [] [.one (.sl 0 none)] [.row (.int .i64) [v, v, v, v, v, v, v, v] .own] := by
  refine SC_of_FB (H := H56) E_ok Try.func56 (by kernel_rfl) ?_
  rw [eq56]
  exact ⟨(0, 8), c92, Br_f (by simp) (Br_f (by simp) (Ck_d (by decide) (Ck_d (by omega) (Ck_d (by decide) (l56_1 v)))))⟩

/-! slices.Repeat[[]bool,bool] -/
def H57 : Hint := ⟨[[(7, 0, .bool), (8, 0, .bool)]], [], [(9, [0, 1, 2, 3, 4, 5, 6, 7, 8, 9])], [], [], [], []⟩
def S57_L0 (n8 : Int) (h0 : List Bool) : St := ⟨[(7, .w (.one (.sl 0 none))), (8, .w (.one (.int .i64 n8)))], [.row .bool h0 .own]⟩
theorem eq57 (v : Bool) (r : List W) (lh : Heap) : FB E H57 Try.f57 [.one (.ro .bool [v]), .one (.int .i64 8)] [] r lh =
  (
   ∃ r0 : Int × Int, SC P 92 [.one (.int .u64 1), .one (.int .u64 8)] [] [.one (.int .u64 r0.1), .one (.int .u64 r0.2)] [] ∧
    Br (decide ((0 : Int) < r0.1)) (
     False) (
     Br (decide ((9223372036854775807 : Int) < r0.2)) (
      False) (
      Ck (decide ((0 : Int) ≤ (IntKind.wrap .i64 r0.2))) (
       Ck (decide ((IntKind.wrap .i64 r0.2) ≤ (IntKind.wrap .i64 r0.2))) (
        Ck (decide ((IntKind.wrap .i64 r0.2) * (1 : Nat) ≤ (roomy : Int))) (
         FL E H57 Try.f57 0 r lh 0 (S57_L0 (((min 1 ((List.replicate ((IntKind.wrap .i64 r0.2).toNat) (false : Bool)).length)) : Nat) : Int) ([v].take ((List.replicate ((IntKind.wrap .i64 r0.2).toNat) (false : Bool)).length) ++ (List.replicate ((IntKind.wrap .i64 r0.2).toNat) (false : Bool)).drop (min 1 ((List.replicate ((IntKind.wrap .i64 r0.2).toNat) (false : Bool)).length)))))))))) := by kernel_rfl
theorem eq57_L0 (n8 : Int) (h0 : List Bool) (r : List W) (lh : Heap) : FL1 E H57 Try.f57 0 r lh 0 (S57_L0 n8 h0) =
  (
   Br (decide (n8 < ((h0.length : Nat) : Int))) (
    Ck (decide ((0 : Int) ≤ n8)) (
     Ck (decide (n8 ≤ ((h0.length : Nat) : Int))) (
      Ck (decide (((h0.length : Nat) : Int) ≤ ((h0.length : Nat) : Int))) (
       Ck (decide (((h0.length : Nat) : Int) ≤ ((h0.length : Nat) : Int))) (
        Ck (decide ((0 : Int) ≤ n8)) (
         Ck (decide (n8 ≤ ((h0.length : Nat) : Int))) (
          Ck (decide (((h0.length : Nat) : Int) ≤ ((h0.length : Nat) : Int))) (
           FL E H57 Try.f57 0 r lh 0 (S57_L0 (IntKind.wrap .i64 (n8 + (((min (((h0.drop 0).take n8.toNat).length) (((h0.length : Nat) : Int).toNat - n8.toNat)) : Nat) : Int))) (h0.take n8.toNat ++ ((h0.drop 0).take n8.toNat).take (((h0.length : Nat) : Int).toNat - n8.toNat) ++ h0.drop (n8.toNat + (min (((h0.drop 0).take n8.toNat).length) (((h0.length : Nat) : Int).toNat - n8.toNat))))))))))))) (
    Ret r lh [.one (.sl 0 none)] [.row .bool h0 .own])) := by kernel_rfl
theorem l57_4 (v : Bool) : FL E H57 Try.f57 0 [.one (.sl 0 none)] [.row (.bool) [v, v, v, v, v, v, v, v] .own] 0 (S57_L0 8 [v, v, v, v, v, v, v, v]) := by
  refine FL_of1 ?_
  rw [eq57_L0]
  exact Br_f (by simp) ⟨rfl, rfl⟩
theorem l57_3 (v : Bool) : FL E H57 Try.f57 0 [.one (.sl 0 none)] [.row (.bool) [v, v, v, v, v, v, v, v] .own] 0 (S57_L0 4 [v, v, v, v, false, false, false, false]) := by
  refine FL_of1 ?_
  rw [eq57_L0]
  exact Br_t (by simp) (Ck_d (by omega) (Ck_d (by simp) (Ck_d (by omega) (Ck_d (by omega) (Ck_d (by omega) (Ck_d (by simp) (Ck_d (by omega) (l57_4 v))))))))
theorem l57_2 (v : Bool) : FL E H57 Try.f57 0 [.one (.sl 0 none)] [.row (.bool) [v, v, v, v, v, v, v, v] .own] 0 (S57_L0 2 [v, v, false, false, false, false, false, false]) := by
  refine FL_of1 ?_
  rw [eq57_L0]
  exact Br_t (by simp) (Ck_d (by omega) (Ck_d (by simp) (Ck_d (by omega) (Ck_d (by omega) (Ck_d (by omega) (Ck_d (by simp) (Ck_d (by omega) (l57_3 v))))))))
theorem l57_1 (v : Bool) : FL E H57 Try.f57 0 [.one (.sl 0 none)] [.row (.bool) [v, v, v, v, v, v, v, v] .own] 0 (S57_L0 1 [v, false, false, false, false, false, false, false]) := by
  refine FL_of1 ?_
  rw [eq57_L0]
  exact Br_t (by simp) (Ck_d (by omega) (Ck_d (by simp) (Ck_d (by omega) (Ck_d (by omega) (Ck_d (by omega) (Ck_d (by simp) (Ck_d (by omega) (l57_2 v))))))))
theorem c57 (v : Bool) : SC P 57 [.one (.ro (.bool) [v]), .one (.int .i64 8)] [] [.one (.sl 0 none)] [.row (.bool) [v, v, v, v, v, v, v, v] .own] := by
  refine SC_of_FB (H := H57) E_ok Try.func57 (by kernel_rfl) ?_
  rw [eq57]
  exact ⟨(0, 8), c92, Br_f (by simp) (Br_f (by simp) (Ck_d (by decide) (Ck_d (by omega) (Ck_d (by decide) (l57_1 v)))))⟩

abbrev Str := Int × List Int × List Int × List Bool
def stripeOk (kind : Int) (d : List Int) (vers : Int) : Bool := (inB kind 1 2 && vecOk d) && inB vers 1 99
def stripeF (kind : Int) (d : List Int) (vers : Int) : Str := bif stripeOk kind d vers then (kind, allF kind (vecF d), [vers, vers, vers, vers, vers, vers, vers, vers], [true, true, true, true, true, true, true, true]) else (0, [], [], [])
theorem stripeF_len {kind : Int} {d : List Int} {vers : Int} : (stripeF kind d vers).2.1.length ≤ 8 ∧ (stripeF kind d vers).2.2.1.length ≤ 8 ∧ (stripeF kind d vers).2.2.2.length ≤ 8 := by
  rw [stripeF]
  cases stripeOk kind d vers
  · exact ⟨Nat.zero_le _, Nat.zero_le _, Nat.zero_le _⟩
  · exact ⟨Nat.le_of_eq (allF_length _ _), Nat.le_refl _, Nat.le_refl _⟩
theorem Br_ne' {b : Bool} {A B : Prop} (h : B) : Br (b != b) A B := by cases b <;> exact h

/-! loop.example/keelson/spec.l21New -/
def H52 : Hint := ⟨[[(2, 0, .bool), (6, 0, .bool), (7, 0, .bool), (8, 0, .bool)]], [], [], [], [], [], []⟩
def S52_L0 (vers2 : Int) (i8 : Int) (b0_0 : Int) (b1_0 : Int) (h2 : List Int) (h3 : List Bool) : St := ⟨[(2, .w (.one (.int .i64 vers2))), (6, .w (.one (.ptr 0 0 0))), (7, .w (.one (.ptr 1 0 0))), (8, .w (.one (.int .i64 i8)))], [.box [.int .i64 b0_0, .nil, .nil, .nil], .box [.int .i64 b1_0, .sl 2 none, .nil, .sl 3 none], .row (.int .i64) h2 .own, .row .bool h3 .own]⟩
def S52_L0b (vers2 : Int) (i8 : Int) (b0_0 : Int) (b1_0 : Int) (h2 : List Int) (h3 : List Int) (h4 : List Bool) : St := ⟨[(2, .w (.one (.int .i64 vers2))), (6, .w (.one (.ptr 0 0 0))), (7, .w (.one (.ptr 1 0 0))), (8, .w (.one (.int .i64 i8)))], [.box [.int .i64 b0_0, .nil, .nil, .nil], .box [.int .i64 b1_0, .sl 2 none, .sl 3 none, .sl 4 none], .row (.int .i64) h2 .own, .row (.int .i64) h3 .own, .row .bool h4 .own]⟩
theorem eq52 (kind : Int) (data : List Int) (vers : Int) (r : List W) (lh : Heap) : FB E H52 Try.f52 [.one (.int .i64 kind), .one (.ro (.int .i64) data), .one (.int .i64 vers)] [] r lh =
  (
   ∃ r0 : List Int, SC P 88 [.one (.int .i64 kind), .one (.ro (.int .i64) data)] [] [.one (.sl 0 none)] [.row (.int .i64) r0 .own] ∧
    ∃ r1 : List Bool, SC P 76 [.one (.int .i64 255)] [] [.one (.sl 0 none)] [.row .bool r1 .own] ∧
     FL E H52 Try.f52 0 r lh 0 (S52_L0 vers 0 0 kind r0 r1)) := by kernel_rfl
theorem eq52_L0 (vers2 : Int) (i8 : Int) (b0_0 : Int) (b1_0 : Int) (h2 : List Int) (h3 : List Bool) (r : List W) (lh : Heap) : FL1 E H52 Try.f52 0 r lh 0 (S52_L0 vers2 i8 b0_0 b1_0 h2 h3) =
  (
   Br (decide (i8 < (8 : Int))) (
    FL E H52 Try.f52 0 r lh 0 (S52_L0b vers2 (IntKind.wrap .i64 (i8 + 1)) b0_0 b1_0 h2 [vers2] h3)) (
    Ret r lh [.agg [.int .i64 b1_0, .sl 0 none, .nil, .sl 1 none]] [.row (.int .i64) h2 .own, .row .bool h3 .own])) := by kernel_rfl
theorem eq52_L0b (vers2 : Int) (i8 : Int) (b0_0 : Int) (b1_0 : Int) (h2 : List Int) (h3 : List Int) (h4 : List Bool) (r : List W) (lh : Heap) : FL1 E H52 Try.f52 0 r lh 0 (S52_L0b vers2 i8 b0_0 b1_0 h2 h3 h4) =
  (
   Br (decide (i8 < (8 : Int))) (
    Ck (Nat.ble ((h3.length + 1) * 8) roomy) (
     FL E H52 Try.f52 0 r lh 0 (S52_L0b vers2 (IntKind.wrap .i64 (i8 + 1)) b0_0 b1_0 h2 (h3 ++ [vers2]) h4))) (
    Ret r lh [.agg [.int .i64 b1_0, .sl 0 none, .sl 1 none, .sl 2 none]] [.row (.int .i64) h2 .own, .row (.int .i64) h3 .own, .row .bool h4 .own])) := by kernel_rfl
theorem l52b (kind vers z : Int) (vals : List Int) (th : List Bool) : ∀ (n i : Nat) (vs : List Int), i + n = 8 → vs = List.replicate i vers → FL E H52 Try.f52 0 [.agg [.int .i64 kind, .sl 0 none, .sl 1 none, .sl 2 none]] [.row (.int .i64) vals .own, .row (.int .i64) [vers, vers, vers, vers, vers, vers, vers, vers] .own, .row .bool th .own] 0 (S52_L0b vers (i : Int) z kind vals vs th)
  | 0, i, vs, h, hv => by
    obtain rfl : i = 8 := by omega
    refine FL_of1 ?_
    rw [eq52_L0b, hv]
    exact Br_f (by omega) ⟨rfl, rfl⟩
  | n + 1, i, vs, h, hv => by
    have hl : vs.length = i := by rw [hv, List.length_replicate]
    refine FL_of1 ?_
    rw [eq52_L0b, wS (by omega)]
    exact Br_t (by omega) (Ck_room (by omega) (l52b kind vers z vals th n (i + 1) (vs ++ [vers]) (by omega) (by rw [hv, List.replicate_succ'])))
theorem c52 (kind : Int) (hk : inB kind 1 2 = true) (d : V4) (hd : VOk d) (vers : Int) : SC P 52 [.one (.int .i64 kind), .one (.ro (.int .i64) d.l), .one (.int .i64 vers)] [] [.agg [.int .i64 kind, .sl 0 none, .sl 1 none, .sl 2 none]] [.row (.int .i64) (allF kind d) .own, .row (.int .i64) [vers, vers, vers, vers, vers, vers, vers, vers] .own, .row .bool [true, true, true, true, true, true, true, true] .own] := by
  refine SC_of_FB (H := H52) E_ok Try.func52 (by kernel_rfl) ?_
  rw [eq52]
  refine ⟨_, c88 kind hk d hd, _, c76, ?_⟩
  refine FL_of1 ?_
  rw [eq52_L0]
  exact Br_t (by omega) (l52b kind vers 0 _ _ 7 1 [vers] (by omega) rfl)

/-! loop.example/keelson/impl.versOk -/
def H54 : Hint := ⟨[], [], [], [], [], [], []⟩
theorem eq54 (n : Int) (r : List W) (lh : Heap) : FB E H54 Try.f54 [.one (.int .i64 n)] [] r lh =
  (
   ∃ r0 : Bool, SC P 78 [.one (.int .i64 n), .one (.int .i64 1), .one (.int .i64 99)] [] [.one (.bool r0)] [] ∧
    Ret r lh [.one (.bool r0)] []) := by kernel_rfl
theorem c54 (n : Int) : SC P 54 [.one (.int .i64 n)] [] [.one (.bool (inB n 1 99))] [] := by
  refine SC_of_FB (H := H54) E_ok Try.func54 (by kernel_rfl) ?_
  rw [eq54]
  exact ⟨_, c78 _ _ _, rfl, rfl⟩

/-! loop.example/keelson/spec.StripeNew -/
def H21 : Hint := ⟨[], [], [], [], [.agg [.c (.int .i64), .own (.int .i64), .own (.int .i64), .own .bool], .one (.c .bool)], [], []⟩
theorem eq21 (kind : Int) (data : List Int) (vers : Int) (r : List W) (lh : Heap) : FB E H21 Try.f21 [.one (.int .i64 kind), .one (.ro (.int .i64) data), .one (.int .i64 vers)] [] r lh =
  (
   ∃ r0 : Bool, SC P 37 [.one (.int .i64 kind)] [] [.one (.bool r0)] [] ∧
    Br (!r0) (
     Ret r lh [.agg [.int .i64 0, .sl 0 none, .sl 1 none, .sl 2 none], .one (.bool false)] [.row (.int .i64) [] .own, .row (.int .i64) [] .own, .row .bool [] .own]) (
     ∃ r1 : Bool, SC P 50 [.one (.ro (.int .i64) data)] [] [.one (.bool r1)] [] ∧
      Br (!r1) (
       Ret r lh [.agg [.int .i64 0, .sl 0 none, .sl 1 none, .sl 2 none], .one (.bool false)] [.row (.int .i64) [] .own, .row (.int .i64) [] .own, .row .bool [] .own]) (
       ∃ r2 : Bool, SC P 51 [.one (.int .i64 vers), .one (.int .i64 1), .one (.int .i64 99)] [] [.one (.bool r2)] [] ∧
        Br (!r2) (
         Ret r lh [.agg [.int .i64 0, .sl 0 none, .sl 1 none, .sl 2 none], .one (.bool false)] [.row (.int .i64) [] .own, .row (.int .i64) [] .own, .row .bool [] .own]) (
         ∃ r3 : Int × List Int × List Int × List Bool, SC P 52 [.one (.int .i64 kind), .one (.ro (.int .i64) data), .one (.int .i64 vers)] [] [.agg [.int .i64 r3.1, .sl 0 none, .sl 1 none, .sl 2 none]] [.row (.int .i64) r3.2.1 .own, .row (.int .i64) r3.2.2.1 .own, .row .bool r3.2.2.2 .own] ∧
          Ret r lh [.agg [.int .i64 r3.1, .sl 0 none, .sl 1 none, .sl 2 none], .one (.bool true)] [.row (.int .i64) r3.2.1 .own, .row (.int .i64) r3.2.2.1 .own, .row .bool r3.2.2.2 .own])))) := by kernel_rfl
theorem c21 (kind : Int) (d : List Int) (vers : Int) (hd : d.length ≤ 1048576) : SC P 21 [.one (.int .i64 kind), .one (.ro (.int .i64) d), .one (.int .i64 vers)] [] [.agg [.int .i64 (stripeF kind d vers).1, .sl 0 none, .sl 1 none, .sl 2 none], .one (.bool (stripeOk kind d vers))] [.row (.int .i64) (stripeF kind d vers).2.1 .own, .row (.int .i64) (stripeF kind d vers).2.2.1 .own, .row .bool (stripeF kind d vers).2.2.2 .own] := by
  refine SC_of_FB (H := H21) E_ok Try.func21 (by kernel_rfl) ?_
  rw [eq21]
  have no : stripeOk kind d vers = false → [W.agg [.int .i64 0, .sl 0 none, .sl 1 none, .sl 2 none], W.one (.bool false)] = [W.agg [.int .i64 (stripeF kind d vers).1, .sl 0 none, .sl 1 none, .sl 2 none], W.one (.bool (stripeOk kind d vers))] ∧ ([.row (.int .i64) [] .own, .row (.int .i64) [] .own, .row .bool [] .own] : Heap) = [.row (.int .i64) (stripeF kind d vers).2.1 .own, .row (.int .i64) (stripeF kind d vers).2.2.1 .own, .row .bool (stripeF kind d vers).2.2.2 .own] := by
    intro h
    rw [stripeF, h]
    exact ⟨rfl, rfl⟩
  refine ⟨_, c37 kind, Br_nb (fun e => no (by rw [stripeOk, e]; rfl)) (fun e => ⟨_, c50 d hd, Br_nb (fun e' => no (by rw [stripeOk, e', Bool.and_false]; rfl)) (fun e' => ⟨_, c51 vers 1 99, Br_nb (fun e2 => no (by rw [stripeOk, e2, Bool.and_false])) (fun e2 => ?_)⟩)⟩)⟩
  obtain ⟨v, hv, rfl⟩ := vecOk_v e'
  rw [stripeF, stripeOk, e, e', e2, vecF_l hv]
  exact ⟨(kind, _, _, _), c52 kind e v hv vers, rfl, rfl⟩

/-! loop.example/keelson/impl.StripeNew -/
def H22 : Hint := ⟨[], [], [], [], [.agg [.c (.int .i64), .own (.int .i64), .own (.int .i64), .own .bool], .one (.c .bool)], [], []⟩
theorem eq22 (kind : Int) (data : List Int) (vers : Int) (r : List W) (lh : Heap) : FB E H22 Try.f22 [.one (.int .i64 kind), .one (.ro (.int .i64) data), .one (.int .i64 vers)] [] r lh =
  (
   ∃ r0 : Int × Int × Int × Int × Bool, SC P 53 [.one (.ro (.int .i64) data)] [] [.agg [.int .i64 r0.1, .int .i64 r0.2.1, .int .i64 r0.2.2.1, .int .i64 r0.2.2.2.1], .one (.bool r0.2.2.2.2)] [] ∧
    Br (!r0.2.2.2.2) (
     Ret r lh [.agg [.int .i64 0, .sl 0 none, .sl 1 none, .sl 2 none], .one (.bool false)] [.row (.int .i64) [] .own, .row (.int .i64) [] .own, .row .bool [] .own]) (
     ∃ r1 : Bool, SC P 39 [.one (.int .i64 kind)] [] [.one (.bool r1)] [] ∧
      Br (!r1) (
       Ret r lh [.agg [.int .i64 0, .sl 0 none, .sl 1 none, .sl 2 none], .one (.bool false)] [.row (.int .i64) [] .own, .row (.int .i64) [] .own, .row .bool [] .own]) (
       ∃ r2 : Bool, SC P 54 [.one (.int .i64 vers)] [] [.one (.bool r2)] [] ∧
        Br (!r2) (
         Ret r lh [.agg [.int .i64 0, .sl 0 none, .sl 1 none, .sl 2 none], .one (.bool false)] [.row (.int .i64) [] .own, .row (.int .i64) [] .own, .row .bool [] .own]) (
         ∃ r3 : List Int, SC P 55 [.one (.int .i64 kind), .agg [.int .i64 r0.1, .int .i64 r0.2.1, .int .i64 r0.2.2.1, .int .i64 r0.2.2.2.1]] [] [.one (.sl 0 none)] [.row (.int .i64) r3 .own] ∧
          ∃ r4 : List Int, SC P 56 [.one (.ro (.int .i64) [vers]), .one (.int .i64 8)] [] [.one (.sl 0 none)] [.row (.int .i64) r4 .own] ∧
           ∃ r5 : List Bool, SC P 57 [.one (.ro .bool [true]), .one (.int .i64 8)] [] [.one (.sl 0 none)] [.row .bool r5 .own] ∧
            Ret r lh [.agg [.int .i64 kind, .sl 0 none, .sl 1 none, .sl 2 none], .one (.bool true)] [.row (.int .i64) r3 .own, .row (.int .i64) r4 .own, .row .bool r5 .own])))) := by kernel_rfl
theorem c22 (kind : Int) (d : List Int) (vers : Int) (hd : d.length ≤ 1048576) : SC P 22 [.one (.int .i64 kind), .one (.ro (.int .i64) d), .one (.int .i64 vers)] [] [.agg [.int .i64 (stripeF kind d vers).1, .sl 0 none, .sl 1 none, .sl 2 none], .one (.bool (stripeOk kind d vers))] [.row (.int .i64) (stripeF kind d vers).2.1 .own, .row (.int .i64) (stripeF kind d vers).2.2.1 .own, .row .bool (stripeF kind d vers).2.2.2 .own] := by
  refine SC_of_FB (H := H22) E_ok Try.func22 (by kernel_rfl) ?_
  rw [eq22]
  have no : stripeOk kind d vers = false → [W.agg [.int .i64 0, .sl 0 none, .sl 1 none, .sl 2 none], W.one (.bool false)] = [W.agg [.int .i64 (stripeF kind d vers).1, .sl 0 none, .sl 1 none, .sl 2 none], W.one (.bool (stripeOk kind d vers))] ∧ ([.row (.int .i64) [] .own, .row (.int .i64) [] .own, .row .bool [] .own] : Heap) = [.row (.int .i64) (stripeF kind d vers).2.1 .own, .row (.int .i64) (stripeF kind d vers).2.2.1 .own, .row .bool (stripeF kind d vers).2.2.2 .own] := by
    intro h
    rw [stripeF, h]
    exact ⟨rfl, rfl⟩
  refine ⟨((vecF d).1, (vecF d).2.1, (vecF d).2.2.1, (vecF d).2.2.2, vecOk d), c53 d hd, Br_nb (fun e => no (by rw [stripeOk, show vecOk d = false from e, Bool.and_false]; rfl)) (fun e => ⟨_, c39 kind, Br_nb (fun e' => no (by rw [stripeOk, e']; rfl)) (fun e' => ⟨_, c54 vers, Br_nb (fun e2 => no (by rw [stripeOk, e2, Bool.and_false])) (fun e2 => ?_)⟩)⟩)⟩
  have e : vecOk d = true := e
  obtain ⟨v, hv, rfl⟩ := vecOk_v e
  rw [stripeF, stripeOk, e, e', e2, vecF_l hv]
  exact ⟨_, c55 kind v hv, _, c56 vers, _, c57 true, rfl, rfl⟩

/-! loop.example/keelson/laws.eqStripe -/
def H32 : Hint := ⟨[], [], [], [], [], [], []⟩
theorem eq32 (a : (Int × (List Int × (List Int × List Bool)))) (b : (Int × (List Int × (List Int × List Bool)))) (r : List W) (lh : Heap) : FB E H32 Try.f32 [.agg [.int .i64 a.1, .ro (.int .i64) a.2.1, .ro (.int .i64) a.2.2.1, .ro .bool a.2.2.2], .agg [.int .i64 b.1, .ro (.int .i64) b.2.1, .ro (.int .i64) b.2.2.1, .ro .bool b.2.2.2]] [] r lh =
  (
   Br (!(decide (a.1 = b.1))) (
    Ret r lh [.one (.bool false)] []) (
    ∃ r0 : Bool, SC P 74 [.one (.ro (.int .i64) a.2.1), .one (.ro (.int .i64) b.2.1)] [] [.one (.bool r0)] [] ∧
     Br (!r0) (
      Ret r lh [.one (.bool false)] []) (
      ∃ r1 : Bool, SC P 74 [.one (.ro (.int .i64) a.2.2.1), .one (.ro (.int .i64) b.2.2.1)] [] [.one (.bool r1)] [] ∧
       Br (!r1) (
        Ret r lh [.one (.bool false)] []) (
        ∃ r2 : Bool, SC P 16 [.one (.ro .bool a.2.2.2), .one (.ro .bool b.2.2.2)] [] [.one (.bool r2)] [] ∧
         Br (!r2) (
          Ret r lh [.one (.bool false)] []) (
          Ret r lh [.one (.bool true)] []))))) := by kernel_rfl
theorem c32 (a b : Str) (h1 : a.2.1.length ≤ 1048576) (h2 : a.2.2.1.length ≤ 1048576) (h3 : a.2.2.2.length ≤ 1048576) : SC P 32 [.agg [.int .i64 a.1, .ro (.int .i64) a.2.1, .ro (.int .i64) a.2.2.1, .ro .bool a.2.2.2], .agg [.int .i64 b.1, .ro (.int .i64) b.2.1, .ro (.int .i64) b.2.2.1, .ro .bool b.2.2.2]] [] [.one (.bool (decide (a = b)))] [] := by
  refine SC_of_FB (H := H32) E_ok Try.func32 (by kernel_rfl) ?_
  rw [eq32]
  have no : a ≠ b → [W.one (.bool false)] = [W.one (.bool (decide (a = b)))] := fun h => by rw [decide_eq_false h]
  refine Br_nd (fun h => ⟨no (fun e => h (by rw [e])), rfl⟩) (fun g1 => ⟨_, c74 _ _ h1, Br_nb (fun e => ⟨no (fun e' => of_decide_eq_false e (by rw [e'])), rfl⟩) (fun g2 => ⟨_, c74 _ _ h2, Br_nb (fun e => ⟨no (fun e' => of_decide_eq_false e (by rw [e'])), rfl⟩) (fun g3 => ⟨_, c16 _ _ h3, Br_nb (fun e => ⟨no (fun e' => of_decide_eq_false e (by rw [e'])), rfl⟩) (fun g4 => ⟨?_, rfl⟩)⟩)⟩)⟩)
  rw [decide_eq_true (Prod.ext g1 (Prod.ext (of_decide_eq_true g2) (Prod.ext (of_decide_eq_true g3) (of_decide_eq_true g4))))]

abbrev Kee := Str × Bool × Int × List Int × Int

end Go.Proofs.Ytjoiadaogppmkaa.Sh
