/- Contracts, poured together. -/
import Derived.Test.YtnbdhclkmcfdfaaShQ1
import Derived.Test.YtnbdhclkmcfdfaaMaDel
import Derived.Test.YtnbdhclkmcfdfaaMaRank
namespace Go.Proofs.Ytnbdhclkmcfdfaa.Sh
open Go
set_option linter.unusedVariables false
set_option linter.unusedSimpArgs false
/-! loop.example/keelson/laws.eqBoolS -/
def H45 : Hint := ⟨[[(0, 0, .bool), (1, 0, .bool), (5, 0, .bool)]], [], [(6, [0, 1, 2, 3, 4, 5, 6, 7, 8])], [], [], [], []⟩
def S45_L0 (a0 : List Bool) (b1 : List Bool) (i5 : Int) : St := ⟨[(0, .w (.one (.ro .bool a0))), (1, .w (.one (.ro .bool b1))), (5, .w (.one (.int .i64 i5)))], []⟩
theorem eq45 (a : List Bool) (b : List Bool) (r : List W) (lh : Heap) : FB E H45 Try.f45 [.one (.ro .bool a), .one (.ro .bool b)] [] r lh =
  (
   Br (!(decide (((a.length : Nat) : Int) = ((b.length : Nat) : Int)))) (
    Ret r lh [.one (.bool false)] []) (
    FL E H45 Try.f45 0 r lh 0 (S45_L0 a b 0))) := by kernel_rfl
theorem eq45_L0 (a0 : List Bool) (b1 : List Bool) (i5 : Int) (r : List W) (lh : Heap) : FL1 E H45 Try.f45 0 r lh 0 (S45_L0 a0 b1 i5) =
  (
   Br (decide (i5 < ((a0.length : Nat) : Int))) (
    Ck (decide ((0 : Int) ≤ i5)) (
     Ck (decide (i5 < ((a0.length : Nat) : Int))) (
      Ck (decide ((0 : Int) ≤ i5)) (
       Ck (decide (i5 < ((b1.length : Nat) : Int))) (
        Br ((a0.getD i5.toNat false) != (b1.getD i5.toNat false)) (
         Ret r lh [.one (.bool false)] []) (
         FL E H45 Try.f45 0 r lh 0 (S45_L0 a0 b1 (IntKind.wrap .i64 (i5 + 1))))))))) (
    Ret r lh [.one (.bool true)] [])) := by kernel_rfl
theorem l45 (a b : List Bool) (hl : a.length ≤ 1048576) (hb : a.length = b.length) : ∀ (n i : Nat), i + n = a.length → FL E H45 Try.f45 0 [.one (.bool (allR (fun j => decide (a.getD j false = b.getD j false)) i n))] [] 0 (S45_L0 a b (i : Int))
  | 0, i, h => by
    refine FL_of1 ?_
    rw [eq45_L0]
    exact Br_f (by omega) ⟨rfl, rfl⟩
  | n + 1, i, h => by
    refine FL_of1 ?_
    rw [eq45_L0, wS (by omega)]
    simp only [Int.toNat_natCast]
    refine Br_t (by omega) (Ck_d (by omega) (Ck_d (by omega) (Ck_d (by omega) (Ck_d (by omega) (Br_b (fun h1 => ?_) (fun h1 => ?_))))))
    · exact ⟨by rw [allR_f (by simpa using h1)], rfl⟩
    · rw [allR_t (by simpa using h1)]
      exact l45 a b hl hb n (i + 1) (by omega)
theorem c45 (a b : List Bool) (hl : a.length ≤ 1048576) : SC P 45 [.one (.ro (.bool) a), .one (.ro (.bool) b)] [] [.one (.bool (decide (a = b)))] [] := by
  refine SC_of_FB (H := H45) E_ok Try.func45 (by kernel_rfl) ?_
  rw [eq45]
  refine Br_nd (fun h => ⟨?_, rfl⟩) (fun h => ?_)
  · rw [decide_eq_false (by rintro rfl; exact h rfl)]
  · have h : a.length = b.length := by omega
    rw [← eqR (z := false) h]
    exact l45 a b hl h a.length 0 (by omega)

/-! loop.example/keelson/laws.markBoolS -/
def H46 : Hint := ⟨[[(0, 0, .bool), (1, 0, .bool), (5, 0, .bool)]], [], [], [], [], [], []⟩
def S46_L0 (k1 : Int) (i5 : Int) (h0 : List Bool) : St := ⟨[(0, .w (.one (.sl 0 none))), (1, .w (.one (.int .i64 k1))), (5, .w (.one (.int .i64 i5)))], [.row .bool h0 .own]⟩
theorem eq46 (l : List Bool) (k : Int) (r : List W) (lh : Heap) : FB E H46 Try.f46 [.one (.sl 0 none), .one (.int .i64 k)] [.row .bool l .own] r lh =
  (
   FL E H46 Try.f46 1 r lh 0 (S46_L0 k 0 l)) := by kernel_rfl
theorem eq46_L0 (k1 : Int) (i5 : Int) (h0 : List Bool) (r : List W) (lh : Heap) : FL1 E H46 Try.f46 1 r lh 0 (S46_L0 k1 i5 h0) =
  (
   Br (decide (i5 < ((h0.length : Nat) : Int))) (
    Ck (decide ((0 : Int) ≤ i5)) (
     Ck (decide (i5 < ((h0.length : Nat) : Int))) (
      Ck (Nat.ble (i5.toNat + 1) h0.length) (
       FL E H46 Try.f46 1 r lh 0 (S46_L0 (IntKind.wrap .i64 (k1 + 1)) (IntKind.wrap .i64 (i5 + 1)) (h0.set i5.toNat (decide ((Int.tmod k1 3) = (0 : Int))))))))) (
    Ret r lh [.one (.int .i64 k1)] [.row .bool h0 .own])) := by kernel_rfl
theorem l46 (k : Int) (m : Nat) (hm : m ≤ 1048576) (k0 : 0 ≤ k) (k1 : k ≤ 1073741824) : ∀ (n i : Nat) (out : List Bool), i + n = m → out.length = m → (∀ j, j < i → out[j]? = (marks (fun k : Int => decide (Int.tmod k 3 = 0)) k m)[j]?) →
    FL E H46 Try.f46 1 [.one (.int .i64 (k + m))] [.row (.bool) (marks (fun k : Int => decide (Int.tmod k 3 = 0)) k m) .own] 0 (S46_L0 (k + (i : Int)) (i : Int) out)
  | 0, i, out, h, ho, H => by
    refine FL_of1 ?_
    rw [eq46_L0]
    obtain rfl : out = marks (fun k : Int => decide (Int.tmod k 3 = 0)) k m := fill_done (by rw [marks_length]; exact ho) fun j hj => H j (by rw [marks_length] at hj; omega)
    refine Br_f (by omega) ⟨?_, rfl⟩
    rw [show (i : Int) = m by omega]
  | n + 1, i, out, h, ho, H => by
    refine FL_of1 ?_
    rw [eq46_L0, wS (by omega), wrap64 (n := k + (i : Int) + 1) (by omega) (by omega), show k + (i : Int) + 1 = k + ((i + 1 : Nat) : Int) by omega]
    simp only [Int.toNat_natCast]
    refine Br_t (by omega) (Ck_d (by omega) (Ck_d (by omega) (Ck_lt (by omega) ?_)))
    exact l46 k m hm k0 k1 n (i + 1) _ (by omega) (by simp [ho]) (fill_step (by rw [marks_length]; exact ho) (by rw [marks_get (by omega)]) H)
theorem c46 (l : List Bool) (k : Int) (hl : l.length ≤ 1048576) (k0 : 0 ≤ k) (k1 : k ≤ 1073741824) : SC P 46 [.one (.sl 0 none), .one (.int .i64 k)] [.row (.bool) l .own] [.one (.int .i64 (k + l.length))] [.row (.bool) (marks (fun k : Int => decide (Int.tmod k 3 = 0)) k l.length) .own] := by
  refine SC_of_FB (H := H46) E_ok Try.func46 (by kernel_rfl) ?_
  rw [eq46]
  have := l46 k l.length hl k0 k1 l.length 0 l (by omega) rfl (fun j hj => absurd hj (by omega))
  rw [show k + ((0 : Nat) : Int) = k by omega] at this
  exact this

/-! slices.Clone[[]int,int] -/
def H122 : Hint := ⟨[], [], [], [], [.one (.own (.int .i64))], [], []⟩
theorem eq122 (s : List Int) (r : List W) (lh : Heap) : FB E H122 Try.f122 [.one (.ro (.int .i64) s)] [] r lh =
  (
   ∀ e0 : Bool, (Nat.blt 0 s.length = true → e0 = false) →
    Br e0 (
     Ret r lh [.one (.sl 0 none)] [.row (.int .i64) [] .own]) (
     Ck (Nat.ble ((0 + s.length) * 8) roomy) (
      Ret r lh [.one (.sl 0 none)] [.row (.int .i64) ([] ++ s) .own]))) := by kernel_rfl
theorem c122 (l : List Int) (hl : l.length ≤ 1048576) : SC P 122 [.one (.ro (.int .i64) l)] [] [.one (.sl 0 none)] [.row (.int .i64) l .own] := by
  refine SC_of_FB (H := H122) E_ok Try.func122 (by kernel_rfl) ?_
  rw [eq122]
  intro e0 he
  refine Br_b (fun h => ?_) (fun h => Ck_room (by omega) ⟨rfl, rfl⟩)
  subst h
  cases l with
  | nil => exact ⟨rfl, rfl⟩
  | cons x l => exact absurd (he (Nat.ble_eq_true_of_le (by simp))) (by simp)

/-! slices.Clip[[]int,int] -/
def H137 : Hint := ⟨[], [], [], [], [.one (.sub 0)], [], []⟩
theorem eq137 (l : List (Int)) (r : List W) (lh : Heap) : FB E H137 Try.f137 [.one (.sl 0 none)] [.row (.int .i64) l .own] r lh =
  (
   Ck (decide ((0 : Int) ≤ ((l.length : Nat) : Int))) (
    Ck (decide (((l.length : Nat) : Int) ≤ ((l.length : Nat) : Int))) (
     Ck (decide (((l.length : Nat) : Int) ≤ ((l.length : Nat) : Int))) (
      Ret r lh [.one (.sl 0 (some (0, ((l.length : Nat) : Int).toNat)))] [.row (.int .i64) l .own])))) := by kernel_rfl
theorem c137 (l : List Int) : SC P 137 [.one (.sl 0 none)] [.row (.int .i64) l .own] [.one (.sl 0 (some (0, l.length)))] [.row (.int .i64) l .own] := by
  refine SC_of_FB (H := H137) E_ok Try.func137 (by kernel_rfl) ?_
  rw [eq137]
  exact Ck_d (by omega) (Ck_d (by omega) (Ck_d (by omega) ⟨rfl, rfl⟩))

/-! slices.Clip[[]int,int] -/
def H137w : Hint := ⟨[], [], [], [], [.one (.sub 0)], [], []⟩
theorem eq137w (l : List (Int)) (k : Nat) (r : List W) (lh : Heap) : FB E H137w Try.f137 [.one (.sl 0 (some (0, k)))] [.row (.int .i64) l .own] r lh =
  (
   Ck (decide ((0 : Int) ≤ ((k : Nat) : Int))) (
    Ck (decide (((k : Nat) : Int) ≤ ((k : Nat) : Int))) (
     Ck (decide (((k : Nat) : Int) ≤ ((k : Nat) : Int))) (
      Ret r lh [.one (.sl 0 (some (0, (((k : Nat) : Int).toNat - 0))))] [.row (.int .i64) l .own])))) := by kernel_rfl
theorem c137w (l : List Int) (k : Nat) : SC P 137 [.one (.sl 0 (some (0, k)))] [.row (.int .i64) l .own] [.one (.sl 0 (some (0, k)))] [.row (.int .i64) l .own] := by
  refine SC_of_FB (H := H137w) E_ok Try.func137 (by kernel_rfl) ?_
  rw [eq137w]
  exact Ck_d (by omega) (Ck_d (by omega) (Ck_d (by omega) ⟨rfl, rfl⟩))

theorem placeAt_iff {l : List Int} {i : Nat} (hi : i < l.length) (h : inB (iAt l i) 1 12 = true) : placeAtOk l i = true ↔ ∀ k, k < i → iAt l k ≠ iAt l i := by
  rw [placeAtOk, h, Bool.true_and, has, Bool.not_eq_true', decide_eq_false_iff_not, List.mem_take_iff_getElem]
  constructor
  · rintro H k hk e
    refine H ⟨k, by omega, ?_⟩
    rw [iAt, iAt, getD_eq (show k < l.length by omega), getD_eq hi] at e
    rw [iAt, getD_eq hi]; exact e
  · rintro H ⟨k, hk, e⟩
    refine H k (by omega) ?_
    rw [iAt, getD_eq (show k < l.length by omega)]
    exact e

/-! loop.example/keelson/laws.lkMany -/
def H61 : Hint := ⟨[[(0, 0, .bool), (3, 0, .bool), (4, 0, .bool)]], [], [], [], [], [], []⟩
def S61_L0 (there0 : List Bool) (n3 : Int) (i4 : Int) : St := ⟨[(0, .w (.one (.ro .bool there0))), (3, .w (.one (.int .i64 n3))), (4, .w (.one (.int .i64 i4)))], []⟩
theorem eq61 (there : List Bool) (r : List W) (lh : Heap) : FB E H61 Try.f61 [.one (.ro .bool there)] [] r lh =
  (
   FL E H61 Try.f61 0 r lh 0 (S61_L0 there 0 0)) := by kernel_rfl
theorem eq61_L0 (there0 : List Bool) (n3 : Int) (i4 : Int) (r : List W) (lh : Heap) : FL1 E H61 Try.f61 0 r lh 0 (S61_L0 there0 n3 i4) =
  (
   Br (decide (i4 < ((there0.length : Nat) : Int))) (
    Ck (decide ((0 : Int) ≤ i4)) (
     Ck (decide (i4 < ((there0.length : Nat) : Int))) (
      Br (there0.getD i4.toNat false) (
       FL E H61 Try.f61 0 r lh 0 (S61_L0 there0 (IntKind.wrap .i64 (n3 + 1)) (IntKind.wrap .i64 (i4 + 1)))) (
       FL E H61 Try.f61 0 r lh 0 (S61_L0 there0 n3 (IntKind.wrap .i64 (i4 + 1))))))) (
    Ret r lh [.one (.int .i64 n3)] [])) := by kernel_rfl
theorem l61 (l : List Bool) (hl : l.length ≤ 1048576) : ∀ (n i m : Nat), i + n = l.length → m ≤ i → FL E H61 Try.f61 0 [.one (.int .i64 ((m + countR (fun j => (fun b => b) (l.getD j false)) i n : Nat) : Int))] [] 0 (S61_L0 l (m : Int) (i : Int))
  | 0, i, m, h, hm => by
    refine FL_of1 ?_
    rw [eq61_L0]
    exact Br_f (by omega) ⟨rfl, rfl⟩
  | n + 1, i, m, h, hm => by
    refine FL_of1 ?_
    rw [eq61_L0, wS (i := i) (by omega), wS (i := m) (by omega), countR]
    simp only [Int.toNat_natCast]
    refine Br_t (by omega) (Ck_d (by omega) (Ck_d (by omega) (Br_b (fun c => ?_) (fun c => ?_))))
    · rw [c]
      have := l61 l hl n (i + 1) (m + 1) (by omega) (by omega)
      rw [Nat.add_assoc] at this
      exact this
    · rw [c]
      have := l61 l hl n (i + 1) m (by omega) (by omega)
      rw [show ∀ q : Nat, (bif false then 1 else 0) + q = q from fun q => Nat.zero_add q]
      exact this
theorem c61 (l : List Bool) (hl : l.length ≤ 1048576) : SC P 61 [.one (.ro .bool l)] [] [.one (.int .i64 (l.countP (fun b => b) : Nat))] [] := by
  refine SC_of_FB (H := H61) E_ok Try.func61 (by kernel_rfl) ?_
  rw [eq61]
  have := l61 l hl l.length 0 0 (by omega) (by omega)
  rw [countR_countP (l := l) (z := false) (fun b => b), Nat.zero_add] at this
  exact this

end Go.Proofs.Ytnbdhclkmcfdfaa.Sh
