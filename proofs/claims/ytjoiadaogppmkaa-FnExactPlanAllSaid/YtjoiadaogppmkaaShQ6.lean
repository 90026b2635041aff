/- Contracts, poured together. -/
import Derived.Test.YtjoiadaogppmkaaShQ1
import Derived.Test.YtjoiadaogppmkaaMaDel
import Derived.Test.YtjoiadaogppmkaaMaRank
namespace Go.Proofs.Ytjoiadaogppmkaa.Sh
open Go
set_option linter.unusedVariables false
set_option linter.unusedSimpArgs false
/-! loop.example/keelson/laws.eqBoolS -/
def H16 : Hint := ⟨[[(0, 0, .bool), (1, 0, .bool), (5, 0, .bool)]], [], [(6, [0, 1, 2, 3, 4, 5, 6, 7, 8])], [], [], [], []⟩
def S16_L0 (a0 : List Bool) (b1 : List Bool) (i5 : Int) : St := ⟨[(0, .w (.one (.ro .bool a0))), (1, .w (.one (.ro .bool b1))), (5, .w (.one (.int .i64 i5)))], []⟩
theorem eq16 (a : List Bool) (b : List Bool) (r : List W) (lh : Heap) : FB E H16 Try.f16 [.one (.ro .bool a), .one (.ro .bool b)] [] r lh =
  (
   Br (!(decide (((a.length : Nat) : Int) = ((b.length : Nat) : Int)))) (
    Ret r lh [.one (.bool false)] []) (
    FL E H16 Try.f16 0 r lh 0 (S16_L0 a b 0))) := by kernel_rfl
theorem eq16_L0 (a0 : List Bool) (b1 : List Bool) (i5 : Int) (r : List W) (lh : Heap) : FL1 E H16 Try.f16 0 r lh 0 (S16_L0 a0 b1 i5) =
  (
   Br (decide (i5 < ((a0.length : Nat) : Int))) (
    Ck (decide ((0 : Int) ≤ i5)) (
     Ck (decide (i5 < ((a0.length : Nat) : Int))) (
      Ck (decide ((0 : Int) ≤ i5)) (
       Ck (decide (i5 < ((b1.length : Nat) : Int))) (
        Br ((a0.getD i5.toNat false) != (b1.getD i5.toNat false)) (
         Ret r lh [.one (.bool false)] []) (
         FL E H16 Try.f16 0 r lh 0 (S16_L0 a0 b1 (IntKind.wrap .i64 (i5 + 1))))))))) (
    Ret r lh [.one (.bool true)] [])) := by kernel_rfl
theorem l16 (a b : List Bool) (hl : a.length ≤ 1048576) (hb : a.length = b.length) : ∀ (n i : Nat), i + n = a.length → FL E H16 Try.f16 0 [.one (.bool (allR (fun j => decide (a.getD j false = b.getD j false)) i n))] [] 0 (S16_L0 a b (i : Int))
  | 0, i, h => by
    refine FL_of1 ?_
    rw [eq16_L0]
    exact Br_f (by omega) ⟨rfl, rfl⟩
  | n + 1, i, h => by
    refine FL_of1 ?_
    rw [eq16_L0, wS (by omega)]
    simp only [Int.toNat_natCast]
    refine Br_t (by omega) (Ck_d (by omega) (Ck_d (by omega) (Ck_d (by omega) (Ck_d (by omega) (Br_b (fun h1 => ?_) (fun h1 => ?_))))))
    · exact ⟨by rw [allR_f (by simpa using h1)], rfl⟩
    · rw [allR_t (by simpa using h1)]
      exact l16 a b hl hb n (i + 1) (by omega)
theorem c16 (a b : List Bool) (hl : a.length ≤ 1048576) : SC P 16 [.one (.ro (.bool) a), .one (.ro (.bool) b)] [] [.one (.bool (decide (a = b)))] [] := by
  refine SC_of_FB (H := H16) E_ok Try.func16 (by kernel_rfl) ?_
  rw [eq16]
  refine Br_nd (fun h => ⟨?_, rfl⟩) (fun h => ?_)
  · rw [decide_eq_false (by rintro rfl; exact h rfl)]
  · have h : a.length = b.length := by omega
    rw [← eqR (z := false) h]
    exact l16 a b hl h a.length 0 (by omega)

/-! loop.example/keelson/laws.markBoolS -/
def H17 : Hint := ⟨[[(0, 0, .bool), (1, 0, .bool), (5, 0, .bool)]], [], [], [], [], [], []⟩
def S17_L0 (k1 : Int) (i5 : Int) (h0 : List Bool) : St := ⟨[(0, .w (.one (.sl 0 none))), (1, .w (.one (.int .i64 k1))), (5, .w (.one (.int .i64 i5)))], [.row .bool h0 .own]⟩
theorem eq17 (l : List Bool) (k : Int) (r : List W) (lh : Heap) : FB E H17 Try.f17 [.one (.sl 0 none), .one (.int .i64 k)] [.row .bool l .own] r lh =
  (
   FL E H17 Try.f17 1 r lh 0 (S17_L0 k 0 l)) := by kernel_rfl
theorem eq17_L0 (k1 : Int) (i5 : Int) (h0 : List Bool) (r : List W) (lh : Heap) : FL1 E H17 Try.f17 1 r lh 0 (S17_L0 k1 i5 h0) =
  (
   Br (decide (i5 < ((h0.length : Nat) : Int))) (
    Ck (decide ((0 : Int) ≤ i5)) (
     Ck (decide (i5 < ((h0.length : Nat) : Int))) (
      Ck (Nat.ble (i5.toNat + 1) h0.length) (
       FL E H17 Try.f17 1 r lh 0 (S17_L0 (IntKind.wrap .i64 (k1 + 1)) (IntKind.wrap .i64 (i5 + 1)) (h0.set i5.toNat (decide ((Int.tmod k1 3) = (0 : Int))))))))) (
    Ret r lh [.one (.int .i64 k1)] [.row .bool h0 .own])) := by kernel_rfl
theorem l17 (k : Int) (m : Nat) (hm : m ≤ 1048576) (k0 : 0 ≤ k) (k1 : k ≤ 1073741824) : ∀ (n i : Nat) (out : List Bool), i + n = m → out.length = m → (∀ j, j < i → out[j]? = (marks (fun k : Int => decide (Int.tmod k 3 = 0)) k m)[j]?) →
    FL E H17 Try.f17 1 [.one (.int .i64 (k + m))] [.row (.bool) (marks (fun k : Int => decide (Int.tmod k 3 = 0)) k m) .own] 0 (S17_L0 (k + (i : Int)) (i : Int) out)
  | 0, i, out, h, ho, H => by
    refine FL_of1 ?_
    rw [eq17_L0]
    obtain rfl : out = marks (fun k : Int => decide (Int.tmod k 3 = 0)) k m := fill_done (by rw [marks_length]; exact ho) fun j hj => H j (by rw [marks_length] at hj; omega)
    refine Br_f (by omega) ⟨?_, rfl⟩
    rw [show (i : Int) = m by omega]
  | n + 1, i, out, h, ho, H => by
    refine FL_of1 ?_
    rw [eq17_L0, wS (by omega), wrap64 (n := k + (i : Int) + 1) (by omega) (by omega), show k + (i : Int) + 1 = k + ((i + 1 : Nat) : Int) by omega]
    simp only [Int.toNat_natCast]
    refine Br_t (by omega) (Ck_d (by omega) (Ck_d (by omega) (Ck_lt (by omega) ?_)))
    exact l17 k m hm k0 k1 n (i + 1) _ (by omega) (by simp [ho]) (fill_step (by rw [marks_length]; exact ho) (by rw [marks_get (by omega)]) H)
theorem c17 (l : List Bool) (k : Int) (hl : l.length ≤ 1048576) (k0 : 0 ≤ k) (k1 : k ≤ 1073741824) : SC P 17 [.one (.sl 0 none), .one (.int .i64 k)] [.row (.bool) l .own] [.one (.int .i64 (k + l.length))] [.row (.bool) (marks (fun k : Int => decide (Int.tmod k 3 = 0)) k l.length) .own] := by
  refine SC_of_FB (H := H17) E_ok Try.func17 (by kernel_rfl) ?_
  rw [eq17]
  have := l17 k l.length hl k0 k1 l.length 0 l (by omega) rfl (fun j hj => absurd hj (by omega))
  rw [show k + ((0 : Nat) : Int) = k by omega] at this
  exact this

/-! slices.Clone[[]int,int] -/
def H80 : Hint := ⟨[], [], [], [], [.one (.own (.int .i64))], [], []⟩
theorem eq80 (s : List Int) (r : List W) (lh : Heap) : FB E H80 Try.f80 [.one (.ro (.int .i64) s)] [] r lh =
  (
   ∀ e0 : Bool, (Nat.blt 0 s.length = true → e0 = false) →
    Br e0 (
     Ret r lh [.one (.sl 0 none)] [.row (.int .i64) [] .own]) (
     Ck (Nat.ble ((0 + s.length) * 8) roomy) (
      Ret r lh [.one (.sl 0 none)] [.row (.int .i64) ([] ++ s) .own]))) := by kernel_rfl
theorem c80 (l : List Int) (hl : l.length ≤ 1048576) : SC P 80 [.one (.ro (.int .i64) l)] [] [.one (.sl 0 none)] [.row (.int .i64) l .own] := by
  refine SC_of_FB (H := H80) E_ok Try.func80 (by kernel_rfl) ?_
  rw [eq80]
  intro e0 he
  refine Br_b (fun h => ?_) (fun h => Ck_room (by omega) ⟨rfl, rfl⟩)
  subst h
  cases l with
  | nil => exact ⟨rfl, rfl⟩
  | cons x l => exact absurd (he (Nat.ble_eq_true_of_le (by simp))) (by simp)

/-! slices.Clip[[]int,int] -/
def H107 : Hint := ⟨[], [], [], [], [.one (.sub 0)], [], []⟩
theorem eq107 (l : List (Int)) (r : List W) (lh : Heap) : FB E H107 Try.f107 [.one (.sl 0 none)] [.row (.int .i64) l .own] r lh =
  (
   Ck (decide ((0 : Int) ≤ ((l.length : Nat) : Int))) (
    Ck (decide (((l.length : Nat) : Int) ≤ ((l.length : Nat) : Int))) (
     Ck (decide (((l.length : Nat) : Int) ≤ ((l.length : Nat) : Int))) (
      Ret r lh [.one (.sl 0 (some (0, ((l.length : Nat) : Int).toNat)))] [.row (.int .i64) l .own])))) := by kernel_rfl
theorem c107 (l : List Int) : SC P 107 [.one (.sl 0 none)] [.row (.int .i64) l .own] [.one (.sl 0 (some (0, l.length)))] [.row (.int .i64) l .own] := by
  refine SC_of_FB (H := H107) E_ok Try.func107 (by kernel_rfl) ?_
  rw [eq107]
  exact Ck_d (by omega) (Ck_d (by omega) (Ck_d (by omega) ⟨rfl, rfl⟩))

/-! slices.Clip[[]int,int] -/
def H107w : Hint := ⟨[], [], [], [], [.one (.sub 0)], [], []⟩
theorem eq107w (l : List (Int)) (k : Nat) (r : List W) (lh : Heap) : FB E H107w Try.f107 [.one (.sl 0 (some (0, k)))] [.row (.int .i64) l .own] r lh =
  (
   Ck (decide ((0 : Int) ≤ ((k : Nat) : Int))) (
    Ck (decide (((k : Nat) : Int) ≤ ((k : Nat) : Int))) (
     Ck (decide (((k : Nat) : Int) ≤ ((k : Nat) : Int))) (
      Ret r lh [.one (.sl 0 (some (0, (((k : Nat) : Int).toNat - 0))))] [.row (.int .i64) l .own])))) := by kernel_rfl
theorem c107w (l : List Int) (k : Nat) : SC P 107 [.one (.sl 0 (some (0, k)))] [.row (.int .i64) l .own] [.one (.sl 0 (some (0, k)))] [.row (.int .i64) l .own] := by
  refine SC_of_FB (H := H107w) E_ok Try.func107 (by kernel_rfl) ?_
  rw [eq107w]
  exact Ck_d (by omega) (Ck_d (by omega) (Ck_d (by omega) ⟨rfl, rfl⟩))

theorem placeAt_iff {l : List Int} {i : Nat} (hi : i < l.length) (h : inB (iAt l i) 1 12 = true) : placeAtOk l i = true ↔ ∀ k, k < i → iAt l k ≠ iAt l i := by
  rw [placeAtOk, h, Bool.true_and, has, Bool.not_eq_true', decide_eq_false_iff_not, List.mem_take_iff_getElem]
  constructor
  · rintro H k hk e
    refine H ⟨k, by omega, ?_⟩
    rw [iAt, iAt, getD_eq (show k < l.length by omega), getD_eq hi] at e
    rw [iAt, getD_eq hi]; exact e
  · rintro H ⟨k, hk, e⟩
    refine H k (by omega) ?_
    rw [iAt, getD_eq (show k < l.length by omega)]
    exact e

end Go.Proofs.Ytjoiadaogppmkaa.Sh
