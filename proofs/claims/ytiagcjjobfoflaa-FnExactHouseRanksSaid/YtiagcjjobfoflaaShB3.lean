/- Lists that are copied, compared, marked; placements that are ok. -/
import Derived.Test.YtiagcjjobfoflaaShB2
import Derived.Test.YtiagcjjobfoflaaMaDel
namespace Go.Proofs.Ytiagcjjobfoflaa.Sh
open Go
set_option linter.unusedVariables false
set_option linter.unusedSimpArgs false
/-! loop.example/keelson/laws.toIntS -/
def H49 : Hint := ⟨[[(0, 0, .bool), (3, 0, .bool), (4, 0, .bool)]], [], [], [], [], []⟩
def S49_L0 (a0 : List Int) (i4 : Int) (h0 : List Int) : St := ⟨[(0, .w (.one (.ro (.int .i64) a0))), (3, .w (.one (.sl 0 none))), (4, .w (.one (.int .i64 i4)))], [.row (.int .i64) h0 .own]⟩
theorem eq49 (a : List Int) (r : List W) (lh : Heap) : FB E H49 Try.f49 [.one (.ro (.int .i64) a)] [] r lh =
  (
   Ck (decide ((0 : Int) ≤ ((a.length : Nat) : Int))) (
    Ck (decide (((a.length : Nat) : Int) ≤ ((a.length : Nat) : Int))) (
     Ck (decide (((a.length : Nat) : Int) * (8 : Nat) ≤ (roomy : Int))) (
      FL E H49 Try.f49 0 r lh 0 (S49_L0 a 0 (List.replicate (((a.length : Nat) : Int).toNat) 0)))))) := by kernel_rfl
theorem eq49_L0 (a0 : List Int) (i4 : Int) (h0 : List Int) (r : List W) (lh : Heap) : FL1 E H49 Try.f49 0 r lh 0 (S49_L0 a0 i4 h0) =
  (
   Br (decide (i4 < ((a0.length : Nat) : Int))) (
    Ck (decide ((0 : Int) ≤ i4)) (
     Ck (decide (i4 < ((a0.length : Nat) : Int))) (
      Ck (decide ((0 : Int) ≤ i4)) (
       Ck (decide (i4 < ((h0.length : Nat) : Int))) (
        Ck (Nat.ble (i4.toNat + 1) h0.length) (
         FL E H49 Try.f49 0 r lh 0 (S49_L0 a0 (IntKind.wrap .i64 (i4 + 1)) (h0.set i4.toNat (a0.getD i4.toNat 0))))))))) (
    Ret r lh [.one (.sl 0 none)] [.row (.int .i64) h0 .own])) := by kernel_rfl
theorem l49 (l : List Int) (hl : l.length ≤ 1048576) : ∀ (n i : Nat) (out : List Int), i + n = l.length → out.length = l.length → (∀ j, j < i → out[j]? = l[j]?) → FL E H49 Try.f49 0 [.one (.sl 0 none)] [.row (.int .i64) l .own] 0 (S49_L0 l (i : Int) out)
  | 0, i, out, h, ho, H => by
    refine FL_of1 ?_
    rw [eq49_L0]
    obtain rfl : out = l := fill_done ho fun j hj => H j (by omega)
    exact Br_f (by omega) ⟨rfl, rfl⟩
  | n + 1, i, out, h, ho, H => by
    refine FL_of1 ?_
    rw [eq49_L0, wS (by omega)]
    simp only [Int.toNat_natCast]
    refine Br_t (by omega) (Ck_d (by omega) (Ck_d (by omega) (Ck_d (by omega) (Ck_d (by omega) (Ck_le (by omega) ?_)))))
    refine l49 l hl n (i + 1) _ (by omega) (by simp [ho]) (fill_step ho ?_ H)
    rw [getD_eq (show i < l.length by omega)]
    exact List.getElem?_eq_getElem _
theorem c49 (l : List Int) (hl : l.length ≤ 1048576) : SC P 49 [.one (.ro (.int .i64) l)] [] [.one (.sl 0 none)] [.row (.int .i64) l .own] := by
  refine SC_of_FB (H := H49) E_ok Try.func49 (by kernel_rfl) ?_
  rw [eq49]
  refine Ck_d (by omega) (Ck_d (by omega) (Ck_roomI (by omega) ?_))
  exact l49 l hl l.length 0 _ (by omega) (by simp) (fun j hj => absurd hj (by omega))
/-! loop.example/keelson/laws.eqIntS -/
def H52 : Hint := ⟨[[(0, 0, .bool), (1, 0, .bool), (5, 0, .bool)]], [], [(6, [0, 1, 2, 3, 4, 5, 6, 7, 8])], [], [], []⟩
def S52_L0 (a0 : List Int) (b1 : List Int) (i5 : Int) : St := ⟨[(0, .w (.one (.ro (.int .i64) a0))), (1, .w (.one (.ro (.int .i64) b1))), (5, .w (.one (.int .i64 i5)))], []⟩
theorem eq52 (a : List Int) (b : List Int) (r : List W) (lh : Heap) : FB E H52 Try.f52 [.one (.ro (.int .i64) a), .one (.ro (.int .i64) b)] [] r lh =
  (
   Br (!(decide (((a.length : Nat) : Int) = ((b.length : Nat) : Int)))) (
    Ret r lh [.one (.bool false)] []) (
    FL E H52 Try.f52 0 r lh 0 (S52_L0 a b 0))) := by kernel_rfl
theorem eq52_L0 (a0 : List Int) (b1 : List Int) (i5 : Int) (r : List W) (lh : Heap) : FL1 E H52 Try.f52 0 r lh 0 (S52_L0 a0 b1 i5) =
  (
   Br (decide (i5 < ((a0.length : Nat) : Int))) (
    Ck (decide ((0 : Int) ≤ i5)) (
     Ck (decide (i5 < ((a0.length : Nat) : Int))) (
      Ck (decide ((0 : Int) ≤ i5)) (
       Ck (decide (i5 < ((b1.length : Nat) : Int))) (
        Br (!(decide ((a0.getD i5.toNat 0) = (b1.getD i5.toNat 0)))) (
         Ret r lh [.one (.bool false)] []) (
         FL E H52 Try.f52 0 r lh 0 (S52_L0 a0 b1 (IntKind.wrap .i64 (i5 + 1))))))))) (
    Ret r lh [.one (.bool true)] [])) := by kernel_rfl
theorem l52 (a b : List Int) (hl : a.length ≤ 1048576) (hb : a.length = b.length) : ∀ (n i : Nat), i + n = a.length → FL E H52 Try.f52 0 [.one (.bool (allR (fun j => decide (a.getD j 0 = b.getD j 0)) i n))] [] 0 (S52_L0 a b (i : Int))
  | 0, i, h => by
    refine FL_of1 ?_
    rw [eq52_L0]
    exact Br_f (by omega) ⟨rfl, rfl⟩
  | n + 1, i, h => by
    refine FL_of1 ?_
    rw [eq52_L0, wS (by omega)]
    simp only [Int.toNat_natCast]
    refine Br_t (by omega) (Ck_d (by omega) (Ck_d (by omega) (Ck_d (by omega) (Ck_d (by omega) (Br_nd (fun h1 => ?_) (fun h1 => ?_))))))
    · exact ⟨by rw [allR_f (by simpa using h1)], rfl⟩
    · rw [allR_t (by simpa using h1)]
      exact l52 a b hl hb n (i + 1) (by omega)
theorem c52 (a b : List Int) (hl : a.length ≤ 1048576) : SC P 52 [.one (.ro (.int .i64) a), .one (.ro (.int .i64) b)] [] [.one (.bool (decide (a = b)))] [] := by
  refine SC_of_FB (H := H52) E_ok Try.func52 (by kernel_rfl) ?_
  rw [eq52]
  refine Br_nd (fun h => ⟨?_, rfl⟩) (fun h => ?_)
  · rw [decide_eq_false (by rintro rfl; exact h rfl)]
  · have h : a.length = b.length := by omega
    rw [← eqR (z := 0) h]
    exact l52 a b hl h a.length 0 (by omega)
/-! loop.example/keelson/laws.eqBoolS -/
def H51 : Hint := ⟨[[(0, 0, .bool), (1, 0, .bool), (5, 0, .bool)]], [], [(6, [0, 1, 2, 3, 4, 5, 6, 7, 8])], [], [], []⟩
def S51_L0 (a0 : List Bool) (b1 : List Bool) (i5 : Int) : St := ⟨[(0, .w (.one (.ro .bool a0))), (1, .w (.one (.ro .bool b1))), (5, .w (.one (.int .i64 i5)))], []⟩
theorem eq51 (a : List Bool) (b : List Bool) (r : List W) (lh : Heap) : FB E H51 Try.f51 [.one (.ro .bool a), .one (.ro .bool b)] [] r lh =
  (
   Br (!(decide (((a.length : Nat) : Int) = ((b.length : Nat) : Int)))) (
    Ret r lh [.one (.bool false)] []) (
    FL E H51 Try.f51 0 r lh 0 (S51_L0 a b 0))) := by kernel_rfl
theorem eq51_L0 (a0 : List Bool) (b1 : List Bool) (i5 : Int) (r : List W) (lh : Heap) : FL1 E H51 Try.f51 0 r lh 0 (S51_L0 a0 b1 i5) =
  (
   Br (decide (i5 < ((a0.length : Nat) : Int))) (
    Ck (decide ((0 : Int) ≤ i5)) (
     Ck (decide (i5 < ((a0.length : Nat) : Int))) (
      Ck (decide ((0 : Int) ≤ i5)) (
       Ck (decide (i5 < ((b1.length : Nat) : Int))) (
        Br ((a0.getD i5.toNat false) != (b1.getD i5.toNat false)) (
         Ret r lh [.one (.bool false)] []) (
         FL E H51 Try.f51 0 r lh 0 (S51_L0 a0 b1 (IntKind.wrap .i64 (i5 + 1))))))))) (
    Ret r lh [.one (.bool true)] [])) := by kernel_rfl
theorem l51 (a b : List Bool) (hl : a.length ≤ 1048576) (hb : a.length = b.length) : ∀ (n i : Nat), i + n = a.length → FL E H51 Try.f51 0 [.one (.bool (allR (fun j => decide (a.getD j false = b.getD j false)) i n))] [] 0 (S51_L0 a b (i : Int))
  | 0, i, h => by
    refine FL_of1 ?_
    rw [eq51_L0]
    exact Br_f (by omega) ⟨rfl, rfl⟩
  | n + 1, i, h => by
    refine FL_of1 ?_
    rw [eq51_L0, wS (by omega)]
    simp only [Int.toNat_natCast]
    refine Br_t (by omega) (Ck_d (by omega) (Ck_d (by omega) (Ck_d (by omega) (Ck_d (by omega) (Br_b (fun h1 => ?_) (fun h1 => ?_))))))
    · exact ⟨by rw [allR_f (by simpa using h1)], rfl⟩
    · rw [allR_t (by simpa using h1)]
      exact l51 a b hl hb n (i + 1) (by omega)
theorem c51 (a b : List Bool) (hl : a.length ≤ 1048576) : SC P 51 [.one (.ro (.bool) a), .one (.ro (.bool) b)] [] [.one (.bool (decide (a = b)))] [] := by
  refine SC_of_FB (H := H51) E_ok Try.func51 (by kernel_rfl) ?_
  rw [eq51]
  refine Br_nd (fun h => ⟨?_, rfl⟩) (fun h => ?_)
  · rw [decide_eq_false (by rintro rfl; exact h rfl)]
  · have h : a.length = b.length := by omega
    rw [← eqR (z := false) h]
    exact l51 a b hl h a.length 0 (by omega)
/-! loop.example/keelson/laws.markIntS -/
def H53 : Hint := ⟨[[(0, 0, .bool), (1, 0, .bool), (5, 0, .bool)]], [], [], [], [], []⟩
def S53_L0 (k1 : Int) (i5 : Int) (h0 : List Int) : St := ⟨[(0, .w (.one (.sl 0 none))), (1, .w (.one (.int .i64 k1))), (5, .w (.one (.int .i64 i5)))], [.row (.int .i64) h0 .own]⟩
theorem eq53 (l : List Int) (k : Int) (r : List W) (lh : Heap) : FB E H53 Try.f53 [.one (.sl 0 none), .one (.int .i64 k)] [.row (.int .i64) l .own] r lh =
  (
   FL E H53 Try.f53 1 r lh 0 (S53_L0 k 0 l)) := by kernel_rfl
theorem eq53_L0 (k1 : Int) (i5 : Int) (h0 : List Int) (r : List W) (lh : Heap) : FL1 E H53 Try.f53 1 r lh 0 (S53_L0 k1 i5 h0) =
  (
   Br (decide (i5 < ((h0.length : Nat) : Int))) (
    Ck (decide ((0 : Int) ≤ i5)) (
     Ck (decide (i5 < ((h0.length : Nat) : Int))) (
      Ck (Nat.ble (i5.toNat + 1) h0.length) (
       FL E H53 Try.f53 1 r lh 0 (S53_L0 (IntKind.wrap .i64 (k1 + 1)) (IntKind.wrap .i64 (i5 + 1)) (h0.set i5.toNat k1)))))) (
    Ret r lh [.one (.int .i64 k1)] [.row (.int .i64) h0 .own])) := by kernel_rfl
theorem l53 (k : Int) (m : Nat) (hm : m ≤ 1048576) (k0 : 0 ≤ k) (k1 : k ≤ 1073741824) : ∀ (n i : Nat) (out : List Int), i + n = m → out.length = m → (∀ j, j < i → out[j]? = (marks (fun k : Int => k) k m)[j]?) →
    FL E H53 Try.f53 1 [.one (.int .i64 (k + m))] [.row (.int .i64) (marks (fun k : Int => k) k m) .own] 0 (S53_L0 (k + (i : Int)) (i : Int) out)
  | 0, i, out, h, ho, H => by
    refine FL_of1 ?_
    rw [eq53_L0]
    obtain rfl : out = marks (fun k : Int => k) k m := fill_done (by rw [marks_length]; exact ho) fun j hj => H j (by rw [marks_length] at hj; omega)
    refine Br_f (by omega) ⟨?_, rfl⟩
    rw [show (i : Int) = m by omega]
  | n + 1, i, out, h, ho, H => by
    refine FL_of1 ?_
    rw [eq53_L0, wS (by omega), wrap64 (n := k + (i : Int) + 1) (by omega) (by omega), show k + (i : Int) + 1 = k + ((i + 1 : Nat) : Int) by omega]
    simp only [Int.toNat_natCast]
    refine Br_t (by omega) (Ck_d (by omega) (Ck_d (by omega) (Ck_le (by omega) ?_)))
    exact l53 k m hm k0 k1 n (i + 1) _ (by omega) (by simp [ho]) (fill_step (by rw [marks_length]; exact ho) (by rw [marks_get (by omega)]) H)
theorem c53 (l : List Int) (k : Int) (hl : l.length ≤ 1048576) (k0 : 0 ≤ k) (k1 : k ≤ 1073741824) : SC P 53 [.one (.sl 0 none), .one (.int .i64 k)] [.row (.int .i64) l .own] [.one (.int .i64 (k + l.length))] [.row (.int .i64) (marks (fun k : Int => k) k l.length) .own] := by
  refine SC_of_FB (H := H53) E_ok Try.func53 (by kernel_rfl) ?_
  rw [eq53]
  have := l53 k l.length hl k0 k1 l.length 0 l (by omega) rfl (fun j hj => absurd hj (by omega))
  rw [show k + ((0 : Nat) : Int) = k by omega] at this
  exact this
/-! loop.example/keelson/laws.markBoolS -/
def H54 : Hint := ⟨[[(0, 0, .bool), (1, 0, .bool), (5, 0, .bool)]], [], [], [], [], []⟩
def S54_L0 (k1 : Int) (i5 : Int) (h0 : List Bool) : St := ⟨[(0, .w (.one (.sl 0 none))), (1, .w (.one (.int .i64 k1))), (5, .w (.one (.int .i64 i5)))], [.row .bool h0 .own]⟩
theorem eq54 (l : List Bool) (k : Int) (r : List W) (lh : Heap) : FB E H54 Try.f54 [.one (.sl 0 none), .one (.int .i64 k)] [.row .bool l .own] r lh =
  (
   FL E H54 Try.f54 1 r lh 0 (S54_L0 k 0 l)) := by kernel_rfl
theorem eq54_L0 (k1 : Int) (i5 : Int) (h0 : List Bool) (r : List W) (lh : Heap) : FL1 E H54 Try.f54 1 r lh 0 (S54_L0 k1 i5 h0) =
  (
   Br (decide (i5 < ((h0.length : Nat) : Int))) (
    Ck (decide ((0 : Int) ≤ i5)) (
     Ck (decide (i5 < ((h0.length : Nat) : Int))) (
      Ck (Nat.ble (i5.toNat + 1) h0.length) (
       FL E H54 Try.f54 1 r lh 0 (S54_L0 (IntKind.wrap .i64 (k1 + 1)) (IntKind.wrap .i64 (i5 + 1)) (h0.set i5.toNat (decide ((Int.tmod k1 3) = (0 : Int))))))))) (
    Ret r lh [.one (.int .i64 k1)] [.row .bool h0 .own])) := by kernel_rfl
theorem l54 (k : Int) (m : Nat) (hm : m ≤ 1048576) (k0 : 0 ≤ k) (k1 : k ≤ 1073741824) : ∀ (n i : Nat) (out : List Bool), i + n = m → out.length = m → (∀ j, j < i → out[j]? = (marks (fun k : Int => decide (Int.tmod k 3 = 0)) k m)[j]?) →
    FL E H54 Try.f54 1 [.one (.int .i64 (k + m))] [.row (.bool) (marks (fun k : Int => decide (Int.tmod k 3 = 0)) k m) .own] 0 (S54_L0 (k + (i : Int)) (i : Int) out)
  | 0, i, out, h, ho, H => by
    refine FL_of1 ?_
    rw [eq54_L0]
    obtain rfl : out = marks (fun k : Int => decide (Int.tmod k 3 = 0)) k m := fill_done (by rw [marks_length]; exact ho) fun j hj => H j (by rw [marks_length] at hj; omega)
    refine Br_f (by omega) ⟨?_, rfl⟩
    rw [show (i : Int) = m by omega]
  | n + 1, i, out, h, ho, H => by
    refine FL_of1 ?_
    rw [eq54_L0, wS (by omega), wrap64 (n := k + (i : Int) + 1) (by omega) (by omega), show k + (i : Int) + 1 = k + ((i + 1 : Nat) : Int) by omega]
    simp only [Int.toNat_natCast]
    refine Br_t (by omega) (Ck_d (by omega) (Ck_d (by omega) (Ck_lt (by omega) ?_)))
    exact l54 k m hm k0 k1 n (i + 1) _ (by omega) (by simp [ho]) (fill_step (by rw [marks_length]; exact ho) (by rw [marks_get (by omega)]) H)
theorem c54 (l : List Bool) (k : Int) (hl : l.length ≤ 1048576) (k0 : 0 ≤ k) (k1 : k ≤ 1073741824) : SC P 54 [.one (.sl 0 none), .one (.int .i64 k)] [.row (.bool) l .own] [.one (.int .i64 (k + l.length))] [.row (.bool) (marks (fun k : Int => decide (Int.tmod k 3 = 0)) k l.length) .own] := by
  refine SC_of_FB (H := H54) E_ok Try.func54 (by kernel_rfl) ?_
  rw [eq54]
  have := l54 k l.length hl k0 k1 l.length 0 l (by omega) rfl (fun j hj => absurd hj (by omega))
  rw [show k + ((0 : Nat) : Int) = k by omega] at this
  exact this
/-! loop.example/keelson/laws.heldIntS -/
def H65 : Hint := ⟨[[(0, 0, .bool), (1, 0, .bool), (5, 0, .bool)]], [], [], [], [], []⟩
def S65_L0 (a0 : List Int) (k1 : Int) (i5 : Int) : St := ⟨[(0, .w (.one (.ro (.int .i64) a0))), (1, .w (.one (.int .i64 k1))), (5, .w (.one (.int .i64 i5)))], []⟩
theorem eq65 (a : List Int) (k : Int) (r : List W) (lh : Heap) : FB E H65 Try.f65 [.one (.ro (.int .i64) a), .one (.int .i64 k)] [] r lh =
  (
   FL E H65 Try.f65 0 r lh 0 (S65_L0 a k 0)) := by kernel_rfl
theorem eq65_L0 (a0 : List Int) (k1 : Int) (i5 : Int) (r : List W) (lh : Heap) : FL1 E H65 Try.f65 0 r lh 0 (S65_L0 a0 k1 i5) =
  (
   Br (decide (i5 < ((a0.length : Nat) : Int))) (
    Ck (decide ((0 : Int) ≤ i5)) (
     Ck (decide (i5 < ((a0.length : Nat) : Int))) (
      Br (!(decide ((a0.getD i5.toNat 0) = k1))) (
       Ret r lh [.one (.int .i64 (-1))] []) (
       FL E H65 Try.f65 0 r lh 0 (S65_L0 a0 (IntKind.wrap .i64 (k1 + 1)) (IntKind.wrap .i64 (i5 + 1))))))) (
    Ret r lh [.one (.int .i64 k1)] [])) := by kernel_rfl
theorem l65 (k : Int) (m : Nat) (hm : m ≤ 1048576) (k0 : 0 ≤ k) (k1 : k ≤ 1073741824) : ∀ (n i : Nat), i + n = m →
    FL E H65 Try.f65 0 [.one (.int .i64 (k + m))] [] 0 (S65_L0 (marks (fun k : Int => k) k m) (k + (i : Int)) (i : Int))
  | 0, i, h => by
    refine FL_of1 ?_
    rw [eq65_L0, marks_length]
    refine Br_f (by omega) ⟨?_, rfl⟩
    rw [show (i : Int) = m by omega]
  | n + 1, i, h => by
    refine FL_of1 ?_
    rw [eq65_L0, marks_length, wS (by omega), wrap64 (n := k + (i : Int) + 1) (by omega) (by omega), show k + (i : Int) + 1 = k + ((i + 1 : Nat) : Int) by omega]
    simp only [Int.toNat_natCast]
    have e := marks_getD (g := fun k : Int => k) (k := k) (n := m) (i := i) (z := 0) (by omega)
    refine Br_t (by omega) (Ck_d (by omega) (Ck_d (by omega) (Br_nd (fun h1 => ?_) (fun h1 => ?_))))
    · rw [e] at h1; simp at h1
    · exact l65 k m hm k0 k1 n (i + 1) (by omega)
theorem c65 (k : Int) (m : Nat) (hl : m ≤ 1048576) (k0 : 0 ≤ k) (k1 : k ≤ 1073741824) : SC P 65 [.one (.ro (.int .i64) (marks (fun k : Int => k) k m)), .one (.int .i64 k)] [] [.one (.int .i64 (k + m))] [] := by
  refine SC_of_FB (H := H65) E_ok Try.func65 (by kernel_rfl) ?_
  rw [eq65]
  have := l65 k m hl k0 k1 m 0 (by omega)
  rw [show k + ((0 : Nat) : Int) = k by omega] at this
  exact this
/-! loop.example/keelson/laws.heldBoolS -/
def H55 : Hint := ⟨[[(0, 0, .bool), (1, 0, .bool), (5, 0, .bool)]], [], [], [], [], []⟩
def S55_L0 (a0 : List Bool) (k1 : Int) (i5 : Int) : St := ⟨[(0, .w (.one (.ro .bool a0))), (1, .w (.one (.int .i64 k1))), (5, .w (.one (.int .i64 i5)))], []⟩
theorem eq55 (a : List Bool) (k : Int) (r : List W) (lh : Heap) : FB E H55 Try.f55 [.one (.ro .bool a), .one (.int .i64 k)] [] r lh =
  (
   FL E H55 Try.f55 0 r lh 0 (S55_L0 a k 0)) := by kernel_rfl
theorem eq55_L0 (a0 : List Bool) (k1 : Int) (i5 : Int) (r : List W) (lh : Heap) : FL1 E H55 Try.f55 0 r lh 0 (S55_L0 a0 k1 i5) =
  (
   Br (decide (i5 < ((a0.length : Nat) : Int))) (
    Ck (decide ((0 : Int) ≤ i5)) (
     Ck (decide (i5 < ((a0.length : Nat) : Int))) (
      Br ((a0.getD i5.toNat false) != (decide ((Int.tmod k1 3) = (0 : Int)))) (
       Ret r lh [.one (.int .i64 (-1))] []) (
       FL E H55 Try.f55 0 r lh 0 (S55_L0 a0 (IntKind.wrap .i64 (k1 + 1)) (IntKind.wrap .i64 (i5 + 1))))))) (
    Ret r lh [.one (.int .i64 k1)] [])) := by kernel_rfl
theorem l55 (k : Int) (m : Nat) (hm : m ≤ 1048576) (k0 : 0 ≤ k) (k1 : k ≤ 1073741824) : ∀ (n i : Nat), i + n = m →
    FL E H55 Try.f55 0 [.one (.int .i64 (k + m))] [] 0 (S55_L0 (marks (fun k : Int => decide (Int.tmod k 3 = 0)) k m) (k + (i : Int)) (i : Int))
  | 0, i, h => by
    refine FL_of1 ?_
    rw [eq55_L0, marks_length]
    refine Br_f (by omega) ⟨?_, rfl⟩
    rw [show (i : Int) = m by omega]
  | n + 1, i, h => by
    refine FL_of1 ?_
    rw [eq55_L0, marks_length, wS (by omega), wrap64 (n := k + (i : Int) + 1) (by omega) (by omega), show k + (i : Int) + 1 = k + ((i + 1 : Nat) : Int) by omega]
    simp only [Int.toNat_natCast]
    have e := marks_getD (g := fun k : Int => decide (Int.tmod k 3 = 0)) (k := k) (n := m) (i := i) (z := false) (by omega)
    refine Br_t (by omega) (Ck_d (by omega) (Ck_d (by omega) (Br_b (fun h1 => ?_) (fun h1 => ?_))))
    · rw [e] at h1; simp at h1
    · exact l55 k m hm k0 k1 n (i + 1) (by omega)
theorem c55 (k : Int) (m : Nat) (hl : m ≤ 1048576) (k0 : 0 ≤ k) (k1 : k ≤ 1073741824) : SC P 55 [.one (.ro (.bool) (marks (fun k : Int => decide (Int.tmod k 3 = 0)) k m)), .one (.int .i64 k)] [] [.one (.int .i64 (k + m))] [] := by
  refine SC_of_FB (H := H55) E_ok Try.func55 (by kernel_rfl) ?_
  rw [eq55]
  have := l55 k m hl k0 k1 m 0 (by omega)
  rw [show k + ((0 : Nat) : Int) = k by omega] at this
  exact this
/-! loop.example/keelson/laws.markHouseS -/
def H66 : Hint := ⟨[[(0, 0, .bool), (1, 0, .bool), (5, 0, .bool)]], [], [], [], [], []⟩
def S66_L0 (k1 : Int) (i5 : Int) (h0 : List (Int × (Int × Int))) : St := ⟨[(0, .w (.one (.sl 0 none))), (1, .w (.one (.int .i64 k1))), (5, .w (.one (.int .i64 i5)))], [.row (.pair (.int .i64) (.pair (.int .i64) (.int .i64))) h0 .own]⟩
theorem eq66 (l : List (Int × Int × Int)) (k : Int) (r : List W) (lh : Heap) : FB E H66 Try.f66 [.one (.sl 0 none), .one (.int .i64 k)] [.row (.pair (.int .i64) (.pair (.int .i64) (.int .i64))) l .own] r lh =
  (
   FL E H66 Try.f66 1 r lh 0 (S66_L0 k 0 l)) := by kernel_rfl
theorem eq66_L0 (k1 : Int) (i5 : Int) (h0 : List (Int × (Int × Int))) (r : List W) (lh : Heap) : FL1 E H66 Try.f66 1 r lh 0 (S66_L0 k1 i5 h0) =
  (
   Br (decide (i5 < ((h0.length : Nat) : Int))) (
    Ck (decide ((0 : Int) ≤ i5)) (
     Ck (decide (i5 < ((h0.length : Nat) : Int))) (
      Ck (Nat.blt i5.toNat h0.length) (
       Ck (decide ((0 : Int) ≤ i5)) (
        Ck (decide (i5 < (((h0.set i5.toNat (k1, (((h0.getD i5.toNat (0, (0, 0))).2).1, ((h0.getD i5.toNat (0, (0, 0))).2).2))).length : Nat) : Int))) (
         Ck (Nat.blt i5.toNat ((h0.set i5.toNat (k1, (((h0.getD i5.toNat (0, (0, 0))).2).1, ((h0.getD i5.toNat (0, (0, 0))).2).2))).length)) (
          Ck (decide ((0 : Int) ≤ i5)) (
           Ck (decide (i5 < ((((h0.set i5.toNat (k1, (((h0.getD i5.toNat (0, (0, 0))).2).1, ((h0.getD i5.toNat (0, (0, 0))).2).2))).set i5.toNat (((h0.set i5.toNat (k1, (((h0.getD i5.toNat (0, (0, 0))).2).1, ((h0.getD i5.toNat (0, (0, 0))).2).2))).getD i5.toNat (0, (0, 0))).1, ((IntKind.wrap .i64 (k1 + 1)), (((h0.set i5.toNat (k1, (((h0.getD i5.toNat (0, (0, 0))).2).1, ((h0.getD i5.toNat (0, (0, 0))).2).2))).getD i5.toNat (0, (0, 0))).2).2))).length : Nat) : Int))) (
            Ck (Nat.blt i5.toNat (((h0.set i5.toNat (k1, (((h0.getD i5.toNat (0, (0, 0))).2).1, ((h0.getD i5.toNat (0, (0, 0))).2).2))).set i5.toNat (((h0.set i5.toNat (k1, (((h0.getD i5.toNat (0, (0, 0))).2).1, ((h0.getD i5.toNat (0, (0, 0))).2).2))).getD i5.toNat (0, (0, 0))).1, ((IntKind.wrap .i64 (k1 + 1)), (((h0.set i5.toNat (k1, (((h0.getD i5.toNat (0, (0, 0))).2).1, ((h0.getD i5.toNat (0, (0, 0))).2).2))).getD i5.toNat (0, (0, 0))).2).2))).length)) (
             FL E H66 Try.f66 1 r lh 0 (S66_L0 (IntKind.wrap .i64 ((IntKind.wrap .i64 ((IntKind.wrap .i64 (k1 + 1)) + 1)) + 1)) (IntKind.wrap .i64 (i5 + 1)) (((h0.set i5.toNat (k1, (((h0.getD i5.toNat (0, (0, 0))).2).1, ((h0.getD i5.toNat (0, (0, 0))).2).2))).set i5.toNat (((h0.set i5.toNat (k1, (((h0.getD i5.toNat (0, (0, 0))).2).1, ((h0.getD i5.toNat (0, (0, 0))).2).2))).getD i5.toNat (0, (0, 0))).1, ((IntKind.wrap .i64 (k1 + 1)), (((h0.set i5.toNat (k1, (((h0.getD i5.toNat (0, (0, 0))).2).1, ((h0.getD i5.toNat (0, (0, 0))).2).2))).getD i5.toNat (0, (0, 0))).2).2))).set i5.toNat ((((h0.set i5.toNat (k1, (((h0.getD i5.toNat (0, (0, 0))).2).1, ((h0.getD i5.toNat (0, (0, 0))).2).2))).set i5.toNat (((h0.set i5.toNat (k1, (((h0.getD i5.toNat (0, (0, 0))).2).1, ((h0.getD i5.toNat (0, (0, 0))).2).2))).getD i5.toNat (0, (0, 0))).1, ((IntKind.wrap .i64 (k1 + 1)), (((h0.set i5.toNat (k1, (((h0.getD i5.toNat (0, (0, 0))).2).1, ((h0.getD i5.toNat (0, (0, 0))).2).2))).getD i5.toNat (0, (0, 0))).2).2))).getD i5.toNat (0, (0, 0))).1, (((((h0.set i5.toNat (k1, (((h0.getD i5.toNat (0, (0, 0))).2).1, ((h0.getD i5.toNat (0, (0, 0))).2).2))).set i5.toNat (((h0.set i5.toNat (k1, (((h0.getD i5.toNat (0, (0, 0))).2).1, ((h0.getD i5.toNat (0, (0, 0))).2).2))).getD i5.toNat (0, (0, 0))).1, ((IntKind.wrap .i64 (k1 + 1)), (((h0.set i5.toNat (k1, (((h0.getD i5.toNat (0, (0, 0))).2).1, ((h0.getD i5.toNat (0, (0, 0))).2).2))).getD i5.toNat (0, (0, 0))).2).2))).getD i5.toNat (0, (0, 0))).2).1, (IntKind.wrap .i64 ((IntKind.wrap .i64 (k1 + 1)) + 1)))))))))))))))) (
    Ret r lh [.one (.int .i64 k1)] [.row (.pair (.int .i64) (.pair (.int .i64) (.int .i64))) h0 .own])) := by kernel_rfl
theorem l66 (k : Int) (m : Nat) (hm : m ≤ 1048576) (k0 : 0 ≤ k) (k1 : k ≤ 1073741824) : ∀ (n i : Nat) (out : List House), i + n = m → out.length = m → (∀ j, j < i → out[j]? = (marksH k m)[j]?) →
    FL E H66 Try.f66 1 [.one (.int .i64 (k + 3 * (m : Int)))] [.row (.pair (.int .i64) (.pair (.int .i64) (.int .i64))) (marksH k m) .own] 0 (S66_L0 (k + 3 * (i : Int)) (i : Int) out)
  | 0, i, out, h, ho, H => by
    refine FL_of1 ?_
    rw [eq66_L0]
    obtain rfl : out = marksH k m := fill_done (by rw [marksH_length]; exact ho) fun j hj => H j (by rw [marksH_length] at hj; omega)
    refine Br_f (by omega) ⟨?_, rfl⟩
    rw [show (i : Int) = m by omega]
  | n + 1, i, out, h, ho, H => by
    refine FL_of1 ?_
    rw [eq66_L0, wS (by omega), wrap64 (n := k + 3 * (i : Int) + 1) (by omega) (by omega), wrap64 (n := k + 3 * (i : Int) + 1 + 1) (by omega) (by omega), wrap64 (n := k + 3 * (i : Int) + 1 + 1 + 1) (by omega) (by omega), show k + 3 * (i : Int) + 1 + 1 + 1 = k + 3 * ((i + 1 : Nat) : Int) by omega]
    simp only [Int.toNat_natCast, List.length_set]
    have e1 : ∀ x y : House, ((out.set i x).set i y).getD i (0, 0, 0) = y := fun x y => get_set_self (by rw [List.length_set]; omega)
    have e2 : ∀ x : House, (out.set i x).getD i (0, 0, 0) = x := fun x => get_set_self (by omega)
    simp only [e1, e2, List.set_set]
    refine Br_t (by omega) (Ck_d (by omega) (Ck_d (by omega) (Ck_lt (by omega) (Ck_d (by omega) (Ck_d (by omega) (Ck_lt (by omega) (Ck_d (by omega) (Ck_d (by omega) (Ck_lt (by omega) ?_)))))))))
    exact l66 k m hm k0 k1 n (i + 1) _ (by omega) (by simp [ho]) (fill_step (by rw [marksH_length]; exact ho) (by rw [marksH_get (by omega)]; congr 2; exact Prod.ext rfl (by dsimp only; omega)) H)
theorem c66 (l : List House) (k : Int) (hl : l.length ≤ 1048576) (k0 : 0 ≤ k) (k1 : k ≤ 1073741824) : SC P 66 [.one (.sl 0 none), .one (.int .i64 k)] [.row (.pair (.int .i64) (.pair (.int .i64) (.int .i64))) l .own] [.one (.int .i64 (k + 3 * (l.length : Int)))] [.row (.pair (.int .i64) (.pair (.int .i64) (.int .i64))) (marksH k l.length) .own] := by
  refine SC_of_FB (H := H66) E_ok Try.func66 (by kernel_rfl) ?_
  rw [eq66]
  have := l66 k l.length hl k0 k1 l.length 0 l (by omega) rfl (fun j hj => absurd hj (by omega))
  rw [show k + 3 * ((0 : Nat) : Int) = k by omega] at this
  exact this
/-! loop.example/keelson/laws.heldHouseS -/
def H67 : Hint := ⟨[[(0, 0, .bool), (1, 0, .bool), (5, 0, .bool)]], [], [], [], [], []⟩
def S67_L0 (a0 : List (Int × (Int × Int))) (k1 : Int) (i5 : Int) : St := ⟨[(0, .w (.one (.ro (.pair (.int .i64) (.pair (.int .i64) (.int .i64))) a0))), (1, .w (.one (.int .i64 k1))), (5, .w (.one (.int .i64 i5)))], []⟩
theorem eq67 (a : List (Int × (Int × Int))) (k : Int) (r : List W) (lh : Heap) : FB E H67 Try.f67 [.one (.ro (.pair (.int .i64) (.pair (.int .i64) (.int .i64))) a), .one (.int .i64 k)] [] r lh =
  (
   FL E H67 Try.f67 0 r lh 0 (S67_L0 a k 0)) := by kernel_rfl
theorem eq67_L0 (a0 : List (Int × (Int × Int))) (k1 : Int) (i5 : Int) (r : List W) (lh : Heap) : FL1 E H67 Try.f67 0 r lh 0 (S67_L0 a0 k1 i5) =
  (
   Br (decide (i5 < ((a0.length : Nat) : Int))) (
    Ck (decide ((0 : Int) ≤ i5)) (
     Ck (decide (i5 < ((a0.length : Nat) : Int))) (
      Br (!(decide ((a0.getD i5.toNat (0, (0, 0))).1 = k1))) (
       Ret r lh [.one (.int .i64 (-1))] []) (
       Ck (decide ((0 : Int) ≤ i5)) (
        Ck (decide (i5 < ((a0.length : Nat) : Int))) (
         Br (!(decide (((a0.getD i5.toNat (0, (0, 0))).2).1 = (IntKind.wrap .i64 (k1 + 1))))) (
          Ret r lh [.one (.int .i64 (-1))] []) (
          Ck (decide ((0 : Int) ≤ i5)) (
           Ck (decide (i5 < ((a0.length : Nat) : Int))) (
            Br (!(decide (((a0.getD i5.toNat (0, (0, 0))).2).2 = (IntKind.wrap .i64 ((IntKind.wrap .i64 (k1 + 1)) + 1))))) (
             Ret r lh [.one (.int .i64 (-1))] []) (
             FL E H67 Try.f67 0 r lh 0 (S67_L0 a0 (IntKind.wrap .i64 ((IntKind.wrap .i64 ((IntKind.wrap .i64 (k1 + 1)) + 1)) + 1)) (IntKind.wrap .i64 (i5 + 1))))))))))))) (
    Ret r lh [.one (.int .i64 k1)] [])) := by kernel_rfl
theorem l67 (k : Int) (m : Nat) (hm : m ≤ 1048576) (k0 : 0 ≤ k) (k1 : k ≤ 1073741824) : ∀ (n i : Nat), i + n = m →
    FL E H67 Try.f67 0 [.one (.int .i64 (k + 3 * (m : Int)))] [] 0 (S67_L0 (marksH k m) (k + 3 * (i : Int)) (i : Int))
  | 0, i, h => by
    refine FL_of1 ?_
    rw [eq67_L0, marksH_length]
    refine Br_f (by omega) ⟨?_, rfl⟩
    rw [show (i : Int) = m by omega]
  | n + 1, i, h => by
    refine FL_of1 ?_
    rw [eq67_L0, marksH_length, wS (by omega), wrap64 (n := k + 3 * (i : Int) + 1) (by omega) (by omega), wrap64 (n := k + 3 * (i : Int) + 1 + 1) (by omega) (by omega), wrap64 (n := k + 3 * (i : Int) + 1 + 1 + 1) (by omega) (by omega), show k + 3 * (i : Int) + 1 + 1 + 1 = k + 3 * ((i + 1 : Nat) : Int) by omega]
    simp only [Int.toNat_natCast]
    have e := marksH_getD (k := k) (n := m) (i := i) (z := (0, 0, 0)) (by omega)
    refine Br_t (by omega) (Ck_d (by omega) (Ck_d (by omega) (Br_nd (fun h1 => absurd (by rw [e]) h1) (fun _ => Ck_d (by omega) (Ck_d (by omega) (Br_nd (fun h1 => absurd (by rw [e]) h1) (fun _ => Ck_d (by omega) (Ck_d (by omega) (Br_nd (fun h1 => ?_) (fun _ => ?_))))))))))
    · exact absurd (by rw [e]; dsimp only; omega) h1
    · exact l67 k m hm k0 k1 n (i + 1) (by omega)
theorem c67 (k : Int) (m : Nat) (hl : m ≤ 1048576) (k0 : 0 ≤ k) (k1 : k ≤ 1073741824) : SC P 67 [.one (.ro (.pair (.int .i64) (.pair (.int .i64) (.int .i64))) (marksH k m)), .one (.int .i64 k)] [] [.one (.int .i64 (k + 3 * (m : Int)))] [] := by
  refine SC_of_FB (H := H67) E_ok Try.func67 (by kernel_rfl) ?_
  rw [eq67]
  have := l67 k m hl k0 k1 m 0 (by omega)
  rw [show k + 3 * ((0 : Nat) : Int) = k by omega] at this
  exact this
/-! slices.Clone[[]int,int] -/
def H130 : Hint := ⟨[], [], [], [], [.one (.own (.int .i64))], []⟩
theorem eq130 (s : List Int) (r : List W) (lh : Heap) : FB E H130 Try.f130 [.one (.ro (.int .i64) s)] [] r lh =
  (
   ∀ e0 : Bool, (Nat.blt 0 s.length = true → e0 = false) →
    Br e0 (
     Ret r lh [.one (.sl 0 none)] [.row (.int .i64) [] .own]) (
     Ck (Nat.ble ((0 + s.length) * 8) roomy) (
      Ret r lh [.one (.sl 0 none)] [.row (.int .i64) ([] ++ s) .own]))) := by kernel_rfl
theorem c130 (l : List Int) (hl : l.length ≤ 1048576) : SC P 130 [.one (.ro (.int .i64) l)] [] [.one (.sl 0 none)] [.row (.int .i64) l .own] := by
  refine SC_of_FB (H := H130) E_ok Try.func130 (by kernel_rfl) ?_
  rw [eq130]
  intro e0 he
  refine Br_b (fun h => ?_) (fun h => Ck_room (by omega) ⟨rfl, rfl⟩)
  subst h
  cases l with
  | nil => exact ⟨rfl, rfl⟩
  | cons x l => exact absurd (he (Nat.ble_eq_true_of_le (by simp))) (by simp)
/-! slices.Clone[[]loop.example/keelson/impl.House,loop.example/keelson/impl.House] -/
def H107 : Hint := ⟨[], [], [], [], [.one (.own (.pair (.int .i64) (.pair (.int .i64) (.int .i64))))], []⟩
theorem eq107 (s : List (Int × (Int × Int))) (r : List W) (lh : Heap) : FB E H107 Try.f107 [.one (.ro (.pair (.int .i64) (.pair (.int .i64) (.int .i64))) s)] [] r lh =
  (
   ∀ e0 : Bool, (Nat.blt 0 s.length = true → e0 = false) →
    Br e0 (
     Ret r lh [.one (.sl 0 none)] [.row (.pair (.int .i64) (.pair (.int .i64) (.int .i64))) [] .own]) (
     Ck (Nat.ble ((0 + s.length) * 24) roomy) (
      Ret r lh [.one (.sl 0 none)] [.row (.pair (.int .i64) (.pair (.int .i64) (.int .i64))) ([] ++ s) .own]))) := by kernel_rfl
theorem c107 (l : List House) (hl : l.length ≤ 1048576) : SC P 107 [.one (.ro (.pair (.int .i64) (.pair (.int .i64) (.int .i64))) l)] [] [.one (.sl 0 none)] [.row (.pair (.int .i64) (.pair (.int .i64) (.int .i64))) l .own] := by
  refine SC_of_FB (H := H107) E_ok Try.func107 (by kernel_rfl) ?_
  rw [eq107]
  intro e0 he
  refine Br_b (fun h => ?_) (fun h => Ck_room (by omega) ⟨rfl, rfl⟩)
  subst h
  cases l with
  | nil => exact ⟨rfl, rfl⟩
  | cons x l => exact absurd (he (Nat.ble_eq_true_of_le (by simp))) (by simp)
/-! slices.Clip[[]int,int] -/
def H132 : Hint := ⟨[], [], [], [], [.one (.sub 0)], []⟩
theorem eq132 (l : List (Int)) (r : List W) (lh : Heap) : FB E H132 Try.f132 [.one (.sl 0 none)] [.row (.int .i64) l .own] r lh =
  (
   Ck (decide ((0 : Int) ≤ ((l.length : Nat) : Int))) (
    Ck (decide (((l.length : Nat) : Int) ≤ ((l.length : Nat) : Int))) (
     Ck (decide (((l.length : Nat) : Int) ≤ ((l.length : Nat) : Int))) (
      Ret r lh [.one (.sl 0 (some (0, ((l.length : Nat) : Int).toNat)))] [.row (.int .i64) l .own])))) := by kernel_rfl
theorem c132 (l : List Int) : SC P 132 [.one (.sl 0 none)] [.row (.int .i64) l .own] [.one (.sl 0 (some (0, l.length)))] [.row (.int .i64) l .own] := by
  refine SC_of_FB (H := H132) E_ok Try.func132 (by kernel_rfl) ?_
  rw [eq132]
  exact Ck_d (by omega) (Ck_d (by omega) (Ck_d (by omega) ⟨rfl, rfl⟩))
/-! slices.Clip[[]int,int] -/
def H132w : Hint := ⟨[], [], [], [], [.one (.sub 0)], []⟩
theorem eq132w (l : List (Int)) (k : Nat) (r : List W) (lh : Heap) : FB E H132w Try.f132 [.one (.sl 0 (some (0, k)))] [.row (.int .i64) l .own] r lh =
  (
   Ck (decide ((0 : Int) ≤ ((k : Nat) : Int))) (
    Ck (decide (((k : Nat) : Int) ≤ ((k : Nat) : Int))) (
     Ck (decide (((k : Nat) : Int) ≤ ((k : Nat) : Int))) (
      Ret r lh [.one (.sl 0 (some (0, (((k : Nat) : Int).toNat - 0))))] [.row (.int .i64) l .own])))) := by kernel_rfl
theorem c132w (l : List Int) (k : Nat) : SC P 132 [.one (.sl 0 (some (0, k)))] [.row (.int .i64) l .own] [.one (.sl 0 (some (0, k)))] [.row (.int .i64) l .own] := by
  refine SC_of_FB (H := H132w) E_ok Try.func132 (by kernel_rfl) ?_
  rw [eq132w]
  exact Ck_d (by omega) (Ck_d (by omega) (Ck_d (by omega) ⟨rfl, rfl⟩))
/-! slices.Clip[[]loop.example/keelson/impl.House,loop.example/keelson/impl.House] -/
def H105 : Hint := ⟨[], [], [], [], [.one (.sub 0)], []⟩
theorem eq105 (l : List (Int × Int × Int)) (r : List W) (lh : Heap) : FB E H105 Try.f105 [.one (.sl 0 none)] [.row (.pair (.int .i64) (.pair (.int .i64) (.int .i64))) l .own] r lh =
  (
   Ck (decide ((0 : Int) ≤ ((l.length : Nat) : Int))) (
    Ck (decide (((l.length : Nat) : Int) ≤ ((l.length : Nat) : Int))) (
     Ck (decide (((l.length : Nat) : Int) ≤ ((l.length : Nat) : Int))) (
      Ret r lh [.one (.sl 0 (some (0, ((l.length : Nat) : Int).toNat)))] [.row (.pair (.int .i64) (.pair (.int .i64) (.int .i64))) l .own])))) := by kernel_rfl
theorem c105 (l : List House) : SC P 105 [.one (.sl 0 none)] [.row (.pair (.int .i64) (.pair (.int .i64) (.int .i64))) l .own] [.one (.sl 0 (some (0, l.length)))] [.row (.pair (.int .i64) (.pair (.int .i64) (.int .i64))) l .own] := by
  refine SC_of_FB (H := H105) E_ok Try.func105 (by kernel_rfl) ?_
  rw [eq105]
  exact Ck_d (by omega) (Ck_d (by omega) (Ck_d (by omega) ⟨rfl, rfl⟩))
/-! slices.Clip[[]loop.example/keelson/impl.House,loop.example/keelson/impl.House] -/
def H105w : Hint := ⟨[], [], [], [], [.one (.sub 0)], []⟩
theorem eq105w (l : List (Int × Int × Int)) (k : Nat) (r : List W) (lh : Heap) : FB E H105w Try.f105 [.one (.sl 0 (some (0, k)))] [.row (.pair (.int .i64) (.pair (.int .i64) (.int .i64))) l .own] r lh =
  (
   Ck (decide ((0 : Int) ≤ ((k : Nat) : Int))) (
    Ck (decide (((k : Nat) : Int) ≤ ((k : Nat) : Int))) (
     Ck (decide (((k : Nat) : Int) ≤ ((k : Nat) : Int))) (
      Ret r lh [.one (.sl 0 (some (0, (((k : Nat) : Int).toNat - 0))))] [.row (.pair (.int .i64) (.pair (.int .i64) (.int .i64))) l .own])))) := by kernel_rfl
theorem c105w (l : List House) (k : Nat) : SC P 105 [.one (.sl 0 (some (0, k)))] [.row (.pair (.int .i64) (.pair (.int .i64) (.int .i64))) l .own] [.one (.sl 0 (some (0, k)))] [.row (.pair (.int .i64) (.pair (.int .i64) (.int .i64))) l .own] := by
  refine SC_of_FB (H := H105w) E_ok Try.func105 (by kernel_rfl) ?_
  rw [eq105w]
  exact Ck_d (by omega) (Ck_d (by omega) (Ck_d (by omega) ⟨rfl, rfl⟩))
/-! loop.example/keelson/spec.l32Has -/
def H128 : Hint := ⟨[[(0, 0, .bool), (1, 0, .bool), (5, 0, .bool)]], [], [], [], [], []⟩
def S128_L0 (l0 : List Int) (n1 : Int) (i5 : Int) : St := ⟨[(0, .w (.one (.ro (.int .i64) l0))), (1, .w (.one (.int .i64 n1))), (5, .w (.one (.int .i64 i5)))], []⟩
theorem eq128 (l : List Int) (n : Int) (r : List W) (lh : Heap) : FB E H128 Try.f128 [.one (.ro (.int .i64) l), .one (.int .i64 n)] [] r lh =
  (
   FL E H128 Try.f128 0 r lh 0 (S128_L0 l n 0)) := by kernel_rfl
theorem eq128_L0 (l0 : List Int) (n1 : Int) (i5 : Int) (r : List W) (lh : Heap) : FL1 E H128 Try.f128 0 r lh 0 (S128_L0 l0 n1 i5) =
  (
   Br (decide (i5 < ((l0.length : Nat) : Int))) (
    Ck (decide ((0 : Int) ≤ i5)) (
     Ck (decide (i5 < ((l0.length : Nat) : Int))) (
      Br (decide ((l0.getD i5.toNat 0) = n1)) (
       Ret r lh [.one (.bool true)] []) (
       FL E H128 Try.f128 0 r lh 0 (S128_L0 l0 n1 (IntKind.wrap .i64 (i5 + 1))))))) (
    Ret r lh [.one (.bool false)] [])) := by kernel_rfl
theorem l128 (l : List Int) (x : Int) (hl : l.length ≤ 1048576) : ∀ (n i : Nat), i + n = l.length → FL E H128 Try.f128 0 [.one (.bool (findR (fun j => decide (l.getD j 0 = x)) (fun _ => true) false i n))] [] 0 (S128_L0 l x (i : Int))
  | 0, i, h => by
    refine FL_of1 ?_
    rw [eq128_L0]
    exact Br_f (by omega) ⟨rfl, rfl⟩
  | n + 1, i, h => by
    refine FL_of1 ?_
    rw [eq128_L0, wS (by omega), findR]
    simp only [Int.toNat_natCast]
    refine Br_t (by omega) (Ck_d (by omega) (Ck_d (by omega) (Br_d (fun h1 => ?_) (fun h1 => ?_))))
    · exact ⟨by rw [decide_eq_true h1, cond_true], rfl⟩
    · rw [decide_eq_false h1, cond_false]
      exact l128 l x hl n (i + 1) (by omega)
theorem c128 (l : List Int) (x : Int) (hl : l.length ≤ 1048576) : SC P 128 [.one (.ro (.int .i64) l), .one (.int .i64 x)] [] [.one (.bool (has l x))] [] := by
  refine SC_of_FB (H := H128) E_ok Try.func128 (by kernel_rfl) ?_
  rw [eq128]
  rw [← has_findR]
  exact l128 l x hl l.length 0 (by omega)
/-! slices.Index[[]int,int] -/
def H139 : Hint := ⟨[[(0, 0, .bool), (1, 0, .bool), (7, 0, .bool), (8, 0, .bool)]], [], [], [], [], []⟩
def S139_L0 (s0 : List Int) (v1 : Int) (x7 : Int) (x8 : Int) : St := ⟨[(0, .w (.one (.ro (.int .i64) s0))), (1, .w (.one (.int .i64 v1))), (7, .w (.one (.int .i64 x7))), (8, .w (.one (.int .i64 x8)))], []⟩
theorem eq139 (s : List Int) (v : Int) (r : List W) (lh : Heap) : FB E H139 Try.f139 [.one (.ro (.int .i64) s), .one (.int .i64 v)] [] r lh =
  (
   FL E H139 Try.f139 0 r lh 0 (S139_L0 s v ((s.length : Nat) : Int) 0)) := by kernel_rfl
theorem eq139_L0 (s0 : List Int) (v1 : Int) (x7 : Int) (x8 : Int) (r : List W) (lh : Heap) : FL1 E H139 Try.f139 0 r lh 0 (S139_L0 s0 v1 x7 x8) =
  (
   Br (decide (x8 < x7)) (
    Ck (decide ((0 : Int) ≤ x8)) (
     Ck (decide (x8 < ((s0.length : Nat) : Int))) (
      Br (decide (v1 = (s0.getD x8.toNat 0))) (
       Ret r lh [.one (.int .i64 x8)] []) (
       FL E H139 Try.f139 0 r lh 0 (S139_L0 s0 v1 x7 (IntKind.wrap .i64 (x8 + 1))))))) (
    Ret r lh [.one (.int .i64 (-1))] [])) := by kernel_rfl
theorem l139 (l : List Int) (x : Int) (hl : l.length ≤ 1048576) : ∀ (n i : Nat), i + n = l.length → FL E H139 Try.f139 0 [.one (.int .i64 (findR (fun j => decide (x = l.getD j 0)) (fun j => (j : Int)) (-1) i n))] [] 0 (S139_L0 l x (l.length : Int) (i : Int))
  | 0, i, h => by
    refine FL_of1 ?_
    rw [eq139_L0]
    exact Br_f (by omega) ⟨rfl, rfl⟩
  | n + 1, i, h => by
    refine FL_of1 ?_
    rw [eq139_L0, wS (by omega), findR]
    simp only [Int.toNat_natCast]
    refine Br_t (by omega) (Ck_d (by omega) (Ck_d (by omega) (Br_d (fun h1 => ?_) (fun h1 => ?_))))
    · exact ⟨by rw [decide_eq_true h1, cond_true], rfl⟩
    · rw [decide_eq_false h1, cond_false]
      exact l139 l x hl n (i + 1) (by omega)
theorem c139 (l : List Int) (x : Int) (hl : l.length ≤ 1048576) : SC P 139 [.one (.ro (.int .i64) l), .one (.int .i64 x)] [] [.one (.int .i64 (findR (fun j => decide (x = l.getD j 0)) (fun j => (j : Int)) (-1) 0 l.length))] [] := by
  refine SC_of_FB (H := H139) E_ok Try.func139 (by kernel_rfl) ?_
  rw [eq139]
  exact l139 l x hl l.length 0 (by omega)
/-! slices.Contains[[]int,int] -/
def H126 : Hint := ⟨[], [], [], [], [], []⟩
theorem eq126 (s : List Int) (v : Int) (r : List W) (lh : Heap) : FB E H126 Try.f126 [.one (.ro (.int .i64) s), .one (.int .i64 v)] [] r lh =
  (
   ∃ r0 : Int, SC P 139 [.one (.ro (.int .i64) s), .one (.int .i64 v)] [] [.one (.int .i64 r0)] [] ∧
    Ret r lh [.one (.bool (decide ((0 : Int) ≤ r0)))] []) := by kernel_rfl
theorem c126 (l : List Int) (x : Int) (hl : l.length ≤ 1048576) : SC P 126 [.one (.ro (.int .i64) l), .one (.int .i64 x)] [] [.one (.bool (has l x))] [] := by
  refine SC_of_FB (H := H126) E_ok Try.func126 (by kernel_rfl) ?_
  rw [eq126]
  exact ⟨_, c139 l x hl, by rw [hasI_findR], rfl⟩
/-! loop.example/keelson/impl.placeOk -/
def H102 : Hint := ⟨[[(0, 0, .bool), (5, 0, .bool), (6, 0, .bool), (7, 0, .bool)]], [], [], [], [], []⟩
def S102_L0 (is0 : List Int) (x5 : List Int) (x6 : Int) (x7 : Int) : St := ⟨[(0, .w (.one (.ro (.int .i64) is0))), (5, .w (.one (.ro (.int .i64) x5))), (6, .w (.one (.int .i64 x6))), (7, .w (.one (.int .i64 x7)))], []⟩
theorem eq102 (is : List Int) (r : List W) (lh : Heap) : FB E H102 Try.f102 [.one (.ro (.int .i64) is)] [] r lh =
  (
   FL E H102 Try.f102 0 r lh 0 (S102_L0 is is ((is.length : Nat) : Int) 0)) := by kernel_rfl
theorem eq102_L0 (is0 : List Int) (x5 : List Int) (x6 : Int) (x7 : Int) (r : List W) (lh : Heap) : FL1 E H102 Try.f102 0 r lh 0 (S102_L0 is0 x5 x6 x7) =
  (
   Br (decide (x7 < x6)) (
    Ck (decide ((0 : Int) ≤ x7)) (
     Ck (decide (x7 < ((x5.length : Nat) : Int))) (
      ∃ r0 : Bool, SC P 86 [.one (.int .i64 (x5.getD x7.toNat 0)), .one (.int .i64 1), .one (.int .i64 12)] [] [.one (.bool r0)] [] ∧
       Br (!r0) (
        Ret r lh [.one (.bool false)] []) (
        Ck (decide ((0 : Int) ≤ x7)) (
         Ck (decide (x7 ≤ ((is0.length : Nat) : Int))) (
          Ck (decide (((is0.length : Nat) : Int) ≤ ((is0.length : Nat) : Int))) (
           ∃ r1 : Bool, SC P 126 [.one (.ro (.int .i64) ((is0.drop 0).take (x7.toNat - 0))), .one (.int .i64 (x5.getD x7.toNat 0))] [] [.one (.bool r1)] [] ∧
            Br r1 (
             Ret r lh [.one (.bool false)] []) (
             FL E H102 Try.f102 0 r lh 0 (S102_L0 is0 x5 x6 (IntKind.wrap .i64 (x7 + 1))))))))))) (
    Ret r lh [.one (.bool (decide (((is0.length : Nat) : Int) = (8 : Int))))] [])) := by kernel_rfl
theorem l102 (l : List Int) (hl : l.length ≤ 1048576) : ∀ (n i : Nat), i + n = l.length → FL E H102 Try.f102 0 [.one (.bool (allR (placeAtOk l) i n && decide (l.length = 8)))] [] 0 (S102_L0 l l (l.length : Int) (i : Int))
  | 0, i, h => by
    refine FL_of1 ?_
    rw [eq102_L0]
    refine Br_f (by omega) ⟨?_, rfl⟩
    rw [allR, Bool.true_and]
    congr 3
    exact decide_eq_decide.2 (by omega)
  | n + 1, i, h => by
    refine FL_of1 ?_
    rw [eq102_L0, wS (by omega)]
    simp only [Int.toNat_natCast]
    refine Br_t (by omega) (Ck_d (by omega) (Ck_d (by omega) ⟨_, c86 _ _ _, Br_nb (fun h1 => ?_) (fun h1 => ?_)⟩))
    · exact ⟨by rw [allR_f (by rw [placeAtOk, iAt, h1, Bool.false_and]), Bool.false_and], rfl⟩
    · refine Ck_d (by omega) (Ck_d (by omega) (Ck_d (by omega) ⟨_, c126 _ _ (by simp; omega), Br_b (fun h2 => ?_) (fun h2 => ?_)⟩))
      · exact ⟨by rw [allR_f (by rw [placeAtOk, iAt, h1, Bool.true_and]; rw [List.drop_zero, Nat.sub_zero] at h2; rw [h2]; rfl), Bool.false_and], rfl⟩
      · rw [allR_t (by rw [placeAtOk, iAt, h1, Bool.true_and]; rw [List.drop_zero, Nat.sub_zero] at h2; rw [h2]; rfl)]
        exact l102 l hl n (i + 1) (by omega)
theorem c102 (l : List Int) (hl : l.length ≤ 1048576) : SC P 102 [.one (.ro (.int .i64) l)] [] [.one (.bool (placeOk l))] [] := by
  refine SC_of_FB (H := H102) E_ok Try.func102 (by kernel_rfl) ?_
  rw [eq102]
  exact l102 l hl l.length 0 (by omega)
/-! loop.example/keelson/spec.l32Ok -/
def H101 : Hint := ⟨[[(0, 0, .bool), (3, 0, .bool)], [(0, 0, .bool), (3, 0, .bool), (4, 0, .bool)]], [], [(9, [0, 1, 2, 3, 4, 5, 6, 7, 8])], [], [], []⟩
def S101_L0 (is0 : List Int) (i3 : Int) : St := ⟨[(0, .w (.one (.ro (.int .i64) is0))), (3, .w (.one (.int .i64 i3)))], []⟩
def S101_L1 (is0 : List Int) (i3 : Int) (k4 : Int) : St := ⟨[(0, .w (.one (.ro (.int .i64) is0))), (3, .w (.one (.int .i64 i3))), (4, .w (.one (.int .i64 k4)))], []⟩
theorem eq101 (is : List Int) (r : List W) (lh : Heap) : FB E H101 Try.f101 [.one (.ro (.int .i64) is)] [] r lh =
  (
   FL E H101 Try.f101 0 r lh 0 (S101_L0 is 0)) := by kernel_rfl
theorem eq101_L0 (is0 : List Int) (i3 : Int) (r : List W) (lh : Heap) : FL1 E H101 Try.f101 0 r lh 0 (S101_L0 is0 i3) =
  (
   Br (decide (i3 < ((is0.length : Nat) : Int))) (
    Ck (decide ((0 : Int) ≤ i3)) (
     Ck (decide (i3 < ((is0.length : Nat) : Int))) (
      ∃ r0 : Bool, SC P 85 [.one (.int .i64 (is0.getD i3.toNat 0)), .one (.int .i64 1), .one (.int .i64 12)] [] [.one (.bool r0)] [] ∧
       Br (!r0) (
        Ret r lh [.one (.bool false)] []) (
        FL E H101 Try.f101 0 r lh 1 (S101_L1 is0 i3 0))))) (
    Ret r lh [.one (.bool (decide (((is0.length : Nat) : Int) = (8 : Int))))] [])) := by kernel_rfl
theorem eq101_L1 (is0 : List Int) (i3 : Int) (k4 : Int) (r : List W) (lh : Heap) : FL1 E H101 Try.f101 0 r lh 1 (S101_L1 is0 i3 k4) =
  (
   Br (decide (k4 < i3)) (
    Ck (decide ((0 : Int) ≤ k4)) (
     Ck (decide (k4 < ((is0.length : Nat) : Int))) (
      Ck (decide ((0 : Int) ≤ i3)) (
       Ck (decide (i3 < ((is0.length : Nat) : Int))) (
        Br (decide ((is0.getD k4.toNat 0) = (is0.getD i3.toNat 0))) (
         Ret r lh [.one (.bool false)] []) (
         FL E H101 Try.f101 0 r lh 1 (S101_L1 is0 i3 (IntKind.wrap .i64 (k4 + 1))))))))) (
    FL E H101 Try.f101 0 r lh 0 (S101_L0 is0 (IntKind.wrap .i64 (i3 + 1))))) := by kernel_rfl
theorem l101_1 (l : List Int) (i : Nat) (hi : i < l.length) (hl : l.length ≤ 1048576) (res : Bool) (h0 : ∀ k, k < i → iAt l k = iAt l i → res = false)
    (H : (∀ k, k < i → iAt l k ≠ iAt l i) → FL E H101 Try.f101 0 [.one (.bool res)] [] 0 (S101_L0 l ((i + 1 : Nat) : Int))) :
    ∀ (n k : Nat), k + n = i → (∀ q, q < k → iAt l q ≠ iAt l i) → FL E H101 Try.f101 0 [.one (.bool res)] [] 1 (S101_L1 l (i : Int) (k : Int))
  | 0, k, h, hk => by
    refine FL_of1 ?_
    rw [eq101_L1, wS (i := i) (by omega)]
    exact Br_f (by omega) (H fun q hq => hk q (by omega))
  | n + 1, k, h, hk => by
    refine FL_of1 ?_
    rw [eq101_L1, wS (i := k) (by omega)]
    simp only [Int.toNat_natCast]
    refine Br_t (by omega) (Ck_d (by omega) (Ck_d (by omega) (Ck_d (by omega) (Ck_d (by omega) (Br_d (fun h1 => ?_) (fun h1 => ?_))))))
    · exact ⟨by rw [h0 k (by omega) h1], rfl⟩
    · refine l101_1 l i hi hl res h0 H n (k + 1) (by omega) fun q hq => ?_
      rcases Nat.lt_succ_iff_lt_or_eq.1 hq with h2 | rfl
      · exact hk q h2
      · exact h1
theorem placeAt_iff {l : List Int} {i : Nat} (hi : i < l.length) (h : inB (iAt l i) 1 12 = true) : placeAtOk l i = true ↔ ∀ k, k < i → iAt l k ≠ iAt l i := by
  rw [placeAtOk, h, Bool.true_and, has, Bool.not_eq_true', decide_eq_false_iff_not, List.mem_take_iff_getElem]
  constructor
  · rintro H k hk e
    refine H ⟨k, by omega, ?_⟩
    rw [iAt, iAt, getD_eq (show k < l.length by omega), getD_eq hi] at e
    rw [iAt, getD_eq hi]; exact e
  · rintro H ⟨k, hk, e⟩
    refine H k (by omega) ?_
    rw [iAt, getD_eq (show k < l.length by omega)]
    exact e
theorem l101 (l : List Int) (hl : l.length ≤ 1048576) : ∀ (n i : Nat), i + n = l.length → FL E H101 Try.f101 0 [.one (.bool (allR (placeAtOk l) i n && decide (l.length = 8)))] [] 0 (S101_L0 l (i : Int))
  | 0, i, h => by
    refine FL_of1 ?_
    rw [eq101_L0]
    refine Br_f (by omega) ⟨?_, rfl⟩
    rw [allR, Bool.true_and]
    congr 3
    exact decide_eq_decide.2 (by omega)
  | n + 1, i, h => by
    refine FL_of1 ?_
    rw [eq101_L0]
    simp only [Int.toNat_natCast]
    refine Br_t (by omega) (Ck_d (by omega) (Ck_d (by omega) ⟨_, c85 _ _ _, Br_nb (fun h1 => ?_) (fun h1 => ?_)⟩))
    · exact ⟨by rw [allR_f (by rw [placeAtOk, iAt, h1, Bool.false_and]), Bool.false_and], rfl⟩
    · refine l101_1 l i (by omega) hl _ (fun k hk e => ?_) (fun H => ?_) i 0 (by omega) (fun q hq => absurd hq (by omega))
      · rw [allR_f, Bool.false_and]
        cases hp : placeAtOk l i with
        | false => rfl
        | true => exact absurd e ((placeAt_iff (by omega) h1).1 hp k hk)
      · rw [allR_t ((placeAt_iff (by omega) h1).2 H)]
        exact l101 l hl n (i + 1) (by omega)
theorem c101 (l : List Int) (hl : l.length ≤ 1048576) : SC P 101 [.one (.ro (.int .i64) l)] [] [.one (.bool (placeOk l))] [] := by
  refine SC_of_FB (H := H101) E_ok Try.func101 (by kernel_rfl) ?_
  rw [eq101]
  exact l101 l hl l.length 0 (by omega)
end Go.Proofs.Ytiagcjjobfoflaa.Sh
