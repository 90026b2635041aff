/- The field, vectors, codes: contracts. -/
import Derived.Test.YtjoiadaogppmkaaGreatShTypes
import Derived.Test.YtjoiadaogppmkaaGreatShUse
import Derived.Test.YtjoiadaogppmkaaGreatMaDel
import Derived.Test.YtjoiadaogppmkaaGreatMaVec
namespace Go.Proofs.YtjoiadaogppmkaaGreat.Sh
open Go
set_option linter.unusedVariables false
set_option linter.unusedSimpArgs false
/-! loop.example/keelson/spec.l6In -/
def H35 : Hint := ⟨[], [], [], [], [], [], []⟩
theorem eq35 (n : Int) (low : Int) (high : Int) (r : List W) (lh : Heap) : FB E H35 Tryz.f35 [.one (.int .i64 n), .one (.int .i64 low), .one (.int .i64 high)] [] r lh =
  (
   Br (decide (low ≤ n)) (
    Ret r lh [.one (.bool (decide (n ≤ high)))] []) (
    Ret r lh [.one (.bool false)] [])) := by kernel_rfl
theorem c35 (n low high : Int) : SC P 35 [.one (.int .i64 n), .one (.int .i64 low), .one (.int .i64 high)] [] [.one (.bool (inB n low high))] [] := by
  refine SC_of_FB (H := H35) E_ok Tryz.func35 (by kernel_rfl) ?_
  rw [eq35]
  exact Br_d (fun h => ⟨by simp [inB, h], rfl⟩) (fun h => ⟨by simp [inB, h], rfl⟩)
/-! loop.example/keelson/impl.within -/
def H67 : Hint := ⟨[], [], [], [], [], [], []⟩
theorem eq67 (n : Int) (low : Int) (high : Int) (r : List W) (lh : Heap) : FB E H67 Tryz.f67 [.one (.int .i64 n), .one (.int .i64 low), .one (.int .i64 high)] [] r lh =
  (
   Br (decide (low ≤ n)) (
    Ret r lh [.one (.bool (decide (n ≤ high)))] []) (
    Ret r lh [.one (.bool false)] [])) := by kernel_rfl
theorem c67 (n low high : Int) : SC P 67 [.one (.int .i64 n), .one (.int .i64 low), .one (.int .i64 high)] [] [.one (.bool (inB n low high))] [] := by
  refine SC_of_FB (H := H67) E_ok Tryz.func67 (by kernel_rfl) ?_
  rw [eq67]
  exact Br_d (fun h => ⟨by simp [inB, h], rfl⟩) (fun h => ⟨by simp [inB, h], rfl⟩)



/-! loop.example/keelson/spec.FieldOk -/
def H63 : Hint := ⟨[], [], [], [], [], [], []⟩
theorem eq63 (n : Int) (r : List W) (lh : Heap) : FB E H63 Tryz.f63 [.one (.int .i64 n)] [] r lh =
  (
   ∃ r0 : Bool, SC P 35 [.one (.int .i64 n), .one (.int .i64 0), .one (.int .i64 30)] [] [.one (.bool r0)] [] ∧
    Ret r lh [.one (.bool r0)] []) := by kernel_rfl
theorem c63 (n : Int) : SC P 63 [.one (.int .i64 n)] [] [.one (.bool (inB n 0 30))] [] := by
  refine SC_of_FB (H := H63) E_ok Tryz.func63 (by kernel_rfl) ?_
  rw [eq63]
  exact ⟨_, c35 _ _ _, rfl, rfl⟩
/-! loop.example/keelson/impl.FieldOk -/
def H48 : Hint := ⟨[], [], [], [], [], [], []⟩
theorem eq48 (n : Int) (r : List W) (lh : Heap) : FB E H48 Tryz.f48 [.one (.int .i64 n)] [] r lh =
  (
   ∃ r0 : Bool, SC P 67 [.one (.int .i64 n), .one (.int .i64 0), .one (.int .i64 30)] [] [.one (.bool r0)] [] ∧
    Ret r lh [.one (.bool r0)] []) := by kernel_rfl
theorem c48 (n : Int) : SC P 48 [.one (.int .i64 n)] [] [.one (.bool (inB n 0 30))] [] := by
  refine SC_of_FB (H := H48) E_ok Tryz.func48 (by kernel_rfl) ?_
  rw [eq48]
  exact ⟨_, c67 _ _ _, rfl, rfl⟩

/-! loop.example/keelson/impl.elementsOk$1 -/
def H94 : Hint := ⟨[], [], [], [], [], [], []⟩
theorem eq94 (n : Int) (r : List W) (lh : Heap) : FB E H94 Tryz.f94 [.one (.int .i64 n)] [] r lh =
  (
   ∃ r0 : Bool, SC P 48 [.one (.int .i64 n)] [] [.one (.bool r0)] [] ∧
    Ret r lh [.one (.bool (!r0))] []) := by kernel_rfl
theorem c94 (n : Int) : SC P 94 [.one (.int .i64 n)] [] [.one (.bool (!inB n 0 30))] [] := by
  refine SC_of_FB (H := H94) E_ok Tryz.func94 (by kernel_rfl) ?_
  rw [eq94]
  exact ⟨_, c48 n, rfl, rfl⟩
/-! slices.IndexFunc[[]int,int] -/
def H77 : Hint := ⟨[[(0, 0, .bool), (1, 0, .bool), (7, 0, .bool), (8, 0, .bool)]], [], [], [], [], [], []⟩
def S77_L0 (s0 : List Int) (x7 : Int) (x8 : Int) : St := ⟨[(0, .w (.one (.ro (.int .i64) s0))), (1, .w (.one (.fn 94 []))), (7, .w (.one (.int .i64 x7))), (8, .w (.one (.int .i64 x8)))], []⟩
theorem eq77 (l : List Int) (r : List W) (lh : Heap) : FB E H77 Tryz.f77 [.one (.ro (.int .i64) l), .one (.fn 94 [])] [] r lh =
  (
   FL E H77 Tryz.f77 0 r lh 0 (S77_L0 l ((l.length : Nat) : Int) 0)) := by kernel_rfl
theorem eq77_L0 (s0 : List Int) (x7 : Int) (x8 : Int) (r : List W) (lh : Heap) : FL1 E H77 Tryz.f77 0 r lh 0 (S77_L0 s0 x7 x8) =
  (
   Br (decide (x8 < x7)) (
    Ck (decide ((0 : Int) ≤ x8)) (
     Ck (decide (x8 < ((s0.length : Nat) : Int))) (
      ∃ r0 : Bool, SC P 94 [.one (.int .i64 (s0.getD x8.toNat 0))] [] [.one (.bool r0)] [] ∧
       Br r0 (
        Ret r lh [.one (.int .i64 x8)] []) (
        FL E H77 Tryz.f77 0 r lh 0 (S77_L0 s0 x7 (IntKind.wrap .i64 (x8 + 1))))))) (
    Ret r lh [.one (.int .i64 (-1))] [])) := by kernel_rfl
theorem l77 (l : List Int) (hl : l.length ≤ 1048576) : ∀ (n i : Nat), i + n = l.length → FL E H77 Tryz.f77 0 [.one (.int .i64 (findR (fun j => !inB (l.getD j 0) 0 30) (fun j => (j : Int)) (-1) i n))] [] 0 (S77_L0 l (l.length : Int) (i : Int))
  | 0, i, h => by
    refine FL_of1 ?_
    rw [eq77_L0]
    exact Br_f (by omega) ⟨rfl, rfl⟩
  | n + 1, i, h => by
    refine FL_of1 ?_
    rw [eq77_L0, wS (by omega), findR]
    simp only [Int.toNat_natCast]
    refine Br_t (by omega) (Ck_d (by omega) (Ck_d (by omega) ⟨_, c94 _, Br_b (fun h1 => ?_) (fun h1 => ?_)⟩))
    · exact ⟨by rw [cond_t h1], rfl⟩
    · rw [cond_f h1]
      exact l77 l hl n (i + 1) (by omega)
theorem c77 (l : List Int) (hl : l.length ≤ 1048576) : SC P 77 [.one (.ro (.int .i64) l), .one (.fn 94 [])] [] [.one (.int .i64 (findR (fun j => !inB (l.getD j 0) 0 30) (fun j => (j : Int)) (-1) 0 l.length))] [] := by
  refine SC_of_FB (H := H77) E_ok Tryz.func77 (by kernel_rfl) ?_
  rw [eq77]
  exact l77 l hl l.length 0 (by omega)

/-! slices.ContainsFunc[[]int,int] -/
def H50 : Hint := ⟨[], [], [], [], [], [], []⟩
theorem eq50 (l : List Int) (r : List W) (lh : Heap) : FB E H50 Tryz.f50 [.one (.ro (.int .i64) l), .one (.fn 94 [])] [] r lh =
  (
   ∃ r0 : Int, SC P 77 [.one (.ro (.int .i64) l), .one (.fn 94 [])] [] [.one (.int .i64 r0)] [] ∧
    Ret r lh [.one (.bool (decide ((0 : Int) ≤ r0)))] []) := by kernel_rfl
theorem c50 (l : List Int) (hl : l.length ≤ 1048576) : SC P 50 [.one (.ro (.int .i64) l), .one (.fn 94 [])] [] [.one (.bool (l.any fun n => !inB n 0 30))] [] := by
  refine SC_of_FB (H := H50) E_ok Tryz.func50 (by kernel_rfl) ?_
  rw [eq50]
  exact ⟨_, c77 l hl, by rw [findR_any (fun n => !inB n 0 30) l 0], rfl⟩
/-! loop.example/keelson/impl.elementsOk -/
def H68 : Hint := ⟨[], [], [], [], [], [], []⟩
theorem eq68 (list : List Int) (many : Int) (r : List W) (lh : Heap) : FB E H68 Tryz.f68 [.one (.ro (.int .i64) list), .one (.int .i64 many)] [] r lh =
  (
   Br (decide (((list.length : Nat) : Int) = many)) (
    ∃ r0 : Bool, SC P 50 [.one (.ro (.int .i64) list), .one (.fn 94 [])] [] [.one (.bool r0)] [] ∧
     Ret r lh [.one (.bool (!r0))] []) (
    Ret r lh [.one (.bool false)] [])) := by kernel_rfl
theorem c68 (l : List Int) (many : Int) (hl : l.length ≤ 1048576) : SC P 68 [.one (.ro (.int .i64) l), .one (.int .i64 many)] [] [.one (.bool (decide ((l.length : Int) = many) && l.all (fun n => inB n 0 30)))] [] := by
  refine SC_of_FB (H := H68) E_ok Tryz.func68 (by kernel_rfl) ?_
  rw [eq68]
  refine Br_d (fun h => ⟨_, c50 l hl, ?_, rfl⟩) (fun h => ⟨by rw [decide_eq_false h, Bool.false_and], rfl⟩)
  rw [decide_eq_true h, Bool.true_and]
  congr 3
  rw [List.any_eq_not_all_not]
  simp

/-! loop.example/keelson/impl.elementOf -/
def H114 : Hint := ⟨[], [], [], [], [], [], []⟩
theorem eq114 (n : Int) (r : List W) (lh : Heap) : FB E H114 Tryz.f114 [.one (.int .i64 n)] [] r lh =
  (
   Ret r lh [.one (.int .i64 (Int.tmod (IntKind.wrap .i64 ((Int.tmod n 31) + 31)) 31))] []) := by kernel_rfl
theorem c114 (n : Int) : SC P 114 [.one (.int .i64 n)] [] [.one (.int .i64 (n % 31))] [] := by
  refine SC_of_FB (H := H114) E_ok Tryz.func114 (by kernel_rfl) ?_
  rw [eq114]
  have h1 := Int.tmod_lt_of_pos n (show (0 : Int) < 31 by omega)
  have h2 : -31 < n.tmod 31 := by
    have := Int.lt_tmod_of_pos n (show (0 : Int) < 31 by omega)
    omega
  rw [wrap64 (by omega) (by omega)]
  refine ⟨?_, rfl⟩
  congr 3
  rw [Int.tmod_eq_emod_of_nonneg (show 0 ≤ n.tmod 31 + 31 by omega)]
  have h3 := Int.mul_tdiv_add_tmod n 31
  omega
/-! (loop.example/keelson/impl.element).plus -/
def H96 : Hint := ⟨[], [], [], [], [], [], []⟩
theorem eq96 (a : Int) (b : Int) (r : List W) (lh : Heap) : FB E H96 Tryz.f96 [.one (.int .i64 a), .one (.int .i64 b)] [] r lh =
  (
   ∃ r0 : Int, SC P 114 [.one (.int .i64 (IntKind.wrap .i64 (a + b)))] [] [.one (.int .i64 r0)] [] ∧
    Ret r lh [.one (.int .i64 r0)] []) := by kernel_rfl
theorem c96 (a b : Int) (ha : FOk a) (hb : FOk b) : SC P 96 [.one (.int .i64 a), .one (.int .i64 b)] [] [.one (.int .i64 ((a + b) % 31))] [] := by
  refine SC_of_FB (H := H96) E_ok Tryz.func96 (by kernel_rfl) ?_
  rw [eq96]
  have := ha.1; have := ha.2; have := hb.1; have := hb.2
  rw [wrap64 (by omega) (by omega)]
  exact ⟨_, c114 _, rfl, rfl⟩
/-! (loop.example/keelson/impl.element).times -/
def H97 : Hint := ⟨[], [], [], [], [], [], []⟩
theorem eq97 (a : Int) (b : Int) (r : List W) (lh : Heap) : FB E H97 Tryz.f97 [.one (.int .i64 a), .one (.int .i64 b)] [] r lh =
  (
   ∃ r0 : Int, SC P 114 [.one (.int .i64 (IntKind.wrap .i64 (a * b)))] [] [.one (.int .i64 r0)] [] ∧
    Ret r lh [.one (.int .i64 r0)] []) := by kernel_rfl
theorem c97 (a b : Int) (ha : FOk a) (hb : FOk b) : SC P 97 [.one (.int .i64 a), .one (.int .i64 b)] [] [.one (.int .i64 (a * b % 31))] [] := by
  refine SC_of_FB (H := H97) E_ok Tryz.func97 (by kernel_rfl) ?_
  rw [eq97]
  have := fok_mul ha hb
  rw [wrap64 (by omega) (by omega)]
  exact ⟨_, c114 _, rfl, rfl⟩
/-! (loop.example/keelson/impl.vector).list -/
def H70 : Hint := ⟨[[(3, 0, .bool), (7, 0, .bool), (8, 0, .bool)]], [], [], [], [], [], []⟩
def S70_L0 (x7_0 : Int) (x7_1 : Int) (x7_2 : Int) (x7_3 : Int) (x8 : Int) (h0 : List Int) : St := ⟨[(3, .w (.one (.sl 0 none))), (7, .w (.agg [.int .i64 x7_0, .int .i64 x7_1, .int .i64 x7_2, .int .i64 x7_3])), (8, .w (.one (.int .i64 x8)))], [.row (.int .i64) h0 .own]⟩
theorem eq70 (v : (Int × (Int × (Int × Int)))) (r : List W) (lh : Heap) : FB E H70 Tryz.f70 [.agg [.int .i64 v.1, .int .i64 v.2.1, .int .i64 v.2.2.1, .int .i64 v.2.2.2]] [] r lh =
  (
   FL E H70 Tryz.f70 0 r lh 0 (S70_L0 v.1 v.2.1 v.2.2.1 v.2.2.2 0 [])) := by kernel_rfl
theorem eq70_L0 (x7_0 : Int) (x7_1 : Int) (x7_2 : Int) (x7_3 : Int) (x8 : Int) (h0 : List Int) (r : List W) (lh : Heap) : FL1 E H70 Tryz.f70 0 r lh 0 (S70_L0 x7_0 x7_1 x7_2 x7_3 x8 h0) =
  (
   Br (decide (x8 < (4 : Int))) (
    Ck (decide ((0 : Int) ≤ x8)) (
     Ck (decide (x8 < (4 : Int))) (
      Ck (Nat.ble ((h0.length + 1) * 8) roomy) (
       FL E H70 Tryz.f70 0 r lh 0 (S70_L0 x7_0 x7_1 x7_2 x7_3 (IntKind.wrap .i64 (x8 + 1)) (h0 ++ [([x7_0, x7_1, x7_2, x7_3].getD x8.toNat 0)])))))) (
    Ret r lh [.one (.sl 0 none)] [.row (.int .i64) h0 .own])) := by kernel_rfl
theorem c70 (v : V4) : SC P 70 [.agg [.int .i64 v.1, .int .i64 v.2.1, .int .i64 v.2.2.1, .int .i64 v.2.2.2]] [] [.one (.sl 0 none)] [.row (.int .i64) v.l .own] := by
  refine SC_of_FB (H := H70) E_ok Tryz.func70 (by kernel_rfl) ?_
  rw [eq70]
  have step : ∀ (i : Nat) (out : List Int), i < 4 → out.length ≤ 4 → FL E H70 Tryz.f70 0 [.one (.sl 0 none)] [.row (.int .i64) v.l .own] 0 (S70_L0 v.1 v.2.1 v.2.2.1 v.2.2.2 ((i + 1 : Nat) : Int) (out ++ [[v.1, v.2.1, v.2.2.1, v.2.2.2].getD i 0])) →
      FL E H70 Tryz.f70 0 [.one (.sl 0 none)] [.row (.int .i64) v.l .own] 0 (S70_L0 v.1 v.2.1 v.2.2.1 v.2.2.2 (i : Int) out) := by
    intro i out hi ho hF
    refine FL_of1 ?_
    rw [eq70_L0, wS (by omega)]
    simp only [Int.toNat_natCast]
    exact Br_t (by omega) (Ck_d (by omega) (Ck_d (by omega) (Ck_room (by omega) hF)))
  refine step 0 _ (by omega) (by simp) (step 1 _ (by omega) (by simp) (step 2 _ (by omega) (by simp) (step 3 _ (by omega) (by simp) ?_)))
  refine FL_of1 ?_
  rw [eq70_L0]
  exact Br_f (by simp) ⟨rfl, rfl⟩

/-! (loop.example/keelson/impl.vector).plus -/
def H108 : Hint := ⟨[[(2, 0, .bool), (3, 0, .bool), (4, 0, .bool), (6, 0, .bool)]], [], [(4, [0, 1, 2, 3, 4, 5, 6, 7, 8, 9])], [], [], [], []⟩
def S108_L0 (x6 : Int) (h0 : List Int) (h1 : List Int) (h2 : List Int) : St := ⟨[(2, .w (.one (.ptr 0 0 0))), (3, .w (.one (.ptr 1 0 0))), (4, .w (.one (.ptr 2 0 0))), (6, .w (.one (.int .i64 x6)))], [.row (.int .i64) h0 .var, .row (.int .i64) h1 .var, .row (.int .i64) h2 .var]⟩
theorem eq108 (v : (Int × (Int × (Int × Int)))) (u : (Int × (Int × (Int × Int)))) (r : List W) (lh : Heap) : FB E H108 Tryz.f108 [.agg [.int .i64 v.1, .int .i64 v.2.1, .int .i64 v.2.2.1, .int .i64 v.2.2.2], .agg [.int .i64 u.1, .int .i64 u.2.1, .int .i64 u.2.2.1, .int .i64 u.2.2.2]] [] r lh =
  (
   FL E H108 Tryz.f108 0 r lh 0 (S108_L0 0 [v.1, v.2.1, v.2.2.1, v.2.2.2] [u.1, u.2.1, u.2.2.1, u.2.2.2] [0, 0, 0, 0])) := by kernel_rfl
theorem eq108_L0 (x6 : Int) (h0 : List Int) (h1 : List Int) (h2 : List Int) (r : List W) (lh : Heap) : FL1 E H108 Tryz.f108 0 r lh 0 (S108_L0 x6 h0 h1 h2) =
  (
   Br (decide (x6 < (4 : Int))) (
    Ck (decide ((0 : Int) ≤ x6)) (
     Ck (decide (x6 < (4 : Int))) (
      Ck (Nat.ble ((0 + (x6.toNat * 1)) + 1) h0.length) (
       Ck (decide ((0 : Int) ≤ x6)) (
        Ck (decide (x6 < (4 : Int))) (
         Ck (Nat.ble ((0 + (x6.toNat * 1)) + 1) h1.length) (
          ∃ r0 : Int, SC P 96 [.one (.int .i64 (h0.getD (0 + (x6.toNat * 1)) 0)), .one (.int .i64 (h1.getD (0 + (x6.toNat * 1)) 0))] [] [.one (.int .i64 r0)] [] ∧
           Ck (decide ((0 : Int) ≤ x6)) (
            Ck (decide (x6 < (4 : Int))) (
             Ck (Nat.ble ((0 + (x6.toNat * 1)) + 1) h0.length) (
              FL E H108 Tryz.f108 0 r lh 0 (S108_L0 (IntKind.wrap .i64 (x6 + 1)) (h0.set (0 + (x6.toNat * 1)) r0) h1 h2))))))))))) (
    Ck (Nat.ble 4 h0.length) (
     Ck (Nat.ble 4 h2.length) (
      Ck (Nat.ble 4 (((((h2.set 0 (h0.getD 0 0)).set 1 (h0.getD 1 0)).set 2 (h0.getD 2 0)).set 3 (h0.getD 3 0)).length)) (
       Ret r lh [.agg [.int .i64 (((((h2.set 0 (h0.getD 0 0)).set 1 (h0.getD 1 0)).set 2 (h0.getD 2 0)).set 3 (h0.getD 3 0)).getD 0 0), .int .i64 (((((h2.set 0 (h0.getD 0 0)).set 1 (h0.getD 1 0)).set 2 (h0.getD 2 0)).set 3 (h0.getD 3 0)).getD 1 0), .int .i64 (((((h2.set 0 (h0.getD 0 0)).set 1 (h0.getD 1 0)).set 2 (h0.getD 2 0)).set 3 (h0.getD 3 0)).getD 2 0), .int .i64 (((((h2.set 0 (h0.getD 0 0)).set 1 (h0.getD 1 0)).set 2 (h0.getD 2 0)).set 3 (h0.getD 3 0)).getD 3 0)]] []))))) := by kernel_rfl
theorem c108 (v u : V4) (hv : VOk v) (hu : VOk u) : SC P 108 [.agg [.int .i64 v.1, .int .i64 v.2.1, .int .i64 v.2.2.1, .int .i64 v.2.2.2], .agg [.int .i64 u.1, .int .i64 u.2.1, .int .i64 u.2.2.1, .int .i64 u.2.2.2]] [] [.agg [.int .i64 (vplus v u).1, .int .i64 (vplus v u).2.1, .int .i64 (vplus v u).2.2.1, .int .i64 (vplus v u).2.2.2]] [] := by
  refine SC_of_FB (H := H108) E_ok Tryz.func108 (by kernel_rfl) ?_
  rw [eq108]
  have step : ∀ (i : Nat) (h0 : List Int), i < 4 → h0.length = 4 → h0.getD i 0 = v.l.getD i 0 → FL E H108 Tryz.f108 0 [.agg [.int .i64 (vplus v u).1, .int .i64 (vplus v u).2.1, .int .i64 (vplus v u).2.2.1, .int .i64 (vplus v u).2.2.2]] [] 0 (S108_L0 ((i + 1 : Nat) : Int) (h0.set i ((v.l.getD i 0 + u.l.getD i 0) % 31)) u.l [0, 0, 0, 0]) →
      FL E H108 Tryz.f108 0 [.agg [.int .i64 (vplus v u).1, .int .i64 (vplus v u).2.1, .int .i64 (vplus v u).2.2.1, .int .i64 (vplus v u).2.2.2]] [] 0 (S108_L0 (i : Int) h0 u.l [0, 0, 0, 0]) := by
    intro i h0 hi hl he hF
    have hul : u.l.length = 4 := rfl
    refine FL_of1 ?_
    rw [eq108_L0, wS (by omega)]
    simp only [Int.toNat_natCast, Nat.zero_add, Nat.mul_one]
    rw [he]
    exact Br_t (by omega) (Ck_d (by omega) (Ck_d (by omega) (Ck_le (by omega) (Ck_d (by omega) (Ck_d (by omega) (Ck_le (by omega) ⟨_, c96 _ _ (vok_get hv i) (vok_get hu i), Ck_d (by omega) (Ck_d (by omega) (Ck_le (by omega) hF))⟩))))))
  refine step 0 v.l (by omega) rfl rfl (step 1 _ (by omega) rfl rfl (step 2 _ (by omega) rfl rfl (step 3 _ (by omega) rfl rfl ?_)))
  refine FL_of1 ?_
  rw [eq108_L0]
  exact Br_f (by simp) (Ck_le (by simp [V4.l]) (Ck_le (by simp) (Ck_le (by simp) ⟨rfl, rfl⟩)))
/-! (loop.example/keelson/impl.vector).times -/
def H100 : Hint := ⟨[[(1, 0, .bool), (2, 0, .bool), (4, 0, .bool), (6, 0, .bool)]], [], [], [], [], [], []⟩
def S100_L0 (c1 : Int) (x6 : Int) (h0 : List Int) (h1 : List Int) : St := ⟨[(1, .w (.one (.int .i64 c1))), (2, .w (.one (.ptr 0 0 0))), (4, .w (.one (.ptr 1 0 0))), (6, .w (.one (.int .i64 x6)))], [.row (.int .i64) h0 .var, .row (.int .i64) h1 .var]⟩
theorem eq100 (v : (Int × (Int × (Int × Int)))) (c : Int) (r : List W) (lh : Heap) : FB E H100 Tryz.f100 [.agg [.int .i64 v.1, .int .i64 v.2.1, .int .i64 v.2.2.1, .int .i64 v.2.2.2], .one (.int .i64 c)] [] r lh =
  (
   FL E H100 Tryz.f100 0 r lh 0 (S100_L0 c 0 [v.1, v.2.1, v.2.2.1, v.2.2.2] [0, 0, 0, 0])) := by kernel_rfl
theorem eq100_L0 (c1 : Int) (x6 : Int) (h0 : List Int) (h1 : List Int) (r : List W) (lh : Heap) : FL1 E H100 Tryz.f100 0 r lh 0 (S100_L0 c1 x6 h0 h1) =
  (
   Br (decide (x6 < (4 : Int))) (
    Ck (decide ((0 : Int) ≤ x6)) (
     Ck (decide (x6 < (4 : Int))) (
      Ck (Nat.ble ((0 + (x6.toNat * 1)) + 1) h0.length) (
       ∃ r0 : Int, SC P 97 [.one (.int .i64 (h0.getD (0 + (x6.toNat * 1)) 0)), .one (.int .i64 c1)] [] [.one (.int .i64 r0)] [] ∧
        Ck (decide ((0 : Int) ≤ x6)) (
         Ck (decide (x6 < (4 : Int))) (
          Ck (Nat.ble ((0 + (x6.toNat * 1)) + 1) h0.length) (
           FL E H100 Tryz.f100 0 r lh 0 (S100_L0 c1 (IntKind.wrap .i64 (x6 + 1)) (h0.set (0 + (x6.toNat * 1)) r0) h1)))))))) (
    Ck (Nat.ble 4 h0.length) (
     Ck (Nat.ble 4 h1.length) (
      Ck (Nat.ble 4 (((((h1.set 0 (h0.getD 0 0)).set 1 (h0.getD 1 0)).set 2 (h0.getD 2 0)).set 3 (h0.getD 3 0)).length)) (
       Ret r lh [.agg [.int .i64 (((((h1.set 0 (h0.getD 0 0)).set 1 (h0.getD 1 0)).set 2 (h0.getD 2 0)).set 3 (h0.getD 3 0)).getD 0 0), .int .i64 (((((h1.set 0 (h0.getD 0 0)).set 1 (h0.getD 1 0)).set 2 (h0.getD 2 0)).set 3 (h0.getD 3 0)).getD 1 0), .int .i64 (((((h1.set 0 (h0.getD 0 0)).set 1 (h0.getD 1 0)).set 2 (h0.getD 2 0)).set 3 (h0.getD 3 0)).getD 2 0), .int .i64 (((((h1.set 0 (h0.getD 0 0)).set 1 (h0.getD 1 0)).set 2 (h0.getD 2 0)).set 3 (h0.getD 3 0)).getD 3 0)]] []))))) := by kernel_rfl
theorem c100 (v : V4) (c : Int) (hv : VOk v) (hc : FOk c) : SC P 100 [.agg [.int .i64 v.1, .int .i64 v.2.1, .int .i64 v.2.2.1, .int .i64 v.2.2.2], .one (.int .i64 c)] [] [.agg [.int .i64 (vtimes v c).1, .int .i64 (vtimes v c).2.1, .int .i64 (vtimes v c).2.2.1, .int .i64 (vtimes v c).2.2.2]] [] := by
  refine SC_of_FB (H := H100) E_ok Tryz.func100 (by kernel_rfl) ?_
  rw [eq100]
  have step : ∀ (i : Nat) (h0 : List Int), i < 4 → h0.length = 4 → h0.getD i 0 = v.l.getD i 0 → FL E H100 Tryz.f100 0 [.agg [.int .i64 (vtimes v c).1, .int .i64 (vtimes v c).2.1, .int .i64 (vtimes v c).2.2.1, .int .i64 (vtimes v c).2.2.2]] [] 0 (S100_L0 c ((i + 1 : Nat) : Int) (h0.set i (v.l.getD i 0 * c % 31)) [0, 0, 0, 0]) →
      FL E H100 Tryz.f100 0 [.agg [.int .i64 (vtimes v c).1, .int .i64 (vtimes v c).2.1, .int .i64 (vtimes v c).2.2.1, .int .i64 (vtimes v c).2.2.2]] [] 0 (S100_L0 c (i : Int) h0 [0, 0, 0, 0]) := by
    intro i h0 hi hl he hF
    refine FL_of1 ?_
    rw [eq100_L0, wS (by omega)]
    simp only [Int.toNat_natCast, Nat.zero_add, Nat.mul_one]
    rw [he]
    exact Br_t (by omega) (Ck_d (by omega) (Ck_d (by omega) (Ck_le (by omega) ⟨_, c97 _ _ (vok_get hv i) hc, Ck_d (by omega) (Ck_d (by omega) (Ck_le (by omega) hF))⟩)))
  refine step 0 v.l (by omega) rfl rfl (step 1 _ (by omega) rfl rfl (step 2 _ (by omega) rfl rfl (step 3 _ (by omega) rfl rfl ?_)))
  refine FL_of1 ?_
  rw [eq100_L0]
  exact Br_f (by simp) (Ck_le (by simp [V4.l]) (Ck_le (by simp) (Ck_le (by simp) ⟨rfl, rfl⟩)))

/-! (loop.example/keelson/impl.vector).minus -/
def H99 : Hint := ⟨[], [], [(1, [0, 1, 2, 3, 4, 5])], [], [], [], []⟩
theorem eq99 (v : (Int × (Int × (Int × Int)))) (u : (Int × (Int × (Int × Int)))) (r : List W) (lh : Heap) : FB E H99 Tryz.f99 [.agg [.int .i64 v.1, .int .i64 v.2.1, .int .i64 v.2.2.1, .int .i64 v.2.2.2], .agg [.int .i64 u.1, .int .i64 u.2.1, .int .i64 u.2.2.1, .int .i64 u.2.2.2]] [] r lh =
  (
   ∃ r0 : Int, SC P 114 [.one (.int .i64 (-1))] [] [.one (.int .i64 r0)] [] ∧
    ∃ r1 : Int × Int × Int × Int, SC P 100 [.agg [.int .i64 u.1, .int .i64 u.2.1, .int .i64 u.2.2.1, .int .i64 u.2.2.2], .one (.int .i64 r0)] [] [.agg [.int .i64 r1.1, .int .i64 r1.2.1, .int .i64 r1.2.2.1, .int .i64 r1.2.2.2]] [] ∧
     ∃ r2 : Int × Int × Int × Int, SC P 108 [.agg [.int .i64 v.1, .int .i64 v.2.1, .int .i64 v.2.2.1, .int .i64 v.2.2.2], .agg [.int .i64 r1.1, .int .i64 r1.2.1, .int .i64 r1.2.2.1, .int .i64 r1.2.2.2]] [] [.agg [.int .i64 r2.1, .int .i64 r2.2.1, .int .i64 r2.2.2.1, .int .i64 r2.2.2.2]] [] ∧
      Ret r lh [.agg [.int .i64 r2.1, .int .i64 r2.2.1, .int .i64 r2.2.2.1, .int .i64 r2.2.2.2]] []) := by kernel_rfl
theorem c99 (v u : V4) (hv : VOk v) (hu : VOk u) : SC P 99 [.agg [.int .i64 v.1, .int .i64 v.2.1, .int .i64 v.2.2.1, .int .i64 v.2.2.2], .agg [.int .i64 u.1, .int .i64 u.2.1, .int .i64 u.2.2.1, .int .i64 u.2.2.2]] [] [.agg [.int .i64 (vminus v u).1, .int .i64 (vminus v u).2.1, .int .i64 (vminus v u).2.2.1, .int .i64 (vminus v u).2.2.2]] [] := by
  refine SC_of_FB (H := H99) E_ok Tryz.func99 (by kernel_rfl) ?_
  rw [eq99]
  have s := c114 (-1)
  rw [show (-1 : Int) % 31 = 30 from rfl] at s
  exact ⟨30, s, vtimes u 30, c100 u 30 hu ⟨by omega, by omega⟩, vminus v u, c108 v _ hv (vtimes_ok u 30), rfl, rfl⟩

/-! (loop.example/keelson/impl.vector).dot -/
def H82 : Hint := ⟨[[(2, 0, .bool), (3, 0, .bool), (5, 0, .bool), (7, 0, .bool)]], [], [(5, [0, 1, 2, 3, 4, 5, 6, 7, 8, 9])], [], [], [], []⟩
def S82_L0 (sum5 : Int) (x7 : Int) (h0 : List Int) (h1 : List Int) : St := ⟨[(2, .w (.one (.ptr 0 0 0))), (3, .w (.one (.ptr 1 0 0))), (5, .w (.one (.int .i64 sum5))), (7, .w (.one (.int .i64 x7)))], [.row (.int .i64) h0 .var, .row (.int .i64) h1 .var]⟩
theorem eq82 (v : (Int × (Int × (Int × Int)))) (u : (Int × (Int × (Int × Int)))) (r : List W) (lh : Heap) : FB E H82 Tryz.f82 [.agg [.int .i64 v.1, .int .i64 v.2.1, .int .i64 v.2.2.1, .int .i64 v.2.2.2], .agg [.int .i64 u.1, .int .i64 u.2.1, .int .i64 u.2.2.1, .int .i64 u.2.2.2]] [] r lh =
  (
   FL E H82 Tryz.f82 0 r lh 0 (S82_L0 0 0 [v.1, v.2.1, v.2.2.1, v.2.2.2] [u.1, u.2.1, u.2.2.1, u.2.2.2])) := by kernel_rfl
theorem eq82_L0 (sum5 : Int) (x7 : Int) (h0 : List Int) (h1 : List Int) (r : List W) (lh : Heap) : FL1 E H82 Tryz.f82 0 r lh 0 (S82_L0 sum5 x7 h0 h1) =
  (
   Br (decide (x7 < (4 : Int))) (
    Ck (decide ((0 : Int) ≤ x7)) (
     Ck (decide (x7 < (4 : Int))) (
      Ck (Nat.ble ((0 + (x7.toNat * 1)) + 1) h0.length) (
       Ck (decide ((0 : Int) ≤ x7)) (
        Ck (decide (x7 < (4 : Int))) (
         Ck (Nat.ble ((0 + (x7.toNat * 1)) + 1) h1.length) (
          ∃ r0 : Int, SC P 97 [.one (.int .i64 (h0.getD (0 + (x7.toNat * 1)) 0)), .one (.int .i64 (h1.getD (0 + (x7.toNat * 1)) 0))] [] [.one (.int .i64 r0)] [] ∧
           ∃ r1 : Int, SC P 96 [.one (.int .i64 sum5), .one (.int .i64 r0)] [] [.one (.int .i64 r1)] [] ∧
            FL E H82 Tryz.f82 0 r lh 0 (S82_L0 r1 (IntKind.wrap .i64 (x7 + 1)) h0 h1)))))))) (
    Ret r lh [.one (.int .i64 sum5)] [])) := by kernel_rfl
theorem c82 (v u : V4) (hv : VOk v) (hu : VOk u) : SC P 82 [.agg [.int .i64 v.1, .int .i64 v.2.1, .int .i64 v.2.2.1, .int .i64 v.2.2.2], .agg [.int .i64 u.1, .int .i64 u.2.1, .int .i64 u.2.2.1, .int .i64 u.2.2.2]] [] [.one (.int .i64 (dotF v u))] [] := by
  refine SC_of_FB (H := H82) E_ok Tryz.func82 (by kernel_rfl) ?_
  rw [eq82]
  have step : ∀ (i : Nat) (s : Int), i < 4 → FOk s → FL E H82 Tryz.f82 0 [.one (.int .i64 (dotF v u))] [] 0 (S82_L0 ((s + v.l.getD i 0 * u.l.getD i 0 % 31) % 31) ((i + 1 : Nat) : Int) v.l u.l) →
      FL E H82 Tryz.f82 0 [.one (.int .i64 (dotF v u))] [] 0 (S82_L0 s (i : Int) v.l u.l) := by
    intro i s hi hs hF
    have hvl : v.l.length = 4 := rfl
    have hul : u.l.length = 4 := rfl
    refine FL_of1 ?_
    rw [eq82_L0, wS (by omega)]
    simp only [Int.toNat_natCast, Nat.zero_add, Nat.mul_one]
    exact Br_t (by omega) (Ck_d (by omega) (Ck_d (by omega) (Ck_le (by omega) (Ck_d (by omega) (Ck_d (by omega) (Ck_le (by omega) ⟨_, c97 _ _ (vok_get hv i) (vok_get hu i), _, c96 _ _ hs (fok_mod _), hF⟩))))))
  refine step 0 0 (by omega) ⟨by omega, by omega⟩ (step 1 _ (by omega) (fok_mod _) (step 2 _ (by omega) (fok_mod _) (step 3 _ (by omega) (fok_mod _) ?_)))
  refine FL_of1 ?_
  rw [eq82_L0]
  refine Br_f (by simp) ⟨?_, rfl⟩
  rw [dotF]
  simp only [V4.l, List.getD_cons_zero, List.getD_cons_succ]
  congr 3
  omega

def H107 : Hint := {}
theorem un_0 : SC P 107 [.one (.int .i64 0)] [] [.agg [.int .i64 1, .int .i64 0, .int .i64 0, .int .i64 0]] [] := by
  refine SC_of_FB (H := H107) E_ok Tryz.func107 (by kernel_rfl) ?_
  have h : FB E H107 Tryz.f107 [.one (.int .i64 0)] [] [.agg [.int .i64 1, .int .i64 0, .int .i64 0, .int .i64 0]] [] = Ret [.agg [.int .i64 1, .int .i64 0, .int .i64 0, .int .i64 0]] [] [.agg [.int .i64 1, .int .i64 0, .int .i64 0, .int .i64 0]] [] := by kernel_rfl
  rw [h]
  exact ⟨rfl, rfl⟩
theorem un_1 : SC P 107 [.one (.int .i64 1)] [] [.agg [.int .i64 0, .int .i64 1, .int .i64 0, .int .i64 0]] [] := by
  refine SC_of_FB (H := H107) E_ok Tryz.func107 (by kernel_rfl) ?_
  have h : FB E H107 Tryz.f107 [.one (.int .i64 1)] [] [.agg [.int .i64 0, .int .i64 1, .int .i64 0, .int .i64 0]] [] = Ret [.agg [.int .i64 0, .int .i64 1, .int .i64 0, .int .i64 0]] [] [.agg [.int .i64 0, .int .i64 1, .int .i64 0, .int .i64 0]] [] := by kernel_rfl
  rw [h]
  exact ⟨rfl, rfl⟩
theorem un_2 : SC P 107 [.one (.int .i64 2)] [] [.agg [.int .i64 0, .int .i64 0, .int .i64 1, .int .i64 0]] [] := by
  refine SC_of_FB (H := H107) E_ok Tryz.func107 (by kernel_rfl) ?_
  have h : FB E H107 Tryz.f107 [.one (.int .i64 2)] [] [.agg [.int .i64 0, .int .i64 0, .int .i64 1, .int .i64 0]] [] = Ret [.agg [.int .i64 0, .int .i64 0, .int .i64 1, .int .i64 0]] [] [.agg [.int .i64 0, .int .i64 0, .int .i64 1, .int .i64 0]] [] := by kernel_rfl
  rw [h]
  exact ⟨rfl, rfl⟩
theorem un_3 : SC P 107 [.one (.int .i64 3)] [] [.agg [.int .i64 0, .int .i64 0, .int .i64 0, .int .i64 1]] [] := by
  refine SC_of_FB (H := H107) E_ok Tryz.func107 (by kernel_rfl) ?_
  have h : FB E H107 Tryz.f107 [.one (.int .i64 3)] [] [.agg [.int .i64 0, .int .i64 0, .int .i64 0, .int .i64 1]] [] = Ret [.agg [.int .i64 0, .int .i64 0, .int .i64 0, .int .i64 1]] [] [.agg [.int .i64 0, .int .i64 0, .int .i64 0, .int .i64 1]] [] := by kernel_rfl
  rw [h]
  exact ⟨rfl, rfl⟩
theorem c107 (i : Int) (h0 : 0 ≤ i) (h1 : i ≤ 3) : SC P 107 [.one (.int .i64 i)] [] [.agg [.int .i64 (unitF i).1, .int .i64 (unitF i).2.1, .int .i64 (unitF i).2.2.1, .int .i64 (unitF i).2.2.2]] [] := by
  have : i = 0 ∨ i = 1 ∨ i = 2 ∨ i = 3 := by omega
  rcases this with rfl | rfl | rfl | rfl
  · exact un_0
  · exact un_1
  · exact un_2
  · exact un_3

/-! loop.example/keelson/impl.powers -/
def H106 : Hint := ⟨[[(0, 0, .bool), (2, 0, .bool), (3, 0, .bool), (4, 0, .bool)]], [], [], [], [], [], []⟩
def S106_L0 (x0 : Int) (i4 : Int) (h0 : List Int) (h1 : List Int) : St := ⟨[(0, .w (.one (.int .i64 x0))), (2, .w (.one (.ptr 0 0 0))), (3, .w (.one (.ptr 1 0 0))), (4, .w (.one (.int .i64 i4)))], [.row (.int .i64) h0 .var, .row (.int .i64) h1 .var]⟩
theorem eq106 (x : Int) (r : List W) (lh : Heap) : FB E H106 Tryz.f106 [.one (.int .i64 x)] [] r lh =
  (
   FL E H106 Tryz.f106 0 r lh 0 (S106_L0 x 1 [0, 0, 0, 0] [1, 0, 0, 0])) := by kernel_rfl
theorem eq106_L0 (x0 : Int) (i4 : Int) (h0 : List Int) (h1 : List Int) (r : List W) (lh : Heap) : FL1 E H106 Tryz.f106 0 r lh 0 (S106_L0 x0 i4 h0 h1) =
  (
   Br (decide (i4 < (4 : Int))) (
    Ck (decide ((0 : Int) ≤ (IntKind.wrap .i64 (i4 - 1)))) (
     Ck (decide ((IntKind.wrap .i64 (i4 - 1)) < (4 : Int))) (
      Ck (Nat.ble ((0 + ((IntKind.wrap .i64 (i4 - 1)).toNat * 1)) + 1) h1.length) (
       ∃ r0 : Int, SC P 97 [.one (.int .i64 (h1.getD (0 + ((IntKind.wrap .i64 (i4 - 1)).toNat * 1)) 0)), .one (.int .i64 x0)] [] [.one (.int .i64 r0)] [] ∧
        Ck (decide ((0 : Int) ≤ i4)) (
         Ck (decide (i4 < (4 : Int))) (
          Ck (Nat.ble ((0 + (i4.toNat * 1)) + 1) h1.length) (
           FL E H106 Tryz.f106 0 r lh 0 (S106_L0 x0 (IntKind.wrap .i64 (i4 + 1)) h0 (h1.set (0 + (i4.toNat * 1)) r0))))))))) (
    Ck (Nat.ble 4 h1.length) (
     Ck (Nat.ble 4 h0.length) (
      Ck (Nat.ble 4 (((((h0.set 0 (h1.getD 0 0)).set 1 (h1.getD 1 0)).set 2 (h1.getD 2 0)).set 3 (h1.getD 3 0)).length)) (
       Ret r lh [.agg [.int .i64 (((((h0.set 0 (h1.getD 0 0)).set 1 (h1.getD 1 0)).set 2 (h1.getD 2 0)).set 3 (h1.getD 3 0)).getD 0 0), .int .i64 (((((h0.set 0 (h1.getD 0 0)).set 1 (h1.getD 1 0)).set 2 (h1.getD 2 0)).set 3 (h1.getD 3 0)).getD 1 0), .int .i64 (((((h0.set 0 (h1.getD 0 0)).set 1 (h1.getD 1 0)).set 2 (h1.getD 2 0)).set 3 (h1.getD 3 0)).getD 2 0), .int .i64 (((((h0.set 0 (h1.getD 0 0)).set 1 (h1.getD 1 0)).set 2 (h1.getD 2 0)).set 3 (h1.getD 3 0)).getD 3 0)]] []))))) := by kernel_rfl
theorem c106 (x : Int) (hx : FOk x) : SC P 106 [.one (.int .i64 x)] [] [.agg [.int .i64 (powF x).1, .int .i64 (powF x).2.1, .int .i64 (powF x).2.2.1, .int .i64 (powF x).2.2.2]] [] := by
  refine SC_of_FB (H := H106) E_ok Tryz.func106 (by kernel_rfl) ?_
  rw [eq106]
  have step : ∀ (i : Nat) (h1 : List Int), i < 3 → h1.length = 4 → FOk (h1.getD i 0) → FL E H106 Tryz.f106 0 [.agg [.int .i64 (powF x).1, .int .i64 (powF x).2.1, .int .i64 (powF x).2.2.1, .int .i64 (powF x).2.2.2]] [] 0 (S106_L0 x ((i + 1 + 1 : Nat) : Int) [0, 0, 0, 0] (h1.set (i + 1) (h1.getD i 0 * x % 31))) →
      FL E H106 Tryz.f106 0 [.agg [.int .i64 (powF x).1, .int .i64 (powF x).2.1, .int .i64 (powF x).2.2.1, .int .i64 (powF x).2.2.2]] [] 0 (S106_L0 x ((i + 1 : Nat) : Int) [0, 0, 0, 0] h1) := by
    intro i h1 hi hl hok hF
    refine FL_of1 ?_
    rw [eq106_L0, wS (by omega), wP (by omega)]
    simp only [Int.toNat_natCast, Nat.zero_add, Nat.mul_one]
    exact Br_t (by omega) (Ck_d (by omega) (Ck_d (by omega) (Ck_le (by omega) ⟨_, c97 _ _ hok hx, Ck_d (by omega) (Ck_d (by omega) (Ck_le (by omega) hF))⟩)))
  refine step 0 _ (by omega) rfl ⟨by simp, by simp⟩ (step 1 _ (by omega) rfl (fok_mod _) (step 2 _ (by omega) rfl (fok_mod _) ?_))
  refine FL_of1 ?_
  rw [eq106_L0]
  exact Br_f (by simp) (Ck_le (by simp) (Ck_le (by simp) (Ck_le (by simp) ⟨rfl, rfl⟩)))

/-! loop.example/keelson/impl.rowOf -/
def H81 : Hint := ⟨[], [], [], [], [], [], []⟩
theorem eq81 (kind : Int) (at0 : Int) (r : List W) (lh : Heap) : FB E H81 Tryz.f81 [.one (.int .i64 kind), .one (.int .i64 at0)] [] r lh =
  (
   Br (decide (kind = (2 : Int))) (
    ∃ r0 : Int × Int × Int × Int, SC P 106 [.one (.int .i64 (IntKind.wrap .i64 (at0 + 1)))] [] [.agg [.int .i64 r0.1, .int .i64 r0.2.1, .int .i64 r0.2.2.1, .int .i64 r0.2.2.2]] [] ∧
     Ret r lh [.agg [.int .i64 r0.1, .int .i64 r0.2.1, .int .i64 r0.2.2.1, .int .i64 r0.2.2.2]] []) (
    Br (decide (at0 < (4 : Int))) (
     ∃ r1 : Int × Int × Int × Int, SC P 107 [.one (.int .i64 at0)] [] [.agg [.int .i64 r1.1, .int .i64 r1.2.1, .int .i64 r1.2.2.1, .int .i64 r1.2.2.2]] [] ∧
      Ret r lh [.agg [.int .i64 r1.1, .int .i64 r1.2.1, .int .i64 r1.2.2.1, .int .i64 r1.2.2.2]] []) (
     Br (decide (at0 = (4 : Int))) (
      ∃ r2 : Int × Int × Int × Int, SC P 107 [.one (.int .i64 0)] [] [.agg [.int .i64 r2.1, .int .i64 r2.2.1, .int .i64 r2.2.2.1, .int .i64 r2.2.2.2]] [] ∧
       ∃ r3 : Int × Int × Int × Int, SC P 107 [.one (.int .i64 1)] [] [.agg [.int .i64 r3.1, .int .i64 r3.2.1, .int .i64 r3.2.2.1, .int .i64 r3.2.2.2]] [] ∧
        ∃ r4 : Int × Int × Int × Int, SC P 108 [.agg [.int .i64 r2.1, .int .i64 r2.2.1, .int .i64 r2.2.2.1, .int .i64 r2.2.2.2], .agg [.int .i64 r3.1, .int .i64 r3.2.1, .int .i64 r3.2.2.1, .int .i64 r3.2.2.2]] [] [.agg [.int .i64 r4.1, .int .i64 r4.2.1, .int .i64 r4.2.2.1, .int .i64 r4.2.2.2]] [] ∧
         Ret r lh [.agg [.int .i64 r4.1, .int .i64 r4.2.1, .int .i64 r4.2.2.1, .int .i64 r4.2.2.2]] []) (
      Br (decide (at0 = (5 : Int))) (
       ∃ r5 : Int × Int × Int × Int, SC P 107 [.one (.int .i64 2)] [] [.agg [.int .i64 r5.1, .int .i64 r5.2.1, .int .i64 r5.2.2.1, .int .i64 r5.2.2.2]] [] ∧
        ∃ r6 : Int × Int × Int × Int, SC P 107 [.one (.int .i64 3)] [] [.agg [.int .i64 r6.1, .int .i64 r6.2.1, .int .i64 r6.2.2.1, .int .i64 r6.2.2.2]] [] ∧
         ∃ r7 : Int × Int × Int × Int, SC P 108 [.agg [.int .i64 r5.1, .int .i64 r5.2.1, .int .i64 r5.2.2.1, .int .i64 r5.2.2.2], .agg [.int .i64 r6.1, .int .i64 r6.2.1, .int .i64 r6.2.2.1, .int .i64 r6.2.2.2]] [] [.agg [.int .i64 r7.1, .int .i64 r7.2.1, .int .i64 r7.2.2.1, .int .i64 r7.2.2.2]] [] ∧
          Ret r lh [.agg [.int .i64 r7.1, .int .i64 r7.2.1, .int .i64 r7.2.2.1, .int .i64 r7.2.2.2]] []) (
       ∃ r8 : Int × Int × Int × Int, SC P 106 [.one (.int .i64 (IntKind.wrap .i64 (at0 - 4)))] [] [.agg [.int .i64 r8.1, .int .i64 r8.2.1, .int .i64 r8.2.2.1, .int .i64 r8.2.2.2]] [] ∧
        Ret r lh [.agg [.int .i64 r8.1, .int .i64 r8.2.1, .int .i64 r8.2.2.1, .int .i64 r8.2.2.2]] []))))) := by kernel_rfl
theorem c81 (kind i : Int) (h0 : 0 ≤ i) (h1 : i ≤ 7) : SC P 81 [.one (.int .i64 kind), .one (.int .i64 i)] [] [.agg [.int .i64 (rowV kind i).1, .int .i64 (rowV kind i).2.1, .int .i64 (rowV kind i).2.2.1, .int .i64 (rowV kind i).2.2.2]] [] := by
  refine SC_of_FB (H := H81) E_ok Tryz.func81 (by kernel_rfl) ?_
  rw [eq81]
  unfold rowV
  rw [wrap64 (n := i + 1) (by omega) (by omega), wrap64 (n := i - 4) (by omega) (by omega)]
  refine Br_d (fun c => ⟨powF (i + 1), c106 _ ⟨by omega, by omega⟩, by rw [if_pos c], rfl⟩) (fun c => ?_)
  rw [if_neg c]
  refine Br_d (fun c => ⟨unitF i, c107 _ (by omega) (by omega), by rw [if_pos c], rfl⟩) (fun c => ?_)
  rw [if_neg c]
  refine Br_d (fun c => ⟨unitF 0, c107 _ (by omega) (by omega), unitF 1, c107 _ (by omega) (by omega), vplus (unitF 0) (unitF 1), c108 _ _ (unitF_ok _) (unitF_ok _), by rw [if_pos c], rfl⟩) (fun c => ?_)
  rw [if_neg c]
  refine Br_d (fun c => ⟨unitF 2, c107 _ (by omega) (by omega), unitF 3, c107 _ (by omega) (by omega), vplus (unitF 2) (unitF 3), c108 _ _ (unitF_ok _) (unitF_ok _), by rw [if_pos c], rfl⟩) (fun c => ?_)
  rw [if_neg c]
  exact ⟨powF (i - 4), c106 _ ⟨by omega, by omega⟩, rfl, rfl⟩


/-! loop.example/keelson/impl.kindOk -/
def H38 : Hint := ⟨[], [], [], [], [], [], []⟩
theorem eq38 (kind : Int) (r : List W) (lh : Heap) : FB E H38 Tryz.f38 [.one (.int .i64 kind)] [] r lh =
  (
   ∃ r0 : Bool, SC P 67 [.one (.int .i64 kind), .one (.int .i64 1), .one (.int .i64 2)] [] [.one (.bool r0)] [] ∧
    Ret r lh [.one (.bool r0)] []) := by kernel_rfl
theorem c38 (k : Int) : SC P 38 [.one (.int .i64 k)] [] [.one (.bool (inB k 1 2))] [] := by
  refine SC_of_FB (H := H38) E_ok Tryz.func38 (by kernel_rfl) ?_
  rw [eq38]
  exact ⟨_, c67 _ _ _, rfl, rfl⟩
/-! loop.example/keelson/spec.l4Kind -/
def H33 : Hint := ⟨[], [], [], [], [], [], []⟩
theorem eq33 (kind : Int) (r : List W) (lh : Heap) : FB E H33 Tryz.f33 [.one (.int .i64 kind)] [] r lh =
  (
   ∃ r0 : Bool, SC P 35 [.one (.int .i64 kind), .one (.int .i64 1), .one (.int .i64 2)] [] [.one (.bool r0)] [] ∧
    Ret r lh [.one (.bool r0)] []) := by kernel_rfl
theorem c33 (k : Int) : SC P 33 [.one (.int .i64 k)] [] [.one (.bool (inB k 1 2))] [] := by
  refine SC_of_FB (H := H33) E_ok Tryz.func33 (by kernel_rfl) ?_
  rw [eq33]
  exact ⟨_, c35 _ _ _, rfl, rfl⟩
end Go.Proofs.YtjoiadaogppmkaaGreat.Sh
