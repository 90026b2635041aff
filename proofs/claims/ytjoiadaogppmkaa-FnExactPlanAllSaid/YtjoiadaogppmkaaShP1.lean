/- The field, vectors, codes: contracts. -/
import Derived.Test.YtjoiadaogppmkaaShTypes
import Derived.Test.YtjoiadaogppmkaaShUse
import Derived.Test.YtjoiadaogppmkaaMaDel
import Derived.Test.YtjoiadaogppmkaaMaVec
namespace Go.Proofs.Ytjoiadaogppmkaa.Sh
open Go
set_option linter.unusedVariables false
set_option linter.unusedSimpArgs false
/-! loop.example/keelson/spec.l6In -/
def H51 : Hint := ⟨[], [], [], [], [], [], []⟩
theorem eq51 (n : Int) (low : Int) (high : Int) (r : List W) (lh : Heap) : FB E H51 Try.f51 [.one (.int .i64 n), .one (.int .i64 low), .one (.int .i64 high)] [] r lh =
  (
   Br (decide (low ≤ n)) (
    Ret r lh [.one (.bool (decide (n ≤ high)))] []) (
    Ret r lh [.one (.bool false)] [])) := by kernel_rfl
theorem c51 (n low high : Int) : SC P 51 [.one (.int .i64 n), .one (.int .i64 low), .one (.int .i64 high)] [] [.one (.bool (inB n low high))] [] := by
  refine SC_of_FB (H := H51) E_ok Try.func51 (by kernel_rfl) ?_
  rw [eq51]
  exact Br_d (fun h => ⟨by simp [inB, h], rfl⟩) (fun h => ⟨by simp [inB, h], rfl⟩)
/-! loop.example/keelson/impl.within -/
def H78 : Hint := ⟨[], [], [], [], [], [], []⟩
theorem eq78 (n : Int) (low : Int) (high : Int) (r : List W) (lh : Heap) : FB E H78 Try.f78 [.one (.int .i64 n), .one (.int .i64 low), .one (.int .i64 high)] [] r lh =
  (
   Br (decide (low ≤ n)) (
    Ret r lh [.one (.bool (decide (n ≤ high)))] []) (
    Ret r lh [.one (.bool false)] [])) := by kernel_rfl
theorem c78 (n low high : Int) : SC P 78 [.one (.int .i64 n), .one (.int .i64 low), .one (.int .i64 high)] [] [.one (.bool (inB n low high))] [] := by
  refine SC_of_FB (H := H78) E_ok Try.func78 (by kernel_rfl) ?_
  rw [eq78]
  exact Br_d (fun h => ⟨by simp [inB, h], rfl⟩) (fun h => ⟨by simp [inB, h], rfl⟩)



/-! loop.example/keelson/spec.FieldOk -/
def H87 : Hint := ⟨[], [], [], [], [], [], []⟩
theorem eq87 (n : Int) (r : List W) (lh : Heap) : FB E H87 Try.f87 [.one (.int .i64 n)] [] r lh =
  (
   ∃ r0 : Bool, SC P 51 [.one (.int .i64 n), .one (.int .i64 0), .one (.int .i64 30)] [] [.one (.bool r0)] [] ∧
    Ret r lh [.one (.bool r0)] []) := by kernel_rfl
theorem c87 (n : Int) : SC P 87 [.one (.int .i64 n)] [] [.one (.bool (inB n 0 30))] [] := by
  refine SC_of_FB (H := H87) E_ok Try.func87 (by kernel_rfl) ?_
  rw [eq87]
  exact ⟨_, c51 _ _ _, rfl, rfl⟩
/-! loop.example/keelson/impl.FieldOk -/
def H61 : Hint := ⟨[], [], [], [], [], [], []⟩
theorem eq61 (n : Int) (r : List W) (lh : Heap) : FB E H61 Try.f61 [.one (.int .i64 n)] [] r lh =
  (
   ∃ r0 : Bool, SC P 78 [.one (.int .i64 n), .one (.int .i64 0), .one (.int .i64 30)] [] [.one (.bool r0)] [] ∧
    Ret r lh [.one (.bool r0)] []) := by kernel_rfl
theorem c61 (n : Int) : SC P 61 [.one (.int .i64 n)] [] [.one (.bool (inB n 0 30))] [] := by
  refine SC_of_FB (H := H61) E_ok Try.func61 (by kernel_rfl) ?_
  rw [eq61]
  exact ⟨_, c78 _ _ _, rfl, rfl⟩

/-! loop.example/keelson/impl.elementsOk$1 -/
def H110 : Hint := ⟨[], [], [], [], [], [], []⟩
theorem eq110 (n : Int) (r : List W) (lh : Heap) : FB E H110 Try.f110 [.one (.int .i64 n)] [] r lh =
  (
   ∃ r0 : Bool, SC P 61 [.one (.int .i64 n)] [] [.one (.bool r0)] [] ∧
    Ret r lh [.one (.bool (!r0))] []) := by kernel_rfl
theorem c110 (n : Int) : SC P 110 [.one (.int .i64 n)] [] [.one (.bool (!inB n 0 30))] [] := by
  refine SC_of_FB (H := H110) E_ok Try.func110 (by kernel_rfl) ?_
  rw [eq110]
  exact ⟨_, c61 n, rfl, rfl⟩
/-! slices.IndexFunc[[]int,int] -/
def H94 : Hint := ⟨[[(0, 0, .bool), (1, 0, .bool), (7, 0, .bool), (8, 0, .bool)]], [], [], [], [], [], []⟩
def S94_L0 (s0 : List Int) (x7 : Int) (x8 : Int) : St := ⟨[(0, .w (.one (.ro (.int .i64) s0))), (1, .w (.one (.fn 110 []))), (7, .w (.one (.int .i64 x7))), (8, .w (.one (.int .i64 x8)))], []⟩
theorem eq94 (l : List Int) (r : List W) (lh : Heap) : FB E H94 Try.f94 [.one (.ro (.int .i64) l), .one (.fn 110 [])] [] r lh =
  (
   FL E H94 Try.f94 0 r lh 0 (S94_L0 l ((l.length : Nat) : Int) 0)) := by kernel_rfl
theorem eq94_L0 (s0 : List Int) (x7 : Int) (x8 : Int) (r : List W) (lh : Heap) : FL1 E H94 Try.f94 0 r lh 0 (S94_L0 s0 x7 x8) =
  (
   Br (decide (x8 < x7)) (
    Ck (decide ((0 : Int) ≤ x8)) (
     Ck (decide (x8 < ((s0.length : Nat) : Int))) (
      ∃ r0 : Bool, SC P 110 [.one (.int .i64 (s0.getD x8.toNat 0))] [] [.one (.bool r0)] [] ∧
       Br r0 (
        Ret r lh [.one (.int .i64 x8)] []) (
        FL E H94 Try.f94 0 r lh 0 (S94_L0 s0 x7 (IntKind.wrap .i64 (x8 + 1))))))) (
    Ret r lh [.one (.int .i64 (-1))] [])) := by kernel_rfl
theorem l94 (l : List Int) (hl : l.length ≤ 1048576) : ∀ (n i : Nat), i + n = l.length → FL E H94 Try.f94 0 [.one (.int .i64 (findR (fun j => !inB (l.getD j 0) 0 30) (fun j => (j : Int)) (-1) i n))] [] 0 (S94_L0 l (l.length : Int) (i : Int))
  | 0, i, h => by
    refine FL_of1 ?_
    rw [eq94_L0]
    exact Br_f (by omega) ⟨rfl, rfl⟩
  | n + 1, i, h => by
    refine FL_of1 ?_
    rw [eq94_L0, wS (by omega), findR]
    simp only [Int.toNat_natCast]
    refine Br_t (by omega) (Ck_d (by omega) (Ck_d (by omega) ⟨_, c110 _, Br_b (fun h1 => ?_) (fun h1 => ?_)⟩))
    · exact ⟨by rw [cond_t h1], rfl⟩
    · rw [cond_f h1]
      exact l94 l hl n (i + 1) (by omega)
theorem c94 (l : List Int) (hl : l.length ≤ 1048576) : SC P 94 [.one (.ro (.int .i64) l), .one (.fn 110 [])] [] [.one (.int .i64 (findR (fun j => !inB (l.getD j 0) 0 30) (fun j => (j : Int)) (-1) 0 l.length))] [] := by
  refine SC_of_FB (H := H94) E_ok Try.func94 (by kernel_rfl) ?_
  rw [eq94]
  exact l94 l hl l.length 0 (by omega)

/-! slices.ContainsFunc[[]int,int] -/
def H62 : Hint := ⟨[], [], [], [], [], [], []⟩
theorem eq62 (l : List Int) (r : List W) (lh : Heap) : FB E H62 Try.f62 [.one (.ro (.int .i64) l), .one (.fn 110 [])] [] r lh =
  (
   ∃ r0 : Int, SC P 94 [.one (.ro (.int .i64) l), .one (.fn 110 [])] [] [.one (.int .i64 r0)] [] ∧
    Ret r lh [.one (.bool (decide ((0 : Int) ≤ r0)))] []) := by kernel_rfl
theorem c62 (l : List Int) (hl : l.length ≤ 1048576) : SC P 62 [.one (.ro (.int .i64) l), .one (.fn 110 [])] [] [.one (.bool (l.any fun n => !inB n 0 30))] [] := by
  refine SC_of_FB (H := H62) E_ok Try.func62 (by kernel_rfl) ?_
  rw [eq62]
  exact ⟨_, c94 l hl, by rw [findR_any (fun n => !inB n 0 30) l 0], rfl⟩
/-! loop.example/keelson/impl.elementsOk -/
def H89 : Hint := ⟨[], [], [], [], [], [], []⟩
theorem eq89 (list : List Int) (many : Int) (r : List W) (lh : Heap) : FB E H89 Try.f89 [.one (.ro (.int .i64) list), .one (.int .i64 many)] [] r lh =
  (
   Br (decide (((list.length : Nat) : Int) = many)) (
    ∃ r0 : Bool, SC P 62 [.one (.ro (.int .i64) list), .one (.fn 110 [])] [] [.one (.bool r0)] [] ∧
     Ret r lh [.one (.bool (!r0))] []) (
    Ret r lh [.one (.bool false)] [])) := by kernel_rfl
theorem c89 (l : List Int) (many : Int) (hl : l.length ≤ 1048576) : SC P 89 [.one (.ro (.int .i64) l), .one (.int .i64 many)] [] [.one (.bool (decide ((l.length : Int) = many) && l.all (fun n => inB n 0 30)))] [] := by
  refine SC_of_FB (H := H89) E_ok Try.func89 (by kernel_rfl) ?_
  rw [eq89]
  refine Br_d (fun h => ⟨_, c62 l hl, ?_, rfl⟩) (fun h => ⟨by rw [decide_eq_false h, Bool.false_and], rfl⟩)
  rw [decide_eq_true h, Bool.true_and]
  congr 3
  rw [List.any_eq_not_all_not]
  simp
/-! loop.example/keelson/impl.vectorOf -/
def H53 : Hint := ⟨[[(2, 0, .bool), (4, 0, .bool), (11, 0, .bool), (12, 0, .bool), (13, 0, .bool)]], [], [], [], [], [], []⟩
def S53_L0 (x11 : List Int) (x12 : Int) (x13 : Int) (h0 : List Int) (h1 : List Int) : St := ⟨[(2, .w (.one (.ptr 0 0 0))), (4, .w (.one (.ptr 1 0 0))), (11, .w (.one (.ro (.int .i64) x11))), (12, .w (.one (.int .i64 x12))), (13, .w (.one (.int .i64 x13)))], [.row (.int .i64) h0 .var, .row (.int .i64) h1 .var]⟩
theorem eq53 (v : List Int) (r : List W) (lh : Heap) : FB E H53 Try.f53 [.one (.ro (.int .i64) v)] [] r lh =
  (
   ∃ r0 : Bool, SC P 89 [.one (.ro (.int .i64) v), .one (.int .i64 4)] [] [.one (.bool r0)] [] ∧
    Br (!r0) (
     Ret r lh [.agg [.int .i64 0, .int .i64 0, .int .i64 0, .int .i64 0], .one (.bool false)] []) (
     FL E H53 Try.f53 0 r lh 0 (S53_L0 v ((v.length : Nat) : Int) 0 [0, 0, 0, 0] [0, 0, 0, 0]))) := by kernel_rfl
theorem eq53_L0 (x11 : List Int) (x12 : Int) (x13 : Int) (h0 : List Int) (h1 : List Int) (r : List W) (lh : Heap) : FL1 E H53 Try.f53 0 r lh 0 (S53_L0 x11 x12 x13 h0 h1) =
  (
   Br (decide (x13 < x12)) (
    Ck (decide ((0 : Int) ≤ x13)) (
     Ck (decide (x13 < ((x11.length : Nat) : Int))) (
      Ck (decide ((0 : Int) ≤ x13)) (
       Ck (decide (x13 < (4 : Int))) (
        Ck (Nat.ble ((0 + (x13.toNat * 1)) + 1) h1.length) (
         FL E H53 Try.f53 0 r lh 0 (S53_L0 x11 x12 (IntKind.wrap .i64 (x13 + 1)) h0 (h1.set (0 + (x13.toNat * 1)) (x11.getD x13.toNat 0))))))))) (
    Ck (Nat.ble 4 h1.length) (
     Ck (Nat.ble 4 h0.length) (
      Ck (Nat.ble 4 (((((h0.set 0 (h1.getD 0 0)).set 1 (h1.getD 1 0)).set 2 (h1.getD 2 0)).set 3 (h1.getD 3 0)).length)) (
       Ret r lh [.agg [.int .i64 (((((h0.set 0 (h1.getD 0 0)).set 1 (h1.getD 1 0)).set 2 (h1.getD 2 0)).set 3 (h1.getD 3 0)).getD 0 0), .int .i64 (((((h0.set 0 (h1.getD 0 0)).set 1 (h1.getD 1 0)).set 2 (h1.getD 2 0)).set 3 (h1.getD 3 0)).getD 1 0), .int .i64 (((((h0.set 0 (h1.getD 0 0)).set 1 (h1.getD 1 0)).set 2 (h1.getD 2 0)).set 3 (h1.getD 3 0)).getD 2 0), .int .i64 (((((h0.set 0 (h1.getD 0 0)).set 1 (h1.getD 1 0)).set 2 (h1.getD 2 0)).set 3 (h1.getD 3 0)).getD 3 0)], .one (.bool true)] []))))) := by kernel_rfl
theorem l53 (v : V4) : FL E H53 Try.f53 0 [.agg [.int .i64 v.1, .int .i64 v.2.1, .int .i64 v.2.2.1, .int .i64 v.2.2.2], .one (.bool true)] [] 0 (S53_L0 v.l 4 0 [0, 0, 0, 0] [0, 0, 0, 0]) := by
  have step : ∀ (i : Nat) (h1 : List Int), i < 4 → h1.length = 4 → FL E H53 Try.f53 0 [.agg [.int .i64 v.1, .int .i64 v.2.1, .int .i64 v.2.2.1, .int .i64 v.2.2.2], .one (.bool true)] [] 0 (S53_L0 v.l 4 ((i + 1 : Nat) : Int) [0, 0, 0, 0] (h1.set i (v.l.getD i 0))) →
      FL E H53 Try.f53 0 [.agg [.int .i64 v.1, .int .i64 v.2.1, .int .i64 v.2.2.1, .int .i64 v.2.2.2], .one (.bool true)] [] 0 (S53_L0 v.l 4 (i : Int) [0, 0, 0, 0] h1) := by
    intro i h1 hi hl hF
    refine FL_of1 ?_
    rw [eq53_L0, wS (by omega)]
    simp only [Int.toNat_natCast, Nat.zero_add, Nat.mul_one]
    exact Br_t (by omega) (Ck_d (by omega) (Ck_d (by simp [V4.l]; omega) (Ck_d (by omega) (Ck_d (by omega) (Ck_le (by omega) hF)))))
  refine step 0 _ (by omega) rfl (step 1 _ (by omega) rfl (step 2 _ (by omega) rfl (step 3 _ (by omega) rfl ?_)))
  refine FL_of1 ?_
  rw [eq53_L0]
  exact Br_f (by simp) (Ck_le (by simp) (Ck_le (by simp) (Ck_le (by simp) ⟨rfl, rfl⟩)))
theorem c53 (l : List Int) (hl : l.length ≤ 1048576) : SC P 53 [.one (.ro (.int .i64) l)] [] [.agg [.int .i64 (vecF l).1, .int .i64 (vecF l).2.1, .int .i64 (vecF l).2.2.1, .int .i64 (vecF l).2.2.2], .one (.bool (vecOk l))] [] := by
  refine SC_of_FB (H := H53) E_ok Try.func53 (by kernel_rfl) ?_
  rw [eq53]
  have e : (decide ((l.length : Int) = 4) && l.all (fun n => inB n 0 30)) = vecOk l := by
    rw [vecOk]
    congr 1
    exact decide_eq_decide.2 (by omega)
  refine ⟨_, c89 l 4 hl, ?_⟩
  rw [e]
  refine Br_nb (fun h => ⟨by rw [vecF, h]; rfl, rfl⟩) (fun h => ?_)
  obtain ⟨v, hv, rfl⟩ := vecOk_v h
  rw [h, vecF_l hv]
  exact l53 v
/-! loop.example/keelson/impl.elementOf -/
def H133 : Hint := ⟨[], [], [], [], [], [], []⟩
theorem eq133 (n : Int) (r : List W) (lh : Heap) : FB E H133 Try.f133 [.one (.int .i64 n)] [] r lh =
  (
   Ret r lh [.one (.int .i64 (Int.tmod (IntKind.wrap .i64 ((Int.tmod n 31) + 31)) 31))] []) := by kernel_rfl
theorem c133 (n : Int) : SC P 133 [.one (.int .i64 n)] [] [.one (.int .i64 (n % 31))] [] := by
  refine SC_of_FB (H := H133) E_ok Try.func133 (by kernel_rfl) ?_
  rw [eq133]
  have h1 := Int.tmod_lt_of_pos n (show (0 : Int) < 31 by omega)
  have h2 : -31 < n.tmod 31 := by
    have := Int.lt_tmod_of_pos n (show (0 : Int) < 31 by omega)
    omega
  rw [wrap64 (by omega) (by omega)]
  refine ⟨?_, rfl⟩
  congr 3
  rw [Int.tmod_eq_emod_of_nonneg (show 0 ≤ n.tmod 31 + 31 by omega)]
  have h3 := Int.mul_tdiv_add_tmod n 31
  omega
/-! (loop.example/keelson/impl.element).plus -/
def H114 : Hint := ⟨[], [], [], [], [], [], []⟩
theorem eq114 (a : Int) (b : Int) (r : List W) (lh : Heap) : FB E H114 Try.f114 [.one (.int .i64 a), .one (.int .i64 b)] [] r lh =
  (
   ∃ r0 : Int, SC P 133 [.one (.int .i64 (IntKind.wrap .i64 (a + b)))] [] [.one (.int .i64 r0)] [] ∧
    Ret r lh [.one (.int .i64 r0)] []) := by kernel_rfl
theorem c114 (a b : Int) (ha : FOk a) (hb : FOk b) : SC P 114 [.one (.int .i64 a), .one (.int .i64 b)] [] [.one (.int .i64 ((a + b) % 31))] [] := by
  refine SC_of_FB (H := H114) E_ok Try.func114 (by kernel_rfl) ?_
  rw [eq114]
  have := ha.1; have := ha.2; have := hb.1; have := hb.2
  rw [wrap64 (by omega) (by omega)]
  exact ⟨_, c133 _, rfl, rfl⟩
/-! (loop.example/keelson/impl.element).times -/
def H115 : Hint := ⟨[], [], [], [], [], [], []⟩
theorem eq115 (a : Int) (b : Int) (r : List W) (lh : Heap) : FB E H115 Try.f115 [.one (.int .i64 a), .one (.int .i64 b)] [] r lh =
  (
   ∃ r0 : Int, SC P 133 [.one (.int .i64 (IntKind.wrap .i64 (a * b)))] [] [.one (.int .i64 r0)] [] ∧
    Ret r lh [.one (.int .i64 r0)] []) := by kernel_rfl
theorem c115 (a b : Int) (ha : FOk a) (hb : FOk b) : SC P 115 [.one (.int .i64 a), .one (.int .i64 b)] [] [.one (.int .i64 (a * b % 31))] [] := by
  refine SC_of_FB (H := H115) E_ok Try.func115 (by kernel_rfl) ?_
  rw [eq115]
  have := fok_mul ha hb
  rw [wrap64 (by omega) (by omega)]
  exact ⟨_, c133 _, rfl, rfl⟩
/-! (loop.example/keelson/impl.vector).list -/
def H118 : Hint := ⟨[[(3, 0, .bool), (7, 0, .bool), (8, 0, .bool)]], [], [], [], [], [], []⟩
def S118_L0 (x7_0 : Int) (x7_1 : Int) (x7_2 : Int) (x7_3 : Int) (x8 : Int) (h0 : List Int) : St := ⟨[(3, .w (.one (.sl 0 none))), (7, .w (.agg [.int .i64 x7_0, .int .i64 x7_1, .int .i64 x7_2, .int .i64 x7_3])), (8, .w (.one (.int .i64 x8)))], [.row (.int .i64) h0 .own]⟩
theorem eq118 (v : (Int × (Int × (Int × Int)))) (r : List W) (lh : Heap) : FB E H118 Try.f118 [.agg [.int .i64 v.1, .int .i64 v.2.1, .int .i64 v.2.2.1, .int .i64 v.2.2.2]] [] r lh =
  (
   FL E H118 Try.f118 0 r lh 0 (S118_L0 v.1 v.2.1 v.2.2.1 v.2.2.2 0 [])) := by kernel_rfl
theorem eq118_L0 (x7_0 : Int) (x7_1 : Int) (x7_2 : Int) (x7_3 : Int) (x8 : Int) (h0 : List Int) (r : List W) (lh : Heap) : FL1 E H118 Try.f118 0 r lh 0 (S118_L0 x7_0 x7_1 x7_2 x7_3 x8 h0) =
  (
   Br (decide (x8 < (4 : Int))) (
    Ck (decide ((0 : Int) ≤ x8)) (
     Ck (decide (x8 < (4 : Int))) (
      Ck (Nat.ble ((h0.length + 1) * 8) roomy) (
       FL E H118 Try.f118 0 r lh 0 (S118_L0 x7_0 x7_1 x7_2 x7_3 (IntKind.wrap .i64 (x8 + 1)) (h0 ++ [([x7_0, x7_1, x7_2, x7_3].getD x8.toNat 0)])))))) (
    Ret r lh [.one (.sl 0 none)] [.row (.int .i64) h0 .own])) := by kernel_rfl
theorem c118 (v : V4) : SC P 118 [.agg [.int .i64 v.1, .int .i64 v.2.1, .int .i64 v.2.2.1, .int .i64 v.2.2.2]] [] [.one (.sl 0 none)] [.row (.int .i64) v.l .own] := by
  refine SC_of_FB (H := H118) E_ok Try.func118 (by kernel_rfl) ?_
  rw [eq118]
  have step : ∀ (i : Nat) (out : List Int), i < 4 → out.length ≤ 4 → FL E H118 Try.f118 0 [.one (.sl 0 none)] [.row (.int .i64) v.l .own] 0 (S118_L0 v.1 v.2.1 v.2.2.1 v.2.2.2 ((i + 1 : Nat) : Int) (out ++ [[v.1, v.2.1, v.2.2.1, v.2.2.2].getD i 0])) →
      FL E H118 Try.f118 0 [.one (.sl 0 none)] [.row (.int .i64) v.l .own] 0 (S118_L0 v.1 v.2.1 v.2.2.1 v.2.2.2 (i : Int) out) := by
    intro i out hi ho hF
    refine FL_of1 ?_
    rw [eq118_L0, wS (by omega)]
    simp only [Int.toNat_natCast]
    exact Br_t (by omega) (Ck_d (by omega) (Ck_d (by omega) (Ck_room (by omega) hF)))
  refine step 0 _ (by omega) (by simp) (step 1 _ (by omega) (by simp) (step 2 _ (by omega) (by simp) (step 3 _ (by omega) (by simp) ?_)))
  refine FL_of1 ?_
  rw [eq118_L0]
  exact Br_f (by simp) ⟨rfl, rfl⟩

/-! (loop.example/keelson/impl.vector).plus -/
def H113 : Hint := ⟨[[(2, 0, .bool), (3, 0, .bool), (4, 0, .bool), (6, 0, .bool)]], [], [(4, [0, 1, 2, 3, 4, 5, 6, 7, 8, 9])], [], [], [], []⟩
def S113_L0 (x6 : Int) (h0 : List Int) (h1 : List Int) (h2 : List Int) : St := ⟨[(2, .w (.one (.ptr 0 0 0))), (3, .w (.one (.ptr 1 0 0))), (4, .w (.one (.ptr 2 0 0))), (6, .w (.one (.int .i64 x6)))], [.row (.int .i64) h0 .var, .row (.int .i64) h1 .var, .row (.int .i64) h2 .var]⟩
theorem eq113 (v : (Int × (Int × (Int × Int)))) (u : (Int × (Int × (Int × Int)))) (r : List W) (lh : Heap) : FB E H113 Try.f113 [.agg [.int .i64 v.1, .int .i64 v.2.1, .int .i64 v.2.2.1, .int .i64 v.2.2.2], .agg [.int .i64 u.1, .int .i64 u.2.1, .int .i64 u.2.2.1, .int .i64 u.2.2.2]] [] r lh =
  (
   FL E H113 Try.f113 0 r lh 0 (S113_L0 0 [v.1, v.2.1, v.2.2.1, v.2.2.2] [u.1, u.2.1, u.2.2.1, u.2.2.2] [0, 0, 0, 0])) := by kernel_rfl
theorem eq113_L0 (x6 : Int) (h0 : List Int) (h1 : List Int) (h2 : List Int) (r : List W) (lh : Heap) : FL1 E H113 Try.f113 0 r lh 0 (S113_L0 x6 h0 h1 h2) =
  (
   Br (decide (x6 < (4 : Int))) (
    Ck (decide ((0 : Int) ≤ x6)) (
     Ck (decide (x6 < (4 : Int))) (
      Ck (Nat.ble ((0 + (x6.toNat * 1)) + 1) h0.length) (
       Ck (decide ((0 : Int) ≤ x6)) (
        Ck (decide (x6 < (4 : Int))) (
         Ck (Nat.ble ((0 + (x6.toNat * 1)) + 1) h1.length) (
          ∃ r0 : Int, SC P 114 [.one (.int .i64 (h0.getD (0 + (x6.toNat * 1)) 0)), .one (.int .i64 (h1.getD (0 + (x6.toNat * 1)) 0))] [] [.one (.int .i64 r0)] [] ∧
           Ck (decide ((0 : Int) ≤ x6)) (
            Ck (decide (x6 < (4 : Int))) (
             Ck (Nat.ble ((0 + (x6.toNat * 1)) + 1) h0.length) (
              FL E H113 Try.f113 0 r lh 0 (S113_L0 (IntKind.wrap .i64 (x6 + 1)) (h0.set (0 + (x6.toNat * 1)) r0) h1 h2))))))))))) (
    Ck (Nat.ble 4 h0.length) (
     Ck (Nat.ble 4 h2.length) (
      Ck (Nat.ble 4 (((((h2.set 0 (h0.getD 0 0)).set 1 (h0.getD 1 0)).set 2 (h0.getD 2 0)).set 3 (h0.getD 3 0)).length)) (
       Ret r lh [.agg [.int .i64 (((((h2.set 0 (h0.getD 0 0)).set 1 (h0.getD 1 0)).set 2 (h0.getD 2 0)).set 3 (h0.getD 3 0)).getD 0 0), .int .i64 (((((h2.set 0 (h0.getD 0 0)).set 1 (h0.getD 1 0)).set 2 (h0.getD 2 0)).set 3 (h0.getD 3 0)).getD 1 0), .int .i64 (((((h2.set 0 (h0.getD 0 0)).set 1 (h0.getD 1 0)).set 2 (h0.getD 2 0)).set 3 (h0.getD 3 0)).getD 2 0), .int .i64 (((((h2.set 0 (h0.getD 0 0)).set 1 (h0.getD 1 0)).set 2 (h0.getD 2 0)).set 3 (h0.getD 3 0)).getD 3 0)]] []))))) := by kernel_rfl
theorem c113 (v u : V4) (hv : VOk v) (hu : VOk u) : SC P 113 [.agg [.int .i64 v.1, .int .i64 v.2.1, .int .i64 v.2.2.1, .int .i64 v.2.2.2], .agg [.int .i64 u.1, .int .i64 u.2.1, .int .i64 u.2.2.1, .int .i64 u.2.2.2]] [] [.agg [.int .i64 (vplus v u).1, .int .i64 (vplus v u).2.1, .int .i64 (vplus v u).2.2.1, .int .i64 (vplus v u).2.2.2]] [] := by
  refine SC_of_FB (H := H113) E_ok Try.func113 (by kernel_rfl) ?_
  rw [eq113]
  have step : ∀ (i : Nat) (h0 : List Int), i < 4 → h0.length = 4 → h0.getD i 0 = v.l.getD i 0 → FL E H113 Try.f113 0 [.agg [.int .i64 (vplus v u).1, .int .i64 (vplus v u).2.1, .int .i64 (vplus v u).2.2.1, .int .i64 (vplus v u).2.2.2]] [] 0 (S113_L0 ((i + 1 : Nat) : Int) (h0.set i ((v.l.getD i 0 + u.l.getD i 0) % 31)) u.l [0, 0, 0, 0]) →
      FL E H113 Try.f113 0 [.agg [.int .i64 (vplus v u).1, .int .i64 (vplus v u).2.1, .int .i64 (vplus v u).2.2.1, .int .i64 (vplus v u).2.2.2]] [] 0 (S113_L0 (i : Int) h0 u.l [0, 0, 0, 0]) := by
    intro i h0 hi hl he hF
    have hul : u.l.length = 4 := rfl
    refine FL_of1 ?_
    rw [eq113_L0, wS (by omega)]
    simp only [Int.toNat_natCast, Nat.zero_add, Nat.mul_one]
    rw [he]
    exact Br_t (by omega) (Ck_d (by omega) (Ck_d (by omega) (Ck_le (by omega) (Ck_d (by omega) (Ck_d (by omega) (Ck_le (by omega) ⟨_, c114 _ _ (vok_get hv i) (vok_get hu i), Ck_d (by omega) (Ck_d (by omega) (Ck_le (by omega) hF))⟩))))))
  refine step 0 v.l (by omega) rfl rfl (step 1 _ (by omega) rfl rfl (step 2 _ (by omega) rfl rfl (step 3 _ (by omega) rfl rfl ?_)))
  refine FL_of1 ?_
  rw [eq113_L0]
  exact Br_f (by simp) (Ck_le (by simp [V4.l]) (Ck_le (by simp) (Ck_le (by simp) ⟨rfl, rfl⟩)))
/-! (loop.example/keelson/impl.vector).times -/
def H123 : Hint := ⟨[[(1, 0, .bool), (2, 0, .bool), (4, 0, .bool), (6, 0, .bool)]], [], [], [], [], [], []⟩
def S123_L0 (c1 : Int) (x6 : Int) (h0 : List Int) (h1 : List Int) : St := ⟨[(1, .w (.one (.int .i64 c1))), (2, .w (.one (.ptr 0 0 0))), (4, .w (.one (.ptr 1 0 0))), (6, .w (.one (.int .i64 x6)))], [.row (.int .i64) h0 .var, .row (.int .i64) h1 .var]⟩
theorem eq123 (v : (Int × (Int × (Int × Int)))) (c : Int) (r : List W) (lh : Heap) : FB E H123 Try.f123 [.agg [.int .i64 v.1, .int .i64 v.2.1, .int .i64 v.2.2.1, .int .i64 v.2.2.2], .one (.int .i64 c)] [] r lh =
  (
   FL E H123 Try.f123 0 r lh 0 (S123_L0 c 0 [v.1, v.2.1, v.2.2.1, v.2.2.2] [0, 0, 0, 0])) := by kernel_rfl
theorem eq123_L0 (c1 : Int) (x6 : Int) (h0 : List Int) (h1 : List Int) (r : List W) (lh : Heap) : FL1 E H123 Try.f123 0 r lh 0 (S123_L0 c1 x6 h0 h1) =
  (
   Br (decide (x6 < (4 : Int))) (
    Ck (decide ((0 : Int) ≤ x6)) (
     Ck (decide (x6 < (4 : Int))) (
      Ck (Nat.ble ((0 + (x6.toNat * 1)) + 1) h0.length) (
       ∃ r0 : Int, SC P 115 [.one (.int .i64 (h0.getD (0 + (x6.toNat * 1)) 0)), .one (.int .i64 c1)] [] [.one (.int .i64 r0)] [] ∧
        Ck (decide ((0 : Int) ≤ x6)) (
         Ck (decide (x6 < (4 : Int))) (
          Ck (Nat.ble ((0 + (x6.toNat * 1)) + 1) h0.length) (
           FL E H123 Try.f123 0 r lh 0 (S123_L0 c1 (IntKind.wrap .i64 (x6 + 1)) (h0.set (0 + (x6.toNat * 1)) r0) h1)))))))) (
    Ck (Nat.ble 4 h0.length) (
     Ck (Nat.ble 4 h1.length) (
      Ck (Nat.ble 4 (((((h1.set 0 (h0.getD 0 0)).set 1 (h0.getD 1 0)).set 2 (h0.getD 2 0)).set 3 (h0.getD 3 0)).length)) (
       Ret r lh [.agg [.int .i64 (((((h1.set 0 (h0.getD 0 0)).set 1 (h0.getD 1 0)).set 2 (h0.getD 2 0)).set 3 (h0.getD 3 0)).getD 0 0), .int .i64 (((((h1.set 0 (h0.getD 0 0)).set 1 (h0.getD 1 0)).set 2 (h0.getD 2 0)).set 3 (h0.getD 3 0)).getD 1 0), .int .i64 (((((h1.set 0 (h0.getD 0 0)).set 1 (h0.getD 1 0)).set 2 (h0.getD 2 0)).set 3 (h0.getD 3 0)).getD 2 0), .int .i64 (((((h1.set 0 (h0.getD 0 0)).set 1 (h0.getD 1 0)).set 2 (h0.getD 2 0)).set 3 (h0.getD 3 0)).getD 3 0)]] []))))) := by kernel_rfl
theorem c123 (v : V4) (c : Int) (hv : VOk v) (hc : FOk c) : SC P 123 [.agg [.int .i64 v.1, .int .i64 v.2.1, .int .i64 v.2.2.1, .int .i64 v.2.2.2], .one (.int .i64 c)] [] [.agg [.int .i64 (vtimes v c).1, .int .i64 (vtimes v c).2.1, .int .i64 (vtimes v c).2.2.1, .int .i64 (vtimes v c).2.2.2]] [] := by
  refine SC_of_FB (H := H123) E_ok Try.func123 (by kernel_rfl) ?_
  rw [eq123]
  have step : ∀ (i : Nat) (h0 : List Int), i < 4 → h0.length = 4 → h0.getD i 0 = v.l.getD i 0 → FL E H123 Try.f123 0 [.agg [.int .i64 (vtimes v c).1, .int .i64 (vtimes v c).2.1, .int .i64 (vtimes v c).2.2.1, .int .i64 (vtimes v c).2.2.2]] [] 0 (S123_L0 c ((i + 1 : Nat) : Int) (h0.set i (v.l.getD i 0 * c % 31)) [0, 0, 0, 0]) →
      FL E H123 Try.f123 0 [.agg [.int .i64 (vtimes v c).1, .int .i64 (vtimes v c).2.1, .int .i64 (vtimes v c).2.2.1, .int .i64 (vtimes v c).2.2.2]] [] 0 (S123_L0 c (i : Int) h0 [0, 0, 0, 0]) := by
    intro i h0 hi hl he hF
    refine FL_of1 ?_
    rw [eq123_L0, wS (by omega)]
    simp only [Int.toNat_natCast, Nat.zero_add, Nat.mul_one]
    rw [he]
    exact Br_t (by omega) (Ck_d (by omega) (Ck_d (by omega) (Ck_le (by omega) ⟨_, c115 _ _ (vok_get hv i) hc, Ck_d (by omega) (Ck_d (by omega) (Ck_le (by omega) hF))⟩)))
  refine step 0 v.l (by omega) rfl rfl (step 1 _ (by omega) rfl rfl (step 2 _ (by omega) rfl rfl (step 3 _ (by omega) rfl rfl ?_)))
  refine FL_of1 ?_
  rw [eq123_L0]
  exact Br_f (by simp) (Ck_le (by simp [V4.l]) (Ck_le (by simp) (Ck_le (by simp) ⟨rfl, rfl⟩)))

/-! (loop.example/keelson/impl.vector).minus -/
def H122 : Hint := ⟨[], [], [(1, [0, 1, 2, 3, 4, 5])], [], [], [], []⟩
theorem eq122 (v : (Int × (Int × (Int × Int)))) (u : (Int × (Int × (Int × Int)))) (r : List W) (lh : Heap) : FB E H122 Try.f122 [.agg [.int .i64 v.1, .int .i64 v.2.1, .int .i64 v.2.2.1, .int .i64 v.2.2.2], .agg [.int .i64 u.1, .int .i64 u.2.1, .int .i64 u.2.2.1, .int .i64 u.2.2.2]] [] r lh =
  (
   ∃ r0 : Int, SC P 133 [.one (.int .i64 (-1))] [] [.one (.int .i64 r0)] [] ∧
    ∃ r1 : Int × Int × Int × Int, SC P 123 [.agg [.int .i64 u.1, .int .i64 u.2.1, .int .i64 u.2.2.1, .int .i64 u.2.2.2], .one (.int .i64 r0)] [] [.agg [.int .i64 r1.1, .int .i64 r1.2.1, .int .i64 r1.2.2.1, .int .i64 r1.2.2.2]] [] ∧
     ∃ r2 : Int × Int × Int × Int, SC P 113 [.agg [.int .i64 v.1, .int .i64 v.2.1, .int .i64 v.2.2.1, .int .i64 v.2.2.2], .agg [.int .i64 r1.1, .int .i64 r1.2.1, .int .i64 r1.2.2.1, .int .i64 r1.2.2.2]] [] [.agg [.int .i64 r2.1, .int .i64 r2.2.1, .int .i64 r2.2.2.1, .int .i64 r2.2.2.2]] [] ∧
      Ret r lh [.agg [.int .i64 r2.1, .int .i64 r2.2.1, .int .i64 r2.2.2.1, .int .i64 r2.2.2.2]] []) := by kernel_rfl
theorem c122 (v u : V4) (hv : VOk v) (hu : VOk u) : SC P 122 [.agg [.int .i64 v.1, .int .i64 v.2.1, .int .i64 v.2.2.1, .int .i64 v.2.2.2], .agg [.int .i64 u.1, .int .i64 u.2.1, .int .i64 u.2.2.1, .int .i64 u.2.2.2]] [] [.agg [.int .i64 (vminus v u).1, .int .i64 (vminus v u).2.1, .int .i64 (vminus v u).2.2.1, .int .i64 (vminus v u).2.2.2]] [] := by
  refine SC_of_FB (H := H122) E_ok Try.func122 (by kernel_rfl) ?_
  rw [eq122]
  have s := c133 (-1)
  rw [show (-1 : Int) % 31 = 30 from rfl] at s
  exact ⟨30, s, vtimes u 30, c123 u 30 hu ⟨by omega, by omega⟩, vminus v u, c113 v _ hv (vtimes_ok u 30), rfl, rfl⟩

/-! (loop.example/keelson/impl.vector).dot -/
def H91 : Hint := ⟨[[(2, 0, .bool), (3, 0, .bool), (5, 0, .bool), (7, 0, .bool)]], [], [(5, [0, 1, 2, 3, 4, 5, 6, 7, 8, 9])], [], [], [], []⟩
def S91_L0 (sum5 : Int) (x7 : Int) (h0 : List Int) (h1 : List Int) : St := ⟨[(2, .w (.one (.ptr 0 0 0))), (3, .w (.one (.ptr 1 0 0))), (5, .w (.one (.int .i64 sum5))), (7, .w (.one (.int .i64 x7)))], [.row (.int .i64) h0 .var, .row (.int .i64) h1 .var]⟩
theorem eq91 (v : (Int × (Int × (Int × Int)))) (u : (Int × (Int × (Int × Int)))) (r : List W) (lh : Heap) : FB E H91 Try.f91 [.agg [.int .i64 v.1, .int .i64 v.2.1, .int .i64 v.2.2.1, .int .i64 v.2.2.2], .agg [.int .i64 u.1, .int .i64 u.2.1, .int .i64 u.2.2.1, .int .i64 u.2.2.2]] [] r lh =
  (
   FL E H91 Try.f91 0 r lh 0 (S91_L0 0 0 [v.1, v.2.1, v.2.2.1, v.2.2.2] [u.1, u.2.1, u.2.2.1, u.2.2.2])) := by kernel_rfl
theorem eq91_L0 (sum5 : Int) (x7 : Int) (h0 : List Int) (h1 : List Int) (r : List W) (lh : Heap) : FL1 E H91 Try.f91 0 r lh 0 (S91_L0 sum5 x7 h0 h1) =
  (
   Br (decide (x7 < (4 : Int))) (
    Ck (decide ((0 : Int) ≤ x7)) (
     Ck (decide (x7 < (4 : Int))) (
      Ck (Nat.ble ((0 + (x7.toNat * 1)) + 1) h0.length) (
       Ck (decide ((0 : Int) ≤ x7)) (
        Ck (decide (x7 < (4 : Int))) (
         Ck (Nat.ble ((0 + (x7.toNat * 1)) + 1) h1.length) (
          ∃ r0 : Int, SC P 115 [.one (.int .i64 (h0.getD (0 + (x7.toNat * 1)) 0)), .one (.int .i64 (h1.getD (0 + (x7.toNat * 1)) 0))] [] [.one (.int .i64 r0)] [] ∧
           ∃ r1 : Int, SC P 114 [.one (.int .i64 sum5), .one (.int .i64 r0)] [] [.one (.int .i64 r1)] [] ∧
            FL E H91 Try.f91 0 r lh 0 (S91_L0 r1 (IntKind.wrap .i64 (x7 + 1)) h0 h1)))))))) (
    Ret r lh [.one (.int .i64 sum5)] [])) := by kernel_rfl
theorem c91 (v u : V4) (hv : VOk v) (hu : VOk u) : SC P 91 [.agg [.int .i64 v.1, .int .i64 v.2.1, .int .i64 v.2.2.1, .int .i64 v.2.2.2], .agg [.int .i64 u.1, .int .i64 u.2.1, .int .i64 u.2.2.1, .int .i64 u.2.2.2]] [] [.one (.int .i64 (dotF v u))] [] := by
  refine SC_of_FB (H := H91) E_ok Try.func91 (by kernel_rfl) ?_
  rw [eq91]
  have step : ∀ (i : Nat) (s : Int), i < 4 → FOk s → FL E H91 Try.f91 0 [.one (.int .i64 (dotF v u))] [] 0 (S91_L0 ((s + v.l.getD i 0 * u.l.getD i 0 % 31) % 31) ((i + 1 : Nat) : Int) v.l u.l) →
      FL E H91 Try.f91 0 [.one (.int .i64 (dotF v u))] [] 0 (S91_L0 s (i : Int) v.l u.l) := by
    intro i s hi hs hF
    have hvl : v.l.length = 4 := rfl
    have hul : u.l.length = 4 := rfl
    refine FL_of1 ?_
    rw [eq91_L0, wS (by omega)]
    simp only [Int.toNat_natCast, Nat.zero_add, Nat.mul_one]
    exact Br_t (by omega) (Ck_d (by omega) (Ck_d (by omega) (Ck_le (by omega) (Ck_d (by omega) (Ck_d (by omega) (Ck_le (by omega) ⟨_, c115 _ _ (vok_get hv i) (vok_get hu i), _, c114 _ _ hs (fok_mod _), hF⟩))))))
  refine step 0 0 (by omega) ⟨by omega, by omega⟩ (step 1 _ (by omega) (fok_mod _) (step 2 _ (by omega) (fok_mod _) (step 3 _ (by omega) (fok_mod _) ?_)))
  refine FL_of1 ?_
  rw [eq91_L0]
  refine Br_f (by simp) ⟨?_, rfl⟩
  rw [dotF]
  simp only [V4.l, List.getD_cons_zero, List.getD_cons_succ]
  congr 3
  omega

def H112 : Hint := {}
theorem un_0 : SC P 112 [.one (.int .i64 0)] [] [.agg [.int .i64 1, .int .i64 0, .int .i64 0, .int .i64 0]] [] := by
  refine SC_of_FB (H := H112) E_ok Try.func112 (by kernel_rfl) ?_
  have h : FB E H112 Try.f112 [.one (.int .i64 0)] [] [.agg [.int .i64 1, .int .i64 0, .int .i64 0, .int .i64 0]] [] = Ret [.agg [.int .i64 1, .int .i64 0, .int .i64 0, .int .i64 0]] [] [.agg [.int .i64 1, .int .i64 0, .int .i64 0, .int .i64 0]] [] := by kernel_rfl
  rw [h]
  exact ⟨rfl, rfl⟩
theorem un_1 : SC P 112 [.one (.int .i64 1)] [] [.agg [.int .i64 0, .int .i64 1, .int .i64 0, .int .i64 0]] [] := by
  refine SC_of_FB (H := H112) E_ok Try.func112 (by kernel_rfl) ?_
  have h : FB E H112 Try.f112 [.one (.int .i64 1)] [] [.agg [.int .i64 0, .int .i64 1, .int .i64 0, .int .i64 0]] [] = Ret [.agg [.int .i64 0, .int .i64 1, .int .i64 0, .int .i64 0]] [] [.agg [.int .i64 0, .int .i64 1, .int .i64 0, .int .i64 0]] [] := by kernel_rfl
  rw [h]
  exact ⟨rfl, rfl⟩
theorem un_2 : SC P 112 [.one (.int .i64 2)] [] [.agg [.int .i64 0, .int .i64 0, .int .i64 1, .int .i64 0]] [] := by
  refine SC_of_FB (H := H112) E_ok Try.func112 (by kernel_rfl) ?_
  have h : FB E H112 Try.f112 [.one (.int .i64 2)] [] [.agg [.int .i64 0, .int .i64 0, .int .i64 1, .int .i64 0]] [] = Ret [.agg [.int .i64 0, .int .i64 0, .int .i64 1, .int .i64 0]] [] [.agg [.int .i64 0, .int .i64 0, .int .i64 1, .int .i64 0]] [] := by kernel_rfl
  rw [h]
  exact ⟨rfl, rfl⟩
theorem un_3 : SC P 112 [.one (.int .i64 3)] [] [.agg [.int .i64 0, .int .i64 0, .int .i64 0, .int .i64 1]] [] := by
  refine SC_of_FB (H := H112) E_ok Try.func112 (by kernel_rfl) ?_
  have h : FB E H112 Try.f112 [.one (.int .i64 3)] [] [.agg [.int .i64 0, .int .i64 0, .int .i64 0, .int .i64 1]] [] = Ret [.agg [.int .i64 0, .int .i64 0, .int .i64 0, .int .i64 1]] [] [.agg [.int .i64 0, .int .i64 0, .int .i64 0, .int .i64 1]] [] := by kernel_rfl
  rw [h]
  exact ⟨rfl, rfl⟩
theorem c112 (i : Int) (h0 : 0 ≤ i) (h1 : i ≤ 3) : SC P 112 [.one (.int .i64 i)] [] [.agg [.int .i64 (unitF i).1, .int .i64 (unitF i).2.1, .int .i64 (unitF i).2.2.1, .int .i64 (unitF i).2.2.2]] [] := by
  have : i = 0 ∨ i = 1 ∨ i = 2 ∨ i = 3 := by omega
  rcases this with rfl | rfl | rfl | rfl
  · exact un_0
  · exact un_1
  · exact un_2
  · exact un_3

/-! loop.example/keelson/impl.powers -/
def H111 : Hint := ⟨[[(0, 0, .bool), (2, 0, .bool), (3, 0, .bool), (4, 0, .bool)]], [], [], [], [], [], []⟩
def S111_L0 (x0 : Int) (i4 : Int) (h0 : List Int) (h1 : List Int) : St := ⟨[(0, .w (.one (.int .i64 x0))), (2, .w (.one (.ptr 0 0 0))), (3, .w (.one (.ptr 1 0 0))), (4, .w (.one (.int .i64 i4)))], [.row (.int .i64) h0 .var, .row (.int .i64) h1 .var]⟩
theorem eq111 (x : Int) (r : List W) (lh : Heap) : FB E H111 Try.f111 [.one (.int .i64 x)] [] r lh =
  (
   FL E H111 Try.f111 0 r lh 0 (S111_L0 x 1 [0, 0, 0, 0] [1, 0, 0, 0])) := by kernel_rfl
theorem eq111_L0 (x0 : Int) (i4 : Int) (h0 : List Int) (h1 : List Int) (r : List W) (lh : Heap) : FL1 E H111 Try.f111 0 r lh 0 (S111_L0 x0 i4 h0 h1) =
  (
   Br (decide (i4 < (4 : Int))) (
    Ck (decide ((0 : Int) ≤ (IntKind.wrap .i64 (i4 - 1)))) (
     Ck (decide ((IntKind.wrap .i64 (i4 - 1)) < (4 : Int))) (
      Ck (Nat.ble ((0 + ((IntKind.wrap .i64 (i4 - 1)).toNat * 1)) + 1) h1.length) (
       ∃ r0 : Int, SC P 115 [.one (.int .i64 (h1.getD (0 + ((IntKind.wrap .i64 (i4 - 1)).toNat * 1)) 0)), .one (.int .i64 x0)] [] [.one (.int .i64 r0)] [] ∧
        Ck (decide ((0 : Int) ≤ i4)) (
         Ck (decide (i4 < (4 : Int))) (
          Ck (Nat.ble ((0 + (i4.toNat * 1)) + 1) h1.length) (
           FL E H111 Try.f111 0 r lh 0 (S111_L0 x0 (IntKind.wrap .i64 (i4 + 1)) h0 (h1.set (0 + (i4.toNat * 1)) r0))))))))) (
    Ck (Nat.ble 4 h1.length) (
     Ck (Nat.ble 4 h0.length) (
      Ck (Nat.ble 4 (((((h0.set 0 (h1.getD 0 0)).set 1 (h1.getD 1 0)).set 2 (h1.getD 2 0)).set 3 (h1.getD 3 0)).length)) (
       Ret r lh [.agg [.int .i64 (((((h0.set 0 (h1.getD 0 0)).set 1 (h1.getD 1 0)).set 2 (h1.getD 2 0)).set 3 (h1.getD 3 0)).getD 0 0), .int .i64 (((((h0.set 0 (h1.getD 0 0)).set 1 (h1.getD 1 0)).set 2 (h1.getD 2 0)).set 3 (h1.getD 3 0)).getD 1 0), .int .i64 (((((h0.set 0 (h1.getD 0 0)).set 1 (h1.getD 1 0)).set 2 (h1.getD 2 0)).set 3 (h1.getD 3 0)).getD 2 0), .int .i64 (((((h0.set 0 (h1.getD 0 0)).set 1 (h1.getD 1 0)).set 2 (h1.getD 2 0)).set 3 (h1.getD 3 0)).getD 3 0)]] []))))) := by kernel_rfl
theorem c111 (x : Int) (hx : FOk x) : SC P 111 [.one (.int .i64 x)] [] [.agg [.int .i64 (powF x).1, .int .i64 (powF x).2.1, .int .i64 (powF x).2.2.1, .int .i64 (powF x).2.2.2]] [] := by
  refine SC_of_FB (H := H111) E_ok Try.func111 (by kernel_rfl) ?_
  rw [eq111]
  have step : ∀ (i : Nat) (h1 : List Int), i < 3 → h1.length = 4 → FOk (h1.getD i 0) → FL E H111 Try.f111 0 [.agg [.int .i64 (powF x).1, .int .i64 (powF x).2.1, .int .i64 (powF x).2.2.1, .int .i64 (powF x).2.2.2]] [] 0 (S111_L0 x ((i + 1 + 1 : Nat) : Int) [0, 0, 0, 0] (h1.set (i + 1) (h1.getD i 0 * x % 31))) →
      FL E H111 Try.f111 0 [.agg [.int .i64 (powF x).1, .int .i64 (powF x).2.1, .int .i64 (powF x).2.2.1, .int .i64 (powF x).2.2.2]] [] 0 (S111_L0 x ((i + 1 : Nat) : Int) [0, 0, 0, 0] h1) := by
    intro i h1 hi hl hok hF
    refine FL_of1 ?_
    rw [eq111_L0, wS (by omega), wP (by omega)]
    simp only [Int.toNat_natCast, Nat.zero_add, Nat.mul_one]
    exact Br_t (by omega) (Ck_d (by omega) (Ck_d (by omega) (Ck_le (by omega) ⟨_, c115 _ _ hok hx, Ck_d (by omega) (Ck_d (by omega) (Ck_le (by omega) hF))⟩)))
  refine step 0 _ (by omega) rfl ⟨by simp, by simp⟩ (step 1 _ (by omega) rfl (fok_mod _) (step 2 _ (by omega) rfl (fok_mod _) ?_))
  refine FL_of1 ?_
  rw [eq111_L0]
  exact Br_f (by simp) (Ck_le (by simp) (Ck_le (by simp) (Ck_le (by simp) ⟨rfl, rfl⟩)))

/-! loop.example/keelson/impl.rowOf -/
def H90 : Hint := ⟨[], [], [], [], [], [], []⟩
theorem eq90 (kind : Int) (at0 : Int) (r : List W) (lh : Heap) : FB E H90 Try.f90 [.one (.int .i64 kind), .one (.int .i64 at0)] [] r lh =
  (
   Br (decide (kind = (2 : Int))) (
    ∃ r0 : Int × Int × Int × Int, SC P 111 [.one (.int .i64 (IntKind.wrap .i64 (at0 + 1)))] [] [.agg [.int .i64 r0.1, .int .i64 r0.2.1, .int .i64 r0.2.2.1, .int .i64 r0.2.2.2]] [] ∧
     Ret r lh [.agg [.int .i64 r0.1, .int .i64 r0.2.1, .int .i64 r0.2.2.1, .int .i64 r0.2.2.2]] []) (
    Br (decide (at0 < (4 : Int))) (
     ∃ r1 : Int × Int × Int × Int, SC P 112 [.one (.int .i64 at0)] [] [.agg [.int .i64 r1.1, .int .i64 r1.2.1, .int .i64 r1.2.2.1, .int .i64 r1.2.2.2]] [] ∧
      Ret r lh [.agg [.int .i64 r1.1, .int .i64 r1.2.1, .int .i64 r1.2.2.1, .int .i64 r1.2.2.2]] []) (
     Br (decide (at0 = (4 : Int))) (
      ∃ r2 : Int × Int × Int × Int, SC P 112 [.one (.int .i64 0)] [] [.agg [.int .i64 r2.1, .int .i64 r2.2.1, .int .i64 r2.2.2.1, .int .i64 r2.2.2.2]] [] ∧
       ∃ r3 : Int × Int × Int × Int, SC P 112 [.one (.int .i64 1)] [] [.agg [.int .i64 r3.1, .int .i64 r3.2.1, .int .i64 r3.2.2.1, .int .i64 r3.2.2.2]] [] ∧
        ∃ r4 : Int × Int × Int × Int, SC P 113 [.agg [.int .i64 r2.1, .int .i64 r2.2.1, .int .i64 r2.2.2.1, .int .i64 r2.2.2.2], .agg [.int .i64 r3.1, .int .i64 r3.2.1, .int .i64 r3.2.2.1, .int .i64 r3.2.2.2]] [] [.agg [.int .i64 r4.1, .int .i64 r4.2.1, .int .i64 r4.2.2.1, .int .i64 r4.2.2.2]] [] ∧
         Ret r lh [.agg [.int .i64 r4.1, .int .i64 r4.2.1, .int .i64 r4.2.2.1, .int .i64 r4.2.2.2]] []) (
      Br (decide (at0 = (5 : Int))) (
       ∃ r5 : Int × Int × Int × Int, SC P 112 [.one (.int .i64 2)] [] [.agg [.int .i64 r5.1, .int .i64 r5.2.1, .int .i64 r5.2.2.1, .int .i64 r5.2.2.2]] [] ∧
        ∃ r6 : Int × Int × Int × Int, SC P 112 [.one (.int .i64 3)] [] [.agg [.int .i64 r6.1, .int .i64 r6.2.1, .int .i64 r6.2.2.1, .int .i64 r6.2.2.2]] [] ∧
         ∃ r7 : Int × Int × Int × Int, SC P 113 [.agg [.int .i64 r5.1, .int .i64 r5.2.1, .int .i64 r5.2.2.1, .int .i64 r5.2.2.2], .agg [.int .i64 r6.1, .int .i64 r6.2.1, .int .i64 r6.2.2.1, .int .i64 r6.2.2.2]] [] [.agg [.int .i64 r7.1, .int .i64 r7.2.1, .int .i64 r7.2.2.1, .int .i64 r7.2.2.2]] [] ∧
          Ret r lh [.agg [.int .i64 r7.1, .int .i64 r7.2.1, .int .i64 r7.2.2.1, .int .i64 r7.2.2.2]] []) (
       ∃ r8 : Int × Int × Int × Int, SC P 111 [.one (.int .i64 (IntKind.wrap .i64 (at0 - 4)))] [] [.agg [.int .i64 r8.1, .int .i64 r8.2.1, .int .i64 r8.2.2.1, .int .i64 r8.2.2.2]] [] ∧
        Ret r lh [.agg [.int .i64 r8.1, .int .i64 r8.2.1, .int .i64 r8.2.2.1, .int .i64 r8.2.2.2]] []))))) := by kernel_rfl
theorem c90 (kind i : Int) (h0 : 0 ≤ i) (h1 : i ≤ 7) : SC P 90 [.one (.int .i64 kind), .one (.int .i64 i)] [] [.agg [.int .i64 (rowV kind i).1, .int .i64 (rowV kind i).2.1, .int .i64 (rowV kind i).2.2.1, .int .i64 (rowV kind i).2.2.2]] [] := by
  refine SC_of_FB (H := H90) E_ok Try.func90 (by kernel_rfl) ?_
  rw [eq90]
  unfold rowV
  rw [wrap64 (n := i + 1) (by omega) (by omega), wrap64 (n := i - 4) (by omega) (by omega)]
  refine Br_d (fun c => ⟨powF (i + 1), c111 _ ⟨by omega, by omega⟩, by rw [if_pos c], rfl⟩) (fun c => ?_)
  rw [if_neg c]
  refine Br_d (fun c => ⟨unitF i, c112 _ (by omega) (by omega), by rw [if_pos c], rfl⟩) (fun c => ?_)
  rw [if_neg c]
  refine Br_d (fun c => ⟨unitF 0, c112 _ (by omega) (by omega), unitF 1, c112 _ (by omega) (by omega), vplus (unitF 0) (unitF 1), c113 _ _ (unitF_ok _) (unitF_ok _), by rw [if_pos c], rfl⟩) (fun c => ?_)
  rw [if_neg c]
  refine Br_d (fun c => ⟨unitF 2, c112 _ (by omega) (by omega), unitF 3, c112 _ (by omega) (by omega), vplus (unitF 2) (unitF 3), c113 _ _ (unitF_ok _) (unitF_ok _), by rw [if_pos c], rfl⟩) (fun c => ?_)
  rw [if_neg c]
  exact ⟨powF (i - 4), c111 _ ⟨by omega, by omega⟩, rfl, rfl⟩

/-! loop.example/keelson/impl.encode -/
def H55 : Hint := ⟨[[(0, 0, .bool), (3, 0, .bool), (5, 0, .bool), (8, 0, .bool)]], [], [(5, [0, 1, 2, 4, 3, 5, 6, 7, 8])], [], [], [], []⟩
def S55_L0 (kind0 : Int) (x8 : Int) (h0 : List Int) (h1 : List Int) : St := ⟨[(0, .w (.one (.int .i64 kind0))), (3, .w (.one (.ptr 0 0 0))), (5, .w (.one (.sl 1 none))), (8, .w (.one (.int .i64 x8)))], [.row (.int .i64) h0 .var, .row (.int .i64) h1 .own]⟩
theorem eq55 (kind : Int) (data : (Int × (Int × (Int × Int)))) (r : List W) (lh : Heap) : FB E H55 Try.f55 [.one (.int .i64 kind), .agg [.int .i64 data.1, .int .i64 data.2.1, .int .i64 data.2.2.1, .int .i64 data.2.2.2]] [] r lh =
  (
   FL E H55 Try.f55 0 r lh 0 (S55_L0 kind 0 [data.1, data.2.1, data.2.2.1, data.2.2.2] [])) := by kernel_rfl
theorem eq55_L0 (kind0 : Int) (x8 : Int) (h0 : List Int) (h1 : List Int) (r : List W) (lh : Heap) : FL1 E H55 Try.f55 0 r lh 0 (S55_L0 kind0 x8 h0 h1) =
  (
   Br (decide (x8 < (8 : Int))) (
    Ck (Nat.ble 4 h0.length) (
     ∃ r0 : Int × Int × Int × Int, SC P 90 [.one (.int .i64 kind0), .one (.int .i64 x8)] [] [.agg [.int .i64 r0.1, .int .i64 r0.2.1, .int .i64 r0.2.2.1, .int .i64 r0.2.2.2]] [] ∧
      ∃ r1 : Int, SC P 91 [.agg [.int .i64 r0.1, .int .i64 r0.2.1, .int .i64 r0.2.2.1, .int .i64 r0.2.2.2], .agg [.int .i64 (h0.getD 0 0), .int .i64 (h0.getD 1 0), .int .i64 (h0.getD 2 0), .int .i64 (h0.getD 3 0)]] [] [.one (.int .i64 r1)] [] ∧
       Ck (Nat.ble ((h1.length + 1) * 8) roomy) (
        FL E H55 Try.f55 0 r lh 0 (S55_L0 kind0 (IntKind.wrap .i64 (x8 + 1)) h0 (h1 ++ [r1]))))) (
    Ret r lh [.one (.sl 0 none)] [.row (.int .i64) h1 .own])) := by kernel_rfl
theorem l55 (kind : Int) (d : V4) (hd : VOk d) : ∀ (n i : Nat) (out : List Int), i + n = 8 → out.length = i → FL E H55 Try.f55 0 [.one (.sl 0 none)] [.row (.int .i64) (out ++ mapR (fun j => dotF (rowV kind (j : Int)) d) i n) .own] 0 (S55_L0 kind (i : Int) d.l out)
  | 0, i, out, h, ho => by
    refine FL_of1 ?_
    rw [eq55_L0]
    exact Br_f (by omega) ⟨rfl, by rw [mapR, List.append_nil]⟩
  | n + 1, i, out, h, ho => by
    refine FL_of1 ?_
    rw [eq55_L0, wS (by omega), mapR]
    refine Br_t (by omega) (Ck_le (by simp [V4.l]) ⟨rowV kind (i : Int), c90 kind (i : Int) (by omega) (by omega), dotF (rowV kind (i : Int)) d, c91 _ d (rowV_ok _ _) hd, Ck_room (by omega) ?_⟩)
    have := l55 kind d hd n (i + 1) (out ++ [dotF (rowV kind (i : Int)) d]) (by omega) (by simp; omega)
    rw [List.append_assoc] at this
    exact this
theorem c55 (kind : Int) (d : V4) (hd : VOk d) : SC P 55 [.one (.int .i64 kind), .agg [.int .i64 d.1, .int .i64 d.2.1, .int .i64 d.2.2.1, .int .i64 d.2.2.2]] [] [.one (.sl 0 none)] [.row (.int .i64) (allF kind d) .own] := by
  refine SC_of_FB (H := H55) E_ok Try.func55 (by kernel_rfl) ?_
  rw [eq55]
  exact l55 kind d hd 8 0 [] (by omega) rfl
/-! loop.example/keelson/impl.kindOk -/
def H39 : Hint := ⟨[], [], [], [], [], [], []⟩
theorem eq39 (kind : Int) (r : List W) (lh : Heap) : FB E H39 Try.f39 [.one (.int .i64 kind)] [] r lh =
  (
   ∃ r0 : Bool, SC P 78 [.one (.int .i64 kind), .one (.int .i64 1), .one (.int .i64 2)] [] [.one (.bool r0)] [] ∧
    Ret r lh [.one (.bool r0)] []) := by kernel_rfl
theorem c39 (k : Int) : SC P 39 [.one (.int .i64 k)] [] [.one (.bool (inB k 1 2))] [] := by
  refine SC_of_FB (H := H39) E_ok Try.func39 (by kernel_rfl) ?_
  rw [eq39]
  exact ⟨_, c78 _ _ _, rfl, rfl⟩
/-! loop.example/keelson/spec.l4Kind -/
def H37 : Hint := ⟨[], [], [], [], [], [], []⟩
theorem eq37 (kind : Int) (r : List W) (lh : Heap) : FB E H37 Try.f37 [.one (.int .i64 kind)] [] r lh =
  (
   ∃ r0 : Bool, SC P 51 [.one (.int .i64 kind), .one (.int .i64 1), .one (.int .i64 2)] [] [.one (.bool r0)] [] ∧
    Ret r lh [.one (.bool r0)] []) := by kernel_rfl
theorem c37 (k : Int) : SC P 37 [.one (.int .i64 k)] [] [.one (.bool (inB k 1 2))] [] := by
  refine SC_of_FB (H := H37) E_ok Try.func37 (by kernel_rfl) ?_
  rw [eq37]
  exact ⟨_, c51 _ _ _, rfl, rfl⟩
end Go.Proofs.Ytjoiadaogppmkaa.Sh
