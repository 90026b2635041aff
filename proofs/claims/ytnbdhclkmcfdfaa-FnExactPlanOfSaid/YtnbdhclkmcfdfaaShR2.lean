/- Rows and shards that are read: contracts of the program's functions. -/
import Derived.Test.YtnbdhclkmcfdfaaShR1
namespace Go.Proofs.Ytnbdhclkmcfdfaa.Sh
open Go
set_option linter.unusedVariables false
set_option linter.unusedSimpArgs false
/-! (*loop.example/keelson/impl.span).by -/
def H132 : Hint := ⟨[[(4, 0, .bool), (6, 0, .bool), (12, 0, .bool)]], [], [], [], [], [], [(7, .fork [0, 1, 2, 4] 3 (.lin [5, 6, 7]) 6 (.lin [3, 5, 7]))]⟩
def S132_L0 (x12 : Int) (b0_0 : List ((Int × (Int × (Int × Int))) × (Int × (Int × (Int × (Int × (Int × (Int × (Int × Int))))))))) (b0_1 : List Int) (h1 : List Int) (h2 : List Int) : St := ⟨[(4, .w (.one (.ptr 1 0 0))), (6, .w (.one (.ptr 2 0 0))), (12, .w (.one (.int .i64 x12)))], [.box [.ro (.pair (.pair (.int .i64) (.pair (.int .i64) (.pair (.int .i64) (.int .i64)))) (.pair (.int .i64) (.pair (.int .i64) (.pair (.int .i64) (.pair (.int .i64) (.pair (.int .i64) (.pair (.int .i64) (.pair (.int .i64) (.int .i64))))))))) b0_0, .ro (.int .i64) b0_1], .row (.int .i64) h1 .var, .row (.int .i64) h2 .var]⟩
theorem eq132 (v : V4) (rows : List Kept) (pv : List Int) (r : List W) (lh : Heap) : FB E H132 Try.f132 [.one (.ptr 0 0 0), .agg [.int .i64 v.1, .int .i64 v.2.1, .int .i64 v.2.2.1, .int .i64 v.2.2.2]] [.box [.ro (.pair (.pair (.int .i64) (.pair (.int .i64) (.pair (.int .i64) (.int .i64)))) (.pair (.int .i64) (.pair (.int .i64) (.pair (.int .i64) (.pair (.int .i64) (.pair (.int .i64) (.pair (.int .i64) (.pair (.int .i64) (.int .i64))))))))) rows, .ro (.int .i64) pv]] r lh =
  (
   ∃ r0 : Int × Int × Int × Int × Int × Int × Int × Int × Int × Int × Int × Int, SC P 138 [.one (.ptr 0 0 0), .agg [.int .i64 v.1, .int .i64 v.2.1, .int .i64 v.2.2.1, .int .i64 v.2.2.2, .int .i64 0, .int .i64 0, .int .i64 0, .int .i64 0, .int .i64 0, .int .i64 0, .int .i64 0, .int .i64 0]] [.box [.ro (.pair (.pair (.int .i64) (.pair (.int .i64) (.pair (.int .i64) (.int .i64)))) (.pair (.int .i64) (.pair (.int .i64) (.pair (.int .i64) (.pair (.int .i64) (.pair (.int .i64) (.pair (.int .i64) (.pair (.int .i64) (.int .i64))))))))) rows, .ro (.int .i64) pv]] [.agg [.int .i64 r0.1, .int .i64 r0.2.1, .int .i64 r0.2.2.1, .int .i64 r0.2.2.2.1, .int .i64 r0.2.2.2.2.1, .int .i64 r0.2.2.2.2.2.1, .int .i64 r0.2.2.2.2.2.2.1, .int .i64 r0.2.2.2.2.2.2.2.1, .int .i64 r0.2.2.2.2.2.2.2.2.1, .int .i64 r0.2.2.2.2.2.2.2.2.2.1, .int .i64 r0.2.2.2.2.2.2.2.2.2.2.1, .int .i64 r0.2.2.2.2.2.2.2.2.2.2.2]] [.box [.ro (.pair (.pair (.int .i64) (.pair (.int .i64) (.pair (.int .i64) (.int .i64)))) (.pair (.int .i64) (.pair (.int .i64) (.pair (.int .i64) (.pair (.int .i64) (.pair (.int .i64) (.pair (.int .i64) (.pair (.int .i64) (.int .i64))))))))) rows, .ro (.int .i64) pv]] ∧
    FL E H132 Try.f132 1 r lh 0 (S132_L0 0 rows pv [0, 0, 0, 0, 0, 0, 0, 0] [r0.1, r0.2.1, r0.2.2.1, r0.2.2.2.1, r0.2.2.2.2.1, r0.2.2.2.2.2.1, r0.2.2.2.2.2.2.1, r0.2.2.2.2.2.2.2.1, r0.2.2.2.2.2.2.2.2.1, r0.2.2.2.2.2.2.2.2.2.1, r0.2.2.2.2.2.2.2.2.2.2.1, r0.2.2.2.2.2.2.2.2.2.2.2])) := by kernel_rfl
theorem eq132_L0 (x12 : Int) (b0_0 : List ((Int × (Int × (Int × Int))) × (Int × (Int × (Int × (Int × (Int × (Int × (Int × Int))))))))) (b0_1 : List Int) (h1 : List Int) (h2 : List Int) (r : List W) (lh : Heap) : FL1 E H132 Try.f132 1 r lh 0 (S132_L0 x12 b0_0 b0_1 h1 h2) =
  (
   Br (decide (x12 < (8 : Int))) (
    Ck (decide ((0 : Int) ≤ x12)) (
     Ck (decide (x12 < (8 : Int))) (
      Ck (Nat.ble ((4 + (x12.toNat * 1)) + 1) h2.length) (
       ∃ r0 : Int, SC P 115 [.one (.int .i64 (IntKind.wrap .i64 (0 - (h2.getD (4 + (x12.toNat * 1)) 0))))] [] [.one (.int .i64 r0)] [] ∧
        Ck (decide ((0 : Int) ≤ x12)) (
         Ck (decide (x12 < (8 : Int))) (
          Ck (Nat.ble ((4 + (x12.toNat * 1)) + 1) h2.length) (
           FL E H132 Try.f132 1 r lh 0 (S132_L0 (IntKind.wrap .i64 (x12 + 1)) b0_0 b0_1 h1 (h2.set (4 + (x12.toNat * 1)) r0))))))))) (
    Ck (Nat.ble 12 h2.length) (
     (
      Ck (Nat.ble 4 h2.length) (
       Ck (Nat.ble 8 h1.length) (
        Ck (Nat.ble 8 (((((((((h1.set 0 (h2.getD 4 0)).set 1 (h2.getD 5 0)).set 2 (h2.getD 6 0)).set 3 (h2.getD 7 0)).set 4 (h2.getD 8 0)).set 5 (h2.getD 9 0)).set 6 (h2.getD 10 0)).set 7 (h2.getD 11 0)).length)) (
         Ret r lh [.agg [.int .i64 (((((((((h1.set 0 (h2.getD 4 0)).set 1 (h2.getD 5 0)).set 2 (h2.getD 6 0)).set 3 (h2.getD 7 0)).set 4 (h2.getD 8 0)).set 5 (h2.getD 9 0)).set 6 (h2.getD 10 0)).set 7 (h2.getD 11 0)).getD 0 0), .int .i64 (((((((((h1.set 0 (h2.getD 4 0)).set 1 (h2.getD 5 0)).set 2 (h2.getD 6 0)).set 3 (h2.getD 7 0)).set 4 (h2.getD 8 0)).set 5 (h2.getD 9 0)).set 6 (h2.getD 10 0)).set 7 (h2.getD 11 0)).getD 1 0), .int .i64 (((((((((h1.set 0 (h2.getD 4 0)).set 1 (h2.getD 5 0)).set 2 (h2.getD 6 0)).set 3 (h2.getD 7 0)).set 4 (h2.getD 8 0)).set 5 (h2.getD 9 0)).set 6 (h2.getD 10 0)).set 7 (h2.getD 11 0)).getD 2 0), .int .i64 (((((((((h1.set 0 (h2.getD 4 0)).set 1 (h2.getD 5 0)).set 2 (h2.getD 6 0)).set 3 (h2.getD 7 0)).set 4 (h2.getD 8 0)).set 5 (h2.getD 9 0)).set 6 (h2.getD 10 0)).set 7 (h2.getD 11 0)).getD 3 0), .int .i64 (((((((((h1.set 0 (h2.getD 4 0)).set 1 (h2.getD 5 0)).set 2 (h2.getD 6 0)).set 3 (h2.getD 7 0)).set 4 (h2.getD 8 0)).set 5 (h2.getD 9 0)).set 6 (h2.getD 10 0)).set 7 (h2.getD 11 0)).getD 4 0), .int .i64 (((((((((h1.set 0 (h2.getD 4 0)).set 1 (h2.getD 5 0)).set 2 (h2.getD 6 0)).set 3 (h2.getD 7 0)).set 4 (h2.getD 8 0)).set 5 (h2.getD 9 0)).set 6 (h2.getD 10 0)).set 7 (h2.getD 11 0)).getD 5 0), .int .i64 (((((((((h1.set 0 (h2.getD 4 0)).set 1 (h2.getD 5 0)).set 2 (h2.getD 6 0)).set 3 (h2.getD 7 0)).set 4 (h2.getD 8 0)).set 5 (h2.getD 9 0)).set 6 (h2.getD 10 0)).set 7 (h2.getD 11 0)).getD 6 0), .int .i64 (((((((((h1.set 0 (h2.getD 4 0)).set 1 (h2.getD 5 0)).set 2 (h2.getD 6 0)).set 3 (h2.getD 7 0)).set 4 (h2.getD 8 0)).set 5 (h2.getD 9 0)).set 6 (h2.getD 10 0)).set 7 (h2.getD 11 0)).getD 7 0)], .one (.bool ((decide ((h2.getD 0 0) = (0 : Int))) && ((decide ((h2.getD 1 0) = (0 : Int))) && ((decide ((h2.getD 2 0) = (0 : Int))) && (decide ((h2.getD 3 0) = (0 : Int)))))))] [.box [.ro (.pair (.pair (.int .i64) (.pair (.int .i64) (.pair (.int .i64) (.int .i64)))) (.pair (.int .i64) (.pair (.int .i64) (.pair (.int .i64) (.pair (.int .i64) (.pair (.int .i64) (.pair (.int .i64) (.pair (.int .i64) (.int .i64))))))))) b0_0, .ro (.int .i64) b0_1]])))) ∧ (
      Ck (Nat.ble 8 h1.length) (
       Ck (Nat.ble 4 h2.length) (
        Ck (Nat.ble 8 (((((((((h1.set 0 (h2.getD 4 0)).set 1 (h2.getD 5 0)).set 2 (h2.getD 6 0)).set 3 (h2.getD 7 0)).set 4 (h2.getD 8 0)).set 5 (h2.getD 9 0)).set 6 (h2.getD 10 0)).set 7 (h2.getD 11 0)).length)) (
         Ret r lh [.agg [.int .i64 (((((((((h1.set 0 (h2.getD 4 0)).set 1 (h2.getD 5 0)).set 2 (h2.getD 6 0)).set 3 (h2.getD 7 0)).set 4 (h2.getD 8 0)).set 5 (h2.getD 9 0)).set 6 (h2.getD 10 0)).set 7 (h2.getD 11 0)).getD 0 0), .int .i64 (((((((((h1.set 0 (h2.getD 4 0)).set 1 (h2.getD 5 0)).set 2 (h2.getD 6 0)).set 3 (h2.getD 7 0)).set 4 (h2.getD 8 0)).set 5 (h2.getD 9 0)).set 6 (h2.getD 10 0)).set 7 (h2.getD 11 0)).getD 1 0), .int .i64 (((((((((h1.set 0 (h2.getD 4 0)).set 1 (h2.getD 5 0)).set 2 (h2.getD 6 0)).set 3 (h2.getD 7 0)).set 4 (h2.getD 8 0)).set 5 (h2.getD 9 0)).set 6 (h2.getD 10 0)).set 7 (h2.getD 11 0)).getD 2 0), .int .i64 (((((((((h1.set 0 (h2.getD 4 0)).set 1 (h2.getD 5 0)).set 2 (h2.getD 6 0)).set 3 (h2.getD 7 0)).set 4 (h2.getD 8 0)).set 5 (h2.getD 9 0)).set 6 (h2.getD 10 0)).set 7 (h2.getD 11 0)).getD 3 0), .int .i64 (((((((((h1.set 0 (h2.getD 4 0)).set 1 (h2.getD 5 0)).set 2 (h2.getD 6 0)).set 3 (h2.getD 7 0)).set 4 (h2.getD 8 0)).set 5 (h2.getD 9 0)).set 6 (h2.getD 10 0)).set 7 (h2.getD 11 0)).getD 4 0), .int .i64 (((((((((h1.set 0 (h2.getD 4 0)).set 1 (h2.getD 5 0)).set 2 (h2.getD 6 0)).set 3 (h2.getD 7 0)).set 4 (h2.getD 8 0)).set 5 (h2.getD 9 0)).set 6 (h2.getD 10 0)).set 7 (h2.getD 11 0)).getD 5 0), .int .i64 (((((((((h1.set 0 (h2.getD 4 0)).set 1 (h2.getD 5 0)).set 2 (h2.getD 6 0)).set 3 (h2.getD 7 0)).set 4 (h2.getD 8 0)).set 5 (h2.getD 9 0)).set 6 (h2.getD 10 0)).set 7 (h2.getD 11 0)).getD 6 0), .int .i64 (((((((((h1.set 0 (h2.getD 4 0)).set 1 (h2.getD 5 0)).set 2 (h2.getD 6 0)).set 3 (h2.getD 7 0)).set 4 (h2.getD 8 0)).set 5 (h2.getD 9 0)).set 6 (h2.getD 10 0)).set 7 (h2.getD 11 0)).getD 7 0)], .one (.bool ((decide ((h2.getD 0 0) = (0 : Int))) && ((decide ((h2.getD 1 0) = (0 : Int))) && ((decide ((h2.getD 2 0) = (0 : Int))) && (decide ((h2.getD 3 0) = (0 : Int)))))))] [.box [.ro (.pair (.pair (.int .i64) (.pair (.int .i64) (.pair (.int .i64) (.int .i64)))) (.pair (.int .i64) (.pair (.int .i64) (.pair (.int .i64) (.pair (.int .i64) (.pair (.int .i64) (.pair (.int .i64) (.pair (.int .i64) (.int .i64))))))))) b0_0, .ro (.int .i64) b0_1]]))))))) := by kernel_rfl
theorem eq4_dec (v : V4) : (decide (v.1 = 0) && (decide (v.2.1 = 0) && (decide (v.2.2.1 = 0) && decide (v.2.2.2 = 0)))) = decide (v = zero4) := by
  obtain ⟨a, b, c, d⟩ := v
  rw [Bool.eq_iff_iff]
  simp
theorem c132 (rows : List Kept) (hr : RowsOk rows) (hl : rows.length ≤ 1048576) (pv : List Int) (v : V4) (hv : VOk v) : SC P 132 [.one (.ptr 0 0 0), .agg [.int .i64 v.1, .int .i64 v.2.1, .int .i64 v.2.2.1, .int .i64 v.2.2.2]] [.box [.ro (.pair (.pair (.int .i64) (.pair (.int .i64) (.pair (.int .i64) (.int .i64)))) (.pair (.int .i64) (.pair (.int .i64) (.pair (.int .i64) (.pair (.int .i64) (.pair (.int .i64) (.pair (.int .i64) (.pair (.int .i64) (.int .i64))))))))) rows, .ro (.int .i64) pv]] [.agg [.int .i64 (byK rows v).1.1, .int .i64 (byK rows v).1.2.1, .int .i64 (byK rows v).1.2.2.1, .int .i64 (byK rows v).1.2.2.2.1, .int .i64 (byK rows v).1.2.2.2.2.1, .int .i64 (byK rows v).1.2.2.2.2.2.1, .int .i64 (byK rows v).1.2.2.2.2.2.2.1, .int .i64 (byK rows v).1.2.2.2.2.2.2.2], .one (.bool (byK rows v).2)] [.box [.ro (.pair (.pair (.int .i64) (.pair (.int .i64) (.pair (.int .i64) (.int .i64)))) (.pair (.int .i64) (.pair (.int .i64) (.pair (.int .i64) (.pair (.int .i64) (.pair (.int .i64) (.pair (.int .i64) (.pair (.int .i64) (.int .i64))))))))) rows, .ro (.int .i64) pv]] := by
  refine SC_of_FB (H := H132) E_ok Try.func132 (by kernel_rfl) ?_
  rw [eq132]
  have hk := lessF_ok (rows := rows) (k := (v, zero8)) ⟨hv, zero8_ok⟩
  refine ⟨((lessF rows (v, zero8)).1.1, (lessF rows (v, zero8)).1.2.1, (lessF rows (v, zero8)).1.2.2.1, (lessF rows (v, zero8)).1.2.2.2, (lessF rows (v, zero8)).2.1, (lessF rows (v, zero8)).2.2.1, (lessF rows (v, zero8)).2.2.2.1, (lessF rows (v, zero8)).2.2.2.2.1, (lessF rows (v, zero8)).2.2.2.2.2.1, (lessF rows (v, zero8)).2.2.2.2.2.2.1, (lessF rows (v, zero8)).2.2.2.2.2.2.2.1, (lessF rows (v, zero8)).2.2.2.2.2.2.2.2), c138r rows hr hl pv (v, zero8) ⟨hv, zero8_ok⟩, ?_⟩
  unfold byK
  generalize lessF rows (v, zero8) = k at hk ⊢
  have step : ∀ (j : Nat) (h : List Int), j < 8 → h.length = 12 → h.getD (4 + j) 0 = k.2.l.getD j 0 → FL E H132 Try.f132 1 [.agg [.int .i64 (V8.of fun i => (0 - k.2.l.getD i 0) % 31).1, .int .i64 (V8.of fun i => (0 - k.2.l.getD i 0) % 31).2.1, .int .i64 (V8.of fun i => (0 - k.2.l.getD i 0) % 31).2.2.1, .int .i64 (V8.of fun i => (0 - k.2.l.getD i 0) % 31).2.2.2.1, .int .i64 (V8.of fun i => (0 - k.2.l.getD i 0) % 31).2.2.2.2.1, .int .i64 (V8.of fun i => (0 - k.2.l.getD i 0) % 31).2.2.2.2.2.1, .int .i64 (V8.of fun i => (0 - k.2.l.getD i 0) % 31).2.2.2.2.2.2.1, .int .i64 (V8.of fun i => (0 - k.2.l.getD i 0) % 31).2.2.2.2.2.2.2], .one (.bool (decide (k.1 = zero4)))] [.box [.ro (.pair (.pair (.int .i64) (.pair (.int .i64) (.pair (.int .i64) (.int .i64)))) (.pair (.int .i64) (.pair (.int .i64) (.pair (.int .i64) (.pair (.int .i64) (.pair (.int .i64) (.pair (.int .i64) (.pair (.int .i64) (.int .i64))))))))) rows, .ro (.int .i64) pv]] 0 (S132_L0 ((j + 1 : Nat) : Int) rows pv [0, 0, 0, 0, 0, 0, 0, 0] (h.set (4 + j) ((0 - k.2.l.getD j 0) % 31))) →
      FL E H132 Try.f132 1 [.agg [.int .i64 (V8.of fun i => (0 - k.2.l.getD i 0) % 31).1, .int .i64 (V8.of fun i => (0 - k.2.l.getD i 0) % 31).2.1, .int .i64 (V8.of fun i => (0 - k.2.l.getD i 0) % 31).2.2.1, .int .i64 (V8.of fun i => (0 - k.2.l.getD i 0) % 31).2.2.2.1, .int .i64 (V8.of fun i => (0 - k.2.l.getD i 0) % 31).2.2.2.2.1, .int .i64 (V8.of fun i => (0 - k.2.l.getD i 0) % 31).2.2.2.2.2.1, .int .i64 (V8.of fun i => (0 - k.2.l.getD i 0) % 31).2.2.2.2.2.2.1, .int .i64 (V8.of fun i => (0 - k.2.l.getD i 0) % 31).2.2.2.2.2.2.2], .one (.bool (decide (k.1 = zero4)))] [.box [.ro (.pair (.pair (.int .i64) (.pair (.int .i64) (.pair (.int .i64) (.int .i64)))) (.pair (.int .i64) (.pair (.int .i64) (.pair (.int .i64) (.pair (.int .i64) (.pair (.int .i64) (.pair (.int .i64) (.pair (.int .i64) (.int .i64))))))))) rows, .ro (.int .i64) pv]] 0 (S132_L0 (j : Int) rows pv [0, 0, 0, 0, 0, 0, 0, 0] h) := by
    intro j h hj hl he hF
    obtain ⟨g0, g1⟩ := hk.2 j
    refine FL_of1 ?_
    rw [eq132_L0, wS (i := j) (by omega)]
    simp only [Int.toNat_natCast, Nat.mul_one]
    rw [he, wrap64 (by omega) (by omega)]
    exact Br_t (by omega) (Ck_d (by omega) (Ck_d (by omega) (Ck_le (by omega) ⟨_, c115 _, Ck_d (by omega) (Ck_d (by omega) (Ck_le (by omega) hF))⟩)))
  refine step 0 (keptL k) (by omega) rfl rfl (step 1 _ (by omega) rfl rfl (step 2 _ (by omega) rfl rfl (step 3 _ (by omega) rfl rfl (step 4 _ (by omega) rfl rfl (step 5 _ (by omega) rfl rfl (step 6 _ (by omega) rfl rfl (step 7 _ (by omega) rfl rfl ?_)))))))
  refine FL_of1 ?_
  rw [eq132_L0, ← eq4_dec k.1]
  exact Br_f (by simp) (Ck_b (by kernel_rfl) ⟨Ck_b (by kernel_rfl) (Ck_b (by kernel_rfl) (Ck_b (by kernel_rfl) ⟨by kernel_rfl, by kernel_rfl⟩)), Ck_b (by kernel_rfl) (Ck_b (by kernel_rfl) (Ck_b (by kernel_rfl) ⟨by kernel_rfl, by kernel_rfl⟩))⟩)
/-! loop.example/keelson/impl.matrixOf -/
def H130 : Hint := ⟨[[(0, 0, .bool), (4, 0, .bool), (12, 0, .bool), (13, 0, .bool), (14, 0, .bool)]], [], [], [], [.one (.own (.pair (.int .i64) (.pair (.int .i64) (.pair (.int .i64) (.int .i64))))), .one (.c .bool)], [], []⟩
def S130_L0 (m0 : List (List Int)) (x12 : List (List Int)) (x13 : Int) (x14 : Int) (h0 : List (Int × (Int × (Int × Int)))) : St := ⟨[(0, .w (.one (.ro (.sl (.int .i64)) m0))), (4, .w (.one (.sl 0 none))), (12, .w (.one (.ro (.sl (.int .i64)) x12))), (13, .w (.one (.int .i64 x13))), (14, .w (.one (.int .i64 x14)))], [.row (.pair (.int .i64) (.pair (.int .i64) (.pair (.int .i64) (.int .i64)))) h0 .own]⟩
theorem eq130 (m : List (List Int)) (r : List W) (lh : Heap) : FB E H130 Try.f130 [.one (.ro (.sl (.int .i64)) m)] [] r lh =
  (
   Ck (decide ((0 : Int) ≤ ((m.length : Nat) : Int))) (
    Ck (decide (((m.length : Nat) : Int) * (32 : Nat) ≤ (roomy : Int))) (
     FL E H130 Try.f130 0 r lh 0 (S130_L0 m m ((m.length : Nat) : Int) 0 [])))) := by kernel_rfl
theorem eq130_L0 (m0 : List (List Int)) (x12 : List (List Int)) (x13 : Int) (x14 : Int) (h0 : List (Int × (Int × (Int × Int)))) (r : List W) (lh : Heap) : FL1 E H130 Try.f130 0 r lh 0 (S130_L0 m0 x12 x13 x14 h0) =
  (
   Br (decide (x14 < x13)) (
    Ck (decide ((0 : Int) ≤ x14)) (
     Ck (decide (x14 < ((x12.length : Nat) : Int))) (
      ∃ r0 : Int × Int × Int × Int × Bool, SC P 94 [.one (.ro (.int .i64) (x12.getD x14.toNat []))] [] [.agg [.int .i64 r0.1, .int .i64 r0.2.1, .int .i64 r0.2.2.1, .int .i64 r0.2.2.2.1], .one (.bool r0.2.2.2.2)] [] ∧
       Br (!r0.2.2.2.2) (
        Ret r lh [.one (.sl 0 none), .one (.bool false)] [.row (.pair (.int .i64) (.pair (.int .i64) (.pair (.int .i64) (.int .i64)))) [] .own]) (
        Ck (Nat.ble ((h0.length + 1) * 32) roomy) (
         FL E H130 Try.f130 0 r lh 0 (S130_L0 m0 x12 x13 (IntKind.wrap .i64 (x14 + 1)) (h0 ++ ([(r0.1, (r0.2.1, (r0.2.2.1, r0.2.2.2.1)))] : List (Int × (Int × (Int × Int))))))))))) (
    Ret r lh [.one (.sl 0 none), .one (.bool (decide (((m0.length : Nat) : Int) ≤ (8 : Int))))] [.row (.pair (.int .i64) (.pair (.int .i64) (.pair (.int .i64) (.int .i64)))) h0 .own])) := by kernel_rfl
theorem vecF_ok (l : List Int) : VOk (vecF l) := by
  cases h : vecOk l with
  | true => obtain ⟨v, hv, rfl⟩ := vecOk_v h; rw [vecF_l hv]; exact hv
  | false => rw [vecF, h]; exact ⟨⟨by simp, by simp⟩, ⟨by simp, by simp⟩, ⟨by simp, by simp⟩, by simp, by simp⟩
theorem l130 (m : List (List Int)) (hl : m.length ≤ 1048576) (hs : ∀ l ∈ m, l.length ≤ 1048576) : ∀ (n i : Nat) (out : List V4), i + n = m.length → out.length = i →
    FL E H130 Try.f130 0 [.one (.sl 0 none), .one (.bool ((m.drop i).all vecOk && decide (m.length ≤ 8)))] [.row (.pair (.int .i64) (.pair (.int .i64) (.pair (.int .i64) (.int .i64)))) (bif (m.drop i).all vecOk then out ++ (m.drop i).map vecF else []) .own] 0 (S130_L0 m m (m.length : Int) (i : Int) out)
  | 0, i, out, h, ho => by
    refine FL_of1 ?_
    rw [eq130_L0, List.drop_eq_nil_of_le (by omega)]
    refine Br_f (by omega) ⟨?_, by rw [List.all_nil, cond_true, List.map_nil, List.append_nil]⟩
    rw [List.all_nil, Bool.true_and]
    congr 4
    exact decide_eq_decide.2 (by omega)
  | n + 1, i, out, h, ho => by
    have hi : i < m.length := by omega
    refine FL_of1 ?_
    rw [eq130_L0, wS (by omega), drop_cons hi]
    simp only [Int.toNat_natCast]
    rw [getD_eq hi]
    refine Br_t (by omega) (Ck_d (by omega) (Ck_d (by omega) ⟨((vecF m[i]).1, (vecF m[i]).2.1, (vecF m[i]).2.2.1, (vecF m[i]).2.2.2, vecOk m[i]), c94 m[i] (hs _ (List.getElem_mem hi)), Br_nb (fun e => ?_) (fun e => ?_)⟩))
    · have e : vecOk m[i] = false := e
      rw [List.all_cons, e]
      exact ⟨rfl, rfl⟩
    · have e : vecOk m[i] = true := e
      rw [List.all_cons, e, Bool.true_and, List.map_cons]
      refine Ck_room (by omega) ?_
      have := l130 m hl hs n (i + 1) (out ++ [vecF m[i]]) (by omega) (by simp; omega)
      rw [List.append_assoc] at this
      exact this
def matF (m : List (List Int)) : List V4 := bif m.all vecOk then m.map vecF else []
def matOk (m : List (List Int)) : Bool := m.all vecOk && decide (m.length ≤ 8)
theorem matF_ok (m : List (List Int)) : ∀ v ∈ matF m, VOk v := by
  intro v hv
  rw [matF] at hv
  cases h : m.all vecOk with
  | false => rw [h] at hv; cases hv
  | true =>
    rw [h] at hv
    obtain ⟨l, _, rfl⟩ := List.mem_map.1 hv
    exact vecF_ok l
theorem matF_len {m : List (List Int)} (h : matOk m = true) : (matF m).length = m.length ∧ m.length ≤ 8 := by
  rw [matOk, Bool.and_eq_true, decide_eq_true_iff] at h
  rw [matF, h.1, cond_true, List.length_map]
  exact ⟨rfl, h.2⟩
theorem c130 (m : List (List Int)) (hl : m.length ≤ 1048576) (hs : ∀ l ∈ m, l.length ≤ 1048576) : SC P 130 [.one (.ro (.sl (.int .i64)) m)] [] [.one (.sl 0 none), .one (.bool (matOk m))] [.row (.pair (.int .i64) (.pair (.int .i64) (.pair (.int .i64) (.int .i64)))) (matF m) .own] := by
  refine SC_of_FB (H := H130) E_ok Try.func130 (by kernel_rfl) ?_
  rw [eq130]
  exact Ck_d (by omega) (Ck_roomI (by omega) (l130 m hl hs m.length 0 [] (by omega) rfl))
/-! loop.example/keelson/impl.SpanBy -/
def H111 : Hint := ⟨[[(10, 0, .bool), (12, 0, .bool), (43, 0, .bool), (44, 0, .bool)]], [], [], [], [.one (.own (.int .i64)), .one (.c .bool)], [5], [(5, .fork3 [0] 1 (.fork [2] 3 (.lin [4, 5, 6, 7, 8, 9]) 7 (.lin [3, 4, 5, 6, 8, 9])) 2 (.fork [] 1 (.fork [] 3 (.lin [4, 5, 6, 7, 8, 9]) 7 (.lin [3, 4, 5, 6, 8, 9])) 7 (.lin [1, 3, 4, 5, 6, 8, 9])) 7 (.fork [] 1 (.lin [2, 3, 4, 5, 6, 8, 9]) 2 (.lin [1, 3, 4, 5, 6, 8, 9])))]⟩
def S111_L0 (x43 : Int) (x44 : Int) (h0 : List Int) (h1 : List Int) : St := ⟨[(10, .w (.one (.ptr 0 0 0))), (12, .w (.one (.sl 1 none))), (43, .w (.one (.int .i64 x43))), (44, .w (.one (.int .i64 x44)))], [.row (.int .i64) h0 .var, .row (.int .i64) h1 .own]⟩
theorem eq111 (m : List (List Int)) (v : List Int) (r : List W) (lh : Heap) : FB E H111 Try.f111 [.one (.ro (.sl (.int .i64)) m), .one (.ro (.int .i64) v)] [] r lh =
  (
   ∃ r0 : List (Int × (Int × (Int × Int))) × Bool, SC P 130 [.one (.ro (.sl (.int .i64)) m)] [] [.one (.sl 0 none), .one (.bool r0.2)] [.row (.pair (.int .i64) (.pair (.int .i64) (.pair (.int .i64) (.int .i64)))) r0.1 .own] ∧
    ∃ r1 : Int × Int × Int × Int × Bool, SC P 94 [.one (.ro (.int .i64) v)] [] [.agg [.int .i64 r1.1, .int .i64 r1.2.1, .int .i64 r1.2.2.1, .int .i64 r1.2.2.2.1], .one (.bool r1.2.2.2.2)] [] ∧
     Br (!r0.2) (
      Ret r lh [.one (.sl 0 none), .one (.bool false)] [.row (.int .i64) [] .own]) (
      Br (!r1.2.2.2.2) (
       Ret r lh [.one (.sl 0 none), .one (.bool false)] [.row (.int .i64) [] .own]) (
       (
        ∃ r2 : (List ((Int × (Int × (Int × Int))) × (Int × (Int × (Int × (Int × (Int × (Int × (Int × Int)))))))) × List Int), SC P 131 [.one (.ro (.pair (.int .i64) (.pair (.int .i64) (.pair (.int .i64) (.int .i64)))) r0.1)] [] [.one (.ptr 0 0 0)] [.box [.ro (.pair (.pair (.int .i64) (.pair (.int .i64) (.pair (.int .i64) (.int .i64)))) (.pair (.int .i64) (.pair (.int .i64) (.pair (.int .i64) (.pair (.int .i64) (.pair (.int .i64) (.pair (.int .i64) (.pair (.int .i64) (.int .i64))))))))) r2.1, .ro (.int .i64) r2.2]] ∧
         (
          ∃ r3 : Int × Int × Int × Int × Int × Int × Int × Int × Bool, SC P 132 [.one (.ptr 0 0 0), .agg [.int .i64 r1.1, .int .i64 r1.2.1, .int .i64 r1.2.2.1, .int .i64 r1.2.2.2.1]] [.box [.ro (.pair (.pair (.int .i64) (.pair (.int .i64) (.pair (.int .i64) (.int .i64)))) (.pair (.int .i64) (.pair (.int .i64) (.pair (.int .i64) (.pair (.int .i64) (.pair (.int .i64) (.pair (.int .i64) (.pair (.int .i64) (.int .i64))))))))) r2.1, .ro (.int .i64) r2.2]] [.agg [.int .i64 r3.1, .int .i64 r3.2.1, .int .i64 r3.2.2.1, .int .i64 r3.2.2.2.1, .int .i64 r3.2.2.2.2.1, .int .i64 r3.2.2.2.2.2.1, .int .i64 r3.2.2.2.2.2.2.1, .int .i64 r3.2.2.2.2.2.2.2.1], .one (.bool r3.2.2.2.2.2.2.2.2)] [.box [.ro (.pair (.pair (.int .i64) (.pair (.int .i64) (.pair (.int .i64) (.int .i64)))) (.pair (.int .i64) (.pair (.int .i64) (.pair (.int .i64) (.pair (.int .i64) (.pair (.int .i64) (.pair (.int .i64) (.pair (.int .i64) (.int .i64))))))))) r2.1, .ro (.int .i64) r2.2]] ∧
           Br (!r3.2.2.2.2.2.2.2.2) (
            Ret r lh [.one (.sl 0 none), .one (.bool false)] [.row (.int .i64) [] .own]) (
            Ck (decide ((0 : Int) ≤ ((m.length : Nat) : Int))) (
             Ck (decide (((m.length : Nat) : Int) * (8 : Nat) ≤ (roomy : Int))) (
              FL E H111 Try.f111 0 r lh 0 (S111_L0 ((m.length : Nat) : Int) 0 [r3.1, r3.2.1, r3.2.2.1, r3.2.2.2.1, r3.2.2.2.2.1, r3.2.2.2.2.2.1, r3.2.2.2.2.2.2.1, r3.2.2.2.2.2.2.2.1] []))))) ∧ (
          ∃ r4 : Int × Int × Int × Int × Int × Int × Int × Int × Bool, SC P 132 [.one (.ptr 0 0 0), .agg [.int .i64 r1.1, .int .i64 r1.2.1, .int .i64 r1.2.2.1, .int .i64 r1.2.2.2.1]] [.box [.ro (.pair (.pair (.int .i64) (.pair (.int .i64) (.pair (.int .i64) (.int .i64)))) (.pair (.int .i64) (.pair (.int .i64) (.pair (.int .i64) (.pair (.int .i64) (.pair (.int .i64) (.pair (.int .i64) (.pair (.int .i64) (.int .i64))))))))) r2.1, .ro (.int .i64) r2.2]] [.agg [.int .i64 r4.1, .int .i64 r4.2.1, .int .i64 r4.2.2.1, .int .i64 r4.2.2.2.1, .int .i64 r4.2.2.2.2.1, .int .i64 r4.2.2.2.2.2.1, .int .i64 r4.2.2.2.2.2.2.1, .int .i64 r4.2.2.2.2.2.2.2.1], .one (.bool r4.2.2.2.2.2.2.2.2)] [.box [.ro (.pair (.pair (.int .i64) (.pair (.int .i64) (.pair (.int .i64) (.int .i64)))) (.pair (.int .i64) (.pair (.int .i64) (.pair (.int .i64) (.pair (.int .i64) (.pair (.int .i64) (.pair (.int .i64) (.pair (.int .i64) (.int .i64))))))))) r2.1, .ro (.int .i64) r2.2]] ∧
           Br (!r4.2.2.2.2.2.2.2.2) (
            Ret r lh [.one (.sl 0 none), .one (.bool false)] [.row (.int .i64) [] .own]) (
            Ck (decide ((0 : Int) ≤ ((m.length : Nat) : Int))) (
             Ck (decide (((m.length : Nat) : Int) * (8 : Nat) ≤ (roomy : Int))) (
              FL E H111 Try.f111 0 r lh 0 (S111_L0 ((m.length : Nat) : Int) 0 [r4.1, r4.2.1, r4.2.2.1, r4.2.2.2.1, r4.2.2.2.2.1, r4.2.2.2.2.2.1, r4.2.2.2.2.2.2.1, r4.2.2.2.2.2.2.2.1] [])))))) ∧ (
        (
         (
          ∃ r5 : (List ((Int × (Int × (Int × Int))) × (Int × (Int × (Int × (Int × (Int × (Int × (Int × Int)))))))) × List Int), SC P 131 [.one (.ro (.pair (.int .i64) (.pair (.int .i64) (.pair (.int .i64) (.int .i64)))) r0.1)] [] [.one (.ptr 0 0 0)] [.box [.ro (.pair (.pair (.int .i64) (.pair (.int .i64) (.pair (.int .i64) (.int .i64)))) (.pair (.int .i64) (.pair (.int .i64) (.pair (.int .i64) (.pair (.int .i64) (.pair (.int .i64) (.pair (.int .i64) (.pair (.int .i64) (.int .i64))))))))) r5.1, .ro (.int .i64) r5.2]] ∧
           (
            ∃ r6 : Int × Int × Int × Int × Int × Int × Int × Int × Bool, SC P 132 [.one (.ptr 0 0 0), .agg [.int .i64 r1.1, .int .i64 r1.2.1, .int .i64 r1.2.2.1, .int .i64 r1.2.2.2.1]] [.box [.ro (.pair (.pair (.int .i64) (.pair (.int .i64) (.pair (.int .i64) (.int .i64)))) (.pair (.int .i64) (.pair (.int .i64) (.pair (.int .i64) (.pair (.int .i64) (.pair (.int .i64) (.pair (.int .i64) (.pair (.int .i64) (.int .i64))))))))) r5.1, .ro (.int .i64) r5.2]] [.agg [.int .i64 r6.1, .int .i64 r6.2.1, .int .i64 r6.2.2.1, .int .i64 r6.2.2.2.1, .int .i64 r6.2.2.2.2.1, .int .i64 r6.2.2.2.2.2.1, .int .i64 r6.2.2.2.2.2.2.1, .int .i64 r6.2.2.2.2.2.2.2.1], .one (.bool r6.2.2.2.2.2.2.2.2)] [.box [.ro (.pair (.pair (.int .i64) (.pair (.int .i64) (.pair (.int .i64) (.int .i64)))) (.pair (.int .i64) (.pair (.int .i64) (.pair (.int .i64) (.pair (.int .i64) (.pair (.int .i64) (.pair (.int .i64) (.pair (.int .i64) (.int .i64))))))))) r5.1, .ro (.int .i64) r5.2]] ∧
             Br (!r6.2.2.2.2.2.2.2.2) (
              Ret r lh [.one (.sl 0 none), .one (.bool false)] [.row (.int .i64) [] .own]) (
              Ck (decide ((0 : Int) ≤ ((m.length : Nat) : Int))) (
               Ck (decide (((m.length : Nat) : Int) * (8 : Nat) ≤ (roomy : Int))) (
                FL E H111 Try.f111 0 r lh 0 (S111_L0 ((m.length : Nat) : Int) 0 [r6.1, r6.2.1, r6.2.2.1, r6.2.2.2.1, r6.2.2.2.2.1, r6.2.2.2.2.2.1, r6.2.2.2.2.2.2.1, r6.2.2.2.2.2.2.2.1] []))))) ∧ (
            ∃ r7 : Int × Int × Int × Int × Int × Int × Int × Int × Bool, SC P 132 [.one (.ptr 0 0 0), .agg [.int .i64 r1.1, .int .i64 r1.2.1, .int .i64 r1.2.2.1, .int .i64 r1.2.2.2.1]] [.box [.ro (.pair (.pair (.int .i64) (.pair (.int .i64) (.pair (.int .i64) (.int .i64)))) (.pair (.int .i64) (.pair (.int .i64) (.pair (.int .i64) (.pair (.int .i64) (.pair (.int .i64) (.pair (.int .i64) (.pair (.int .i64) (.int .i64))))))))) r5.1, .ro (.int .i64) r5.2]] [.agg [.int .i64 r7.1, .int .i64 r7.2.1, .int .i64 r7.2.2.1, .int .i64 r7.2.2.2.1, .int .i64 r7.2.2.2.2.1, .int .i64 r7.2.2.2.2.2.1, .int .i64 r7.2.2.2.2.2.2.1, .int .i64 r7.2.2.2.2.2.2.2.1], .one (.bool r7.2.2.2.2.2.2.2.2)] [.box [.ro (.pair (.pair (.int .i64) (.pair (.int .i64) (.pair (.int .i64) (.int .i64)))) (.pair (.int .i64) (.pair (.int .i64) (.pair (.int .i64) (.pair (.int .i64) (.pair (.int .i64) (.pair (.int .i64) (.pair (.int .i64) (.int .i64))))))))) r5.1, .ro (.int .i64) r5.2]] ∧
             Br (!r7.2.2.2.2.2.2.2.2) (
              Ret r lh [.one (.sl 0 none), .one (.bool false)] [.row (.int .i64) [] .own]) (
              Ck (decide ((0 : Int) ≤ ((m.length : Nat) : Int))) (
               Ck (decide (((m.length : Nat) : Int) * (8 : Nat) ≤ (roomy : Int))) (
                FL E H111 Try.f111 0 r lh 0 (S111_L0 ((m.length : Nat) : Int) 0 [r7.1, r7.2.1, r7.2.2.1, r7.2.2.2.1, r7.2.2.2.2.1, r7.2.2.2.2.2.1, r7.2.2.2.2.2.2.1, r7.2.2.2.2.2.2.2.1] [])))))) ∧ (
          ∃ r8 : (List ((Int × (Int × (Int × Int))) × (Int × (Int × (Int × (Int × (Int × (Int × (Int × Int)))))))) × List Int), SC P 131 [.one (.ro (.pair (.int .i64) (.pair (.int .i64) (.pair (.int .i64) (.int .i64)))) r0.1)] [] [.one (.ptr 0 0 0)] [.box [.ro (.pair (.pair (.int .i64) (.pair (.int .i64) (.pair (.int .i64) (.int .i64)))) (.pair (.int .i64) (.pair (.int .i64) (.pair (.int .i64) (.pair (.int .i64) (.pair (.int .i64) (.pair (.int .i64) (.pair (.int .i64) (.int .i64))))))))) r8.1, .ro (.int .i64) r8.2]] ∧
           ∃ r9 : Int × Int × Int × Int × Int × Int × Int × Int × Bool, SC P 132 [.one (.ptr 0 0 0), .agg [.int .i64 r1.1, .int .i64 r1.2.1, .int .i64 r1.2.2.1, .int .i64 r1.2.2.2.1]] [.box [.ro (.pair (.pair (.int .i64) (.pair (.int .i64) (.pair (.int .i64) (.int .i64)))) (.pair (.int .i64) (.pair (.int .i64) (.pair (.int .i64) (.pair (.int .i64) (.pair (.int .i64) (.pair (.int .i64) (.pair (.int .i64) (.int .i64))))))))) r8.1, .ro (.int .i64) r8.2]] [.agg [.int .i64 r9.1, .int .i64 r9.2.1, .int .i64 r9.2.2.1, .int .i64 r9.2.2.2.1, .int .i64 r9.2.2.2.2.1, .int .i64 r9.2.2.2.2.2.1, .int .i64 r9.2.2.2.2.2.2.1, .int .i64 r9.2.2.2.2.2.2.2.1], .one (.bool r9.2.2.2.2.2.2.2.2)] [.box [.ro (.pair (.pair (.int .i64) (.pair (.int .i64) (.pair (.int .i64) (.int .i64)))) (.pair (.int .i64) (.pair (.int .i64) (.pair (.int .i64) (.pair (.int .i64) (.pair (.int .i64) (.pair (.int .i64) (.pair (.int .i64) (.int .i64))))))))) r8.1, .ro (.int .i64) r8.2]] ∧
            Br (!r9.2.2.2.2.2.2.2.2) (
             Ret r lh [.one (.sl 0 none), .one (.bool false)] [.row (.int .i64) [] .own]) (
             Ck (decide ((0 : Int) ≤ ((m.length : Nat) : Int))) (
              Ck (decide (((m.length : Nat) : Int) * (8 : Nat) ≤ (roomy : Int))) (
               FL E H111 Try.f111 0 r lh 0 (S111_L0 ((m.length : Nat) : Int) 0 [r9.1, r9.2.1, r9.2.2.1, r9.2.2.2.1, r9.2.2.2.2.1, r9.2.2.2.2.2.1, r9.2.2.2.2.2.2.1, r9.2.2.2.2.2.2.2.1] [])))))) ∧ (
         (
          ∃ r10 : (List ((Int × (Int × (Int × Int))) × (Int × (Int × (Int × (Int × (Int × (Int × (Int × Int)))))))) × List Int), SC P 131 [.one (.ro (.pair (.int .i64) (.pair (.int .i64) (.pair (.int .i64) (.int .i64)))) r0.1)] [] [.one (.ptr 0 0 0)] [.box [.ro (.pair (.pair (.int .i64) (.pair (.int .i64) (.pair (.int .i64) (.int .i64)))) (.pair (.int .i64) (.pair (.int .i64) (.pair (.int .i64) (.pair (.int .i64) (.pair (.int .i64) (.pair (.int .i64) (.pair (.int .i64) (.int .i64))))))))) r10.1, .ro (.int .i64) r10.2]] ∧
           ∃ r11 : Int × Int × Int × Int × Int × Int × Int × Int × Bool, SC P 132 [.one (.ptr 0 0 0), .agg [.int .i64 r1.1, .int .i64 r1.2.1, .int .i64 r1.2.2.1, .int .i64 r1.2.2.2.1]] [.box [.ro (.pair (.pair (.int .i64) (.pair (.int .i64) (.pair (.int .i64) (.int .i64)))) (.pair (.int .i64) (.pair (.int .i64) (.pair (.int .i64) (.pair (.int .i64) (.pair (.int .i64) (.pair (.int .i64) (.pair (.int .i64) (.int .i64))))))))) r10.1, .ro (.int .i64) r10.2]] [.agg [.int .i64 r11.1, .int .i64 r11.2.1, .int .i64 r11.2.2.1, .int .i64 r11.2.2.2.1, .int .i64 r11.2.2.2.2.1, .int .i64 r11.2.2.2.2.2.1, .int .i64 r11.2.2.2.2.2.2.1, .int .i64 r11.2.2.2.2.2.2.2.1], .one (.bool r11.2.2.2.2.2.2.2.2)] [.box [.ro (.pair (.pair (.int .i64) (.pair (.int .i64) (.pair (.int .i64) (.int .i64)))) (.pair (.int .i64) (.pair (.int .i64) (.pair (.int .i64) (.pair (.int .i64) (.pair (.int .i64) (.pair (.int .i64) (.pair (.int .i64) (.int .i64))))))))) r10.1, .ro (.int .i64) r10.2]] ∧
            Br (!r11.2.2.2.2.2.2.2.2) (
             Ret r lh [.one (.sl 0 none), .one (.bool false)] [.row (.int .i64) [] .own]) (
             Ck (decide ((0 : Int) ≤ ((m.length : Nat) : Int))) (
              Ck (decide (((m.length : Nat) : Int) * (8 : Nat) ≤ (roomy : Int))) (
               FL E H111 Try.f111 0 r lh 0 (S111_L0 ((m.length : Nat) : Int) 0 [r11.1, r11.2.1, r11.2.2.1, r11.2.2.2.1, r11.2.2.2.2.1, r11.2.2.2.2.2.1, r11.2.2.2.2.2.2.1, r11.2.2.2.2.2.2.2.1] []))))) ∧ (
          ∃ r12 : (List ((Int × (Int × (Int × Int))) × (Int × (Int × (Int × (Int × (Int × (Int × (Int × Int)))))))) × List Int), SC P 131 [.one (.ro (.pair (.int .i64) (.pair (.int .i64) (.pair (.int .i64) (.int .i64)))) r0.1)] [] [.one (.ptr 0 0 0)] [.box [.ro (.pair (.pair (.int .i64) (.pair (.int .i64) (.pair (.int .i64) (.int .i64)))) (.pair (.int .i64) (.pair (.int .i64) (.pair (.int .i64) (.pair (.int .i64) (.pair (.int .i64) (.pair (.int .i64) (.pair (.int .i64) (.int .i64))))))))) r12.1, .ro (.int .i64) r12.2]] ∧
           ∃ r13 : Int × Int × Int × Int × Int × Int × Int × Int × Bool, SC P 132 [.one (.ptr 0 0 0), .agg [.int .i64 r1.1, .int .i64 r1.2.1, .int .i64 r1.2.2.1, .int .i64 r1.2.2.2.1]] [.box [.ro (.pair (.pair (.int .i64) (.pair (.int .i64) (.pair (.int .i64) (.int .i64)))) (.pair (.int .i64) (.pair (.int .i64) (.pair (.int .i64) (.pair (.int .i64) (.pair (.int .i64) (.pair (.int .i64) (.pair (.int .i64) (.int .i64))))))))) r12.1, .ro (.int .i64) r12.2]] [.agg [.int .i64 r13.1, .int .i64 r13.2.1, .int .i64 r13.2.2.1, .int .i64 r13.2.2.2.1, .int .i64 r13.2.2.2.2.1, .int .i64 r13.2.2.2.2.2.1, .int .i64 r13.2.2.2.2.2.2.1, .int .i64 r13.2.2.2.2.2.2.2.1], .one (.bool r13.2.2.2.2.2.2.2.2)] [.box [.ro (.pair (.pair (.int .i64) (.pair (.int .i64) (.pair (.int .i64) (.int .i64)))) (.pair (.int .i64) (.pair (.int .i64) (.pair (.int .i64) (.pair (.int .i64) (.pair (.int .i64) (.pair (.int .i64) (.pair (.int .i64) (.int .i64))))))))) r12.1, .ro (.int .i64) r12.2]] ∧
            Br (!r13.2.2.2.2.2.2.2.2) (
             Ret r lh [.one (.sl 0 none), .one (.bool false)] [.row (.int .i64) [] .own]) (
             Ck (decide ((0 : Int) ≤ ((m.length : Nat) : Int))) (
              Ck (decide (((m.length : Nat) : Int) * (8 : Nat) ≤ (roomy : Int))) (
               FL E H111 Try.f111 0 r lh 0 (S111_L0 ((m.length : Nat) : Int) 0 [r13.1, r13.2.1, r13.2.2.1, r13.2.2.2.1, r13.2.2.2.2.1, r13.2.2.2.2.2.1, r13.2.2.2.2.2.2.1, r13.2.2.2.2.2.2.2.1] [])))))))))) := by kernel_rfl
theorem eq111_L0 (x43 : Int) (x44 : Int) (h0 : List Int) (h1 : List Int) (r : List W) (lh : Heap) : FL1 E H111 Try.f111 0 r lh 0 (S111_L0 x43 x44 h0 h1) =
  (
   Br (decide (x44 < x43)) (
    Ck (decide ((0 : Int) ≤ x44)) (
     Ck (decide (x44 < (8 : Int))) (
      Ck (Nat.ble ((0 + (x44.toNat * 1)) + 1) h0.length) (
       Ck (Nat.ble ((h1.length + 1) * 8) roomy) (
        FL E H111 Try.f111 0 r lh 0 (S111_L0 x43 (IntKind.wrap .i64 (x44 + 1)) h0 (h1 ++ [(h0.getD (0 + (x44.toNat * 1)) 0)]))))))) (
    Ret r lh [.one (.sl 0 none), .one (.bool true)] [.row (.int .i64) h1 .own])) := by kernel_rfl
def okBy (m : List (List Int)) (v : List Int) : Bool := (matOk m && vecOk v) && (byK (spanF (matF m)).1 (vecF v)).2
def spanBy (m : List (List Int)) (v : List Int) : List Int := bif okBy m v then mapR (fun j => (byK (spanF (matF m)).1 (vecF v)).1.l.getD j 0) 0 m.length else []
theorem l111 (b : V8) (m : Nat) (hm : m ≤ 8) : ∀ (n i : Nat) (out : List Int), i + n = m → out.length = i → FL E H111 Try.f111 0 [.one (.sl 0 none), .one (.bool true)] [.row (.int .i64) (out ++ mapR (fun j => b.l.getD j 0) i n) .own] 0 (S111_L0 (m : Int) (i : Int) b.l out)
  | 0, i, out, h, ho => by
    refine FL_of1 ?_
    rw [eq111_L0]
    exact Br_f (by omega) ⟨rfl, by rw [mapR, List.append_nil]⟩
  | n + 1, i, out, h, ho => by
    refine FL_of1 ?_
    rw [eq111_L0, wS (by omega), mapR]
    simp only [Int.toNat_natCast, Nat.mul_one, Nat.zero_add]
    refine Br_t (by omega) (Ck_d (by omega) (Ck_d (by omega) (Ck_le (by simp [V8.l]; omega) (Ck_room (by omega) ?_))))
    have := l111 b m hm n (i + 1) (out ++ [b.l.getD i 0]) (by omega) (by simp; omega)
    rw [List.append_assoc] at this
    exact this
theorem c111 (m : List (List Int)) (v : List Int) (hl : m.length ≤ 1048576) (hs : ∀ l ∈ m, l.length ≤ 1048576) (hv : v.length ≤ 1048576) : SC P 111 [.one (.ro (.sl (.int .i64)) m), .one (.ro (.int .i64) v)] [] [.one (.sl 0 none), .one (.bool (okBy m v))] [.row (.int .i64) (spanBy m v) .own] := by
  refine SC_of_FB (H := H111) E_ok Try.func111 (by kernel_rfl) ?_
  rw [eq111]
  refine ⟨(matF m, matOk m), c130 m hl hs, ((vecF v).1, (vecF v).2.1, (vecF v).2.2.1, (vecF v).2.2.2, vecOk v), c94 v hv, Br_nb (fun e => ?_) (fun e => Br_nb (fun e2 => ?_) (fun e2 => ?_))⟩
  · have e : matOk m = false := e
    rw [spanBy, okBy, e]; exact ⟨rfl, rfl⟩
  · have e : matOk m = true := e
    have e2 : vecOk v = false := e2
    rw [spanBy, okBy, e, e2]; exact ⟨rfl, rfl⟩
  · have e : matOk m = true := e
    have e2 : vecOk v = true := e2
    obtain ⟨h1, h2⟩ := matF_len e
    have hsp := c131 (matF m) (matF_ok m) (by omega)
    have hb := c132 _ (spanF_ok (matF_ok m)) (by have := spanF_len (matF m); omega) (spanF (matF m)).2 (vecF v) (vecF_ok v)
    rw [spanBy, okBy, e, e2, Bool.true_and, Bool.true_and]
    have hF : (byK (spanF (matF m)).1 (vecF v)).2 = true → FL E H111 Try.f111 0 [.one (.sl 0 none), .one (.bool (byK (spanF (matF m)).1 (vecF v)).2)] [.row (.int .i64) (bif (byK (spanF (matF m)).1 (vecF v)).2 then mapR (fun j => (byK (spanF (matF m)).1 (vecF v)).1.l.getD j 0) 0 m.length else []) .own] 0 (S111_L0 (m.length : Int) 0 (byK (spanF (matF m)).1 (vecF v)).1.l []) := by
      intro e3
      rw [e3]
      exact l111 _ m.length h2 m.length 0 [] (by omega) rfl
    exact ⟨⟨(_, _), hsp, ⟨((byK (spanF (matF m)).1 (vecF v)).1.1, (byK (spanF (matF m)).1 (vecF v)).1.2.1, (byK (spanF (matF m)).1 (vecF v)).1.2.2.1, (byK (spanF (matF m)).1 (vecF v)).1.2.2.2.1, (byK (spanF (matF m)).1 (vecF v)).1.2.2.2.2.1, (byK (spanF (matF m)).1 (vecF v)).1.2.2.2.2.2.1, (byK (spanF (matF m)).1 (vecF v)).1.2.2.2.2.2.2.1, (byK (spanF (matF m)).1 (vecF v)).1.2.2.2.2.2.2.2, (byK (spanF (matF m)).1 (vecF v)).2), hb, Br_nb (fun e3 => ⟨by rw [show (byK (spanF (matF m)).1 (vecF v)).2 = false from e3], by rw [show (byK (spanF (matF m)).1 (vecF v)).2 = false from e3]; rfl⟩) (fun e3 => Ck_d (by omega) (Ck_roomI (by omega) (hF e3)))⟩, ⟨((byK (spanF (matF m)).1 (vecF v)).1.1, (byK (spanF (matF m)).1 (vecF v)).1.2.1, (byK (spanF (matF m)).1 (vecF v)).1.2.2.1, (byK (spanF (matF m)).1 (vecF v)).1.2.2.2.1, (byK (spanF (matF m)).1 (vecF v)).1.2.2.2.2.1, (byK (spanF (matF m)).1 (vecF v)).1.2.2.2.2.2.1, (byK (spanF (matF m)).1 (vecF v)).1.2.2.2.2.2.2.1, (byK (spanF (matF m)).1 (vecF v)).1.2.2.2.2.2.2.2, (byK (spanF (matF m)).1 (vecF v)).2), hb, Br_nb (fun e3 => ⟨by rw [show (byK (spanF (matF m)).1 (vecF v)).2 = false from e3], by rw [show (byK (spanF (matF m)).1 (vecF v)).2 = false from e3]; rfl⟩) (fun e3 => Ck_d (by omega) (Ck_roomI (by omega) (hF e3)))⟩⟩, ⟨⟨⟨(_, _), hsp, ⟨((byK (spanF (matF m)).1 (vecF v)).1.1, (byK (spanF (matF m)).1 (vecF v)).1.2.1, (byK (spanF (matF m)).1 (vecF v)).1.2.2.1, (byK (spanF (matF m)).1 (vecF v)).1.2.2.2.1, (byK (spanF (matF m)).1 (vecF v)).1.2.2.2.2.1, (byK (spanF (matF m)).1 (vecF v)).1.2.2.2.2.2.1, (byK (spanF (matF m)).1 (vecF v)).1.2.2.2.2.2.2.1, (byK (spanF (matF m)).1 (vecF v)).1.2.2.2.2.2.2.2, (byK (spanF (matF m)).1 (vecF v)).2), hb, Br_nb (fun e3 => ⟨by rw [show (byK (spanF (matF m)).1 (vecF v)).2 = false from e3], by rw [show (byK (spanF (matF m)).1 (vecF v)).2 = false from e3]; rfl⟩) (fun e3 => Ck_d (by omega) (Ck_roomI (by omega) (hF e3)))⟩, ⟨((byK (spanF (matF m)).1 (vecF v)).1.1, (byK (spanF (matF m)).1 (vecF v)).1.2.1, (byK (spanF (matF m)).1 (vecF v)).1.2.2.1, (byK (spanF (matF m)).1 (vecF v)).1.2.2.2.1, (byK (spanF (matF m)).1 (vecF v)).1.2.2.2.2.1, (byK (spanF (matF m)).1 (vecF v)).1.2.2.2.2.2.1, (byK (spanF (matF m)).1 (vecF v)).1.2.2.2.2.2.2.1, (byK (spanF (matF m)).1 (vecF v)).1.2.2.2.2.2.2.2, (byK (spanF (matF m)).1 (vecF v)).2), hb, Br_nb (fun e3 => ⟨by rw [show (byK (spanF (matF m)).1 (vecF v)).2 = false from e3], by rw [show (byK (spanF (matF m)).1 (vecF v)).2 = false from e3]; rfl⟩) (fun e3 => Ck_d (by omega) (Ck_roomI (by omega) (hF e3)))⟩⟩, ⟨(_, _), hsp, ⟨((byK (spanF (matF m)).1 (vecF v)).1.1, (byK (spanF (matF m)).1 (vecF v)).1.2.1, (byK (spanF (matF m)).1 (vecF v)).1.2.2.1, (byK (spanF (matF m)).1 (vecF v)).1.2.2.2.1, (byK (spanF (matF m)).1 (vecF v)).1.2.2.2.2.1, (byK (spanF (matF m)).1 (vecF v)).1.2.2.2.2.2.1, (byK (spanF (matF m)).1 (vecF v)).1.2.2.2.2.2.2.1, (byK (spanF (matF m)).1 (vecF v)).1.2.2.2.2.2.2.2, (byK (spanF (matF m)).1 (vecF v)).2), hb, Br_nb (fun e3 => ⟨by rw [show (byK (spanF (matF m)).1 (vecF v)).2 = false from e3], by rw [show (byK (spanF (matF m)).1 (vecF v)).2 = false from e3]; rfl⟩) (fun e3 => Ck_d (by omega) (Ck_roomI (by omega) (hF e3)))⟩⟩⟩, ⟨⟨(_, _), hsp, ⟨((byK (spanF (matF m)).1 (vecF v)).1.1, (byK (spanF (matF m)).1 (vecF v)).1.2.1, (byK (spanF (matF m)).1 (vecF v)).1.2.2.1, (byK (spanF (matF m)).1 (vecF v)).1.2.2.2.1, (byK (spanF (matF m)).1 (vecF v)).1.2.2.2.2.1, (byK (spanF (matF m)).1 (vecF v)).1.2.2.2.2.2.1, (byK (spanF (matF m)).1 (vecF v)).1.2.2.2.2.2.2.1, (byK (spanF (matF m)).1 (vecF v)).1.2.2.2.2.2.2.2, (byK (spanF (matF m)).1 (vecF v)).2), hb, Br_nb (fun e3 => ⟨by rw [show (byK (spanF (matF m)).1 (vecF v)).2 = false from e3], by rw [show (byK (spanF (matF m)).1 (vecF v)).2 = false from e3]; rfl⟩) (fun e3 => Ck_d (by omega) (Ck_roomI (by omega) (hF e3)))⟩⟩, ⟨(_, _), hsp, ⟨((byK (spanF (matF m)).1 (vecF v)).1.1, (byK (spanF (matF m)).1 (vecF v)).1.2.1, (byK (spanF (matF m)).1 (vecF v)).1.2.2.1, (byK (spanF (matF m)).1 (vecF v)).1.2.2.2.1, (byK (spanF (matF m)).1 (vecF v)).1.2.2.2.2.1, (byK (spanF (matF m)).1 (vecF v)).1.2.2.2.2.2.1, (byK (spanF (matF m)).1 (vecF v)).1.2.2.2.2.2.2.1, (byK (spanF (matF m)).1 (vecF v)).1.2.2.2.2.2.2.2, (byK (spanF (matF m)).1 (vecF v)).2), hb, Br_nb (fun e3 => ⟨by rw [show (byK (spanF (matF m)).1 (vecF v)).2 = false from e3], by rw [show (byK (spanF (matF m)).1 (vecF v)).2 = false from e3]; rfl⟩) (fun e3 => Ck_d (by omega) (Ck_roomI (by omega) (hF e3)))⟩⟩⟩⟩⟩
/-! loop.example/keelson/impl.SpanHas -/
def H58 : Hint := ⟨[], [], [], [], [], [], []⟩
theorem eq58 (m : List (List Int)) (v : List Int) (r : List W) (lh : Heap) : FB E H58 Try.f58 [.one (.ro (.sl (.int .i64)) m), .one (.ro (.int .i64) v)] [] r lh =
  (
   ∃ r0 : List Int × Bool, SC P 111 [.one (.ro (.sl (.int .i64)) m), .one (.ro (.int .i64) v)] [] [.one (.sl 0 none), .one (.bool r0.2)] [.row (.int .i64) r0.1 .own] ∧
    Ret r lh [.one (.bool r0.2)] []) := by kernel_rfl
theorem c58 (m : List (List Int)) (v : List Int) (hl : m.length ≤ 1048576) (hs : ∀ l ∈ m, l.length ≤ 1048576) (hv : v.length ≤ 1048576) : SC P 58 [.one (.ro (.sl (.int .i64)) m), .one (.ro (.int .i64) v)] [] [.one (.bool (okBy m v))] [] := by
  refine SC_of_FB (H := H58) E_ok Try.func58 (by kernel_rfl) ?_
  rw [eq58]
  exact ⟨(_, _), c111 m v hl hs hv, rfl, rfl⟩

/-! loop.example/keelson/impl.shardOk -/
def H101 : Hint := ⟨[], [], [], [], [], [], []⟩
theorem eq101 (at0 : Int) (r : List W) (lh : Heap) : FB E H101 Try.f101 [.one (.int .i64 at0)] [] r lh =
  (
   ∃ r0 : Bool, SC P 66 [.one (.int .i64 at0), .one (.int .i64 0), .one (.int .i64 7)] [] [.one (.bool r0)] [] ∧
    Ret r lh [.one (.bool r0)] []) := by kernel_rfl
theorem c101 (k : Int) : SC P 101 [.one (.int .i64 k)] [] [.one (.bool (inB k 0 7))] [] := by
  refine SC_of_FB (H := H101) E_ok Try.func101 (by kernel_rfl) ?_
  rw [eq101]
  exact ⟨_, c66 _ _ _, rfl, rfl⟩
/-! loop.example/keelson/impl.CodeRow -/
def H40 : Hint := ⟨[], [], [], [], [.one (.own (.int .i64)), .one (.c .bool)], [], []⟩
theorem eq40 (kind : Int) (at0 : Int) (r : List W) (lh : Heap) : FB E H40 Try.f40 [.one (.int .i64 kind), .one (.int .i64 at0)] [] r lh =
  (
   ∃ r0 : Bool, SC P 89 [.one (.int .i64 kind)] [] [.one (.bool r0)] [] ∧
    Br (!r0) (
     Ret r lh [.one (.sl 0 none), .one (.bool false)] [.row (.int .i64) [] .own]) (
     ∃ r1 : Bool, SC P 101 [.one (.int .i64 at0)] [] [.one (.bool r1)] [] ∧
      Br (!r1) (
       Ret r lh [.one (.sl 0 none), .one (.bool false)] [.row (.int .i64) [] .own]) (
       ∃ r2 : Int × Int × Int × Int, SC P 92 [.one (.int .i64 kind), .one (.int .i64 at0)] [] [.agg [.int .i64 r2.1, .int .i64 r2.2.1, .int .i64 r2.2.2.1, .int .i64 r2.2.2.2]] [] ∧
        ∃ r3 : List Int, SC P 93 [.agg [.int .i64 r2.1, .int .i64 r2.2.1, .int .i64 r2.2.2.1, .int .i64 r2.2.2.2]] [] [.one (.sl 0 none)] [.row (.int .i64) r3 .own] ∧
         Ret r lh [.one (.sl 0 none), .one (.bool true)] [.row (.int .i64) r3 .own]))) := by kernel_rfl
def codeRow (kind i : Int) : List Int := bif inB kind 1 2 && inB i 0 7 then (rowV kind i).l else []
theorem c40 (kind i : Int) : SC P 40 [.one (.int .i64 kind), .one (.int .i64 i)] [] [.one (.sl 0 none), .one (.bool (inB kind 1 2 && inB i 0 7))] [.row (.int .i64) (codeRow kind i) .own] := by
  refine SC_of_FB (H := H40) E_ok Try.func40 (by kernel_rfl) ?_
  rw [eq40]
  refine ⟨_, c89 kind, Br_nb (fun e => ⟨by rw [e]; rfl, by rw [codeRow, e]; rfl⟩) (fun e => ⟨_, c101 i, Br_nb (fun e2 => ⟨by rw [e, e2]; rfl, by rw [codeRow, e, e2]; rfl⟩) (fun e2 => ?_)⟩)⟩
  obtain ⟨h1, h2⟩ := inB_iff.1 e2
  rw [codeRow, e, e2]
  exact ⟨_, c92 kind i h1 h2, _, c93 _, rfl, rfl⟩
/-! loop.example/keelson/impl.CodeAll -/
def H34 : Hint := ⟨[], [], [], [], [.one (.own (.int .i64))], [], []⟩
theorem eq34 (kind : Int) (data : List Int) (r : List W) (lh : Heap) : FB E H34 Try.f34 [.one (.int .i64 kind), .one (.ro (.int .i64) data)] [] r lh =
  (
   ∃ r0 : Int × Int × Int × Int × Bool, SC P 94 [.one (.ro (.int .i64) data)] [] [.agg [.int .i64 r0.1, .int .i64 r0.2.1, .int .i64 r0.2.2.1, .int .i64 r0.2.2.2.1], .one (.bool r0.2.2.2.2)] [] ∧
    Br (!r0.2.2.2.2) (
     Ret r lh [.one (.sl 0 none)] [.row (.int .i64) [] .own]) (
     ∃ r1 : Bool, SC P 89 [.one (.int .i64 kind)] [] [.one (.bool r1)] [] ∧
      Br (!r1) (
       Ret r lh [.one (.sl 0 none)] [.row (.int .i64) [] .own]) (
       ∃ r2 : List Int, SC P 95 [.one (.int .i64 kind), .agg [.int .i64 r0.1, .int .i64 r0.2.1, .int .i64 r0.2.2.1, .int .i64 r0.2.2.2.1]] [] [.one (.sl 0 none)] [.row (.int .i64) r2 .own] ∧
        Ret r lh [.one (.sl 0 none)] [.row (.int .i64) r2 .own]))) := by kernel_rfl
def codeAll (kind : Int) (d : List Int) : List Int := bif inB kind 1 2 && vecOk d then allF kind (vecF d) else []
theorem codeAll_len {kind : Int} {d : List Int} : (codeAll kind d).length ≤ 8 := by
  rw [codeAll]
  cases inB kind 1 2 && vecOk d
  · exact Nat.zero_le _
  · exact Nat.le_of_eq (allF_length _ _)
theorem c34 (kind : Int) (d : List Int) (hd : d.length ≤ 1048576) : SC P 34 [.one (.int .i64 kind), .one (.ro (.int .i64) d)] [] [.one (.sl 0 none)] [.row (.int .i64) (codeAll kind d) .own] := by
  refine SC_of_FB (H := H34) E_ok Try.func34 (by kernel_rfl) ?_
  rw [eq34]
  refine ⟨((vecF d).1, (vecF d).2.1, (vecF d).2.2.1, (vecF d).2.2.2, vecOk d), c94 d hd, Br_nb (fun e => ⟨rfl, by rw [codeAll, show vecOk d = false from e, Bool.and_false]; rfl⟩) (fun e => ⟨_, c89 kind, Br_nb (fun e2 => ⟨rfl, by rw [codeAll, e2]; rfl⟩) (fun e2 => ?_)⟩)⟩
  rw [codeAll, show vecOk d = true from e, e2]
  exact ⟨_, c95 kind (vecF d) (vecF_ok d), rfl, rfl⟩
def ValsP (vals : List Int) : Prop := vals.length = 8 ∧ ∀ i, FOk (vals.getD i 0)
def valsOk (l : List Int) : Bool := decide (l.length = 8) && l.all (fun n => inB n 0 30)
theorem vals_p {l : List Int} (h : valsOk l = true) : ValsP l := by
  rw [valsOk, Bool.and_eq_true, decide_eq_true_iff, List.all_eq_true] at h
  refine ⟨h.1, fun i => ?_⟩
  by_cases hi : i < l.length
  · rw [getD_eq hi]; exact inB_iff.1 (h.2 _ (List.getElem_mem hi))
  · rw [List.getD, List.getElem?_eq_none (by omega)]; exact ⟨Int.le_refl _, by decide⟩
theorem p_vals {l : List Int} (h : ValsP l) : valsOk l = true := by
  rw [valsOk, Bool.and_eq_true, decide_eq_true_iff, List.all_eq_true]
  refine ⟨h.1, fun x hx => ?_⟩
  obtain ⟨i, hi, rfl⟩ := List.getElem_of_mem hx
  have := h.2 i
  rw [getD_eq hi] at this
  exact inB_iff.2 this
abbrev zeroT : V4 × Int := (zero4, 0)
def TolOk (rows : List (V4 × Int)) : Prop := ∀ r ∈ rows, VOk r.1 ∧ FOk r.2
theorem getD_set_ne' {α : Type} {l : List α} {i j : Nat} {x z : α} (h : i ≠ j) : (l.set i x).getD j z = l.getD j z := by
  rw [List.getD, List.getElem?_set_ne h]; rfl
theorem tok_get {rows : List (V4 × Int)} (h : TolOk rows) (i : Nat) : VOk (rows.getD i zeroT).1 ∧ FOk (rows.getD i zeroT).2 := by
  by_cases hi : i < rows.length
  · rw [getD_eq hi]; exact h _ (List.getElem_mem hi)
  · rw [List.getD, List.getElem?_eq_none (by omega)]
    exact ⟨⟨⟨by decide, by decide⟩, ⟨by decide, by decide⟩, ⟨by decide, by decide⟩, by decide, by decide⟩, by decide, by decide⟩
theorem tok_set {rows : List (V4 × Int)} (h : TolOk rows) (j : Nat) {r : V4 × Int} (hr : VOk r.1 ∧ FOk r.2) : TolOk (rows.set j r) := by
  intro x hx
  rcases List.mem_or_eq_of_mem_set hx with h' | rfl
  · exact h _ h'
  · exact hr
theorem elimJ_ok {i lead : Nat} : ∀ {n j : Nat} {rows : List (V4 × Int)}, TolOk rows → TolOk (elimJ subV 0 i lead j n rows)
  | 0, _, _, h => h
  | n + 1, j, rows, h => by
    rw [elimJ]
    refine elimJ_ok ?_
    cases !decide (j = i) && !decide ((rows.getD j (zero4, (0 : Int))).1.l.getD lead 0 = 0)
    · exact h
    · exact tok_set h j ⟨vplus_ok _ _, fok_mod _⟩
theorem elimJ_len {β : Type} {sub : Int → β → β → β} {zb : β} {i lead : Nat} : ∀ {n j : Nat} {rows : List (V4 × β)}, (elimJ sub zb i lead j n rows).length = rows.length
  | 0, _, _ => rfl
  | n + 1, j, rows => by
    rw [elimJ, elimJ_len]
    cases !decide (j = i) && !decide ((rows.getD j (zero4, zb)).1.l.getD lead 0 = 0)
    · rfl
    · rw [cond_true, List.length_set]
theorem told_ok {w : List Int} {ks : List Kept} (h : RowsOk ks) : TolOk (ks.map (toldF w)) := by
  intro r hr
  obtain ⟨k, hk, rfl⟩ := List.mem_map.1 hr
  exact ⟨(h k hk).1.1, accR_ok ⟨by decide, by decide⟩⟩
theorem vals_at {vals : List Int} (hv : ValsP vals) (shards : List Int) (i : Nat) : FOk ((valsAt vals shards).getD i 0) := by
  by_cases hi : i < (valsAt vals shards).length
  · rw [getD_eq hi]
    obtain ⟨x, _, e⟩ := List.mem_map.1 (List.getElem_mem hi)
    rw [← e]; exact hv.2 _
  · rw [List.getD, List.getElem?_eq_none (by omega)]; exact ⟨by decide, by decide⟩
theorem told_at (r : V4 × Int) {j : Nat} (h : j < 4) : ([r.1.1, r.1.2.1, r.1.2.2.1, r.1.2.2.2, r.2] : List Int).getD j 0 = r.1.l.getD j 0 := by
  have : j = 0 ∨ j = 1 ∨ j = 2 ∨ j = 3 := by omega
  rcases this with rfl | rfl | rfl | rfl <;> rfl
/-! loop.example/keelson/impl.valsOk -/
def H78 : Hint := ⟨[], [], [], [], [], [], []⟩
theorem eq78 (vals : List Int) (r : List W) (lh : Heap) : FB E H78 Try.f78 [.one (.ro (.int .i64) vals)] [] r lh =
  (
   ∃ r0 : Bool, SC P 97 [.one (.ro (.int .i64) vals), .one (.int .i64 8)] [] [.one (.bool r0)] [] ∧
    Ret r lh [.one (.bool r0)] []) := by kernel_rfl
theorem c78 (l : List Int) (hl : l.length ≤ 1048576) : SC P 78 [.one (.ro (.int .i64) l)] [] [.one (.bool (valsOk l))] [] := by
  refine SC_of_FB (H := H78) E_ok Try.func78 (by kernel_rfl) ?_
  rw [eq78]
  have e : (decide ((l.length : Int) = 8) && l.all (fun n => inB n 0 30)) = valsOk l := by
    rw [valsOk]
    congr 1
    exact decide_eq_decide.2 (by omega)
  have := c97 l 8 hl
  rw [e] at this
  exact ⟨_, this, rfl, rfl⟩

end Go.Proofs.Ytnbdhclkmcfdfaa.Sh
