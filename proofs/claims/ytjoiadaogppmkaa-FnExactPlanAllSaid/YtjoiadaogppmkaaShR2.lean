/- Rows and shards that are read: contracts of the program's functions. -/
import Derived.Test.YtjoiadaogppmkaaShR1
namespace Go.Proofs.Ytjoiadaogppmkaa.Sh
open Go
set_option linter.unusedVariables false
set_option linter.unusedSimpArgs false
/-! (*loop.example/keelson/impl.span).by -/
def H106 : Hint := ⟨[[(4, 0, .bool), (6, 0, .bool), (12, 0, .bool)]], [], [], [], [], [], [(7, .fork [0, 1, 2, 4] 3 (.lin [5, 6, 7]) 6 (.lin [3, 5, 7]))]⟩
def S106_L0 (x12 : Int) (b0_0 : List ((Int × (Int × (Int × Int))) × (Int × (Int × (Int × (Int × (Int × (Int × (Int × Int))))))))) (b0_1 : List Int) (h1 : List Int) (h2 : List Int) : St := ⟨[(4, .w (.one (.ptr 1 0 0))), (6, .w (.one (.ptr 2 0 0))), (12, .w (.one (.int .i64 x12)))], [.box [.ro (.pair (.pair (.int .i64) (.pair (.int .i64) (.pair (.int .i64) (.int .i64)))) (.pair (.int .i64) (.pair (.int .i64) (.pair (.int .i64) (.pair (.int .i64) (.pair (.int .i64) (.pair (.int .i64) (.pair (.int .i64) (.int .i64))))))))) b0_0, .ro (.int .i64) b0_1], .row (.int .i64) h1 .var, .row (.int .i64) h2 .var]⟩
theorem eq106 (v : V4) (rows : List Kept) (pv : List Int) (r : List W) (lh : Heap) : FB E H106 Try.f106 [.one (.ptr 0 0 0), .agg [.int .i64 v.1, .int .i64 v.2.1, .int .i64 v.2.2.1, .int .i64 v.2.2.2]] [.box [.ro (.pair (.pair (.int .i64) (.pair (.int .i64) (.pair (.int .i64) (.int .i64)))) (.pair (.int .i64) (.pair (.int .i64) (.pair (.int .i64) (.pair (.int .i64) (.pair (.int .i64) (.pair (.int .i64) (.pair (.int .i64) (.int .i64))))))))) rows, .ro (.int .i64) pv]] r lh =
  (
   ∃ r0 : Int × Int × Int × Int × Int × Int × Int × Int × Int × Int × Int × Int, SC P 131 [.one (.ptr 0 0 0), .agg [.int .i64 v.1, .int .i64 v.2.1, .int .i64 v.2.2.1, .int .i64 v.2.2.2, .int .i64 0, .int .i64 0, .int .i64 0, .int .i64 0, .int .i64 0, .int .i64 0, .int .i64 0, .int .i64 0]] [.box [.ro (.pair (.pair (.int .i64) (.pair (.int .i64) (.pair (.int .i64) (.int .i64)))) (.pair (.int .i64) (.pair (.int .i64) (.pair (.int .i64) (.pair (.int .i64) (.pair (.int .i64) (.pair (.int .i64) (.pair (.int .i64) (.int .i64))))))))) rows, .ro (.int .i64) pv]] [.agg [.int .i64 r0.1, .int .i64 r0.2.1, .int .i64 r0.2.2.1, .int .i64 r0.2.2.2.1, .int .i64 r0.2.2.2.2.1, .int .i64 r0.2.2.2.2.2.1, .int .i64 r0.2.2.2.2.2.2.1, .int .i64 r0.2.2.2.2.2.2.2.1, .int .i64 r0.2.2.2.2.2.2.2.2.1, .int .i64 r0.2.2.2.2.2.2.2.2.2.1, .int .i64 r0.2.2.2.2.2.2.2.2.2.2.1, .int .i64 r0.2.2.2.2.2.2.2.2.2.2.2]] [.box [.ro (.pair (.pair (.int .i64) (.pair (.int .i64) (.pair (.int .i64) (.int .i64)))) (.pair (.int .i64) (.pair (.int .i64) (.pair (.int .i64) (.pair (.int .i64) (.pair (.int .i64) (.pair (.int .i64) (.pair (.int .i64) (.int .i64))))))))) rows, .ro (.int .i64) pv]] ∧
    FL E H106 Try.f106 1 r lh 0 (S106_L0 0 rows pv [0, 0, 0, 0, 0, 0, 0, 0] [r0.1, r0.2.1, r0.2.2.1, r0.2.2.2.1, r0.2.2.2.2.1, r0.2.2.2.2.2.1, r0.2.2.2.2.2.2.1, r0.2.2.2.2.2.2.2.1, r0.2.2.2.2.2.2.2.2.1, r0.2.2.2.2.2.2.2.2.2.1, r0.2.2.2.2.2.2.2.2.2.2.1, r0.2.2.2.2.2.2.2.2.2.2.2])) := by kernel_rfl
theorem eq106_L0 (x12 : Int) (b0_0 : List ((Int × (Int × (Int × Int))) × (Int × (Int × (Int × (Int × (Int × (Int × (Int × Int))))))))) (b0_1 : List Int) (h1 : List Int) (h2 : List Int) (r : List W) (lh : Heap) : FL1 E H106 Try.f106 1 r lh 0 (S106_L0 x12 b0_0 b0_1 h1 h2) =
  (
   Br (decide (x12 < (8 : Int))) (
    Ck (decide ((0 : Int) ≤ x12)) (
     Ck (decide (x12 < (8 : Int))) (
      Ck (Nat.ble ((4 + (x12.toNat * 1)) + 1) h2.length) (
       ∃ r0 : Int, SC P 133 [.one (.int .i64 (IntKind.wrap .i64 (0 - (h2.getD (4 + (x12.toNat * 1)) 0))))] [] [.one (.int .i64 r0)] [] ∧
        Ck (decide ((0 : Int) ≤ x12)) (
         Ck (decide (x12 < (8 : Int))) (
          Ck (Nat.ble ((4 + (x12.toNat * 1)) + 1) h2.length) (
           FL E H106 Try.f106 1 r lh 0 (S106_L0 (IntKind.wrap .i64 (x12 + 1)) b0_0 b0_1 h1 (h2.set (4 + (x12.toNat * 1)) r0))))))))) (
    Ck (Nat.ble 12 h2.length) (
     (
      Ck (Nat.ble 4 h2.length) (
       Ck (Nat.ble 8 h1.length) (
        Ck (Nat.ble 8 (((((((((h1.set 0 (h2.getD 4 0)).set 1 (h2.getD 5 0)).set 2 (h2.getD 6 0)).set 3 (h2.getD 7 0)).set 4 (h2.getD 8 0)).set 5 (h2.getD 9 0)).set 6 (h2.getD 10 0)).set 7 (h2.getD 11 0)).length)) (
         Ret r lh [.agg [.int .i64 (((((((((h1.set 0 (h2.getD 4 0)).set 1 (h2.getD 5 0)).set 2 (h2.getD 6 0)).set 3 (h2.getD 7 0)).set 4 (h2.getD 8 0)).set 5 (h2.getD 9 0)).set 6 (h2.getD 10 0)).set 7 (h2.getD 11 0)).getD 0 0), .int .i64 (((((((((h1.set 0 (h2.getD 4 0)).set 1 (h2.getD 5 0)).set 2 (h2.getD 6 0)).set 3 (h2.getD 7 0)).set 4 (h2.getD 8 0)).set 5 (h2.getD 9 0)).set 6 (h2.getD 10 0)).set 7 (h2.getD 11 0)).getD 1 0), .int .i64 (((((((((h1.set 0 (h2.getD 4 0)).set 1 (h2.getD 5 0)).set 2 (h2.getD 6 0)).set 3 (h2.getD 7 0)).set 4 (h2.getD 8 0)).set 5 (h2.getD 9 0)).set 6 (h2.getD 10 0)).set 7 (h2.getD 11 0)).getD 2 0), .int .i64 (((((((((h1.set 0 (h2.getD 4 0)).set 1 (h2.getD 5 0)).set 2 (h2.getD 6 0)).set 3 (h2.getD 7 0)).set 4 (h2.getD 8 0)).set 5 (h2.getD 9 0)).set 6 (h2.getD 10 0)).set 7 (h2.getD 11 0)).getD 3 0), .int .i64 (((((((((h1.set 0 (h2.getD 4 0)).set 1 (h2.getD 5 0)).set 2 (h2.getD 6 0)).set 3 (h2.getD 7 0)).set 4 (h2.getD 8 0)).set 5 (h2.getD 9 0)).set 6 (h2.getD 10 0)).set 7 (h2.getD 11 0)).getD 4 0), .int .i64 (((((((((h1.set 0 (h2.getD 4 0)).set 1 (h2.getD 5 0)).set 2 (h2.getD 6 0)).set 3 (h2.getD 7 0)).set 4 (h2.getD 8 0)).set 5 (h2.getD 9 0)).set 6 (h2.getD 10 0)).set 7 (h2.getD 11 0)).getD 5 0), .int .i64 (((((((((h1.set 0 (h2.getD 4 0)).set 1 (h2.getD 5 0)).set 2 (h2.getD 6 0)).set 3 (h2.getD 7 0)).set 4 (h2.getD 8 0)).set 5 (h2.getD 9 0)).set 6 (h2.getD 10 0)).set 7 (h2.getD 11 0)).getD 6 0), .int .i64 (((((((((h1.set 0 (h2.getD 4 0)).set 1 (h2.getD 5 0)).set 2 (h2.getD 6 0)).set 3 (h2.getD 7 0)).set 4 (h2.getD 8 0)).set 5 (h2.getD 9 0)).set 6 (h2.getD 10 0)).set 7 (h2.getD 11 0)).getD 7 0)], .one (.bool ((decide ((h2.getD 0 0) = (0 : Int))) && ((decide ((h2.getD 1 0) = (0 : Int))) && ((decide ((h2.getD 2 0) = (0 : Int))) && (decide ((h2.getD 3 0) = (0 : Int)))))))] [.box [.ro (.pair (.pair (.int .i64) (.pair (.int .i64) (.pair (.int .i64) (.int .i64)))) (.pair (.int .i64) (.pair (.int .i64) (.pair (.int .i64) (.pair (.int .i64) (.pair (.int .i64) (.pair (.int .i64) (.pair (.int .i64) (.int .i64))))))))) b0_0, .ro (.int .i64) b0_1]])))) ∧ (
      Ck (Nat.ble 8 h1.length) (
       Ck (Nat.ble 4 h2.length) (
        Ck (Nat.ble 8 (((((((((h1.set 0 (h2.getD 4 0)).set 1 (h2.getD 5 0)).set 2 (h2.getD 6 0)).set 3 (h2.getD 7 0)).set 4 (h2.getD 8 0)).set 5 (h2.getD 9 0)).set 6 (h2.getD 10 0)).set 7 (h2.getD 11 0)).length)) (
         Ret r lh [.agg [.int .i64 (((((((((h1.set 0 (h2.getD 4 0)).set 1 (h2.getD 5 0)).set 2 (h2.getD 6 0)).set 3 (h2.getD 7 0)).set 4 (h2.getD 8 0)).set 5 (h2.getD 9 0)).set 6 (h2.getD 10 0)).set 7 (h2.getD 11 0)).getD 0 0), .int .i64 (((((((((h1.set 0 (h2.getD 4 0)).set 1 (h2.getD 5 0)).set 2 (h2.getD 6 0)).set 3 (h2.getD 7 0)).set 4 (h2.getD 8 0)).set 5 (h2.getD 9 0)).set 6 (h2.getD 10 0)).set 7 (h2.getD 11 0)).getD 1 0), .int .i64 (((((((((h1.set 0 (h2.getD 4 0)).set 1 (h2.getD 5 0)).set 2 (h2.getD 6 0)).set 3 (h2.getD 7 0)).set 4 (h2.getD 8 0)).set 5 (h2.getD 9 0)).set 6 (h2.getD 10 0)).set 7 (h2.getD 11 0)).getD 2 0), .int .i64 (((((((((h1.set 0 (h2.getD 4 0)).set 1 (h2.getD 5 0)).set 2 (h2.getD 6 0)).set 3 (h2.getD 7 0)).set 4 (h2.getD 8 0)).set 5 (h2.getD 9 0)).set 6 (h2.getD 10 0)).set 7 (h2.getD 11 0)).getD 3 0), .int .i64 (((((((((h1.set 0 (h2.getD 4 0)).set 1 (h2.getD 5 0)).set 2 (h2.getD 6 0)).set 3 (h2.getD 7 0)).set 4 (h2.getD 8 0)).set 5 (h2.getD 9 0)).set 6 (h2.getD 10 0)).set 7 (h2.getD 11 0)).getD 4 0), .int .i64 (((((((((h1.set 0 (h2.getD 4 0)).set 1 (h2.getD 5 0)).set 2 (h2.getD 6 0)).set 3 (h2.getD 7 0)).set 4 (h2.getD 8 0)).set 5 (h2.getD 9 0)).set 6 (h2.getD 10 0)).set 7 (h2.getD 11 0)).getD 5 0), .int .i64 (((((((((h1.set 0 (h2.getD 4 0)).set 1 (h2.getD 5 0)).set 2 (h2.getD 6 0)).set 3 (h2.getD 7 0)).set 4 (h2.getD 8 0)).set 5 (h2.getD 9 0)).set 6 (h2.getD 10 0)).set 7 (h2.getD 11 0)).getD 6 0), .int .i64 (((((((((h1.set 0 (h2.getD 4 0)).set 1 (h2.getD 5 0)).set 2 (h2.getD 6 0)).set 3 (h2.getD 7 0)).set 4 (h2.getD 8 0)).set 5 (h2.getD 9 0)).set 6 (h2.getD 10 0)).set 7 (h2.getD 11 0)).getD 7 0)], .one (.bool ((decide ((h2.getD 0 0) = (0 : Int))) && ((decide ((h2.getD 1 0) = (0 : Int))) && ((decide ((h2.getD 2 0) = (0 : Int))) && (decide ((h2.getD 3 0) = (0 : Int)))))))] [.box [.ro (.pair (.pair (.int .i64) (.pair (.int .i64) (.pair (.int .i64) (.int .i64)))) (.pair (.int .i64) (.pair (.int .i64) (.pair (.int .i64) (.pair (.int .i64) (.pair (.int .i64) (.pair (.int .i64) (.pair (.int .i64) (.int .i64))))))))) b0_0, .ro (.int .i64) b0_1]]))))))) := by kernel_rfl
theorem eq4_dec (v : V4) : (decide (v.1 = 0) && (decide (v.2.1 = 0) && (decide (v.2.2.1 = 0) && decide (v.2.2.2 = 0)))) = decide (v = zero4) := by
  obtain ⟨a, b, c, d⟩ := v
  rw [Bool.eq_iff_iff]
  simp
theorem c106 (rows : List Kept) (hr : RowsOk rows) (hl : rows.length ≤ 1048576) (pv : List Int) (v : V4) (hv : VOk v) : SC P 106 [.one (.ptr 0 0 0), .agg [.int .i64 v.1, .int .i64 v.2.1, .int .i64 v.2.2.1, .int .i64 v.2.2.2]] [.box [.ro (.pair (.pair (.int .i64) (.pair (.int .i64) (.pair (.int .i64) (.int .i64)))) (.pair (.int .i64) (.pair (.int .i64) (.pair (.int .i64) (.pair (.int .i64) (.pair (.int .i64) (.pair (.int .i64) (.pair (.int .i64) (.int .i64))))))))) rows, .ro (.int .i64) pv]] [.agg [.int .i64 (byK rows v).1.1, .int .i64 (byK rows v).1.2.1, .int .i64 (byK rows v).1.2.2.1, .int .i64 (byK rows v).1.2.2.2.1, .int .i64 (byK rows v).1.2.2.2.2.1, .int .i64 (byK rows v).1.2.2.2.2.2.1, .int .i64 (byK rows v).1.2.2.2.2.2.2.1, .int .i64 (byK rows v).1.2.2.2.2.2.2.2], .one (.bool (byK rows v).2)] [.box [.ro (.pair (.pair (.int .i64) (.pair (.int .i64) (.pair (.int .i64) (.int .i64)))) (.pair (.int .i64) (.pair (.int .i64) (.pair (.int .i64) (.pair (.int .i64) (.pair (.int .i64) (.pair (.int .i64) (.pair (.int .i64) (.int .i64))))))))) rows, .ro (.int .i64) pv]] := by
  refine SC_of_FB (H := H106) E_ok Try.func106 (by kernel_rfl) ?_
  rw [eq106]
  have hk := lessF_ok (rows := rows) (k := (v, zero8)) ⟨hv, zero8_ok⟩
  refine ⟨((lessF rows (v, zero8)).1.1, (lessF rows (v, zero8)).1.2.1, (lessF rows (v, zero8)).1.2.2.1, (lessF rows (v, zero8)).1.2.2.2, (lessF rows (v, zero8)).2.1, (lessF rows (v, zero8)).2.2.1, (lessF rows (v, zero8)).2.2.2.1, (lessF rows (v, zero8)).2.2.2.2.1, (lessF rows (v, zero8)).2.2.2.2.2.1, (lessF rows (v, zero8)).2.2.2.2.2.2.1, (lessF rows (v, zero8)).2.2.2.2.2.2.2.1, (lessF rows (v, zero8)).2.2.2.2.2.2.2.2), c131r rows hr hl pv (v, zero8) ⟨hv, zero8_ok⟩, ?_⟩
  unfold byK
  generalize lessF rows (v, zero8) = k at hk ⊢
  have step : ∀ (j : Nat) (h : List Int), j < 8 → h.length = 12 → h.getD (4 + j) 0 = k.2.l.getD j 0 → FL E H106 Try.f106 1 [.agg [.int .i64 (V8.of fun i => (0 - k.2.l.getD i 0) % 31).1, .int .i64 (V8.of fun i => (0 - k.2.l.getD i 0) % 31).2.1, .int .i64 (V8.of fun i => (0 - k.2.l.getD i 0) % 31).2.2.1, .int .i64 (V8.of fun i => (0 - k.2.l.getD i 0) % 31).2.2.2.1, .int .i64 (V8.of fun i => (0 - k.2.l.getD i 0) % 31).2.2.2.2.1, .int .i64 (V8.of fun i => (0 - k.2.l.getD i 0) % 31).2.2.2.2.2.1, .int .i64 (V8.of fun i => (0 - k.2.l.getD i 0) % 31).2.2.2.2.2.2.1, .int .i64 (V8.of fun i => (0 - k.2.l.getD i 0) % 31).2.2.2.2.2.2.2], .one (.bool (decide (k.1 = zero4)))] [.box [.ro (.pair (.pair (.int .i64) (.pair (.int .i64) (.pair (.int .i64) (.int .i64)))) (.pair (.int .i64) (.pair (.int .i64) (.pair (.int .i64) (.pair (.int .i64) (.pair (.int .i64) (.pair (.int .i64) (.pair (.int .i64) (.int .i64))))))))) rows, .ro (.int .i64) pv]] 0 (S106_L0 ((j + 1 : Nat) : Int) rows pv [0, 0, 0, 0, 0, 0, 0, 0] (h.set (4 + j) ((0 - k.2.l.getD j 0) % 31))) →
      FL E H106 Try.f106 1 [.agg [.int .i64 (V8.of fun i => (0 - k.2.l.getD i 0) % 31).1, .int .i64 (V8.of fun i => (0 - k.2.l.getD i 0) % 31).2.1, .int .i64 (V8.of fun i => (0 - k.2.l.getD i 0) % 31).2.2.1, .int .i64 (V8.of fun i => (0 - k.2.l.getD i 0) % 31).2.2.2.1, .int .i64 (V8.of fun i => (0 - k.2.l.getD i 0) % 31).2.2.2.2.1, .int .i64 (V8.of fun i => (0 - k.2.l.getD i 0) % 31).2.2.2.2.2.1, .int .i64 (V8.of fun i => (0 - k.2.l.getD i 0) % 31).2.2.2.2.2.2.1, .int .i64 (V8.of fun i => (0 - k.2.l.getD i 0) % 31).2.2.2.2.2.2.2], .one (.bool (decide (k.1 = zero4)))] [.box [.ro (.pair (.pair (.int .i64) (.pair (.int .i64) (.pair (.int .i64) (.int .i64)))) (.pair (.int .i64) (.pair (.int .i64) (.pair (.int .i64) (.pair (.int .i64) (.pair (.int .i64) (.pair (.int .i64) (.pair (.int .i64) (.int .i64))))))))) rows, .ro (.int .i64) pv]] 0 (S106_L0 (j : Int) rows pv [0, 0, 0, 0, 0, 0, 0, 0] h) := by
    intro j h hj hl he hF
    obtain ⟨g0, g1⟩ := hk.2 j
    refine FL_of1 ?_
    rw [eq106_L0, wS (i := j) (by omega)]
    simp only [Int.toNat_natCast, Nat.mul_one]
    rw [he, wrap64 (by omega) (by omega)]
    exact Br_t (by omega) (Ck_d (by omega) (Ck_d (by omega) (Ck_le (by omega) ⟨_, c133 _, Ck_d (by omega) (Ck_d (by omega) (Ck_le (by omega) hF))⟩)))
  refine step 0 (keptL k) (by omega) rfl rfl (step 1 _ (by omega) rfl rfl (step 2 _ (by omega) rfl rfl (step 3 _ (by omega) rfl rfl (step 4 _ (by omega) rfl rfl (step 5 _ (by omega) rfl rfl (step 6 _ (by omega) rfl rfl (step 7 _ (by omega) rfl rfl ?_)))))))
  refine FL_of1 ?_
  rw [eq106_L0, ← eq4_dec k.1]
  exact Br_f (by simp) (Ck_b (by kernel_rfl) ⟨Ck_b (by kernel_rfl) (Ck_b (by kernel_rfl) (Ck_b (by kernel_rfl) ⟨by kernel_rfl, by kernel_rfl⟩)), Ck_b (by kernel_rfl) (Ck_b (by kernel_rfl) (Ck_b (by kernel_rfl) ⟨by kernel_rfl, by kernel_rfl⟩))⟩)
theorem vecF_ok (l : List Int) : VOk (vecF l) := by
  cases h : vecOk l with
  | true => obtain ⟨v, hv, rfl⟩ := vecOk_v h; rw [vecF_l hv]; exact hv
  | false => rw [vecF, h]; exact ⟨⟨by simp, by simp⟩, ⟨by simp, by simp⟩, ⟨by simp, by simp⟩, by simp, by simp⟩
def matF (m : List (List Int)) : List V4 := bif m.all vecOk then m.map vecF else []
def matOk (m : List (List Int)) : Bool := m.all vecOk && decide (m.length ≤ 8)
theorem matF_ok (m : List (List Int)) : ∀ v ∈ matF m, VOk v := by
  intro v hv
  rw [matF] at hv
  cases h : m.all vecOk with
  | false => rw [h] at hv; cases hv
  | true =>
    rw [h] at hv
    obtain ⟨l, _, rfl⟩ := List.mem_map.1 hv
    exact vecF_ok l
theorem matF_len {m : List (List Int)} (h : matOk m = true) : (matF m).length = m.length ∧ m.length ≤ 8 := by
  rw [matOk, Bool.and_eq_true, decide_eq_true_iff] at h
  rw [matF, h.1, cond_true, List.length_map]
  exact ⟨rfl, h.2⟩

def okBy (m : List (List Int)) (v : List Int) : Bool := (matOk m && vecOk v) && (byK (spanF (matF m)).1 (vecF v)).2
def spanBy (m : List (List Int)) (v : List Int) : List Int := bif okBy m v then mapR (fun j => (byK (spanF (matF m)).1 (vecF v)).1.l.getD j 0) 0 m.length else []



/-! loop.example/keelson/impl.shardOk -/
def H44 : Hint := ⟨[], [], [], [], [], [], []⟩
theorem eq44 (at0 : Int) (r : List W) (lh : Heap) : FB E H44 Try.f44 [.one (.int .i64 at0)] [] r lh =
  (
   ∃ r0 : Bool, SC P 78 [.one (.int .i64 at0), .one (.int .i64 0), .one (.int .i64 7)] [] [.one (.bool r0)] [] ∧
    Ret r lh [.one (.bool r0)] []) := by kernel_rfl
theorem c44 (k : Int) : SC P 44 [.one (.int .i64 k)] [] [.one (.bool (inB k 0 7))] [] := by
  refine SC_of_FB (H := H44) E_ok Try.func44 (by kernel_rfl) ?_
  rw [eq44]
  exact ⟨_, c78 _ _ _, rfl, rfl⟩
def codeRow (kind i : Int) : List Int := bif inB kind 1 2 && inB i 0 7 then (rowV kind i).l else []

/-! loop.example/keelson/impl.CodeAll -/
def H27 : Hint := ⟨[], [], [], [], [.one (.own (.int .i64))], [], []⟩
theorem eq27 (kind : Int) (data : List Int) (r : List W) (lh : Heap) : FB E H27 Try.f27 [.one (.int .i64 kind), .one (.ro (.int .i64) data)] [] r lh =
  (
   ∃ r0 : Int × Int × Int × Int × Bool, SC P 53 [.one (.ro (.int .i64) data)] [] [.agg [.int .i64 r0.1, .int .i64 r0.2.1, .int .i64 r0.2.2.1, .int .i64 r0.2.2.2.1], .one (.bool r0.2.2.2.2)] [] ∧
    Br (!r0.2.2.2.2) (
     Ret r lh [.one (.sl 0 none)] [.row (.int .i64) [] .own]) (
     ∃ r1 : Bool, SC P 39 [.one (.int .i64 kind)] [] [.one (.bool r1)] [] ∧
      Br (!r1) (
       Ret r lh [.one (.sl 0 none)] [.row (.int .i64) [] .own]) (
       ∃ r2 : List Int, SC P 55 [.one (.int .i64 kind), .agg [.int .i64 r0.1, .int .i64 r0.2.1, .int .i64 r0.2.2.1, .int .i64 r0.2.2.2.1]] [] [.one (.sl 0 none)] [.row (.int .i64) r2 .own] ∧
        Ret r lh [.one (.sl 0 none)] [.row (.int .i64) r2 .own]))) := by kernel_rfl
def codeAll (kind : Int) (d : List Int) : List Int := bif inB kind 1 2 && vecOk d then allF kind (vecF d) else []
theorem codeAll_len {kind : Int} {d : List Int} : (codeAll kind d).length ≤ 8 := by
  rw [codeAll]
  cases inB kind 1 2 && vecOk d
  · exact Nat.zero_le _
  · exact Nat.le_of_eq (allF_length _ _)
theorem c27 (kind : Int) (d : List Int) (hd : d.length ≤ 1048576) : SC P 27 [.one (.int .i64 kind), .one (.ro (.int .i64) d)] [] [.one (.sl 0 none)] [.row (.int .i64) (codeAll kind d) .own] := by
  refine SC_of_FB (H := H27) E_ok Try.func27 (by kernel_rfl) ?_
  rw [eq27]
  refine ⟨((vecF d).1, (vecF d).2.1, (vecF d).2.2.1, (vecF d).2.2.2, vecOk d), c53 d hd, Br_nb (fun e => ⟨rfl, by rw [codeAll, show vecOk d = false from e, Bool.and_false]; rfl⟩) (fun e => ⟨_, c39 kind, Br_nb (fun e2 => ⟨rfl, by rw [codeAll, e2]; rfl⟩) (fun e2 => ?_)⟩)⟩
  rw [codeAll, show vecOk d = true from e, e2]
  exact ⟨_, c55 kind (vecF d) (vecF_ok d), rfl, rfl⟩
def ValsP (vals : List Int) : Prop := vals.length = 8 ∧ ∀ i, FOk (vals.getD i 0)
def valsOk (l : List Int) : Bool := decide (l.length = 8) && l.all (fun n => inB n 0 30)
theorem vals_p {l : List Int} (h : valsOk l = true) : ValsP l := by
  rw [valsOk, Bool.and_eq_true, decide_eq_true_iff, List.all_eq_true] at h
  refine ⟨h.1, fun i => ?_⟩
  by_cases hi : i < l.length
  · rw [getD_eq hi]; exact inB_iff.1 (h.2 _ (List.getElem_mem hi))
  · rw [List.getD, List.getElem?_eq_none (by omega)]; exact ⟨Int.le_refl _, by decide⟩
theorem p_vals {l : List Int} (h : ValsP l) : valsOk l = true := by
  rw [valsOk, Bool.and_eq_true, decide_eq_true_iff, List.all_eq_true]
  refine ⟨h.1, fun x hx => ?_⟩
  obtain ⟨i, hi, rfl⟩ := List.getElem_of_mem hx
  have := h.2 i
  rw [getD_eq hi] at this
  exact inB_iff.2 this
abbrev zeroT : V4 × Int := (zero4, 0)
def TolOk (rows : List (V4 × Int)) : Prop := ∀ r ∈ rows, VOk r.1 ∧ FOk r.2
theorem getD_set_ne' {α : Type} {l : List α} {i j : Nat} {x z : α} (h : i ≠ j) : (l.set i x).getD j z = l.getD j z := by
  rw [List.getD, List.getElem?_set_ne h]; rfl
theorem tok_get {rows : List (V4 × Int)} (h : TolOk rows) (i : Nat) : VOk (rows.getD i zeroT).1 ∧ FOk (rows.getD i zeroT).2 := by
  by_cases hi : i < rows.length
  · rw [getD_eq hi]; exact h _ (List.getElem_mem hi)
  · rw [List.getD, List.getElem?_eq_none (by omega)]
    exact ⟨⟨⟨by decide, by decide⟩, ⟨by decide, by decide⟩, ⟨by decide, by decide⟩, by decide, by decide⟩, by decide, by decide⟩
theorem tok_set {rows : List (V4 × Int)} (h : TolOk rows) (j : Nat) {r : V4 × Int} (hr : VOk r.1 ∧ FOk r.2) : TolOk (rows.set j r) := by
  intro x hx
  rcases List.mem_or_eq_of_mem_set hx with h' | rfl
  · exact h _ h'
  · exact hr
theorem elimJ_ok {i lead : Nat} : ∀ {n j : Nat} {rows : List (V4 × Int)}, TolOk rows → TolOk (elimJ subV 0 i lead j n rows)
  | 0, _, _, h => h
  | n + 1, j, rows, h => by
    rw [elimJ]
    refine elimJ_ok ?_
    cases !decide (j = i) && !decide ((rows.getD j (zero4, (0 : Int))).1.l.getD lead 0 = 0)
    · exact h
    · exact tok_set h j ⟨vplus_ok _ _, fok_mod _⟩
theorem elimJ_len {β : Type} {sub : Int → β → β → β} {zb : β} {i lead : Nat} : ∀ {n j : Nat} {rows : List (V4 × β)}, (elimJ sub zb i lead j n rows).length = rows.length
  | 0, _, _ => rfl
  | n + 1, j, rows => by
    rw [elimJ, elimJ_len]
    cases !decide (j = i) && !decide ((rows.getD j (zero4, zb)).1.l.getD lead 0 = 0)
    · rfl
    · rw [cond_true, List.length_set]
theorem told_ok {w : List Int} {ks : List Kept} (h : RowsOk ks) : TolOk (ks.map (toldF w)) := by
  intro r hr
  obtain ⟨k, hk, rfl⟩ := List.mem_map.1 hr
  exact ⟨(h k hk).1.1, accR_ok ⟨by decide, by decide⟩⟩
theorem vals_at {vals : List Int} (hv : ValsP vals) (shards : List Int) (i : Nat) : FOk ((valsAt vals shards).getD i 0) := by
  by_cases hi : i < (valsAt vals shards).length
  · rw [getD_eq hi]
    obtain ⟨x, _, e⟩ := List.mem_map.1 (List.getElem_mem hi)
    rw [← e]; exact hv.2 _
  · rw [List.getD, List.getElem?_eq_none (by omega)]; exact ⟨by decide, by decide⟩
theorem told_at (r : V4 × Int) {j : Nat} (h : j < 4) : ([r.1.1, r.1.2.1, r.1.2.2.1, r.1.2.2.2, r.2] : List Int).getD j 0 = r.1.l.getD j 0 := by
  have : j = 0 ∨ j = 1 ∨ j = 2 ∨ j = 3 := by omega
  rcases this with rfl | rfl | rfl | rfl <;> rfl

/-! loop.example/keelson/impl.solve -/
def H98 : Hint := ⟨[[(1, 0, .bool), (2, 0, .bool), (6, 0, .bool), (7, 0, .bool), (9, 0, .bool), (29, 0, .bool), (30, 0, .bool), (31, 0, .bool)], [(1, 0, .bool), (2, 0, .bool), (6, 0, .bool), (7, 0, .bool), (9, 0, .bool), (11, 0, .bool), (12, 0, .bool), (29, 0, .bool), (30, 0, .bool), (31, 0, .bool), (35, 0, .bool), (36, 0, .bool), (37, 0, .bool)], [(6, 0, .bool), (7, 0, .bool), (9, 0, .bool), (63, 0, .bool), (64, 0, .bool)], [(6, 0, .bool), (7, 0, .bool), (9, 0, .bool), (15, 0, .bool), (16, 0, .bool), (63, 0, .bool), (64, 0, .bool), (74, 0, .bool), (75, 0, .bool)], [(6, 0, .bool), (7, 0, .bool), (128, 0, .bool), (129, 0, .bool), (130, 0, .bool)]], [], [(11, [0, 1, 2, 3, 4, 5, 6, 7, 8, 9, 10, 11]), (24, [0, 1, 2, 3, 4, 5, 6, 7, 8, 9, 10, 11, 12, 13, 14, 15, 16, 17]), (25, [0, 1, 2, 3, 4, 5, 6, 7, 8, 9, 10, 11, 12, 13, 14, 15, 16, 17]), (31, [0, 1, 3, 4, 2, 5, 6])], [], [], [], []⟩
def S98_L0 (vals1 : List Int) (shards2 : List Int) (x29 : List ((Int × (Int × (Int × Int))) × (Int × (Int × (Int × (Int × (Int × (Int × (Int × Int))))))))) (x30 : Int) (x31 : Int) (h0 : List Int) (h1 : List Int) (h2 : List ((Int × (Int × (Int × Int))) × Int)) : St := ⟨[(1, .w (.one (.ro (.int .i64) vals1))), (2, .w (.one (.ro (.int .i64) shards2))), (6, .w (.one (.ptr 0 0 0))), (7, .w (.one (.ptr 1 0 0))), (9, .w (.one (.sl 2 none))), (29, .w (.one (.ro (.pair (.pair (.int .i64) (.pair (.int .i64) (.pair (.int .i64) (.int .i64)))) (.pair (.int .i64) (.pair (.int .i64) (.pair (.int .i64) (.pair (.int .i64) (.pair (.int .i64) (.pair (.int .i64) (.pair (.int .i64) (.int .i64))))))))) x29))), (30, .w (.one (.int .i64 x30))), (31, .w (.one (.int .i64 x31)))], [.row (.int .i64) h0 .var, .row (.int .i64) h1 .var, .row (.pair (.pair (.int .i64) (.pair (.int .i64) (.pair (.int .i64) (.int .i64)))) (.int .i64)) h2 .own]⟩
def S98_L1 (vals1 : List Int) (shards2 : List Int) (value12 : Int) (x29 : List ((Int × (Int × (Int × Int))) × (Int × (Int × (Int × (Int × (Int × (Int × (Int × Int))))))))) (x30 : Int) (x31 : Int) (x35 : List Int) (x36 : Int) (x37 : Int) (h0 : List Int) (h1 : List Int) (h2 : List ((Int × (Int × (Int × Int))) × Int)) (h3 : List Int) : St := ⟨[(1, .w (.one (.ro (.int .i64) vals1))), (2, .w (.one (.ro (.int .i64) shards2))), (6, .w (.one (.ptr 0 0 0))), (7, .w (.one (.ptr 1 0 0))), (9, .w (.one (.sl 2 none))), (11, .w (.one (.ptr 3 0 0))), (12, .w (.one (.int .i64 value12))), (29, .w (.one (.ro (.pair (.pair (.int .i64) (.pair (.int .i64) (.pair (.int .i64) (.int .i64)))) (.pair (.int .i64) (.pair (.int .i64) (.pair (.int .i64) (.pair (.int .i64) (.pair (.int .i64) (.pair (.int .i64) (.pair (.int .i64) (.int .i64))))))))) x29))), (30, .w (.one (.int .i64 x30))), (31, .w (.one (.int .i64 x31))), (35, .w (.one (.ro (.int .i64) x35))), (36, .w (.one (.int .i64 x36))), (37, .w (.one (.int .i64 x37)))], [.row (.int .i64) h0 .var, .row (.int .i64) h1 .var, .row (.pair (.pair (.int .i64) (.pair (.int .i64) (.pair (.int .i64) (.int .i64)))) (.int .i64)) h2 .own, .row (.int .i64) h3 .var]⟩
def S98_L2 (x63 : Int) (x64 : Int) (h0 : List Int) (h1 : List Int) (h2 : List ((Int × (Int × (Int × Int))) × Int)) : St := ⟨[(6, .w (.one (.ptr 0 0 0))), (7, .w (.one (.ptr 1 0 0))), (9, .w (.one (.sl 2 none))), (63, .w (.one (.int .i64 x63))), (64, .w (.one (.int .i64 x64)))], [.row (.int .i64) h0 .var, .row (.int .i64) h1 .var, .row (.pair (.pair (.int .i64) (.pair (.int .i64) (.pair (.int .i64) (.int .i64)))) (.int .i64)) h2 .own]⟩
def S98_L3 (i15 : Int) (x16 : Int) (x63 : Int) (x64 : Int) (x74 : Int) (x75 : Int) (h0 : List Int) (h1 : List Int) (h2 : List ((Int × (Int × (Int × Int))) × Int)) : St := ⟨[(6, .w (.one (.ptr 0 0 0))), (7, .w (.one (.ptr 1 0 0))), (9, .w (.one (.sl 2 none))), (15, .w (.one (.int .i64 i15))), (16, .w (.one (.int .i64 x16))), (63, .w (.one (.int .i64 x63))), (64, .w (.one (.int .i64 x64))), (74, .w (.one (.int .i64 x74))), (75, .w (.one (.int .i64 x75)))], [.row (.int .i64) h0 .var, .row (.int .i64) h1 .var, .row (.pair (.pair (.int .i64) (.pair (.int .i64) (.pair (.int .i64) (.int .i64)))) (.int .i64)) h2 .own]⟩
def S98_L4 (x129 : Int) (x130 : Int) (h0 : List Int) (h1 : List Int) (h2 : List ((Int × (Int × (Int × Int))) × Int)) : St := ⟨[(6, .w (.one (.ptr 0 0 0))), (7, .w (.one (.ptr 1 0 0))), (128, .w (.one (.sl 2 none))), (129, .w (.one (.int .i64 x129))), (130, .w (.one (.int .i64 x130)))], [.row (.int .i64) h0 .var, .row (.int .i64) h1 .var, .row (.pair (.pair (.int .i64) (.pair (.int .i64) (.pair (.int .i64) (.int .i64)))) (.int .i64)) h2 .own]⟩
theorem eq98 (kind : Int) (vals : List Int) (shards : List Int) (r : List W) (lh : Heap) : FB E H98 Try.f98 [.one (.int .i64 kind), .one (.ro (.int .i64) vals), .one (.ro (.int .i64) shards)] [] r lh =
  (
   ∃ r0 : List (Int × (Int × (Int × Int))), SC P 86 [.one (.int .i64 kind), .one (.ro (.int .i64) shards)] [] [.one (.sl 0 none)] [.row (.pair (.int .i64) (.pair (.int .i64) (.pair (.int .i64) (.int .i64)))) r0 .own] ∧
    ∃ r1 : (List ((Int × (Int × (Int × Int))) × (Int × (Int × (Int × (Int × (Int × (Int × (Int × Int)))))))) × List Int), SC P 105 [.one (.ro (.pair (.int .i64) (.pair (.int .i64) (.pair (.int .i64) (.int .i64)))) r0)] [] [.one (.ptr 0 0 0)] [.box [.ro (.pair (.pair (.int .i64) (.pair (.int .i64) (.pair (.int .i64) (.int .i64)))) (.pair (.int .i64) (.pair (.int .i64) (.pair (.int .i64) (.pair (.int .i64) (.pair (.int .i64) (.pair (.int .i64) (.pair (.int .i64) (.int .i64))))))))) r1.1, .ro (.int .i64) r1.2]] ∧
     FL E H98 Try.f98 0 r lh 0 (S98_L0 vals shards r1.1 ((r1.1.length : Nat) : Int) 0 [0, 0, 0, 0] [0, 0, 0, 0] [])) := by kernel_rfl
theorem eq98_L0 (vals1 : List Int) (shards2 : List Int) (x29 : List ((Int × (Int × (Int × Int))) × (Int × (Int × (Int × (Int × (Int × (Int × (Int × Int))))))))) (x30 : Int) (x31 : Int) (h0 : List Int) (h1 : List Int) (h2 : List ((Int × (Int × (Int × Int))) × Int)) (r : List W) (lh : Heap) : FL1 E H98 Try.f98 0 r lh 0 (S98_L0 vals1 shards2 x29 x30 x31 h0 h1 h2) =
  (
   Br (decide (x31 < x30)) (
    Ck (decide ((0 : Int) ≤ x31)) (
     Ck (decide (x31 < ((x29.length : Nat) : Int))) (
      FL E H98 Try.f98 0 r lh 1 (S98_L1 vals1 shards2 0 x29 x30 x31 shards2 ((shards2.length : Nat) : Int) 0 h0 h1 h2 [((x29.getD x31.toNat ((0, (0, (0, 0))), (0, (0, (0, (0, (0, (0, (0, 0))))))))).1).1, (((x29.getD x31.toNat ((0, (0, (0, 0))), (0, (0, (0, (0, (0, (0, (0, 0))))))))).1).2).1, ((((x29.getD x31.toNat ((0, (0, (0, 0))), (0, (0, (0, (0, (0, (0, (0, 0))))))))).1).2).2).1, ((((x29.getD x31.toNat ((0, (0, (0, 0))), (0, (0, (0, (0, (0, (0, (0, 0))))))))).1).2).2).2, ((x29.getD x31.toNat ((0, (0, (0, 0))), (0, (0, (0, (0, (0, (0, (0, 0))))))))).2).1, (((x29.getD x31.toNat ((0, (0, (0, 0))), (0, (0, (0, (0, (0, (0, (0, 0))))))))).2).2).1, ((((x29.getD x31.toNat ((0, (0, (0, 0))), (0, (0, (0, (0, (0, (0, (0, 0))))))))).2).2).2).1, (((((x29.getD x31.toNat ((0, (0, (0, 0))), (0, (0, (0, (0, (0, (0, (0, 0))))))))).2).2).2).2).1, ((((((x29.getD x31.toNat ((0, (0, (0, 0))), (0, (0, (0, (0, (0, (0, (0, 0))))))))).2).2).2).2).2).1, (((((((x29.getD x31.toNat ((0, (0, (0, 0))), (0, (0, (0, (0, (0, (0, (0, 0))))))))).2).2).2).2).2).2).1, ((((((((x29.getD x31.toNat ((0, (0, (0, 0))), (0, (0, (0, (0, (0, (0, (0, 0))))))))).2).2).2).2).2).2).2).1, ((((((((x29.getD x31.toNat ((0, (0, (0, 0))), (0, (0, (0, (0, (0, (0, (0, 0))))))))).2).2).2).2).2).2).2).2])))) (
    FL E H98 Try.f98 0 r lh 2 (S98_L2 ((h2.length : Nat) : Int) 0 h0 h1 h2))) := by kernel_rfl
theorem eq98_L1 (vals1 : List Int) (shards2 : List Int) (value12 : Int) (x29 : List ((Int × (Int × (Int × Int))) × (Int × (Int × (Int × (Int × (Int × (Int × (Int × Int))))))))) (x30 : Int) (x31 : Int) (x35 : List Int) (x36 : Int) (x37 : Int) (h0 : List Int) (h1 : List Int) (h2 : List ((Int × (Int × (Int × Int))) × Int)) (h3 : List Int) (r : List W) (lh : Heap) : FL1 E H98 Try.f98 0 r lh 1 (S98_L1 vals1 shards2 value12 x29 x30 x31 x35 x36 x37 h0 h1 h2 h3) =
  (
   Br (decide (x37 < x36)) (
    Ck (decide ((0 : Int) ≤ x37)) (
     Ck (decide (x37 < ((x35.length : Nat) : Int))) (
      Ck (decide ((0 : Int) ≤ x37)) (
       Ck (decide (x37 < (8 : Int))) (
        Ck (Nat.ble ((4 + (x37.toNat * 1)) + 1) h3.length) (
         Ck (decide ((0 : Int) ≤ (x35.getD x37.toNat 0))) (
          Ck (decide ((x35.getD x37.toNat 0) < ((vals1.length : Nat) : Int))) (
           ∃ r0 : Int, SC P 115 [.one (.int .i64 (h3.getD (4 + (x37.toNat * 1)) 0)), .one (.int .i64 (vals1.getD (x35.getD x37.toNat 0).toNat 0))] [] [.one (.int .i64 r0)] [] ∧
            ∃ r1 : Int, SC P 114 [.one (.int .i64 value12), .one (.int .i64 r0)] [] [.one (.int .i64 r1)] [] ∧
             FL E H98 Try.f98 0 r lh 1 (S98_L1 vals1 shards2 r1 x29 x30 x31 x35 x36 (IntKind.wrap .i64 (x37 + 1)) h0 h1 h2 h3))))))))) (
    Ck (Nat.ble 4 h3.length) (
     Ck (Nat.ble ((h2.length + 1) * 40) roomy) (
      FL E H98 Try.f98 0 r lh 0 (S98_L0 vals1 shards2 x29 x30 (IntKind.wrap .i64 (x31 + 1)) h0 h1 (h2 ++ ([(((h3.getD 0 0), ((h3.getD 1 0), ((h3.getD 2 0), (h3.getD 3 0)))), value12)] : List ((Int × (Int × (Int × Int))) × Int)))))))) := by kernel_rfl
theorem eq98_L2 (x63 : Int) (x64 : Int) (h0 : List Int) (h1 : List Int) (h2 : List ((Int × (Int × (Int × Int))) × Int)) (r : List W) (lh : Heap) : FL1 E H98 Try.f98 0 r lh 2 (S98_L2 x63 x64 h0 h1 h2) =
  (
   Br (decide (x64 < x63)) (
    Ck (decide ((0 : Int) ≤ x64)) (
     Ck (decide (x64 < ((h2.length : Nat) : Int))) (
      Ck (Nat.blt x64.toNat h2.length) (
       ∃ r0 : Int, SC P 121 [.agg [.int .i64 (((h2.getD x64.toNat ((0, (0, (0, 0))), 0)).1).1), .int .i64 ((((h2.getD x64.toNat ((0, (0, (0, 0))), 0)).1).2).1), .int .i64 (((((h2.getD x64.toNat ((0, (0, (0, 0))), 0)).1).2).2).1), .int .i64 (((((h2.getD x64.toNat ((0, (0, (0, 0))), 0)).1).2).2).2)]] [] [.one (.int .i64 r0)] [] ∧
        FL E H98 Try.f98 0 r lh 3 (S98_L3 x64 r0 x63 x64 ((h2.length : Nat) : Int) 0 h0 h1 h2))))) (
    FL E H98 Try.f98 0 r lh 4 (S98_L4 ((h2.length : Nat) : Int) 0 h0 h1 h2))) := by kernel_rfl
theorem eq98_L3 (i15 : Int) (x16 : Int) (x63 : Int) (x64 : Int) (x74 : Int) (x75 : Int) (h0 : List Int) (h1 : List Int) (h2 : List ((Int × (Int × (Int × Int))) × Int)) (r : List W) (lh : Heap) : FL1 E H98 Try.f98 0 r lh 3 (S98_L3 i15 x16 x63 x64 x74 x75 h0 h1 h2) =
  (
   Br (decide (x75 < x74)) (
    Ck (decide ((0 : Int) ≤ x75)) (
     Ck (decide (x75 < ((h2.length : Nat) : Int))) (
      Ck (decide ((0 : Int) ≤ x16)) (
       Ck (decide (x16 < (4 : Int))) (
        Ck (Nat.blt x75.toNat h2.length) (
         Ck (Nat.blt (0 + (x16.toNat * 1)) 5) (
          Br (!(decide (x75 = i15))) (
           Br (!(decide (([((h2.getD x75.toNat ((0, (0, (0, 0))), 0)).1).1, (((h2.getD x75.toNat ((0, (0, (0, 0))), 0)).1).2).1, ((((h2.getD x75.toNat ((0, (0, (0, 0))), 0)).1).2).2).1, ((((h2.getD x75.toNat ((0, (0, (0, 0))), 0)).1).2).2).2, (h2.getD x75.toNat ((0, (0, (0, 0))), 0)).2].getD (0 + (x16.toNat * 1)) 0) = (0 : Int)))) (
            Ck (decide ((0 : Int) ≤ x75)) (
             Ck (decide (x75 < ((h2.length : Nat) : Int))) (
              Ck (Nat.blt x75.toNat h2.length) (
               Ck (decide ((0 : Int) ≤ i15)) (
                Ck (decide (i15 < ((h2.length : Nat) : Int))) (
                 Ck (Nat.blt i15.toNat h2.length) (
                  ∃ r0 : Int × Int × Int × Int, SC P 123 [.agg [.int .i64 (((h2.getD i15.toNat ((0, (0, (0, 0))), 0)).1).1), .int .i64 ((((h2.getD i15.toNat ((0, (0, (0, 0))), 0)).1).2).1), .int .i64 (((((h2.getD i15.toNat ((0, (0, (0, 0))), 0)).1).2).2).1), .int .i64 (((((h2.getD i15.toNat ((0, (0, (0, 0))), 0)).1).2).2).2)], .one (.int .i64 ([((h2.getD x75.toNat ((0, (0, (0, 0))), 0)).1).1, (((h2.getD x75.toNat ((0, (0, (0, 0))), 0)).1).2).1, ((((h2.getD x75.toNat ((0, (0, (0, 0))), 0)).1).2).2).1, ((((h2.getD x75.toNat ((0, (0, (0, 0))), 0)).1).2).2).2, (h2.getD x75.toNat ((0, (0, (0, 0))), 0)).2].getD (0 + (x16.toNat * 1)) 0))] [] [.agg [.int .i64 r0.1, .int .i64 r0.2.1, .int .i64 r0.2.2.1, .int .i64 r0.2.2.2]] [] ∧
                   ∃ r1 : Int × Int × Int × Int, SC P 122 [.agg [.int .i64 (((h2.getD x75.toNat ((0, (0, (0, 0))), 0)).1).1), .int .i64 ((((h2.getD x75.toNat ((0, (0, (0, 0))), 0)).1).2).1), .int .i64 (((((h2.getD x75.toNat ((0, (0, (0, 0))), 0)).1).2).2).1), .int .i64 (((((h2.getD x75.toNat ((0, (0, (0, 0))), 0)).1).2).2).2)], .agg [.int .i64 r0.1, .int .i64 r0.2.1, .int .i64 r0.2.2.1, .int .i64 r0.2.2.2]] [] [.agg [.int .i64 r1.1, .int .i64 r1.2.1, .int .i64 r1.2.2.1, .int .i64 r1.2.2.2]] [] ∧
                    Ck (decide ((0 : Int) ≤ x75)) (
                     Ck (decide (x75 < ((h2.length : Nat) : Int))) (
                      Ck (Nat.blt x75.toNat h2.length) (
                       Ck (decide ((0 : Int) ≤ x75)) (
                        Ck (decide (x75 < (((h2.set x75.toNat ((r1.1, (r1.2.1, (r1.2.2.1, r1.2.2.2))), (h2.getD x75.toNat ((0, (0, (0, 0))), 0)).2)).length : Nat) : Int))) (
                         Ck (Nat.blt x75.toNat ((h2.set x75.toNat ((r1.1, (r1.2.1, (r1.2.2.1, r1.2.2.2))), (h2.getD x75.toNat ((0, (0, (0, 0))), 0)).2)).length)) (
                          Ck (decide ((0 : Int) ≤ i15)) (
                           Ck (decide (i15 < (((h2.set x75.toNat ((r1.1, (r1.2.1, (r1.2.2.1, r1.2.2.2))), (h2.getD x75.toNat ((0, (0, (0, 0))), 0)).2)).length : Nat) : Int))) (
                            Ck (Nat.blt i15.toNat ((h2.set x75.toNat ((r1.1, (r1.2.1, (r1.2.2.1, r1.2.2.2))), (h2.getD x75.toNat ((0, (0, (0, 0))), 0)).2)).length)) (
                             ∃ r2 : Int, SC P 115 [.one (.int .i64 (((h2.set x75.toNat ((r1.1, (r1.2.1, (r1.2.2.1, r1.2.2.2))), (h2.getD x75.toNat ((0, (0, (0, 0))), 0)).2)).getD i15.toNat ((0, (0, (0, 0))), 0)).2)), .one (.int .i64 ([((h2.getD x75.toNat ((0, (0, (0, 0))), 0)).1).1, (((h2.getD x75.toNat ((0, (0, (0, 0))), 0)).1).2).1, ((((h2.getD x75.toNat ((0, (0, (0, 0))), 0)).1).2).2).1, ((((h2.getD x75.toNat ((0, (0, (0, 0))), 0)).1).2).2).2, (h2.getD x75.toNat ((0, (0, (0, 0))), 0)).2].getD (0 + (x16.toNat * 1)) 0))] [] [.one (.int .i64 r2)] [] ∧
                              ∃ r3 : Int, SC P 124 [.one (.int .i64 (((h2.set x75.toNat ((r1.1, (r1.2.1, (r1.2.2.1, r1.2.2.2))), (h2.getD x75.toNat ((0, (0, (0, 0))), 0)).2)).getD x75.toNat ((0, (0, (0, 0))), 0)).2)), .one (.int .i64 r2)] [] [.one (.int .i64 r3)] [] ∧
                               Ck (decide ((0 : Int) ≤ x75)) (
                                Ck (decide (x75 < (((h2.set x75.toNat ((r1.1, (r1.2.1, (r1.2.2.1, r1.2.2.2))), (h2.getD x75.toNat ((0, (0, (0, 0))), 0)).2)).length : Nat) : Int))) (
                                 Ck (Nat.blt x75.toNat ((h2.set x75.toNat ((r1.1, (r1.2.1, (r1.2.2.1, r1.2.2.2))), (h2.getD x75.toNat ((0, (0, (0, 0))), 0)).2)).length)) (
                                  FL E H98 Try.f98 0 r lh 3 (S98_L3 i15 x16 x63 x64 x74 (IntKind.wrap .i64 (x75 + 1)) h0 h1 ((h2.set x75.toNat ((r1.1, (r1.2.1, (r1.2.2.1, r1.2.2.2))), (h2.getD x75.toNat ((0, (0, (0, 0))), 0)).2)).set x75.toNat (((((h2.set x75.toNat ((r1.1, (r1.2.1, (r1.2.2.1, r1.2.2.2))), (h2.getD x75.toNat ((0, (0, (0, 0))), 0)).2)).getD x75.toNat ((0, (0, (0, 0))), 0)).1).1, (((((h2.set x75.toNat ((r1.1, (r1.2.1, (r1.2.2.1, r1.2.2.2))), (h2.getD x75.toNat ((0, (0, (0, 0))), 0)).2)).getD x75.toNat ((0, (0, (0, 0))), 0)).1).2).1, ((((((h2.set x75.toNat ((r1.1, (r1.2.1, (r1.2.2.1, r1.2.2.2))), (h2.getD x75.toNat ((0, (0, (0, 0))), 0)).2)).getD x75.toNat ((0, (0, (0, 0))), 0)).1).2).2).1, (((((h2.set x75.toNat ((r1.1, (r1.2.1, (r1.2.2.1, r1.2.2.2))), (h2.getD x75.toNat ((0, (0, (0, 0))), 0)).2)).getD x75.toNat ((0, (0, (0, 0))), 0)).1).2).2).2))), r3)))))))))))))))))))))) (
            FL E H98 Try.f98 0 r lh 3 (S98_L3 i15 x16 x63 x64 x74 (IntKind.wrap .i64 (x75 + 1)) h0 h1 h2))) (
           FL E H98 Try.f98 0 r lh 3 (S98_L3 i15 x16 x63 x64 x74 (IntKind.wrap .i64 (x75 + 1)) h0 h1 h2))))))))) (
    FL E H98 Try.f98 0 r lh 2 (S98_L2 x63 (IntKind.wrap .i64 (x64 + 1)) h0 h1 h2))) := by kernel_rfl
theorem eq98_L4 (x129 : Int) (x130 : Int) (h0 : List Int) (h1 : List Int) (h2 : List ((Int × (Int × (Int × Int))) × Int)) (r : List W) (lh : Heap) : FL1 E H98 Try.f98 0 r lh 4 (S98_L4 x129 x130 h0 h1 h2) =
  (
   Br (decide (x130 < x129)) (
    Ck (decide ((0 : Int) ≤ x130)) (
     Ck (decide (x130 < ((h2.length : Nat) : Int))) (
      Ck (Nat.blt x130.toNat h2.length) (
       ∃ r0 : Int, SC P 121 [.agg [.int .i64 (((h2.getD x130.toNat ((0, (0, (0, 0))), 0)).1).1), .int .i64 ((((h2.getD x130.toNat ((0, (0, (0, 0))), 0)).1).2).1), .int .i64 (((((h2.getD x130.toNat ((0, (0, (0, 0))), 0)).1).2).2).1), .int .i64 (((((h2.getD x130.toNat ((0, (0, (0, 0))), 0)).1).2).2).2)]] [] [.one (.int .i64 r0)] [] ∧
        Ck (decide ((0 : Int) ≤ r0)) (
         Ck (decide (r0 < (4 : Int))) (
          Ck (Nat.ble ((0 + (r0.toNat * 1)) + 1) h1.length) (
           FL E H98 Try.f98 0 r lh 4 (S98_L4 x129 (IntKind.wrap .i64 (x130 + 1)) h0 (h1.set (0 + (r0.toNat * 1)) ((h2.getD x130.toNat ((0, (0, (0, 0))), 0)).2)) h2)))))))) (
    Ck (Nat.ble 4 h1.length) (
     Ck (Nat.ble 4 h0.length) (
      Ck (Nat.ble 4 (((((h0.set 0 (h1.getD 0 0)).set 1 (h1.getD 1 0)).set 2 (h1.getD 2 0)).set 3 (h1.getD 3 0)).length)) (
       Ret r lh [.agg [.int .i64 (((((h0.set 0 (h1.getD 0 0)).set 1 (h1.getD 1 0)).set 2 (h1.getD 2 0)).set 3 (h1.getD 3 0)).getD 0 0), .int .i64 (((((h0.set 0 (h1.getD 0 0)).set 1 (h1.getD 1 0)).set 2 (h1.getD 2 0)).set 3 (h1.getD 3 0)).getD 1 0), .int .i64 (((((h0.set 0 (h1.getD 0 0)).set 1 (h1.getD 1 0)).set 2 (h1.getD 2 0)).set 3 (h1.getD 3 0)).getD 2 0), .int .i64 (((((h0.set 0 (h1.getD 0 0)).set 1 (h1.getD 1 0)).set 2 (h1.getD 2 0)).set 3 (h1.getD 3 0)).getD 3 0)]] []))))) := by kernel_rfl
theorem l98_4 (m : Nat) (hm : m ≤ 1000) (rows : List (V4 × Int)) (hr : rows.length = m) (hlead : rows.all (fun r => decide (0 ≤ leadV r.1)) = true) : ∀ (n i : Nat) (out : List Int), i + n = m → out.length = 4 →
    FL E H98 Try.f98 0 [.agg [.int .i64 (v4of ((rows.drop i).foldl (fun o r => o.set (leadV r.1).toNat r.2) out)).1, .int .i64 (v4of ((rows.drop i).foldl (fun o r => o.set (leadV r.1).toNat r.2) out)).2.1, .int .i64 (v4of ((rows.drop i).foldl (fun o r => o.set (leadV r.1).toNat r.2) out)).2.2.1, .int .i64 (v4of ((rows.drop i).foldl (fun o r => o.set (leadV r.1).toNat r.2) out)).2.2.2]] [] 4 (S98_L4 (m : Int) (i : Int) [0, 0, 0, 0] out rows)
  | 0, i, out, h, ho => by
    rw [List.drop_eq_nil_of_le (by omega), List.foldl_nil]
    match out, ho with
    | [a, b, c, d], _ =>
      refine FL_of1 ?_
      rw [eq98_L4]
      exact Br_f (by omega) (Ck_b (by kernel_rfl) (Ck_b (by kernel_rfl) (Ck_b (by kernel_rfl) ⟨by kernel_rfl, rfl⟩)))
  | n + 1, i, out, h, ho => by
    have hi : i < rows.length := by omega
    have h0 : 0 ≤ leadV rows[i].1 := by
      have := List.all_eq_true.1 hlead _ (List.getElem_mem hi)
      exact of_decide_eq_true this
    have h1 := lead_le rows[i].1
    rw [drop_cons hi, List.foldl_cons]
    refine FL_of1 ?_
    rw [eq98_L4, wS (by omega)]
    simp only [Int.toNat_natCast, Nat.mul_one, Nat.zero_add]
    rw [getD_eq hi]
    exact Br_t (by omega) (Ck_d (by omega) (Ck_d (by omega) (Ck_lt (by omega) ⟨_, c121 rows[i].1, Ck_d (by omega) (Ck_d (by omega) (Ck_le (by omega) (l98_4 m hm rows hr hlead n (i + 1) _ (by omega) (by rw [List.length_set]; exact ho))))⟩)))
theorem l98_3 (R : List W) (m : Nat) (hm : m ≤ 1000) (i : Nat) (hi : i < m) (lead : Int) (h0 : 0 ≤ lead) (h3 : lead ≤ 3) (h0l h1l : List Int) (x63 : Int) : ∀ (n j : Nat) (rows : List (V4 × Int)), j + n = m → rows.length = m → TolOk rows →
    FL E H98 Try.f98 0 R [] 2 (S98_L2 x63 ((i + 1 : Nat) : Int) h0l h1l (elimJ subV 0 i lead.toNat j n rows)) → FL E H98 Try.f98 0 R [] 3 (S98_L3 (i : Int) lead x63 (i : Int) (m : Int) (j : Int) h0l h1l rows)
  | 0, j, rows, h, hl, ht, hF => by
    refine FL_of1 ?_
    rw [eq98_L3, wS (i := i) (by omega)]
    exact Br_f (by omega) hF
  | n + 1, j, rows, h, hl, ht, hF => by
    have hj : j < rows.length := by omega
    have hat := told_at (rows.getD j ((0, 0, 0, 0), 0)) (j := lead.toNat) (by omega)
    obtain ⟨tj1, tj2⟩ := tok_get ht j
    obtain ⟨ti1, ti2⟩ := tok_get ht i
    refine FL_of1 ?_
    rw [eq98_L3, wS (i := j) (by omega)]
    simp only [Int.toNat_natCast, Nat.mul_one, Nat.zero_add]
    rw [hat]
    rw [elimJ] at hF
    refine Br_t (by omega) (Ck_d (by omega) (Ck_d (by omega) (Ck_d (by omega) (Ck_d (by omega) (Ck_lt (by omega) (Ck_lt (by omega) (Br_nd (fun e => Br_nd (fun e2 => ?_) (fun e2 => ?_)) (fun e => ?_))))))))
    · have hji : j ≠ i := by omega
      rw [decide_eq_false hji, decide_eq_false (show ¬ (rows.getD j (zero4, 0)).1.l.getD lead.toNat 0 = 0 from e2)] at hF
      have g1 : ∀ A : V4 × Int, (rows.set j A).getD i ((0, 0, 0, 0), 0) = rows.getD i ((0, 0, 0, 0), 0) := fun A => getD_set_ne' hji
      have g2 : ∀ A : V4 × Int, (rows.set j A).getD j ((0, 0, 0, 0), 0) = A := fun A => get_set_self hj
      simp only [List.length_set, g1, g2, List.set_set]
      exact Ck_d (by omega) (Ck_d (by omega) (Ck_lt (by omega) (Ck_d (by omega) (Ck_d (by omega) (Ck_lt (by omega) ⟨_, c123 _ _ ti1 (vok_get tj1 _), _, c122 _ _ tj1 (vtimes_ok _ _), Ck_d (by omega) (Ck_d (by omega) (Ck_lt (by omega) (Ck_d (by omega) (Ck_d (by omega) (Ck_lt (by omega) (Ck_d (by omega) (Ck_d (by omega) (Ck_lt (by omega)
        ⟨_, c115 _ _ ti2 (vok_get tj1 _), _, c124 _ _ tj2 (fok_mod _), Ck_d (by omega) (Ck_d (by omega) (Ck_lt (by omega) (l98_3 R m hm i hi lead h0 h3 h0l h1l x63 n (j + 1) _ (by omega) (by rw [List.length_set]; exact hl) (tok_set ht j ⟨vplus_ok _ _, fok_mod _⟩) hF)))⟩))))))))⟩)))))
    · rw [decide_eq_true (show (rows.getD j (zero4, 0)).1.l.getD lead.toNat 0 = 0 from e2), Bool.not_true, Bool.and_false] at hF
      exact l98_3 R m hm i hi lead h0 h3 h0l h1l x63 n (j + 1) _ (by omega) hl ht hF
    · rw [decide_eq_true (show j = i by omega)] at hF
      exact l98_3 R m hm i hi lead h0 h3 h0l h1l x63 n (j + 1) _ (by omega) hl ht hF
theorem l98_2 (R : List W) (m : Nat) (hm : m ≤ 1000) (h0l h1l : List Int) : ∀ (n i : Nat) (rows : List (V4 × Int)), i + n = m → rows.length = m → TolOk rows → elimOk subV 0 m i n rows = true →
    (∀ rows', rows'.length = m → rows'.all (fun r => decide (0 ≤ leadV r.1)) = true → rows' = elimI subV 0 m i n rows → FL E H98 Try.f98 0 R [] 4 (S98_L4 (m : Int) 0 h0l h1l rows')) → FL E H98 Try.f98 0 R [] 2 (S98_L2 (m : Int) (i : Int) h0l h1l rows)
  | 0, i, rows, h, hl, ht, ho, hF => by
    refine FL_of1 ?_
    rw [eq98_L2, hl]
    exact Br_f (by omega) (hF rows hl ho rfl)
  | n + 1, i, rows, h, hl, ht, ho, hF => by
    rw [elimOk, Bool.and_eq_true, decide_eq_true_iff] at ho
    have h3 := lead_le (rows.getD i (zero4, 0)).1
    refine FL_of1 ?_
    rw [eq98_L2, hl]
    simp only [Int.toNat_natCast]
    refine Br_t (by omega) (Ck_d (by omega) (Ck_d (by omega) (Ck_lt (by omega) ⟨leadV (rows.getD i (zero4, 0)).1, c121 _, ?_⟩)))
    refine l98_3 R m hm i (by omega) _ ho.1 (by omega) h0l h1l _ m 0 rows (by omega) hl ht ?_
    exact l98_2 R m hm h0l h1l n (i + 1) _ (by omega) (by rw [elimJ_len]; exact hl) (elimJ_ok ht) ho.2 hF
theorem l98_1 (R : List W) (vals shards : List Int) (hv : ValsP vals) (hs : ShOk shards) (h8 : shards.length ≤ 8) (ks : List Kept) (x30 x31 : Int) (h0l h1l : List Int) (told : List (V4 × Int)) (ht : told.length ≤ 1000) (k : Kept) (hk : KOk k) : ∀ (n i : Nat) (acc : Int), i + n = shards.length → FOk acc →
    FL E H98 Try.f98 0 R [] 0 (S98_L0 vals shards ks x30 (IntKind.wrap .i64 (x31 + 1)) h0l h1l (told ++ [(k.1, accR (fun i => k.2.l.getD i 0 * (valsAt vals shards).getD i 0) i n acc)])) →
    FL E H98 Try.f98 0 R [] 1 (S98_L1 vals shards acc ks x30 x31 shards (shards.length : Int) (i : Int) h0l h1l told (keptL k))
  | 0, i, acc, h, ha, hF => by
    refine FL_of1 ?_
    rw [eq98_L1]
    exact Br_f (by omega) (Ck_b (by kernel_rfl) (Ck_room (by omega) hF))
  | n + 1, i, acc, h, ha, hF => by
    have hi : i < shards.length := by omega
    obtain ⟨g0, g1⟩ := shok_get hs hi
    have e1 : (keptL k).getD (4 + i) 0 = k.2.l.getD i 0 := by rw [Nat.add_comm]; rfl
    have e2 : (valsAt vals shards).getD i 0 = vals.getD (shards.getD i 0).toNat 0 := by
      rw [getD_eq hi, valsAt, List.getD, List.getElem?_map, List.getElem?_eq_getElem hi]; rfl
    have hkl : (keptL k).length = 12 := rfl
    have hvl := hv.1
    refine FL_of1 ?_
    rw [eq98_L1, wS (i := i) (by omega)]
    simp only [Int.toNat_natCast, Nat.mul_one]
    rw [accR, e2] at hF
    rw [e1]
    exact Br_t (by omega) (Ck_d (by omega) (Ck_d (by omega) (Ck_d (by omega) (Ck_d (by omega) (Ck_le (by omega) (Ck_d (by omega) (Ck_d (by omega) ⟨_, c115 _ _ (hk.2 i) (hv.2 _), _, c114 _ _ ha (fok_mod _), l98_1 R vals shards hv hs h8 ks x30 x31 h0l h1l told ht k hk n (i + 1) _ (by omega) (fok_mod _) hF⟩)))))))
theorem l98 (R : List W) (vals shards : List Int) (hv : ValsP vals) (hs : ShOk shards) (h8 : shards.length ≤ 8) (ks : List Kept) (hks : RowsOk ks) (hl : ks.length ≤ 100) (h0l h1l : List Int) : ∀ (n i : Nat) (told : List (V4 × Int)), i + n = ks.length → told.length = i →
    FL E H98 Try.f98 0 R [] 2 (S98_L2 ((told ++ (ks.drop i).map (toldF (valsAt vals shards))).length : Int) 0 h0l h1l (told ++ (ks.drop i).map (toldF (valsAt vals shards)))) →
    FL E H98 Try.f98 0 R [] 0 (S98_L0 vals shards ks (ks.length : Int) (i : Int) h0l h1l told)
  | 0, i, told, h, ht, hF => by
    rw [List.drop_eq_nil_of_le (by omega), List.map_nil, List.append_nil] at hF
    refine FL_of1 ?_
    rw [eq98_L0]
    exact Br_f (by omega) hF
  | n + 1, i, told, h, ht, hF => by
    have hi : i < ks.length := by omega
    have hw : (valsAt vals shards).length = shards.length := List.length_map _
    rw [drop_cons hi, List.map_cons, toldF, hw] at hF
    refine FL_of1 ?_
    rw [eq98_L0]
    simp only [Int.toNat_natCast]
    rw [getD_eq hi]
    refine Br_t (by omega) (Ck_d (by omega) (Ck_d (by omega) ?_))
    refine l98_1 R vals shards hv hs h8 ks _ _ h0l h1l told (by omega) ks[i] (hks _ (List.getElem_mem hi)).1 shards.length 0 0 (by omega) ⟨by decide, by decide⟩ ?_
    rw [wS (i := i) (by omega)]
    refine l98 R vals shards hv hs h8 ks hks hl h0l h1l n (i + 1) _ (by omega) (by simp; omega) ?_
    rw [List.append_assoc]
    exact hF
theorem c98 (kind : Int) (vals shards : List Int) (hv : ValsP vals) (hs : ShOk shards) (h8 : shards.length ≤ 8) (ho : solveOk kind vals shards = true) : SC P 98 [.one (.int .i64 kind), .one (.ro (.int .i64) vals), .one (.ro (.int .i64) shards)] [] [.agg [.int .i64 (solveI kind vals shards).1, .int .i64 (solveI kind vals shards).2.1, .int .i64 (solveI kind vals shards).2.2.1, .int .i64 (solveI kind vals shards).2.2.2]] [] := by
  refine SC_of_FB (H := H98) E_ok Try.func98 (by kernel_rfl) ?_
  rw [eq98]
  have hrl : (rowsF kind shards).length ≤ 8 := by rw [rowsF, List.length_map]; exact h8
  have hsl := spanF_len (rowsF kind shards)
  have hro := spanF_ok (rows_ok kind shards)
  refine ⟨_, c86 kind shards hs (by omega), (_, _), c105 _ (rows_ok kind shards) hrl, ?_⟩
  refine l98 _ vals shards hv hs h8 _ hro (by omega) _ _ _ 0 [] (Nat.zero_add _) rfl ?_
  rw [List.drop_zero, List.nil_append]
  have hml : ((spanF (rowsF kind shards)).1.map (toldF (valsAt vals shards))).length ≤ 8 := by rw [List.length_map]; omega
  refine l98_2 _ _ (by omega) _ _ _ 0 _ (Nat.zero_add _) rfl (told_ok hro) ho ?_
  intro rows' hr' ha' e
  have := l98_4 _ (by omega) rows' hr' ha' _ 0 [0, 0, 0, 0] (Nat.zero_add _) rfl
  rw [List.drop_zero, e] at this
  rw [e]
  exact this
end Go.Proofs.Ytjoiadaogppmkaa.Sh
