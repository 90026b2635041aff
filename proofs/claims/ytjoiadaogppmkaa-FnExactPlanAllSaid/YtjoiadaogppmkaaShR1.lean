/- Rows reduced one by another: contracts of the program's functions. -/
import Derived.Test.YtjoiadaogppmkaaShP1
import Derived.Test.YtjoiadaogppmkaaMaSpan
import Derived.Test.YtjoiadaogppmkaaShUse
namespace Go.Proofs.Ytjoiadaogppmkaa.Sh
open Go
set_option linter.unusedVariables false
set_option linter.unusedSimpArgs false
/-! (loop.example/keelson/impl.vector).lead$1 -/
def H146 : Hint := ⟨[], [], [], [], [], [], []⟩
theorem eq146 (x : Int) (r : List W) (lh : Heap) : FB E H146 Try.f146 [.one (.int .i64 x)] [] r lh =
  (
   Ret r lh [.one (.bool (!(decide (x = (0 : Int)))))] []) := by kernel_rfl
theorem c146 (x : Int) : SC P 146 [.one (.int .i64 x)] [] [.one (.bool (!decide (x = 0)))] [] := by
  refine SC_of_FB (H := H146) E_ok Try.func146 (by kernel_rfl) ?_
  rw [eq146]
  exact ⟨rfl, rfl⟩
/-! slices.IndexFunc[[]loop.example/keelson/impl.element,loop.example/keelson/impl.element] -/
def H145 : Hint := ⟨[[(0, 0, .bool), (1, 0, .bool), (7, 0, .bool), (8, 0, .bool)]], [], [], [], [], [], []⟩
def S145_L0 (s0n : Nat) (x7 : Int) (x8 : Int) (h0 : List Int) : St := ⟨[(0, .w (.one (.sl 0 (some (0, s0n))))), (1, .w (.one (.fn 146 []))), (7, .w (.one (.int .i64 x7))), (8, .w (.one (.int .i64 x8)))], [.row (.int .i64) h0 .var]⟩
theorem eq145 (l : List Int) (r : List W) (lh : Heap) : FB E H145 Try.f145 [.one (.sl 0 (some (0, 4))), .one (.fn 146 [])] [.row (.int .i64) l .var] r lh =
  (
   FL E H145 Try.f145 1 r lh 0 (S145_L0 4 4 0 l)) := by kernel_rfl
theorem eq145_L0 (s0n : Nat) (x7 : Int) (x8 : Int) (h0 : List Int) (r : List W) (lh : Heap) : FL1 E H145 Try.f145 1 r lh 0 (S145_L0 s0n x7 x8 h0) =
  (
   Br (decide (x8 < x7)) (
    Ck (decide ((0 : Int) ≤ x8)) (
     Ck (decide (x8 < ((s0n : Nat) : Int))) (
      Ck (Nat.ble ((0 + x8.toNat) + 1) h0.length) (
       ∃ r0 : Bool, SC P 146 [.one (.int .i64 (h0.getD (0 + x8.toNat) 0))] [] [.one (.bool r0)] [] ∧
        Br r0 (
         Ret r lh [.one (.int .i64 x8)] [.row (.int .i64) h0 .var]) (
         FL E H145 Try.f145 1 r lh 0 (S145_L0 s0n x7 (IntKind.wrap .i64 (x8 + 1)) h0)))))) (
    Ret r lh [.one (.int .i64 (-1))] [.row (.int .i64) h0 .var])) := by kernel_rfl
theorem l145 (v : V4) : ∀ (n i : Nat), i + n = 4 → FL E H145 Try.f145 1 [.one (.int .i64 (findR (fun j => !decide (v.l.getD j 0 = 0)) (fun j => (j : Int)) (-1) i n))] [.row (.int .i64) v.l .var] 0 (S145_L0 4 4 (i : Int) v.l)
  | 0, i, h => by
    refine FL_of1 ?_
    rw [eq145_L0]
    exact Br_f (by omega) ⟨rfl, rfl⟩
  | n + 1, i, h => by
    refine FL_of1 ?_
    rw [eq145_L0, wS (by omega), findR]
    simp only [Int.toNat_natCast, Nat.zero_add]
    refine Br_t (by omega) (Ck_d (by omega) (Ck_d (by omega) (Ck_le (by simp [V4.l]; omega) ⟨_, c146 _, Br_b (fun h1 => ?_) (fun h1 => ?_)⟩)))
    · exact ⟨by rw [cond_t h1], rfl⟩
    · rw [cond_f h1]
      exact l145 v n (i + 1) (by omega)
theorem c145 (v : V4) : SC P 145 [.one (.sl 0 (some (0, 4))), .one (.fn 146 [])] [.row (.int .i64) v.l .var] [.one (.int .i64 (leadV v))] [.row (.int .i64) v.l .var] := by
  refine SC_of_FB (H := H145) E_ok Try.func145 (by kernel_rfl) ?_
  rw [eq145]
  exact l145 v 4 0 (by omega)
/-! (loop.example/keelson/impl.vector).lead -/
def H121 : Hint := ⟨[], [], [], [], [], [], []⟩
theorem eq121 (v : (Int × (Int × (Int × Int)))) (r : List W) (lh : Heap) : FB E H121 Try.f121 [.agg [.int .i64 v.1, .int .i64 v.2.1, .int .i64 v.2.2.1, .int .i64 v.2.2.2]] [] r lh =
  (
   ∃ r0 : Int, SC P 145 [.one (.sl 0 (some (0, 4))), .one (.fn 146 [])] [.row (.int .i64) [v.1, v.2.1, v.2.2.1, v.2.2.2] .var] [.one (.int .i64 r0)] [.row (.int .i64) [v.1, v.2.1, v.2.2.1, v.2.2.2] .var] ∧
    Ret r lh [.one (.int .i64 r0)] []) := by kernel_rfl
theorem c121 (v : V4) : SC P 121 [.agg [.int .i64 v.1, .int .i64 v.2.1, .int .i64 v.2.2.1, .int .i64 v.2.2.2]] [] [.one (.int .i64 (leadV v))] [] := by
  refine SC_of_FB (H := H121) E_ok Try.func121 (by kernel_rfl) ?_
  rw [eq121]
  exact ⟨_, c145 v, rfl, rfl⟩
/-! (loop.example/keelson/impl.element).minus -/
def H124 : Hint := ⟨[], [], [], [], [], [], []⟩
theorem eq124 (a : Int) (b : Int) (r : List W) (lh : Heap) : FB E H124 Try.f124 [.one (.int .i64 a), .one (.int .i64 b)] [] r lh =
  (
   ∃ r0 : Int, SC P 133 [.one (.int .i64 (IntKind.wrap .i64 (a - b)))] [] [.one (.int .i64 r0)] [] ∧
    Ret r lh [.one (.int .i64 r0)] []) := by kernel_rfl
theorem c124 (a b : Int) (ha : FOk a) (hb : FOk b) : SC P 124 [.one (.int .i64 a), .one (.int .i64 b)] [] [.one (.int .i64 ((a - b) % 31))] [] := by
  refine SC_of_FB (H := H124) E_ok Try.func124 (by kernel_rfl) ?_
  rw [eq124]
  have := ha.1; have := ha.2; have := hb.1; have := hb.2
  rw [wrap64 (by omega) (by omega)]
  exact ⟨_, c133 _, rfl, rfl⟩
/-! (loop.example/keelson/impl.element).inverse -/
def H132 : Hint := ⟨[[(3, 0, .bool), (4, 0, .bool), (5, 0, .bool), (6, 0, .bool)]], [], [], [], [], [], []⟩
def S132_L0 (r3 : Int) (s4 : Int) (x5 : Int) (y6 : Int) : St := ⟨[(3, .w (.one (.int .i64 r3))), (4, .w (.one (.int .i64 s4))), (5, .w (.one (.int .i64 x5))), (6, .w (.one (.int .i64 y6)))], []⟩
theorem eq132 (a : Int) (r : List W) (lh : Heap) : FB E H132 Try.f132 [.one (.int .i64 a)] [] r lh =
  (
   FL E H132 Try.f132 0 r lh 0 (S132_L0 31 a 0 1)) := by kernel_rfl
theorem eq132_L0 (r3 : Int) (s4 : Int) (x5 : Int) (y6 : Int) (r : List W) (lh : Heap) : FL1 E H132 Try.f132 0 r lh 0 (S132_L0 r3 s4 x5 y6) =
  (
   Br (!(decide (s4 = (0 : Int)))) (
    Ck (!decide (s4 = 0)) (
     FL E H132 Try.f132 0 r lh 0 (S132_L0 s4 (IntKind.wrap .i64 (r3 - (IntKind.wrap .i64 ((IntKind.wrap .i64 (Int.tdiv r3 s4)) * s4)))) y6 (IntKind.wrap .i64 (x5 - (IntKind.wrap .i64 ((IntKind.wrap .i64 (Int.tdiv r3 s4)) * y6))))))) (
    ∃ r0 : Int, SC P 133 [.one (.int .i64 x5)] [] [.one (.int .i64 r0)] [] ∧
     Ret r lh [.one (.int .i64 r0)] [])) := by kernel_rfl
def euR : Nat → Int → Int → Int → Int → Option Int
  | 0, _, _, _, _ => none
  | n + 1, r, s, x, y => bif decide (s = 0) then some x else
    bif (inB r 0 1000 && inB s 0 1000) && (inB x (-1000) 1000 && inB y (-1000) 1000) then euR n s (r - Int.tdiv r s * s) y (x - Int.tdiv r s * y) else none
theorem tdiv_le {r s : Int} (hr : 0 ≤ r) (hs : 0 < s) : 0 ≤ Int.tdiv r s ∧ Int.tdiv r s ≤ r := by
  rw [Int.tdiv_eq_ediv_of_nonneg hr]
  exact ⟨Int.ediv_nonneg hr (by omega), Int.ediv_le_self s hr⟩
theorem mul_le {a b : Int} (A B : Nat) (ha : -A ≤ a ∧ a ≤ A) (hb : -B ≤ b ∧ b ≤ B) : -((A * B : Nat) : Int) ≤ a * b ∧ a * b ≤ ((A * B : Nat) : Int) := by
  have h1 : a.natAbs ≤ A := by omega
  have h2 : b.natAbs ≤ B := by omega
  have h3 := Nat.mul_le_mul h1 h2
  rw [← Int.natAbs_mul] at h3
  omega
theorem l132 (res : Int) : ∀ (n : Nat) (r s x y : Int), (euR n r s x y).map (· % 31) = some res → FL E H132 Try.f132 0 [.one (.int .i64 res)] [] 0 (S132_L0 r s x y)
  | 0, r, s, x, y, h => by simp [euR] at h
  | n + 1, r, s, x, y, h => by
    rw [euR] at h
    refine FL_of1 ?_
    rw [eq132_L0]
    refine Br_nd (fun hs => ?_) (fun hs => ?_)
    · rw [decide_eq_false hs, cond_false] at h
      cases hb : (inB r 0 1000 && inB s 0 1000) && (inB x (-1000) 1000 && inB y (-1000) 1000) with
      | false => rw [hb] at h; simp at h
      | true =>
        rw [hb, cond_true] at h
        simp only [Bool.and_eq_true, inB_iff] at hb
        obtain ⟨⟨⟨r0, r1⟩, s0, s1⟩, ⟨x0, x1⟩, y0, y1⟩ := hb
        obtain ⟨q0, q1⟩ := tdiv_le r0 (show 0 < s by omega)
        have m1 := mul_le 1000 1000 (a := Int.tdiv r s) (b := s) ⟨by omega, by omega⟩ ⟨by omega, by omega⟩
        have m2 := mul_le 1000 1000 (a := Int.tdiv r s) (b := y) ⟨by omega, by omega⟩ ⟨by omega, by omega⟩
        rw [wrap64 (n := Int.tdiv r s) (by omega) (by omega), wrap64 (n := Int.tdiv r s * s) (by omega) (by omega), wrap64 (n := Int.tdiv r s * y) (by omega) (by omega), wrap64 (n := r - Int.tdiv r s * s) (by omega) (by omega), wrap64 (n := x - Int.tdiv r s * y) (by omega) (by omega)]
        exact Ck_n hs (l132 res n _ _ _ _ h)
    · rw [decide_eq_true hs, cond_true] at h
      simp only [Option.map_some, Option.some.injEq] at h
      exact ⟨_, c133 _, by rw [h], rfl⟩
theorem eu_key : ∀ n : Nat, n < 31 → n ≠ 0 → (euR 12 31 (n : Int) 0 1).map (· % 31) = some (invE (n : Int)) := by decide +kernel
theorem c132 (a : Int) (ha : FOk a) (h0 : a ≠ 0) : SC P 132 [.one (.int .i64 a)] [] [.one (.int .i64 (invE a))] [] := by
  refine SC_of_FB (H := H132) E_ok Try.func132 (by kernel_rfl) ?_
  rw [eq132]
  refine l132 _ 12 _ _ _ _ ?_
  obtain ⟨h1, h2⟩ := ha
  have := eu_key a.toNat (by omega) (by omega)
  rw [show ((a.toNat : Nat) : Int) = a by omega] at this
  exact this
/-! loop.example/keelson/impl.flagged -/
def H41 : Hint := ⟨[[(3, 0, .bool), (7, 0, .bool), (8, 0, .bool), (9, 0, .bool)]], [], [], [], [], [], []⟩
def S41_L0 (x7 : List Bool) (x8 : Int) (x9 : Int) (h0 : List Int) : St := ⟨[(3, .w (.one (.sl 0 none))), (7, .w (.one (.ro .bool x7))), (8, .w (.one (.int .i64 x8))), (9, .w (.one (.int .i64 x9)))], [.row (.int .i64) h0 .own]⟩
theorem eq41 (there : List Bool) (r : List W) (lh : Heap) : FB E H41 Try.f41 [.one (.ro .bool there)] [] r lh =
  (
   FL E H41 Try.f41 0 r lh 0 (S41_L0 there ((there.length : Nat) : Int) 0 [])) := by kernel_rfl
theorem eq41_L0 (x7 : List Bool) (x8 : Int) (x9 : Int) (h0 : List Int) (r : List W) (lh : Heap) : FL1 E H41 Try.f41 0 r lh 0 (S41_L0 x7 x8 x9 h0) =
  (
   Br (decide (x9 < x8)) (
    Ck (decide ((0 : Int) ≤ x9)) (
     Ck (decide (x9 < ((x7.length : Nat) : Int))) (
      Br (x7.getD x9.toNat false) (
       Ck (Nat.ble ((h0.length + 1) * 8) roomy) (
        FL E H41 Try.f41 0 r lh 0 (S41_L0 x7 x8 (IntKind.wrap .i64 (x9 + 1)) (h0 ++ [x9])))) (
       FL E H41 Try.f41 0 r lh 0 (S41_L0 x7 x8 (IntKind.wrap .i64 (x9 + 1)) h0))))) (
    Ret r lh [.one (.sl 0 none)] [.row (.int .i64) h0 .own])) := by kernel_rfl
theorem l41 (there : List Bool) (hl : there.length ≤ 1048576) : ∀ (n i : Nat) (out : List Int), i + n = there.length → out.length ≤ i → FL E H41 Try.f41 0 [.one (.sl 0 none)] [.row (.int .i64) (out ++ filterR (fun j => there.getD j false) (fun j => (j : Int)) i n) .own] 0 (S41_L0 there (there.length : Int) (i : Int) out)
  | 0, i, out, h, ho => by
    refine FL_of1 ?_
    rw [eq41_L0]
    exact Br_f (by omega) ⟨rfl, by rw [filterR, List.append_nil]⟩
  | n + 1, i, out, h, ho => by
    refine FL_of1 ?_
    rw [eq41_L0, wS (by omega), filterR]
    simp only [Int.toNat_natCast]
    refine Br_t (by omega) (Ck_d (by omega) (Ck_d (by omega) (Br_b (fun h1 => ?_) (fun h1 => ?_))))
    · rw [h1, cond_true]
      refine Ck_room (by omega) ?_
      have := l41 there hl n (i + 1) (out ++ [(i : Int)]) (by omega) (by simp; omega)
      rw [List.append_assoc] at this
      exact this
    · rw [h1, cond_false]
      exact l41 there hl n (i + 1) out (by omega) (by omega)
theorem c41 (there : List Bool) (hl : there.length ≤ 1048576) : SC P 41 [.one (.ro .bool there)] [] [.one (.sl 0 none)] [.row (.int .i64) (flagF there) .own] := by
  refine SC_of_FB (H := H41) E_ok Try.func41 (by kernel_rfl) ?_
  rw [eq41]
  exact l41 there hl there.length 0 [] (by omega) (Nat.le_refl _)
/-! loop.example/keelson/impl.rowsOf -/
def H86 : Hint := ⟨[[(0, 0, .bool), (5, 0, .bool), (11, 0, .bool), (12, 0, .bool), (13, 0, .bool)]], [], [], [], [], [], []⟩
def S86_L0 (kind0 : Int) (x11 : List Int) (x12 : Int) (x13 : Int) (h0 : List (Int × (Int × (Int × Int)))) : St := ⟨[(0, .w (.one (.int .i64 kind0))), (5, .w (.one (.sl 0 none))), (11, .w (.one (.ro (.int .i64) x11))), (12, .w (.one (.int .i64 x12))), (13, .w (.one (.int .i64 x13)))], [.row (.pair (.int .i64) (.pair (.int .i64) (.pair (.int .i64) (.int .i64)))) h0 .own]⟩
theorem eq86 (kind : Int) (shards : List Int) (r : List W) (lh : Heap) : FB E H86 Try.f86 [.one (.int .i64 kind), .one (.ro (.int .i64) shards)] [] r lh =
  (
   Ck (decide ((0 : Int) ≤ ((shards.length : Nat) : Int))) (
    Ck (decide (((shards.length : Nat) : Int) * (32 : Nat) ≤ (roomy : Int))) (
     FL E H86 Try.f86 0 r lh 0 (S86_L0 kind shards ((shards.length : Nat) : Int) 0 [])))) := by kernel_rfl
theorem eq86_L0 (kind0 : Int) (x11 : List Int) (x12 : Int) (x13 : Int) (h0 : List (Int × (Int × (Int × Int)))) (r : List W) (lh : Heap) : FL1 E H86 Try.f86 0 r lh 0 (S86_L0 kind0 x11 x12 x13 h0) =
  (
   Br (decide (x13 < x12)) (
    Ck (decide ((0 : Int) ≤ x13)) (
     Ck (decide (x13 < ((x11.length : Nat) : Int))) (
      ∃ r0 : Int × Int × Int × Int, SC P 90 [.one (.int .i64 kind0), .one (.int .i64 (x11.getD x13.toNat 0))] [] [.agg [.int .i64 r0.1, .int .i64 r0.2.1, .int .i64 r0.2.2.1, .int .i64 r0.2.2.2]] [] ∧
       Ck (Nat.ble ((h0.length + 1) * 32) roomy) (
        FL E H86 Try.f86 0 r lh 0 (S86_L0 kind0 x11 x12 (IntKind.wrap .i64 (x13 + 1)) (h0 ++ ([(r0.1, (r0.2.1, (r0.2.2.1, r0.2.2.2)))] : List (Int × (Int × (Int × Int)))))))))) (
    Ret r lh [.one (.sl 0 none)] [.row (.pair (.int .i64) (.pair (.int .i64) (.pair (.int .i64) (.int .i64)))) h0 .own])) := by kernel_rfl
def ShOk (shards : List Int) : Prop := ∀ i ∈ shards, 0 ≤ i ∧ i ≤ 7
theorem shok_get {shards : List Int} (h : ShOk shards) {i : Nat} (hi : i < shards.length) : 0 ≤ shards.getD i 0 ∧ shards.getD i 0 ≤ 7 := by
  rw [getD_eq hi]; exact h _ (List.getElem_mem _)
theorem l86 (kind : Int) (shards : List Int) (hs : ShOk shards) (hl : shards.length ≤ 1048576) : ∀ (n i : Nat) (out : List V4), i + n = shards.length → out.length = i → FL E H86 Try.f86 0 [.one (.sl 0 none)] [.row (.pair (.int .i64) (.pair (.int .i64) (.pair (.int .i64) (.int .i64)))) (out ++ mapR (fun j => rowV kind (shards.getD j 0)) i n) .own] 0 (S86_L0 kind shards (shards.length : Int) (i : Int) out)
  | 0, i, out, h, ho => by
    refine FL_of1 ?_
    rw [eq86_L0]
    exact Br_f (by omega) ⟨rfl, by rw [mapR, List.append_nil]⟩
  | n + 1, i, out, h, ho => by
    refine FL_of1 ?_
    rw [eq86_L0, wS (by omega), mapR]
    simp only [Int.toNat_natCast]
    obtain ⟨g0, g1⟩ := shok_get hs (show i < shards.length by omega)
    refine Br_t (by omega) (Ck_d (by omega) (Ck_d (by omega) ⟨_, c90 kind _ g0 g1, Ck_room (by omega) ?_⟩))
    have := l86 kind shards hs hl n (i + 1) (out ++ [rowV kind (shards.getD i 0)]) (by omega) (by simp; omega)
    rw [List.append_assoc] at this
    exact this
theorem c86 (kind : Int) (shards : List Int) (hs : ShOk shards) (hl : shards.length ≤ 1048576) : SC P 86 [.one (.int .i64 kind), .one (.ro (.int .i64) shards)] [] [.one (.sl 0 none)] [.row (.pair (.int .i64) (.pair (.int .i64) (.pair (.int .i64) (.int .i64)))) (rowsF kind shards) .own] := by
  refine SC_of_FB (H := H86) E_ok Try.func86 (by kernel_rfl) ?_
  rw [eq86]
  refine Ck_d (by omega) (Ck_roomI (by omega) ?_)
  have := l86 kind shards hs hl shards.length 0 [] (by omega) rfl
  rw [mapR_map (l := shards) (z := 0) (rowV kind)] at this
  exact this
/-! (*loop.example/keelson/impl.span).less -/
def H131n : Hint := ⟨[[(3, 0, .bool), (4, 0, .bool), (12, 0, .bool), (13, 0, .bool), (14, 0, .bool)], [(3, 0, .bool), (4, 0, .bool), (6, 0, .bool), (7, 0, .bool), (12, 0, .bool), (13, 0, .bool), (14, 0, .bool), (32, 0, .bool)]], [], [(5, [0, 1, 2, 3, 4, 5, 6, 7, 8]), (9, [0, 1, 2, 3, 4, 5, 6, 7, 8, 9, 12, 10, 11, 13, 14])], [], [], [], []⟩
def S131n_L0 (x13 : Int) (x14 : Int) (h1 : List Int) (h2 : List Int) : St := ⟨[(3, .w (.one (.ptr 1 0 0))), (4, .w (.one (.ptr 2 0 0))), (12, .w (.one (.nil))), (13, .w (.one (.int .i64 x13))), (14, .w (.one (.int .i64 x14)))], [.box [.nil, .nil], .row (.int .i64) h1 .var, .row (.int .i64) h2 .var]⟩
theorem eq131n (k : Kept) (r : List W) (lh : Heap) : FB E H131n Try.f131 [.one (.ptr 0 0 0), .agg [.int .i64 k.1.1, .int .i64 k.1.2.1, .int .i64 k.1.2.2.1, .int .i64 k.1.2.2.2, .int .i64 k.2.1, .int .i64 k.2.2.1, .int .i64 k.2.2.2.1, .int .i64 k.2.2.2.2.1, .int .i64 k.2.2.2.2.2.1, .int .i64 k.2.2.2.2.2.2.1, .int .i64 k.2.2.2.2.2.2.2.1, .int .i64 k.2.2.2.2.2.2.2.2]] [.box [.nil, .nil]] r lh =
  (
   FL E H131n Try.f131 1 r lh 0 (S131n_L0 0 0 [k.1.1, k.1.2.1, k.1.2.2.1, k.1.2.2.2, k.2.1, k.2.2.1, k.2.2.2.1, k.2.2.2.2.1, k.2.2.2.2.2.1, k.2.2.2.2.2.2.1, k.2.2.2.2.2.2.2.1, k.2.2.2.2.2.2.2.2] [0, 0, 0, 0, 0, 0, 0, 0, 0, 0, 0, 0])) := by kernel_rfl
theorem eq131n_L0 (x13 : Int) (x14 : Int) (h1 : List Int) (h2 : List Int) (r : List W) (lh : Heap) : FL1 E H131n Try.f131 1 r lh 0 (S131n_L0 x13 x14 h1 h2) =
  (
   Br (decide (x14 < x13)) (
    False) (
    Ck (Nat.ble 12 h1.length) (
     Ck (Nat.ble 12 h2.length) (
      Ck (Nat.ble 12 (((((((((((((h2.set 0 (h1.getD 0 0)).set 1 (h1.getD 1 0)).set 2 (h1.getD 2 0)).set 3 (h1.getD 3 0)).set 4 (h1.getD 4 0)).set 5 (h1.getD 5 0)).set 6 (h1.getD 6 0)).set 7 (h1.getD 7 0)).set 8 (h1.getD 8 0)).set 9 (h1.getD 9 0)).set 10 (h1.getD 10 0)).set 11 (h1.getD 11 0)).length)) (
       Ret r lh [.agg [.int .i64 (((((((((((((h2.set 0 (h1.getD 0 0)).set 1 (h1.getD 1 0)).set 2 (h1.getD 2 0)).set 3 (h1.getD 3 0)).set 4 (h1.getD 4 0)).set 5 (h1.getD 5 0)).set 6 (h1.getD 6 0)).set 7 (h1.getD 7 0)).set 8 (h1.getD 8 0)).set 9 (h1.getD 9 0)).set 10 (h1.getD 10 0)).set 11 (h1.getD 11 0)).getD 0 0), .int .i64 (((((((((((((h2.set 0 (h1.getD 0 0)).set 1 (h1.getD 1 0)).set 2 (h1.getD 2 0)).set 3 (h1.getD 3 0)).set 4 (h1.getD 4 0)).set 5 (h1.getD 5 0)).set 6 (h1.getD 6 0)).set 7 (h1.getD 7 0)).set 8 (h1.getD 8 0)).set 9 (h1.getD 9 0)).set 10 (h1.getD 10 0)).set 11 (h1.getD 11 0)).getD 1 0), .int .i64 (((((((((((((h2.set 0 (h1.getD 0 0)).set 1 (h1.getD 1 0)).set 2 (h1.getD 2 0)).set 3 (h1.getD 3 0)).set 4 (h1.getD 4 0)).set 5 (h1.getD 5 0)).set 6 (h1.getD 6 0)).set 7 (h1.getD 7 0)).set 8 (h1.getD 8 0)).set 9 (h1.getD 9 0)).set 10 (h1.getD 10 0)).set 11 (h1.getD 11 0)).getD 2 0), .int .i64 (((((((((((((h2.set 0 (h1.getD 0 0)).set 1 (h1.getD 1 0)).set 2 (h1.getD 2 0)).set 3 (h1.getD 3 0)).set 4 (h1.getD 4 0)).set 5 (h1.getD 5 0)).set 6 (h1.getD 6 0)).set 7 (h1.getD 7 0)).set 8 (h1.getD 8 0)).set 9 (h1.getD 9 0)).set 10 (h1.getD 10 0)).set 11 (h1.getD 11 0)).getD 3 0), .int .i64 (((((((((((((h2.set 0 (h1.getD 0 0)).set 1 (h1.getD 1 0)).set 2 (h1.getD 2 0)).set 3 (h1.getD 3 0)).set 4 (h1.getD 4 0)).set 5 (h1.getD 5 0)).set 6 (h1.getD 6 0)).set 7 (h1.getD 7 0)).set 8 (h1.getD 8 0)).set 9 (h1.getD 9 0)).set 10 (h1.getD 10 0)).set 11 (h1.getD 11 0)).getD 4 0), .int .i64 (((((((((((((h2.set 0 (h1.getD 0 0)).set 1 (h1.getD 1 0)).set 2 (h1.getD 2 0)).set 3 (h1.getD 3 0)).set 4 (h1.getD 4 0)).set 5 (h1.getD 5 0)).set 6 (h1.getD 6 0)).set 7 (h1.getD 7 0)).set 8 (h1.getD 8 0)).set 9 (h1.getD 9 0)).set 10 (h1.getD 10 0)).set 11 (h1.getD 11 0)).getD 5 0), .int .i64 (((((((((((((h2.set 0 (h1.getD 0 0)).set 1 (h1.getD 1 0)).set 2 (h1.getD 2 0)).set 3 (h1.getD 3 0)).set 4 (h1.getD 4 0)).set 5 (h1.getD 5 0)).set 6 (h1.getD 6 0)).set 7 (h1.getD 7 0)).set 8 (h1.getD 8 0)).set 9 (h1.getD 9 0)).set 10 (h1.getD 10 0)).set 11 (h1.getD 11 0)).getD 6 0), .int .i64 (((((((((((((h2.set 0 (h1.getD 0 0)).set 1 (h1.getD 1 0)).set 2 (h1.getD 2 0)).set 3 (h1.getD 3 0)).set 4 (h1.getD 4 0)).set 5 (h1.getD 5 0)).set 6 (h1.getD 6 0)).set 7 (h1.getD 7 0)).set 8 (h1.getD 8 0)).set 9 (h1.getD 9 0)).set 10 (h1.getD 10 0)).set 11 (h1.getD 11 0)).getD 7 0), .int .i64 (((((((((((((h2.set 0 (h1.getD 0 0)).set 1 (h1.getD 1 0)).set 2 (h1.getD 2 0)).set 3 (h1.getD 3 0)).set 4 (h1.getD 4 0)).set 5 (h1.getD 5 0)).set 6 (h1.getD 6 0)).set 7 (h1.getD 7 0)).set 8 (h1.getD 8 0)).set 9 (h1.getD 9 0)).set 10 (h1.getD 10 0)).set 11 (h1.getD 11 0)).getD 8 0), .int .i64 (((((((((((((h2.set 0 (h1.getD 0 0)).set 1 (h1.getD 1 0)).set 2 (h1.getD 2 0)).set 3 (h1.getD 3 0)).set 4 (h1.getD 4 0)).set 5 (h1.getD 5 0)).set 6 (h1.getD 6 0)).set 7 (h1.getD 7 0)).set 8 (h1.getD 8 0)).set 9 (h1.getD 9 0)).set 10 (h1.getD 10 0)).set 11 (h1.getD 11 0)).getD 9 0), .int .i64 (((((((((((((h2.set 0 (h1.getD 0 0)).set 1 (h1.getD 1 0)).set 2 (h1.getD 2 0)).set 3 (h1.getD 3 0)).set 4 (h1.getD 4 0)).set 5 (h1.getD 5 0)).set 6 (h1.getD 6 0)).set 7 (h1.getD 7 0)).set 8 (h1.getD 8 0)).set 9 (h1.getD 9 0)).set 10 (h1.getD 10 0)).set 11 (h1.getD 11 0)).getD 10 0), .int .i64 (((((((((((((h2.set 0 (h1.getD 0 0)).set 1 (h1.getD 1 0)).set 2 (h1.getD 2 0)).set 3 (h1.getD 3 0)).set 4 (h1.getD 4 0)).set 5 (h1.getD 5 0)).set 6 (h1.getD 6 0)).set 7 (h1.getD 7 0)).set 8 (h1.getD 8 0)).set 9 (h1.getD 9 0)).set 10 (h1.getD 10 0)).set 11 (h1.getD 11 0)).getD 11 0)]] [.box [.nil, .nil]]))))) := by kernel_rfl
theorem c131n (k : Kept) : SC P 131 [.one (.ptr 0 0 0), .agg [.int .i64 k.1.1, .int .i64 k.1.2.1, .int .i64 k.1.2.2.1, .int .i64 k.1.2.2.2, .int .i64 k.2.1, .int .i64 k.2.2.1, .int .i64 k.2.2.2.1, .int .i64 k.2.2.2.2.1, .int .i64 k.2.2.2.2.2.1, .int .i64 k.2.2.2.2.2.2.1, .int .i64 k.2.2.2.2.2.2.2.1, .int .i64 k.2.2.2.2.2.2.2.2]] [.box [.nil, .nil]] [.agg [.int .i64 (lessF [] k).1.1, .int .i64 (lessF [] k).1.2.1, .int .i64 (lessF [] k).1.2.2.1, .int .i64 (lessF [] k).1.2.2.2, .int .i64 (lessF [] k).2.1, .int .i64 (lessF [] k).2.2.1, .int .i64 (lessF [] k).2.2.2.1, .int .i64 (lessF [] k).2.2.2.2.1, .int .i64 (lessF [] k).2.2.2.2.2.1, .int .i64 (lessF [] k).2.2.2.2.2.2.1, .int .i64 (lessF [] k).2.2.2.2.2.2.2.1, .int .i64 (lessF [] k).2.2.2.2.2.2.2.2]] [.box [.nil, .nil]] := by
  refine SC_of_FB (H := H131n) E_ok Try.func131 (by kernel_rfl) ?_
  rw [eq131n]
  refine FL_of1 ?_
  rw [eq131n_L0]
  exact Br_f (by omega) (Ck_b (by kernel_rfl) (Ck_b (by kernel_rfl) (Ck_b (by kernel_rfl) ⟨by kernel_rfl, rfl⟩)))
/-! (*loop.example/keelson/impl.span).less -/
def H131s : Hint := ⟨[[(3, 0, .bool), (4, 0, .bool), (12, 0, .bool), (13, 0, .bool), (14, 0, .bool)], [(3, 0, .bool), (4, 0, .bool), (6, 0, .bool), (7, 0, .bool), (12, 0, .bool), (13, 0, .bool), (14, 0, .bool), (32, 0, .bool)]], [], [(5, [0, 1, 2, 3, 4, 5, 6, 7, 8]), (9, [0, 1, 2, 3, 4, 5, 6, 7, 8, 9, 12, 10, 11, 13, 14])], [], [], [], []⟩
def S131s_L0 (x13 : Int) (x14 : Int) (h1 : List ((Int × (Int × (Int × Int))) × (Int × (Int × (Int × (Int × (Int × (Int × (Int × Int))))))))) (h2 : List Int) (h3 : List Int) (h4 : List Int) : St := ⟨[(3, .w (.one (.ptr 3 0 0))), (4, .w (.one (.ptr 4 0 0))), (12, .w (.one (.sl 1 none))), (13, .w (.one (.int .i64 x13))), (14, .w (.one (.int .i64 x14)))], [.box [.sl 1 none, .sl 2 none], .row (.pair (.pair (.int .i64) (.pair (.int .i64) (.pair (.int .i64) (.int .i64)))) (.pair (.int .i64) (.pair (.int .i64) (.pair (.int .i64) (.pair (.int .i64) (.pair (.int .i64) (.pair (.int .i64) (.pair (.int .i64) (.int .i64))))))))) h1 .own, .row (.int .i64) h2 .own, .row (.int .i64) h3 .var, .row (.int .i64) h4 .var]⟩
def S131s_L1 (c7 : Int) (x13 : Int) (x14 : Int) (x32 : Int) (h1 : List ((Int × (Int × (Int × Int))) × (Int × (Int × (Int × (Int × (Int × (Int × (Int × Int))))))))) (h2 : List Int) (h3 : List Int) (h4 : List Int) (h5 : List Int) : St := ⟨[(3, .w (.one (.ptr 3 0 0))), (4, .w (.one (.ptr 4 0 0))), (6, .w (.one (.ptr 5 0 0))), (7, .w (.one (.int .i64 c7))), (12, .w (.one (.sl 1 none))), (13, .w (.one (.int .i64 x13))), (14, .w (.one (.int .i64 x14))), (32, .w (.one (.int .i64 x32)))], [.box [.sl 1 none, .sl 2 none], .row (.pair (.pair (.int .i64) (.pair (.int .i64) (.pair (.int .i64) (.int .i64)))) (.pair (.int .i64) (.pair (.int .i64) (.pair (.int .i64) (.pair (.int .i64) (.pair (.int .i64) (.pair (.int .i64) (.pair (.int .i64) (.int .i64))))))))) h1 .own, .row (.int .i64) h2 .own, .row (.int .i64) h3 .var, .row (.int .i64) h4 .var, .row (.int .i64) h5 .var]⟩
theorem eq131s (k : Kept) (rows : List Kept) (pv : List Int) (r : List W) (lh : Heap) : FB E H131s Try.f131 [.one (.ptr 0 0 0), .agg [.int .i64 k.1.1, .int .i64 k.1.2.1, .int .i64 k.1.2.2.1, .int .i64 k.1.2.2.2, .int .i64 k.2.1, .int .i64 k.2.2.1, .int .i64 k.2.2.2.1, .int .i64 k.2.2.2.2.1, .int .i64 k.2.2.2.2.2.1, .int .i64 k.2.2.2.2.2.2.1, .int .i64 k.2.2.2.2.2.2.2.1, .int .i64 k.2.2.2.2.2.2.2.2]] [.box [.sl 1 none, .sl 2 none], .row (.pair (.pair (.int .i64) (.pair (.int .i64) (.pair (.int .i64) (.int .i64)))) (.pair (.int .i64) (.pair (.int .i64) (.pair (.int .i64) (.pair (.int .i64) (.pair (.int .i64) (.pair (.int .i64) (.pair (.int .i64) (.int .i64))))))))) rows .own, .row (.int .i64) pv .own] r lh =
  (
   FL E H131s Try.f131 3 r lh 0 (S131s_L0 ((rows.length : Nat) : Int) 0 rows pv [k.1.1, k.1.2.1, k.1.2.2.1, k.1.2.2.2, k.2.1, k.2.2.1, k.2.2.2.1, k.2.2.2.2.1, k.2.2.2.2.2.1, k.2.2.2.2.2.2.1, k.2.2.2.2.2.2.2.1, k.2.2.2.2.2.2.2.2] [0, 0, 0, 0, 0, 0, 0, 0, 0, 0, 0, 0])) := by kernel_rfl
theorem eq131s_L0 (x13 : Int) (x14 : Int) (h1 : List ((Int × (Int × (Int × Int))) × (Int × (Int × (Int × (Int × (Int × (Int × (Int × Int))))))))) (h2 : List Int) (h3 : List Int) (h4 : List Int) (r : List W) (lh : Heap) : FL1 E H131s Try.f131 3 r lh 0 (S131s_L0 x13 x14 h1 h2 h3 h4) =
  (
   Br (decide (x14 < x13)) (
    Ck (decide ((0 : Int) ≤ x14)) (
     Ck (decide (x14 < ((h1.length : Nat) : Int))) (
      Ck (Nat.blt x14.toNat h1.length) (
       ∃ r0 : Int, SC P 121 [.agg [.int .i64 (((h1.getD x14.toNat ((0, (0, (0, 0))), (0, (0, (0, (0, (0, (0, (0, 0))))))))).1).1), .int .i64 ((((h1.getD x14.toNat ((0, (0, (0, 0))), (0, (0, (0, (0, (0, (0, (0, 0))))))))).1).2).1), .int .i64 (((((h1.getD x14.toNat ((0, (0, (0, 0))), (0, (0, (0, (0, (0, (0, (0, 0))))))))).1).2).2).1), .int .i64 (((((h1.getD x14.toNat ((0, (0, (0, 0))), (0, (0, (0, (0, (0, (0, (0, 0))))))))).1).2).2).2)]] [] [.one (.int .i64 r0)] [] ∧
        Ck (decide ((0 : Int) ≤ r0)) (
         Ck (decide (r0 < (4 : Int))) (
          Ck (Nat.ble ((0 + (r0.toNat * 1)) + 1) h3.length) (
           Ck (Nat.ble 4 h3.length) (
            ∃ r1 : Int × Int × Int × Int, SC P 123 [.agg [.int .i64 (((h1.getD x14.toNat ((0, (0, (0, 0))), (0, (0, (0, (0, (0, (0, (0, 0))))))))).1).1), .int .i64 ((((h1.getD x14.toNat ((0, (0, (0, 0))), (0, (0, (0, (0, (0, (0, (0, 0))))))))).1).2).1), .int .i64 (((((h1.getD x14.toNat ((0, (0, (0, 0))), (0, (0, (0, (0, (0, (0, (0, 0))))))))).1).2).2).1), .int .i64 (((((h1.getD x14.toNat ((0, (0, (0, 0))), (0, (0, (0, (0, (0, (0, (0, 0))))))))).1).2).2).2)], .one (.int .i64 (h3.getD (0 + (r0.toNat * 1)) 0))] [] [.agg [.int .i64 r1.1, .int .i64 r1.2.1, .int .i64 r1.2.2.1, .int .i64 r1.2.2.2]] [] ∧
             ∃ r2 : Int × Int × Int × Int, SC P 122 [.agg [.int .i64 (h3.getD 0 0), .int .i64 (h3.getD 1 0), .int .i64 (h3.getD 2 0), .int .i64 (h3.getD 3 0)], .agg [.int .i64 r1.1, .int .i64 r1.2.1, .int .i64 r1.2.2.1, .int .i64 r1.2.2.2]] [] [.agg [.int .i64 r2.1, .int .i64 r2.2.1, .int .i64 r2.2.2.1, .int .i64 r2.2.2.2]] [] ∧
              Ck (Nat.ble 4 h3.length) (
               FL E H131s Try.f131 3 r lh 1 (S131s_L1 (h3.getD (0 + (r0.toNat * 1)) 0) x13 x14 0 h1 h2 ((((h3.set 0 r2.1).set 1 r2.2.1).set 2 r2.2.2.1).set 3 r2.2.2.2) h4 [((h1.getD x14.toNat ((0, (0, (0, 0))), (0, (0, (0, (0, (0, (0, (0, 0))))))))).1).1, (((h1.getD x14.toNat ((0, (0, (0, 0))), (0, (0, (0, (0, (0, (0, (0, 0))))))))).1).2).1, ((((h1.getD x14.toNat ((0, (0, (0, 0))), (0, (0, (0, (0, (0, (0, (0, 0))))))))).1).2).2).1, ((((h1.getD x14.toNat ((0, (0, (0, 0))), (0, (0, (0, (0, (0, (0, (0, 0))))))))).1).2).2).2, ((h1.getD x14.toNat ((0, (0, (0, 0))), (0, (0, (0, (0, (0, (0, (0, 0))))))))).2).1, (((h1.getD x14.toNat ((0, (0, (0, 0))), (0, (0, (0, (0, (0, (0, (0, 0))))))))).2).2).1, ((((h1.getD x14.toNat ((0, (0, (0, 0))), (0, (0, (0, (0, (0, (0, (0, 0))))))))).2).2).2).1, (((((h1.getD x14.toNat ((0, (0, (0, 0))), (0, (0, (0, (0, (0, (0, (0, 0))))))))).2).2).2).2).1, ((((((h1.getD x14.toNat ((0, (0, (0, 0))), (0, (0, (0, (0, (0, (0, (0, 0))))))))).2).2).2).2).2).1, (((((((h1.getD x14.toNat ((0, (0, (0, 0))), (0, (0, (0, (0, (0, (0, (0, 0))))))))).2).2).2).2).2).2).1, ((((((((h1.getD x14.toNat ((0, (0, (0, 0))), (0, (0, (0, (0, (0, (0, (0, 0))))))))).2).2).2).2).2).2).2).1, ((((((((h1.getD x14.toNat ((0, (0, (0, 0))), (0, (0, (0, (0, (0, (0, (0, 0))))))))).2).2).2).2).2).2).2).2])))))))))) (
    Ck (Nat.ble 12 h3.length) (
     Ck (Nat.ble 12 h4.length) (
      Ck (Nat.ble 12 (((((((((((((h4.set 0 (h3.getD 0 0)).set 1 (h3.getD 1 0)).set 2 (h3.getD 2 0)).set 3 (h3.getD 3 0)).set 4 (h3.getD 4 0)).set 5 (h3.getD 5 0)).set 6 (h3.getD 6 0)).set 7 (h3.getD 7 0)).set 8 (h3.getD 8 0)).set 9 (h3.getD 9 0)).set 10 (h3.getD 10 0)).set 11 (h3.getD 11 0)).length)) (
       Ret r lh [.agg [.int .i64 (((((((((((((h4.set 0 (h3.getD 0 0)).set 1 (h3.getD 1 0)).set 2 (h3.getD 2 0)).set 3 (h3.getD 3 0)).set 4 (h3.getD 4 0)).set 5 (h3.getD 5 0)).set 6 (h3.getD 6 0)).set 7 (h3.getD 7 0)).set 8 (h3.getD 8 0)).set 9 (h3.getD 9 0)).set 10 (h3.getD 10 0)).set 11 (h3.getD 11 0)).getD 0 0), .int .i64 (((((((((((((h4.set 0 (h3.getD 0 0)).set 1 (h3.getD 1 0)).set 2 (h3.getD 2 0)).set 3 (h3.getD 3 0)).set 4 (h3.getD 4 0)).set 5 (h3.getD 5 0)).set 6 (h3.getD 6 0)).set 7 (h3.getD 7 0)).set 8 (h3.getD 8 0)).set 9 (h3.getD 9 0)).set 10 (h3.getD 10 0)).set 11 (h3.getD 11 0)).getD 1 0), .int .i64 (((((((((((((h4.set 0 (h3.getD 0 0)).set 1 (h3.getD 1 0)).set 2 (h3.getD 2 0)).set 3 (h3.getD 3 0)).set 4 (h3.getD 4 0)).set 5 (h3.getD 5 0)).set 6 (h3.getD 6 0)).set 7 (h3.getD 7 0)).set 8 (h3.getD 8 0)).set 9 (h3.getD 9 0)).set 10 (h3.getD 10 0)).set 11 (h3.getD 11 0)).getD 2 0), .int .i64 (((((((((((((h4.set 0 (h3.getD 0 0)).set 1 (h3.getD 1 0)).set 2 (h3.getD 2 0)).set 3 (h3.getD 3 0)).set 4 (h3.getD 4 0)).set 5 (h3.getD 5 0)).set 6 (h3.getD 6 0)).set 7 (h3.getD 7 0)).set 8 (h3.getD 8 0)).set 9 (h3.getD 9 0)).set 10 (h3.getD 10 0)).set 11 (h3.getD 11 0)).getD 3 0), .int .i64 (((((((((((((h4.set 0 (h3.getD 0 0)).set 1 (h3.getD 1 0)).set 2 (h3.getD 2 0)).set 3 (h3.getD 3 0)).set 4 (h3.getD 4 0)).set 5 (h3.getD 5 0)).set 6 (h3.getD 6 0)).set 7 (h3.getD 7 0)).set 8 (h3.getD 8 0)).set 9 (h3.getD 9 0)).set 10 (h3.getD 10 0)).set 11 (h3.getD 11 0)).getD 4 0), .int .i64 (((((((((((((h4.set 0 (h3.getD 0 0)).set 1 (h3.getD 1 0)).set 2 (h3.getD 2 0)).set 3 (h3.getD 3 0)).set 4 (h3.getD 4 0)).set 5 (h3.getD 5 0)).set 6 (h3.getD 6 0)).set 7 (h3.getD 7 0)).set 8 (h3.getD 8 0)).set 9 (h3.getD 9 0)).set 10 (h3.getD 10 0)).set 11 (h3.getD 11 0)).getD 5 0), .int .i64 (((((((((((((h4.set 0 (h3.getD 0 0)).set 1 (h3.getD 1 0)).set 2 (h3.getD 2 0)).set 3 (h3.getD 3 0)).set 4 (h3.getD 4 0)).set 5 (h3.getD 5 0)).set 6 (h3.getD 6 0)).set 7 (h3.getD 7 0)).set 8 (h3.getD 8 0)).set 9 (h3.getD 9 0)).set 10 (h3.getD 10 0)).set 11 (h3.getD 11 0)).getD 6 0), .int .i64 (((((((((((((h4.set 0 (h3.getD 0 0)).set 1 (h3.getD 1 0)).set 2 (h3.getD 2 0)).set 3 (h3.getD 3 0)).set 4 (h3.getD 4 0)).set 5 (h3.getD 5 0)).set 6 (h3.getD 6 0)).set 7 (h3.getD 7 0)).set 8 (h3.getD 8 0)).set 9 (h3.getD 9 0)).set 10 (h3.getD 10 0)).set 11 (h3.getD 11 0)).getD 7 0), .int .i64 (((((((((((((h4.set 0 (h3.getD 0 0)).set 1 (h3.getD 1 0)).set 2 (h3.getD 2 0)).set 3 (h3.getD 3 0)).set 4 (h3.getD 4 0)).set 5 (h3.getD 5 0)).set 6 (h3.getD 6 0)).set 7 (h3.getD 7 0)).set 8 (h3.getD 8 0)).set 9 (h3.getD 9 0)).set 10 (h3.getD 10 0)).set 11 (h3.getD 11 0)).getD 8 0), .int .i64 (((((((((((((h4.set 0 (h3.getD 0 0)).set 1 (h3.getD 1 0)).set 2 (h3.getD 2 0)).set 3 (h3.getD 3 0)).set 4 (h3.getD 4 0)).set 5 (h3.getD 5 0)).set 6 (h3.getD 6 0)).set 7 (h3.getD 7 0)).set 8 (h3.getD 8 0)).set 9 (h3.getD 9 0)).set 10 (h3.getD 10 0)).set 11 (h3.getD 11 0)).getD 9 0), .int .i64 (((((((((((((h4.set 0 (h3.getD 0 0)).set 1 (h3.getD 1 0)).set 2 (h3.getD 2 0)).set 3 (h3.getD 3 0)).set 4 (h3.getD 4 0)).set 5 (h3.getD 5 0)).set 6 (h3.getD 6 0)).set 7 (h3.getD 7 0)).set 8 (h3.getD 8 0)).set 9 (h3.getD 9 0)).set 10 (h3.getD 10 0)).set 11 (h3.getD 11 0)).getD 10 0), .int .i64 (((((((((((((h4.set 0 (h3.getD 0 0)).set 1 (h3.getD 1 0)).set 2 (h3.getD 2 0)).set 3 (h3.getD 3 0)).set 4 (h3.getD 4 0)).set 5 (h3.getD 5 0)).set 6 (h3.getD 6 0)).set 7 (h3.getD 7 0)).set 8 (h3.getD 8 0)).set 9 (h3.getD 9 0)).set 10 (h3.getD 10 0)).set 11 (h3.getD 11 0)).getD 11 0)]] [.box [.sl 1 none, .sl 2 none], .row (.pair (.pair (.int .i64) (.pair (.int .i64) (.pair (.int .i64) (.int .i64)))) (.pair (.int .i64) (.pair (.int .i64) (.pair (.int .i64) (.pair (.int .i64) (.pair (.int .i64) (.pair (.int .i64) (.pair (.int .i64) (.int .i64))))))))) h1 .own, .row (.int .i64) h2 .own]))))) := by kernel_rfl
theorem eq131s_L1 (c7 : Int) (x13 : Int) (x14 : Int) (x32 : Int) (h1 : List ((Int × (Int × (Int × Int))) × (Int × (Int × (Int × (Int × (Int × (Int × (Int × Int))))))))) (h2 : List Int) (h3 : List Int) (h4 : List Int) (h5 : List Int) (r : List W) (lh : Heap) : FL1 E H131s Try.f131 3 r lh 1 (S131s_L1 c7 x13 x14 x32 h1 h2 h3 h4 h5) =
  (
   Br (decide (x32 < (8 : Int))) (
    Ck (decide ((0 : Int) ≤ x32)) (
     Ck (decide (x32 < (8 : Int))) (
      Ck (Nat.ble ((4 + (x32.toNat * 1)) + 1) h3.length) (
       Ck (decide ((0 : Int) ≤ x32)) (
        Ck (decide (x32 < (8 : Int))) (
         Ck (Nat.ble ((4 + (x32.toNat * 1)) + 1) h5.length) (
          ∃ r0 : Int, SC P 115 [.one (.int .i64 (h5.getD (4 + (x32.toNat * 1)) 0)), .one (.int .i64 c7)] [] [.one (.int .i64 r0)] [] ∧
           ∃ r1 : Int, SC P 124 [.one (.int .i64 (h3.getD (4 + (x32.toNat * 1)) 0)), .one (.int .i64 r0)] [] [.one (.int .i64 r1)] [] ∧
            Ck (decide ((0 : Int) ≤ x32)) (
             Ck (decide (x32 < (8 : Int))) (
              Ck (Nat.ble ((4 + (x32.toNat * 1)) + 1) h3.length) (
               FL E H131s Try.f131 3 r lh 1 (S131s_L1 c7 x13 x14 (IntKind.wrap .i64 (x32 + 1)) h1 h2 (h3.set (4 + (x32.toNat * 1)) r1) h4 h5))))))))))) (
    FL E H131s Try.f131 3 r lh 0 (S131s_L0 x13 (IntKind.wrap .i64 (x14 + 1)) h1 h2 h3 h4))) := by kernel_rfl
theorem l131s_1 (c : Int) (hc : FOk c) (m i : Int) (rows : List Kept) (pv : List Int) (k r : Kept) (hk : KOk k) (hr : KOk r) (u : V4) (res : Kept)
    (hF : FL E H131s Try.f131 3 [.agg [.int .i64 res.1.1, .int .i64 res.1.2.1, .int .i64 res.1.2.2.1, .int .i64 res.1.2.2.2, .int .i64 res.2.1, .int .i64 res.2.2.1, .int .i64 res.2.2.2.1, .int .i64 res.2.2.2.2.1, .int .i64 res.2.2.2.2.2.1, .int .i64 res.2.2.2.2.2.2.1, .int .i64 res.2.2.2.2.2.2.2.1, .int .i64 res.2.2.2.2.2.2.2.2]] [.box [.sl 1 none, .sl 2 none], .row (.pair (.pair (.int .i64) (.pair (.int .i64) (.pair (.int .i64) (.int .i64)))) (.pair (.int .i64) (.pair (.int .i64) (.pair (.int .i64) (.pair (.int .i64) (.pair (.int .i64) (.pair (.int .i64) (.pair (.int .i64) (.int .i64))))))))) rows .own, .row (.int .i64) pv .own] 0 (S131s_L0 m (IntKind.wrap .i64 (i + 1)) rows pv (keptL (u, V8.of fun i => (k.2.l.getD i 0 - r.2.l.getD i 0 * c % 31) % 31)) [0, 0, 0, 0, 0, 0, 0, 0, 0, 0, 0, 0])) :
    FL E H131s Try.f131 3 [.agg [.int .i64 res.1.1, .int .i64 res.1.2.1, .int .i64 res.1.2.2.1, .int .i64 res.1.2.2.2, .int .i64 res.2.1, .int .i64 res.2.2.1, .int .i64 res.2.2.2.1, .int .i64 res.2.2.2.2.1, .int .i64 res.2.2.2.2.2.1, .int .i64 res.2.2.2.2.2.2.1, .int .i64 res.2.2.2.2.2.2.2.1, .int .i64 res.2.2.2.2.2.2.2.2]] [.box [.sl 1 none, .sl 2 none], .row (.pair (.pair (.int .i64) (.pair (.int .i64) (.pair (.int .i64) (.int .i64)))) (.pair (.int .i64) (.pair (.int .i64) (.pair (.int .i64) (.pair (.int .i64) (.pair (.int .i64) (.pair (.int .i64) (.pair (.int .i64) (.int .i64))))))))) rows .own, .row (.int .i64) pv .own] 1 (S131s_L1 c m i 0 rows pv (keptL (u, k.2)) [0, 0, 0, 0, 0, 0, 0, 0, 0, 0, 0, 0] (keptL r)) := by
  have step : ∀ (j : Nat) (h : List Int), j < 8 → h.length = 12 → h.getD (4 + j) 0 = k.2.l.getD j 0 → FL E H131s Try.f131 3 [.agg [.int .i64 res.1.1, .int .i64 res.1.2.1, .int .i64 res.1.2.2.1, .int .i64 res.1.2.2.2, .int .i64 res.2.1, .int .i64 res.2.2.1, .int .i64 res.2.2.2.1, .int .i64 res.2.2.2.2.1, .int .i64 res.2.2.2.2.2.1, .int .i64 res.2.2.2.2.2.2.1, .int .i64 res.2.2.2.2.2.2.2.1, .int .i64 res.2.2.2.2.2.2.2.2]] [.box [.sl 1 none, .sl 2 none], .row (.pair (.pair (.int .i64) (.pair (.int .i64) (.pair (.int .i64) (.int .i64)))) (.pair (.int .i64) (.pair (.int .i64) (.pair (.int .i64) (.pair (.int .i64) (.pair (.int .i64) (.pair (.int .i64) (.pair (.int .i64) (.int .i64))))))))) rows .own, .row (.int .i64) pv .own] 1 (S131s_L1 c m i ((j + 1 : Nat) : Int) rows pv (h.set (4 + j) ((k.2.l.getD j 0 - r.2.l.getD j 0 * c % 31) % 31)) [0, 0, 0, 0, 0, 0, 0, 0, 0, 0, 0, 0] (keptL r)) →
      FL E H131s Try.f131 3 [.agg [.int .i64 res.1.1, .int .i64 res.1.2.1, .int .i64 res.1.2.2.1, .int .i64 res.1.2.2.2, .int .i64 res.2.1, .int .i64 res.2.2.1, .int .i64 res.2.2.2.1, .int .i64 res.2.2.2.2.1, .int .i64 res.2.2.2.2.2.1, .int .i64 res.2.2.2.2.2.2.1, .int .i64 res.2.2.2.2.2.2.2.1, .int .i64 res.2.2.2.2.2.2.2.2]] [.box [.sl 1 none, .sl 2 none], .row (.pair (.pair (.int .i64) (.pair (.int .i64) (.pair (.int .i64) (.int .i64)))) (.pair (.int .i64) (.pair (.int .i64) (.pair (.int .i64) (.pair (.int .i64) (.pair (.int .i64) (.pair (.int .i64) (.pair (.int .i64) (.int .i64))))))))) rows .own, .row (.int .i64) pv .own] 1 (S131s_L1 c m i (j : Int) rows pv h [0, 0, 0, 0, 0, 0, 0, 0, 0, 0, 0, 0] (keptL r)) := by
    intro j h hj hl he hF
    have hrl : (keptL r).length = 12 := rfl
    have e2 : (keptL r).getD (4 + j) 0 = r.2.l.getD j 0 := by rw [Nat.add_comm]; rfl
    refine FL_of1 ?_
    rw [eq131s_L1, wS (by omega)]
    simp only [Int.toNat_natCast, Nat.mul_one]
    rw [he, e2]
    exact Br_t (by omega) (Ck_d (by omega) (Ck_d (by omega) (Ck_le (by omega) (Ck_d (by omega) (Ck_d (by omega) (Ck_le (by omega) ⟨_, c115 _ _ (hr.2 j) hc, _, c124 _ _ (hk.2 j) (fok_mod _), Ck_d (by omega) (Ck_d (by omega) (Ck_le (by omega) hF))⟩))))))
  refine step 0 _ (by omega) rfl rfl (step 1 _ (by omega) rfl rfl (step 2 _ (by omega) rfl rfl (step 3 _ (by omega) rfl rfl (step 4 _ (by omega) rfl rfl (step 5 _ (by omega) rfl rfl (step 6 _ (by omega) rfl rfl (step 7 _ (by omega) rfl rfl ?_)))))))
  refine FL_of1 ?_
  rw [eq131s_L1]
  exact Br_f (by simp) hF
theorem l131s (rows : List Kept) (hr : RowsOk rows) (hl : rows.length ≤ 1048576) (pv : List Int) (res : Kept) : ∀ (n i : Nat) (k : Kept), i + n = rows.length → KOk k → lessF (rows.drop i) k = res →
    FL E H131s Try.f131 3 [.agg [.int .i64 res.1.1, .int .i64 res.1.2.1, .int .i64 res.1.2.2.1, .int .i64 res.1.2.2.2, .int .i64 res.2.1, .int .i64 res.2.2.1, .int .i64 res.2.2.2.1, .int .i64 res.2.2.2.2.1, .int .i64 res.2.2.2.2.2.1, .int .i64 res.2.2.2.2.2.2.1, .int .i64 res.2.2.2.2.2.2.2.1, .int .i64 res.2.2.2.2.2.2.2.2]] [.box [.sl 1 none, .sl 2 none], .row (.pair (.pair (.int .i64) (.pair (.int .i64) (.pair (.int .i64) (.int .i64)))) (.pair (.int .i64) (.pair (.int .i64) (.pair (.int .i64) (.pair (.int .i64) (.pair (.int .i64) (.pair (.int .i64) (.pair (.int .i64) (.int .i64))))))))) rows .own, .row (.int .i64) pv .own] 0 (S131s_L0 (rows.length : Int) (i : Int) rows pv (keptL k) [0, 0, 0, 0, 0, 0, 0, 0, 0, 0, 0, 0])
  | 0, i, k, h, hk, e => by
    rw [List.drop_eq_nil_of_le (by omega)] at e
    refine FL_of1 ?_
    rw [eq131s_L0]
    rw [← show k = res from e]
    exact Br_f (by omega) (Ck_b (by kernel_rfl) (Ck_b (by kernel_rfl) (Ck_b (by kernel_rfl) ⟨by kernel_rfl, rfl⟩)))
  | n + 1, i, k, h, hk, e => by
    have hi : i < rows.length := by omega
    obtain ⟨hri, hld⟩ := hr _ (List.getElem_mem hi)
    have hle := lead_le rows[i].1
    rw [drop_cons hi] at e
    have hc : FOk (k.1.l.getD (leadV rows[i].1).toNat 0) := vok_get hk.1 _
    have e1 : (keptL k).getD (leadV rows[i].1).toNat 0 = k.1.l.getD (leadV rows[i].1).toNat 0 := by
      have : (leadV rows[i].1).toNat = 0 ∨ (leadV rows[i].1).toNat = 1 ∨ (leadV rows[i].1).toNat = 2 ∨ (leadV rows[i].1).toNat = 3 := by omega
      rcases this with h | h | h | h <;> rw [h] <;> rfl
    have hkl : (keptL k).length = 12 := rfl
    refine FL_of1 ?_
    rw [eq131s_L0]
    simp only [Int.toNat_natCast, Nat.mul_one, Nat.zero_add]
    rw [getD_eq hi]
    refine Br_t (by omega) (Ck_d (by omega) (Ck_d (by omega) (Ck_lt (by omega) ⟨leadV rows[i].1, c121 rows[i].1, Ck_d (by omega) (Ck_d (by omega) (Ck_le (by omega) (Ck_le (by omega) ⟨vtimes rows[i].1 (k.1.l.getD (leadV rows[i].1).toNat 0), ?_, vminus k.1 (vtimes rows[i].1 (k.1.l.getD (leadV rows[i].1).toNat 0)), c122 k.1 _ hk.1 (vtimes_ok _ _), Ck_le (by omega) ?_⟩)))⟩)))
    · rw [e1]; exact c123 rows[i].1 _ hri.1 hc
    · rw [e1]
      refine l131s_1 _ hc _ _ rows pv k rows[i] hk hri _ res ?_
      rw [wS (by omega)]
      exact l131s rows hr hl pv res n (i + 1) (lessK k rows[i]) (by omega) (lessK_ok _ _) e
theorem c131s (rows : List Kept) (hr : RowsOk rows) (hl : rows.length ≤ 1048576) (pv : List Int) (k : Kept) (hk : KOk k) : SC P 131 [.one (.ptr 0 0 0), .agg [.int .i64 k.1.1, .int .i64 k.1.2.1, .int .i64 k.1.2.2.1, .int .i64 k.1.2.2.2, .int .i64 k.2.1, .int .i64 k.2.2.1, .int .i64 k.2.2.2.1, .int .i64 k.2.2.2.2.1, .int .i64 k.2.2.2.2.2.1, .int .i64 k.2.2.2.2.2.2.1, .int .i64 k.2.2.2.2.2.2.2.1, .int .i64 k.2.2.2.2.2.2.2.2]] [.box [.sl 1 none, .sl 2 none], .row (.pair (.pair (.int .i64) (.pair (.int .i64) (.pair (.int .i64) (.int .i64)))) (.pair (.int .i64) (.pair (.int .i64) (.pair (.int .i64) (.pair (.int .i64) (.pair (.int .i64) (.pair (.int .i64) (.pair (.int .i64) (.int .i64))))))))) rows .own, .row (.int .i64) pv .own] [.agg [.int .i64 (lessF rows k).1.1, .int .i64 (lessF rows k).1.2.1, .int .i64 (lessF rows k).1.2.2.1, .int .i64 (lessF rows k).1.2.2.2, .int .i64 (lessF rows k).2.1, .int .i64 (lessF rows k).2.2.1, .int .i64 (lessF rows k).2.2.2.1, .int .i64 (lessF rows k).2.2.2.2.1, .int .i64 (lessF rows k).2.2.2.2.2.1, .int .i64 (lessF rows k).2.2.2.2.2.2.1, .int .i64 (lessF rows k).2.2.2.2.2.2.2.1, .int .i64 (lessF rows k).2.2.2.2.2.2.2.2]] [.box [.sl 1 none, .sl 2 none], .row (.pair (.pair (.int .i64) (.pair (.int .i64) (.pair (.int .i64) (.int .i64)))) (.pair (.int .i64) (.pair (.int .i64) (.pair (.int .i64) (.pair (.int .i64) (.pair (.int .i64) (.pair (.int .i64) (.pair (.int .i64) (.int .i64))))))))) rows .own, .row (.int .i64) pv .own] := by
  refine SC_of_FB (H := H131s) E_ok Try.func131 (by kernel_rfl) ?_
  rw [eq131s]
  exact l131s rows hr hl pv _ rows.length 0 k (by omega) hk rfl
/-! (*loop.example/keelson/impl.span).less -/
def H131r : Hint := ⟨[[(3, 0, .bool), (4, 0, .bool), (12, 0, .bool), (13, 0, .bool), (14, 0, .bool)], [(3, 0, .bool), (4, 0, .bool), (6, 0, .bool), (7, 0, .bool), (12, 0, .bool), (13, 0, .bool), (14, 0, .bool), (32, 0, .bool)]], [], [(5, [0, 1, 2, 3, 4, 5, 6, 7, 8]), (9, [0, 1, 2, 3, 4, 5, 6, 7, 8, 9, 12, 10, 11, 13, 14])], [], [], [], []⟩
def S131r_L0 (x12 : List ((Int × (Int × (Int × Int))) × (Int × (Int × (Int × (Int × (Int × (Int × (Int × Int))))))))) (x13 : Int) (x14 : Int) (b0_0 : List ((Int × (Int × (Int × Int))) × (Int × (Int × (Int × (Int × (Int × (Int × (Int × Int))))))))) (b0_1 : List Int) (h1 : List Int) (h2 : List Int) : St := ⟨[(3, .w (.one (.ptr 1 0 0))), (4, .w (.one (.ptr 2 0 0))), (12, .w (.one (.ro (.pair (.pair (.int .i64) (.pair (.int .i64) (.pair (.int .i64) (.int .i64)))) (.pair (.int .i64) (.pair (.int .i64) (.pair (.int .i64) (.pair (.int .i64) (.pair (.int .i64) (.pair (.int .i64) (.pair (.int .i64) (.int .i64))))))))) x12))), (13, .w (.one (.int .i64 x13))), (14, .w (.one (.int .i64 x14)))], [.box [.ro (.pair (.pair (.int .i64) (.pair (.int .i64) (.pair (.int .i64) (.int .i64)))) (.pair (.int .i64) (.pair (.int .i64) (.pair (.int .i64) (.pair (.int .i64) (.pair (.int .i64) (.pair (.int .i64) (.pair (.int .i64) (.int .i64))))))))) b0_0, .ro (.int .i64) b0_1], .row (.int .i64) h1 .var, .row (.int .i64) h2 .var]⟩
def S131r_L1 (c7 : Int) (x12 : List ((Int × (Int × (Int × Int))) × (Int × (Int × (Int × (Int × (Int × (Int × (Int × Int))))))))) (x13 : Int) (x14 : Int) (x32 : Int) (b0_0 : List ((Int × (Int × (Int × Int))) × (Int × (Int × (Int × (Int × (Int × (Int × (Int × Int))))))))) (b0_1 : List Int) (h1 : List Int) (h2 : List Int) (h3 : List Int) : St := ⟨[(3, .w (.one (.ptr 1 0 0))), (4, .w (.one (.ptr 2 0 0))), (6, .w (.one (.ptr 3 0 0))), (7, .w (.one (.int .i64 c7))), (12, .w (.one (.ro (.pair (.pair (.int .i64) (.pair (.int .i64) (.pair (.int .i64) (.int .i64)))) (.pair (.int .i64) (.pair (.int .i64) (.pair (.int .i64) (.pair (.int .i64) (.pair (.int .i64) (.pair (.int .i64) (.pair (.int .i64) (.int .i64))))))))) x12))), (13, .w (.one (.int .i64 x13))), (14, .w (.one (.int .i64 x14))), (32, .w (.one (.int .i64 x32)))], [.box [.ro (.pair (.pair (.int .i64) (.pair (.int .i64) (.pair (.int .i64) (.int .i64)))) (.pair (.int .i64) (.pair (.int .i64) (.pair (.int .i64) (.pair (.int .i64) (.pair (.int .i64) (.pair (.int .i64) (.pair (.int .i64) (.int .i64))))))))) b0_0, .ro (.int .i64) b0_1], .row (.int .i64) h1 .var, .row (.int .i64) h2 .var, .row (.int .i64) h3 .var]⟩
theorem eq131r (k : Kept) (rows : List Kept) (pv : List Int) (r : List W) (lh : Heap) : FB E H131r Try.f131 [.one (.ptr 0 0 0), .agg [.int .i64 k.1.1, .int .i64 k.1.2.1, .int .i64 k.1.2.2.1, .int .i64 k.1.2.2.2, .int .i64 k.2.1, .int .i64 k.2.2.1, .int .i64 k.2.2.2.1, .int .i64 k.2.2.2.2.1, .int .i64 k.2.2.2.2.2.1, .int .i64 k.2.2.2.2.2.2.1, .int .i64 k.2.2.2.2.2.2.2.1, .int .i64 k.2.2.2.2.2.2.2.2]] [.box [.ro (.pair (.pair (.int .i64) (.pair (.int .i64) (.pair (.int .i64) (.int .i64)))) (.pair (.int .i64) (.pair (.int .i64) (.pair (.int .i64) (.pair (.int .i64) (.pair (.int .i64) (.pair (.int .i64) (.pair (.int .i64) (.int .i64))))))))) rows, .ro (.int .i64) pv]] r lh =
  (
   FL E H131r Try.f131 1 r lh 0 (S131r_L0 rows ((rows.length : Nat) : Int) 0 rows pv [k.1.1, k.1.2.1, k.1.2.2.1, k.1.2.2.2, k.2.1, k.2.2.1, k.2.2.2.1, k.2.2.2.2.1, k.2.2.2.2.2.1, k.2.2.2.2.2.2.1, k.2.2.2.2.2.2.2.1, k.2.2.2.2.2.2.2.2] [0, 0, 0, 0, 0, 0, 0, 0, 0, 0, 0, 0])) := by kernel_rfl
theorem eq131r_L0 (x12 : List ((Int × (Int × (Int × Int))) × (Int × (Int × (Int × (Int × (Int × (Int × (Int × Int))))))))) (x13 : Int) (x14 : Int) (b0_0 : List ((Int × (Int × (Int × Int))) × (Int × (Int × (Int × (Int × (Int × (Int × (Int × Int))))))))) (b0_1 : List Int) (h1 : List Int) (h2 : List Int) (r : List W) (lh : Heap) : FL1 E H131r Try.f131 1 r lh 0 (S131r_L0 x12 x13 x14 b0_0 b0_1 h1 h2) =
  (
   Br (decide (x14 < x13)) (
    Ck (decide ((0 : Int) ≤ x14)) (
     Ck (decide (x14 < ((x12.length : Nat) : Int))) (
      ∃ r0 : Int, SC P 121 [.agg [.int .i64 (((x12.getD x14.toNat ((0, (0, (0, 0))), (0, (0, (0, (0, (0, (0, (0, 0))))))))).1).1), .int .i64 ((((x12.getD x14.toNat ((0, (0, (0, 0))), (0, (0, (0, (0, (0, (0, (0, 0))))))))).1).2).1), .int .i64 (((((x12.getD x14.toNat ((0, (0, (0, 0))), (0, (0, (0, (0, (0, (0, (0, 0))))))))).1).2).2).1), .int .i64 (((((x12.getD x14.toNat ((0, (0, (0, 0))), (0, (0, (0, (0, (0, (0, (0, 0))))))))).1).2).2).2)]] [] [.one (.int .i64 r0)] [] ∧
       Ck (decide ((0 : Int) ≤ r0)) (
        Ck (decide (r0 < (4 : Int))) (
         Ck (Nat.ble ((0 + (r0.toNat * 1)) + 1) h1.length) (
          Ck (Nat.ble 4 h1.length) (
           ∃ r1 : Int × Int × Int × Int, SC P 123 [.agg [.int .i64 (((x12.getD x14.toNat ((0, (0, (0, 0))), (0, (0, (0, (0, (0, (0, (0, 0))))))))).1).1), .int .i64 ((((x12.getD x14.toNat ((0, (0, (0, 0))), (0, (0, (0, (0, (0, (0, (0, 0))))))))).1).2).1), .int .i64 (((((x12.getD x14.toNat ((0, (0, (0, 0))), (0, (0, (0, (0, (0, (0, (0, 0))))))))).1).2).2).1), .int .i64 (((((x12.getD x14.toNat ((0, (0, (0, 0))), (0, (0, (0, (0, (0, (0, (0, 0))))))))).1).2).2).2)], .one (.int .i64 (h1.getD (0 + (r0.toNat * 1)) 0))] [] [.agg [.int .i64 r1.1, .int .i64 r1.2.1, .int .i64 r1.2.2.1, .int .i64 r1.2.2.2]] [] ∧
            ∃ r2 : Int × Int × Int × Int, SC P 122 [.agg [.int .i64 (h1.getD 0 0), .int .i64 (h1.getD 1 0), .int .i64 (h1.getD 2 0), .int .i64 (h1.getD 3 0)], .agg [.int .i64 r1.1, .int .i64 r1.2.1, .int .i64 r1.2.2.1, .int .i64 r1.2.2.2]] [] [.agg [.int .i64 r2.1, .int .i64 r2.2.1, .int .i64 r2.2.2.1, .int .i64 r2.2.2.2]] [] ∧
             Ck (Nat.ble 4 h1.length) (
              FL E H131r Try.f131 1 r lh 1 (S131r_L1 (h1.getD (0 + (r0.toNat * 1)) 0) x12 x13 x14 0 b0_0 b0_1 ((((h1.set 0 r2.1).set 1 r2.2.1).set 2 r2.2.2.1).set 3 r2.2.2.2) h2 [((x12.getD x14.toNat ((0, (0, (0, 0))), (0, (0, (0, (0, (0, (0, (0, 0))))))))).1).1, (((x12.getD x14.toNat ((0, (0, (0, 0))), (0, (0, (0, (0, (0, (0, (0, 0))))))))).1).2).1, ((((x12.getD x14.toNat ((0, (0, (0, 0))), (0, (0, (0, (0, (0, (0, (0, 0))))))))).1).2).2).1, ((((x12.getD x14.toNat ((0, (0, (0, 0))), (0, (0, (0, (0, (0, (0, (0, 0))))))))).1).2).2).2, ((x12.getD x14.toNat ((0, (0, (0, 0))), (0, (0, (0, (0, (0, (0, (0, 0))))))))).2).1, (((x12.getD x14.toNat ((0, (0, (0, 0))), (0, (0, (0, (0, (0, (0, (0, 0))))))))).2).2).1, ((((x12.getD x14.toNat ((0, (0, (0, 0))), (0, (0, (0, (0, (0, (0, (0, 0))))))))).2).2).2).1, (((((x12.getD x14.toNat ((0, (0, (0, 0))), (0, (0, (0, (0, (0, (0, (0, 0))))))))).2).2).2).2).1, ((((((x12.getD x14.toNat ((0, (0, (0, 0))), (0, (0, (0, (0, (0, (0, (0, 0))))))))).2).2).2).2).2).1, (((((((x12.getD x14.toNat ((0, (0, (0, 0))), (0, (0, (0, (0, (0, (0, (0, 0))))))))).2).2).2).2).2).2).1, ((((((((x12.getD x14.toNat ((0, (0, (0, 0))), (0, (0, (0, (0, (0, (0, (0, 0))))))))).2).2).2).2).2).2).2).1, ((((((((x12.getD x14.toNat ((0, (0, (0, 0))), (0, (0, (0, (0, (0, (0, (0, 0))))))))).2).2).2).2).2).2).2).2]))))))))) (
    Ck (Nat.ble 12 h1.length) (
     Ck (Nat.ble 12 h2.length) (
      Ck (Nat.ble 12 (((((((((((((h2.set 0 (h1.getD 0 0)).set 1 (h1.getD 1 0)).set 2 (h1.getD 2 0)).set 3 (h1.getD 3 0)).set 4 (h1.getD 4 0)).set 5 (h1.getD 5 0)).set 6 (h1.getD 6 0)).set 7 (h1.getD 7 0)).set 8 (h1.getD 8 0)).set 9 (h1.getD 9 0)).set 10 (h1.getD 10 0)).set 11 (h1.getD 11 0)).length)) (
       Ret r lh [.agg [.int .i64 (((((((((((((h2.set 0 (h1.getD 0 0)).set 1 (h1.getD 1 0)).set 2 (h1.getD 2 0)).set 3 (h1.getD 3 0)).set 4 (h1.getD 4 0)).set 5 (h1.getD 5 0)).set 6 (h1.getD 6 0)).set 7 (h1.getD 7 0)).set 8 (h1.getD 8 0)).set 9 (h1.getD 9 0)).set 10 (h1.getD 10 0)).set 11 (h1.getD 11 0)).getD 0 0), .int .i64 (((((((((((((h2.set 0 (h1.getD 0 0)).set 1 (h1.getD 1 0)).set 2 (h1.getD 2 0)).set 3 (h1.getD 3 0)).set 4 (h1.getD 4 0)).set 5 (h1.getD 5 0)).set 6 (h1.getD 6 0)).set 7 (h1.getD 7 0)).set 8 (h1.getD 8 0)).set 9 (h1.getD 9 0)).set 10 (h1.getD 10 0)).set 11 (h1.getD 11 0)).getD 1 0), .int .i64 (((((((((((((h2.set 0 (h1.getD 0 0)).set 1 (h1.getD 1 0)).set 2 (h1.getD 2 0)).set 3 (h1.getD 3 0)).set 4 (h1.getD 4 0)).set 5 (h1.getD 5 0)).set 6 (h1.getD 6 0)).set 7 (h1.getD 7 0)).set 8 (h1.getD 8 0)).set 9 (h1.getD 9 0)).set 10 (h1.getD 10 0)).set 11 (h1.getD 11 0)).getD 2 0), .int .i64 (((((((((((((h2.set 0 (h1.getD 0 0)).set 1 (h1.getD 1 0)).set 2 (h1.getD 2 0)).set 3 (h1.getD 3 0)).set 4 (h1.getD 4 0)).set 5 (h1.getD 5 0)).set 6 (h1.getD 6 0)).set 7 (h1.getD 7 0)).set 8 (h1.getD 8 0)).set 9 (h1.getD 9 0)).set 10 (h1.getD 10 0)).set 11 (h1.getD 11 0)).getD 3 0), .int .i64 (((((((((((((h2.set 0 (h1.getD 0 0)).set 1 (h1.getD 1 0)).set 2 (h1.getD 2 0)).set 3 (h1.getD 3 0)).set 4 (h1.getD 4 0)).set 5 (h1.getD 5 0)).set 6 (h1.getD 6 0)).set 7 (h1.getD 7 0)).set 8 (h1.getD 8 0)).set 9 (h1.getD 9 0)).set 10 (h1.getD 10 0)).set 11 (h1.getD 11 0)).getD 4 0), .int .i64 (((((((((((((h2.set 0 (h1.getD 0 0)).set 1 (h1.getD 1 0)).set 2 (h1.getD 2 0)).set 3 (h1.getD 3 0)).set 4 (h1.getD 4 0)).set 5 (h1.getD 5 0)).set 6 (h1.getD 6 0)).set 7 (h1.getD 7 0)).set 8 (h1.getD 8 0)).set 9 (h1.getD 9 0)).set 10 (h1.getD 10 0)).set 11 (h1.getD 11 0)).getD 5 0), .int .i64 (((((((((((((h2.set 0 (h1.getD 0 0)).set 1 (h1.getD 1 0)).set 2 (h1.getD 2 0)).set 3 (h1.getD 3 0)).set 4 (h1.getD 4 0)).set 5 (h1.getD 5 0)).set 6 (h1.getD 6 0)).set 7 (h1.getD 7 0)).set 8 (h1.getD 8 0)).set 9 (h1.getD 9 0)).set 10 (h1.getD 10 0)).set 11 (h1.getD 11 0)).getD 6 0), .int .i64 (((((((((((((h2.set 0 (h1.getD 0 0)).set 1 (h1.getD 1 0)).set 2 (h1.getD 2 0)).set 3 (h1.getD 3 0)).set 4 (h1.getD 4 0)).set 5 (h1.getD 5 0)).set 6 (h1.getD 6 0)).set 7 (h1.getD 7 0)).set 8 (h1.getD 8 0)).set 9 (h1.getD 9 0)).set 10 (h1.getD 10 0)).set 11 (h1.getD 11 0)).getD 7 0), .int .i64 (((((((((((((h2.set 0 (h1.getD 0 0)).set 1 (h1.getD 1 0)).set 2 (h1.getD 2 0)).set 3 (h1.getD 3 0)).set 4 (h1.getD 4 0)).set 5 (h1.getD 5 0)).set 6 (h1.getD 6 0)).set 7 (h1.getD 7 0)).set 8 (h1.getD 8 0)).set 9 (h1.getD 9 0)).set 10 (h1.getD 10 0)).set 11 (h1.getD 11 0)).getD 8 0), .int .i64 (((((((((((((h2.set 0 (h1.getD 0 0)).set 1 (h1.getD 1 0)).set 2 (h1.getD 2 0)).set 3 (h1.getD 3 0)).set 4 (h1.getD 4 0)).set 5 (h1.getD 5 0)).set 6 (h1.getD 6 0)).set 7 (h1.getD 7 0)).set 8 (h1.getD 8 0)).set 9 (h1.getD 9 0)).set 10 (h1.getD 10 0)).set 11 (h1.getD 11 0)).getD 9 0), .int .i64 (((((((((((((h2.set 0 (h1.getD 0 0)).set 1 (h1.getD 1 0)).set 2 (h1.getD 2 0)).set 3 (h1.getD 3 0)).set 4 (h1.getD 4 0)).set 5 (h1.getD 5 0)).set 6 (h1.getD 6 0)).set 7 (h1.getD 7 0)).set 8 (h1.getD 8 0)).set 9 (h1.getD 9 0)).set 10 (h1.getD 10 0)).set 11 (h1.getD 11 0)).getD 10 0), .int .i64 (((((((((((((h2.set 0 (h1.getD 0 0)).set 1 (h1.getD 1 0)).set 2 (h1.getD 2 0)).set 3 (h1.getD 3 0)).set 4 (h1.getD 4 0)).set 5 (h1.getD 5 0)).set 6 (h1.getD 6 0)).set 7 (h1.getD 7 0)).set 8 (h1.getD 8 0)).set 9 (h1.getD 9 0)).set 10 (h1.getD 10 0)).set 11 (h1.getD 11 0)).getD 11 0)]] [.box [.ro (.pair (.pair (.int .i64) (.pair (.int .i64) (.pair (.int .i64) (.int .i64)))) (.pair (.int .i64) (.pair (.int .i64) (.pair (.int .i64) (.pair (.int .i64) (.pair (.int .i64) (.pair (.int .i64) (.pair (.int .i64) (.int .i64))))))))) b0_0, .ro (.int .i64) b0_1]]))))) := by kernel_rfl
theorem eq131r_L1 (c7 : Int) (x12 : List ((Int × (Int × (Int × Int))) × (Int × (Int × (Int × (Int × (Int × (Int × (Int × Int))))))))) (x13 : Int) (x14 : Int) (x32 : Int) (b0_0 : List ((Int × (Int × (Int × Int))) × (Int × (Int × (Int × (Int × (Int × (Int × (Int × Int))))))))) (b0_1 : List Int) (h1 : List Int) (h2 : List Int) (h3 : List Int) (r : List W) (lh : Heap) : FL1 E H131r Try.f131 1 r lh 1 (S131r_L1 c7 x12 x13 x14 x32 b0_0 b0_1 h1 h2 h3) =
  (
   Br (decide (x32 < (8 : Int))) (
    Ck (decide ((0 : Int) ≤ x32)) (
     Ck (decide (x32 < (8 : Int))) (
      Ck (Nat.ble ((4 + (x32.toNat * 1)) + 1) h1.length) (
       Ck (decide ((0 : Int) ≤ x32)) (
        Ck (decide (x32 < (8 : Int))) (
         Ck (Nat.ble ((4 + (x32.toNat * 1)) + 1) h3.length) (
          ∃ r0 : Int, SC P 115 [.one (.int .i64 (h3.getD (4 + (x32.toNat * 1)) 0)), .one (.int .i64 c7)] [] [.one (.int .i64 r0)] [] ∧
           ∃ r1 : Int, SC P 124 [.one (.int .i64 (h1.getD (4 + (x32.toNat * 1)) 0)), .one (.int .i64 r0)] [] [.one (.int .i64 r1)] [] ∧
            Ck (decide ((0 : Int) ≤ x32)) (
             Ck (decide (x32 < (8 : Int))) (
              Ck (Nat.ble ((4 + (x32.toNat * 1)) + 1) h1.length) (
               FL E H131r Try.f131 1 r lh 1 (S131r_L1 c7 x12 x13 x14 (IntKind.wrap .i64 (x32 + 1)) b0_0 b0_1 (h1.set (4 + (x32.toNat * 1)) r1) h2 h3))))))))))) (
    FL E H131r Try.f131 1 r lh 0 (S131r_L0 x12 x13 (IntKind.wrap .i64 (x14 + 1)) b0_0 b0_1 h1 h2))) := by kernel_rfl
theorem l131r_1 (c : Int) (hc : FOk c) (m i : Int) (rows : List Kept) (pv : List Int) (k r : Kept) (hk : KOk k) (hr : KOk r) (u : V4) (res : Kept)
    (hF : FL E H131r Try.f131 1 [.agg [.int .i64 res.1.1, .int .i64 res.1.2.1, .int .i64 res.1.2.2.1, .int .i64 res.1.2.2.2, .int .i64 res.2.1, .int .i64 res.2.2.1, .int .i64 res.2.2.2.1, .int .i64 res.2.2.2.2.1, .int .i64 res.2.2.2.2.2.1, .int .i64 res.2.2.2.2.2.2.1, .int .i64 res.2.2.2.2.2.2.2.1, .int .i64 res.2.2.2.2.2.2.2.2]] [.box [.ro (.pair (.pair (.int .i64) (.pair (.int .i64) (.pair (.int .i64) (.int .i64)))) (.pair (.int .i64) (.pair (.int .i64) (.pair (.int .i64) (.pair (.int .i64) (.pair (.int .i64) (.pair (.int .i64) (.pair (.int .i64) (.int .i64))))))))) rows, .ro (.int .i64) pv]] 0 (S131r_L0 rows m (IntKind.wrap .i64 (i + 1)) rows pv (keptL (u, V8.of fun i => (k.2.l.getD i 0 - r.2.l.getD i 0 * c % 31) % 31)) [0, 0, 0, 0, 0, 0, 0, 0, 0, 0, 0, 0])) :
    FL E H131r Try.f131 1 [.agg [.int .i64 res.1.1, .int .i64 res.1.2.1, .int .i64 res.1.2.2.1, .int .i64 res.1.2.2.2, .int .i64 res.2.1, .int .i64 res.2.2.1, .int .i64 res.2.2.2.1, .int .i64 res.2.2.2.2.1, .int .i64 res.2.2.2.2.2.1, .int .i64 res.2.2.2.2.2.2.1, .int .i64 res.2.2.2.2.2.2.2.1, .int .i64 res.2.2.2.2.2.2.2.2]] [.box [.ro (.pair (.pair (.int .i64) (.pair (.int .i64) (.pair (.int .i64) (.int .i64)))) (.pair (.int .i64) (.pair (.int .i64) (.pair (.int .i64) (.pair (.int .i64) (.pair (.int .i64) (.pair (.int .i64) (.pair (.int .i64) (.int .i64))))))))) rows, .ro (.int .i64) pv]] 1 (S131r_L1 c rows m i 0 rows pv (keptL (u, k.2)) [0, 0, 0, 0, 0, 0, 0, 0, 0, 0, 0, 0] (keptL r)) := by
  have step : ∀ (j : Nat) (h : List Int), j < 8 → h.length = 12 → h.getD (4 + j) 0 = k.2.l.getD j 0 → FL E H131r Try.f131 1 [.agg [.int .i64 res.1.1, .int .i64 res.1.2.1, .int .i64 res.1.2.2.1, .int .i64 res.1.2.2.2, .int .i64 res.2.1, .int .i64 res.2.2.1, .int .i64 res.2.2.2.1, .int .i64 res.2.2.2.2.1, .int .i64 res.2.2.2.2.2.1, .int .i64 res.2.2.2.2.2.2.1, .int .i64 res.2.2.2.2.2.2.2.1, .int .i64 res.2.2.2.2.2.2.2.2]] [.box [.ro (.pair (.pair (.int .i64) (.pair (.int .i64) (.pair (.int .i64) (.int .i64)))) (.pair (.int .i64) (.pair (.int .i64) (.pair (.int .i64) (.pair (.int .i64) (.pair (.int .i64) (.pair (.int .i64) (.pair (.int .i64) (.int .i64))))))))) rows, .ro (.int .i64) pv]] 1 (S131r_L1 c rows m i ((j + 1 : Nat) : Int) rows pv (h.set (4 + j) ((k.2.l.getD j 0 - r.2.l.getD j 0 * c % 31) % 31)) [0, 0, 0, 0, 0, 0, 0, 0, 0, 0, 0, 0] (keptL r)) →
      FL E H131r Try.f131 1 [.agg [.int .i64 res.1.1, .int .i64 res.1.2.1, .int .i64 res.1.2.2.1, .int .i64 res.1.2.2.2, .int .i64 res.2.1, .int .i64 res.2.2.1, .int .i64 res.2.2.2.1, .int .i64 res.2.2.2.2.1, .int .i64 res.2.2.2.2.2.1, .int .i64 res.2.2.2.2.2.2.1, .int .i64 res.2.2.2.2.2.2.2.1, .int .i64 res.2.2.2.2.2.2.2.2]] [.box [.ro (.pair (.pair (.int .i64) (.pair (.int .i64) (.pair (.int .i64) (.int .i64)))) (.pair (.int .i64) (.pair (.int .i64) (.pair (.int .i64) (.pair (.int .i64) (.pair (.int .i64) (.pair (.int .i64) (.pair (.int .i64) (.int .i64))))))))) rows, .ro (.int .i64) pv]] 1 (S131r_L1 c rows m i (j : Int) rows pv h [0, 0, 0, 0, 0, 0, 0, 0, 0, 0, 0, 0] (keptL r)) := by
    intro j h hj hl he hF
    have hrl : (keptL r).length = 12 := rfl
    have e2 : (keptL r).getD (4 + j) 0 = r.2.l.getD j 0 := by rw [Nat.add_comm]; rfl
    refine FL_of1 ?_
    rw [eq131r_L1, wS (by omega)]
    simp only [Int.toNat_natCast, Nat.mul_one]
    rw [he, e2]
    exact Br_t (by omega) (Ck_d (by omega) (Ck_d (by omega) (Ck_le (by omega) (Ck_d (by omega) (Ck_d (by omega) (Ck_le (by omega) ⟨_, c115 _ _ (hr.2 j) hc, _, c124 _ _ (hk.2 j) (fok_mod _), Ck_d (by omega) (Ck_d (by omega) (Ck_le (by omega) hF))⟩))))))
  refine step 0 _ (by omega) rfl rfl (step 1 _ (by omega) rfl rfl (step 2 _ (by omega) rfl rfl (step 3 _ (by omega) rfl rfl (step 4 _ (by omega) rfl rfl (step 5 _ (by omega) rfl rfl (step 6 _ (by omega) rfl rfl (step 7 _ (by omega) rfl rfl ?_)))))))
  refine FL_of1 ?_
  rw [eq131r_L1]
  exact Br_f (by simp) hF
theorem l131r (rows : List Kept) (hr : RowsOk rows) (hl : rows.length ≤ 1048576) (pv : List Int) (res : Kept) : ∀ (n i : Nat) (k : Kept), i + n = rows.length → KOk k → lessF (rows.drop i) k = res →
    FL E H131r Try.f131 1 [.agg [.int .i64 res.1.1, .int .i64 res.1.2.1, .int .i64 res.1.2.2.1, .int .i64 res.1.2.2.2, .int .i64 res.2.1, .int .i64 res.2.2.1, .int .i64 res.2.2.2.1, .int .i64 res.2.2.2.2.1, .int .i64 res.2.2.2.2.2.1, .int .i64 res.2.2.2.2.2.2.1, .int .i64 res.2.2.2.2.2.2.2.1, .int .i64 res.2.2.2.2.2.2.2.2]] [.box [.ro (.pair (.pair (.int .i64) (.pair (.int .i64) (.pair (.int .i64) (.int .i64)))) (.pair (.int .i64) (.pair (.int .i64) (.pair (.int .i64) (.pair (.int .i64) (.pair (.int .i64) (.pair (.int .i64) (.pair (.int .i64) (.int .i64))))))))) rows, .ro (.int .i64) pv]] 0 (S131r_L0 rows (rows.length : Int) (i : Int) rows pv (keptL k) [0, 0, 0, 0, 0, 0, 0, 0, 0, 0, 0, 0])
  | 0, i, k, h, hk, e => by
    rw [List.drop_eq_nil_of_le (by omega)] at e
    refine FL_of1 ?_
    rw [eq131r_L0]
    rw [← show k = res from e]
    exact Br_f (by omega) (Ck_b (by kernel_rfl) (Ck_b (by kernel_rfl) (Ck_b (by kernel_rfl) ⟨by kernel_rfl, rfl⟩)))
  | n + 1, i, k, h, hk, e => by
    have hi : i < rows.length := by omega
    obtain ⟨hri, hld⟩ := hr _ (List.getElem_mem hi)
    have hle := lead_le rows[i].1
    rw [drop_cons hi] at e
    have hc : FOk (k.1.l.getD (leadV rows[i].1).toNat 0) := vok_get hk.1 _
    have e1 : (keptL k).getD (leadV rows[i].1).toNat 0 = k.1.l.getD (leadV rows[i].1).toNat 0 := by
      have : (leadV rows[i].1).toNat = 0 ∨ (leadV rows[i].1).toNat = 1 ∨ (leadV rows[i].1).toNat = 2 ∨ (leadV rows[i].1).toNat = 3 := by omega
      rcases this with h | h | h | h <;> rw [h] <;> rfl
    have hkl : (keptL k).length = 12 := rfl
    refine FL_of1 ?_
    rw [eq131r_L0]
    simp only [Int.toNat_natCast, Nat.mul_one, Nat.zero_add]
    rw [getD_eq hi]
    refine Br_t (by omega) (Ck_d (by omega) (Ck_d (by omega) (⟨leadV rows[i].1, c121 rows[i].1, Ck_d (by omega) (Ck_d (by omega) (Ck_le (by omega) (Ck_le (by omega) ⟨vtimes rows[i].1 (k.1.l.getD (leadV rows[i].1).toNat 0), ?_, vminus k.1 (vtimes rows[i].1 (k.1.l.getD (leadV rows[i].1).toNat 0)), c122 k.1 _ hk.1 (vtimes_ok _ _), Ck_le (by omega) ?_⟩)))⟩)))
    · rw [e1]; exact c123 rows[i].1 _ hri.1 hc
    · rw [e1]
      refine l131r_1 _ hc _ _ rows pv k rows[i] hk hri _ res ?_
      rw [wS (by omega)]
      exact l131r rows hr hl pv res n (i + 1) (lessK k rows[i]) (by omega) (lessK_ok _ _) e
theorem c131r (rows : List Kept) (hr : RowsOk rows) (hl : rows.length ≤ 1048576) (pv : List Int) (k : Kept) (hk : KOk k) : SC P 131 [.one (.ptr 0 0 0), .agg [.int .i64 k.1.1, .int .i64 k.1.2.1, .int .i64 k.1.2.2.1, .int .i64 k.1.2.2.2, .int .i64 k.2.1, .int .i64 k.2.2.1, .int .i64 k.2.2.2.1, .int .i64 k.2.2.2.2.1, .int .i64 k.2.2.2.2.2.1, .int .i64 k.2.2.2.2.2.2.1, .int .i64 k.2.2.2.2.2.2.2.1, .int .i64 k.2.2.2.2.2.2.2.2]] [.box [.ro (.pair (.pair (.int .i64) (.pair (.int .i64) (.pair (.int .i64) (.int .i64)))) (.pair (.int .i64) (.pair (.int .i64) (.pair (.int .i64) (.pair (.int .i64) (.pair (.int .i64) (.pair (.int .i64) (.pair (.int .i64) (.int .i64))))))))) rows, .ro (.int .i64) pv]] [.agg [.int .i64 (lessF rows k).1.1, .int .i64 (lessF rows k).1.2.1, .int .i64 (lessF rows k).1.2.2.1, .int .i64 (lessF rows k).1.2.2.2, .int .i64 (lessF rows k).2.1, .int .i64 (lessF rows k).2.2.1, .int .i64 (lessF rows k).2.2.2.1, .int .i64 (lessF rows k).2.2.2.2.1, .int .i64 (lessF rows k).2.2.2.2.2.1, .int .i64 (lessF rows k).2.2.2.2.2.2.1, .int .i64 (lessF rows k).2.2.2.2.2.2.2.1, .int .i64 (lessF rows k).2.2.2.2.2.2.2.2]] [.box [.ro (.pair (.pair (.int .i64) (.pair (.int .i64) (.pair (.int .i64) (.int .i64)))) (.pair (.int .i64) (.pair (.int .i64) (.pair (.int .i64) (.pair (.int .i64) (.pair (.int .i64) (.pair (.int .i64) (.pair (.int .i64) (.int .i64))))))))) rows, .ro (.int .i64) pv]] := by
  refine SC_of_FB (H := H131r) E_ok Try.func131 (by kernel_rfl) ?_
  rw [eq131r]
  exact l131r rows hr hl pv _ rows.length 0 k (by omega) hk rfl
theorem set12 (l : List Int) (h : l.length = 12) (r : Int × Int × Int × Int × Int × Int × Int × Int × Int × Int × Int × Int) : ((((((((((((l.set 0 r.1).set 1 r.2.1).set 2 r.2.2.1).set 3 r.2.2.2.1).set 4 r.2.2.2.2.1).set 5 r.2.2.2.2.2.1).set 6 r.2.2.2.2.2.2.1).set 7 r.2.2.2.2.2.2.2.1).set 8 r.2.2.2.2.2.2.2.2.1).set 9 r.2.2.2.2.2.2.2.2.2.1).set 10 r.2.2.2.2.2.2.2.2.2.2.1).set 11 r.2.2.2.2.2.2.2.2.2.2.2) = [r.1, r.2.1, r.2.2.1, r.2.2.2.1, r.2.2.2.2.1, r.2.2.2.2.2.1, r.2.2.2.2.2.2.1, r.2.2.2.2.2.2.2.1, r.2.2.2.2.2.2.2.2.1, r.2.2.2.2.2.2.2.2.2.1, r.2.2.2.2.2.2.2.2.2.2.1, r.2.2.2.2.2.2.2.2.2.2.2] := by
  match l, h with
  | [_, _, _, _, _, _, _, _, _, _, _, _], _ => rfl
theorem start12 (v : V4) (i : Nat) (h : i < 8) : ([v.1, v.2.1, v.2.2.1, v.2.2.2, 0, 0, 0, 0, 0, 0, 0, 0] : List Int).set (4 + i) 1 = keptL (v, unit8 i) := by
  have : i = 0 ∨ i = 1 ∨ i = 2 ∨ i = 3 ∨ i = 4 ∨ i = 5 ∨ i = 6 ∨ i = 7 := by omega
  rcases this with rfl | rfl | rfl | rfl | rfl | rfl | rfl | rfl <;> rfl
theorem kept_at (k : Kept) {j : Nat} (h : j < 4) : (keptL k).getD j 0 = k.1.l.getD j 0 := by
  have : j = 0 ∨ j = 1 ∨ j = 2 ∨ j = 3 := by omega
  rcases this with rfl | rfl | rfl | rfl <;> rfl
def spanB (s : List Kept × List Int) : Heap := [.box [.sl 1 none, .sl 2 none], .row (.pair (.pair (.int .i64) (.pair (.int .i64) (.pair (.int .i64) (.int .i64)))) (.pair (.int .i64) (.pair (.int .i64) (.pair (.int .i64) (.pair (.int .i64) (.pair (.int .i64) (.pair (.int .i64) (.pair (.int .i64) (.int .i64))))))))) s.1 .own, .row (.int .i64) s.2 .own]
def spanH (s : List Kept × List Int) : Heap := match s.1 with
  | [] => [.box [.nil, .nil]]
  | _ :: _ => spanB s
theorem spanH_ne {s : List Kept × List Int} (h : s.1 ≠ []) : spanH s = spanB s := by
  unfold spanH
  split
  · rename_i e; exact absurd e h
  · rfl
theorem spanStep_ne {s : List Kept × List Int} {i : Nat} {row : V4} (h : s.1 ≠ []) : (spanStep s i row).1 ≠ [] := by
  unfold spanStep
  cases decide (leadV (lessF s.1 (row, unit8 i)).1 < 0)
  · rw [cond_false]; simp
  · exact h
theorem spanR_ne {m : List V4} : ∀ {n i : Nat} {s : List Kept × List Int}, s.1 ≠ [] → (spanR m i n s).1 ≠ []
  | 0, _, _, h => h
  | n + 1, i, s, h => spanR_ne (n := n) (spanStep_ne h)
theorem lead_ne {v : V4} (h : 0 ≤ leadV v) : atL v ≠ 0 := by
  rcases lead_cases v with ⟨h1, _⟩ | ⟨j, hj, h1, h2⟩
  · omega
  · rw [atL, h1, Int.toNat_natCast]; exact h2
/-! loop.example/keelson/impl.spanOf -/
def H105 : Hint := ⟨[[(3, 0, .bool), (12, 0, .bool), (13, 0, .bool), (14, 0, .bool)], [(3, 0, .bool), (4, 0, .bool), (6, 0, .bool), (8, 0, .bool), (12, 0, .bool), (13, 0, .bool), (14, 0, .bool), (42, 0, .bool)]], [], [(17, [0, 1, 2, 3, 4, 5, 6, 7, 8, 9, 10])], [], [], [], []⟩
def S105_L0 (x12 : List (Int × (Int × (Int × Int)))) (x13 : Int) (x14 : Int) : St := ⟨[(3, .w (.one (.ptr 0 0 0))), (12, .w (.one (.ro (.pair (.int .i64) (.pair (.int .i64) (.pair (.int .i64) (.int .i64)))) x12))), (13, .w (.one (.int .i64 x13))), (14, .w (.one (.int .i64 x14)))], [.box [.nil, .nil]]⟩
def S105_L1 (i4 : Int) (c8 : Int) (x12 : List (Int × (Int × (Int × Int)))) (x13 : Int) (x14 : Int) (x42 : Int) (h1 : List Int) : St := ⟨[(3, .w (.one (.ptr 0 0 0))), (4, .w (.one (.int .i64 i4))), (6, .w (.one (.ptr 1 0 0))), (8, .w (.one (.int .i64 c8))), (12, .w (.one (.ro (.pair (.int .i64) (.pair (.int .i64) (.pair (.int .i64) (.int .i64)))) x12))), (13, .w (.one (.int .i64 x13))), (14, .w (.one (.int .i64 x14))), (42, .w (.one (.int .i64 x42)))], [.box [.nil, .nil], .row (.int .i64) h1 .var]⟩
def S105_L0b (x12 : List (Int × (Int × (Int × Int)))) (x13 : Int) (x14 : Int) (h1 : List ((Int × (Int × (Int × Int))) × (Int × (Int × (Int × (Int × (Int × (Int × (Int × Int))))))))) (h2 : List Int) : St := ⟨[(3, .w (.one (.ptr 0 0 0))), (12, .w (.one (.ro (.pair (.int .i64) (.pair (.int .i64) (.pair (.int .i64) (.int .i64)))) x12))), (13, .w (.one (.int .i64 x13))), (14, .w (.one (.int .i64 x14)))], [.box [.sl 1 none, .sl 2 none], .row (.pair (.pair (.int .i64) (.pair (.int .i64) (.pair (.int .i64) (.int .i64)))) (.pair (.int .i64) (.pair (.int .i64) (.pair (.int .i64) (.pair (.int .i64) (.pair (.int .i64) (.pair (.int .i64) (.pair (.int .i64) (.int .i64))))))))) h1 .own, .row (.int .i64) h2 .own]⟩
def S105_L1b (i4 : Int) (c8 : Int) (x12 : List (Int × (Int × (Int × Int)))) (x13 : Int) (x14 : Int) (x42 : Int) (h1 : List ((Int × (Int × (Int × Int))) × (Int × (Int × (Int × (Int × (Int × (Int × (Int × Int))))))))) (h2 : List Int) (h3 : List Int) : St := ⟨[(3, .w (.one (.ptr 0 0 0))), (4, .w (.one (.int .i64 i4))), (6, .w (.one (.ptr 3 0 0))), (8, .w (.one (.int .i64 c8))), (12, .w (.one (.ro (.pair (.int .i64) (.pair (.int .i64) (.pair (.int .i64) (.int .i64)))) x12))), (13, .w (.one (.int .i64 x13))), (14, .w (.one (.int .i64 x14))), (42, .w (.one (.int .i64 x42)))], [.box [.sl 1 none, .sl 2 none], .row (.pair (.pair (.int .i64) (.pair (.int .i64) (.pair (.int .i64) (.int .i64)))) (.pair (.int .i64) (.pair (.int .i64) (.pair (.int .i64) (.pair (.int .i64) (.pair (.int .i64) (.pair (.int .i64) (.pair (.int .i64) (.int .i64))))))))) h1 .own, .row (.int .i64) h2 .own, .row (.int .i64) h3 .var]⟩
theorem eq105 (m : List (Int × (Int × (Int × Int)))) (r : List W) (lh : Heap) : FB E H105 Try.f105 [.one (.ro (.pair (.int .i64) (.pair (.int .i64) (.pair (.int .i64) (.int .i64)))) m)] [] r lh =
  (
   FL E H105 Try.f105 0 r lh 0 (S105_L0 m ((m.length : Nat) : Int) 0)) := by kernel_rfl
theorem eq105_L0 (x12 : List (Int × (Int × (Int × Int)))) (x13 : Int) (x14 : Int) (r : List W) (lh : Heap) : FL1 E H105 Try.f105 0 r lh 0 (S105_L0 x12 x13 x14) =
  (
   Br (decide (x14 < x13)) (
    Ck (decide ((0 : Int) ≤ x14)) (
     Ck (decide (x14 < ((x12.length : Nat) : Int))) (
      Ck (decide ((0 : Int) ≤ x14)) (
       Ck (decide (x14 < (8 : Int))) (
        Ck (Nat.ble ((4 + (x14.toNat * 1)) + 1) 12) (
         Ck (Nat.ble 12 (([(x12.getD x14.toNat (0, (0, (0, 0)))).1, ((x12.getD x14.toNat (0, (0, (0, 0)))).2).1, (((x12.getD x14.toNat (0, (0, (0, 0)))).2).2).1, (((x12.getD x14.toNat (0, (0, (0, 0)))).2).2).2, 0, 0, 0, 0, 0, 0, 0, 0].set (4 + (x14.toNat * 1)) 1).length)) (
          ∃ r0 : Int × Int × Int × Int × Int × Int × Int × Int × Int × Int × Int × Int, SC P 131 [.one (.ptr 0 0 0), .agg [.int .i64 (([(x12.getD x14.toNat (0, (0, (0, 0)))).1, ((x12.getD x14.toNat (0, (0, (0, 0)))).2).1, (((x12.getD x14.toNat (0, (0, (0, 0)))).2).2).1, (((x12.getD x14.toNat (0, (0, (0, 0)))).2).2).2, 0, 0, 0, 0, 0, 0, 0, 0].set (4 + (x14.toNat * 1)) 1).getD 0 0), .int .i64 (([(x12.getD x14.toNat (0, (0, (0, 0)))).1, ((x12.getD x14.toNat (0, (0, (0, 0)))).2).1, (((x12.getD x14.toNat (0, (0, (0, 0)))).2).2).1, (((x12.getD x14.toNat (0, (0, (0, 0)))).2).2).2, 0, 0, 0, 0, 0, 0, 0, 0].set (4 + (x14.toNat * 1)) 1).getD 1 0), .int .i64 (([(x12.getD x14.toNat (0, (0, (0, 0)))).1, ((x12.getD x14.toNat (0, (0, (0, 0)))).2).1, (((x12.getD x14.toNat (0, (0, (0, 0)))).2).2).1, (((x12.getD x14.toNat (0, (0, (0, 0)))).2).2).2, 0, 0, 0, 0, 0, 0, 0, 0].set (4 + (x14.toNat * 1)) 1).getD 2 0), .int .i64 (([(x12.getD x14.toNat (0, (0, (0, 0)))).1, ((x12.getD x14.toNat (0, (0, (0, 0)))).2).1, (((x12.getD x14.toNat (0, (0, (0, 0)))).2).2).1, (((x12.getD x14.toNat (0, (0, (0, 0)))).2).2).2, 0, 0, 0, 0, 0, 0, 0, 0].set (4 + (x14.toNat * 1)) 1).getD 3 0), .int .i64 (([(x12.getD x14.toNat (0, (0, (0, 0)))).1, ((x12.getD x14.toNat (0, (0, (0, 0)))).2).1, (((x12.getD x14.toNat (0, (0, (0, 0)))).2).2).1, (((x12.getD x14.toNat (0, (0, (0, 0)))).2).2).2, 0, 0, 0, 0, 0, 0, 0, 0].set (4 + (x14.toNat * 1)) 1).getD 4 0), .int .i64 (([(x12.getD x14.toNat (0, (0, (0, 0)))).1, ((x12.getD x14.toNat (0, (0, (0, 0)))).2).1, (((x12.getD x14.toNat (0, (0, (0, 0)))).2).2).1, (((x12.getD x14.toNat (0, (0, (0, 0)))).2).2).2, 0, 0, 0, 0, 0, 0, 0, 0].set (4 + (x14.toNat * 1)) 1).getD 5 0), .int .i64 (([(x12.getD x14.toNat (0, (0, (0, 0)))).1, ((x12.getD x14.toNat (0, (0, (0, 0)))).2).1, (((x12.getD x14.toNat (0, (0, (0, 0)))).2).2).1, (((x12.getD x14.toNat (0, (0, (0, 0)))).2).2).2, 0, 0, 0, 0, 0, 0, 0, 0].set (4 + (x14.toNat * 1)) 1).getD 6 0), .int .i64 (([(x12.getD x14.toNat (0, (0, (0, 0)))).1, ((x12.getD x14.toNat (0, (0, (0, 0)))).2).1, (((x12.getD x14.toNat (0, (0, (0, 0)))).2).2).1, (((x12.getD x14.toNat (0, (0, (0, 0)))).2).2).2, 0, 0, 0, 0, 0, 0, 0, 0].set (4 + (x14.toNat * 1)) 1).getD 7 0), .int .i64 (([(x12.getD x14.toNat (0, (0, (0, 0)))).1, ((x12.getD x14.toNat (0, (0, (0, 0)))).2).1, (((x12.getD x14.toNat (0, (0, (0, 0)))).2).2).1, (((x12.getD x14.toNat (0, (0, (0, 0)))).2).2).2, 0, 0, 0, 0, 0, 0, 0, 0].set (4 + (x14.toNat * 1)) 1).getD 8 0), .int .i64 (([(x12.getD x14.toNat (0, (0, (0, 0)))).1, ((x12.getD x14.toNat (0, (0, (0, 0)))).2).1, (((x12.getD x14.toNat (0, (0, (0, 0)))).2).2).1, (((x12.getD x14.toNat (0, (0, (0, 0)))).2).2).2, 0, 0, 0, 0, 0, 0, 0, 0].set (4 + (x14.toNat * 1)) 1).getD 9 0), .int .i64 (([(x12.getD x14.toNat (0, (0, (0, 0)))).1, ((x12.getD x14.toNat (0, (0, (0, 0)))).2).1, (((x12.getD x14.toNat (0, (0, (0, 0)))).2).2).1, (((x12.getD x14.toNat (0, (0, (0, 0)))).2).2).2, 0, 0, 0, 0, 0, 0, 0, 0].set (4 + (x14.toNat * 1)) 1).getD 10 0), .int .i64 (([(x12.getD x14.toNat (0, (0, (0, 0)))).1, ((x12.getD x14.toNat (0, (0, (0, 0)))).2).1, (((x12.getD x14.toNat (0, (0, (0, 0)))).2).2).1, (((x12.getD x14.toNat (0, (0, (0, 0)))).2).2).2, 0, 0, 0, 0, 0, 0, 0, 0].set (4 + (x14.toNat * 1)) 1).getD 11 0)]] [.box [.nil, .nil]] [.agg [.int .i64 r0.1, .int .i64 r0.2.1, .int .i64 r0.2.2.1, .int .i64 r0.2.2.2.1, .int .i64 r0.2.2.2.2.1, .int .i64 r0.2.2.2.2.2.1, .int .i64 r0.2.2.2.2.2.2.1, .int .i64 r0.2.2.2.2.2.2.2.1, .int .i64 r0.2.2.2.2.2.2.2.2.1, .int .i64 r0.2.2.2.2.2.2.2.2.2.1, .int .i64 r0.2.2.2.2.2.2.2.2.2.2.1, .int .i64 r0.2.2.2.2.2.2.2.2.2.2.2]] [.box [.nil, .nil]] ∧
           Ck (Nat.ble 12 (([(x12.getD x14.toNat (0, (0, (0, 0)))).1, ((x12.getD x14.toNat (0, (0, (0, 0)))).2).1, (((x12.getD x14.toNat (0, (0, (0, 0)))).2).2).1, (((x12.getD x14.toNat (0, (0, (0, 0)))).2).2).2, 0, 0, 0, 0, 0, 0, 0, 0].set (4 + (x14.toNat * 1)) 1).length)) (
            Ck (Nat.ble 4 (((((((((((((([(x12.getD x14.toNat (0, (0, (0, 0)))).1, ((x12.getD x14.toNat (0, (0, (0, 0)))).2).1, (((x12.getD x14.toNat (0, (0, (0, 0)))).2).2).1, (((x12.getD x14.toNat (0, (0, (0, 0)))).2).2).2, 0, 0, 0, 0, 0, 0, 0, 0].set (4 + (x14.toNat * 1)) 1).set 0 r0.1).set 1 r0.2.1).set 2 r0.2.2.1).set 3 r0.2.2.2.1).set 4 r0.2.2.2.2.1).set 5 r0.2.2.2.2.2.1).set 6 r0.2.2.2.2.2.2.1).set 7 r0.2.2.2.2.2.2.2.1).set 8 r0.2.2.2.2.2.2.2.2.1).set 9 r0.2.2.2.2.2.2.2.2.2.1).set 10 r0.2.2.2.2.2.2.2.2.2.2.1).set 11 r0.2.2.2.2.2.2.2.2.2.2.2).length)) (
             ∃ r1 : Int, SC P 121 [.agg [.int .i64 (((((((((((((([(x12.getD x14.toNat (0, (0, (0, 0)))).1, ((x12.getD x14.toNat (0, (0, (0, 0)))).2).1, (((x12.getD x14.toNat (0, (0, (0, 0)))).2).2).1, (((x12.getD x14.toNat (0, (0, (0, 0)))).2).2).2, 0, 0, 0, 0, 0, 0, 0, 0].set (4 + (x14.toNat * 1)) 1).set 0 r0.1).set 1 r0.2.1).set 2 r0.2.2.1).set 3 r0.2.2.2.1).set 4 r0.2.2.2.2.1).set 5 r0.2.2.2.2.2.1).set 6 r0.2.2.2.2.2.2.1).set 7 r0.2.2.2.2.2.2.2.1).set 8 r0.2.2.2.2.2.2.2.2.1).set 9 r0.2.2.2.2.2.2.2.2.2.1).set 10 r0.2.2.2.2.2.2.2.2.2.2.1).set 11 r0.2.2.2.2.2.2.2.2.2.2.2).getD 0 0), .int .i64 (((((((((((((([(x12.getD x14.toNat (0, (0, (0, 0)))).1, ((x12.getD x14.toNat (0, (0, (0, 0)))).2).1, (((x12.getD x14.toNat (0, (0, (0, 0)))).2).2).1, (((x12.getD x14.toNat (0, (0, (0, 0)))).2).2).2, 0, 0, 0, 0, 0, 0, 0, 0].set (4 + (x14.toNat * 1)) 1).set 0 r0.1).set 1 r0.2.1).set 2 r0.2.2.1).set 3 r0.2.2.2.1).set 4 r0.2.2.2.2.1).set 5 r0.2.2.2.2.2.1).set 6 r0.2.2.2.2.2.2.1).set 7 r0.2.2.2.2.2.2.2.1).set 8 r0.2.2.2.2.2.2.2.2.1).set 9 r0.2.2.2.2.2.2.2.2.2.1).set 10 r0.2.2.2.2.2.2.2.2.2.2.1).set 11 r0.2.2.2.2.2.2.2.2.2.2.2).getD 1 0), .int .i64 (((((((((((((([(x12.getD x14.toNat (0, (0, (0, 0)))).1, ((x12.getD x14.toNat (0, (0, (0, 0)))).2).1, (((x12.getD x14.toNat (0, (0, (0, 0)))).2).2).1, (((x12.getD x14.toNat (0, (0, (0, 0)))).2).2).2, 0, 0, 0, 0, 0, 0, 0, 0].set (4 + (x14.toNat * 1)) 1).set 0 r0.1).set 1 r0.2.1).set 2 r0.2.2.1).set 3 r0.2.2.2.1).set 4 r0.2.2.2.2.1).set 5 r0.2.2.2.2.2.1).set 6 r0.2.2.2.2.2.2.1).set 7 r0.2.2.2.2.2.2.2.1).set 8 r0.2.2.2.2.2.2.2.2.1).set 9 r0.2.2.2.2.2.2.2.2.2.1).set 10 r0.2.2.2.2.2.2.2.2.2.2.1).set 11 r0.2.2.2.2.2.2.2.2.2.2.2).getD 2 0), .int .i64 (((((((((((((([(x12.getD x14.toNat (0, (0, (0, 0)))).1, ((x12.getD x14.toNat (0, (0, (0, 0)))).2).1, (((x12.getD x14.toNat (0, (0, (0, 0)))).2).2).1, (((x12.getD x14.toNat (0, (0, (0, 0)))).2).2).2, 0, 0, 0, 0, 0, 0, 0, 0].set (4 + (x14.toNat * 1)) 1).set 0 r0.1).set 1 r0.2.1).set 2 r0.2.2.1).set 3 r0.2.2.2.1).set 4 r0.2.2.2.2.1).set 5 r0.2.2.2.2.2.1).set 6 r0.2.2.2.2.2.2.1).set 7 r0.2.2.2.2.2.2.2.1).set 8 r0.2.2.2.2.2.2.2.2.1).set 9 r0.2.2.2.2.2.2.2.2.2.1).set 10 r0.2.2.2.2.2.2.2.2.2.2.1).set 11 r0.2.2.2.2.2.2.2.2.2.2.2).getD 3 0)]] [] [.one (.int .i64 r1)] [] ∧
              Br (decide (r1 < (0 : Int))) (
               FL E H105 Try.f105 0 r lh 0 (S105_L0 x12 x13 (IntKind.wrap .i64 (x14 + 1)))) (
               Ck (decide ((0 : Int) ≤ r1)) (
                Ck (decide (r1 < (4 : Int))) (
                 Ck (Nat.ble ((0 + (r1.toNat * 1)) + 1) (((((((((((((([(x12.getD x14.toNat (0, (0, (0, 0)))).1, ((x12.getD x14.toNat (0, (0, (0, 0)))).2).1, (((x12.getD x14.toNat (0, (0, (0, 0)))).2).2).1, (((x12.getD x14.toNat (0, (0, (0, 0)))).2).2).2, 0, 0, 0, 0, 0, 0, 0, 0].set (4 + (x14.toNat * 1)) 1).set 0 r0.1).set 1 r0.2.1).set 2 r0.2.2.1).set 3 r0.2.2.2.1).set 4 r0.2.2.2.2.1).set 5 r0.2.2.2.2.2.1).set 6 r0.2.2.2.2.2.2.1).set 7 r0.2.2.2.2.2.2.2.1).set 8 r0.2.2.2.2.2.2.2.2.1).set 9 r0.2.2.2.2.2.2.2.2.2.1).set 10 r0.2.2.2.2.2.2.2.2.2.2.1).set 11 r0.2.2.2.2.2.2.2.2.2.2.2).length)) (
                  ∃ r2 : Int, SC P 132 [.one (.int .i64 (((((((((((((([(x12.getD x14.toNat (0, (0, (0, 0)))).1, ((x12.getD x14.toNat (0, (0, (0, 0)))).2).1, (((x12.getD x14.toNat (0, (0, (0, 0)))).2).2).1, (((x12.getD x14.toNat (0, (0, (0, 0)))).2).2).2, 0, 0, 0, 0, 0, 0, 0, 0].set (4 + (x14.toNat * 1)) 1).set 0 r0.1).set 1 r0.2.1).set 2 r0.2.2.1).set 3 r0.2.2.2.1).set 4 r0.2.2.2.2.1).set 5 r0.2.2.2.2.2.1).set 6 r0.2.2.2.2.2.2.1).set 7 r0.2.2.2.2.2.2.2.1).set 8 r0.2.2.2.2.2.2.2.2.1).set 9 r0.2.2.2.2.2.2.2.2.2.1).set 10 r0.2.2.2.2.2.2.2.2.2.2.1).set 11 r0.2.2.2.2.2.2.2.2.2.2.2).getD (0 + (r1.toNat * 1)) 0))] [] [.one (.int .i64 r2)] [] ∧
                   Ck (Nat.ble 4 (((((((((((((([(x12.getD x14.toNat (0, (0, (0, 0)))).1, ((x12.getD x14.toNat (0, (0, (0, 0)))).2).1, (((x12.getD x14.toNat (0, (0, (0, 0)))).2).2).1, (((x12.getD x14.toNat (0, (0, (0, 0)))).2).2).2, 0, 0, 0, 0, 0, 0, 0, 0].set (4 + (x14.toNat * 1)) 1).set 0 r0.1).set 1 r0.2.1).set 2 r0.2.2.1).set 3 r0.2.2.2.1).set 4 r0.2.2.2.2.1).set 5 r0.2.2.2.2.2.1).set 6 r0.2.2.2.2.2.2.1).set 7 r0.2.2.2.2.2.2.2.1).set 8 r0.2.2.2.2.2.2.2.2.1).set 9 r0.2.2.2.2.2.2.2.2.2.1).set 10 r0.2.2.2.2.2.2.2.2.2.2.1).set 11 r0.2.2.2.2.2.2.2.2.2.2.2).length)) (
                    ∃ r3 : Int × Int × Int × Int, SC P 123 [.agg [.int .i64 (((((((((((((([(x12.getD x14.toNat (0, (0, (0, 0)))).1, ((x12.getD x14.toNat (0, (0, (0, 0)))).2).1, (((x12.getD x14.toNat (0, (0, (0, 0)))).2).2).1, (((x12.getD x14.toNat (0, (0, (0, 0)))).2).2).2, 0, 0, 0, 0, 0, 0, 0, 0].set (4 + (x14.toNat * 1)) 1).set 0 r0.1).set 1 r0.2.1).set 2 r0.2.2.1).set 3 r0.2.2.2.1).set 4 r0.2.2.2.2.1).set 5 r0.2.2.2.2.2.1).set 6 r0.2.2.2.2.2.2.1).set 7 r0.2.2.2.2.2.2.2.1).set 8 r0.2.2.2.2.2.2.2.2.1).set 9 r0.2.2.2.2.2.2.2.2.2.1).set 10 r0.2.2.2.2.2.2.2.2.2.2.1).set 11 r0.2.2.2.2.2.2.2.2.2.2.2).getD 0 0), .int .i64 (((((((((((((([(x12.getD x14.toNat (0, (0, (0, 0)))).1, ((x12.getD x14.toNat (0, (0, (0, 0)))).2).1, (((x12.getD x14.toNat (0, (0, (0, 0)))).2).2).1, (((x12.getD x14.toNat (0, (0, (0, 0)))).2).2).2, 0, 0, 0, 0, 0, 0, 0, 0].set (4 + (x14.toNat * 1)) 1).set 0 r0.1).set 1 r0.2.1).set 2 r0.2.2.1).set 3 r0.2.2.2.1).set 4 r0.2.2.2.2.1).set 5 r0.2.2.2.2.2.1).set 6 r0.2.2.2.2.2.2.1).set 7 r0.2.2.2.2.2.2.2.1).set 8 r0.2.2.2.2.2.2.2.2.1).set 9 r0.2.2.2.2.2.2.2.2.2.1).set 10 r0.2.2.2.2.2.2.2.2.2.2.1).set 11 r0.2.2.2.2.2.2.2.2.2.2.2).getD 1 0), .int .i64 (((((((((((((([(x12.getD x14.toNat (0, (0, (0, 0)))).1, ((x12.getD x14.toNat (0, (0, (0, 0)))).2).1, (((x12.getD x14.toNat (0, (0, (0, 0)))).2).2).1, (((x12.getD x14.toNat (0, (0, (0, 0)))).2).2).2, 0, 0, 0, 0, 0, 0, 0, 0].set (4 + (x14.toNat * 1)) 1).set 0 r0.1).set 1 r0.2.1).set 2 r0.2.2.1).set 3 r0.2.2.2.1).set 4 r0.2.2.2.2.1).set 5 r0.2.2.2.2.2.1).set 6 r0.2.2.2.2.2.2.1).set 7 r0.2.2.2.2.2.2.2.1).set 8 r0.2.2.2.2.2.2.2.2.1).set 9 r0.2.2.2.2.2.2.2.2.2.1).set 10 r0.2.2.2.2.2.2.2.2.2.2.1).set 11 r0.2.2.2.2.2.2.2.2.2.2.2).getD 2 0), .int .i64 (((((((((((((([(x12.getD x14.toNat (0, (0, (0, 0)))).1, ((x12.getD x14.toNat (0, (0, (0, 0)))).2).1, (((x12.getD x14.toNat (0, (0, (0, 0)))).2).2).1, (((x12.getD x14.toNat (0, (0, (0, 0)))).2).2).2, 0, 0, 0, 0, 0, 0, 0, 0].set (4 + (x14.toNat * 1)) 1).set 0 r0.1).set 1 r0.2.1).set 2 r0.2.2.1).set 3 r0.2.2.2.1).set 4 r0.2.2.2.2.1).set 5 r0.2.2.2.2.2.1).set 6 r0.2.2.2.2.2.2.1).set 7 r0.2.2.2.2.2.2.2.1).set 8 r0.2.2.2.2.2.2.2.2.1).set 9 r0.2.2.2.2.2.2.2.2.2.1).set 10 r0.2.2.2.2.2.2.2.2.2.2.1).set 11 r0.2.2.2.2.2.2.2.2.2.2.2).getD 3 0)], .one (.int .i64 r2)] [] [.agg [.int .i64 r3.1, .int .i64 r3.2.1, .int .i64 r3.2.2.1, .int .i64 r3.2.2.2]] [] ∧
                     Ck (Nat.ble 4 (((((((((((((([(x12.getD x14.toNat (0, (0, (0, 0)))).1, ((x12.getD x14.toNat (0, (0, (0, 0)))).2).1, (((x12.getD x14.toNat (0, (0, (0, 0)))).2).2).1, (((x12.getD x14.toNat (0, (0, (0, 0)))).2).2).2, 0, 0, 0, 0, 0, 0, 0, 0].set (4 + (x14.toNat * 1)) 1).set 0 r0.1).set 1 r0.2.1).set 2 r0.2.2.1).set 3 r0.2.2.2.1).set 4 r0.2.2.2.2.1).set 5 r0.2.2.2.2.2.1).set 6 r0.2.2.2.2.2.2.1).set 7 r0.2.2.2.2.2.2.2.1).set 8 r0.2.2.2.2.2.2.2.2.1).set 9 r0.2.2.2.2.2.2.2.2.2.1).set 10 r0.2.2.2.2.2.2.2.2.2.2.1).set 11 r0.2.2.2.2.2.2.2.2.2.2.2).length)) (
                      FL E H105 Try.f105 0 r lh 1 (S105_L1 x14 r2 x12 x13 x14 0 ((((((((((((((((([(x12.getD x14.toNat (0, (0, (0, 0)))).1, ((x12.getD x14.toNat (0, (0, (0, 0)))).2).1, (((x12.getD x14.toNat (0, (0, (0, 0)))).2).2).1, (((x12.getD x14.toNat (0, (0, (0, 0)))).2).2).2, 0, 0, 0, 0, 0, 0, 0, 0].set (4 + (x14.toNat * 1)) 1).set 0 r0.1).set 1 r0.2.1).set 2 r0.2.2.1).set 3 r0.2.2.2.1).set 4 r0.2.2.2.2.1).set 5 r0.2.2.2.2.2.1).set 6 r0.2.2.2.2.2.2.1).set 7 r0.2.2.2.2.2.2.2.1).set 8 r0.2.2.2.2.2.2.2.2.1).set 9 r0.2.2.2.2.2.2.2.2.2.1).set 10 r0.2.2.2.2.2.2.2.2.2.2.1).set 11 r0.2.2.2.2.2.2.2.2.2.2.2).set 0 r3.1).set 1 r3.2.1).set 2 r3.2.2.1).set 3 r3.2.2.2))))))))))))))))) (
    Ret r lh [.one (.ptr 0 0 0)] [.box [.nil, .nil]])) := by kernel_rfl
theorem eq105_L1 (i4 : Int) (c8 : Int) (x12 : List (Int × (Int × (Int × Int)))) (x13 : Int) (x14 : Int) (x42 : Int) (h1 : List Int) (r : List W) (lh : Heap) : FL1 E H105 Try.f105 0 r lh 1 (S105_L1 i4 c8 x12 x13 x14 x42 h1) =
  (
   Br (decide (x42 < (8 : Int))) (
    Ck (decide ((0 : Int) ≤ x42)) (
     Ck (decide (x42 < (8 : Int))) (
      Ck (Nat.ble ((4 + (x42.toNat * 1)) + 1) h1.length) (
       ∃ r0 : Int, SC P 115 [.one (.int .i64 (h1.getD (4 + (x42.toNat * 1)) 0)), .one (.int .i64 c8)] [] [.one (.int .i64 r0)] [] ∧
        Ck (decide ((0 : Int) ≤ x42)) (
         Ck (decide (x42 < (8 : Int))) (
          Ck (Nat.ble ((4 + (x42.toNat * 1)) + 1) h1.length) (
           FL E H105 Try.f105 0 r lh 1 (S105_L1 i4 c8 x12 x13 x14 (IntKind.wrap .i64 (x42 + 1)) (h1.set (4 + (x42.toNat * 1)) r0))))))))) (
    Ck (Nat.ble 12 h1.length) (
     FL E H105 Try.f105 0 r lh 0 (S105_L0b x12 x13 (IntKind.wrap .i64 (x14 + 1)) [(((h1.getD 0 0), ((h1.getD 1 0), ((h1.getD 2 0), (h1.getD 3 0)))), ((h1.getD 4 0), ((h1.getD 5 0), ((h1.getD 6 0), ((h1.getD 7 0), ((h1.getD 8 0), ((h1.getD 9 0), ((h1.getD 10 0), (h1.getD 11 0)))))))))] [i4])))) := by kernel_rfl
theorem eq105_L0b (x12 : List (Int × (Int × (Int × Int)))) (x13 : Int) (x14 : Int) (h1 : List ((Int × (Int × (Int × Int))) × (Int × (Int × (Int × (Int × (Int × (Int × (Int × Int))))))))) (h2 : List Int) (r : List W) (lh : Heap) : FL1 E H105 Try.f105 0 r lh 0 (S105_L0b x12 x13 x14 h1 h2) =
  (
   Br (decide (x14 < x13)) (
    Ck (decide ((0 : Int) ≤ x14)) (
     Ck (decide (x14 < ((x12.length : Nat) : Int))) (
      Ck (decide ((0 : Int) ≤ x14)) (
       Ck (decide (x14 < (8 : Int))) (
        Ck (Nat.ble ((4 + (x14.toNat * 1)) + 1) 12) (
         Ck (Nat.ble 12 (([(x12.getD x14.toNat (0, (0, (0, 0)))).1, ((x12.getD x14.toNat (0, (0, (0, 0)))).2).1, (((x12.getD x14.toNat (0, (0, (0, 0)))).2).2).1, (((x12.getD x14.toNat (0, (0, (0, 0)))).2).2).2, 0, 0, 0, 0, 0, 0, 0, 0].set (4 + (x14.toNat * 1)) 1).length)) (
          ∃ r0 : Int × Int × Int × Int × Int × Int × Int × Int × Int × Int × Int × Int, SC P 131 [.one (.ptr 0 0 0), .agg [.int .i64 (([(x12.getD x14.toNat (0, (0, (0, 0)))).1, ((x12.getD x14.toNat (0, (0, (0, 0)))).2).1, (((x12.getD x14.toNat (0, (0, (0, 0)))).2).2).1, (((x12.getD x14.toNat (0, (0, (0, 0)))).2).2).2, 0, 0, 0, 0, 0, 0, 0, 0].set (4 + (x14.toNat * 1)) 1).getD 0 0), .int .i64 (([(x12.getD x14.toNat (0, (0, (0, 0)))).1, ((x12.getD x14.toNat (0, (0, (0, 0)))).2).1, (((x12.getD x14.toNat (0, (0, (0, 0)))).2).2).1, (((x12.getD x14.toNat (0, (0, (0, 0)))).2).2).2, 0, 0, 0, 0, 0, 0, 0, 0].set (4 + (x14.toNat * 1)) 1).getD 1 0), .int .i64 (([(x12.getD x14.toNat (0, (0, (0, 0)))).1, ((x12.getD x14.toNat (0, (0, (0, 0)))).2).1, (((x12.getD x14.toNat (0, (0, (0, 0)))).2).2).1, (((x12.getD x14.toNat (0, (0, (0, 0)))).2).2).2, 0, 0, 0, 0, 0, 0, 0, 0].set (4 + (x14.toNat * 1)) 1).getD 2 0), .int .i64 (([(x12.getD x14.toNat (0, (0, (0, 0)))).1, ((x12.getD x14.toNat (0, (0, (0, 0)))).2).1, (((x12.getD x14.toNat (0, (0, (0, 0)))).2).2).1, (((x12.getD x14.toNat (0, (0, (0, 0)))).2).2).2, 0, 0, 0, 0, 0, 0, 0, 0].set (4 + (x14.toNat * 1)) 1).getD 3 0), .int .i64 (([(x12.getD x14.toNat (0, (0, (0, 0)))).1, ((x12.getD x14.toNat (0, (0, (0, 0)))).2).1, (((x12.getD x14.toNat (0, (0, (0, 0)))).2).2).1, (((x12.getD x14.toNat (0, (0, (0, 0)))).2).2).2, 0, 0, 0, 0, 0, 0, 0, 0].set (4 + (x14.toNat * 1)) 1).getD 4 0), .int .i64 (([(x12.getD x14.toNat (0, (0, (0, 0)))).1, ((x12.getD x14.toNat (0, (0, (0, 0)))).2).1, (((x12.getD x14.toNat (0, (0, (0, 0)))).2).2).1, (((x12.getD x14.toNat (0, (0, (0, 0)))).2).2).2, 0, 0, 0, 0, 0, 0, 0, 0].set (4 + (x14.toNat * 1)) 1).getD 5 0), .int .i64 (([(x12.getD x14.toNat (0, (0, (0, 0)))).1, ((x12.getD x14.toNat (0, (0, (0, 0)))).2).1, (((x12.getD x14.toNat (0, (0, (0, 0)))).2).2).1, (((x12.getD x14.toNat (0, (0, (0, 0)))).2).2).2, 0, 0, 0, 0, 0, 0, 0, 0].set (4 + (x14.toNat * 1)) 1).getD 6 0), .int .i64 (([(x12.getD x14.toNat (0, (0, (0, 0)))).1, ((x12.getD x14.toNat (0, (0, (0, 0)))).2).1, (((x12.getD x14.toNat (0, (0, (0, 0)))).2).2).1, (((x12.getD x14.toNat (0, (0, (0, 0)))).2).2).2, 0, 0, 0, 0, 0, 0, 0, 0].set (4 + (x14.toNat * 1)) 1).getD 7 0), .int .i64 (([(x12.getD x14.toNat (0, (0, (0, 0)))).1, ((x12.getD x14.toNat (0, (0, (0, 0)))).2).1, (((x12.getD x14.toNat (0, (0, (0, 0)))).2).2).1, (((x12.getD x14.toNat (0, (0, (0, 0)))).2).2).2, 0, 0, 0, 0, 0, 0, 0, 0].set (4 + (x14.toNat * 1)) 1).getD 8 0), .int .i64 (([(x12.getD x14.toNat (0, (0, (0, 0)))).1, ((x12.getD x14.toNat (0, (0, (0, 0)))).2).1, (((x12.getD x14.toNat (0, (0, (0, 0)))).2).2).1, (((x12.getD x14.toNat (0, (0, (0, 0)))).2).2).2, 0, 0, 0, 0, 0, 0, 0, 0].set (4 + (x14.toNat * 1)) 1).getD 9 0), .int .i64 (([(x12.getD x14.toNat (0, (0, (0, 0)))).1, ((x12.getD x14.toNat (0, (0, (0, 0)))).2).1, (((x12.getD x14.toNat (0, (0, (0, 0)))).2).2).1, (((x12.getD x14.toNat (0, (0, (0, 0)))).2).2).2, 0, 0, 0, 0, 0, 0, 0, 0].set (4 + (x14.toNat * 1)) 1).getD 10 0), .int .i64 (([(x12.getD x14.toNat (0, (0, (0, 0)))).1, ((x12.getD x14.toNat (0, (0, (0, 0)))).2).1, (((x12.getD x14.toNat (0, (0, (0, 0)))).2).2).1, (((x12.getD x14.toNat (0, (0, (0, 0)))).2).2).2, 0, 0, 0, 0, 0, 0, 0, 0].set (4 + (x14.toNat * 1)) 1).getD 11 0)]] [.box [.sl 1 none, .sl 2 none], .row (.pair (.pair (.int .i64) (.pair (.int .i64) (.pair (.int .i64) (.int .i64)))) (.pair (.int .i64) (.pair (.int .i64) (.pair (.int .i64) (.pair (.int .i64) (.pair (.int .i64) (.pair (.int .i64) (.pair (.int .i64) (.int .i64))))))))) h1 .own, .row (.int .i64) h2 .own] [.agg [.int .i64 r0.1, .int .i64 r0.2.1, .int .i64 r0.2.2.1, .int .i64 r0.2.2.2.1, .int .i64 r0.2.2.2.2.1, .int .i64 r0.2.2.2.2.2.1, .int .i64 r0.2.2.2.2.2.2.1, .int .i64 r0.2.2.2.2.2.2.2.1, .int .i64 r0.2.2.2.2.2.2.2.2.1, .int .i64 r0.2.2.2.2.2.2.2.2.2.1, .int .i64 r0.2.2.2.2.2.2.2.2.2.2.1, .int .i64 r0.2.2.2.2.2.2.2.2.2.2.2]] [.box [.sl 1 none, .sl 2 none], .row (.pair (.pair (.int .i64) (.pair (.int .i64) (.pair (.int .i64) (.int .i64)))) (.pair (.int .i64) (.pair (.int .i64) (.pair (.int .i64) (.pair (.int .i64) (.pair (.int .i64) (.pair (.int .i64) (.pair (.int .i64) (.int .i64))))))))) h1 .own, .row (.int .i64) h2 .own] ∧
           Ck (Nat.ble 12 (([(x12.getD x14.toNat (0, (0, (0, 0)))).1, ((x12.getD x14.toNat (0, (0, (0, 0)))).2).1, (((x12.getD x14.toNat (0, (0, (0, 0)))).2).2).1, (((x12.getD x14.toNat (0, (0, (0, 0)))).2).2).2, 0, 0, 0, 0, 0, 0, 0, 0].set (4 + (x14.toNat * 1)) 1).length)) (
            Ck (Nat.ble 4 (((((((((((((([(x12.getD x14.toNat (0, (0, (0, 0)))).1, ((x12.getD x14.toNat (0, (0, (0, 0)))).2).1, (((x12.getD x14.toNat (0, (0, (0, 0)))).2).2).1, (((x12.getD x14.toNat (0, (0, (0, 0)))).2).2).2, 0, 0, 0, 0, 0, 0, 0, 0].set (4 + (x14.toNat * 1)) 1).set 0 r0.1).set 1 r0.2.1).set 2 r0.2.2.1).set 3 r0.2.2.2.1).set 4 r0.2.2.2.2.1).set 5 r0.2.2.2.2.2.1).set 6 r0.2.2.2.2.2.2.1).set 7 r0.2.2.2.2.2.2.2.1).set 8 r0.2.2.2.2.2.2.2.2.1).set 9 r0.2.2.2.2.2.2.2.2.2.1).set 10 r0.2.2.2.2.2.2.2.2.2.2.1).set 11 r0.2.2.2.2.2.2.2.2.2.2.2).length)) (
             ∃ r1 : Int, SC P 121 [.agg [.int .i64 (((((((((((((([(x12.getD x14.toNat (0, (0, (0, 0)))).1, ((x12.getD x14.toNat (0, (0, (0, 0)))).2).1, (((x12.getD x14.toNat (0, (0, (0, 0)))).2).2).1, (((x12.getD x14.toNat (0, (0, (0, 0)))).2).2).2, 0, 0, 0, 0, 0, 0, 0, 0].set (4 + (x14.toNat * 1)) 1).set 0 r0.1).set 1 r0.2.1).set 2 r0.2.2.1).set 3 r0.2.2.2.1).set 4 r0.2.2.2.2.1).set 5 r0.2.2.2.2.2.1).set 6 r0.2.2.2.2.2.2.1).set 7 r0.2.2.2.2.2.2.2.1).set 8 r0.2.2.2.2.2.2.2.2.1).set 9 r0.2.2.2.2.2.2.2.2.2.1).set 10 r0.2.2.2.2.2.2.2.2.2.2.1).set 11 r0.2.2.2.2.2.2.2.2.2.2.2).getD 0 0), .int .i64 (((((((((((((([(x12.getD x14.toNat (0, (0, (0, 0)))).1, ((x12.getD x14.toNat (0, (0, (0, 0)))).2).1, (((x12.getD x14.toNat (0, (0, (0, 0)))).2).2).1, (((x12.getD x14.toNat (0, (0, (0, 0)))).2).2).2, 0, 0, 0, 0, 0, 0, 0, 0].set (4 + (x14.toNat * 1)) 1).set 0 r0.1).set 1 r0.2.1).set 2 r0.2.2.1).set 3 r0.2.2.2.1).set 4 r0.2.2.2.2.1).set 5 r0.2.2.2.2.2.1).set 6 r0.2.2.2.2.2.2.1).set 7 r0.2.2.2.2.2.2.2.1).set 8 r0.2.2.2.2.2.2.2.2.1).set 9 r0.2.2.2.2.2.2.2.2.2.1).set 10 r0.2.2.2.2.2.2.2.2.2.2.1).set 11 r0.2.2.2.2.2.2.2.2.2.2.2).getD 1 0), .int .i64 (((((((((((((([(x12.getD x14.toNat (0, (0, (0, 0)))).1, ((x12.getD x14.toNat (0, (0, (0, 0)))).2).1, (((x12.getD x14.toNat (0, (0, (0, 0)))).2).2).1, (((x12.getD x14.toNat (0, (0, (0, 0)))).2).2).2, 0, 0, 0, 0, 0, 0, 0, 0].set (4 + (x14.toNat * 1)) 1).set 0 r0.1).set 1 r0.2.1).set 2 r0.2.2.1).set 3 r0.2.2.2.1).set 4 r0.2.2.2.2.1).set 5 r0.2.2.2.2.2.1).set 6 r0.2.2.2.2.2.2.1).set 7 r0.2.2.2.2.2.2.2.1).set 8 r0.2.2.2.2.2.2.2.2.1).set 9 r0.2.2.2.2.2.2.2.2.2.1).set 10 r0.2.2.2.2.2.2.2.2.2.2.1).set 11 r0.2.2.2.2.2.2.2.2.2.2.2).getD 2 0), .int .i64 (((((((((((((([(x12.getD x14.toNat (0, (0, (0, 0)))).1, ((x12.getD x14.toNat (0, (0, (0, 0)))).2).1, (((x12.getD x14.toNat (0, (0, (0, 0)))).2).2).1, (((x12.getD x14.toNat (0, (0, (0, 0)))).2).2).2, 0, 0, 0, 0, 0, 0, 0, 0].set (4 + (x14.toNat * 1)) 1).set 0 r0.1).set 1 r0.2.1).set 2 r0.2.2.1).set 3 r0.2.2.2.1).set 4 r0.2.2.2.2.1).set 5 r0.2.2.2.2.2.1).set 6 r0.2.2.2.2.2.2.1).set 7 r0.2.2.2.2.2.2.2.1).set 8 r0.2.2.2.2.2.2.2.2.1).set 9 r0.2.2.2.2.2.2.2.2.2.1).set 10 r0.2.2.2.2.2.2.2.2.2.2.1).set 11 r0.2.2.2.2.2.2.2.2.2.2.2).getD 3 0)]] [] [.one (.int .i64 r1)] [] ∧
              Br (decide (r1 < (0 : Int))) (
               FL E H105 Try.f105 0 r lh 0 (S105_L0b x12 x13 (IntKind.wrap .i64 (x14 + 1)) h1 h2)) (
               Ck (decide ((0 : Int) ≤ r1)) (
                Ck (decide (r1 < (4 : Int))) (
                 Ck (Nat.ble ((0 + (r1.toNat * 1)) + 1) (((((((((((((([(x12.getD x14.toNat (0, (0, (0, 0)))).1, ((x12.getD x14.toNat (0, (0, (0, 0)))).2).1, (((x12.getD x14.toNat (0, (0, (0, 0)))).2).2).1, (((x12.getD x14.toNat (0, (0, (0, 0)))).2).2).2, 0, 0, 0, 0, 0, 0, 0, 0].set (4 + (x14.toNat * 1)) 1).set 0 r0.1).set 1 r0.2.1).set 2 r0.2.2.1).set 3 r0.2.2.2.1).set 4 r0.2.2.2.2.1).set 5 r0.2.2.2.2.2.1).set 6 r0.2.2.2.2.2.2.1).set 7 r0.2.2.2.2.2.2.2.1).set 8 r0.2.2.2.2.2.2.2.2.1).set 9 r0.2.2.2.2.2.2.2.2.2.1).set 10 r0.2.2.2.2.2.2.2.2.2.2.1).set 11 r0.2.2.2.2.2.2.2.2.2.2.2).length)) (
                  ∃ r2 : Int, SC P 132 [.one (.int .i64 (((((((((((((([(x12.getD x14.toNat (0, (0, (0, 0)))).1, ((x12.getD x14.toNat (0, (0, (0, 0)))).2).1, (((x12.getD x14.toNat (0, (0, (0, 0)))).2).2).1, (((x12.getD x14.toNat (0, (0, (0, 0)))).2).2).2, 0, 0, 0, 0, 0, 0, 0, 0].set (4 + (x14.toNat * 1)) 1).set 0 r0.1).set 1 r0.2.1).set 2 r0.2.2.1).set 3 r0.2.2.2.1).set 4 r0.2.2.2.2.1).set 5 r0.2.2.2.2.2.1).set 6 r0.2.2.2.2.2.2.1).set 7 r0.2.2.2.2.2.2.2.1).set 8 r0.2.2.2.2.2.2.2.2.1).set 9 r0.2.2.2.2.2.2.2.2.2.1).set 10 r0.2.2.2.2.2.2.2.2.2.2.1).set 11 r0.2.2.2.2.2.2.2.2.2.2.2).getD (0 + (r1.toNat * 1)) 0))] [] [.one (.int .i64 r2)] [] ∧
                   Ck (Nat.ble 4 (((((((((((((([(x12.getD x14.toNat (0, (0, (0, 0)))).1, ((x12.getD x14.toNat (0, (0, (0, 0)))).2).1, (((x12.getD x14.toNat (0, (0, (0, 0)))).2).2).1, (((x12.getD x14.toNat (0, (0, (0, 0)))).2).2).2, 0, 0, 0, 0, 0, 0, 0, 0].set (4 + (x14.toNat * 1)) 1).set 0 r0.1).set 1 r0.2.1).set 2 r0.2.2.1).set 3 r0.2.2.2.1).set 4 r0.2.2.2.2.1).set 5 r0.2.2.2.2.2.1).set 6 r0.2.2.2.2.2.2.1).set 7 r0.2.2.2.2.2.2.2.1).set 8 r0.2.2.2.2.2.2.2.2.1).set 9 r0.2.2.2.2.2.2.2.2.2.1).set 10 r0.2.2.2.2.2.2.2.2.2.2.1).set 11 r0.2.2.2.2.2.2.2.2.2.2.2).length)) (
                    ∃ r3 : Int × Int × Int × Int, SC P 123 [.agg [.int .i64 (((((((((((((([(x12.getD x14.toNat (0, (0, (0, 0)))).1, ((x12.getD x14.toNat (0, (0, (0, 0)))).2).1, (((x12.getD x14.toNat (0, (0, (0, 0)))).2).2).1, (((x12.getD x14.toNat (0, (0, (0, 0)))).2).2).2, 0, 0, 0, 0, 0, 0, 0, 0].set (4 + (x14.toNat * 1)) 1).set 0 r0.1).set 1 r0.2.1).set 2 r0.2.2.1).set 3 r0.2.2.2.1).set 4 r0.2.2.2.2.1).set 5 r0.2.2.2.2.2.1).set 6 r0.2.2.2.2.2.2.1).set 7 r0.2.2.2.2.2.2.2.1).set 8 r0.2.2.2.2.2.2.2.2.1).set 9 r0.2.2.2.2.2.2.2.2.2.1).set 10 r0.2.2.2.2.2.2.2.2.2.2.1).set 11 r0.2.2.2.2.2.2.2.2.2.2.2).getD 0 0), .int .i64 (((((((((((((([(x12.getD x14.toNat (0, (0, (0, 0)))).1, ((x12.getD x14.toNat (0, (0, (0, 0)))).2).1, (((x12.getD x14.toNat (0, (0, (0, 0)))).2).2).1, (((x12.getD x14.toNat (0, (0, (0, 0)))).2).2).2, 0, 0, 0, 0, 0, 0, 0, 0].set (4 + (x14.toNat * 1)) 1).set 0 r0.1).set 1 r0.2.1).set 2 r0.2.2.1).set 3 r0.2.2.2.1).set 4 r0.2.2.2.2.1).set 5 r0.2.2.2.2.2.1).set 6 r0.2.2.2.2.2.2.1).set 7 r0.2.2.2.2.2.2.2.1).set 8 r0.2.2.2.2.2.2.2.2.1).set 9 r0.2.2.2.2.2.2.2.2.2.1).set 10 r0.2.2.2.2.2.2.2.2.2.2.1).set 11 r0.2.2.2.2.2.2.2.2.2.2.2).getD 1 0), .int .i64 (((((((((((((([(x12.getD x14.toNat (0, (0, (0, 0)))).1, ((x12.getD x14.toNat (0, (0, (0, 0)))).2).1, (((x12.getD x14.toNat (0, (0, (0, 0)))).2).2).1, (((x12.getD x14.toNat (0, (0, (0, 0)))).2).2).2, 0, 0, 0, 0, 0, 0, 0, 0].set (4 + (x14.toNat * 1)) 1).set 0 r0.1).set 1 r0.2.1).set 2 r0.2.2.1).set 3 r0.2.2.2.1).set 4 r0.2.2.2.2.1).set 5 r0.2.2.2.2.2.1).set 6 r0.2.2.2.2.2.2.1).set 7 r0.2.2.2.2.2.2.2.1).set 8 r0.2.2.2.2.2.2.2.2.1).set 9 r0.2.2.2.2.2.2.2.2.2.1).set 10 r0.2.2.2.2.2.2.2.2.2.2.1).set 11 r0.2.2.2.2.2.2.2.2.2.2.2).getD 2 0), .int .i64 (((((((((((((([(x12.getD x14.toNat (0, (0, (0, 0)))).1, ((x12.getD x14.toNat (0, (0, (0, 0)))).2).1, (((x12.getD x14.toNat (0, (0, (0, 0)))).2).2).1, (((x12.getD x14.toNat (0, (0, (0, 0)))).2).2).2, 0, 0, 0, 0, 0, 0, 0, 0].set (4 + (x14.toNat * 1)) 1).set 0 r0.1).set 1 r0.2.1).set 2 r0.2.2.1).set 3 r0.2.2.2.1).set 4 r0.2.2.2.2.1).set 5 r0.2.2.2.2.2.1).set 6 r0.2.2.2.2.2.2.1).set 7 r0.2.2.2.2.2.2.2.1).set 8 r0.2.2.2.2.2.2.2.2.1).set 9 r0.2.2.2.2.2.2.2.2.2.1).set 10 r0.2.2.2.2.2.2.2.2.2.2.1).set 11 r0.2.2.2.2.2.2.2.2.2.2.2).getD 3 0)], .one (.int .i64 r2)] [] [.agg [.int .i64 r3.1, .int .i64 r3.2.1, .int .i64 r3.2.2.1, .int .i64 r3.2.2.2]] [] ∧
                     Ck (Nat.ble 4 (((((((((((((([(x12.getD x14.toNat (0, (0, (0, 0)))).1, ((x12.getD x14.toNat (0, (0, (0, 0)))).2).1, (((x12.getD x14.toNat (0, (0, (0, 0)))).2).2).1, (((x12.getD x14.toNat (0, (0, (0, 0)))).2).2).2, 0, 0, 0, 0, 0, 0, 0, 0].set (4 + (x14.toNat * 1)) 1).set 0 r0.1).set 1 r0.2.1).set 2 r0.2.2.1).set 3 r0.2.2.2.1).set 4 r0.2.2.2.2.1).set 5 r0.2.2.2.2.2.1).set 6 r0.2.2.2.2.2.2.1).set 7 r0.2.2.2.2.2.2.2.1).set 8 r0.2.2.2.2.2.2.2.2.1).set 9 r0.2.2.2.2.2.2.2.2.2.1).set 10 r0.2.2.2.2.2.2.2.2.2.2.1).set 11 r0.2.2.2.2.2.2.2.2.2.2.2).length)) (
                      FL E H105 Try.f105 0 r lh 1 (S105_L1b x14 r2 x12 x13 x14 0 h1 h2 ((((((((((((((((([(x12.getD x14.toNat (0, (0, (0, 0)))).1, ((x12.getD x14.toNat (0, (0, (0, 0)))).2).1, (((x12.getD x14.toNat (0, (0, (0, 0)))).2).2).1, (((x12.getD x14.toNat (0, (0, (0, 0)))).2).2).2, 0, 0, 0, 0, 0, 0, 0, 0].set (4 + (x14.toNat * 1)) 1).set 0 r0.1).set 1 r0.2.1).set 2 r0.2.2.1).set 3 r0.2.2.2.1).set 4 r0.2.2.2.2.1).set 5 r0.2.2.2.2.2.1).set 6 r0.2.2.2.2.2.2.1).set 7 r0.2.2.2.2.2.2.2.1).set 8 r0.2.2.2.2.2.2.2.2.1).set 9 r0.2.2.2.2.2.2.2.2.2.1).set 10 r0.2.2.2.2.2.2.2.2.2.2.1).set 11 r0.2.2.2.2.2.2.2.2.2.2.2).set 0 r3.1).set 1 r3.2.1).set 2 r3.2.2.1).set 3 r3.2.2.2))))))))))))))))) (
    Ret r lh [.one (.ptr 0 0 0)] [.box [.sl 1 none, .sl 2 none], .row (.pair (.pair (.int .i64) (.pair (.int .i64) (.pair (.int .i64) (.int .i64)))) (.pair (.int .i64) (.pair (.int .i64) (.pair (.int .i64) (.pair (.int .i64) (.pair (.int .i64) (.pair (.int .i64) (.pair (.int .i64) (.int .i64))))))))) h1 .own, .row (.int .i64) h2 .own])) := by kernel_rfl
theorem eq105_L1b (i4 : Int) (c8 : Int) (x12 : List (Int × (Int × (Int × Int)))) (x13 : Int) (x14 : Int) (x42 : Int) (h1 : List ((Int × (Int × (Int × Int))) × (Int × (Int × (Int × (Int × (Int × (Int × (Int × Int))))))))) (h2 : List Int) (h3 : List Int) (r : List W) (lh : Heap) : FL1 E H105 Try.f105 0 r lh 1 (S105_L1b i4 c8 x12 x13 x14 x42 h1 h2 h3) =
  (
   Br (decide (x42 < (8 : Int))) (
    Ck (decide ((0 : Int) ≤ x42)) (
     Ck (decide (x42 < (8 : Int))) (
      Ck (Nat.ble ((4 + (x42.toNat * 1)) + 1) h3.length) (
       ∃ r0 : Int, SC P 115 [.one (.int .i64 (h3.getD (4 + (x42.toNat * 1)) 0)), .one (.int .i64 c8)] [] [.one (.int .i64 r0)] [] ∧
        Ck (decide ((0 : Int) ≤ x42)) (
         Ck (decide (x42 < (8 : Int))) (
          Ck (Nat.ble ((4 + (x42.toNat * 1)) + 1) h3.length) (
           FL E H105 Try.f105 0 r lh 1 (S105_L1b i4 c8 x12 x13 x14 (IntKind.wrap .i64 (x42 + 1)) h1 h2 (h3.set (4 + (x42.toNat * 1)) r0))))))))) (
    Ck (Nat.ble 12 h3.length) (
     Ck (Nat.ble ((h1.length + 1) * 96) roomy) (
      Ck (Nat.ble ((h2.length + 1) * 8) roomy) (
       FL E H105 Try.f105 0 r lh 0 (S105_L0b x12 x13 (IntKind.wrap .i64 (x14 + 1)) (h1 ++ ([(((h3.getD 0 0), ((h3.getD 1 0), ((h3.getD 2 0), (h3.getD 3 0)))), ((h3.getD 4 0), ((h3.getD 5 0), ((h3.getD 6 0), ((h3.getD 7 0), ((h3.getD 8 0), ((h3.getD 9 0), ((h3.getD 10 0), (h3.getD 11 0)))))))))] : List ((Int × (Int × (Int × Int))) × (Int × (Int × (Int × (Int × (Int × (Int × (Int × Int)))))))))) (h2 ++ [i4]))))))) := by kernel_rfl
theorem l105_1b (m : List V4) (i : Nat) (c x13 : Int) (hc : FOk c) (hi : i + 1 < 1000) (rows : List Kept) (pv : List Int) (hl : rows.length ≤ 1000) (hp : pv.length ≤ 1000) (k : Kept) (hk : KOk k) (H : Heap)
    (hF : FL E H105 Try.f105 0 [.one (.ptr 0 0 0)] H 0 (S105_L0b m x13 ((i + 1 : Nat) : Int) (rows ++ [scaleK k c]) (pv ++ [(i : Int)]))) :
    FL E H105 Try.f105 0 [.one (.ptr 0 0 0)] H 1 (S105_L1b (i : Int) c m x13 (i : Int) 0 rows pv (keptL (vtimes k.1 c, k.2))) := by
  have step : ∀ (j : Nat) (h : List Int), j < 8 → h.length = 12 → h.getD (4 + j) 0 = k.2.l.getD j 0 → FL E H105 Try.f105 0 [.one (.ptr 0 0 0)] H 1 (S105_L1b (i : Int) c m x13 (i : Int) ((j + 1 : Nat) : Int) rows pv (h.set (4 + j) (k.2.l.getD j 0 * c % 31))) →
      FL E H105 Try.f105 0 [.one (.ptr 0 0 0)] H 1 (S105_L1b (i : Int) c m x13 (i : Int) (j : Int) rows pv h) := by
    intro j h hj hl he hF
    refine FL_of1 ?_
    rw [eq105_L1b, wS (by omega)]
    simp only [Int.toNat_natCast, Nat.mul_one]
    rw [he]
    exact Br_t (by omega) (Ck_d (by omega) (Ck_d (by omega) (Ck_le (by omega) ⟨_, c115 _ _ (hk.2 j) hc, Ck_d (by omega) (Ck_d (by omega) (Ck_le (by omega) hF))⟩)))
  refine step 0 _ (by omega) rfl rfl (step 1 _ (by omega) rfl rfl (step 2 _ (by omega) rfl rfl (step 3 _ (by omega) rfl rfl (step 4 _ (by omega) rfl rfl (step 5 _ (by omega) rfl rfl (step 6 _ (by omega) rfl rfl (step 7 _ (by omega) rfl rfl ?_)))))))
  refine FL_of1 ?_
  rw [eq105_L1b, wS (i := i) (by omega)]
  exact Br_f (by simp) (Ck_b (by kernel_rfl) (Ck_room (by omega) (Ck_room (by omega) hF)))
theorem l105_1 (m : List V4) (i : Nat) (c x13 : Int) (hc : FOk c) (hi : i + 1 < 1000) (k : Kept) (hk : KOk k) (H : Heap)
    (hF : FL E H105 Try.f105 0 [.one (.ptr 0 0 0)] H 0 (S105_L0b m x13 ((i + 1 : Nat) : Int) (([] : List Kept) ++ [scaleK k c]) (([] : List Int) ++ [(i : Int)]))) :
    FL E H105 Try.f105 0 [.one (.ptr 0 0 0)] H 1 (S105_L1 (i : Int) c m x13 (i : Int) 0 (keptL (vtimes k.1 c, k.2))) := by
  have step : ∀ (j : Nat) (h : List Int), j < 8 → h.length = 12 → h.getD (4 + j) 0 = k.2.l.getD j 0 → FL E H105 Try.f105 0 [.one (.ptr 0 0 0)] H 1 (S105_L1 (i : Int) c m x13 (i : Int) ((j + 1 : Nat) : Int) (h.set (4 + j) (k.2.l.getD j 0 * c % 31))) →
      FL E H105 Try.f105 0 [.one (.ptr 0 0 0)] H 1 (S105_L1 (i : Int) c m x13 (i : Int) (j : Int) h) := by
    intro j h hj hl he hF
    refine FL_of1 ?_
    rw [eq105_L1, wS (by omega)]
    simp only [Int.toNat_natCast, Nat.mul_one]
    rw [he]
    exact Br_t (by omega) (Ck_d (by omega) (Ck_d (by omega) (Ck_le (by omega) ⟨_, c115 _ _ (hk.2 j) hc, Ck_d (by omega) (Ck_d (by omega) (Ck_le (by omega) hF))⟩)))
  refine step 0 _ (by omega) rfl rfl (step 1 _ (by omega) rfl rfl (step 2 _ (by omega) rfl rfl (step 3 _ (by omega) rfl rfl (step 4 _ (by omega) rfl rfl (step 5 _ (by omega) rfl rfl (step 6 _ (by omega) rfl rfl (step 7 _ (by omega) rfl rfl ?_)))))))
  refine FL_of1 ?_
  rw [eq105_L1, wS (i := i) (by omega)]
  exact Br_f (by simp) (Ck_b (by kernel_rfl) (hF))

theorem l105b (m : List V4) (hm : ∀ v ∈ m, VOk v) (h8 : m.length ≤ 8) : ∀ (n i : Nat) (s : List Kept × List Int), i + n = m.length → s.1.length ≤ i → s.2.length ≤ i → RowsOk s.1 →
    FL E H105 Try.f105 0 [.one (.ptr 0 0 0)] (spanB (spanR m i n s)) 0 (S105_L0b m (m.length : Int) (i : Int) s.1 s.2)
  | 0, i, s, h, h1, h2, hr => by
    refine FL_of1 ?_
    rw [eq105_L0b]
    exact Br_f (by omega) ⟨rfl, rfl⟩
  | n + 1, i, s, h, h1, h2, hr => by
    have hsO := spanStep_ok (i := i) hr (row := m.getD i (0, 0, 0, 0)) (by rw [getD_eq (show i < m.length by omega)]; exact hm _ (List.getElem_mem _))
    have hi : i < m.length := by omega
    have hrow : VOk (m.getD i (0, 0, 0, 0)) := by rw [getD_eq hi]; exact hm _ (List.getElem_mem hi)
    have hK : KOk (lessF s.1 ((m.getD i (0, 0, 0, 0)), unit8 i)) := lessF_ok ⟨hrow, unit8_ok i⟩
    have hle := lead_le (lessF s.1 ((m.getD i (0, 0, 0, 0)), unit8 i)).1
    have hlr := c131s s.1 hr (by omega) s.2 ((m.getD i (0, 0, 0, 0)), unit8 i) ⟨hrow, unit8_ok i⟩
    have hsR : spanStep s i (m.getD i (0, 0, 0, 0)) = (bif decide (leadV (lessF s.1 ((m.getD i (0, 0, 0, 0)), unit8 i)).1 < 0) then s else (s.1 ++ [scaleK (lessF s.1 ((m.getD i (0, 0, 0, 0)), unit8 i)) (invE (atL (lessF s.1 ((m.getD i (0, 0, 0, 0)), unit8 i)).1))], s.2 ++ [(i : Int)])) := rfl
    refine FL_of1 ?_
    rw [eq105_L0b, wS (by omega)]
    simp only [Int.toNat_natCast, Nat.mul_one, Nat.zero_add]
    rw [start12 (m.getD i (0, 0, 0, 0)) i (by omega)]
    rw [spanR, show m.getD i zero4 = (m.getD i (0, 0, 0, 0)) from rfl, hsR]
    rw [hsR] at hsO
    have hsO : ¬ leadV (lessF s.1 ((m.getD i (0, 0, 0, 0)), unit8 i)).1 < 0 → RowsOk (s.1 ++ [scaleK (lessF s.1 ((m.getD i (0, 0, 0, 0)), unit8 i)) (invE (atL (lessF s.1 ((m.getD i (0, 0, 0, 0)), unit8 i)).1))]) := fun hn => by rw [decide_eq_false hn, cond_false] at hsO; exact hsO
    generalize lessF s.1 ((m.getD i (0, 0, 0, 0)), unit8 i) = k at hK hle hlr hsO ⊢
    refine Br_t (by omega) (Ck_d (by omega) (Ck_d (by omega) (Ck_d (by omega) (Ck_d (by omega) (Ck_le (by omega) (Ck_b (by kernel_rfl) ⟨(k.1.1, k.1.2.1, k.1.2.2.1, k.1.2.2.2, k.2.1, k.2.2.1, k.2.2.2.1, k.2.2.2.2.1, k.2.2.2.2.2.1, k.2.2.2.2.2.2.1, k.2.2.2.2.2.2.2.1, k.2.2.2.2.2.2.2.2), hlr, ?_⟩))))))
    rw [set12 _ rfl]
    refine Ck_b (by kernel_rfl) (Ck_b (by kernel_rfl) ⟨leadV k.1, c121 k.1, Br_d (fun h1 => ?_) (fun h1 => ?_)⟩)
    · rw [decide_eq_true h1, cond_true]
      exact l105b m hm h8 n (i + 1) s (by omega) (by omega) (by omega) hr
    · rw [decide_eq_false h1, cond_false]
      have ha := lead_ne (v := k.1) (by omega)
      have e1 : ([k.1.1, k.1.2.1, k.1.2.2.1, k.1.2.2.2, k.2.1, k.2.2.1, k.2.2.2.1, k.2.2.2.2.1, k.2.2.2.2.2.1, k.2.2.2.2.2.2.1, k.2.2.2.2.2.2.2.1, k.2.2.2.2.2.2.2.2] : List Int).getD (leadV k.1).toNat 0 = atL k.1 := kept_at k (by omega)
      refine Ck_d (by omega) (Ck_d (by omega) (Ck_le (by simp only [List.length_cons, List.length_nil]; omega) ⟨invE (atL k.1), ?_, Ck_b (by kernel_rfl) ⟨vtimes k.1 (invE (atL k.1)), c123 k.1 _ hK.1 (invE_ok _), Ck_b (by kernel_rfl) ?_⟩⟩))
      · show SC P 132 [.one (.int .i64 (([k.1.1, k.1.2.1, k.1.2.2.1, k.1.2.2.2, k.2.1, k.2.2.1, k.2.2.2.1, k.2.2.2.2.1, k.2.2.2.2.2.1, k.2.2.2.2.2.2.1, k.2.2.2.2.2.2.2.1, k.2.2.2.2.2.2.2.2] : List Int).getD (leadV k.1).toNat 0))] [] [.one (.int .i64 (invE (atL k.1)))] []
        rw [e1]
        exact c132 _ (vok_get hK.1 _) ha
      · exact l105_1b m i _ _ (invE_ok _) (by omega) s.1 s.2 (by omega) (by omega) k hK _ (l105b m hm h8 n (i + 1) (s.1 ++ [scaleK k (invE (atL k.1))], s.2 ++ [(i : Int)]) (by omega) (by simp; omega) (by simp; omega) (hsO h1))
theorem l105 (m : List V4) (hm : ∀ v ∈ m, VOk v) (h8 : m.length ≤ 8) : ∀ (n i : Nat), i + n = m.length →
    FL E H105 Try.f105 0 [.one (.ptr 0 0 0)] (spanH (spanR m i n ([], []))) 0 (S105_L0 m (m.length : Int) (i : Int))
  | 0, i, h => by
    refine FL_of1 ?_
    rw [eq105_L0]
    exact Br_f (by omega) ⟨rfl, rfl⟩
  | n + 1, i, h => by
    have hi : i < m.length := by omega
    have hrow : VOk (m.getD i (0, 0, 0, 0)) := by rw [getD_eq hi]; exact hm _ (List.getElem_mem hi)
    have hK : KOk (lessF [] ((m.getD i (0, 0, 0, 0)), unit8 i)) := lessF_ok ⟨hrow, unit8_ok i⟩
    have hle := lead_le (lessF [] ((m.getD i (0, 0, 0, 0)), unit8 i)).1
    have hlr := c131n ((m.getD i (0, 0, 0, 0)), unit8 i)
    have hsR : spanStep ([], []) i (m.getD i (0, 0, 0, 0)) = (bif decide (leadV (lessF [] ((m.getD i (0, 0, 0, 0)), unit8 i)).1 < 0) then ([], []) else ([] ++ [scaleK (lessF [] ((m.getD i (0, 0, 0, 0)), unit8 i)) (invE (atL (lessF [] ((m.getD i (0, 0, 0, 0)), unit8 i)).1))], [] ++ [(i : Int)])) := rfl
    refine FL_of1 ?_
    rw [eq105_L0, wS (by omega)]
    simp only [Int.toNat_natCast, Nat.mul_one, Nat.zero_add]
    rw [start12 (m.getD i (0, 0, 0, 0)) i (by omega)]
    rw [spanR, show m.getD i zero4 = (m.getD i (0, 0, 0, 0)) from rfl, hsR]
    generalize lessF [] ((m.getD i (0, 0, 0, 0)), unit8 i) = k at hK hle hlr ⊢
    refine Br_t (by omega) (Ck_d (by omega) (Ck_d (by omega) (Ck_d (by omega) (Ck_d (by omega) (Ck_le (by omega) (Ck_b (by kernel_rfl) ⟨(k.1.1, k.1.2.1, k.1.2.2.1, k.1.2.2.2, k.2.1, k.2.2.1, k.2.2.2.1, k.2.2.2.2.1, k.2.2.2.2.2.1, k.2.2.2.2.2.2.1, k.2.2.2.2.2.2.2.1, k.2.2.2.2.2.2.2.2), hlr, ?_⟩))))))
    rw [set12 _ rfl]
    refine Ck_b (by kernel_rfl) (Ck_b (by kernel_rfl) ⟨leadV k.1, c121 k.1, Br_d (fun h1 => ?_) (fun h1 => ?_)⟩)
    · rw [decide_eq_true h1, cond_true]
      exact l105 m hm h8 n (i + 1) (by omega)
    · rw [decide_eq_false h1, cond_false]
      have ha := lead_ne (v := k.1) (by omega)
      have e1 : ([k.1.1, k.1.2.1, k.1.2.2.1, k.1.2.2.2, k.2.1, k.2.2.1, k.2.2.2.1, k.2.2.2.2.1, k.2.2.2.2.2.1, k.2.2.2.2.2.2.1, k.2.2.2.2.2.2.2.1, k.2.2.2.2.2.2.2.2] : List Int).getD (leadV k.1).toNat 0 = atL k.1 := kept_at k (by omega)
      refine Ck_d (by omega) (Ck_d (by omega) (Ck_le (by simp only [List.length_cons, List.length_nil]; omega) ⟨invE (atL k.1), ?_, Ck_b (by kernel_rfl) ⟨vtimes k.1 (invE (atL k.1)), c123 k.1 _ hK.1 (invE_ok _), Ck_b (by kernel_rfl) ?_⟩⟩))
      · show SC P 132 [.one (.int .i64 (([k.1.1, k.1.2.1, k.1.2.2.1, k.1.2.2.2, k.2.1, k.2.2.1, k.2.2.2.1, k.2.2.2.2.1, k.2.2.2.2.2.1, k.2.2.2.2.2.2.1, k.2.2.2.2.2.2.2.1, k.2.2.2.2.2.2.2.2] : List Int).getD (leadV k.1).toNat 0))] [] [.one (.int .i64 (invE (atL k.1)))] []
        rw [e1]
        exact c132 _ (vok_get hK.1 _) ha
      · exact by
          rw [spanH_ne (spanR_ne (by simp))]
          refine l105_1 m i _ _ (invE_ok _) (by omega) k hK _ (l105b m hm h8 n (i + 1) ([] ++ [scaleK k (invE (atL k.1))], [] ++ [(i : Int)]) (by omega) (by simp) (by simp) ?_)
          intro r hr
          have hr : r = scaleK k (invE (atL k.1)) := by simpa using hr
          rw [hr]
          exact ⟨scaleK_ok _ _, lead_scale hK.1 (by omega)⟩
theorem c105 (m : List V4) (hm : ∀ v ∈ m, VOk v) (h8 : m.length ≤ 8) : SC P 105 [.one (.ro (.pair (.int .i64) (.pair (.int .i64) (.pair (.int .i64) (.int .i64)))) m)] [] [.one (.ptr 0 0 0)] [.box [.ro (.pair (.pair (.int .i64) (.pair (.int .i64) (.pair (.int .i64) (.int .i64)))) (.pair (.int .i64) (.pair (.int .i64) (.pair (.int .i64) (.pair (.int .i64) (.pair (.int .i64) (.pair (.int .i64) (.pair (.int .i64) (.int .i64))))))))) (spanF m).1, .ro (.int .i64) (spanF m).2]] := by
  have hb : SC P 105 [.one (.ro (.pair (.int .i64) (.pair (.int .i64) (.pair (.int .i64) (.int .i64)))) m)] [] [.one (.ptr 0 0 0)] (spanH (spanF m)) := by
    refine SC_of_FB (H := H105) E_ok Try.func105 (by kernel_rfl) ?_
    rw [eq105]
    exact l105 m hm h8 m.length 0 (by omega)
  have hlen := (spanF_len m).1
  by_cases e : (spanF m).1 = []
  · have e2 : (spanF m).2 = [] := by rw [e] at hlen; exact List.eq_nil_of_length_eq_zero hlen.symm
    have : spanH (spanF m) = [.box [.nil, .nil]] := by unfold spanH; rw [e]
    rw [this] at hb
    rw [e, e2]
    exact hb.toldNil
  · rw [spanH_ne e] at hb
    exact hb.told2
/-! loop.example/keelson/impl.rank -/
def H85 : Hint := ⟨[], [], [], [], [], [], []⟩
theorem eq85 (m : List (Int × (Int × (Int × Int)))) (r : List W) (lh : Heap) : FB E H85 Try.f85 [.one (.ro (.pair (.int .i64) (.pair (.int .i64) (.pair (.int .i64) (.int .i64)))) m)] [] r lh =
  (
   ∃ r0 : (List ((Int × (Int × (Int × Int))) × (Int × (Int × (Int × (Int × (Int × (Int × (Int × Int)))))))) × List Int), SC P 105 [.one (.ro (.pair (.int .i64) (.pair (.int .i64) (.pair (.int .i64) (.int .i64)))) m)] [] [.one (.ptr 0 0 0)] [.box [.ro (.pair (.pair (.int .i64) (.pair (.int .i64) (.pair (.int .i64) (.int .i64)))) (.pair (.int .i64) (.pair (.int .i64) (.pair (.int .i64) (.pair (.int .i64) (.pair (.int .i64) (.pair (.int .i64) (.pair (.int .i64) (.int .i64))))))))) r0.1, .ro (.int .i64) r0.2]] ∧
    Ret r lh [.one (.int .i64 ((r0.2.length : Nat) : Int))] []) := by kernel_rfl
theorem c85 (m : List V4) (hm : ∀ v ∈ m, VOk v) (h8 : m.length ≤ 8) : SC P 85 [.one (.ro (.pair (.int .i64) (.pair (.int .i64) (.pair (.int .i64) (.int .i64)))) m)] [] [.one (.int .i64 ((spanF m).2.length : Int))] [] := by
  refine SC_of_FB (H := H85) E_ok Try.func85 (by kernel_rfl) ?_
  rw [eq85]
  exact ⟨(_, _), c105 m hm h8, rfl, rfl⟩
/-! loop.example/keelson/impl.bears -/
def H43 : Hint := ⟨[], [], [], [], [], [], []⟩
theorem eq43 (kind : Int) (shards : List Int) (r : List W) (lh : Heap) : FB E H43 Try.f43 [.one (.int .i64 kind), .one (.ro (.int .i64) shards)] [] r lh =
  (
   ∃ r0 : List (Int × (Int × (Int × Int))), SC P 86 [.one (.int .i64 kind), .one (.ro (.int .i64) shards)] [] [.one (.sl 0 none)] [.row (.pair (.int .i64) (.pair (.int .i64) (.pair (.int .i64) (.int .i64)))) r0 .own] ∧
    ∃ r1 : Int, SC P 85 [.one (.ro (.pair (.int .i64) (.pair (.int .i64) (.pair (.int .i64) (.int .i64)))) r0)] [] [.one (.int .i64 r1)] [] ∧
     Ret r lh [.one (.bool (decide (r1 = (4 : Int))))] []) := by kernel_rfl
theorem c43 (kind : Int) (shards : List Int) (hs : ShOk shards) (h8 : shards.length ≤ 8) : SC P 43 [.one (.int .i64 kind), .one (.ro (.int .i64) shards)] [] [.one (.bool (bearsI kind shards))] [] := by
  refine SC_of_FB (H := H43) E_ok Try.func43 (by kernel_rfl) ?_
  rw [eq43]
  refine ⟨_, c86 kind shards hs (by omega), _, c85 _ (rows_ok kind shards) (by rw [rowsF, List.length_map]; exact h8), ?_, rfl⟩
  rw [bearsI]
  congr 3
  exact decide_eq_decide.2 (by omega)
end Go.Proofs.Ytjoiadaogppmkaa.Sh
