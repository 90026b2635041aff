/- Houses: how each function is known to act. -/
import Derived.Test.YtiagcjjobfoflaaShTypes
import Derived.Test.YtiagcjjobfoflaaShUse
import Derived.Test.YtiagcjjobfoflaaMaHouse
namespace Go.Proofs.Ytiagcjjobfoflaa.Sh
open Go
set_option linter.unusedVariables false
set_option linter.unusedSimpArgs false
/-! loop.example/keelson/spec.l6In -/
def H85 : Hint := ⟨[], [], [], [], [], []⟩
theorem eq85 (n : Int) (low : Int) (high : Int) (r : List W) (lh : Heap) : FB E H85 Try.f85 [.one (.int .i64 n), .one (.int .i64 low), .one (.int .i64 high)] [] r lh =
  (
   Br (decide (low ≤ n)) (
    Ret r lh [.one (.bool (decide (n ≤ high)))] []) (
    Ret r lh [.one (.bool false)] [])) := by kernel_rfl
theorem c85 (n low high : Int) : SC P 85 [.one (.int .i64 n), .one (.int .i64 low), .one (.int .i64 high)] [] [.one (.bool (inB n low high))] [] := by
  refine SC_of_FB (H := H85) E_ok Try.func85 (by kernel_rfl) ?_
  rw [eq85]
  exact Br_d (fun h => ⟨by simp [inB, h], rfl⟩) (fun h => ⟨by simp [inB, h], rfl⟩)
/-! loop.example/keelson/impl.within -/
def H86 : Hint := ⟨[], [], [], [], [], []⟩
theorem eq86 (n : Int) (low : Int) (high : Int) (r : List W) (lh : Heap) : FB E H86 Try.f86 [.one (.int .i64 n), .one (.int .i64 low), .one (.int .i64 high)] [] r lh =
  (
   Br (decide (low ≤ n)) (
    Ret r lh [.one (.bool (decide (n ≤ high)))] []) (
    Ret r lh [.one (.bool false)] [])) := by kernel_rfl
theorem c86 (n low high : Int) : SC P 86 [.one (.int .i64 n), .one (.int .i64 low), .one (.int .i64 high)] [] [.one (.bool (inB n low high))] [] := by
  refine SC_of_FB (H := H86) E_ok Try.func86 (by kernel_rfl) ?_
  rw [eq86]
  exact Br_d (fun h => ⟨by simp [inB, h], rfl⟩) (fun h => ⟨by simp [inB, h], rfl⟩)
/-! loop.example/keelson/laws.toPatch -/
def H28 : Hint := ⟨[], [], [], [], [], []⟩
theorem eq28 (a : (Int × Int)) (r : List W) (lh : Heap) : FB E H28 Try.f28 [.agg [.int .i64 a.1, .int .i64 a.2]] [] r lh =
  (
   Ret r lh [.agg [.int .i64 a.1, .int .i64 a.2]] []) := by kernel_rfl
theorem c28 (a : Int × Int) : SC P 28 [.agg [.int .i64 a.1, .int .i64 a.2]] [] [.agg [.int .i64 a.1, .int .i64 a.2]] [] := by
  refine SC_of_FB (H := H28) E_ok Try.func28 (by kernel_rfl) ?_
  rw [eq28]
  exact ⟨rfl, rfl⟩
def patchOk (p : Int × Int) : Bool := inB p.1 0 3 && inB p.2 1 30
/-! loop.example/keelson/spec.PatchOk -/
def H27 : Hint := ⟨[], [], [], [], [], []⟩
theorem eq27 (p : (Int × Int)) (r : List W) (lh : Heap) : FB E H27 Try.f27 [.agg [.int .i64 p.1, .int .i64 p.2]] [] r lh =
  (
   ∃ r0 : Bool, SC P 85 [.one (.int .i64 p.1), .one (.int .i64 0), .one (.int .i64 3)] [] [.one (.bool r0)] [] ∧
    Br r0 (
     ∃ r1 : Bool, SC P 85 [.one (.int .i64 p.2), .one (.int .i64 1), .one (.int .i64 30)] [] [.one (.bool r1)] [] ∧
      Ret r lh [.one (.bool r1)] []) (
     Ret r lh [.one (.bool false)] [])) := by kernel_rfl
theorem c27 (p : Int × Int) : SC P 27 [.agg [.int .i64 p.1, .int .i64 p.2]] [] [.one (.bool (patchOk p))] [] := by
  refine SC_of_FB (H := H27) E_ok Try.func27 (by kernel_rfl) ?_
  rw [eq27]
  exact ⟨_, c85 _ _ _, Br_b (fun h => ⟨_, c85 _ _ _, by simp [patchOk, h], rfl⟩) (fun h => ⟨by simp [patchOk, h], rfl⟩)⟩
/-! loop.example/keelson/impl.PatchOk -/
def H29 : Hint := ⟨[], [], [], [], [], []⟩
theorem eq29 (p : (Int × Int)) (r : List W) (lh : Heap) : FB E H29 Try.f29 [.agg [.int .i64 p.1, .int .i64 p.2]] [] r lh =
  (
   ∃ r0 : Bool, SC P 86 [.one (.int .i64 p.1), .one (.int .i64 0), .one (.int .i64 3)] [] [.one (.bool r0)] [] ∧
    Br r0 (
     ∃ r1 : Bool, SC P 86 [.one (.int .i64 p.2), .one (.int .i64 1), .one (.int .i64 30)] [] [.one (.bool r1)] [] ∧
      Ret r lh [.one (.bool r1)] []) (
     Ret r lh [.one (.bool false)] [])) := by kernel_rfl
theorem c29 (p : Int × Int) : SC P 29 [.agg [.int .i64 p.1, .int .i64 p.2]] [] [.one (.bool (patchOk p))] [] := by
  refine SC_of_FB (H := H29) E_ok Try.func29 (by kernel_rfl) ?_
  rw [eq29]
  exact ⟨_, c86 _ _ _, Br_b (fun h => ⟨_, c86 _ _ _, by simp [patchOk, h], rfl⟩) (fun h => ⟨by simp [patchOk, h], rfl⟩)⟩
/-! loop.example/keelson/laws.FnExactPatchOk -/
def H3 : Hint := ⟨[], [], [], [], [], []⟩
theorem eq3 (aP : (Int × Int)) (r : List W) (lh : Heap) : FB E H3 Try.f3 [.agg [.int .i64 aP.1, .int .i64 aP.2]] [] r lh =
  (
   ∃ r0 : Int × Int, SC P 28 [.agg [.int .i64 aP.1, .int .i64 aP.2]] [] [.agg [.int .i64 r0.1, .int .i64 r0.2]] [] ∧
    ∃ r1 : Bool, SC P 27 [.agg [.int .i64 r0.1, .int .i64 r0.2]] [] [.one (.bool r1)] [] ∧
     ∃ r2 : Int × Int, SC P 28 [.agg [.int .i64 aP.1, .int .i64 aP.2]] [] [.agg [.int .i64 r2.1, .int .i64 r2.2]] [] ∧
      ∃ r3 : Bool, SC P 29 [.agg [.int .i64 r2.1, .int .i64 r2.2]] [] [.one (.bool r3)] [] ∧
       Br (r3 != r1) (
        Ret r lh [.one (.bool false)] []) (
        Ret r lh [.one (.bool true)] [])) := by kernel_rfl
theorem c3 (p : Int × Int) : SC P 3 [.agg [.int .i64 p.1, .int .i64 p.2]] [] [.one (.bool true)] [] := by
  refine SC_of_FB (H := H3) E_ok Try.func3 (by kernel_rfl) ?_
  rw [eq3]
  refine ⟨_, c28 _, _, c27 _, _, c28 _, _, c29 _, Br_b (fun h => ?_) (fun h => ⟨rfl, rfl⟩)⟩
  simp at h
/-! loop.example/keelson/spec.l31House -/
def H87 : Hint := ⟨[], [], [], [], [], []⟩
theorem eq87 (h0 : (Int × (Int × Int))) (r : List W) (lh : Heap) : FB E H87 Try.f87 [.agg [.int .i64 h0.1, .int .i64 h0.2.1, .int .i64 h0.2.2]] [] r lh =
  (
   ∃ r0 : Bool, SC P 85 [.one (.int .i64 h0.1), .one (.int .i64 1), .one (.int .i64 12)] [] [.one (.bool r0)] [] ∧
    Br r0 (
     ∃ r1 : Bool, SC P 85 [.one (.int .i64 h0.2.1), .one (.int .i64 1), .one (.int .i64 4)] [] [.one (.bool r1)] [] ∧
      Br r1 (
       ∃ r2 : Bool, SC P 85 [.one (.int .i64 h0.2.2), .one (.int .i64 1), .one (.int .i64 9)] [] [.one (.bool r2)] [] ∧
        Ret r lh [.one (.bool r2)] []) (
       Ret r lh [.one (.bool false)] [])) (
     Ret r lh [.one (.bool false)] [])) := by kernel_rfl
theorem c87 (h : House) : SC P 87 [.agg [.int .i64 h.1, .int .i64 h.2.1, .int .i64 h.2.2]] [] [.one (.bool (houseOk h))] [] := by
  refine SC_of_FB (H := H87) E_ok Try.func87 (by kernel_rfl) ?_
  rw [eq87]
  exact ⟨_, c85 _ _ _, Br_b (fun e => ⟨_, c85 _ _ _, Br_b (fun e' => ⟨_, c85 _ _ _, by simp [houseOk, e, e'], rfl⟩) (fun e' => ⟨by simp [houseOk, e, e'], rfl⟩)⟩) (fun e => ⟨by simp [houseOk, e], rfl⟩)⟩
/-! (loop.example/keelson/impl.House).valid -/
def H90 : Hint := ⟨[], [], [], [], [], []⟩
theorem eq90 (h0 : (Int × (Int × Int))) (r : List W) (lh : Heap) : FB E H90 Try.f90 [.agg [.int .i64 h0.1, .int .i64 h0.2.1, .int .i64 h0.2.2]] [] r lh =
  (
   ∃ r0 : Bool, SC P 86 [.one (.int .i64 h0.1), .one (.int .i64 1), .one (.int .i64 12)] [] [.one (.bool r0)] [] ∧
    Br r0 (
     ∃ r1 : Bool, SC P 86 [.one (.int .i64 h0.2.1), .one (.int .i64 1), .one (.int .i64 4)] [] [.one (.bool r1)] [] ∧
      Br r1 (
       ∃ r2 : Bool, SC P 86 [.one (.int .i64 h0.2.2), .one (.int .i64 1), .one (.int .i64 9)] [] [.one (.bool r2)] [] ∧
        Ret r lh [.one (.bool r2)] []) (
       Ret r lh [.one (.bool false)] [])) (
     Ret r lh [.one (.bool false)] [])) := by kernel_rfl
theorem c90 (h : House) : SC P 90 [.agg [.int .i64 h.1, .int .i64 h.2.1, .int .i64 h.2.2]] [] [.one (.bool (houseOk h))] [] := by
  refine SC_of_FB (H := H90) E_ok Try.func90 (by kernel_rfl) ?_
  rw [eq90]
  exact ⟨_, c86 _ _ _, Br_b (fun e => ⟨_, c86 _ _ _, Br_b (fun e' => ⟨_, c86 _ _ _, by simp [houseOk, e, e'], rfl⟩) (fun e' => ⟨by simp [houseOk, e, e'], rfl⟩)⟩) (fun e => ⟨by simp [houseOk, e], rfl⟩)⟩
/-! loop.example/keelson/impl.nameOk -/
def H89 : Hint := ⟨[], [], [], [], [], []⟩
theorem eq89 (name : Int) (r : List W) (lh : Heap) : FB E H89 Try.f89 [.one (.int .i64 name)] [] r lh =
  (
   ∃ r0 : Bool, SC P 86 [.one (.int .i64 name), .one (.int .i64 0), .one (.int .i64 99)] [] [.one (.bool r0)] [] ∧
    Ret r lh [.one (.bool r0)] []) := by kernel_rfl
theorem c89 (n : Int) : SC P 89 [.one (.int .i64 n)] [] [.one (.bool (inB n 0 99))] [] := by
  refine SC_of_FB (H := H89) E_ok Try.func89 (by kernel_rfl) ?_
  rw [eq89]
  exact ⟨_, c86 _ _ _, rfl, rfl⟩
def scoreF (name : Int) (h : House) : Int := (37 * name + 61 * h.1 + 13 * (name * h.1) + 7) % 101 * h.2.2
theorem score_bounds {name : Int} {h : House} (hn : inB name 0 99 = true) (hh : houseOk h = true) : 0 ≤ name * h.1 ∧ name * h.1 ≤ 1188 := by
  rw [inB_iff] at hn
  rw [houseOk_iff] at hh
  have h1 := Int.mul_nonneg hn.1 (show (0 : Int) ≤ h.1 by omega)
  have h2 := Int.mul_le_mul hn.2 hh.1.2 (show (0 : Int) ≤ h.1 by omega) (by omega)
  omega
theorem score_small {t w : Int} (h1 : 0 ≤ t) (h2 : t < 101) (h3 : 1 ≤ w) (h4 : w ≤ 9) : 0 ≤ t * w ∧ t * w ≤ 900 := by
  have g1 := Int.mul_nonneg h1 (show (0 : Int) ≤ w by omega)
  have g2 := Int.mul_le_mul (show t ≤ 100 by omega) h4 (show (0 : Int) ≤ w by omega) (by omega)
  omega
theorem scoreF_nonneg {name : Int} {h : House} (hh : houseOk h = true) : 0 ≤ scoreF name h ∧ scoreF name h ≤ 900 := by
  rw [houseOk_iff] at hh
  exact score_small (Int.emod_nonneg _ (by omega)) (Int.emod_lt_of_pos _ (by omega)) hh.2.2.1 hh.2.2.2
def houseScore (name : Int) (h : House) : Int := bif inB name 0 99 && houseOk h then scoreF name h else -1
/-! loop.example/keelson/spec.l31Score -/
def H88 : Hint := ⟨[], [], [], [], [], []⟩
theorem eq88 (name : Int) (h0 : (Int × (Int × Int))) (r : List W) (lh : Heap) : FB E H88 Try.f88 [.one (.int .i64 name), .agg [.int .i64 h0.1, .int .i64 h0.2.1, .int .i64 h0.2.2]] [] r lh =
  (
   Ret r lh [.one (.int .i64 (IntKind.wrap .i64 ((Int.tmod (IntKind.wrap .i64 ((IntKind.wrap .i64 ((IntKind.wrap .i64 ((IntKind.wrap .i64 (name * 37)) + (IntKind.wrap .i64 (h0.1 * 61)))) + (IntKind.wrap .i64 ((IntKind.wrap .i64 (name * h0.1)) * 13)))) + 7)) 101) * h0.2.2)))] []) := by kernel_rfl
theorem c88 (name : Int) (h : House) (hn : inB name 0 99 = true) (hh : houseOk h = true) : SC P 88 [.one (.int .i64 name), .agg [.int .i64 h.1, .int .i64 h.2.1, .int .i64 h.2.2]] [] [.one (.int .i64 (scoreF name h))] [] := by
  refine SC_of_FB (H := H88) E_ok Try.func88 (by kernel_rfl) ?_
  rw [eq88]
  refine ⟨?_, rfl⟩
  have hb := score_bounds hn hh
  have hsc := scoreF_nonneg (name := name) hh
  unfold scoreF at hsc ⊢
  rw [inB_iff] at hn
  rw [houseOk_iff] at hh
  generalize name * h.1 = m at hb hsc ⊢
  rw [wrap64 (n := m) (by omega) (by omega), wrap64 (n := name * 37) (by omega) (by omega), wrap64 (n := h.1 * 61) (by omega) (by omega), wrap64 (n := m * 13) (by omega) (by omega), wrap64 (n := name * 37 + h.1 * 61) (by omega) (by omega),
    wrap64 (n := name * 37 + h.1 * 61 + m * 13) (by omega) (by omega), wrap64 (n := name * 37 + h.1 * 61 + m * 13 + 7) (by omega) (by omega), Int.tmod_eq_emod_of_nonneg (by omega)]
  have e : name * 37 + h.1 * 61 + m * 13 + 7 = 37 * name + 61 * h.1 + 13 * m + 7 := by omega
  rw [e, wrap64 (by omega) (by omega)]
/-! (loop.example/keelson/impl.House).score -/
def H91 : Hint := ⟨[], [], [], [], [], []⟩
theorem eq91 (h0 : (Int × (Int × Int))) (name : Int) (r : List W) (lh : Heap) : FB E H91 Try.f91 [.agg [.int .i64 h0.1, .int .i64 h0.2.1, .int .i64 h0.2.2], .one (.int .i64 name)] [] r lh =
  (
   Ret r lh [.one (.int .i64 (IntKind.wrap .i64 ((Int.tmod (IntKind.wrap .i64 ((IntKind.wrap .i64 ((IntKind.wrap .i64 ((IntKind.wrap .i64 (37 * name)) + (IntKind.wrap .i64 (61 * h0.1)))) + (IntKind.wrap .i64 ((IntKind.wrap .i64 (13 * name)) * h0.1)))) + 7)) 101) * h0.2.2)))] []) := by kernel_rfl
theorem c91 (name : Int) (h : House) (hn : inB name 0 99 = true) (hh : houseOk h = true) : SC P 91 [.agg [.int .i64 h.1, .int .i64 h.2.1, .int .i64 h.2.2], .one (.int .i64 name)] [] [.one (.int .i64 (scoreF name h))] [] := by
  refine SC_of_FB (H := H91) E_ok Try.func91 (by kernel_rfl) ?_
  rw [eq91]
  refine ⟨?_, rfl⟩
  have hb := score_bounds hn hh
  have hsc := scoreF_nonneg (name := name) hh
  unfold scoreF at hsc ⊢
  rw [inB_iff] at hn
  rw [houseOk_iff] at hh
  rw [wrap64 (n := 13 * name) (by omega) (by omega), Int.mul_assoc]
  generalize name * h.1 = m at hb hsc ⊢
  rw [wrap64 (n := 37 * name) (by omega) (by omega), wrap64 (n := 61 * h.1) (by omega) (by omega), wrap64 (n := 13 * m) (by omega) (by omega), wrap64 (n := 37 * name + 61 * h.1) (by omega) (by omega),
    wrap64 (n := 37 * name + 61 * h.1 + 13 * m) (by omega) (by omega), wrap64 (n := 37 * name + 61 * h.1 + 13 * m + 7) (by omega) (by omega), Int.tmod_eq_emod_of_nonneg (by omega)]
  rw [wrap64 (by omega) (by omega)]
/-! loop.example/keelson/spec.HouseScore -/
def H30 : Hint := ⟨[], [], [], [], [], []⟩
theorem eq30 (name : Int) (h0 : (Int × (Int × Int))) (r : List W) (lh : Heap) : FB E H30 Try.f30 [.one (.int .i64 name), .agg [.int .i64 h0.1, .int .i64 h0.2.1, .int .i64 h0.2.2]] [] r lh =
  (
   ∃ r0 : Bool, SC P 85 [.one (.int .i64 name), .one (.int .i64 0), .one (.int .i64 99)] [] [.one (.bool r0)] [] ∧
    Br (!r0) (
     Ret r lh [.one (.int .i64 (-1))] []) (
     ∃ r1 : Bool, SC P 87 [.agg [.int .i64 h0.1, .int .i64 h0.2.1, .int .i64 h0.2.2]] [] [.one (.bool r1)] [] ∧
      Br (!r1) (
       Ret r lh [.one (.int .i64 (-1))] []) (
       ∃ r2 : Int, SC P 88 [.one (.int .i64 name), .agg [.int .i64 h0.1, .int .i64 h0.2.1, .int .i64 h0.2.2]] [] [.one (.int .i64 r2)] [] ∧
        Ret r lh [.one (.int .i64 r2)] []))) := by kernel_rfl
theorem c30 (name : Int) (h : House) : SC P 30 [.one (.int .i64 name), .agg [.int .i64 h.1, .int .i64 h.2.1, .int .i64 h.2.2]] [] [.one (.int .i64 (houseScore name h))] [] := by
  refine SC_of_FB (H := H30) E_ok Try.func30 (by kernel_rfl) ?_
  rw [eq30]
  exact ⟨_, c85 _ _ _, Br_nb (fun e => ⟨by simp [houseScore, e], rfl⟩) (fun e => ⟨_, c87 _, Br_nb (fun e' => ⟨by simp [houseScore, e'], rfl⟩) (fun e' => ⟨_, c88 _ _ e e', by simp [houseScore, e, e'], rfl⟩)⟩)⟩
/-! loop.example/keelson/impl.HouseScore -/
def H32 : Hint := ⟨[], [], [], [], [], []⟩
theorem eq32 (name : Int) (h0 : (Int × (Int × Int))) (r : List W) (lh : Heap) : FB E H32 Try.f32 [.one (.int .i64 name), .agg [.int .i64 h0.1, .int .i64 h0.2.1, .int .i64 h0.2.2]] [] r lh =
  (
   ∃ r0 : Bool, SC P 89 [.one (.int .i64 name)] [] [.one (.bool r0)] [] ∧
    Br (!r0) (
     Ret r lh [.one (.int .i64 (-1))] []) (
     ∃ r1 : Bool, SC P 90 [.agg [.int .i64 h0.1, .int .i64 h0.2.1, .int .i64 h0.2.2]] [] [.one (.bool r1)] [] ∧
      Br (!r1) (
       Ret r lh [.one (.int .i64 (-1))] []) (
       ∃ r2 : Int, SC P 91 [.agg [.int .i64 h0.1, .int .i64 h0.2.1, .int .i64 h0.2.2], .one (.int .i64 name)] [] [.one (.int .i64 r2)] [] ∧
        Ret r lh [.one (.int .i64 r2)] []))) := by kernel_rfl
theorem c32 (name : Int) (h : House) : SC P 32 [.one (.int .i64 name), .agg [.int .i64 h.1, .int .i64 h.2.1, .int .i64 h.2.2]] [] [.one (.int .i64 (houseScore name h))] [] := by
  refine SC_of_FB (H := H32) E_ok Try.func32 (by kernel_rfl) ?_
  rw [eq32]
  exact ⟨_, c89 _, Br_nb (fun e => ⟨by simp [houseScore, e], rfl⟩) (fun e => ⟨_, c90 _, Br_nb (fun e' => ⟨by simp [houseScore, e'], rfl⟩) (fun e' => ⟨_, c91 _ _ e e', by simp [houseScore, e, e'], rfl⟩)⟩)⟩
/-! loop.example/keelson/laws.toHouse -/
def H31 : Hint := ⟨[], [], [], [], [], []⟩
theorem eq31 (a : (Int × (Int × Int))) (r : List W) (lh : Heap) : FB E H31 Try.f31 [.agg [.int .i64 a.1, .int .i64 a.2.1, .int .i64 a.2.2]] [] r lh =
  (
   Ret r lh [.agg [.int .i64 a.1, .int .i64 a.2.1, .int .i64 a.2.2]] []) := by kernel_rfl
theorem c31 (h : House) : SC P 31 [.agg [.int .i64 h.1, .int .i64 h.2.1, .int .i64 h.2.2]] [] [.agg [.int .i64 h.1, .int .i64 h.2.1, .int .i64 h.2.2]] [] := by
  refine SC_of_FB (H := H31) E_ok Try.func31 (by kernel_rfl) ?_
  rw [eq31]
  exact ⟨rfl, rfl⟩
/-! loop.example/keelson/laws.FnExactHouseScore -/
def H4 : Hint := ⟨[], [], [], [], [], []⟩
theorem eq4 (aName : Int) (aH : (Int × (Int × Int))) (r : List W) (lh : Heap) : FB E H4 Try.f4 [.one (.int .i64 aName), .agg [.int .i64 aH.1, .int .i64 aH.2.1, .int .i64 aH.2.2]] [] r lh =
  (
   ∃ r0 : Int × Int × Int, SC P 31 [.agg [.int .i64 aH.1, .int .i64 aH.2.1, .int .i64 aH.2.2]] [] [.agg [.int .i64 r0.1, .int .i64 r0.2.1, .int .i64 r0.2.2]] [] ∧
    ∃ r1 : Int, SC P 30 [.one (.int .i64 aName), .agg [.int .i64 r0.1, .int .i64 r0.2.1, .int .i64 r0.2.2]] [] [.one (.int .i64 r1)] [] ∧
     ∃ r2 : Int × Int × Int, SC P 31 [.agg [.int .i64 aH.1, .int .i64 aH.2.1, .int .i64 aH.2.2]] [] [.agg [.int .i64 r2.1, .int .i64 r2.2.1, .int .i64 r2.2.2]] [] ∧
      ∃ r3 : Int, SC P 32 [.one (.int .i64 aName), .agg [.int .i64 r2.1, .int .i64 r2.2.1, .int .i64 r2.2.2]] [] [.one (.int .i64 r3)] [] ∧
       Br (!(decide (r3 = r1))) (
        Ret r lh [.one (.bool false)] []) (
        Ret r lh [.one (.bool true)] [])) := by kernel_rfl
theorem c4 (name : Int) (h : House) : SC P 4 [.one (.int .i64 name), .agg [.int .i64 h.1, .int .i64 h.2.1, .int .i64 h.2.2]] [] [.one (.bool true)] [] := by
  refine SC_of_FB (H := H4) E_ok Try.func4 (by kernel_rfl) ?_
  rw [eq4]
  exact ⟨_, c31 _, _, c30 _ _, _, c31 _, _, c32 _ _, Br_nd (fun h => absurd rfl h) (fun _ => ⟨rfl, rfl⟩)⟩
/-! loop.example/keelson/spec.HousesOk -/
def H36 : Hint := ⟨[[(0, 0, .bool), (3, 0, .bool)]], [], [(4, [0, 1, 2, 3, 4, 5, 6, 7, 8, 9, 10, 11, 12, 13, 14, 15, 16, 17, 18, 19, 20, 21, 22, 23])], [], [], []⟩
def S36_L0 (l0 : List (Int × (Int × Int))) (i3 : Int) : St := ⟨[(0, .w (.one (.ro (.pair (.int .i64) (.pair (.int .i64) (.int .i64))) l0))), (3, .w (.one (.int .i64 i3)))], []⟩
theorem eq36 (l : List (Int × (Int × Int))) (r : List W) (lh : Heap) : FB E H36 Try.f36 [.one (.ro (.pair (.int .i64) (.pair (.int .i64) (.int .i64))) l)] [] r lh =
  (
   FL E H36 Try.f36 0 r lh 0 (S36_L0 l 0)) := by kernel_rfl
theorem eq36_L0 (l0 : List (Int × (Int × Int))) (i3 : Int) (r : List W) (lh : Heap) : FL1 E H36 Try.f36 0 r lh 0 (S36_L0 l0 i3) =
  (
   Br (decide (i3 < ((l0.length : Nat) : Int))) (
    Ck (decide ((0 : Int) ≤ i3)) (
     Ck (decide (i3 < ((l0.length : Nat) : Int))) (
      ∃ r0 : Bool, SC P 87 [.agg [.int .i64 ((l0.getD i3.toNat (0, (0, 0))).1), .int .i64 (((l0.getD i3.toNat (0, (0, 0))).2).1), .int .i64 (((l0.getD i3.toNat (0, (0, 0))).2).2)]] [] [.one (.bool r0)] [] ∧
       Br (!r0) (
        Ret r lh [.one (.bool false)] []) (
        Br (decide ((0 : Int) < i3)) (
         Ck (decide ((0 : Int) ≤ (IntKind.wrap .i64 (i3 - 1)))) (
          Ck (decide ((IntKind.wrap .i64 (i3 - 1)) < ((l0.length : Nat) : Int))) (
           Ck (decide ((0 : Int) ≤ i3)) (
            Ck (decide (i3 < ((l0.length : Nat) : Int))) (
             Br (decide ((l0.getD i3.toNat (0, (0, 0))).1 ≤ (l0.getD (IntKind.wrap .i64 (i3 - 1)).toNat (0, (0, 0))).1)) (
              Ret r lh [.one (.bool false)] []) (
              FL E H36 Try.f36 0 r lh 0 (S36_L0 l0 (IntKind.wrap .i64 (i3 + 1))))))))) (
         FL E H36 Try.f36 0 r lh 0 (S36_L0 l0 (IntKind.wrap .i64 (i3 + 1)))))))) (
    Ret r lh [.one (.bool true)] [])) := by kernel_rfl
theorem l36 (l : List House) (hl : l.length ≤ 1048576) : ∀ (n i : Nat), i + n = l.length → FL E H36 Try.f36 0 [.one (.bool (allR (houseAtOk l) i n))] [] 0 (S36_L0 l (i : Int))
  | 0, i, h => by
    refine FL_of1 ?_
    rw [eq36_L0]
    exact Br_f (by omega) ⟨rfl, rfl⟩
  | n + 1, i, h => by
    refine FL_of1 ?_
    rw [eq36_L0, wS (by omega)]
    simp only [Int.toNat_natCast]
    refine Br_t (by omega) (Ck_d (by omega) (Ck_d (by omega) ⟨_, c87 (hAt l i), Br_nb (fun h1 => ?_) (fun h1 => ?_)⟩))
    · exact ⟨by rw [allR_f (by rw [houseAtOk, h1, Bool.false_and])], rfl⟩
    · cases i with
      | zero =>
        refine Br_f (by omega) ?_
        rw [allR_t (by rw [houseAt_zero, h1])]
        exact l36 l hl n 1 (by omega)
      | succ i =>
        rw [wP (by omega)]
        simp only [Int.toNat_natCast]
        refine Br_t (by omega) (Ck_d (by omega) (Ck_d (by omega) (Ck_d (by omega) (Ck_d (by omega) (Br_d (fun h2 => ?_) (fun h2 => ?_))))))
        · exact ⟨by rw [allR_f (by rw [houseAt_succ, h1, Bool.true_and]; exact decide_eq_false (Int.not_lt.2 h2))], rfl⟩
        · rw [allR_t (by rw [houseAt_succ, h1, Bool.true_and]; exact decide_eq_true (Int.not_le.1 h2))]
          exact l36 l hl n (i + 2) (by omega)
theorem c36 (l : List House) (hl : l.length ≤ 1048576) : SC P 36 [.one (.ro (.pair (.int .i64) (.pair (.int .i64) (.int .i64))) l)] [] [.one (.bool (housesOk l))] [] := by
  refine SC_of_FB (H := H36) E_ok Try.func36 (by kernel_rfl) ?_
  rw [eq36]
  exact l36 l hl l.length 0 (by omega)
/-! loop.example/keelson/impl.HousesOk -/
def H35 : Hint := ⟨[[(0, 0, .bool), (5, 0, .bool), (6, 0, .bool), (7, 0, .bool)]], [], [(4, [0, 1, 2, 3, 4, 5, 6, 7, 8, 9, 10, 11, 12, 13, 14, 15, 16, 17])], [], [], []⟩
def S35_L0 (l0 : List (Int × (Int × Int))) (x5 : List (Int × (Int × Int))) (x6 : Int) (x7 : Int) : St := ⟨[(0, .w (.one (.ro (.pair (.int .i64) (.pair (.int .i64) (.int .i64))) l0))), (5, .w (.one (.ro (.pair (.int .i64) (.pair (.int .i64) (.int .i64))) x5))), (6, .w (.one (.int .i64 x6))), (7, .w (.one (.int .i64 x7)))], []⟩
theorem eq35 (l : List (Int × (Int × Int))) (r : List W) (lh : Heap) : FB E H35 Try.f35 [.one (.ro (.pair (.int .i64) (.pair (.int .i64) (.int .i64))) l)] [] r lh =
  (
   FL E H35 Try.f35 0 r lh 0 (S35_L0 l l ((l.length : Nat) : Int) 0)) := by kernel_rfl
theorem eq35_L0 (l0 : List (Int × (Int × Int))) (x5 : List (Int × (Int × Int))) (x6 : Int) (x7 : Int) (r : List W) (lh : Heap) : FL1 E H35 Try.f35 0 r lh 0 (S35_L0 l0 x5 x6 x7) =
  (
   Br (decide (x7 < x6)) (
    Ck (decide ((0 : Int) ≤ x7)) (
     Ck (decide (x7 < ((x5.length : Nat) : Int))) (
      ∃ r0 : Bool, SC P 90 [.agg [.int .i64 ((x5.getD x7.toNat (0, (0, 0))).1), .int .i64 (((x5.getD x7.toNat (0, (0, 0))).2).1), .int .i64 (((x5.getD x7.toNat (0, (0, 0))).2).2)]] [] [.one (.bool r0)] [] ∧
       Br (!r0) (
        Ret r lh [.one (.bool false)] []) (
        Br (decide ((0 : Int) < x7)) (
         Ck (decide ((0 : Int) ≤ (IntKind.wrap .i64 (x7 - 1)))) (
          Ck (decide ((IntKind.wrap .i64 (x7 - 1)) < ((l0.length : Nat) : Int))) (
           Br (decide ((x5.getD x7.toNat (0, (0, 0))).1 ≤ (l0.getD (IntKind.wrap .i64 (x7 - 1)).toNat (0, (0, 0))).1)) (
            Ret r lh [.one (.bool false)] []) (
            FL E H35 Try.f35 0 r lh 0 (S35_L0 l0 x5 x6 (IntKind.wrap .i64 (x7 + 1))))))) (
         FL E H35 Try.f35 0 r lh 0 (S35_L0 l0 x5 x6 (IntKind.wrap .i64 (x7 + 1)))))))) (
    Ret r lh [.one (.bool true)] [])) := by kernel_rfl
theorem l35 (l : List House) (hl : l.length ≤ 1048576) : ∀ (n i : Nat), i + n = l.length → FL E H35 Try.f35 0 [.one (.bool (allR (houseAtOk l) i n))] [] 0 (S35_L0 l l (l.length : Int) (i : Int))
  | 0, i, h => by
    refine FL_of1 ?_
    rw [eq35_L0]
    exact Br_f (by omega) ⟨rfl, rfl⟩
  | n + 1, i, h => by
    refine FL_of1 ?_
    rw [eq35_L0, wS (by omega)]
    simp only [Int.toNat_natCast]
    refine Br_t (by omega) (Ck_d (by omega) (Ck_d (by omega) ⟨_, c90 (hAt l i), Br_nb (fun h1 => ?_) (fun h1 => ?_)⟩))
    · exact ⟨by rw [allR_f (by rw [houseAtOk, h1, Bool.false_and])], rfl⟩
    · cases i with
      | zero =>
        refine Br_f (by omega) ?_
        rw [allR_t (by rw [houseAt_zero, h1])]
        exact l35 l hl n 1 (by omega)
      | succ i =>
        rw [wP (by omega)]
        simp only [Int.toNat_natCast]
        refine Br_t (by omega) (Ck_d (by omega) (Ck_d (by omega) (Br_d (fun h2 => ?_) (fun h2 => ?_))))
        · exact ⟨by rw [allR_f (by rw [houseAt_succ, h1, Bool.true_and]; exact decide_eq_false (Int.not_lt.2 h2))], rfl⟩
        · rw [allR_t (by rw [houseAt_succ, h1, Bool.true_and]; exact decide_eq_true (Int.not_le.1 h2))]
          exact l35 l hl n (i + 2) (by omega)
theorem c35 (l : List House) (hl : l.length ≤ 1048576) : SC P 35 [.one (.ro (.pair (.int .i64) (.pair (.int .i64) (.int .i64))) l)] [] [.one (.bool (housesOk l))] [] := by
  refine SC_of_FB (H := H35) E_ok Try.func35 (by kernel_rfl) ?_
  rw [eq35]
  exact l35 l hl l.length 0 (by omega)
/-! loop.example/keelson/laws.szHouseS -/
def H37 : Hint := ⟨[], [], [], [], [], []⟩
theorem eq37 (a : List (Int × (Int × Int))) (left : Int) (r : List W) (lh : Heap) : FB E H37 Try.f37 [.one (.ro (.pair (.int .i64) (.pair (.int .i64) (.int .i64))) a), .one (.int .i64 left)] [] r lh =
  (
   Br (decide ((IntKind.wrap .i64 (left - ((a.length : Nat) : Int))) < (0 : Int))) (
    Ret r lh [.one (.int .i64 (-1))] []) (
    Ret r lh [.one (.int .i64 (IntKind.wrap .i64 (left - ((a.length : Nat) : Int))))] [])) := by kernel_rfl
theorem c37 (l : List House) (hl : l.length ≤ 9223372036854775807) : SC P 37 [.one (.ro (.pair (.int .i64) (.pair (.int .i64) (.int .i64))) l), .one (.int .i64 1048576)] [] [.one (.int .i64 (bif decide (l.length ≤ 1048576) then 1048576 - (l.length : Int) else -1))] [] := by
  refine SC_of_FB (H := H37) E_ok Try.func37 (by kernel_rfl) ?_
  rw [eq37]
  rw [wrap64 (by omega) (by omega)]
  refine Br_d (fun h => ⟨?_, rfl⟩) (fun h => ⟨?_, rfl⟩)
  · rw [decide_eq_false (by omega)]; rfl
  · rw [decide_eq_true (by omega)]; rfl
/-! loop.example/keelson/laws.toHouseS -/
def H38 : Hint := ⟨[[(0, 0, .bool), (3, 0, .bool), (4, 0, .bool)]], [], [], [], [], []⟩
def S38_L0 (a0 : List (Int × (Int × Int))) (i4 : Int) (h0 : List (Int × (Int × Int))) : St := ⟨[(0, .w (.one (.ro (.pair (.int .i64) (.pair (.int .i64) (.int .i64))) a0))), (3, .w (.one (.sl 0 none))), (4, .w (.one (.int .i64 i4)))], [.row (.pair (.int .i64) (.pair (.int .i64) (.int .i64))) h0 .own]⟩
theorem eq38 (a : List (Int × (Int × Int))) (r : List W) (lh : Heap) : FB E H38 Try.f38 [.one (.ro (.pair (.int .i64) (.pair (.int .i64) (.int .i64))) a)] [] r lh =
  (
   Ck (decide ((0 : Int) ≤ ((a.length : Nat) : Int))) (
    Ck (decide (((a.length : Nat) : Int) ≤ ((a.length : Nat) : Int))) (
     Ck (decide (((a.length : Nat) : Int) * (24 : Nat) ≤ (roomy : Int))) (
      FL E H38 Try.f38 0 r lh 0 (S38_L0 a 0 (List.replicate (((a.length : Nat) : Int).toNat) (0, (0, 0)))))))) := by kernel_rfl
theorem eq38_L0 (a0 : List (Int × (Int × Int))) (i4 : Int) (h0 : List (Int × (Int × Int))) (r : List W) (lh : Heap) : FL1 E H38 Try.f38 0 r lh 0 (S38_L0 a0 i4 h0) =
  (
   Br (decide (i4 < ((a0.length : Nat) : Int))) (
    Ck (decide ((0 : Int) ≤ i4)) (
     Ck (decide (i4 < ((a0.length : Nat) : Int))) (
      ∃ r0 : Int × Int × Int, SC P 31 [.agg [.int .i64 ((a0.getD i4.toNat (0, (0, 0))).1), .int .i64 (((a0.getD i4.toNat (0, (0, 0))).2).1), .int .i64 (((a0.getD i4.toNat (0, (0, 0))).2).2)]] [] [.agg [.int .i64 r0.1, .int .i64 r0.2.1, .int .i64 r0.2.2]] [] ∧
       Ck (decide ((0 : Int) ≤ i4)) (
        Ck (decide (i4 < ((h0.length : Nat) : Int))) (
         Ck (Nat.blt i4.toNat h0.length) (
          FL E H38 Try.f38 0 r lh 0 (S38_L0 a0 (IntKind.wrap .i64 (i4 + 1)) (h0.set i4.toNat (r0.1, (r0.2.1, r0.2.2)))))))))) (
    Ret r lh [.one (.sl 0 none)] [.row (.pair (.int .i64) (.pair (.int .i64) (.int .i64))) h0 .own])) := by kernel_rfl
theorem l38 (l : List House) (hl : l.length ≤ 1048576) : ∀ (n i : Nat) (out : List House), i + n = l.length → out.length = l.length → (∀ j, j < i → out[j]? = l[j]?) → FL E H38 Try.f38 0 [.one (.sl 0 none)] [.row (.pair (.int .i64) (.pair (.int .i64) (.int .i64))) l .own] 0 (S38_L0 l (i : Int) out)
  | 0, i, out, h, ho, H => by
    refine FL_of1 ?_
    rw [eq38_L0]
    obtain rfl : out = l := fill_done ho fun j hj => H j (by omega)
    exact Br_f (by omega) ⟨rfl, rfl⟩
  | n + 1, i, out, h, ho, H => by
    refine FL_of1 ?_
    rw [eq38_L0, wS (by omega)]
    simp only [Int.toNat_natCast]
    refine Br_t (by omega) (Ck_d (by omega) (Ck_d (by omega) ⟨_, c31 (hAt l i), Ck_d (by omega) (Ck_d (by omega) (Ck_lt (by omega) ?_))⟩))
    refine l38 l hl n (i + 1) _ (by omega) (by simp [ho]) (fill_step ho ?_ H)
    rw [hAt, getD_eq (show i < l.length by omega)]
    exact List.getElem?_eq_getElem _
theorem c38 (l : List House) (hl : l.length ≤ 1048576) : SC P 38 [.one (.ro (.pair (.int .i64) (.pair (.int .i64) (.int .i64))) l)] [] [.one (.sl 0 none)] [.row (.pair (.int .i64) (.pair (.int .i64) (.int .i64))) l .own] := by
  refine SC_of_FB (H := H38) E_ok Try.func38 (by kernel_rfl) ?_
  rw [eq38]
  refine Ck_d (by omega) (Ck_d (by omega) (Ck_roomI (by omega) ?_))
  exact l38 l hl l.length 0 _ (by omega) (by simp) (fun j hj => absurd hj (by omega))
/-! loop.example/keelson/laws.eqHouse -/
def H95 : Hint := ⟨[], [], [], [], [], []⟩
theorem eq95 (a : (Int × (Int × Int))) (b : (Int × (Int × Int))) (r : List W) (lh : Heap) : FB E H95 Try.f95 [.agg [.int .i64 a.1, .int .i64 a.2.1, .int .i64 a.2.2], .agg [.int .i64 b.1, .int .i64 b.2.1, .int .i64 b.2.2]] [] r lh =
  (
   Br (!(decide (a.1 = b.1))) (
    Ret r lh [.one (.bool false)] []) (
    Br (!(decide (a.2.1 = b.2.1))) (
     Ret r lh [.one (.bool false)] []) (
     Br (!(decide (a.2.2 = b.2.2))) (
      Ret r lh [.one (.bool false)] []) (
      Ret r lh [.one (.bool true)] [])))) := by kernel_rfl
theorem c95 (a b : House) : SC P 95 [.agg [.int .i64 a.1, .int .i64 a.2.1, .int .i64 a.2.2], .agg [.int .i64 b.1, .int .i64 b.2.1, .int .i64 b.2.2]] [] [.one (.bool (decide (a = b)))] [] := by
  refine SC_of_FB (H := H95) E_ok Try.func95 (by kernel_rfl) ?_
  rw [eq95]
  obtain ⟨a1, a2, a3⟩ := a
  obtain ⟨b1, b2, b3⟩ := b
  exact Br_nd (fun h => ⟨by simp [h], rfl⟩) (fun h => Br_nd (fun h' => ⟨by simp [h'], rfl⟩) (fun h' => Br_nd (fun h'' => ⟨by simp [h''], rfl⟩) (fun h'' => ⟨by simp_all, rfl⟩)))
/-! loop.example/keelson/laws.eqHouseS -/
def H39 : Hint := ⟨[[(0, 0, .bool), (1, 0, .bool), (5, 0, .bool)]], [], [(6, [0, 1, 2, 3, 4, 5, 6, 7, 8, 9])], [], [], []⟩
def S39_L0 (a0 : List (Int × (Int × Int))) (b1 : List (Int × (Int × Int))) (i5 : Int) : St := ⟨[(0, .w (.one (.ro (.pair (.int .i64) (.pair (.int .i64) (.int .i64))) a0))), (1, .w (.one (.ro (.pair (.int .i64) (.pair (.int .i64) (.int .i64))) b1))), (5, .w (.one (.int .i64 i5)))], []⟩
theorem eq39 (a : List (Int × (Int × Int))) (b : List (Int × (Int × Int))) (r : List W) (lh : Heap) : FB E H39 Try.f39 [.one (.ro (.pair (.int .i64) (.pair (.int .i64) (.int .i64))) a), .one (.ro (.pair (.int .i64) (.pair (.int .i64) (.int .i64))) b)] [] r lh =
  (
   Br (!(decide (((a.length : Nat) : Int) = ((b.length : Nat) : Int)))) (
    Ret r lh [.one (.bool false)] []) (
    FL E H39 Try.f39 0 r lh 0 (S39_L0 a b 0))) := by kernel_rfl
theorem eq39_L0 (a0 : List (Int × (Int × Int))) (b1 : List (Int × (Int × Int))) (i5 : Int) (r : List W) (lh : Heap) : FL1 E H39 Try.f39 0 r lh 0 (S39_L0 a0 b1 i5) =
  (
   Br (decide (i5 < ((a0.length : Nat) : Int))) (
    Ck (decide ((0 : Int) ≤ i5)) (
     Ck (decide (i5 < ((a0.length : Nat) : Int))) (
      Ck (decide ((0 : Int) ≤ i5)) (
       Ck (decide (i5 < ((b1.length : Nat) : Int))) (
        ∃ r0 : Bool, SC P 95 [.agg [.int .i64 ((a0.getD i5.toNat (0, (0, 0))).1), .int .i64 (((a0.getD i5.toNat (0, (0, 0))).2).1), .int .i64 (((a0.getD i5.toNat (0, (0, 0))).2).2)], .agg [.int .i64 ((b1.getD i5.toNat (0, (0, 0))).1), .int .i64 (((b1.getD i5.toNat (0, (0, 0))).2).1), .int .i64 (((b1.getD i5.toNat (0, (0, 0))).2).2)]] [] [.one (.bool r0)] [] ∧
         Br (!r0) (
          Ret r lh [.one (.bool false)] []) (
          FL E H39 Try.f39 0 r lh 0 (S39_L0 a0 b1 (IntKind.wrap .i64 (i5 + 1))))))))) (
    Ret r lh [.one (.bool true)] [])) := by kernel_rfl
theorem l39 (a b : List House) (hl : a.length ≤ 1048576) (hb : a.length = b.length) : ∀ (n i : Nat), i + n = a.length → FL E H39 Try.f39 0 [.one (.bool (allR (fun j => decide (a.getD j (0, 0, 0) = b.getD j (0, 0, 0))) i n))] [] 0 (S39_L0 a b (i : Int))
  | 0, i, h => by
    refine FL_of1 ?_
    rw [eq39_L0]
    exact Br_f (by omega) ⟨rfl, rfl⟩
  | n + 1, i, h => by
    refine FL_of1 ?_
    rw [eq39_L0, wS (by omega)]
    simp only [Int.toNat_natCast]
    refine Br_t (by omega) (Ck_d (by omega) (Ck_d (by omega) (Ck_d (by omega) (Ck_d (by omega) ⟨_, c95 (hAt a i) (hAt b i), Br_nb (fun h1 => ?_) (fun h1 => ?_)⟩))))
    · exact ⟨by rw [allR_f h1], rfl⟩
    · rw [allR_t h1]
      exact l39 a b hl hb n (i + 1) (by omega)
theorem c39 (a b : List House) (hl : a.length ≤ 1048576) : SC P 39 [.one (.ro (.pair (.int .i64) (.pair (.int .i64) (.int .i64))) a), .one (.ro (.pair (.int .i64) (.pair (.int .i64) (.int .i64))) b)] [] [.one (.bool (decide (a = b)))] [] := by
  refine SC_of_FB (H := H39) E_ok Try.func39 (by kernel_rfl) ?_
  rw [eq39]
  refine Br_nd (fun h => ⟨?_, rfl⟩) (fun h => ?_)
  · rw [decide_eq_false (by rintro rfl; exact h rfl)]
  · have h : a.length = b.length := by omega
    rw [← eqR h]
    exact l39 a b hl h a.length 0 (by omega)
/-! loop.example/keelson/spec.l31Rack -/
def H96 : Hint := ⟨[[(0, 0, .bool), (1, 0, .bool), (5, 0, .bool)]], [], [], [], [], []⟩
def S96_L0 (l0 : List (Int × (Int × Int))) (id1 : Int) (i5 : Int) : St := ⟨[(0, .w (.one (.ro (.pair (.int .i64) (.pair (.int .i64) (.int .i64))) l0))), (1, .w (.one (.int .i64 id1))), (5, .w (.one (.int .i64 i5)))], []⟩
theorem eq96 (l : List (Int × (Int × Int))) (id : Int) (r : List W) (lh : Heap) : FB E H96 Try.f96 [.one (.ro (.pair (.int .i64) (.pair (.int .i64) (.int .i64))) l), .one (.int .i64 id)] [] r lh =
  (
   FL E H96 Try.f96 0 r lh 0 (S96_L0 l id 0)) := by kernel_rfl
theorem eq96_L0 (l0 : List (Int × (Int × Int))) (id1 : Int) (i5 : Int) (r : List W) (lh : Heap) : FL1 E H96 Try.f96 0 r lh 0 (S96_L0 l0 id1 i5) =
  (
   Br (decide (i5 < ((l0.length : Nat) : Int))) (
    Ck (decide ((0 : Int) ≤ i5)) (
     Ck (decide (i5 < ((l0.length : Nat) : Int))) (
      Br (decide ((l0.getD i5.toNat (0, (0, 0))).1 = id1)) (
       Ck (decide ((0 : Int) ≤ i5)) (
        Ck (decide (i5 < ((l0.length : Nat) : Int))) (
         Ret r lh [.one (.int .i64 (((l0.getD i5.toNat (0, (0, 0))).2).1))] []))) (
       FL E H96 Try.f96 0 r lh 0 (S96_L0 l0 id1 (IntKind.wrap .i64 (i5 + 1))))))) (
    Ret r lh [.one (.int .i64 0)] [])) := by kernel_rfl
theorem l96 (l : List House) (id : Int) (hl : l.length ≤ 1048576) : ∀ (n i : Nat), i + n = l.length → FL E H96 Try.f96 0 [.one (.int .i64 (findR (fun j => decide ((l.getD j (0, 0, 0)).1 = id)) (fun j => (l.getD j (0, 0, 0)).2.1) 0 i n))] [] 0 (S96_L0 l id (i : Int))
  | 0, i, h => by
    refine FL_of1 ?_
    rw [eq96_L0]
    exact Br_f (by omega) ⟨rfl, rfl⟩
  | n + 1, i, h => by
    refine FL_of1 ?_
    rw [eq96_L0, wS (by omega), findR]
    simp only [Int.toNat_natCast]
    refine Br_t (by omega) (Ck_d (by omega) (Ck_d (by omega) (Br_d (fun h1 => ?_) (fun h1 => ?_))))
    · exact Ck_d (by omega) (Ck_d (by omega) ⟨by rw [decide_eq_true h1, cond_true], rfl⟩)
    · rw [decide_eq_false h1, cond_false]
      exact l96 l id hl n (i + 1) (by omega)
theorem c96 (l : List House) (id : Int) (hl : l.length ≤ 1048576) : SC P 96 [.one (.ro (.pair (.int .i64) (.pair (.int .i64) (.int .i64))) l), .one (.int .i64 id)] [] [.one (.int .i64 (houseRack l id))] [] := by
  refine SC_of_FB (H := H96) E_ok Try.func96 (by kernel_rfl) ?_
  rw [eq96]
  have := l96 l id hl l.length 0 (by omega)
  rw [houseRack_findR] at this
  exact this
def houseRackOk (l : List House) (id : Int) : Int := bif housesOk l then houseRack l id else 0
/-! loop.example/keelson/spec.HouseRack -/
def H42 : Hint := ⟨[], [], [], [], [], []⟩
theorem eq42 (l : List (Int × (Int × Int))) (id : Int) (r : List W) (lh : Heap) : FB E H42 Try.f42 [.one (.ro (.pair (.int .i64) (.pair (.int .i64) (.int .i64))) l), .one (.int .i64 id)] [] r lh =
  (
   ∃ r0 : Bool, SC P 36 [.one (.ro (.pair (.int .i64) (.pair (.int .i64) (.int .i64))) l)] [] [.one (.bool r0)] [] ∧
    Br (!r0) (
     Ret r lh [.one (.int .i64 0)] []) (
     ∃ r1 : Int, SC P 96 [.one (.ro (.pair (.int .i64) (.pair (.int .i64) (.int .i64))) l), .one (.int .i64 id)] [] [.one (.int .i64 r1)] [] ∧
      Ret r lh [.one (.int .i64 r1)] [])) := by kernel_rfl
theorem c42 (l : List House) (id : Int) (hl : l.length ≤ 1048576) : SC P 42 [.one (.ro (.pair (.int .i64) (.pair (.int .i64) (.int .i64))) l), .one (.int .i64 id)] [] [.one (.int .i64 (houseRackOk l id))] [] := by
  refine SC_of_FB (H := H42) E_ok Try.func42 (by kernel_rfl) ?_
  rw [eq42]
  exact ⟨_, c36 l hl, Br_nb (fun e => ⟨by rw [houseRackOk, e, cond_false], rfl⟩) (fun e => ⟨_, c96 l id hl, by rw [houseRackOk, e, cond_true], rfl⟩)⟩
/-! loop.example/keelson/impl.HouseRack -/
def H41 : Hint := ⟨[[(1, 0, .bool), (10, 0, .bool), (11, 0, .bool), (12, 0, .bool)]], [], [], [], [], []⟩
def S41_L0 (id1 : Int) (x10 : List (Int × (Int × Int))) (x11 : Int) (x12 : Int) : St := ⟨[(1, .w (.one (.int .i64 id1))), (10, .w (.one (.ro (.pair (.int .i64) (.pair (.int .i64) (.int .i64))) x10))), (11, .w (.one (.int .i64 x11))), (12, .w (.one (.int .i64 x12)))], []⟩
theorem eq41 (l : List (Int × (Int × Int))) (id : Int) (r : List W) (lh : Heap) : FB E H41 Try.f41 [.one (.ro (.pair (.int .i64) (.pair (.int .i64) (.int .i64))) l), .one (.int .i64 id)] [] r lh =
  (
   ∃ r0 : Bool, SC P 35 [.one (.ro (.pair (.int .i64) (.pair (.int .i64) (.int .i64))) l)] [] [.one (.bool r0)] [] ∧
    Br (!r0) (
     Ret r lh [.one (.int .i64 0)] []) (
     FL E H41 Try.f41 0 r lh 0 (S41_L0 id l ((l.length : Nat) : Int) 0))) := by kernel_rfl
theorem eq41_L0 (id1 : Int) (x10 : List (Int × (Int × Int))) (x11 : Int) (x12 : Int) (r : List W) (lh : Heap) : FL1 E H41 Try.f41 0 r lh 0 (S41_L0 id1 x10 x11 x12) =
  (
   Br (decide (x12 < x11)) (
    Ck (decide ((0 : Int) ≤ x12)) (
     Ck (decide (x12 < ((x10.length : Nat) : Int))) (
      Br (decide ((x10.getD x12.toNat (0, (0, 0))).1 = id1)) (
       Ret r lh [.one (.int .i64 (((x10.getD x12.toNat (0, (0, 0))).2).1))] []) (
       FL E H41 Try.f41 0 r lh 0 (S41_L0 id1 x10 x11 (IntKind.wrap .i64 (x12 + 1))))))) (
    Ret r lh [.one (.int .i64 0)] [])) := by kernel_rfl
theorem l41 (l : List House) (id : Int) (hl : l.length ≤ 1048576) : ∀ (n i : Nat), i + n = l.length → FL E H41 Try.f41 0 [.one (.int .i64 (findR (fun j => decide ((l.getD j (0, 0, 0)).1 = id)) (fun j => (l.getD j (0, 0, 0)).2.1) 0 i n))] [] 0 (S41_L0 id l (l.length : Int) (i : Int))
  | 0, i, h => by
    refine FL_of1 ?_
    rw [eq41_L0]
    exact Br_f (by omega) ⟨rfl, rfl⟩
  | n + 1, i, h => by
    refine FL_of1 ?_
    rw [eq41_L0, wS (by omega), findR]
    simp only [Int.toNat_natCast]
    refine Br_t (by omega) (Ck_d (by omega) (Ck_d (by omega) (Br_d (fun h1 => ?_) (fun h1 => ?_))))
    · exact ⟨by rw [decide_eq_true h1, cond_true], rfl⟩
    · rw [decide_eq_false h1, cond_false]
      exact l41 l id hl n (i + 1) (by omega)
theorem c41 (l : List House) (id : Int) (hl : l.length ≤ 1048576) : SC P 41 [.one (.ro (.pair (.int .i64) (.pair (.int .i64) (.int .i64))) l), .one (.int .i64 id)] [] [.one (.int .i64 (houseRackOk l id))] [] := by
  refine SC_of_FB (H := H41) E_ok Try.func41 (by kernel_rfl) ?_
  rw [eq41]
  refine ⟨_, c35 l hl, Br_nb (fun e => ⟨by rw [houseRackOk, e, cond_false], rfl⟩) (fun e => ?_)⟩
  rw [houseRackOk, e, cond_true]
  have := l41 l id hl l.length 0 (by omega)
  rw [houseRack_findR] at this
  exact this
/-! loop.example/keelson/laws.FnExactHousesOk -/
def H7 : Hint := ⟨[], [], [], [], [], []⟩
theorem eq7 (aL : List (Int × (Int × Int))) (r : List W) (lh : Heap) : FB E H7 Try.f7 [.one (.ro (.pair (.int .i64) (.pair (.int .i64) (.int .i64))) aL)] [] r lh =
  (
   ∃ r0 : Int, SC P 37 [.one (.ro (.pair (.int .i64) (.pair (.int .i64) (.int .i64))) aL), .one (.int .i64 1048576)] [] [.one (.int .i64 r0)] [] ∧
    Br (decide (r0 < (0 : Int))) (
     Ret r lh [.one (.bool true)] []) (
     ∃ r1 : List (Int × (Int × Int)), SC P 38 [.one (.ro (.pair (.int .i64) (.pair (.int .i64) (.int .i64))) aL)] [] [.one (.sl 0 none)] [.row (.pair (.int .i64) (.pair (.int .i64) (.int .i64))) r1 .own] ∧
      ∃ r2 : Bool, SC P 36 [.one (.ro (.pair (.int .i64) (.pair (.int .i64) (.int .i64))) r1)] [] [.one (.bool r2)] [] ∧
       ∃ r3 : List (Int × (Int × Int)), SC P 38 [.one (.ro (.pair (.int .i64) (.pair (.int .i64) (.int .i64))) aL)] [] [.one (.sl 0 none)] [.row (.pair (.int .i64) (.pair (.int .i64) (.int .i64))) r3 .own] ∧
        ∃ r4 : Bool, SC P 35 [.one (.ro (.pair (.int .i64) (.pair (.int .i64) (.int .i64))) r3)] [] [.one (.bool r4)] [] ∧
         Br (r4 != r2) (
          Ret r lh [.one (.bool false)] []) (
          ∃ r5 : List (Int × (Int × Int)), SC P 38 [.one (.ro (.pair (.int .i64) (.pair (.int .i64) (.int .i64))) aL)] [] [.one (.sl 0 none)] [.row (.pair (.int .i64) (.pair (.int .i64) (.int .i64))) r5 .own] ∧
           ∃ r6 : Bool, SC P 39 [.one (.ro (.pair (.int .i64) (.pair (.int .i64) (.int .i64))) r3), .one (.ro (.pair (.int .i64) (.pair (.int .i64) (.int .i64))) r5)] [] [.one (.bool r6)] [] ∧
            Br (!r6) (
             Ret r lh [.one (.bool false)] []) (
             Ret r lh [.one (.bool true)] [])))) := by kernel_rfl
theorem c7 (l : List House) (hl : l.length ≤ 9223372036854775807) : SC P 7 [.one (.ro (.pair (.int .i64) (.pair (.int .i64) (.int .i64))) l)] [] [.one (.bool true)] [] := by
  refine SC_of_FB (H := H7) E_ok Try.func7 (by kernel_rfl) ?_
  rw [eq7]
  refine ⟨_, c37 l hl, ?_⟩
  by_cases h : l.length ≤ 1048576
  · rw [decide_eq_true h, cond_true]
    exact Br_f (by omega) ⟨_, c38 l h, _, c36 l h, _, c38 l h, _, c35 l h, Br_b (fun e => by simp at e) (fun _ => ⟨_, c38 l h, _, c39 l l h, Br_nb (fun e => by simp at e) (fun _ => ⟨rfl, rfl⟩)⟩)⟩
  · rw [decide_eq_false h, cond_false]
    exact Br_t (by omega) ⟨rfl, rfl⟩
/-! loop.example/keelson/laws.FnExactHouseRack -/
def H10 : Hint := ⟨[], [], [], [], [], []⟩
theorem eq10 (aL : List (Int × (Int × Int))) (aId : Int) (r : List W) (lh : Heap) : FB E H10 Try.f10 [.one (.ro (.pair (.int .i64) (.pair (.int .i64) (.int .i64))) aL), .one (.int .i64 aId)] [] r lh =
  (
   ∃ r0 : Int, SC P 37 [.one (.ro (.pair (.int .i64) (.pair (.int .i64) (.int .i64))) aL), .one (.int .i64 1048576)] [] [.one (.int .i64 r0)] [] ∧
    Br (decide (r0 < (0 : Int))) (
     Ret r lh [.one (.bool true)] []) (
     ∃ r1 : List (Int × (Int × Int)), SC P 38 [.one (.ro (.pair (.int .i64) (.pair (.int .i64) (.int .i64))) aL)] [] [.one (.sl 0 none)] [.row (.pair (.int .i64) (.pair (.int .i64) (.int .i64))) r1 .own] ∧
      ∃ r2 : Int, SC P 42 [.one (.ro (.pair (.int .i64) (.pair (.int .i64) (.int .i64))) r1), .one (.int .i64 aId)] [] [.one (.int .i64 r2)] [] ∧
       ∃ r3 : List (Int × (Int × Int)), SC P 38 [.one (.ro (.pair (.int .i64) (.pair (.int .i64) (.int .i64))) aL)] [] [.one (.sl 0 none)] [.row (.pair (.int .i64) (.pair (.int .i64) (.int .i64))) r3 .own] ∧
        ∃ r4 : Int, SC P 41 [.one (.ro (.pair (.int .i64) (.pair (.int .i64) (.int .i64))) r3), .one (.int .i64 aId)] [] [.one (.int .i64 r4)] [] ∧
         Br (!(decide (r4 = r2))) (
          Ret r lh [.one (.bool false)] []) (
          ∃ r5 : List (Int × (Int × Int)), SC P 38 [.one (.ro (.pair (.int .i64) (.pair (.int .i64) (.int .i64))) aL)] [] [.one (.sl 0 none)] [.row (.pair (.int .i64) (.pair (.int .i64) (.int .i64))) r5 .own] ∧
           ∃ r6 : Bool, SC P 39 [.one (.ro (.pair (.int .i64) (.pair (.int .i64) (.int .i64))) r3), .one (.ro (.pair (.int .i64) (.pair (.int .i64) (.int .i64))) r5)] [] [.one (.bool r6)] [] ∧
            Br (!r6) (
             Ret r lh [.one (.bool false)] []) (
             Ret r lh [.one (.bool true)] [])))) := by kernel_rfl
theorem c10 (l : List House) (id : Int) (hl : l.length ≤ 9223372036854775807) : SC P 10 [.one (.ro (.pair (.int .i64) (.pair (.int .i64) (.int .i64))) l), .one (.int .i64 id)] [] [.one (.bool true)] [] := by
  refine SC_of_FB (H := H10) E_ok Try.func10 (by kernel_rfl) ?_
  rw [eq10]
  refine ⟨_, c37 l hl, ?_⟩
  by_cases h : l.length ≤ 1048576
  · rw [decide_eq_true h, cond_true]
    exact Br_f (by omega) ⟨_, c38 l h, _, c42 l id h, _, c38 l h, _, c41 l id h, Br_nd (fun e => absurd rfl e) (fun _ => ⟨_, c38 l h, _, c39 l l h, Br_nb (fun e => by simp at e) (fun _ => ⟨rfl, rfl⟩)⟩)⟩
  · rw [decide_eq_false h, cond_false]
    exact Br_t (by omega) ⟨rfl, rfl⟩
end Go.Proofs.Ytiagcjjobfoflaa.Sh
