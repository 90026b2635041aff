/- Programs that are run: laws on drawn ones. -/
import Derived.Test.YtnbdhclkmcfdfaaShQ2
namespace Go.Proofs.Ytnbdhclkmcfdfaa.Sh
open Go
set_option linter.unusedVariables false
set_option linter.unusedSimpArgs false
theorem runV_app {α : Type} (ld : Int → α) (tm : α → Int → α) (pl : α → α → α) (z : α) : ∀ (a b : List Step) (n : List α), runV ld tm pl z (a ++ b) n = runV ld tm pl z b (runV ld tm pl z a n)
  | [], _, _ => rfl
  | s :: a, b, n => runV_app ld tm pl z a b _
theorem runV_len {α : Type} (ld : Int → α) (tm : α → Int → α) (pl : α → α → α) (z : α) : ∀ (l : List Step) (n : List α), (runV ld tm pl z l n).length = n.length + l.length
  | [], n => rfl
  | s :: l, n => by
    rw [runV, runV_len ld tm pl z l, List.length_append, List.length_singleton, List.length_cons]
    omega
theorem runF_snoc {α : Type} (ld : Int → α) (tm : α → Int → α) (pl : α → α → α) (z : α) (l : List Step) (s : Step) : runF ld tm pl z (l ++ [s]) = stepQ ld tm pl z (runV ld tm pl z l []) s := by
  have hl := runV_len ld tm pl z l []
  rw [List.length_nil, Nat.zero_add] at hl
  rw [runF, runV_app, List.length_append, List.length_singleton, Nat.add_sub_cancel]
  show (runV ld tm pl z l [] ++ [stepQ ld tm pl z (runV ld tm pl z l []) s]).getD l.length z = _
  rw [← hl, List.getD, List.getElem?_append_right (Nat.le_refl _), Nat.sub_self]
  rfl
theorem runV_fok {ld : Int → Int} (hld : ∀ a, FOk (ld a)) : ∀ (l : List Step) (n : List Int), (∀ x ∈ n, FOk x) → ∀ x ∈ runV ld timesE plusE 0 l n, FOk x
  | [], n, h => h
  | s :: l, n, h => runV_fok hld l _ fun x hx => by
    rcases List.mem_append.1 hx with g | g
    · exact h x g
    · rw [List.mem_singleton] at g
      subst g
      rw [stepQ]
      cases decide (s.1 = 1)
      · cases decide (s.1 = 2)
        · exact fok_mod _
        · exact fok_mod _
      · exact hld _
theorem vals_fokAll {vals : List Int} (hv : valsOk vals = true) (a : Int) : FOk (vals.getD a.toNat 0) := getD_all (valsOk_iff.1 hv).2 fok0 _
theorem run_fok {l : List Step} {vals : List Int} (hv : valsOk vals = true) : FOk (runF (fun a => vals.getD a.toNat 0) timesE plusE 0 l) :=
  getD_all (runV_fok (vals_fokAll hv) l [] (fun x h => by cases h)) fok0 _
theorem dotF_plus' (a b d : V4) : dotF (vplus a b) d = (dotF a d + dotF b d) % 31 := by
  refine fok_eq (fok_mod _) (fok_mod _) ((dotF_m _ _).trans ((M31.symm ((M31.mod _).trans ((M31.add (dotF_m a d) (dotF_m b d)).trans ?_)))))
  obtain ⟨a0, a1, a2, a3⟩ := a
  obtain ⟨b0, b1, b2, b3⟩ := b
  obtain ⟨d0, d1, d2, d3⟩ := d
  have hm : ∀ x y z : Int, M31 ((x + y) % 31 * z) (x * z + y * z) := fun x y z => (M31.mul (M31.mod _) rfl).trans (by rw [Int.add_mul]; exact rfl)
  have h0 := hm a0 b0 d0
  have h1 := hm a1 b1 d1
  have h2 := hm a2 b2 d2
  have h3 := hm a3 b3 d3
  show M31 (a0 * d0 + a1 * d1 + a2 * d2 + a3 * d3 + (b0 * d0 + b1 * d1 + b2 * d2 + b3 * d3)) ((a0 + b0) % 31 * d0 + (a1 + b1) % 31 * d1 + (a2 + b2) % 31 * d2 + (a3 + b3) % 31 * d3)
  refine M31.symm ((M31.add (M31.add (M31.add h0 h1) h2) h3).trans ?_)
  rw [M31]; congr 1; omega
theorem dotF_zero (d : V4) : dotF (0, 0, 0, 0) d = 0 := by
  obtain ⟨d0, d1, d2, d3⟩ := d
  show (0 * d0 + 0 * d1 + 0 * d2 + 0 * d3) % 31 = 0
  simp
theorem getD_dot (d : V4) (R : List V4) (i : Nat) : (R.map fun a => dotF a d).getD i 0 = dotF (R.getD i (0, 0, 0, 0)) d := by
  by_cases h : i < R.length
  · rw [getD_eq (show i < (R.map fun a => dotF a d).length by rw [List.length_map]; exact h), getD_eq h, List.getElem_map]
  · rw [List.getD, List.getElem?_eq_none (by rw [List.length_map]; omega), List.getD, List.getElem?_eq_none (by omega)]
    exact (dotF_zero d).symm
/-- what a program makes of rows tells what it makes of shards -/
theorem runV_dot {kind : Int} {d : V4} {vals : List Int} (hld : ∀ a : Int, 0 ≤ a → a ≤ 7 → vals.getD a.toNat 0 = dotF (rowV kind a) d) : ∀ (l : List Step) (R : List V4), (∀ s ∈ l, s.1 = 1 → 0 ≤ s.2.1 ∧ s.2.1 ≤ 7) →
    runV (fun a => vals.getD a.toNat 0) timesE plusE 0 l (R.map fun a => dotF a d) = (runV (fun a => rowV kind a) vtimes vplus (0, 0, 0, 0) l R).map fun a => dotF a d
  | [], R, _ => rfl
  | s :: l, R, h => by
    have e : stepQ (fun a => vals.getD a.toNat 0) timesE plusE 0 (R.map fun a => dotF a d) s = dotF (stepQ (fun a => rowV kind a) vtimes vplus (0, 0, 0, 0) R s) d := by
      rw [stepQ, stepQ]
      by_cases c1 : s.1 = 1
      · obtain ⟨g0, g1⟩ := h s (List.mem_cons_self ..) c1
        rw [decide_eq_true c1, cond_true, cond_true]
        exact hld _ g0 g1
      · rw [decide_eq_false c1, cond_false, cond_false]
        cases decide (s.1 = 2)
        · rw [cond_false, cond_false, getD_dot, getD_dot, dotF_plus']; rfl
        · rw [cond_true, cond_true, getD_dot, dotF_scale]; rfl
    rw [runV, runV, ← runV_dot hld l _ (fun s hs => h s (List.mem_cons_of_mem _ hs)), List.map_append, List.map_cons, List.map_nil, e]
theorem prog_loads {l : List Step} (h : progOk l = true) : ∀ s ∈ l, s.1 = 1 → 0 ≤ s.2.1 ∧ s.2.1 ≤ 7 := by
  intro s hs c
  obtain ⟨i, hi, rfl⟩ := List.getElem_of_mem hs
  have := prog_step h hi
  rw [hAt, getD_eq hi, stepOk, decide_eq_true c, cond_true, Bool.and_eq_true] at this
  exact inB_iff.1 this.1
theorem allF_get (kind : Int) (v : V4) {i : Int} (h0 : 0 ≤ i) (h1 : i ≤ 7) : (allF kind v).getD i.toNat 0 = dotF (rowV kind i) v := by
  rw [allF, mapR_get (show i.toNat < 8 by omega)]
  rw [show ((0 + i.toNat : Nat) : Int) = i by omega]
theorem allF_p (kind : Int) (v : V4) : ValsP (allF kind v) := ⟨allF_length _ _, (mapR_ok (n := 8) fun j => fok_mod _).ok⟩
theorem run_dot {kind : Int} {d : V4} {l : List Step} (h : progOk l = true) : progRunF l (allF kind d) = dotF (progRowV kind l) d := by
  rw [progRunF, h, p_vals (allF_p kind d), Bool.and_self, cond_true, runF, progRowV, runF]
  have := runV_dot (kind := kind) (d := d) (vals := allF kind d) (fun a => allF_get kind d) l [] (prog_loads h)
  rw [List.map_nil] at this
  rw [this, getD_dot]
theorem v4_times_ok (a : V4) (c : Int) : VOk (vtimes a c) := ⟨fok_mod _, fok_mod _, fok_mod _, fok_mod _⟩
theorem runV_vok {kind : Int} : ∀ (l : List Step) (n : List V4), (∀ x ∈ n, VOk x) → ∀ x ∈ runV (fun a => rowV kind a) vtimes vplus (0, 0, 0, 0) l n, VOk x
  | [], n, h => h
  | s :: l, n, h => runV_vok l _ fun x hx => by
    rcases List.mem_append.1 hx with g | g
    · exact h x g
    · rw [List.mem_singleton] at g
      subst g
      rw [stepQ]
      cases decide (s.1 = 1)
      · cases decide (s.1 = 2)
        · exact vplus_ok _ _
        · exact vtimes_ok _ _
      · exact rowV_ok _ _
theorem progRowV_ok (kind : Int) (l : List Step) : VOk (progRowV kind l) := getD_all (runV_vok l [] (fun x h => by cases h)) ⟨fok0, fok0, fok0, fok0⟩ _
/-! loop.example/keelson/impl.FieldSum -/
def H27 : Hint := ⟨[], [], [], [], [], [], []⟩
theorem eq27 (a : Int) (b : Int) (r : List W) (lh : Heap) : FB E H27 Try.f27 [.one (.int .i64 a), .one (.int .i64 b)] [] r lh =
  (
   ∃ r0 : Bool, SC P 81 [.one (.int .i64 a)] [] [.one (.bool r0)] [] ∧
    Br (!r0) (
     Ret r lh [.one (.int .i64 0)] []) (
     ∃ r1 : Bool, SC P 81 [.one (.int .i64 b)] [] [.one (.bool r1)] [] ∧
      Br (!r1) (
       Ret r lh [.one (.int .i64 0)] []) (
       ∃ r2 : Int, SC P 82 [.one (.int .i64 a), .one (.int .i64 b)] [] [.one (.int .i64 r2)] [] ∧
        Ret r lh [.one (.int .i64 r2)] []))) := by kernel_rfl
theorem c27 (a b : Int) (ha : FOk a) (hb : FOk b) : SC P 27 [.one (.int .i64 a), .one (.int .i64 b)] [] [.one (.int .i64 ((a + b) % 31))] [] := by
  refine SC_of_FB (H := H27) E_ok Try.func27 (by kernel_rfl) ?_
  rw [eq27]
  have h1 : inB a 0 30 = true := inB_iff.2 ha
  have h2 : inB b 0 30 = true := inB_iff.2 hb
  refine ⟨_, c81 a, ?_⟩
  rw [h1]
  refine Br_nb (fun e => by cases e) (fun _ => ⟨_, c81 b, ?_⟩)
  rw [h2]
  exact Br_nb (fun e => by cases e) (fun _ => ⟨_, c82 a b ha hb, rfl, rfl⟩)
/-! loop.example/keelson/impl.FieldMul -/
def H28 : Hint := ⟨[], [], [], [], [], [], []⟩
theorem eq28 (a : Int) (b : Int) (r : List W) (lh : Heap) : FB E H28 Try.f28 [.one (.int .i64 a), .one (.int .i64 b)] [] r lh =
  (
   ∃ r0 : Bool, SC P 81 [.one (.int .i64 a)] [] [.one (.bool r0)] [] ∧
    Br (!r0) (
     Ret r lh [.one (.int .i64 0)] []) (
     ∃ r1 : Bool, SC P 81 [.one (.int .i64 b)] [] [.one (.bool r1)] [] ∧
      Br (!r1) (
       Ret r lh [.one (.int .i64 0)] []) (
       ∃ r2 : Int, SC P 83 [.one (.int .i64 a), .one (.int .i64 b)] [] [.one (.int .i64 r2)] [] ∧
        Ret r lh [.one (.int .i64 r2)] []))) := by kernel_rfl
theorem c28 (a b : Int) (ha : FOk a) (hb : FOk b) : SC P 28 [.one (.int .i64 a), .one (.int .i64 b)] [] [.one (.int .i64 (a * b % 31))] [] := by
  refine SC_of_FB (H := H28) E_ok Try.func28 (by kernel_rfl) ?_
  rw [eq28]
  have h1 : inB a 0 30 = true := inB_iff.2 ha
  have h2 : inB b 0 30 = true := inB_iff.2 hb
  refine ⟨_, c81 a, ?_⟩
  rw [h1]
  refine Br_nb (fun e => by cases e) (fun _ => ⟨_, c81 b, ?_⟩)
  rw [h2]
  exact Br_nb (fun e => by cases e) (fun _ => ⟨_, c83 a b ha hb, rfl, rfl⟩)
/-! loop.example/keelson/impl.VecDot -/
def H35 : Hint := ⟨[], [], [], [], [], [], []⟩
theorem eq35 (a : List Int) (b : List Int) (r : List W) (lh : Heap) : FB E H35 Try.f35 [.one (.ro (.int .i64) a), .one (.ro (.int .i64) b)] [] r lh =
  (
   ∃ r0 : Int × Int × Int × Int × Bool, SC P 94 [.one (.ro (.int .i64) a)] [] [.agg [.int .i64 r0.1, .int .i64 r0.2.1, .int .i64 r0.2.2.1, .int .i64 r0.2.2.2.1], .one (.bool r0.2.2.2.2)] [] ∧
    ∃ r1 : Int × Int × Int × Int × Bool, SC P 94 [.one (.ro (.int .i64) b)] [] [.agg [.int .i64 r1.1, .int .i64 r1.2.1, .int .i64 r1.2.2.1, .int .i64 r1.2.2.2.1], .one (.bool r1.2.2.2.2)] [] ∧
     Br (!r0.2.2.2.2) (
      Ret r lh [.one (.int .i64 0)] []) (
      Br (!r1.2.2.2.2) (
       Ret r lh [.one (.int .i64 0)] []) (
       ∃ r2 : Int, SC P 96 [.agg [.int .i64 r0.1, .int .i64 r0.2.1, .int .i64 r0.2.2.1, .int .i64 r0.2.2.2.1], .agg [.int .i64 r1.1, .int .i64 r1.2.1, .int .i64 r1.2.2.1, .int .i64 r1.2.2.2.1]] [] [.one (.int .i64 r2)] [] ∧
        Ret r lh [.one (.int .i64 r2)] []))) := by kernel_rfl
theorem c35 (v u : V4) (hv : VOk v) (hu : VOk u) : SC P 35 [.one (.ro (.int .i64) v.l), .one (.ro (.int .i64) u.l)] [] [.one (.int .i64 (dotF v u))] [] := by
  have s1 := c94 v.l (by simp [V4.l])
  have s2 := c94 u.l (by simp [V4.l])
  rw [vecOk_l hv, vecF_l hv] at s1
  rw [vecOk_l hu, vecF_l hu] at s2
  refine SC_of_FB (H := H35) E_ok Try.func35 (by kernel_rfl) ?_
  rw [eq35]
  exact ⟨(v.1, v.2.1, v.2.2.1, v.2.2.2, true), s1, (u.1, u.2.1, u.2.2.1, u.2.2.2, true), s2, Br_nb (fun e => by cases e) (fun _ => Br_nb (fun e => by cases e) (fun _ => ⟨_, c96 v u hv hu, rfl, rfl⟩))⟩
/-! loop.example/keelson/impl.VecOk -/
def H36 : Hint := ⟨[], [], [], [], [], [], []⟩
theorem eq36 (v : List Int) (r : List W) (lh : Heap) : FB E H36 Try.f36 [.one (.ro (.int .i64) v)] [] r lh =
  (
   ∃ r0 : Bool, SC P 97 [.one (.ro (.int .i64) v), .one (.int .i64 4)] [] [.one (.bool r0)] [] ∧
    Ret r lh [.one (.bool r0)] []) := by kernel_rfl
theorem c36 (v : V4) (hv : VOk v) : SC P 36 [.one (.ro (.int .i64) v.l)] [] [.one (.bool true)] [] := by
  have s1 := c97 v.l 4 (by simp [V4.l])
  have e : (decide ((v.l.length : Int) = 4) && v.l.all (fun n => inB n 0 30)) = true := vecOk_l hv
  rw [e] at s1
  refine SC_of_FB (H := H36) E_ok Try.func36 (by kernel_rfl) ?_
  rw [eq36]
  exact ⟨true, s1, rfl, rfl⟩
/-! loop.example/keelson/spec.DrawProgRun -/
def H23 : Hint := ⟨[], [], [], [], [], [], []⟩
theorem eq23 (code : List Int) (r : List W) (lh : Heap) : FB E H23 Try.f23 [.one (.ro (.int .u8) code)] [] r lh =
  (
   ∃ r0 : (List Int × Int), SC P 62 [.one (.ro (.int .u8) code)] [] [.one (.ptr 0 0 0)] [.box [.ro (.int .u8) r0.1, .int .i64 r0.2]] ∧
    ∃ r1 : List Int × Int × List (Int × (Int × Int)), SC P 63 [.one (.ptr 0 0 0)] [.box [.ro (.int .u8) r0.1, .int .i64 r0.2]] [.one (.sl 1 none)] [.box [.ro (.int .u8) r1.1, .int .i64 r1.2.1], .row (.pair (.int .i64) (.pair (.int .i64) (.int .i64))) r1.2.2 .own] ∧
     ∃ r2 : List Int × Int × Int × List Int × List Bool, SC P 74 [.one (.ptr 0 0 0)] [.box [.ro (.int .u8) r1.1, .int .i64 r1.2.1]] [.one (.int .i64 r2.2.2.1), .one (.sl 1 none), .one (.ro .bool r2.2.2.2.2)] [.box [.ro (.int .u8) r2.1, .int .i64 r2.2.1], .row (.int .i64) r2.2.2.2.1 .own] ∧
      Ret r lh [.one (.sl 0 none), .one (.sl 1 none)] [.row (.pair (.int .i64) (.pair (.int .i64) (.int .i64))) r1.2.2 .own, .row (.int .i64) r2.2.2.2.1 .own]) := by kernel_rfl
theorem c23 (code : List Int) (hc : Bytes code) : ∃ (l : List Step) (vals : List Int), 1 ≤ l.length ∧ l.length ≤ 20 ∧ vals.length = 8 ∧ SC P 23 [.one (.ro (.int .u8) code)] [] [.one (.sl 0 none), .one (.sl 1 none)] [.row (.pair (.int .i64) (.pair (.int .i64) (.int .i64))) l .own, .row (.int .i64) vals .own] := by
  obtain ⟨b, hb, s0⟩ := c62 code hc
  obtain ⟨l, p, l1, l2, p0, p1, s1⟩ := c63 b 0 hb (by omega) (by omega)
  obtain ⟨k, vals, t, q, hv, ht, q0, q1, s2⟩ := c74 b p hb p0 (by omega)
  refine ⟨l, vals, l1, l2, hv, ?_⟩
  refine SC_of_FB (H := H23) E_ok Try.func23 (by kernel_rfl) ?_
  rw [eq23]
  exact ⟨(b, 0), s0, (b, p, l), s1, (b, q, k, vals, t), s2, rfl, rfl⟩
/-! loop.example/keelson/spec.DrawProgRow -/
def H29 : Hint := ⟨[], [], [], [], [], [], []⟩
theorem eq29 (code : List Int) (r : List W) (lh : Heap) : FB E H29 Try.f29 [.one (.ro (.int .u8) code)] [] r lh =
  (
   ∃ r0 : (List Int × Int), SC P 62 [.one (.ro (.int .u8) code)] [] [.one (.ptr 0 0 0)] [.box [.ro (.int .u8) r0.1, .int .i64 r0.2]] ∧
    ∃ r1 : List Int × Int × Int, SC P 84 [.one (.ptr 0 0 0)] [.box [.ro (.int .u8) r0.1, .int .i64 r0.2]] [.one (.int .i64 r1.2.2)] [.box [.ro (.int .u8) r1.1, .int .i64 r1.2.1]] ∧
     ∃ r2 : List Int × Int × List (Int × (Int × Int)), SC P 63 [.one (.ptr 0 0 0)] [.box [.ro (.int .u8) r1.1, .int .i64 r1.2.1]] [.one (.sl 1 none)] [.box [.ro (.int .u8) r2.1, .int .i64 r2.2.1], .row (.pair (.int .i64) (.pair (.int .i64) (.int .i64))) r2.2.2 .own] ∧
      Ret r lh [.one (.int .i64 r1.2.2), .one (.sl 0 none)] [.row (.pair (.int .i64) (.pair (.int .i64) (.int .i64))) r2.2.2 .own]) := by kernel_rfl
theorem c29 (code : List Int) (hc : Bytes code) : ∃ (k : Int) (l : List Step), 1 ≤ l.length ∧ l.length ≤ 20 ∧ SC P 29 [.one (.ro (.int .u8) code)] [] [.one (.int .i64 k), .one (.sl 0 none)] [.row (.pair (.int .i64) (.pair (.int .i64) (.int .i64))) l .own] := by
  obtain ⟨b, hb, s0⟩ := c62 code hc
  obtain ⟨k, q, q0, q1, s1⟩ := c84 b 0 hb (by omega) (by omega)
  obtain ⟨l, p, l1, l2, p0, p1, s2⟩ := c63 b q hb q0 (by omega)
  refine ⟨k, l, l1, l2, ?_⟩
  refine SC_of_FB (H := H29) E_ok Try.func29 (by kernel_rfl) ?_
  rw [eq29]
  exact ⟨(b, 0), s0, (b, q, k), s1, (b, p, l), s2, rfl, rfl⟩
/-! loop.example/keelson/laws.FnProgRun -/
def H6 : Hint := ⟨[], [], [], [], [], [], []⟩
theorem eq6 (code : List Int) (more : List Int) (r : List W) (lh : Heap) : FB E H6 Try.f6 [.one (.ro (.int .u8) code), .one (.ro (.int .u8) more)] [] r lh =
  (
   Br (decide ((1048576 : Int) < ((code.length : Nat) : Int))) (
    Ret r lh [.one (.bool true)] []) (
    Br (decide ((1048576 : Int) < ((more.length : Nat) : Int))) (
     Ret r lh [.one (.bool true)] []) (
     ∃ r0 : List (Int × (Int × Int)) × List Int, SC P 23 [.one (.ro (.int .u8) code)] [] [.one (.sl 0 none), .one (.sl 1 none)] [.row (.pair (.int .i64) (.pair (.int .i64) (.int .i64))) r0.1 .own, .row (.int .i64) r0.2 .own] ∧
      ∃ r1 : Int × Bool, SC P 24 [.one (.ro (.pair (.int .i64) (.pair (.int .i64) (.int .i64))) r0.1), .one (.ro (.int .i64) r0.2)] [] [.one (.int .i64 r1.1), .one (.bool r1.2)] [] ∧
       ∃ r2 : Int × Bool, SC P 25 [.one (.ro (.pair (.int .i64) (.pair (.int .i64) (.int .i64))) r0.1), .one (.ro (.int .i64) r0.2)] [] [.one (.int .i64 r2.1), .one (.bool r2.2)] [] ∧
        Br (r2.2 != r1.2) (
         Br (r2.2 == r1.2) (
          Ret r lh [.one (.bool (decide (r2.1 = r1.1)))] []) (
          Ret r lh [.one (.bool false)] [])) (
         Br (!(decide (r2.1 = r1.1))) (
          Br (r2.2 == r1.2) (
           Ret r lh [.one (.bool (decide (r2.1 = r1.1)))] []) (
           Ret r lh [.one (.bool false)] [])) (
          Br (!r2.2) (
           Br (r2.2 == r1.2) (
            Ret r lh [.one (.bool (decide (r2.1 = r1.1)))] []) (
            Ret r lh [.one (.bool false)] [])) (
           Br (decide (((r0.1.length : Nat) : Int) = (16 : Int))) (
            Br (r2.2 == r1.2) (
             Ret r lh [.one (.bool (decide (r2.1 = r1.1)))] []) (
             Ret r lh [.one (.bool false)] [])) (
            ∃ r3 : Int, SC P 26 [.one (.int .i64 ((more.length : Nat) : Int))] [] [.one (.int .i64 r3)] [] ∧
             Ck (Nat.ble ((0 + r0.1.length) * 24) roomy) (
              Ck (Nat.ble ((([] ++ r0.1).length + 1) * 24) roomy) (
               ∃ r4 : Int × Bool, SC P 25 [.one (.ro (.pair (.int .i64) (.pair (.int .i64) (.int .i64))) (([] ++ r0.1) ++ ([(3, ((IntKind.wrap .i64 (((r0.1.length : Nat) : Int) - 1)), (IntKind.wrap .i64 (((r0.1.length : Nat) : Int) - 1))))] : List (Int × (Int × Int))))), .one (.ro (.int .i64) r0.2)] [] [.one (.int .i64 r4.1), .one (.bool r4.2)] [] ∧
                Ck (Nat.ble ((0 + r0.1.length) * 24) roomy) (
                 Ck (Nat.ble ((([] ++ r0.1).length + 1) * 24) roomy) (
                  ∃ r5 : Int × Bool, SC P 25 [.one (.ro (.pair (.int .i64) (.pair (.int .i64) (.int .i64))) (([] ++ r0.1) ++ ([(2, ((IntKind.wrap .i64 (((r0.1.length : Nat) : Int) - 1)), r3))] : List (Int × (Int × Int))))), .one (.ro (.int .i64) r0.2)] [] [.one (.int .i64 r5.1), .one (.bool r5.2)] [] ∧
                   Ck (Nat.ble ((0 + r0.1.length) * 24) roomy) (
                    Ck (Nat.ble ((([] ++ r0.1).length + 1) * 24) roomy) (
                     ∃ r6 : Int × Bool, SC P 25 [.one (.ro (.pair (.int .i64) (.pair (.int .i64) (.int .i64))) (([] ++ r0.1) ++ ([(1, ((Int.tmod ((more.length : Nat) : Int) 8), 0))] : List (Int × (Int × Int))))), .one (.ro (.int .i64) r0.2)] [] [.one (.int .i64 r6.1), .one (.bool r6.2)] [] ∧
                      Br r4.2 (
                       ∃ r7 : Int, SC P 27 [.one (.int .i64 r2.1), .one (.int .i64 r2.1)] [] [.one (.int .i64 r7)] [] ∧
                        Br (decide (r4.1 = r7)) (
                         Br r5.2 (
                          ∃ r8 : Int, SC P 28 [.one (.int .i64 r2.1), .one (.int .i64 r3)] [] [.one (.int .i64 r8)] [] ∧
                           Br (decide (r5.1 = r8)) (
                            Br r6.2 (
                             Ck (decide ((0 : Int) ≤ (Int.tmod ((more.length : Nat) : Int) 8))) (
                              Ck (decide ((Int.tmod ((more.length : Nat) : Int) 8) < ((r0.2.length : Nat) : Int))) (
                               Ck (Nat.ble ((Int.tmod ((more.length : Nat) : Int) 8).toNat + 1) r0.2.length) (
                                Ret r lh [.one (.bool (decide (r6.1 = (r0.2.getD (Int.tmod ((more.length : Nat) : Int) 8).toNat 0))))] [])))) (
                             Ret r lh [.one (.bool false)] [])) (
                            Ret r lh [.one (.bool false)] [])) (
                          Ret r lh [.one (.bool false)] [])) (
                         Ret r lh [.one (.bool false)] [])) (
                       Ret r lh [.one (.bool false)] [])))))))))))))) := by kernel_rfl
theorem c6 (code more : List Int) (hc : Bytes code) : SC P 6 [.one (.ro (.int .u8) code), .one (.ro (.int .u8) more)] [] [.one (.bool true)] [] := by
  refine SC_of_FB (H := H6) E_ok Try.func6 (by kernel_rfl) ?_
  rw [eq6]
  refine Br_d (fun _ => ⟨rfl, rfl⟩) (fun hcl => Br_d (fun _ => ⟨rfl, rfl⟩) (fun hml => ?_))
  obtain ⟨l, vals, l1, l2, hv, s0⟩ := c23 code hc
  have s1 := c24 l vals (by omega) (by omega)
  have s2 := c25 l vals (by omega) (by omega)
  refine ⟨(l, vals), s0, (progRunF l vals, progOk l && valsOk vals), s1, (progRunF l vals, progOk l && valsOk vals), s2, Br_bne rfl (Br_nd (fun e => absurd rfl e) (fun _ => Br_nb (fun e => Br_beq rfl ⟨by rw [decide_eq_true rfl], rfl⟩) (fun e => Br_d (fun e16 => Br_beq rfl ⟨by rw [decide_eq_true rfl], rfl⟩) (fun e16 => ?_))))⟩
  have e : (progOk l && valsOk vals) = true := e
  have e' := e
  rw [Bool.and_eq_true] at e'
  obtain ⟨hp, hvo⟩ := e'
  have e16 : ¬ ((l.length : Int) = 16) := e16
  have hl := prog_len hp
  have hw : IntKind.wrap .i64 ((l.length : Int) - 1) = ((l.length - 1 : Nat) : Int) := by rw [wrap64 (by omega) (by omega)]; omega
  have hm8 : Int.tmod (more.length : Int) 8 = ((more.length % 8 : Nat) : Int) := by rw [Int.tmod_eq_emod_of_nonneg (by omega)]; rfl
  have hlt : more.length % 8 < 8 := Nat.mod_lt _ (by omega)
  have hn := run_fok (l := l) hvo
  have hR : progRunF l vals = runF (fun a => vals.getD a.toNat 0) timesE plusE 0 l := by rw [progRunF, e, cond_true]
  have run : ∀ s : Step, stepOk s (l.length : Int) = true → SC P 25 [.one (.ro (.pair (.int .i64) (.pair (.int .i64) (.int .i64))) (l ++ [s])), .one (.ro (.int .i64) vals)] [] [.one (.int .i64 (stepQ (fun a => vals.getD a.toNat 0) timesE plusE 0 (runV (fun a => vals.getD a.toNat 0) timesE plusE 0 l []) s)), .one (.bool true)] [] := by
    intro s hs
    have := c25 (l ++ [s]) vals (by simp; omega) (by omega)
    rw [progRunF, prog_snoc hp hs (by omega), hvo, Bool.and_self, cond_true, runF_snoc] at this
    exact this
  have hin : ∀ a : Int, 0 ≤ a → a ≤ (l.length : Int) - 1 → inB a 0 ((l.length : Int) - 1) = true := fun a x y => inB_iff.2 ⟨x, y⟩
  have hc0 : FOk ((more.length : Int) % 31) := fok_mod _
  have r1 := run (3, (((l.length - 1 : Nat) : Int), ((l.length - 1 : Nat) : Int))) (by
    show (inB ((l.length - 1 : Nat) : Int) 0 ((l.length : Int) - 1) && inB ((l.length - 1 : Nat) : Int) 0 ((l.length : Int) - 1)) = true
    rw [hin _ (by omega) (by omega)]; rfl)
  have r2 := run (2, (((l.length - 1 : Nat) : Int), (more.length : Int) % 31)) (by
    show (inB ((l.length - 1 : Nat) : Int) 0 ((l.length : Int) - 1) && inB ((more.length : Int) % 31) 0 30) = true
    rw [hin _ (by omega) (by omega), inB_iff.2 hc0]; rfl)
  have r3 := run (1, (((more.length % 8 : Nat) : Int), 0)) (by
    show (inB ((more.length % 8 : Nat) : Int) 0 7 && decide ((0 : Int) = 0)) = true
    rw [inB_iff.2 ⟨by omega, by omega⟩]; rfl)
  have g1 : stepQ (fun a => vals.getD a.toNat 0) timesE plusE 0 (runV (fun a => vals.getD a.toNat 0) timesE plusE 0 l []) (3, (((l.length - 1 : Nat) : Int), ((l.length - 1 : Nat) : Int))) = (progRunF l vals + progRunF l vals) % 31 := by rw [hR]; rfl
  have g2 : stepQ (fun a => vals.getD a.toNat 0) timesE plusE 0 (runV (fun a => vals.getD a.toNat 0) timesE plusE 0 l []) (2, (((l.length - 1 : Nat) : Int), (more.length : Int) % 31)) = progRunF l vals * ((more.length : Int) % 31) % 31 := by rw [hR]; rfl
  have g3 : stepQ (fun a => vals.getD a.toNat 0) timesE plusE 0 (runV (fun a => vals.getD a.toNat 0) timesE plusE 0 l []) (1, (((more.length % 8 : Nat) : Int), 0)) = vals.getD (more.length % 8) 0 := rfl
  rw [g1] at r1
  rw [g2] at r2
  rw [g3] at r3
  rw [← hR] at hn
  simp only [hw, hm8, List.nil_append, Int.toNat_natCast]
  refine ⟨_, c26 (more.length : Int) (by omega), Ck_room (by omega) (Ck_room (by omega) ⟨(_, true), r1, Ck_room (by omega) (Ck_room (by omega) ⟨(_, true), r2, Ck_room (by omega) (Ck_room (by omega) ⟨(vals.getD (more.length % 8) 0, true), r3, Br_b (fun _ => ⟨_, c27 _ _ hn hn, Br_t rfl (Br_b (fun _ => ⟨_, c28 _ _ hn hc0, Br_t rfl (Br_b (fun _ => Ck_d (by omega) (Ck_d (by omega) (Ck_le (by omega) ⟨by rw [decide_eq_true rfl], rfl⟩))) (fun e => by cases e))⟩) (fun e => by cases e))⟩) (fun e => by cases e)⟩)⟩)⟩)⟩
/-! loop.example/keelson/laws.FnProgRow -/
def H7 : Hint := ⟨[], [], [], [], [], [], []⟩
theorem eq7 (code : List Int) (more : List Int) (r : List W) (lh : Heap) : FB E H7 Try.f7 [.one (.ro (.int .u8) code), .one (.ro (.int .u8) more)] [] r lh =
  (
   Br (decide ((1048576 : Int) < ((code.length : Nat) : Int))) (
    Ret r lh [.one (.bool true)] []) (
    Br (decide ((1048576 : Int) < ((more.length : Nat) : Int))) (
     Ret r lh [.one (.bool true)] []) (
     ∃ r0 : Int × List (Int × (Int × Int)), SC P 29 [.one (.ro (.int .u8) code)] [] [.one (.int .i64 r0.1), .one (.sl 0 none)] [.row (.pair (.int .i64) (.pair (.int .i64) (.int .i64))) r0.2 .own] ∧
      ∃ r1 : List Int × Bool, SC P 30 [.one (.int .i64 r0.1), .one (.ro (.pair (.int .i64) (.pair (.int .i64) (.int .i64))) r0.2)] [] [.one (.ro (.int .i64) r1.1), .one (.bool r1.2)] [] ∧
       ∃ r2 : List Int × Bool, SC P 31 [.one (.int .i64 r0.1), .one (.ro (.pair (.int .i64) (.pair (.int .i64) (.int .i64))) r0.2)] [] [.one (.sl 0 none), .one (.bool r2.2)] [.row (.int .i64) r2.1 .own] ∧
        Br (r2.2 != r1.2) (
         Br (r2.2 == r1.2) (
          ∃ r3 : Bool, SC P 32 [.one (.ro (.int .i64) r2.1), .one (.ro (.int .i64) r1.1)] [] [.one (.bool r3)] [] ∧
           Ret r lh [.one (.bool r3)] []) (
          Ret r lh [.one (.bool false)] [])) (
         ∃ r4 : Bool, SC P 32 [.one (.ro (.int .i64) r2.1), .one (.ro (.int .i64) r1.1)] [] [.one (.bool r4)] [] ∧
          Br (!r4) (
           Br (r2.2 == r1.2) (
            ∃ r5 : Bool, SC P 32 [.one (.ro (.int .i64) r2.1), .one (.ro (.int .i64) r1.1)] [] [.one (.bool r5)] [] ∧
             Ret r lh [.one (.bool r5)] []) (
            Ret r lh [.one (.bool false)] [])) (
           Br (!r2.2) (
            Br (r2.2 == r1.2) (
             ∃ r6 : Bool, SC P 32 [.one (.ro (.int .i64) r2.1), .one (.ro (.int .i64) r1.1)] [] [.one (.bool r6)] [] ∧
              Ret r lh [.one (.bool r6)] []) (
             Ret r lh [.one (.bool false)] [])) (
            ∃ r7 : List Int, SC P 33 [.one (.int .i64 ((more.length : Nat) : Int))] [] [.one (.sl 0 none)] [.row (.int .i64) r7 .own] ∧
             ∃ r8 : List Int, SC P 34 [.one (.int .i64 r0.1), .one (.ro (.int .i64) r7)] [] [.one (.sl 0 none)] [.row (.int .i64) r8 .own] ∧
              ∃ r9 : Int × Bool, SC P 25 [.one (.ro (.pair (.int .i64) (.pair (.int .i64) (.int .i64))) r0.2), .one (.ro (.int .i64) r8)] [] [.one (.int .i64 r9.1), .one (.bool r9.2)] [] ∧
               Br r9.2 (
                ∃ r10 : Int, SC P 35 [.one (.ro (.int .i64) r2.1), .one (.ro (.int .i64) r7)] [] [.one (.int .i64 r10)] [] ∧
                 Br (decide (r9.1 = r10)) (
                  ∃ r11 : Bool, SC P 36 [.one (.ro (.int .i64) r2.1)] [] [.one (.bool r11)] [] ∧
                   Ret r lh [.one (.bool r11)] []) (
                  Ret r lh [.one (.bool false)] [])) (
                Ret r lh [.one (.bool false)] []))))))) := by kernel_rfl
theorem c7 (code more : List Int) (hc : Bytes code) : SC P 7 [.one (.ro (.int .u8) code), .one (.ro (.int .u8) more)] [] [.one (.bool true)] [] := by
  refine SC_of_FB (H := H7) E_ok Try.func7 (by kernel_rfl) ?_
  rw [eq7]
  refine Br_d (fun _ => ⟨rfl, rfl⟩) (fun hcl => Br_d (fun _ => ⟨rfl, rfl⟩) (fun hml => ?_))
  obtain ⟨k, l, l1, l2, s0⟩ := c29 code hc
  have s1 := c30 k l (by omega)
  have s2 := c31 k l (by omega)
  have hrl : (progRowF k l).length ≤ 4 := by
    rw [progRowF]
    cases inB k 1 2 && progOk l
    · exact Nat.zero_le _
    · exact Nat.le_refl _
  have sE := c32 (progRowF k l) (progRowF k l) (by omega)
  rw [decide_eq_true rfl] at sE
  refine ⟨(k, l), s0, (progRowF k l, inB k 1 2 && progOk l), s1, (progRowF k l, inB k 1 2 && progOk l), s2, Br_bne rfl ⟨true, sE, Br_nb (fun e => by cases e) (fun _ => Br_nb (fun e => Br_beq rfl ⟨true, sE, rfl, rfl⟩) (fun e => ?_))⟩⟩
  have e : (inB k 1 2 && progOk l) = true := e
  have e' := e
  rw [Bool.and_eq_true] at e'
  obtain ⟨hk, hp⟩ := e'
  obtain ⟨v, hv, ev⟩ := vecOk_v (lkV_ok (more.length : Int))
  have t1 := c33 (more.length : Int) (by omega) (by omega)
  rw [ev] at t1
  have t2 := c34 k v.l (by simp [V4.l])
  rw [show codeAll k v.l = allF k v by rw [codeAll, hk, vecOk_l hv, vecF_l hv]; rfl] at t2
  have hal := allF_length k v
  have t3 := c25 l (allF k v) (by omega) (by omega)
  rw [run_dot hp, hp, p_vals (allF_p k v), Bool.and_self] at t3
  have hrow : progRowF k l = (progRowV k l).l := by rw [progRowF, e]; rfl
  rw [hrow]
  exact ⟨_, t1, _, t2, (_, true), t3, Br_b (fun _ => ⟨_, c35 (progRowV k l) v (progRowV_ok k l) hv, Br_t rfl ⟨true, c36 _ (progRowV_ok k l), rfl, rfl⟩⟩) (fun e => by cases e)⟩
end Go.Proofs.Ytnbdhclkmcfdfaa.Sh
