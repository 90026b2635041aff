/- Contracts, poured together. -/
import Derived.Test.YtnbdhclkmcfdfaaShR2
import Derived.Test.YtnbdhclkmcfdfaaShP3
import Derived.Test.YtnbdhclkmcfdfaaShOpen
import Derived.Test.YtnbdhclkmcfdfaaMaSpec
namespace Go.Proofs.Ytnbdhclkmcfdfaa.Sh
open Go
set_option linter.unusedVariables false
set_option linter.unusedSimpArgs false
abbrev Step := Int × Int × Int
def stepOk (s : Step) (many : Int) : Bool :=
  bif decide (s.1 = 1) then inB s.2.1 0 7 && decide (s.2.2 = 0)
  else bif decide (s.1 = 2) then inB s.2.1 0 (many - 1) && inB s.2.2 0 30
  else bif decide (s.1 = 3) then inB s.2.1 0 (many - 1) && inB s.2.2 0 (many - 1)
  else false
def progOk (l : List Step) : Bool := allR (fun i => stepOk (hAt l i) (i : Int)) 0 l.length && inB (l.length : Int) 1 16

/-! (loop.example/keelson/impl.Step).ok$1 -/
def H112 : Hint := ⟨[], [], [], [], [], [], []⟩
theorem eq112 (n : Int) (many : Int) (r : List W) (lh : Heap) : FB E H112 Try.f112 [.one (.int .i64 n), .one (.ptr 0 0 0)] [.row (.int .i64) [many] .var] r lh =
  (
   ∃ r0 : Bool, SC P 66 [.one (.int .i64 n), .one (.int .i64 0), .one (.int .i64 (IntKind.wrap .i64 (many - 1)))] [] [.one (.bool r0)] [] ∧
    Ret r lh [.one (.bool r0)] [.row (.int .i64) [many] .var]) := by kernel_rfl
theorem c112 (n many : Int) (h0 : 0 ≤ many) (h1 : many ≤ 1048576) : SC P 112 [.one (.int .i64 n), .one (.ptr 0 0 0)] [.row (.int .i64) [many] .var] [.one (.bool (inB n 0 (many - 1)))] [.row (.int .i64) [many] .var] := by
  refine SC_of_FB (H := H112) E_ok Try.func112 (by kernel_rfl) ?_
  rw [eq112]
  rw [wrap64 (by omega) (by omega)]
  exact ⟨_, c66 _ _ _, rfl, rfl⟩

/-! (loop.example/keelson/impl.Step).ok -/
def H65 : Hint := ⟨[], [], [], [], [], [], []⟩
theorem eq65 (s : (Int × (Int × Int))) (many : Int) (r : List W) (lh : Heap) : FB E H65 Try.f65 [.agg [.int .i64 s.1, .int .i64 s.2.1, .int .i64 s.2.2], .one (.int .i64 many)] [] r lh =
  (
   Br (decide (s.1 = (1 : Int))) (
    ∃ r0 : Bool, SC P 101 [.one (.int .i64 s.2.1)] [] [.one (.bool r0)] [] ∧
     Br r0 (
      Ret r lh [.one (.bool (decide (s.2.2 = (0 : Int))))] []) (
      Ret r lh [.one (.bool false)] [])) (
    Br (decide (s.1 = (2 : Int))) (
     ∃ r1 : Bool, SC P 112 [.one (.int .i64 s.2.1), .one (.ptr 0 0 0)] [.row (.int .i64) [many] .var] [.one (.bool r1)] [.row (.int .i64) [many] .var] ∧
      Br r1 (
       ∃ r2 : Bool, SC P 81 [.one (.int .i64 s.2.2)] [] [.one (.bool r2)] [] ∧
        Ret r lh [.one (.bool r2)] []) (
       Ret r lh [.one (.bool false)] [])) (
     Br (decide (s.1 = (3 : Int))) (
      ∃ r3 : Bool, SC P 112 [.one (.int .i64 s.2.1), .one (.ptr 0 0 0)] [.row (.int .i64) [many] .var] [.one (.bool r3)] [.row (.int .i64) [many] .var] ∧
       Br r3 (
        ∃ r4 : Bool, SC P 112 [.one (.int .i64 s.2.2), .one (.ptr 0 0 0)] [.row (.int .i64) [many] .var] [.one (.bool r4)] [.row (.int .i64) [many] .var] ∧
         Ret r lh [.one (.bool r4)] []) (
        Ret r lh [.one (.bool false)] [])) (
      Ret r lh [.one (.bool false)] [])))) := by kernel_rfl
theorem c65 (h : Step) (many : Int) (h0 : 0 ≤ many) (h1 : many ≤ 1048576) : SC P 65 [.agg [.int .i64 h.1, .int .i64 h.2.1, .int .i64 h.2.2], .one (.int .i64 many)] [] [.one (.bool (stepOk h many))] [] := by
  refine SC_of_FB (H := H65) E_ok Try.func65 (by kernel_rfl) ?_
  rw [eq65]
  refine Br_d (fun c => ⟨_, c101 _, Br_b (fun e => ⟨by rw [stepOk, decide_eq_true c, cond_true, e, Bool.true_and], rfl⟩) (fun e => ⟨by rw [stepOk, decide_eq_true c, cond_true, e, Bool.false_and], rfl⟩)⟩) (fun c => ?_)
  refine Br_d (fun c2 => ⟨_, c112 _ many h0 h1, Br_b (fun e => ⟨_, c81 _, by rw [stepOk, decide_eq_false c, cond_false, decide_eq_true c2, cond_true, e, Bool.true_and], rfl⟩) (fun e => ⟨by rw [stepOk, decide_eq_false c, cond_false, decide_eq_true c2, cond_true, e, Bool.false_and], rfl⟩)⟩) (fun c2 => ?_)
  refine Br_d (fun c3 => ⟨_, c112 _ many h0 h1, Br_b (fun e => ⟨_, c112 _ many h0 h1, by rw [stepOk, decide_eq_false c, cond_false, decide_eq_false c2, cond_false, decide_eq_true c3, cond_true, e, Bool.true_and], rfl⟩) (fun e => ⟨by rw [stepOk, decide_eq_false c, cond_false, decide_eq_false c2, cond_false, decide_eq_true c3, cond_true, e, Bool.false_and], rfl⟩)⟩) (fun c3 => ?_)
  exact ⟨by rw [stepOk, decide_eq_false c, cond_false, decide_eq_false c2, cond_false, decide_eq_false c3, cond_false], rfl⟩

/-! loop.example/keelson/impl.ProgOk -/
def H15 : Hint := ⟨[[(0, 0, .bool), (5, 0, .bool), (6, 0, .bool), (7, 0, .bool)]], [], [], [], [], [], []⟩
def S15_L0 (l0 : List (Int × (Int × Int))) (x5 : List (Int × (Int × Int))) (x6 : Int) (x7 : Int) : St := ⟨[(0, .w (.one (.ro (.pair (.int .i64) (.pair (.int .i64) (.int .i64))) l0))), (5, .w (.one (.ro (.pair (.int .i64) (.pair (.int .i64) (.int .i64))) x5))), (6, .w (.one (.int .i64 x6))), (7, .w (.one (.int .i64 x7)))], []⟩
theorem eq15 (l : List (Int × (Int × Int))) (r : List W) (lh : Heap) : FB E H15 Try.f15 [.one (.ro (.pair (.int .i64) (.pair (.int .i64) (.int .i64))) l)] [] r lh =
  (
   FL E H15 Try.f15 0 r lh 0 (S15_L0 l l ((l.length : Nat) : Int) 0)) := by kernel_rfl
theorem eq15_L0 (l0 : List (Int × (Int × Int))) (x5 : List (Int × (Int × Int))) (x6 : Int) (x7 : Int) (r : List W) (lh : Heap) : FL1 E H15 Try.f15 0 r lh 0 (S15_L0 l0 x5 x6 x7) =
  (
   Br (decide (x7 < x6)) (
    Ck (decide ((0 : Int) ≤ x7)) (
     Ck (decide (x7 < ((x5.length : Nat) : Int))) (
      ∃ r0 : Bool, SC P 65 [.agg [.int .i64 ((x5.getD x7.toNat (0, (0, 0))).1), .int .i64 (((x5.getD x7.toNat (0, (0, 0))).2).1), .int .i64 (((x5.getD x7.toNat (0, (0, 0))).2).2)], .one (.int .i64 x7)] [] [.one (.bool r0)] [] ∧
       Br (!r0) (
        Ret r lh [.one (.bool false)] []) (
        FL E H15 Try.f15 0 r lh 0 (S15_L0 l0 x5 x6 (IntKind.wrap .i64 (x7 + 1))))))) (
    ∃ r1 : Bool, SC P 66 [.one (.int .i64 ((l0.length : Nat) : Int)), .one (.int .i64 1), .one (.int .i64 16)] [] [.one (.bool r1)] [] ∧
     Ret r lh [.one (.bool r1)] [])) := by kernel_rfl
theorem l15 (l : List Step) (hl : l.length ≤ 1048576) : ∀ (n i : Nat), i + n = l.length → FL E H15 Try.f15 0 [.one (.bool (allR (fun i => stepOk (hAt l i) (i : Int)) i n && inB (l.length : Int) 1 16))] [] 0 (S15_L0 l l (l.length : Int) (i : Int))
  | 0, i, h => by
    refine FL_of1 ?_
    rw [eq15_L0]
    exact Br_f (by omega) ⟨_, c66 _ _ _, by rw [allR, Bool.true_and], rfl⟩
  | n + 1, i, h => by
    refine FL_of1 ?_
    rw [eq15_L0, wS (by omega)]
    simp only [Int.toNat_natCast]
    refine Br_t (by omega) (Ck_d (by omega) (Ck_d (by omega) ⟨_, c65 (hAt l i) (i : Int) (by omega) (by omega), Br_nb (fun e => ?_) (fun e => ?_)⟩))
    · exact ⟨by rw [allR_f e, Bool.false_and], rfl⟩
    · rw [allR_t e]
      exact l15 l hl n (i + 1) (by omega)
theorem c15 (l : List Step) (hl : l.length ≤ 1048576) : SC P 15 [.one (.ro (.pair (.int .i64) (.pair (.int .i64) (.int .i64))) l)] [] [.one (.bool (progOk l))] [] := by
  refine SC_of_FB (H := H15) E_ok Try.func15 (by kernel_rfl) ?_
  rw [eq15]
  exact l15 l hl l.length 0 (by omega)

/-! loop.example/keelson/spec.ProgOk -/
def H16 : Hint := ⟨[[(0, 0, .bool), (3, 0, .bool)]], [], [], [], [], [], []⟩
def S16_L0 (l0 : List (Int × (Int × Int))) (i3 : Int) : St := ⟨[(0, .w (.one (.ro (.pair (.int .i64) (.pair (.int .i64) (.int .i64))) l0))), (3, .w (.one (.int .i64 i3)))], []⟩
theorem eq16 (l : List (Int × (Int × Int))) (r : List W) (lh : Heap) : FB E H16 Try.f16 [.one (.ro (.pair (.int .i64) (.pair (.int .i64) (.int .i64))) l)] [] r lh =
  (
   FL E H16 Try.f16 0 r lh 0 (S16_L0 l 0)) := by kernel_rfl
theorem eq16_L0 (l0 : List (Int × (Int × Int))) (i3 : Int) (r : List W) (lh : Heap) : FL1 E H16 Try.f16 0 r lh 0 (S16_L0 l0 i3) =
  (
   Br (decide (i3 < ((l0.length : Nat) : Int))) (
    Ck (decide ((0 : Int) ≤ i3)) (
     Ck (decide (i3 < ((l0.length : Nat) : Int))) (
      Br (decide ((l0.getD i3.toNat (0, (0, 0))).1 = (1 : Int))) (
       ∃ r0 : Bool, SC P 67 [.one (.int .i64 (((l0.getD i3.toNat (0, (0, 0))).2).1)), .one (.int .i64 0), .one (.int .i64 7)] [] [.one (.bool r0)] [] ∧
        Br (!r0) (
         Ret r lh [.one (.bool false)] []) (
         Br (!(decide (((l0.getD i3.toNat (0, (0, 0))).2).2 = (0 : Int)))) (
          Ret r lh [.one (.bool false)] []) (
          FL E H16 Try.f16 0 r lh 0 (S16_L0 l0 (IntKind.wrap .i64 (i3 + 1)))))) (
       Br (decide ((l0.getD i3.toNat (0, (0, 0))).1 = (2 : Int))) (
        ∃ r1 : Bool, SC P 67 [.one (.int .i64 (((l0.getD i3.toNat (0, (0, 0))).2).1)), .one (.int .i64 0), .one (.int .i64 (IntKind.wrap .i64 (i3 - 1)))] [] [.one (.bool r1)] [] ∧
         Br (!r1) (
          Ret r lh [.one (.bool false)] []) (
          ∃ r2 : Bool, SC P 68 [.one (.int .i64 (((l0.getD i3.toNat (0, (0, 0))).2).2))] [] [.one (.bool r2)] [] ∧
           Br (!r2) (
            Ret r lh [.one (.bool false)] []) (
            FL E H16 Try.f16 0 r lh 0 (S16_L0 l0 (IntKind.wrap .i64 (i3 + 1)))))) (
        Br (decide ((l0.getD i3.toNat (0, (0, 0))).1 = (3 : Int))) (
         ∃ r3 : Bool, SC P 67 [.one (.int .i64 (((l0.getD i3.toNat (0, (0, 0))).2).1)), .one (.int .i64 0), .one (.int .i64 (IntKind.wrap .i64 (i3 - 1)))] [] [.one (.bool r3)] [] ∧
          Br (!r3) (
           Ret r lh [.one (.bool false)] []) (
           ∃ r4 : Bool, SC P 67 [.one (.int .i64 (((l0.getD i3.toNat (0, (0, 0))).2).2)), .one (.int .i64 0), .one (.int .i64 (IntKind.wrap .i64 (i3 - 1)))] [] [.one (.bool r4)] [] ∧
            Br (!r4) (
             Ret r lh [.one (.bool false)] []) (
             FL E H16 Try.f16 0 r lh 0 (S16_L0 l0 (IntKind.wrap .i64 (i3 + 1)))))) (
         Ret r lh [.one (.bool false)] [])))))) (
    ∃ r5 : Bool, SC P 67 [.one (.int .i64 ((l0.length : Nat) : Int)), .one (.int .i64 1), .one (.int .i64 16)] [] [.one (.bool r5)] [] ∧
     Ret r lh [.one (.bool r5)] [])) := by kernel_rfl
theorem l16 (l : List Step) (hl : l.length ≤ 1048576) : ∀ (n i : Nat), i + n = l.length → FL E H16 Try.f16 0 [.one (.bool (allR (fun i => stepOk (hAt l i) (i : Int)) i n && inB (l.length : Int) 1 16))] [] 0 (S16_L0 l (i : Int))
  | 0, i, h => by
    refine FL_of1 ?_
    rw [eq16_L0]
    exact Br_f (by omega) ⟨_, c67 _ _ _, by rw [allR, Bool.true_and], rfl⟩
  | n + 1, i, h => by
    have no : stepOk (hAt l i) (i : Int) = false → [W.one (.bool false)] = [W.one (.bool (allR (fun i => stepOk (hAt l i) (i : Int)) i (n + 1) && inB (l.length : Int) 1 16))] := fun e => by rw [allR_f e, Bool.false_and]
    refine FL_of1 ?_
    rw [eq16_L0, wS (by omega), wrap64 (n := (i : Int) - 1) (by omega) (by omega)]
    simp only [Int.toNat_natCast]
    have ih := l16 l hl n (i + 1) (by omega)
    refine Br_t (by omega) (Ck_d (by omega) (Ck_d (by omega) ?_))
    refine Br_d (fun c => ⟨_, c67 _ _ _, Br_nb (fun e => ⟨no ?_, rfl⟩) (fun e => Br_nd (fun e2 => ⟨no ?_, rfl⟩) (fun e2 => ?_))⟩) (fun c => ?_)
    · rw [stepOk, show decide ((hAt l i).1 = 1) = true from decide_eq_true c, cond_true]; exact (by rw [show inB (hAt l i).2.1 0 7 = false from e]; rfl)
    · rw [stepOk, show decide ((hAt l i).1 = 1) = true from decide_eq_true c, cond_true, show inB (hAt l i).2.1 0 7 = true from e, Bool.true_and]; exact decide_eq_false e2
    · rw [allR_t (by rw [stepOk, show decide ((hAt l i).1 = 1) = true from decide_eq_true c, cond_true, show inB (hAt l i).2.1 0 7 = true from e, Bool.true_and]; exact decide_eq_true e2)]
      exact ih
    refine Br_d (fun c2 => ⟨_, c67 _ _ _, Br_nb (fun e => ⟨no ?_, rfl⟩) (fun e => ⟨_, c68 _, Br_nb (fun e2 => ⟨no ?_, rfl⟩) (fun e2 => ?_)⟩)⟩) (fun c2 => ?_)
    · rw [stepOk, show decide ((hAt l i).1 = 1) = false from decide_eq_false c, cond_false, show decide ((hAt l i).1 = 2) = true from decide_eq_true c2, cond_true, show inB (hAt l i).2.1 0 ((i : Int) - 1) = false from e]; rfl
    · rw [stepOk, show decide ((hAt l i).1 = 1) = false from decide_eq_false c, cond_false, show decide ((hAt l i).1 = 2) = true from decide_eq_true c2, cond_true, show inB (hAt l i).2.1 0 ((i : Int) - 1) = true from e, Bool.true_and]; exact e2
    · rw [allR_t (by rw [stepOk, show decide ((hAt l i).1 = 1) = false from decide_eq_false c, cond_false, show decide ((hAt l i).1 = 2) = true from decide_eq_true c2, cond_true, show inB (hAt l i).2.1 0 ((i : Int) - 1) = true from e, Bool.true_and]; exact e2)]
      exact ih
    refine Br_d (fun c3 => ⟨_, c67 _ _ _, Br_nb (fun e => ⟨no ?_, rfl⟩) (fun e => ⟨_, c67 _ _ _, Br_nb (fun e2 => ⟨no ?_, rfl⟩) (fun e2 => ?_)⟩)⟩) (fun c3 => ⟨no ?_, rfl⟩)
    · rw [stepOk, show decide ((hAt l i).1 = 1) = false from decide_eq_false c, cond_false, show decide ((hAt l i).1 = 2) = false from decide_eq_false c2, cond_false, show decide ((hAt l i).1 = 3) = true from decide_eq_true c3, cond_true, show inB (hAt l i).2.1 0 ((i : Int) - 1) = false from e]; rfl
    · rw [stepOk, show decide ((hAt l i).1 = 1) = false from decide_eq_false c, cond_false, show decide ((hAt l i).1 = 2) = false from decide_eq_false c2, cond_false, show decide ((hAt l i).1 = 3) = true from decide_eq_true c3, cond_true, show inB (hAt l i).2.1 0 ((i : Int) - 1) = true from e, Bool.true_and]; exact e2
    · rw [allR_t (by rw [stepOk, show decide ((hAt l i).1 = 1) = false from decide_eq_false c, cond_false, show decide ((hAt l i).1 = 2) = false from decide_eq_false c2, cond_false, show decide ((hAt l i).1 = 3) = true from decide_eq_true c3, cond_true, show inB (hAt l i).2.1 0 ((i : Int) - 1) = true from e, Bool.true_and]; exact e2)]
      exact ih
    · rw [stepOk, show decide ((hAt l i).1 = 1) = false from decide_eq_false c, cond_false, show decide ((hAt l i).1 = 2) = false from decide_eq_false c2, cond_false, show decide ((hAt l i).1 = 3) = false from decide_eq_false c3, cond_false]
theorem c16 (l : List Step) (hl : l.length ≤ 1048576) : SC P 16 [.one (.ro (.pair (.int .i64) (.pair (.int .i64) (.int .i64))) l)] [] [.one (.bool (progOk l))] [] := by
  refine SC_of_FB (H := H16) E_ok Try.func16 (by kernel_rfl) ?_
  rw [eq16]
  exact l16 l hl l.length 0 (by omega)
def progMany (l : List Step) (op : Int) : Nat := l.countP (fun s => decide (s.1 = op))
def progManyF (l : List Step) (op : Int) : Int := bif progOk l then (progMany l op : Int) else -1

/-! loop.example/keelson/spec.ProgMany -/
def H19 : Hint := ⟨[[(0, 0, .bool), (1, 0, .bool), (5, 0, .bool), (6, 0, .bool)]], [], [], [], [], [], []⟩
def S19_L0 (l0 : List (Int × (Int × Int))) (op1 : Int) (n5 : Int) (i6 : Int) : St := ⟨[(0, .w (.one (.ro (.pair (.int .i64) (.pair (.int .i64) (.int .i64))) l0))), (1, .w (.one (.int .i64 op1))), (5, .w (.one (.int .i64 n5))), (6, .w (.one (.int .i64 i6)))], []⟩
theorem eq19 (l : List (Int × (Int × Int))) (op : Int) (r : List W) (lh : Heap) : FB E H19 Try.f19 [.one (.ro (.pair (.int .i64) (.pair (.int .i64) (.int .i64))) l), .one (.int .i64 op)] [] r lh =
  (
   ∃ r0 : Bool, SC P 16 [.one (.ro (.pair (.int .i64) (.pair (.int .i64) (.int .i64))) l)] [] [.one (.bool r0)] [] ∧
    Br (!r0) (
     Ret r lh [.one (.int .i64 (-1))] []) (
     FL E H19 Try.f19 0 r lh 0 (S19_L0 l op 0 0))) := by kernel_rfl
theorem eq19_L0 (l0 : List (Int × (Int × Int))) (op1 : Int) (n5 : Int) (i6 : Int) (r : List W) (lh : Heap) : FL1 E H19 Try.f19 0 r lh 0 (S19_L0 l0 op1 n5 i6) =
  (
   Br (decide (i6 < ((l0.length : Nat) : Int))) (
    Ck (decide ((0 : Int) ≤ i6)) (
     Ck (decide (i6 < ((l0.length : Nat) : Int))) (
      Br (decide ((l0.getD i6.toNat (0, (0, 0))).1 = op1)) (
       FL E H19 Try.f19 0 r lh 0 (S19_L0 l0 op1 (IntKind.wrap .i64 (n5 + 1)) (IntKind.wrap .i64 (i6 + 1)))) (
       FL E H19 Try.f19 0 r lh 0 (S19_L0 l0 op1 n5 (IntKind.wrap .i64 (i6 + 1))))))) (
    Ret r lh [.one (.int .i64 n5)] [])) := by kernel_rfl
theorem l19 (l : List Step) (op : Int) (hl : l.length ≤ 1048576) : ∀ (n i m : Nat), i + n = l.length → m ≤ i → FL E H19 Try.f19 0 [.one (.int .i64 ((m + countR (fun j => decide ((l.getD j (0, 0, 0)).1 = op)) i n : Nat) : Int))] [] 0 (S19_L0 l op (m : Int) (i : Int))
  | 0, i, m, h, hm => by
    refine FL_of1 ?_
    rw [eq19_L0]
    exact Br_f (by omega) ⟨rfl, rfl⟩
  | n + 1, i, m, h, hm => by
    refine FL_of1 ?_
    rw [eq19_L0, wS (i := i) (by omega), wS (i := m) (by omega), countR]
    simp only [Int.toNat_natCast]
    refine Br_t (by omega) (Ck_d (by omega) (Ck_d (by omega) (Br_d (fun c => ?_) (fun c => ?_))))
    · rw [decide_eq_true c]
      have := l19 l op hl n (i + 1) (m + 1) (by omega) (by omega)
      rw [Nat.add_assoc] at this
      exact this
    · rw [decide_eq_false c]
      have := l19 l op hl n (i + 1) m (by omega) (by omega)
      rw [show ∀ q : Nat, (bif false then 1 else 0) + q = q from fun q => Nat.zero_add q]
      exact this
theorem c19 (l : List Step) (op : Int) (hl : l.length ≤ 1048576) : SC P 19 [.one (.ro (.pair (.int .i64) (.pair (.int .i64) (.int .i64))) l), .one (.int .i64 op)] [] [.one (.int .i64 (progManyF l op))] [] := by
  refine SC_of_FB (H := H19) E_ok Try.func19 (by kernel_rfl) ?_
  rw [eq19]
  refine ⟨_, c16 l hl, Br_nb (fun e => ⟨by rw [progManyF, e]; rfl, rfl⟩) (fun e => ?_)⟩
  have := l19 l op hl l.length 0 0 (by omega) (by omega)
  rw [countR_countP (l := l) (z := (0, 0, 0)) (fun s => decide (s.1 = op)), Nat.zero_add] at this
  rw [progManyF, e]
  exact this

/-! loop.example/keelson/impl.ProgMany -/
def H18 : Hint := ⟨[[(1, 0, .bool), (5, 0, .bool), (11, 0, .bool), (12, 0, .bool), (13, 0, .bool)]], [], [], [], [], [], []⟩
def S18_L0 (op1 : Int) (many5 : Int) (x11 : List (Int × (Int × Int))) (x12 : Int) (x13 : Int) : St := ⟨[(1, .w (.one (.int .i64 op1))), (5, .w (.one (.int .i64 many5))), (11, .w (.one (.ro (.pair (.int .i64) (.pair (.int .i64) (.int .i64))) x11))), (12, .w (.one (.int .i64 x12))), (13, .w (.one (.int .i64 x13)))], []⟩
theorem eq18 (l : List (Int × (Int × Int))) (op : Int) (r : List W) (lh : Heap) : FB E H18 Try.f18 [.one (.ro (.pair (.int .i64) (.pair (.int .i64) (.int .i64))) l), .one (.int .i64 op)] [] r lh =
  (
   ∃ r0 : Bool, SC P 15 [.one (.ro (.pair (.int .i64) (.pair (.int .i64) (.int .i64))) l)] [] [.one (.bool r0)] [] ∧
    Br (!r0) (
     Ret r lh [.one (.int .i64 (-1))] []) (
     FL E H18 Try.f18 0 r lh 0 (S18_L0 op 0 l ((l.length : Nat) : Int) 0))) := by kernel_rfl
theorem eq18_L0 (op1 : Int) (many5 : Int) (x11 : List (Int × (Int × Int))) (x12 : Int) (x13 : Int) (r : List W) (lh : Heap) : FL1 E H18 Try.f18 0 r lh 0 (S18_L0 op1 many5 x11 x12 x13) =
  (
   Br (decide (x13 < x12)) (
    Ck (decide ((0 : Int) ≤ x13)) (
     Ck (decide (x13 < ((x11.length : Nat) : Int))) (
      Br (decide ((x11.getD x13.toNat (0, (0, 0))).1 = op1)) (
       FL E H18 Try.f18 0 r lh 0 (S18_L0 op1 (IntKind.wrap .i64 (many5 + 1)) x11 x12 (IntKind.wrap .i64 (x13 + 1)))) (
       FL E H18 Try.f18 0 r lh 0 (S18_L0 op1 many5 x11 x12 (IntKind.wrap .i64 (x13 + 1))))))) (
    Ret r lh [.one (.int .i64 many5)] [])) := by kernel_rfl
theorem l18 (l : List Step) (op : Int) (hl : l.length ≤ 1048576) : ∀ (n i m : Nat), i + n = l.length → m ≤ i → FL E H18 Try.f18 0 [.one (.int .i64 ((m + countR (fun j => decide ((l.getD j (0, 0, 0)).1 = op)) i n : Nat) : Int))] [] 0 (S18_L0 op (m : Int) l (l.length : Int) (i : Int))
  | 0, i, m, h, hm => by
    refine FL_of1 ?_
    rw [eq18_L0]
    exact Br_f (by omega) ⟨rfl, rfl⟩
  | n + 1, i, m, h, hm => by
    refine FL_of1 ?_
    rw [eq18_L0, wS (i := i) (by omega), wS (i := m) (by omega), countR]
    simp only [Int.toNat_natCast]
    refine Br_t (by omega) (Ck_d (by omega) (Ck_d (by omega) (Br_d (fun c => ?_) (fun c => ?_))))
    · rw [decide_eq_true c]
      have := l18 l op hl n (i + 1) (m + 1) (by omega) (by omega)
      rw [Nat.add_assoc] at this
      exact this
    · rw [decide_eq_false c]
      have := l18 l op hl n (i + 1) m (by omega) (by omega)
      rw [show ∀ q : Nat, (bif false then 1 else 0) + q = q from fun q => Nat.zero_add q]
      exact this
theorem c18 (l : List Step) (op : Int) (hl : l.length ≤ 1048576) : SC P 18 [.one (.ro (.pair (.int .i64) (.pair (.int .i64) (.int .i64))) l), .one (.int .i64 op)] [] [.one (.int .i64 (progManyF l op))] [] := by
  refine SC_of_FB (H := H18) E_ok Try.func18 (by kernel_rfl) ?_
  rw [eq18]
  refine ⟨_, c15 l hl, Br_nb (fun e => ⟨by rw [progManyF, e]; rfl, rfl⟩) (fun e => ?_)⟩
  have := l18 l op hl l.length 0 0 (by omega) (by omega)
  rw [countR_countP (l := l) (z := (0, 0, 0)) (fun s => decide (s.1 = op)), Nat.zero_add] at this
  rw [progManyF, e]
  exact this

def stepQ {α : Type} (ld : Int → α) (tm : α → Int → α) (pl : α → α → α) (z : α) (n : List α) (s : Step) : α :=
  bif decide (s.1 = 1) then ld s.2.1 else bif decide (s.1 = 2) then tm (n.getD s.2.1.toNat z) s.2.2 else pl (n.getD s.2.1.toNat z) (n.getD s.2.2.toNat z)
def runV {α : Type} (ld : Int → α) (tm : α → Int → α) (pl : α → α → α) (z : α) : List Step → List α → List α
  | [], n => n
  | s :: l, n => runV ld tm pl z l (n ++ [stepQ ld tm pl z n s])
def runF {α : Type} (ld : Int → α) (tm : α → Int → α) (pl : α → α → α) (z : α) (l : List Step) : α := (runV ld tm pl z l []).getD (l.length - 1) z
def timesE (a c : Int) : Int := a * c % 31
def plusE (a b : Int) : Int := (a + b) % 31
theorem prog_step {l : List Step} (h : progOk l = true) {i : Nat} (hi : i < l.length) : stepOk (hAt l i) (i : Int) = true := by
  rw [progOk, Bool.and_eq_true, allR_iff] at h
  exact h.1 i (Nat.zero_le _) (by omega)
theorem prog_len {l : List Step} (h : progOk l = true) : 1 ≤ l.length ∧ l.length ≤ 16 := by
  rw [progOk, Bool.and_eq_true, inB_iff] at h
  omega
theorem step_cases {s : Step} {i : Nat} (h : stepOk s (i : Int) = true) : (s.1 = 1 ∧ 0 ≤ s.2.1 ∧ s.2.1 ≤ 7) ∨ (s.1 ≠ 1 ∧ s.1 = 2 ∧ 0 ≤ s.2.1 ∧ s.2.1 < i ∧ FOk s.2.2) ∨ (s.1 ≠ 1 ∧ s.1 ≠ 2 ∧ 0 ≤ s.2.1 ∧ s.2.1 < i ∧ 0 ≤ s.2.2 ∧ s.2.2 < i) := by
  rw [stepOk] at h
  by_cases c1 : s.1 = 1
  · rw [decide_eq_true c1, cond_true, Bool.and_eq_true, inB_iff] at h
    exact .inl ⟨c1, h.1⟩
  · rw [decide_eq_false c1, cond_false] at h
    by_cases c2 : s.1 = 2
    · rw [decide_eq_true c2, cond_true, Bool.and_eq_true, inB_iff, inB_iff] at h
      exact .inr (.inl ⟨c1, c2, h.1.1, by omega, h.2⟩)
    · rw [decide_eq_false c2, cond_false] at h
      by_cases c3 : s.1 = 3
      · rw [decide_eq_true c3, cond_true, Bool.and_eq_true, inB_iff, inB_iff] at h
        exact .inr (.inr ⟨c1, c2, h.1.1, by omega, h.2.1, by omega⟩)
      · rw [decide_eq_false c3, cond_false] at h
        cases h
theorem getD_all {α : Type} {q : α → Prop} {n : List α} {z : α} (h : ∀ x ∈ n, q x) (hz : q z) (i : Nat) : q (n.getD i z) := by
  by_cases hi : i < n.length
  · rw [getD_eq hi]; exact h _ (List.getElem_mem hi)
  · rw [List.getD, List.getElem?_eq_none (by omega)]; exact hz
theorem valsOk_iff {l : List Int} : valsOk l = true ↔ l.length = 8 ∧ ∀ x ∈ l, FOk x := by
  rw [valsOk, Bool.and_eq_true, decide_eq_true_iff, List.all_eq_true]
  simp only [inB_iff, FOk]
theorem Br_ne {b : Bool} {A B : Prop} (h : B) : Br (b != b) A B := by cases b <;> exact h
def progRunF (l : List Step) (vals : List Int) : Int := bif progOk l && valsOk vals then runF (fun a => vals.getD a.toNat 0) timesE plusE 0 l else 0
def progRowV (kind : Int) (l : List Step) : V4 := runF (fun a => rowV kind a) vtimes vplus (0, 0, 0, 0) l
def progRowF (kind : Int) (l : List Step) : List Int := bif inB kind 1 2 && progOk l then (progRowV kind l).l else []
theorem progRowF_len {kind : Int} {l : List Step} : (progRowF kind l).length ≤ 4 := by
  rw [progRowF]
  cases inB kind 1 2 && progOk l
  · simp
  · exact Nat.le_refl _

/-! loop.example/keelson/spec.l4Vals -/
def H75 : Hint := ⟨[[(0, 0, .bool), (1, 0, .bool), (5, 0, .bool)]], [], [], [], [], [], []⟩
def S75_L0 (vals0 : List Int) (there1 : List Bool) (i5 : Int) : St := ⟨[(0, .w (.one (.ro (.int .i64) vals0))), (1, .w (.one (.ro .bool there1))), (5, .w (.one (.int .i64 i5)))], []⟩
theorem eq75 (vals : List Int) (there : List Bool) (r : List W) (lh : Heap) : FB E H75 Try.f75 [.one (.ro (.int .i64) vals), .one (.ro .bool there)] [] r lh =
  (
   FL E H75 Try.f75 0 r lh 0 (S75_L0 vals there 0)) := by kernel_rfl
theorem eq75_L0 (vals0 : List Int) (there1 : List Bool) (i5 : Int) (r : List W) (lh : Heap) : FL1 E H75 Try.f75 0 r lh 0 (S75_L0 vals0 there1 i5) =
  (
   Br (decide (i5 < ((vals0.length : Nat) : Int))) (
    Ck (decide ((0 : Int) ≤ i5)) (
     Ck (decide (i5 < ((vals0.length : Nat) : Int))) (
      ∃ r0 : Bool, SC P 68 [.one (.int .i64 (vals0.getD i5.toNat 0))] [] [.one (.bool r0)] [] ∧
       Br (!r0) (
        Ret r lh [.one (.bool false)] []) (
        FL E H75 Try.f75 0 r lh 0 (S75_L0 vals0 there1 (IntKind.wrap .i64 (i5 + 1))))))) (
    Br (decide (((vals0.length : Nat) : Int) = (8 : Int))) (
     Ret r lh [.one (.bool (decide (((there1.length : Nat) : Int) = (8 : Int))))] []) (
     Ret r lh [.one (.bool false)] []))) := by kernel_rfl
theorem l75 (l : List Int) (t : List Bool) (hl : l.length ≤ 1048576) : ∀ (n i : Nat), i + n = l.length → FL E H75 Try.f75 0 [.one (.bool ((decide (l.length = 8) && allR (fun j => inB (l.getD j 0) 0 30) i n) && decide (t.length = 8)))] [] 0 (S75_L0 l t (i : Int))
  | 0, i, h => by
    refine FL_of1 ?_
    rw [eq75_L0, allR, Bool.and_true]
    refine Br_f (by omega) (Br_d (fun c => ⟨?_, rfl⟩) (fun c => ⟨?_, rfl⟩))
    · rw [decide_eq_true (show l.length = 8 by omega), Bool.true_and]
      congr 3
      exact decide_eq_decide.2 (by omega)
    · rw [decide_eq_false (show ¬ l.length = 8 by omega), Bool.false_and]
  | n + 1, i, h => by
    refine FL_of1 ?_
    rw [eq75_L0, wS (by omega)]
    simp only [Int.toNat_natCast]
    refine Br_t (by omega) (Ck_d (by omega) (Ck_d (by omega) ⟨_, c68 _, Br_nb (fun h1 => ?_) (fun h1 => ?_)⟩))
    · exact ⟨by rw [allR_f h1, Bool.and_false, Bool.false_and], rfl⟩
    · rw [allR_t h1]
      exact l75 l t hl n (i + 1) (by omega)
theorem c75 (l : List Int) (t : List Bool) (hl : l.length ≤ 1048576) : SC P 75 [.one (.ro (.int .i64) l), .one (.ro .bool t)] [] [.one (.bool (valsOk l && decide (t.length = 8)))] [] := by
  refine SC_of_FB (H := H75) E_ok Try.func75 (by kernel_rfl) ?_
  rw [eq75]
  have := l75 l t hl l.length 0 (by omega)
  rw [allR_all (fun n => inB n 0 30) l 0] at this
  exact this

/-! loop.example/keelson/spec.FieldMul -/
def H76 : Hint := ⟨[], [], [], [], [], [], []⟩
theorem eq76 (a : Int) (b : Int) (r : List W) (lh : Heap) : FB E H76 Try.f76 [.one (.int .i64 a), .one (.int .i64 b)] [] r lh =
  (
   ∃ r0 : Bool, SC P 68 [.one (.int .i64 a)] [] [.one (.bool r0)] [] ∧
    Br (!r0) (
     Ret r lh [.one (.int .i64 0)] []) (
     ∃ r1 : Bool, SC P 68 [.one (.int .i64 b)] [] [.one (.bool r1)] [] ∧
      Br (!r1) (
       Ret r lh [.one (.int .i64 0)] []) (
       Ret r lh [.one (.int .i64 (Int.tmod (IntKind.wrap .i64 (a * b)) 31))] []))) := by kernel_rfl
theorem c76 (a b : Int) (ha : FOk a) (hb : FOk b) : SC P 76 [.one (.int .i64 a), .one (.int .i64 b)] [] [.one (.int .i64 (a * b % 31))] [] := by
  refine SC_of_FB (H := H76) E_ok Try.func76 (by kernel_rfl) ?_
  rw [eq76]
  have := fok_mul ha hb
  rw [wrap64 (by omega) (by omega), Int.tmod_eq_emod_of_nonneg (by omega)]
  exact ⟨_, c68 a, Br_nb (fun e => by rw [inB_iff.2 ha] at e; cases e) (fun _ => ⟨_, c68 b, Br_nb (fun e => by rw [inB_iff.2 hb] at e; cases e) (fun _ => ⟨rfl, rfl⟩)⟩)⟩

/-! loop.example/keelson/spec.l2Scale -/
def H87v : Hint := ⟨[[(0, 0, .bool), (1, 0, .bool), (5, 0, .bool), (6, 0, .bool)]], [], [], [], [], [], []⟩
def S87v_L0 (v0 : List Int) (c1 : Int) (i6 : Int) (h0 : List Int) : St := ⟨[(0, .w (.one (.ro (.int .i64) v0))), (1, .w (.one (.int .i64 c1))), (5, .w (.one (.sl 0 none))), (6, .w (.one (.int .i64 i6)))], [.row (.int .i64) h0 .own]⟩
theorem eq87v (v : List Int) (c : Int) (r : List W) (lh : Heap) : FB E H87v Try.f87 [.one (.ro (.int .i64) v), .one (.int .i64 c)] [] r lh =
  (
   FL E H87v Try.f87 0 r lh 0 (S87v_L0 v c 0 [])) := by kernel_rfl
theorem eq87v_L0 (v0 : List Int) (c1 : Int) (i6 : Int) (h0 : List Int) (r : List W) (lh : Heap) : FL1 E H87v Try.f87 0 r lh 0 (S87v_L0 v0 c1 i6 h0) =
  (
   Br (decide (i6 < ((v0.length : Nat) : Int))) (
    Ck (decide ((0 : Int) ≤ i6)) (
     Ck (decide (i6 < ((v0.length : Nat) : Int))) (
      Ck (Nat.ble ((h0.length + 1) * 8) roomy) (
       FL E H87v Try.f87 0 r lh 0 (S87v_L0 v0 c1 (IntKind.wrap .i64 (i6 + 1)) (h0 ++ [(Int.tmod (IntKind.wrap .i64 ((v0.getD i6.toNat 0) * c1)) 31)])))))) (
    Ret r lh [.one (.sl 0 none)] [.row (.int .i64) h0 .own])) := by kernel_rfl
theorem l87v (v : V4) (c : Int) (hv : VOk v) (hc : FOk c) : ∀ (n i : Nat) (out : List Int), i + n = 4 → out.length = i → FL E H87v Try.f87 0 [.one (.sl 0 none)] [.row (.int .i64) (out ++ mapR (fun j => v.l.getD j 0 * c % 31) i n) .own] 0 (S87v_L0 v.l c (i : Int) out)
  | 0, i, out, h, ho => by
    have hvl : v.l.length = 4 := rfl
    refine FL_of1 ?_
    rw [eq87v_L0]
    exact Br_f (by omega) ⟨rfl, by rw [mapR, List.append_nil]⟩
  | n + 1, i, out, h, ho => by
    have hvl : v.l.length = 4 := rfl
    have hm := fok_mul (vok_get hv i) hc
    refine FL_of1 ?_
    rw [eq87v_L0, wS (by omega), mapR]
    simp only [Int.toNat_natCast]
    rw [wrap64 (n := v.l.getD i 0 * c) (by omega) (by omega), Int.tmod_eq_emod_of_nonneg hm.1]
    refine Br_t (by omega) (Ck_d (by omega) (Ck_d (by omega) (Ck_room (by omega) ?_)))
    have := l87v v c hv hc n (i + 1) (out ++ [v.l.getD i 0 * c % 31]) (by omega) (by simp; omega)
    rw [List.append_assoc] at this
    exact this
theorem c87v (v : V4) (c : Int) (hv : VOk v) (hc : FOk c) : SC P 87 [.one (.ro (.int .i64) v.l), .one (.int .i64 c)] [] [.one (.sl 0 none)] [.row (.int .i64) (vtimes v c).l .own] := by
  refine SC_of_FB (H := H87v) E_ok Try.func87 (by kernel_rfl) ?_
  rw [eq87v]
  exact l87v v c hv hc 4 0 [] (by omega) rfl

/-! loop.example/keelson/spec.l2Sum -/
def H88v : Hint := ⟨[[(0, 0, .bool), (1, 0, .bool), (5, 0, .bool), (6, 0, .bool)]], [], [(5, [0, 1, 2, 3, 4, 5, 6, 7, 8, 9, 10, 11, 12, 13])], [], [], [], []⟩
def S88v_L0 (a0 : List Int) (b1 : List Int) (i6 : Int) (h0 : List Int) : St := ⟨[(0, .w (.one (.ro (.int .i64) a0))), (1, .w (.one (.ro (.int .i64) b1))), (5, .w (.one (.sl 0 none))), (6, .w (.one (.int .i64 i6)))], [.row (.int .i64) h0 .own]⟩
theorem eq88v (a : List Int) (b : List Int) (r : List W) (lh : Heap) : FB E H88v Try.f88 [.one (.ro (.int .i64) a), .one (.ro (.int .i64) b)] [] r lh =
  (
   FL E H88v Try.f88 0 r lh 0 (S88v_L0 a b 0 [])) := by kernel_rfl
theorem eq88v_L0 (a0 : List Int) (b1 : List Int) (i6 : Int) (h0 : List Int) (r : List W) (lh : Heap) : FL1 E H88v Try.f88 0 r lh 0 (S88v_L0 a0 b1 i6 h0) =
  (
   Br (decide (i6 < ((a0.length : Nat) : Int))) (
    Ck (decide ((0 : Int) ≤ i6)) (
     Ck (decide (i6 < ((a0.length : Nat) : Int))) (
      Ck (decide ((0 : Int) ≤ i6)) (
       Ck (decide (i6 < ((b1.length : Nat) : Int))) (
        Ck (Nat.ble ((h0.length + 1) * 8) roomy) (
         FL E H88v Try.f88 0 r lh 0 (S88v_L0 a0 b1 (IntKind.wrap .i64 (i6 + 1)) (h0 ++ [(Int.tmod (IntKind.wrap .i64 ((a0.getD i6.toNat 0) + (b1.getD i6.toNat 0))) 31)])))))))) (
    Ret r lh [.one (.sl 0 none)] [.row (.int .i64) h0 .own])) := by kernel_rfl
theorem l88v (v u : V4) (hv : VOk v) (hu : VOk u) : ∀ (n i : Nat) (out : List Int), i + n = 4 → out.length = i → FL E H88v Try.f88 0 [.one (.sl 0 none)] [.row (.int .i64) (out ++ mapR (fun j => (v.l.getD j 0 + u.l.getD j 0) % 31) i n) .own] 0 (S88v_L0 v.l u.l (i : Int) out)
  | 0, i, out, h, ho => by
    have hvl : v.l.length = 4 := rfl
    refine FL_of1 ?_
    rw [eq88v_L0]
    exact Br_f (by omega) ⟨rfl, by rw [mapR, List.append_nil]⟩
  | n + 1, i, out, h, ho => by
    have hvl : v.l.length = 4 := rfl
    have hul : u.l.length = 4 := rfl
    obtain ⟨a0, a1⟩ := vok_get hv i
    obtain ⟨b0, b1⟩ := vok_get hu i
    refine FL_of1 ?_
    rw [eq88v_L0, wS (by omega), mapR]
    simp only [Int.toNat_natCast]
    rw [wrap64 (n := v.l.getD i 0 + u.l.getD i 0) (by omega) (by omega), Int.tmod_eq_emod_of_nonneg (by omega)]
    refine Br_t (by omega) (Ck_d (by omega) (Ck_d (by omega) (Ck_d (by omega) (Ck_d (by omega) (Ck_room (by omega) ?_)))))
    have := l88v v u hv hu n (i + 1) (out ++ [(v.l.getD i 0 + u.l.getD i 0) % 31]) (by omega) (by simp; omega)
    rw [List.append_assoc] at this
    exact this
theorem c88v (v u : V4) (hv : VOk v) (hu : VOk u) : SC P 88 [.one (.ro (.int .i64) v.l), .one (.ro (.int .i64) u.l)] [] [.one (.sl 0 none)] [.row (.int .i64) (vplus v u).l .own] := by
  refine SC_of_FB (H := H88v) E_ok Try.func88 (by kernel_rfl) ?_
  rw [eq88v]
  exact l88v v u hv hu 4 0 [] (by omega) rfl

/-! loop.example/keelson/impl.ProgRun$1 -/
def H80 : Hint := ⟨[], [], [], [], [], [], []⟩
theorem eq80 (i : Int) (vals : List Int) (r : List W) (lh : Heap) : FB E H80 Try.f80 [.one (.int .i64 i), .one (.ptr 0 0 0)] [.box [.ro (.int .i64) vals]] r lh =
  (
   Ck (decide ((0 : Int) ≤ i)) (
    Ck (decide (i < ((vals.length : Nat) : Int))) (
     Ret r lh [.one (.int .i64 (vals.getD i.toNat 0))] [.box [.ro (.int .i64) vals]]))) := by kernel_rfl
theorem c80 (i : Int) (vals : List Int) (h0 : 0 ≤ i) (h1 : i < vals.length) : SC P 80 [.one (.int .i64 i), .one (.ptr 0 0 0)] [.box [.ro (.int .i64) vals]] [.one (.int .i64 (vals.getD i.toNat 0))] [.box [.ro (.int .i64) vals]] := by
  refine SC_of_FB (H := H80) E_ok Try.func80 (by kernel_rfl) ?_
  rw [eq80]
  exact Ck_d h0 (Ck_d h1 ⟨rfl, rfl⟩)

/-! loop.example/keelson/impl.ProgRow$1 -/
def H91 : Hint := ⟨[], [], [], [], [], [], []⟩
theorem eq91 (i : Int) (kind : Int) (r : List W) (lh : Heap) : FB E H91 Try.f91 [.one (.int .i64 i), .one (.ptr 0 0 0)] [.row (.int .i64) [kind] .var] r lh =
  (
   ∃ r0 : Int × Int × Int × Int, SC P 92 [.one (.int .i64 kind), .one (.int .i64 i)] [] [.agg [.int .i64 r0.1, .int .i64 r0.2.1, .int .i64 r0.2.2.1, .int .i64 r0.2.2.2]] [] ∧
    Ret r lh [.agg [.int .i64 r0.1, .int .i64 r0.2.1, .int .i64 r0.2.2.1, .int .i64 r0.2.2.2]] [.row (.int .i64) [kind] .var]) := by kernel_rfl
theorem c91 (i kind : Int) (h0 : 0 ≤ i) (h1 : i ≤ 7) : SC P 91 [.one (.int .i64 i), .one (.ptr 0 0 0)] [.row (.int .i64) [kind] .var] [.agg [.int .i64 (rowV kind i).1, .int .i64 (rowV kind i).2.1, .int .i64 (rowV kind i).2.2.1, .int .i64 (rowV kind i).2.2.2]] [.row (.int .i64) [kind] .var] := by
  refine SC_of_FB (H := H91) E_ok Try.func91 (by kernel_rfl) ?_
  rw [eq91]
  exact ⟨rowV kind i, c92 kind i h0 h1, rfl, rfl⟩

theorem m83_95 : MethodIs P 95 "loop.example/keelson/impl.times" 83 := by
  intro v w
  kernel_rfl

theorem m82_95 : MethodIs P 95 "loop.example/keelson/impl.plus" 82 := by
  intro v w
  kernel_rfl

theorem m99_104 : MethodIs P 104 "loop.example/keelson/impl.times" 99 := by
  intro v w
  kernel_rfl

theorem m98_104 : MethodIs P 104 "loop.example/keelson/impl.plus" 98 := by
  intro v w
  kernel_rfl

/-! loop.example/keelson/impl.run[loop.example/keelson/impl.element] -/
def H79 : Hint := ⟨[[(1, 0, .bool), (5, 0, .bool), (11, 0, .bool), (12, 0, .bool), (13, 0, .bool)]], [], [(10, [0, 1, 2, 3, 4, 5, 6, 7, 8, 9, 10, 11, 12]), (6, [0, 1, 2, 3, 4, 5, 6, 7, 8, 9, 10, 11, 12, 13, 14, 15])], [(54, 83), (31, 82)], [], [], []⟩
def S79_L0 (x11 : List (Int × (Int × Int))) (x12 : Int) (x13 : Int) (b0_0 : List Int) (h1 : List Int) : St := ⟨[(1, .w (.one (.fn 80 [0]))), (5, .w (.one (.sl 1 none))), (11, .w (.one (.ro (.pair (.int .i64) (.pair (.int .i64) (.int .i64))) x11))), (12, .w (.one (.int .i64 x12))), (13, .w (.one (.int .i64 x13)))], [.box [.ro (.int .i64) b0_0], .row (.int .i64) h1 .own]⟩
theorem eq79 (l : List (Int × Int × Int)) (vals : List Int) (r : List W) (lh : Heap) : FB E H79 Try.f79 [.one (.ro (.pair (.int .i64) (.pair (.int .i64) (.int .i64))) l), .one (.fn 80 [0])] [.box [.ro (.int .i64) vals]] r lh =
  (
   Ck (decide ((0 : Int) ≤ ((l.length : Nat) : Int))) (
    Ck (decide (((l.length : Nat) : Int) * (8 : Nat) ≤ (roomy : Int))) (
     FL E H79 Try.f79 1 r lh 0 (S79_L0 l ((l.length : Nat) : Int) 0 vals [])))) := by kernel_rfl
theorem eq79_L0 (x11 : List (Int × (Int × Int))) (x12 : Int) (x13 : Int) (b0_0 : List Int) (h1 : List Int) (r : List W) (lh : Heap) : FL1 E H79 Try.f79 1 r lh 0 (S79_L0 x11 x12 x13 b0_0 h1) =
  (
   Br (decide (x13 < x12)) (
    Ck (decide ((0 : Int) ≤ x13)) (
     Ck (decide (x13 < ((x11.length : Nat) : Int))) (
      Br (decide ((x11.getD x13.toNat (0, (0, 0))).1 = (1 : Int))) (
       ∃ r0 : Int, SC P 80 [.one (.int .i64 (((x11.getD x13.toNat (0, (0, 0))).2).1)), .one (.ptr 0 0 0)] [.box [.ro (.int .i64) b0_0]] [.one (.int .i64 r0)] [.box [.ro (.int .i64) b0_0]] ∧
        Ck (Nat.ble ((h1.length + 1) * 8) roomy) (
         FL E H79 Try.f79 1 r lh 0 (S79_L0 x11 x12 (IntKind.wrap .i64 (x13 + 1)) b0_0 (h1 ++ [r0])))) (
       Br (decide ((x11.getD x13.toNat (0, (0, 0))).1 = (2 : Int))) (
        Ck (decide ((0 : Int) ≤ ((x11.getD x13.toNat (0, (0, 0))).2).1)) (
         Ck (decide (((x11.getD x13.toNat (0, (0, 0))).2).1 < ((h1.length : Nat) : Int))) (
          Ck (Nat.ble ((((x11.getD x13.toNat (0, (0, 0))).2).1).toNat + 1) h1.length) (
           MethodIs P 95 "loop.example/keelson/impl.times" 83 ∧
            ∃ r1 : Int, SC P 83 [.one (.int .i64 (h1.getD (((x11.getD x13.toNat (0, (0, 0))).2).1).toNat 0)), .one (.int .i64 (((x11.getD x13.toNat (0, (0, 0))).2).2))] [] [.one (.int .i64 r1)] [] ∧
             Ck (Nat.ble ((h1.length + 1) * 8) roomy) (
              FL E H79 Try.f79 1 r lh 0 (S79_L0 x11 x12 (IntKind.wrap .i64 (x13 + 1)) b0_0 (h1 ++ [r1]))))))) (
        Ck (decide ((0 : Int) ≤ ((x11.getD x13.toNat (0, (0, 0))).2).1)) (
         Ck (decide (((x11.getD x13.toNat (0, (0, 0))).2).1 < ((h1.length : Nat) : Int))) (
          Ck (Nat.ble ((((x11.getD x13.toNat (0, (0, 0))).2).1).toNat + 1) h1.length) (
           Ck (decide ((0 : Int) ≤ ((x11.getD x13.toNat (0, (0, 0))).2).2)) (
            Ck (decide (((x11.getD x13.toNat (0, (0, 0))).2).2 < ((h1.length : Nat) : Int))) (
             Ck (Nat.ble ((((x11.getD x13.toNat (0, (0, 0))).2).2).toNat + 1) h1.length) (
              MethodIs P 95 "loop.example/keelson/impl.plus" 82 ∧
               ∃ r2 : Int, SC P 82 [.one (.int .i64 (h1.getD (((x11.getD x13.toNat (0, (0, 0))).2).1).toNat 0)), .one (.int .i64 (h1.getD (((x11.getD x13.toNat (0, (0, 0))).2).2).toNat 0))] [] [.one (.int .i64 r2)] [] ∧
                Ck (Nat.ble ((h1.length + 1) * 8) roomy) (
                 FL E H79 Try.f79 1 r lh 0 (S79_L0 x11 x12 (IntKind.wrap .i64 (x13 + 1)) b0_0 (h1 ++ [r2])))))))))))))) (
    Ck (decide ((0 : Int) ≤ (IntKind.wrap .i64 (((h1.length : Nat) : Int) - 1)))) (
     Ck (decide ((IntKind.wrap .i64 (((h1.length : Nat) : Int) - 1)) < ((h1.length : Nat) : Int))) (
      Ck (Nat.ble ((IntKind.wrap .i64 (((h1.length : Nat) : Int) - 1)).toNat + 1) h1.length) (
       Ret r lh [.one (.int .i64 (h1.getD (IntKind.wrap .i64 (((h1.length : Nat) : Int) - 1)).toNat 0))] [.box [.ro (.int .i64) b0_0]]))))) := by kernel_rfl
theorem l79 (l : List Step) (vals : List Int) (hp : progOk l = true) (hv : valsOk vals = true) : ∀ (n i : Nat) (ns : List Int), i + n = l.length → ns.length = i → (∀ x ∈ ns, FOk x) →
    FL E H79 Try.f79 1 [.one (.int .i64 ((runV (fun a => vals.getD a.toNat 0) timesE plusE 0 (l.drop i) ns).getD (l.length - 1) 0))] [.box [.ro (.int .i64) vals]] 0 (S79_L0 l (l.length : Int) (i : Int) vals ns)
  | 0, i, ns, h, hn, hx => by
    have hl := prog_len hp
    refine FL_of1 ?_
    rw [eq79_L0, List.drop_eq_nil_of_le (show l.length ≤ i by omega), runV, wrap64 (n := (ns.length : Int) - 1) (by omega) (by omega), show ((ns.length : Int) - 1).toNat = l.length - 1 by omega]
    exact Br_f (by omega) (Ck_d (by omega) (Ck_d (by omega) (Ck_le (by omega) ⟨rfl, rfl⟩)))
  | n + 1, i, ns, h, hn, hx => by
    have hl := prog_len hp
    have hi : i < l.length := by omega
    have hs := step_cases (prog_step hp hi)
    obtain ⟨v8, vx⟩ := valsOk_iff.1 hv
    have ga := getD_all hx fok0
    refine FL_of1 ?_
    rw [eq79_L0, wS (by omega), drop_cons hi, runV, ← getD_eq (z := (0, 0, 0)) hi]
    simp only [Int.toNat_natCast]
    have go : ∀ y, FOk y → stepQ (fun a => vals.getD a.toNat 0) timesE plusE 0 ns (l.getD i (0, 0, 0)) = y →
        FL E H79 Try.f79 1 [.one (.int .i64 ((runV (fun a => vals.getD a.toNat 0) timesE plusE 0 (l.drop (i + 1)) (ns ++ [stepQ (fun a => vals.getD a.toNat 0) timesE plusE 0 ns (l.getD i (0, 0, 0))])).getD (l.length - 1) 0))] [.box [.ro (.int .i64) vals]] 0 (S79_L0 l (l.length : Int) ((i + 1 : Nat) : Int) vals (ns ++ [y])) := by
      intro y hy e
      rw [e]
      refine l79 l vals hp hv n (i + 1) (ns ++ [y]) (by omega) (by simp; omega) fun x hm => ?_
      rcases List.mem_append.1 hm with hm | hm
      · exact hx x hm
      · rw [List.mem_singleton.1 hm]; exact hy
    have hs : _ := hs
    rw [hAt] at hs
    rcases hs with ⟨c1, a0, a1⟩ | ⟨c1, c2, a0, a1, b⟩ | ⟨c1, c2, a0, a1, b0, b1⟩
    · exact Br_t (by omega) (Ck_d (by omega) (Ck_d (by omega) (Br_t c1 ⟨_, c80 _ vals a0 (by omega), Ck_room (by omega) (go _ (getD_all vx fok0 _) (by rw [stepQ, decide_eq_true c1, cond_true]))⟩)))
    · exact Br_t (by omega) (Ck_d (by omega) (Ck_d (by omega) (Br_f c1 (Br_t c2 (Ck_d a0 (Ck_d (by omega) (Ck_le (by omega) ⟨m83_95, _, c83 _ _ (ga _) b, Ck_room (by omega) (go _ (fok_mod _) (by rw [stepQ, decide_eq_false c1, cond_false, decide_eq_true c2, cond_true, timesE]))⟩)))))))
    · exact Br_t (by omega) (Ck_d (by omega) (Ck_d (by omega) (Br_f c1 (Br_f c2 (Ck_d a0 (Ck_d (by omega) (Ck_le (by omega) (Ck_d b0 (Ck_d (by omega) (Ck_le (by omega) ⟨m82_95, _, c82 _ _ (ga _) (ga _), Ck_room (by omega) (go _ (fok_mod _) (by rw [stepQ, decide_eq_false c1, cond_false, decide_eq_false c2, cond_false, plusE]))⟩))))))))))
theorem c79 (l : List Step) (vals : List Int) (hp : progOk l = true) (hv : valsOk vals = true) : SC P 79 [.one (.ro (.pair (.int .i64) (.pair (.int .i64) (.int .i64))) l), .one (.fn 80 [0])] [.box [.ro (.int .i64) vals]] [.one (.int .i64 (runF (fun a => vals.getD a.toNat 0) timesE plusE 0 l))] [.box [.ro (.int .i64) vals]] := by
  refine SC_of_FB (H := H79) E_ok Try.func79 (by kernel_rfl) ?_
  rw [eq79]
  have hl := prog_len hp
  have := l79 l vals hp hv l.length 0 [] (by omega) rfl (fun x hx => by cases hx)
  rw [List.drop_zero] at this
  exact Ck_d (by omega) (Ck_roomI (by omega) this)

/-! loop.example/keelson/impl.ProgRun -/
def H25 : Hint := ⟨[], [], [], [], [], [], []⟩
theorem eq25 (l : List (Int × (Int × Int))) (vals : List Int) (r : List W) (lh : Heap) : FB E H25 Try.f25 [.one (.ro (.pair (.int .i64) (.pair (.int .i64) (.int .i64))) l), .one (.ro (.int .i64) vals)] [] r lh =
  (
   ∃ r0 : Bool, SC P 15 [.one (.ro (.pair (.int .i64) (.pair (.int .i64) (.int .i64))) l)] [] [.one (.bool r0)] [] ∧
    Br (!r0) (
     Ret r lh [.one (.int .i64 0), .one (.bool false)] []) (
     ∃ r1 : Bool, SC P 78 [.one (.ro (.int .i64) vals)] [] [.one (.bool r1)] [] ∧
      Br (!r1) (
       Ret r lh [.one (.int .i64 0), .one (.bool false)] []) (
       ∃ r2 : Int, SC P 79 [.one (.ro (.pair (.int .i64) (.pair (.int .i64) (.int .i64))) l), .one (.fn 80 [0])] [.box [.ro (.int .i64) vals]] [.one (.int .i64 r2)] [.box [.ro (.int .i64) vals]] ∧
        Ret r lh [.one (.int .i64 r2), .one (.bool true)] []))) := by kernel_rfl
theorem c25 (l : List Step) (vals : List Int) (hl : l.length ≤ 1048576) (hv : vals.length ≤ 1048576) : SC P 25 [.one (.ro (.pair (.int .i64) (.pair (.int .i64) (.int .i64))) l), .one (.ro (.int .i64) vals)] [] [.one (.int .i64 (progRunF l vals)), .one (.bool (progOk l && valsOk vals))] [] := by
  refine SC_of_FB (H := H25) E_ok Try.func25 (by kernel_rfl) ?_
  rw [eq25]
  refine ⟨_, c15 l hl, Br_nb (fun e => ⟨by rw [progRunF, e]; rfl, rfl⟩) (fun e => ⟨_, c78 vals hv, Br_nb (fun e' => ⟨by rw [progRunF, e', Bool.and_false]; rfl, rfl⟩) (fun e' => ⟨_, c79 l vals e e', ?_, rfl⟩)⟩)⟩
  rw [progRunF, e, e']
  rfl

/-! loop.example/keelson/spec.ProgRun -/
def H24 : Hint := ⟨[[(0, 0, .bool), (1, 0, .bool), (6, 0, .bool), (7, 0, .bool)]], [], [(12, [0, 1, 2, 3, 4, 5, 6, 7, 8, 9, 10, 11, 12, 13, 14, 15, 16, 17]), (8, [0, 1, 2, 3, 4, 5, 6, 7, 8, 9, 10, 11, 12, 13, 14, 15, 16, 17, 18, 19, 20])], [], [], [], []⟩
def S24_L0 (l0 : List (Int × (Int × Int))) (vals1 : List Int) (i7 : Int) (h0 : List Int) : St := ⟨[(0, .w (.one (.ro (.pair (.int .i64) (.pair (.int .i64) (.int .i64))) l0))), (1, .w (.one (.ro (.int .i64) vals1))), (6, .w (.one (.sl 0 none))), (7, .w (.one (.int .i64 i7)))], [.row (.int .i64) h0 .own]⟩
theorem eq24 (l : List (Int × (Int × Int))) (vals : List Int) (r : List W) (lh : Heap) : FB E H24 Try.f24 [.one (.ro (.pair (.int .i64) (.pair (.int .i64) (.int .i64))) l), .one (.ro (.int .i64) vals)] [] r lh =
  (
   ∃ r0 : Bool, SC P 16 [.one (.ro (.pair (.int .i64) (.pair (.int .i64) (.int .i64))) l)] [] [.one (.bool r0)] [] ∧
    Br (!r0) (
     Ret r lh [.one (.int .i64 0), .one (.bool false)] []) (
     ∃ r1 : Bool, SC P 75 [.one (.ro (.int .i64) vals), .one (.ro .bool [false, false, false, false, false, false, false, false])] [] [.one (.bool r1)] [] ∧
      Br (!r1) (
       Ret r lh [.one (.int .i64 0), .one (.bool false)] []) (
       FL E H24 Try.f24 0 r lh 0 (S24_L0 l vals 0 [])))) := by kernel_rfl
theorem eq24_L0 (l0 : List (Int × (Int × Int))) (vals1 : List Int) (i7 : Int) (h0 : List Int) (r : List W) (lh : Heap) : FL1 E H24 Try.f24 0 r lh 0 (S24_L0 l0 vals1 i7 h0) =
  (
   Br (decide (i7 < ((l0.length : Nat) : Int))) (
    Ck (decide ((0 : Int) ≤ i7)) (
     Ck (decide (i7 < ((l0.length : Nat) : Int))) (
      Br (decide ((l0.getD i7.toNat (0, (0, 0))).1 = (1 : Int))) (
       Ck (decide ((0 : Int) ≤ i7)) (
        Ck (decide (i7 < ((l0.length : Nat) : Int))) (
         Ck (decide ((0 : Int) ≤ ((l0.getD i7.toNat (0, (0, 0))).2).1)) (
          Ck (decide (((l0.getD i7.toNat (0, (0, 0))).2).1 < ((vals1.length : Nat) : Int))) (
           Ck (Nat.ble ((h0.length + 1) * 8) roomy) (
            FL E H24 Try.f24 0 r lh 0 (S24_L0 l0 vals1 (IntKind.wrap .i64 (i7 + 1)) (h0 ++ [(vals1.getD (((l0.getD i7.toNat (0, (0, 0))).2).1).toNat 0)])))))))) (
       Br (decide ((l0.getD i7.toNat (0, (0, 0))).1 = (2 : Int))) (
        Ck (decide ((0 : Int) ≤ i7)) (
         Ck (decide (i7 < ((l0.length : Nat) : Int))) (
          Ck (decide ((0 : Int) ≤ ((l0.getD i7.toNat (0, (0, 0))).2).1)) (
           Ck (decide (((l0.getD i7.toNat (0, (0, 0))).2).1 < ((h0.length : Nat) : Int))) (
            Ck (Nat.ble ((((l0.getD i7.toNat (0, (0, 0))).2).1).toNat + 1) h0.length) (
             Ck (decide ((0 : Int) ≤ i7)) (
              Ck (decide (i7 < ((l0.length : Nat) : Int))) (
               ∃ r0 : Int, SC P 76 [.one (.int .i64 (h0.getD (((l0.getD i7.toNat (0, (0, 0))).2).1).toNat 0)), .one (.int .i64 (((l0.getD i7.toNat (0, (0, 0))).2).2))] [] [.one (.int .i64 r0)] [] ∧
                Ck (Nat.ble ((h0.length + 1) * 8) roomy) (
                 FL E H24 Try.f24 0 r lh 0 (S24_L0 l0 vals1 (IntKind.wrap .i64 (i7 + 1)) (h0 ++ [r0]))))))))))) (
        Ck (decide ((0 : Int) ≤ i7)) (
         Ck (decide (i7 < ((l0.length : Nat) : Int))) (
          Ck (decide ((0 : Int) ≤ ((l0.getD i7.toNat (0, (0, 0))).2).1)) (
           Ck (decide (((l0.getD i7.toNat (0, (0, 0))).2).1 < ((h0.length : Nat) : Int))) (
            Ck (Nat.ble ((((l0.getD i7.toNat (0, (0, 0))).2).1).toNat + 1) h0.length) (
             Ck (decide ((0 : Int) ≤ i7)) (
              Ck (decide (i7 < ((l0.length : Nat) : Int))) (
               Ck (decide ((0 : Int) ≤ ((l0.getD i7.toNat (0, (0, 0))).2).2)) (
                Ck (decide (((l0.getD i7.toNat (0, (0, 0))).2).2 < ((h0.length : Nat) : Int))) (
                 Ck (Nat.ble ((((l0.getD i7.toNat (0, (0, 0))).2).2).toNat + 1) h0.length) (
                  ∃ r1 : Int, SC P 77 [.one (.int .i64 (h0.getD (((l0.getD i7.toNat (0, (0, 0))).2).1).toNat 0)), .one (.int .i64 (h0.getD (((l0.getD i7.toNat (0, (0, 0))).2).2).toNat 0))] [] [.one (.int .i64 r1)] [] ∧
                   Ck (Nat.ble ((h0.length + 1) * 8) roomy) (
                    FL E H24 Try.f24 0 r lh 0 (S24_L0 l0 vals1 (IntKind.wrap .i64 (i7 + 1)) (h0 ++ [r1])))))))))))))))))) (
    Ck (decide ((0 : Int) ≤ (IntKind.wrap .i64 (((h0.length : Nat) : Int) - 1)))) (
     Ck (decide ((IntKind.wrap .i64 (((h0.length : Nat) : Int) - 1)) < ((h0.length : Nat) : Int))) (
      Ck (Nat.ble ((IntKind.wrap .i64 (((h0.length : Nat) : Int) - 1)).toNat + 1) h0.length) (
       Ret r lh [.one (.int .i64 (h0.getD (IntKind.wrap .i64 (((h0.length : Nat) : Int) - 1)).toNat 0)), .one (.bool true)] []))))) := by kernel_rfl
theorem l24 (l : List Step) (vals : List Int) (hp : progOk l = true) (hv : valsOk vals = true) : ∀ (n i : Nat) (ns : List Int), i + n = l.length → ns.length = i → (∀ x ∈ ns, FOk x) →
    FL E H24 Try.f24 0 [.one (.int .i64 ((runV (fun a => vals.getD a.toNat 0) timesE plusE 0 (l.drop i) ns).getD (l.length - 1) 0)), .one (.bool true)] [] 0 (S24_L0 l vals (i : Int) ns)
  | 0, i, ns, h, hn, hx => by
    have hl := prog_len hp
    refine FL_of1 ?_
    rw [eq24_L0, List.drop_eq_nil_of_le (show l.length ≤ i by omega), runV, wrap64 (n := (ns.length : Int) - 1) (by omega) (by omega), show ((ns.length : Int) - 1).toNat = l.length - 1 by omega]
    exact Br_f (by omega) (Ck_d (by omega) (Ck_d (by omega) (Ck_le (by omega) ⟨rfl, rfl⟩)))
  | n + 1, i, ns, h, hn, hx => by
    have hl := prog_len hp
    have hi : i < l.length := by omega
    have hs := step_cases (prog_step hp hi)
    obtain ⟨v8, vx⟩ := valsOk_iff.1 hv
    have ga := getD_all hx fok0
    refine FL_of1 ?_
    rw [eq24_L0, wS (by omega), drop_cons hi, runV, ← getD_eq (z := (0, 0, 0)) hi]
    simp only [Int.toNat_natCast]
    have go : ∀ y, FOk y → stepQ (fun a => vals.getD a.toNat 0) timesE plusE 0 ns (l.getD i (0, 0, 0)) = y →
        FL E H24 Try.f24 0 [.one (.int .i64 ((runV (fun a => vals.getD a.toNat 0) timesE plusE 0 (l.drop (i + 1)) (ns ++ [stepQ (fun a => vals.getD a.toNat 0) timesE plusE 0 ns (l.getD i (0, 0, 0))])).getD (l.length - 1) 0)), .one (.bool true)] [] 0 (S24_L0 l vals ((i + 1 : Nat) : Int) (ns ++ [y])) := by
      intro y hy e
      rw [e]
      refine l24 l vals hp hv n (i + 1) (ns ++ [y]) (by omega) (by simp; omega) fun x hm => ?_
      rcases List.mem_append.1 hm with hm | hm
      · exact hx x hm
      · rw [List.mem_singleton.1 hm]; exact hy
    rw [hAt] at hs
    rcases hs with ⟨c1, a0, a1⟩ | ⟨c1, c2, a0, a1, b⟩ | ⟨c1, c2, a0, a1, b0, b1⟩
    · exact Br_t (by omega) (Ck_d (by omega) (Ck_d (by omega) (Br_t c1 (Ck_d (by omega) (Ck_d (by omega) (Ck_d a0 (Ck_d (by omega) (Ck_room (by omega) (go _ (getD_all vx fok0 _) (by rw [stepQ, decide_eq_true c1, cond_true]))))))))))
    · exact Br_t (by omega) (Ck_d (by omega) (Ck_d (by omega) (Br_f c1 (Br_t c2 (Ck_d (by omega) (Ck_d (by omega) (Ck_d a0 (Ck_d (by omega) (Ck_le (by omega) (Ck_d (by omega) (Ck_d (by omega) (⟨_, c76 _ _ (ga _) b, Ck_room (by omega) (go _ (fok_mod _) (by rw [stepQ, decide_eq_false c1, cond_false, decide_eq_true c2, cond_true, timesE]))⟩))))))))))))
    · exact Br_t (by omega) (Ck_d (by omega) (Ck_d (by omega) (Br_f c1 (Br_f c2 (Ck_d (by omega) (Ck_d (by omega) (Ck_d a0 (Ck_d (by omega) (Ck_le (by omega) (Ck_d (by omega) (Ck_d (by omega) (Ck_d b0 (Ck_d (by omega) (Ck_le (by omega) (⟨_, c77 _ _ (ga _) (ga _), Ck_room (by omega) (go _ (fok_mod _) (by rw [stepQ, decide_eq_false c1, cond_false, decide_eq_false c2, cond_false, plusE]))⟩)))))))))))))))
theorem c24 (l : List Step) (vals : List Int) (hl : l.length ≤ 1048576) (hv : vals.length ≤ 1048576) : SC P 24 [.one (.ro (.pair (.int .i64) (.pair (.int .i64) (.int .i64))) l), .one (.ro (.int .i64) vals)] [] [.one (.int .i64 (progRunF l vals)), .one (.bool (progOk l && valsOk vals))] [] := by
  refine SC_of_FB (H := H24) E_ok Try.func24 (by kernel_rfl) ?_
  rw [eq24]
  refine ⟨_, c16 l hl, Br_nb (fun e => ⟨by rw [progRunF, e]; rfl, rfl⟩) (fun e => ⟨_, c75 vals _ hv, ?_⟩)⟩
  rw [show decide ([false, false, false, false, false, false, false, false].length = 8) = true from rfl, Bool.and_true]
  refine Br_nb (fun e' => ⟨by rw [progRunF, e', Bool.and_false]; rfl, rfl⟩) (fun e' => ?_)
  have := l24 l vals e e' l.length 0 [] (by omega) rfl (fun x hx => by cases hx)
  rw [List.drop_zero] at this
  rw [progRunF, e, e']
  exact this

/-! loop.example/keelson/impl.run[loop.example/keelson/impl.vector] -/
def H90 : Hint := ⟨[[(1, 0, .bool), (4, 0, .bool), (5, 0, .bool), (11, 0, .bool), (12, 0, .bool), (13, 0, .bool)]], [], [(10, [0, 1, 2, 3, 4, 5, 6, 7, 8, 9, 10, 11, 12]), (6, [0, 1, 2, 3, 4, 5, 6, 7, 8, 9, 10, 11, 12, 13, 14, 15])], [(54, 99), (31, 98)], [], [], []⟩
def S90_L0 (x11 : List (Int × (Int × Int))) (x12 : Int) (x13 : Int) (h0 : List Int) (h1 : List Int) (h2 : List (Int × (Int × (Int × Int)))) : St := ⟨[(1, .w (.one (.fn 91 [0]))), (4, .w (.one (.ptr 1 0 0))), (5, .w (.one (.sl 2 none))), (11, .w (.one (.ro (.pair (.int .i64) (.pair (.int .i64) (.int .i64))) x11))), (12, .w (.one (.int .i64 x12))), (13, .w (.one (.int .i64 x13)))], [.row (.int .i64) h0 .var, .row (.int .i64) h1 .var, .row (.pair (.int .i64) (.pair (.int .i64) (.pair (.int .i64) (.int .i64)))) h2 .own]⟩
theorem eq90 (l : List (Int × Int × Int)) (kind : Int) (r : List W) (lh : Heap) : FB E H90 Try.f90 [.one (.ro (.pair (.int .i64) (.pair (.int .i64) (.int .i64))) l), .one (.fn 91 [0])] [.row (.int .i64) [kind] .var] r lh =
  (
   Ck (decide ((0 : Int) ≤ ((l.length : Nat) : Int))) (
    Ck (decide (((l.length : Nat) : Int) * (32 : Nat) ≤ (roomy : Int))) (
     FL E H90 Try.f90 1 r lh 0 (S90_L0 l ((l.length : Nat) : Int) 0 [kind] [0, 0, 0, 0] [])))) := by kernel_rfl
theorem eq90_L0 (x11 : List (Int × (Int × Int))) (x12 : Int) (x13 : Int) (h0 : List Int) (h1 : List Int) (h2 : List (Int × (Int × (Int × Int)))) (r : List W) (lh : Heap) : FL1 E H90 Try.f90 1 r lh 0 (S90_L0 x11 x12 x13 h0 h1 h2) =
  (
   Br (decide (x13 < x12)) (
    Ck (decide ((0 : Int) ≤ x13)) (
     Ck (decide (x13 < ((x11.length : Nat) : Int))) (
      Br (decide ((x11.getD x13.toNat (0, (0, 0))).1 = (1 : Int))) (
       ∃ r0 : Int × Int × Int × Int, SC P 91 [.one (.int .i64 (((x11.getD x13.toNat (0, (0, 0))).2).1)), .one (.ptr 0 0 0)] [.row (.int .i64) h0 .var] [.agg [.int .i64 r0.1, .int .i64 r0.2.1, .int .i64 r0.2.2.1, .int .i64 r0.2.2.2]] [.row (.int .i64) h0 .var] ∧
        Ck (Nat.ble ((h2.length + 1) * 32) roomy) (
         FL E H90 Try.f90 1 r lh 0 (S90_L0 x11 x12 (IntKind.wrap .i64 (x13 + 1)) h0 h1 (h2 ++ ([(r0.1, (r0.2.1, (r0.2.2.1, r0.2.2.2)))] : List (Int × (Int × (Int × Int)))))))) (
       Br (decide ((x11.getD x13.toNat (0, (0, 0))).1 = (2 : Int))) (
        Ck (decide ((0 : Int) ≤ ((x11.getD x13.toNat (0, (0, 0))).2).1)) (
         Ck (decide (((x11.getD x13.toNat (0, (0, 0))).2).1 < ((h2.length : Nat) : Int))) (
          Ck (Nat.blt ((((x11.getD x13.toNat (0, (0, 0))).2).1).toNat) h2.length) (
           MethodIs P 104 "loop.example/keelson/impl.times" 99 ∧
            ∃ r1 : Int × Int × Int × Int, SC P 99 [.agg [.int .i64 ((h2.getD (((x11.getD x13.toNat (0, (0, 0))).2).1).toNat (0, (0, (0, 0)))).1), .int .i64 (((h2.getD (((x11.getD x13.toNat (0, (0, 0))).2).1).toNat (0, (0, (0, 0)))).2).1), .int .i64 ((((h2.getD (((x11.getD x13.toNat (0, (0, 0))).2).1).toNat (0, (0, (0, 0)))).2).2).1), .int .i64 ((((h2.getD (((x11.getD x13.toNat (0, (0, 0))).2).1).toNat (0, (0, (0, 0)))).2).2).2)], .one (.int .i64 (((x11.getD x13.toNat (0, (0, 0))).2).2))] [] [.agg [.int .i64 r1.1, .int .i64 r1.2.1, .int .i64 r1.2.2.1, .int .i64 r1.2.2.2]] [] ∧
             Ck (Nat.ble ((h2.length + 1) * 32) roomy) (
              FL E H90 Try.f90 1 r lh 0 (S90_L0 x11 x12 (IntKind.wrap .i64 (x13 + 1)) h0 h1 (h2 ++ ([(r1.1, (r1.2.1, (r1.2.2.1, r1.2.2.2)))] : List (Int × (Int × (Int × Int))))))))))) (
        Ck (decide ((0 : Int) ≤ ((x11.getD x13.toNat (0, (0, 0))).2).1)) (
         Ck (decide (((x11.getD x13.toNat (0, (0, 0))).2).1 < ((h2.length : Nat) : Int))) (
          Ck (Nat.blt ((((x11.getD x13.toNat (0, (0, 0))).2).1).toNat) h2.length) (
           Ck (decide ((0 : Int) ≤ ((x11.getD x13.toNat (0, (0, 0))).2).2)) (
            Ck (decide (((x11.getD x13.toNat (0, (0, 0))).2).2 < ((h2.length : Nat) : Int))) (
             Ck (Nat.blt ((((x11.getD x13.toNat (0, (0, 0))).2).2).toNat) h2.length) (
              MethodIs P 104 "loop.example/keelson/impl.plus" 98 ∧
               ∃ r2 : Int × Int × Int × Int, SC P 98 [.agg [.int .i64 ((h2.getD (((x11.getD x13.toNat (0, (0, 0))).2).1).toNat (0, (0, (0, 0)))).1), .int .i64 (((h2.getD (((x11.getD x13.toNat (0, (0, 0))).2).1).toNat (0, (0, (0, 0)))).2).1), .int .i64 ((((h2.getD (((x11.getD x13.toNat (0, (0, 0))).2).1).toNat (0, (0, (0, 0)))).2).2).1), .int .i64 ((((h2.getD (((x11.getD x13.toNat (0, (0, 0))).2).1).toNat (0, (0, (0, 0)))).2).2).2)], .agg [.int .i64 ((h2.getD (((x11.getD x13.toNat (0, (0, 0))).2).2).toNat (0, (0, (0, 0)))).1), .int .i64 (((h2.getD (((x11.getD x13.toNat (0, (0, 0))).2).2).toNat (0, (0, (0, 0)))).2).1), .int .i64 ((((h2.getD (((x11.getD x13.toNat (0, (0, 0))).2).2).toNat (0, (0, (0, 0)))).2).2).1), .int .i64 ((((h2.getD (((x11.getD x13.toNat (0, (0, 0))).2).2).toNat (0, (0, (0, 0)))).2).2).2)]] [] [.agg [.int .i64 r2.1, .int .i64 r2.2.1, .int .i64 r2.2.2.1, .int .i64 r2.2.2.2]] [] ∧
                Ck (Nat.ble ((h2.length + 1) * 32) roomy) (
                 FL E H90 Try.f90 1 r lh 0 (S90_L0 x11 x12 (IntKind.wrap .i64 (x13 + 1)) h0 h1 (h2 ++ ([(r2.1, (r2.2.1, (r2.2.2.1, r2.2.2.2)))] : List (Int × (Int × (Int × Int)))))))))))))))))) (
    Ck (decide ((0 : Int) ≤ (IntKind.wrap .i64 (((h2.length : Nat) : Int) - 1)))) (
     Ck (decide ((IntKind.wrap .i64 (((h2.length : Nat) : Int) - 1)) < ((h2.length : Nat) : Int))) (
      Ck (Nat.blt ((IntKind.wrap .i64 (((h2.length : Nat) : Int) - 1)).toNat) h2.length) (
       Ck (Nat.ble 4 h1.length) (
        Ck (Nat.ble 4 (((((h1.set 0 ((h2.getD (IntKind.wrap .i64 (((h2.length : Nat) : Int) - 1)).toNat (0, (0, (0, 0)))).1)).set 1 (((h2.getD (IntKind.wrap .i64 (((h2.length : Nat) : Int) - 1)).toNat (0, (0, (0, 0)))).2).1)).set 2 ((((h2.getD (IntKind.wrap .i64 (((h2.length : Nat) : Int) - 1)).toNat (0, (0, (0, 0)))).2).2).1)).set 3 ((((h2.getD (IntKind.wrap .i64 (((h2.length : Nat) : Int) - 1)).toNat (0, (0, (0, 0)))).2).2).2)).length)) (
         Ret r lh [.agg [.int .i64 (((((h1.set 0 ((h2.getD (IntKind.wrap .i64 (((h2.length : Nat) : Int) - 1)).toNat (0, (0, (0, 0)))).1)).set 1 (((h2.getD (IntKind.wrap .i64 (((h2.length : Nat) : Int) - 1)).toNat (0, (0, (0, 0)))).2).1)).set 2 ((((h2.getD (IntKind.wrap .i64 (((h2.length : Nat) : Int) - 1)).toNat (0, (0, (0, 0)))).2).2).1)).set 3 ((((h2.getD (IntKind.wrap .i64 (((h2.length : Nat) : Int) - 1)).toNat (0, (0, (0, 0)))).2).2).2)).getD 0 0), .int .i64 (((((h1.set 0 ((h2.getD (IntKind.wrap .i64 (((h2.length : Nat) : Int) - 1)).toNat (0, (0, (0, 0)))).1)).set 1 (((h2.getD (IntKind.wrap .i64 (((h2.length : Nat) : Int) - 1)).toNat (0, (0, (0, 0)))).2).1)).set 2 ((((h2.getD (IntKind.wrap .i64 (((h2.length : Nat) : Int) - 1)).toNat (0, (0, (0, 0)))).2).2).1)).set 3 ((((h2.getD (IntKind.wrap .i64 (((h2.length : Nat) : Int) - 1)).toNat (0, (0, (0, 0)))).2).2).2)).getD 1 0), .int .i64 (((((h1.set 0 ((h2.getD (IntKind.wrap .i64 (((h2.length : Nat) : Int) - 1)).toNat (0, (0, (0, 0)))).1)).set 1 (((h2.getD (IntKind.wrap .i64 (((h2.length : Nat) : Int) - 1)).toNat (0, (0, (0, 0)))).2).1)).set 2 ((((h2.getD (IntKind.wrap .i64 (((h2.length : Nat) : Int) - 1)).toNat (0, (0, (0, 0)))).2).2).1)).set 3 ((((h2.getD (IntKind.wrap .i64 (((h2.length : Nat) : Int) - 1)).toNat (0, (0, (0, 0)))).2).2).2)).getD 2 0), .int .i64 (((((h1.set 0 ((h2.getD (IntKind.wrap .i64 (((h2.length : Nat) : Int) - 1)).toNat (0, (0, (0, 0)))).1)).set 1 (((h2.getD (IntKind.wrap .i64 (((h2.length : Nat) : Int) - 1)).toNat (0, (0, (0, 0)))).2).1)).set 2 ((((h2.getD (IntKind.wrap .i64 (((h2.length : Nat) : Int) - 1)).toNat (0, (0, (0, 0)))).2).2).1)).set 3 ((((h2.getD (IntKind.wrap .i64 (((h2.length : Nat) : Int) - 1)).toNat (0, (0, (0, 0)))).2).2).2)).getD 3 0)]] [.row (.int .i64) h0 .var]))))))) := by kernel_rfl
theorem l90 (l : List Step) (kind : Int) (hp : progOk l = true) : ∀ (n i : Nat) (ns : List V4), i + n = l.length → ns.length = i → (∀ x ∈ ns, VOk x) →
    FL E H90 Try.f90 1 [.agg [.int .i64 ((runV (fun a => rowV kind a) vtimes vplus (0, 0, 0, 0) (l.drop i) ns).getD (l.length - 1) (0, 0, 0, 0)).1, .int .i64 ((runV (fun a => rowV kind a) vtimes vplus (0, 0, 0, 0) (l.drop i) ns).getD (l.length - 1) (0, 0, 0, 0)).2.1, .int .i64 ((runV (fun a => rowV kind a) vtimes vplus (0, 0, 0, 0) (l.drop i) ns).getD (l.length - 1) (0, 0, 0, 0)).2.2.1, .int .i64 ((runV (fun a => rowV kind a) vtimes vplus (0, 0, 0, 0) (l.drop i) ns).getD (l.length - 1) (0, 0, 0, 0)).2.2.2]] [.row (.int .i64) [kind] .var] 0 (S90_L0 l (l.length : Int) (i : Int) [kind] [0, 0, 0, 0] ns)
  | 0, i, ns, h, hn, hx => by
    have hl := prog_len hp
    refine FL_of1 ?_
    rw [eq90_L0, List.drop_eq_nil_of_le (show l.length ≤ i by omega), runV, wrap64 (n := (ns.length : Int) - 1) (by omega) (by omega), show ((ns.length : Int) - 1).toNat = l.length - 1 by omega]
    exact Br_f (by omega) (Ck_d (by omega) (Ck_d (by omega) (Ck_lt (by omega) (Ck_le (by simp) (Ck_le (by simp) ⟨rfl, rfl⟩)))))
  | n + 1, i, ns, h, hn, hx => by
    have hl := prog_len hp
    have hi : i < l.length := by omega
    have hs := step_cases (prog_step hp hi)
    have ga := getD_all (z := ((0, 0, 0, 0) : V4)) hx ⟨fok0, fok0, fok0, fok0⟩
    refine FL_of1 ?_
    rw [eq90_L0, wS (by omega), drop_cons hi, runV, ← getD_eq (z := (0, 0, 0)) hi]
    simp only [Int.toNat_natCast]
    have go : ∀ y, VOk y → stepQ (fun a => rowV kind a) vtimes vplus (0, 0, 0, 0) ns (l.getD i (0, 0, 0)) = y →
        FL E H90 Try.f90 1 [.agg [.int .i64 ((runV (fun a => rowV kind a) vtimes vplus (0, 0, 0, 0) (l.drop (i + 1)) (ns ++ [stepQ (fun a => rowV kind a) vtimes vplus (0, 0, 0, 0) ns (l.getD i (0, 0, 0))])).getD (l.length - 1) (0, 0, 0, 0)).1, .int .i64 ((runV (fun a => rowV kind a) vtimes vplus (0, 0, 0, 0) (l.drop (i + 1)) (ns ++ [stepQ (fun a => rowV kind a) vtimes vplus (0, 0, 0, 0) ns (l.getD i (0, 0, 0))])).getD (l.length - 1) (0, 0, 0, 0)).2.1, .int .i64 ((runV (fun a => rowV kind a) vtimes vplus (0, 0, 0, 0) (l.drop (i + 1)) (ns ++ [stepQ (fun a => rowV kind a) vtimes vplus (0, 0, 0, 0) ns (l.getD i (0, 0, 0))])).getD (l.length - 1) (0, 0, 0, 0)).2.2.1, .int .i64 ((runV (fun a => rowV kind a) vtimes vplus (0, 0, 0, 0) (l.drop (i + 1)) (ns ++ [stepQ (fun a => rowV kind a) vtimes vplus (0, 0, 0, 0) ns (l.getD i (0, 0, 0))])).getD (l.length - 1) (0, 0, 0, 0)).2.2.2]] [.row (.int .i64) [kind] .var] 0 (S90_L0 l (l.length : Int) ((i + 1 : Nat) : Int) [kind] [0, 0, 0, 0] (ns ++ [y])) := by
      intro y hy e
      rw [e]
      refine l90 l kind hp n (i + 1) (ns ++ [y]) (by omega) (by simp; omega) fun x hm => ?_
      rcases List.mem_append.1 hm with hm | hm
      · exact hx x hm
      · rw [List.mem_singleton.1 hm]; exact hy
    rw [hAt] at hs
    rcases hs with ⟨c1, a0, a1⟩ | ⟨c1, c2, a0, a1, b⟩ | ⟨c1, c2, a0, a1, b0, b1⟩
    · exact Br_t (by omega) (Ck_d (by omega) (Ck_d (by omega) (Br_t c1 ⟨rowV kind (l.getD i (0, 0, 0)).2.1, c91 _ kind a0 a1, Ck_room (by omega) (go _ (rowV_ok _ _) (by rw [stepQ, decide_eq_true c1, cond_true]))⟩)))
    · exact Br_t (by omega) (Ck_d (by omega) (Ck_d (by omega) (Br_f c1 (Br_t c2 (Ck_d a0 (Ck_d (by omega) (Ck_lt (by omega) ⟨m99_104, vtimes (ns.getD (l.getD i (0, 0, 0)).2.1.toNat (0, 0, 0, 0)) (l.getD i (0, 0, 0)).2.2, c99 _ _ (ga _) b, Ck_room (by omega) (go _ (vtimes_ok _ _) (by rw [stepQ, decide_eq_false c1, cond_false, decide_eq_true c2, cond_true]))⟩)))))))
    · exact Br_t (by omega) (Ck_d (by omega) (Ck_d (by omega) (Br_f c1 (Br_f c2 (Ck_d a0 (Ck_d (by omega) (Ck_lt (by omega) (Ck_d b0 (Ck_d (by omega) (Ck_lt (by omega) ⟨m98_104, vplus (ns.getD (l.getD i (0, 0, 0)).2.1.toNat (0, 0, 0, 0)) (ns.getD (l.getD i (0, 0, 0)).2.2.toNat (0, 0, 0, 0)), c98 _ _ (ga _) (ga _), Ck_room (by omega) (go _ (vplus_ok _ _) (by rw [stepQ, decide_eq_false c1, cond_false, decide_eq_false c2, cond_false]))⟩))))))))))
theorem c90 (l : List Step) (kind : Int) (hp : progOk l = true) : SC P 90 [.one (.ro (.pair (.int .i64) (.pair (.int .i64) (.int .i64))) l), .one (.fn 91 [0])] [.row (.int .i64) [kind] .var] [.agg [.int .i64 (progRowV kind l).1, .int .i64 (progRowV kind l).2.1, .int .i64 (progRowV kind l).2.2.1, .int .i64 (progRowV kind l).2.2.2]] [.row (.int .i64) [kind] .var] := by
  refine SC_of_FB (H := H90) E_ok Try.func90 (by kernel_rfl) ?_
  rw [eq90]
  have hl := prog_len hp
  have := l90 l kind hp l.length 0 [] (by omega) rfl (fun x hx => by cases hx)
  rw [List.drop_zero] at this
  exact Ck_d (by omega) (Ck_roomI (by omega) this)

/-! loop.example/keelson/impl.ProgRow -/
def H31 : Hint := ⟨[], [], [], [], [.one (.own (.int .i64)), .one (.c .bool)], [], []⟩
theorem eq31 (kind : Int) (l : List (Int × (Int × Int))) (r : List W) (lh : Heap) : FB E H31 Try.f31 [.one (.int .i64 kind), .one (.ro (.pair (.int .i64) (.pair (.int .i64) (.int .i64))) l)] [] r lh =
  (
   ∃ r0 : Bool, SC P 89 [.one (.int .i64 kind)] [] [.one (.bool r0)] [] ∧
    Br (!r0) (
     Ret r lh [.one (.sl 0 none), .one (.bool false)] [.row (.int .i64) [] .own]) (
     ∃ r1 : Bool, SC P 15 [.one (.ro (.pair (.int .i64) (.pair (.int .i64) (.int .i64))) l)] [] [.one (.bool r1)] [] ∧
      Br (!r1) (
       Ret r lh [.one (.sl 0 none), .one (.bool false)] [.row (.int .i64) [] .own]) (
       ∃ r2 : Int × Int × Int × Int, SC P 90 [.one (.ro (.pair (.int .i64) (.pair (.int .i64) (.int .i64))) l), .one (.fn 91 [0])] [.row (.int .i64) [kind] .var] [.agg [.int .i64 r2.1, .int .i64 r2.2.1, .int .i64 r2.2.2.1, .int .i64 r2.2.2.2]] [.row (.int .i64) [kind] .var] ∧
        ∃ r3 : List Int, SC P 93 [.agg [.int .i64 r2.1, .int .i64 r2.2.1, .int .i64 r2.2.2.1, .int .i64 r2.2.2.2]] [] [.one (.sl 0 none)] [.row (.int .i64) r3 .own] ∧
         Ret r lh [.one (.sl 0 none), .one (.bool true)] [.row (.int .i64) r3 .own]))) := by kernel_rfl
theorem c31 (kind : Int) (l : List Step) (hl : l.length ≤ 1048576) : SC P 31 [.one (.int .i64 kind), .one (.ro (.pair (.int .i64) (.pair (.int .i64) (.int .i64))) l)] [] [.one (.sl 0 none), .one (.bool (inB kind 1 2 && progOk l))] [.row (.int .i64) (progRowF kind l) .own] := by
  refine SC_of_FB (H := H31) E_ok Try.func31 (by kernel_rfl) ?_
  rw [eq31]
  refine ⟨_, c89 kind, Br_nb (fun e => ⟨by rw [e]; rfl, by rw [progRowF, e]; rfl⟩) (fun e => ⟨_, c15 l hl, Br_nb (fun e' => ⟨by rw [e', Bool.and_false], by rw [progRowF, e', Bool.and_false]; rfl⟩) (fun e' => ⟨progRowV kind l, c90 l kind e', _, c93 _, by rw [e, e']; rfl, by rw [progRowF, e, e']; rfl⟩)⟩)⟩

/-! loop.example/keelson/spec.ProgRow -/
def H30 : Hint := ⟨[[(0, 0, .bool), (1, 0, .bool), (6, 0, .bool), (7, 0, .bool)]], [], [(12, [0, 1, 2, 3, 4, 5, 6, 7, 8, 9, 10, 11, 12, 13, 14, 15, 16, 17]), (8, [0, 1, 2, 3, 4, 5, 6, 7, 8, 9, 10, 11, 12, 13, 14, 15, 16, 17, 18, 19, 20])], [], [.one (.c (.sl (.int .i64))), .one (.c .bool)], [], []⟩
def S30_L0 (kind0 : Int) (l1 : List (Int × (Int × Int))) (i7 : Int) (h0 : List (List Int)) : St := ⟨[(0, .w (.one (.int .i64 kind0))), (1, .w (.one (.ro (.pair (.int .i64) (.pair (.int .i64) (.int .i64))) l1))), (6, .w (.one (.sl 0 none))), (7, .w (.one (.int .i64 i7)))], [.row (.sl (.int .i64)) h0 .own]⟩
theorem eq30 (kind : Int) (l : List (Int × (Int × Int))) (r : List W) (lh : Heap) : FB E H30 Try.f30 [.one (.int .i64 kind), .one (.ro (.pair (.int .i64) (.pair (.int .i64) (.int .i64))) l)] [] r lh =
  (
   ∃ r0 : Bool, SC P 85 [.one (.int .i64 kind)] [] [.one (.bool r0)] [] ∧
    Br (!r0) (
     Ret r lh [.one (.ro (.int .i64) []), .one (.bool false)] []) (
     ∃ r1 : Bool, SC P 16 [.one (.ro (.pair (.int .i64) (.pair (.int .i64) (.int .i64))) l)] [] [.one (.bool r1)] [] ∧
      Br (!r1) (
       Ret r lh [.one (.ro (.int .i64) []), .one (.bool false)] []) (
       FL E H30 Try.f30 0 r lh 0 (S30_L0 kind l 0 [])))) := by kernel_rfl
theorem eq30_L0 (kind0 : Int) (l1 : List (Int × (Int × Int))) (i7 : Int) (h0 : List (List Int)) (r : List W) (lh : Heap) : FL1 E H30 Try.f30 0 r lh 0 (S30_L0 kind0 l1 i7 h0) =
  (
   Br (decide (i7 < ((l1.length : Nat) : Int))) (
    Ck (decide ((0 : Int) ≤ i7)) (
     Ck (decide (i7 < ((l1.length : Nat) : Int))) (
      Br (decide ((l1.getD i7.toNat (0, (0, 0))).1 = (1 : Int))) (
       Ck (decide ((0 : Int) ≤ i7)) (
        Ck (decide (i7 < ((l1.length : Nat) : Int))) (
         ∃ r0 : List Int, SC P 86 [.one (.int .i64 kind0), .one (.int .i64 (((l1.getD i7.toNat (0, (0, 0))).2).1))] [] [.one (.ro (.int .i64) r0)] [] ∧
          Ck (Nat.ble ((h0.length + 1) * 24) roomy) (
           FL E H30 Try.f30 0 r lh 0 (S30_L0 kind0 l1 (IntKind.wrap .i64 (i7 + 1)) (h0 ++ [r0])))))) (
       Br (decide ((l1.getD i7.toNat (0, (0, 0))).1 = (2 : Int))) (
        Ck (decide ((0 : Int) ≤ i7)) (
         Ck (decide (i7 < ((l1.length : Nat) : Int))) (
          Ck (decide ((0 : Int) ≤ ((l1.getD i7.toNat (0, (0, 0))).2).1)) (
           Ck (decide (((l1.getD i7.toNat (0, (0, 0))).2).1 < ((h0.length : Nat) : Int))) (
            Ck (Nat.ble ((((l1.getD i7.toNat (0, (0, 0))).2).1).toNat + 1) h0.length) (
             Ck (decide ((0 : Int) ≤ i7)) (
              Ck (decide (i7 < ((l1.length : Nat) : Int))) (
               ∃ r1 : List Int, SC P 87 [.one (.ro (.int .i64) (h0.getD (((l1.getD i7.toNat (0, (0, 0))).2).1).toNat [])), .one (.int .i64 (((l1.getD i7.toNat (0, (0, 0))).2).2))] [] [.one (.sl 0 none)] [.row (.int .i64) r1 .own] ∧
                Ck (Nat.ble ((h0.length + 1) * 24) roomy) (
                 FL E H30 Try.f30 0 r lh 0 (S30_L0 kind0 l1 (IntKind.wrap .i64 (i7 + 1)) (h0 ++ [r1]))))))))))) (
        Ck (decide ((0 : Int) ≤ i7)) (
         Ck (decide (i7 < ((l1.length : Nat) : Int))) (
          Ck (decide ((0 : Int) ≤ ((l1.getD i7.toNat (0, (0, 0))).2).1)) (
           Ck (decide (((l1.getD i7.toNat (0, (0, 0))).2).1 < ((h0.length : Nat) : Int))) (
            Ck (Nat.ble ((((l1.getD i7.toNat (0, (0, 0))).2).1).toNat + 1) h0.length) (
             Ck (decide ((0 : Int) ≤ i7)) (
              Ck (decide (i7 < ((l1.length : Nat) : Int))) (
               Ck (decide ((0 : Int) ≤ ((l1.getD i7.toNat (0, (0, 0))).2).2)) (
                Ck (decide (((l1.getD i7.toNat (0, (0, 0))).2).2 < ((h0.length : Nat) : Int))) (
                 Ck (Nat.ble ((((l1.getD i7.toNat (0, (0, 0))).2).2).toNat + 1) h0.length) (
                  ∃ r2 : List Int, SC P 88 [.one (.ro (.int .i64) (h0.getD (((l1.getD i7.toNat (0, (0, 0))).2).1).toNat [])), .one (.ro (.int .i64) (h0.getD (((l1.getD i7.toNat (0, (0, 0))).2).2).toNat []))] [] [.one (.sl 0 none)] [.row (.int .i64) r2 .own] ∧
                   Ck (Nat.ble ((h0.length + 1) * 24) roomy) (
                    FL E H30 Try.f30 0 r lh 0 (S30_L0 kind0 l1 (IntKind.wrap .i64 (i7 + 1)) (h0 ++ [r2])))))))))))))))))) (
    Ck (decide ((0 : Int) ≤ (IntKind.wrap .i64 (((h0.length : Nat) : Int) - 1)))) (
     Ck (decide ((IntKind.wrap .i64 (((h0.length : Nat) : Int) - 1)) < ((h0.length : Nat) : Int))) (
      Ck (Nat.ble ((IntKind.wrap .i64 (((h0.length : Nat) : Int) - 1)).toNat + 1) h0.length) (
       Ret r lh [.one (.ro (.int .i64) (h0.getD (IntKind.wrap .i64 (((h0.length : Nat) : Int) - 1)).toNat [])), .one (.bool true)] []))))) := by kernel_rfl
theorem getD_map {α β : Type} (g : α → β) (l : List α) (z : α) (z' : β) (i : Nat) (hi : i < l.length) : (l.map g).getD i z' = g (l.getD i z) := by
  rw [getD_eq (by rw [List.length_map]; exact hi), getD_eq hi, List.getElem_map]
theorem l30 (l : List Step) (kind : Int) (hk : inB kind 1 2 = true) (hp : progOk l = true) : ∀ (n i : Nat) (ns : List V4), i + n = l.length → ns.length = i → (∀ x ∈ ns, VOk x) →
    FL E H30 Try.f30 0 [.one (.ro (.int .i64) ((runV (fun a => rowV kind a) vtimes vplus (0, 0, 0, 0) (l.drop i) ns).getD (l.length - 1) (0, 0, 0, 0)).l), .one (.bool true)] [] 0 (S30_L0 kind l (i : Int) (ns.map V4.l))
  | 0, i, ns, h, hn, hx => by
    have hl := prog_len hp
    refine FL_of1 ?_
    rw [eq30_L0, List.drop_eq_nil_of_le (show l.length ≤ i by omega), runV, List.length_map, wrap64 (n := (ns.length : Int) - 1) (by omega) (by omega), show ((ns.length : Int) - 1).toNat = l.length - 1 by omega,
      getD_map V4.l ns (0, 0, 0, 0) [] (l.length - 1) (by omega)]
    exact Br_f (by omega) (Ck_d (by omega) (Ck_d (by omega) (Ck_le (by omega) ⟨rfl, rfl⟩)))
  | n + 1, i, ns, h, hn, hx => by
    have hl := prog_len hp
    have hi : i < l.length := by omega
    have hs := step_cases (prog_step hp hi)
    have ga := getD_all (z := ((0, 0, 0, 0) : V4)) hx ⟨fok0, fok0, fok0, fok0⟩
    refine FL_of1 ?_
    rw [eq30_L0, wS (by omega), drop_cons hi, runV, ← getD_eq (z := (0, 0, 0)) hi]
    simp only [Int.toNat_natCast, List.length_map]
    have go : ∀ y, VOk y → stepQ (fun a => rowV kind a) vtimes vplus (0, 0, 0, 0) ns (l.getD i (0, 0, 0)) = y →
        FL E H30 Try.f30 0 [.one (.ro (.int .i64) ((runV (fun a => rowV kind a) vtimes vplus (0, 0, 0, 0) (l.drop (i + 1)) (ns ++ [stepQ (fun a => rowV kind a) vtimes vplus (0, 0, 0, 0) ns (l.getD i (0, 0, 0))])).getD (l.length - 1) (0, 0, 0, 0)).l), .one (.bool true)] [] 0 (S30_L0 kind l ((i + 1 : Nat) : Int) (ns.map V4.l ++ [y.l])) := by
      intro y hy e
      rw [e]
      have := l30 l kind hk hp n (i + 1) (ns ++ [y]) (by omega) (by simp; omega) fun x hm => by
        rcases List.mem_append.1 hm with hm | hm
        · exact hx x hm
        · rw [List.mem_singleton.1 hm]; exact hy
      rw [List.map_append] at this
      exact this
    rw [hAt] at hs
    rcases hs with ⟨c1, a0, a1⟩ | ⟨c1, c2, a0, a1, b⟩ | ⟨c1, c2, a0, a1, b0, b1⟩
    · exact Br_t (by omega) (Ck_d (by omega) (Ck_d (by omega) (Br_t c1 (Ck_d (by omega) (Ck_d (by omega) (⟨_, c86 kind _ hk a0 a1, Ck_room (by omega) (go _ (rowV_ok _ _) (by rw [stepQ, decide_eq_true c1, cond_true]))⟩))))))
    · rw [getD_map V4.l ns (0, 0, 0, 0) [] (l.getD i (0, 0, 0)).2.1.toNat (by omega)]
      exact Br_t (by omega) (Ck_d (by omega) (Ck_d (by omega) (Br_f c1 (Br_t c2 (Ck_d (by omega) (Ck_d (by omega) (Ck_d a0 (Ck_d (by omega) (Ck_le (by omega) (Ck_d (by omega) (Ck_d (by omega) (⟨_, c87v _ _ (ga _) b, Ck_room (by omega) (go _ (vtimes_ok _ _) (by rw [stepQ, decide_eq_false c1, cond_false, decide_eq_true c2, cond_true]))⟩))))))))))))
    · rw [getD_map V4.l ns (0, 0, 0, 0) [] (l.getD i (0, 0, 0)).2.1.toNat (by omega), getD_map V4.l ns (0, 0, 0, 0) [] (l.getD i (0, 0, 0)).2.2.toNat (by omega)]
      exact Br_t (by omega) (Ck_d (by omega) (Ck_d (by omega) (Br_f c1 (Br_f c2 (Ck_d (by omega) (Ck_d (by omega) (Ck_d a0 (Ck_d (by omega) (Ck_le (by omega) (Ck_d (by omega) (Ck_d (by omega) (Ck_d b0 (Ck_d (by omega) (Ck_le (by omega) (⟨_, c88v _ _ (ga _) (ga _), Ck_room (by omega) (go _ (vplus_ok _ _) (by rw [stepQ, decide_eq_false c1, cond_false, decide_eq_false c2, cond_false]))⟩)))))))))))))))
theorem c30 (kind : Int) (l : List Step) (hl : l.length ≤ 1048576) : SC P 30 [.one (.int .i64 kind), .one (.ro (.pair (.int .i64) (.pair (.int .i64) (.int .i64))) l)] [] [.one (.ro (.int .i64) (progRowF kind l)), .one (.bool (inB kind 1 2 && progOk l))] [] := by
  refine SC_of_FB (H := H30) E_ok Try.func30 (by kernel_rfl) ?_
  rw [eq30]
  refine ⟨_, c85 kind, Br_nb (fun e => ⟨by rw [progRowF, e]; rfl, rfl⟩) (fun e => ⟨_, c16 l hl, Br_nb (fun e' => ⟨by rw [progRowF, e', Bool.and_false]; rfl, rfl⟩) (fun e' => ?_)⟩)⟩
  have := l30 l kind e e' l.length 0 [] (by omega) rfl (fun x hx => by cases hx)
  rw [List.drop_zero] at this
  rw [progRowF, e, e']
  exact this

abbrev Pln := Int × List Int × List Int
def formedAt (p : Pln) (i : Nat) : Bool := (inB (p.2.1.getD i 0) 0 7 && !decide (p.2.1.getD i 0 = p.1)) && (decide (i = 0) || decide (p.2.1.getD (i - 1) 0 < p.2.1.getD i 0))
def byAt (p : Pln) (i : Nat) : Bool := inB (p.2.2.getD i 0) 1 30
def formed (p : Pln) : Bool := ((inB p.1 0 7 && inB (p.2.1.length : Int) 1 4) && decide (p.2.2.length = p.2.1.length)) && allR (fun i => formedAt p i && byAt p i) 0 p.2.1.length
theorem allR_and {p q : Nat → Bool} : ∀ {n i : Nat}, allR (fun j => p j && q j) i n = (allR p i n && allR q i n)
  | 0, _ => rfl
  | n + 1, i => by
    rw [allR, allR, allR, allR_and (n := n) (i := i + 1)]
    cases p i <;> cases q i <;> simp
theorem formed_iff {p : Pln} (h : formed p = true) : (1 ≤ p.2.1.length ∧ p.2.1.length ≤ 4) ∧ p.2.2.length = p.2.1.length ∧ ∀ i, i < p.2.1.length → formedAt p i = true ∧ byAt p i = true := by
  rw [formed, Bool.and_eq_true, Bool.and_eq_true, Bool.and_eq_true, inB_iff, inB_iff, decide_eq_true_iff, allR_iff] at h
  refine ⟨by omega, h.1.2, fun i hi => ?_⟩
  have := h.2 i (Nat.zero_le _) (by omega)
  rwa [Bool.and_eq_true] at this

/-! (loop.example/keelson/impl.Plan).formed -/
def H70 : Hint := ⟨[[(1, 0, .bool), (26, 0, .bool), (27, 0, .bool), (28, 0, .bool)]], [], [], [], [], [], []⟩
def S70_L0 (x26 : List Int) (x27 : Int) (x28 : Int) (b0_0 : Int) (b0_1 : List Int) (b0_2 : List Int) : St := ⟨[(1, .w (.one (.ptr 0 0 0))), (26, .w (.one (.ro (.int .i64) x26))), (27, .w (.one (.int .i64 x27))), (28, .w (.one (.int .i64 x28)))], [.box [.int .i64 b0_0, .ro (.int .i64) b0_1, .ro (.int .i64) b0_2]]⟩
theorem eq70 (p : (Int × (List Int × List Int))) (r : List W) (lh : Heap) : FB E H70 Try.f70 [.agg [.int .i64 p.1, .ro (.int .i64) p.2.1, .ro (.int .i64) p.2.2]] [] r lh =
  (
   ∃ r0 : Bool, SC P 101 [.one (.int .i64 p.1)] [] [.one (.bool r0)] [] ∧
    Br (!r0) (
     Ret r lh [.one (.bool false)] []) (
     ∃ r1 : Bool, SC P 66 [.one (.int .i64 ((p.2.1.length : Nat) : Int)), .one (.int .i64 1), .one (.int .i64 4)] [] [.one (.bool r1)] [] ∧
      Br (!r1) (
       Ret r lh [.one (.bool false)] []) (
       Br (!(decide (((p.2.2.length : Nat) : Int) = ((p.2.1.length : Nat) : Int)))) (
        Ret r lh [.one (.bool false)] []) (
        FL E H70 Try.f70 0 r lh 0 (S70_L0 p.2.1 ((p.2.1.length : Nat) : Int) 0 p.1 p.2.1 p.2.2))))) := by kernel_rfl
theorem eq70_L0 (x26 : List Int) (x27 : Int) (x28 : Int) (b0_0 : Int) (b0_1 : List Int) (b0_2 : List Int) (r : List W) (lh : Heap) : FL1 E H70 Try.f70 0 r lh 0 (S70_L0 x26 x27 x28 b0_0 b0_1 b0_2) =
  (
   Br (decide (x28 < x27)) (
    Ck (decide ((0 : Int) ≤ x28)) (
     Ck (decide (x28 < ((x26.length : Nat) : Int))) (
      ∃ r0 : Bool, SC P 101 [.one (.int .i64 (x26.getD x28.toNat 0))] [] [.one (.bool r0)] [] ∧
       Br (!r0) (
        Ret r lh [.one (.bool false)] []) (
        Br (decide ((x26.getD x28.toNat 0) = b0_0)) (
         Ret r lh [.one (.bool false)] []) (
         Br (decide ((0 : Int) < x28)) (
          Ck (decide ((0 : Int) ≤ (IntKind.wrap .i64 (x28 - 1)))) (
           Ck (decide ((IntKind.wrap .i64 (x28 - 1)) < ((b0_1.length : Nat) : Int))) (
            Br (decide ((x26.getD x28.toNat 0) ≤ (b0_1.getD (IntKind.wrap .i64 (x28 - 1)).toNat 0))) (
             Ret r lh [.one (.bool false)] []) (
             Ck (decide ((0 : Int) ≤ x28)) (
              Ck (decide (x28 < ((b0_2.length : Nat) : Int))) (
               ∃ r1 : Bool, SC P 66 [.one (.int .i64 (b0_2.getD x28.toNat 0)), .one (.int .i64 1), .one (.int .i64 30)] [] [.one (.bool r1)] [] ∧
                Br (!r1) (
                 Ret r lh [.one (.bool false)] []) (
                 FL E H70 Try.f70 0 r lh 0 (S70_L0 x26 x27 (IntKind.wrap .i64 (x28 + 1)) b0_0 b0_1 b0_2)))))))) (
          Ck (decide ((0 : Int) ≤ x28)) (
           Ck (decide (x28 < ((b0_2.length : Nat) : Int))) (
            ∃ r2 : Bool, SC P 66 [.one (.int .i64 (b0_2.getD x28.toNat 0)), .one (.int .i64 1), .one (.int .i64 30)] [] [.one (.bool r2)] [] ∧
             Br (!r2) (
              Ret r lh [.one (.bool false)] []) (
              FL E H70 Try.f70 0 r lh 0 (S70_L0 x26 x27 (IntKind.wrap .i64 (x28 + 1)) b0_0 b0_1 b0_2)))))))))) (
    Ret r lh [.one (.bool true)] [])) := by kernel_rfl
theorem l70 (p : Pln) (hl : p.2.1.length ≤ 1048576) (he : p.2.2.length = p.2.1.length) : ∀ (n i : Nat), i + n = p.2.1.length → FL E H70 Try.f70 0 [.one (.bool (allR (fun i => formedAt p i && byAt p i) i n))] [] 0 (S70_L0 p.2.1 (p.2.1.length : Int) (i : Int) p.1 p.2.1 p.2.2)
  | 0, i, h => by
    refine FL_of1 ?_
    rw [eq70_L0]
    exact Br_f (by omega) ⟨rfl, rfl⟩
  | n + 1, i, h => by
    have no : formedAt p i = false → [W.one (.bool false)] = [W.one (.bool (allR (fun i => formedAt p i && byAt p i) i (n + 1)))] := fun e => by rw [allR_f (by rw [e, Bool.false_and])]
    have no2 : byAt p i = false → [W.one (.bool false)] = [W.one (.bool (allR (fun i => formedAt p i && byAt p i) i (n + 1)))] := fun e => by rw [allR_f (by rw [e, Bool.and_false])]
    have ih := l70 p hl he n (i + 1) (by omega)
    refine FL_of1 ?_
    rw [eq70_L0, wS (by omega)]
    simp only [Int.toNat_natCast]
    refine Br_t (by omega) (Ck_d (by omega) (Ck_d (by omega) ⟨_, c101 _, Br_nb (fun e => ⟨no (by rw [formedAt, e]; rfl), rfl⟩) (fun e1 => Br_d (fun e => ⟨no (by rw [formedAt, decide_eq_true e, Bool.not_true, Bool.and_false, Bool.false_and]), rfl⟩) (fun e2 => Br_d (fun hi => ?_) (fun hi => ?_)))⟩))
    · rw [wrap64 (n := (i : Int) - 1) (by omega) (by omega), show ((i : Int) - 1).toNat = i - 1 by omega]
      refine Ck_d (by omega) (Ck_d (by omega) (Br_d (fun e => ⟨no ?_, rfl⟩) (fun e3 => Ck_d (by omega) (Ck_d (by omega) ⟨_, c66 _ _ _, Br_nb (fun e => ⟨no2 e, rfl⟩) (fun e4 => ?_)⟩))))
      · rw [formedAt, decide_eq_false (show ¬ i = 0 by omega), decide_eq_false (show ¬ p.2.1.getD (i - 1) 0 < p.2.1.getD i 0 by omega), Bool.or_false, Bool.and_false]
      · rw [allR_t (by rw [formedAt, byAt, e1, e4, decide_eq_false e2, decide_eq_true (show p.2.1.getD (i - 1) 0 < p.2.1.getD i 0 by omega), Bool.or_true]; rfl)]
        exact ih
    · refine Ck_d (by omega) (Ck_d (by omega) ⟨_, c66 _ _ _, Br_nb (fun e => ⟨no2 e, rfl⟩) (fun e4 => ?_)⟩)
      rw [allR_t (by rw [formedAt, byAt, e1, e4, decide_eq_false e2, decide_eq_true (show i = 0 by omega), Bool.true_or]; rfl)]
      exact ih
theorem c70 (p : Pln) (hl : p.2.1.length ≤ 1048576) (hb : p.2.2.length ≤ 1048576) : SC P 70 [.agg [.int .i64 p.1, .ro (.int .i64) p.2.1, .ro (.int .i64) p.2.2]] [] [.one (.bool (formed p))] [] := by
  refine SC_of_FB (H := H70) E_ok Try.func70 (by kernel_rfl) ?_
  rw [eq70]
  refine ⟨_, c101 _, Br_nb (fun e => ⟨by rw [formed, e]; rfl, rfl⟩) (fun e1 => ⟨_, c66 _ _ _, Br_nb (fun e => ⟨by rw [formed, e, Bool.and_false]; rfl, rfl⟩) (fun e2 => Br_nd (fun e => ⟨?_, rfl⟩) (fun e3 => ?_))⟩)⟩
  · rw [formed, decide_eq_false (show ¬ p.2.2.length = p.2.1.length by omega), Bool.and_false]; rfl
  · have := l70 p hl (by omega) p.2.1.length 0 (by omega)
    rw [formed, e1, e2, decide_eq_true (show p.2.2.length = p.2.1.length by omega)]
    exact this

/-! loop.example/keelson/spec.l11Form -/
def H73 : Hint := ⟨[[(1, 0, .bool), (3, 0, .bool)], [(1, 0, .bool), (4, 0, .bool)]], [], [(4, [0, 1, 2, 3, 4, 5, 6, 7, 8, 9, 10, 11, 12, 13, 14, 15, 16, 17, 18, 19, 20, 21, 22, 23, 24, 25, 26, 27, 28, 29, 30, 31, 32, 33, 34])], [], [], [], []⟩
def S73_L0 (i3 : Int) (b0_0 : Int) (b0_1 : List Int) (b0_2 : List Int) : St := ⟨[(1, .w (.one (.ptr 0 0 0))), (3, .w (.one (.int .i64 i3)))], [.box [.int .i64 b0_0, .ro (.int .i64) b0_1, .ro (.int .i64) b0_2]]⟩
def S73_L1 (i4 : Int) (b0_0 : Int) (b0_1 : List Int) (b0_2 : List Int) : St := ⟨[(1, .w (.one (.ptr 0 0 0))), (4, .w (.one (.int .i64 i4)))], [.box [.int .i64 b0_0, .ro (.int .i64) b0_1, .ro (.int .i64) b0_2]]⟩
theorem eq73 (p : (Int × (List Int × List Int))) (r : List W) (lh : Heap) : FB E H73 Try.f73 [.agg [.int .i64 p.1, .ro (.int .i64) p.2.1, .ro (.int .i64) p.2.2]] [] r lh =
  (
   FL E H73 Try.f73 0 r lh 0 (S73_L0 0 p.1 p.2.1 p.2.2)) := by kernel_rfl
theorem eq73_L0 (i3 : Int) (b0_0 : Int) (b0_1 : List Int) (b0_2 : List Int) (r : List W) (lh : Heap) : FL1 E H73 Try.f73 0 r lh 0 (S73_L0 i3 b0_0 b0_1 b0_2) =
  (
   Br (decide (i3 < ((b0_1.length : Nat) : Int))) (
    Ck (decide ((0 : Int) ≤ i3)) (
     Ck (decide (i3 < ((b0_1.length : Nat) : Int))) (
      ∃ r0 : Bool, SC P 67 [.one (.int .i64 (b0_1.getD i3.toNat 0)), .one (.int .i64 0), .one (.int .i64 7)] [] [.one (.bool r0)] [] ∧
       Br (!r0) (
        Ret r lh [.one (.bool false)] []) (
        Ck (decide ((0 : Int) ≤ i3)) (
         Ck (decide (i3 < ((b0_1.length : Nat) : Int))) (
          Br (decide ((b0_1.getD i3.toNat 0) = b0_0)) (
           Ret r lh [.one (.bool false)] []) (
           Br (decide ((0 : Int) < i3)) (
            Ck (decide ((0 : Int) ≤ (IntKind.wrap .i64 (i3 - 1)))) (
             Ck (decide ((IntKind.wrap .i64 (i3 - 1)) < ((b0_1.length : Nat) : Int))) (
              Ck (decide ((0 : Int) ≤ i3)) (
               Ck (decide (i3 < ((b0_1.length : Nat) : Int))) (
                Br (decide ((b0_1.getD i3.toNat 0) ≤ (b0_1.getD (IntKind.wrap .i64 (i3 - 1)).toNat 0))) (
                 Ret r lh [.one (.bool false)] []) (
                 FL E H73 Try.f73 0 r lh 0 (S73_L0 (IntKind.wrap .i64 (i3 + 1)) b0_0 b0_1 b0_2))))))) (
            FL E H73 Try.f73 0 r lh 0 (S73_L0 (IntKind.wrap .i64 (i3 + 1)) b0_0 b0_1 b0_2))))))))) (
    FL E H73 Try.f73 0 r lh 1 (S73_L1 0 b0_0 b0_1 b0_2))) := by kernel_rfl
theorem eq73_L1 (i4 : Int) (b0_0 : Int) (b0_1 : List Int) (b0_2 : List Int) (r : List W) (lh : Heap) : FL1 E H73 Try.f73 0 r lh 1 (S73_L1 i4 b0_0 b0_1 b0_2) =
  (
   Br (decide (i4 < ((b0_2.length : Nat) : Int))) (
    Ck (decide ((0 : Int) ≤ i4)) (
     Ck (decide (i4 < ((b0_2.length : Nat) : Int))) (
      ∃ r0 : Bool, SC P 67 [.one (.int .i64 (b0_2.getD i4.toNat 0)), .one (.int .i64 1), .one (.int .i64 30)] [] [.one (.bool r0)] [] ∧
       Br (!r0) (
        Ret r lh [.one (.bool false)] []) (
        FL E H73 Try.f73 0 r lh 1 (S73_L1 (IntKind.wrap .i64 (i4 + 1)) b0_0 b0_1 b0_2))))) (
    ∃ r1 : Bool, SC P 67 [.one (.int .i64 b0_0), .one (.int .i64 0), .one (.int .i64 7)] [] [.one (.bool r1)] [] ∧
     Br r1 (
      Br (decide (((b0_2.length : Nat) : Int) = ((b0_1.length : Nat) : Int))) (
       ∃ r2 : Bool, SC P 67 [.one (.int .i64 ((b0_1.length : Nat) : Int)), .one (.int .i64 1), .one (.int .i64 4)] [] [.one (.bool r2)] [] ∧
        Ret r lh [.one (.bool r2)] []) (
       Ret r lh [.one (.bool false)] [])) (
      Ret r lh [.one (.bool false)] []))) := by kernel_rfl
theorem l73_1 (p : Pln) (hl : p.2.1.length ≤ 1048576) (hb : p.2.2.length ≤ 1048576) : ∀ (n i : Nat), i + n = p.2.2.length → FL E H73 Try.f73 0 [.one (.bool (allR (byAt p) i n && (inB p.1 0 7 && (decide (p.2.2.length = p.2.1.length) && inB (p.2.1.length : Int) 1 4))))] [] 1 (S73_L1 (i : Int) p.1 p.2.1 p.2.2)
  | 0, i, h => by
    refine FL_of1 ?_
    rw [eq73_L1, allR, Bool.true_and]
    refine Br_f (by omega) ⟨_, c67 _ _ _, Br_b (fun e => ?_) (fun e => ⟨by rw [e]; rfl, rfl⟩)⟩
    rw [e, Bool.true_and]
    refine Br_d (fun e2 => ⟨_, c67 _ _ _, by rw [decide_eq_true (show p.2.2.length = p.2.1.length by omega), Bool.true_and], rfl⟩) (fun e2 => ⟨by rw [decide_eq_false (show ¬ p.2.2.length = p.2.1.length by omega)]; rfl, rfl⟩)
  | n + 1, i, h => by
    refine FL_of1 ?_
    rw [eq73_L1, wS (by omega)]
    simp only [Int.toNat_natCast]
    refine Br_t (by omega) (Ck_d (by omega) (Ck_d (by omega) ⟨_, c67 _ _ _, Br_nb (fun e => ⟨by rw [allR_f e]; rfl, rfl⟩) (fun e => ?_)⟩))
    rw [allR_t e]
    exact l73_1 p hl hb n (i + 1) (by omega)
theorem l73_0 (p : Pln) (hl : p.2.1.length ≤ 1048576) (hb : p.2.2.length ≤ 1048576) : ∀ (n i : Nat), i + n = p.2.1.length → FL E H73 Try.f73 0 [.one (.bool (allR (formedAt p) i n && (allR (byAt p) 0 p.2.2.length && (inB p.1 0 7 && (decide (p.2.2.length = p.2.1.length) && inB (p.2.1.length : Int) 1 4)))))] [] 0 (S73_L0 (i : Int) p.1 p.2.1 p.2.2)
  | 0, i, h => by
    refine FL_of1 ?_
    rw [eq73_L0, allR, Bool.true_and]
    exact Br_f (by omega) (l73_1 p hl hb p.2.2.length 0 (by omega))
  | n + 1, i, h => by
    have no : formedAt p i = false → [W.one (.bool false)] = [W.one (.bool (allR (formedAt p) i (n + 1) && (allR (byAt p) 0 p.2.2.length && (inB p.1 0 7 && (decide (p.2.2.length = p.2.1.length) && inB (p.2.1.length : Int) 1 4)))))] := fun e => by rw [allR_f e, Bool.false_and]
    have ih := l73_0 p hl hb n (i + 1) (by omega)
    refine FL_of1 ?_
    rw [eq73_L0, wS (by omega)]
    simp only [Int.toNat_natCast]
    refine Br_t (by omega) (Ck_d (by omega) (Ck_d (by omega) ⟨_, c67 _ _ _, Br_nb (fun e => ⟨no (by rw [formedAt, e]; rfl), rfl⟩) (fun e1 => Ck_d (by omega) (Ck_d (by omega) (Br_d (fun e => ⟨no (by rw [formedAt, decide_eq_true e, Bool.not_true, Bool.and_false, Bool.false_and]), rfl⟩) (fun e2 => Br_d (fun hi => ?_) (fun hi => ?_)))))⟩))
    · rw [wrap64 (n := (i : Int) - 1) (by omega) (by omega), show ((i : Int) - 1).toNat = i - 1 by omega]
      refine Ck_d (by omega) (Ck_d (by omega) (Ck_d (by omega) (Ck_d (by omega) (Br_d (fun e => ⟨no ?_, rfl⟩) (fun e3 => ?_)))))
      · rw [formedAt, decide_eq_false (show ¬ i = 0 by omega), decide_eq_false (show ¬ p.2.1.getD (i - 1) 0 < p.2.1.getD i 0 by omega), Bool.or_false, Bool.and_false]
      · rw [allR_t (by rw [formedAt, e1, decide_eq_false e2, decide_eq_true (show p.2.1.getD (i - 1) 0 < p.2.1.getD i 0 by omega), Bool.or_true]; rfl)]
        exact ih
    · rw [allR_t (by rw [formedAt, e1, decide_eq_false e2, decide_eq_true (show i = 0 by omega), Bool.true_or]; rfl)]
      exact ih
theorem formed_spec (p : Pln) : (allR (formedAt p) 0 p.2.1.length && (allR (byAt p) 0 p.2.2.length && (inB p.1 0 7 && (decide (p.2.2.length = p.2.1.length) && inB (p.2.1.length : Int) 1 4)))) = formed p := by
  rw [formed, allR_and]
  by_cases h : p.2.2.length = p.2.1.length
  · rw [h, decide_eq_true rfl]
    cases allR (formedAt p) 0 p.2.1.length <;> cases allR (byAt p) 0 p.2.1.length <;> cases inB p.1 0 7 <;> cases inB (p.2.1.length : Int) 1 4 <;> rfl
  · rw [decide_eq_false h]
    cases allR (formedAt p) 0 p.2.1.length <;> cases allR (byAt p) 0 p.2.2.length <;> cases inB p.1 0 7 <;> cases inB (p.2.1.length : Int) 1 4 <;> rfl
theorem c73 (p : Pln) (hl : p.2.1.length ≤ 1048576) (hb : p.2.2.length ≤ 1048576) : SC P 73 [.agg [.int .i64 p.1, .ro (.int .i64) p.2.1, .ro (.int .i64) p.2.2]] [] [.one (.bool (formed p))] [] := by
  refine SC_of_FB (H := H73) E_ok Try.func73 (by kernel_rfl) ?_
  rw [eq73]
  rw [← formed_spec]
  exact l73_0 p hl hb p.2.1.length 0 (by omega)
abbrev st1 (a : Int) : Step := (1, a, 0)
abbrev st2 (one b : Int) : Step := (2, one, b)
abbrev st3 (sum one : Int) : Step := (3, sum, one)
def progStep (f b : List Int) (sum : Int) (out : List Step) (i : Nat) : List Step :=
  let out1 := out ++ [st1 (f.getD i 0)]
  let out2 := bif decide (b.getD i 0 = 1) then out1 else out1 ++ [st2 ((out1.length : Int) - 1) (b.getD i 0)]
  bif decide (i = 0) then out2 else out2 ++ [st3 sum ((out2.length : Int) - 1)]
theorem progStep_len {f b : List Int} {sum : Int} {out : List Step} {i : Nat} : out.length + 1 ≤ (progStep f b sum out i).length ∧ (progStep f b sum out i).length ≤ out.length + 3 := by
  rw [progStep]
  cases decide (b.getD i 0 = 1) <;> cases decide (i = 0) <;> simp
def progOfR (f b : List Int) : Nat → Nat → Int → List Step → List Step
  | _, 0, _, out => out
  | i, n + 1, sum, out => progOfR f b (i + 1) n (((progStep f b sum out i).length : Int) - 1) (progStep f b sum out i)
theorem progOfR_len {f b : List Int} : ∀ {n i : Nat} {sum : Int} {out : List Step}, (progOfR f b i n sum out).length ≤ out.length + 3 * n
  | 0, _, _, _ => Nat.le_refl _
  | n + 1, i, sum, out => by
    have h1 := progOfR_len (f := f) (b := b) (n := n) (i := i + 1) (sum := ((progStep f b sum out i).length : Int) - 1) (out := progStep f b sum out i)
    have h2 := (progStep_len (f := f) (b := b) (sum := sum) (out := out) (i := i)).2
    rw [progOfR]
    omega
def progOfF (p : Pln) : List Step := bif formed p then progOfR p.2.1 p.2.2 0 p.2.1.length 0 [] else []
theorem progOfF_len {p : Pln} : (progOfF p).length ≤ 12 := by
  rw [progOfF]
  cases h : formed p
  · simp
  · have := formed_iff h
    have h1 := progOfR_len (f := p.2.1) (b := p.2.2) (n := p.2.1.length) (i := 0) (sum := 0) (out := [])
    simp only [List.length_nil] at h1
    rw [cond_true]
    omega

/-! loop.example/keelson/impl.ProgOf$1 -/
def H71 : Hint := ⟨[], [], [], [], [], [], []⟩
theorem eq71 (s : Int × Int × Int) (l : List (Int × Int × Int)) (r : List W) (lh : Heap) : FB E H71 Try.f71 [.agg [.int .i64 s.1, .int .i64 s.2.1, .int .i64 s.2.2], .one (.ptr 0 0 0)] [.box [.sl 1 none], .row (.pair (.int .i64) (.pair (.int .i64) (.int .i64))) l .own] r lh =
  (
   Ck (Nat.ble ((l.length + 1) * 24) roomy) (
    Ret r lh [.one (.int .i64 (IntKind.wrap .i64 ((((l ++ ([(s.1, (s.2.1, s.2.2))] : List (Int × (Int × Int)))).length : Nat) : Int) - 1)))] [.box [.sl 1 none], .row (.pair (.int .i64) (.pair (.int .i64) (.int .i64))) (l ++ ([(s.1, (s.2.1, s.2.2))] : List (Int × (Int × Int)))) .moved])) := by kernel_rfl
theorem c71 (s : Step) (l : List Step) (hl : l.length ≤ 100) : SC P 71 [.agg [.int .i64 s.1, .int .i64 s.2.1, .int .i64 s.2.2], .one (.ptr 0 0 0)] [.box [.sl 1 none], .row (.pair (.int .i64) (.pair (.int .i64) (.int .i64))) l .own] [.one (.int .i64 (((l ++ [s]).length : Int) - 1))] [.box [.sl 1 none], .row (.pair (.int .i64) (.pair (.int .i64) (.int .i64))) (l ++ [s]) .moved] := by
  refine SC_of_FB (H := H71) E_ok Try.func71 (by kernel_rfl) ?_
  rw [eq71]
  have : (l ++ [s]).length = l.length + 1 := by simp
  rw [wrap64 (n := ((l ++ [(s.1, (s.2.1, s.2.2))]).length : Int) - 1) (by simp <;> omega) (by simp <;> omega)]
  exact Ck_room (by omega) ⟨rfl, rfl⟩

/-! slices.Clip[[]loop.example/keelson/impl.Step,loop.example/keelson/impl.Step] -/
def H72 : Hint := ⟨[], [], [], [], [.one (.sub 0)], [], []⟩
theorem eq72 (l : List (Int × Int × Int)) (r : List W) (lh : Heap) : FB E H72 Try.f72 [.one (.sl 0 none)] [.row (.pair (.int .i64) (.pair (.int .i64) (.int .i64))) l .own] r lh =
  (
   Ck (decide ((0 : Int) ≤ ((l.length : Nat) : Int))) (
    Ck (decide (((l.length : Nat) : Int) ≤ ((l.length : Nat) : Int))) (
     Ck (decide (((l.length : Nat) : Int) ≤ ((l.length : Nat) : Int))) (
      Ret r lh [.one (.sl 0 (some (0, ((l.length : Nat) : Int).toNat)))] [.row (.pair (.int .i64) (.pair (.int .i64) (.int .i64))) l .own])))) := by kernel_rfl
theorem c72 (l : List Step) : SC P 72 [.one (.sl 0 none)] [.row (.pair (.int .i64) (.pair (.int .i64) (.int .i64))) l .own] [.one (.sl 0 (some (0, l.length)))] [.row (.pair (.int .i64) (.pair (.int .i64) (.int .i64))) l .own] := by
  refine SC_of_FB (H := H72) E_ok Try.func72 (by kernel_rfl) ?_
  rw [eq72]
  exact Ck_d (by omega) (Ck_d (by omega) (Ck_d (by omega) ⟨rfl, rfl⟩))

/-! loop.example/keelson/impl.ProgOf -/
def H21 : Hint := ⟨[[(1, 0, .bool), (4, 0, .bool), (5, 0, .bool), (6, 0, .bool), (16, 0, .bool), (17, 0, .bool), (18, 0, .bool)]], [], [], [], [.one (.own (.pair (.int .i64) (.pair (.int .i64) (.int .i64)))), .one (.c .bool)], [], []⟩
def S21_L0 (sum6 : Int) (x16 : List Int) (x17 : Int) (x18 : Int) (b0_0 : Int) (b0_1 : List Int) (b0_2 : List Int) (h2 : List (Int × (Int × Int))) : St := ⟨[(1, .w (.one (.ptr 0 0 0))), (4, .w (.one (.ptr 1 0 0))), (5, .w (.one (.fn 71 [1]))), (6, .w (.one (.int .i64 sum6))), (16, .w (.one (.ro (.int .i64) x16))), (17, .w (.one (.int .i64 x17))), (18, .w (.one (.int .i64 x18)))], [.box [.int .i64 b0_0, .ro (.int .i64) b0_1, .ro (.int .i64) b0_2], .box [.sl 2 none], .row (.pair (.int .i64) (.pair (.int .i64) (.int .i64))) h2 .own]⟩
theorem eq21 (p : (Int × (List Int × List Int))) (r : List W) (lh : Heap) : FB E H21 Try.f21 [.agg [.int .i64 p.1, .ro (.int .i64) p.2.1, .ro (.int .i64) p.2.2]] [] r lh =
  (
   ∃ r0 : Bool, SC P 70 [.agg [.int .i64 p.1, .ro (.int .i64) p.2.1, .ro (.int .i64) p.2.2]] [] [.one (.bool r0)] [] ∧
    Br (!r0) (
     Ret r lh [.one (.sl 0 none), .one (.bool false)] [.row (.pair (.int .i64) (.pair (.int .i64) (.int .i64))) [] .own]) (
     FL E H21 Try.f21 0 r lh 0 (S21_L0 0 p.2.1 ((p.2.1.length : Nat) : Int) 0 p.1 p.2.1 p.2.2 []))) := by kernel_rfl
theorem eq21_L0 (sum6 : Int) (x16 : List Int) (x17 : Int) (x18 : Int) (b0_0 : Int) (b0_1 : List Int) (b0_2 : List Int) (h2 : List (Int × (Int × Int))) (r : List W) (lh : Heap) : FL1 E H21 Try.f21 0 r lh 0 (S21_L0 sum6 x16 x17 x18 b0_0 b0_1 b0_2 h2) =
  (
   Br (decide (x18 < x17)) (
    Ck (decide ((0 : Int) ≤ x18)) (
     Ck (decide (x18 < ((x16.length : Nat) : Int))) (
      ∃ r0 : List (Int × (Int × Int)) × Int, SC P 71 [.agg [.int .i64 1, .int .i64 (x16.getD x18.toNat 0), .int .i64 0], .one (.ptr 0 0 0)] [.box [.sl 1 none], .row (.pair (.int .i64) (.pair (.int .i64) (.int .i64))) h2 .own] [.one (.int .i64 r0.2)] [.box [.sl 1 none], .row (.pair (.int .i64) (.pair (.int .i64) (.int .i64))) r0.1 .moved] ∧
       Ck (decide ((0 : Int) ≤ x18)) (
        Ck (decide (x18 < ((b0_2.length : Nat) : Int))) (
         Br (!(decide ((b0_2.getD x18.toNat 0) = (1 : Int)))) (
          Ck (decide ((0 : Int) ≤ x18)) (
           Ck (decide (x18 < ((b0_2.length : Nat) : Int))) (
            ∃ r1 : List (Int × (Int × Int)) × Int, SC P 71 [.agg [.int .i64 2, .int .i64 r0.2, .int .i64 (b0_2.getD x18.toNat 0)], .one (.ptr 0 0 0)] [.box [.sl 1 none], .row (.pair (.int .i64) (.pair (.int .i64) (.int .i64))) r0.1 .own] [.one (.int .i64 r1.2)] [.box [.sl 1 none], .row (.pair (.int .i64) (.pair (.int .i64) (.int .i64))) r1.1 .moved] ∧
             Br (decide ((0 : Int) < x18)) (
              ∃ r2 : List (Int × (Int × Int)) × Int, SC P 71 [.agg [.int .i64 3, .int .i64 sum6, .int .i64 r1.2], .one (.ptr 0 0 0)] [.box [.sl 1 none], .row (.pair (.int .i64) (.pair (.int .i64) (.int .i64))) r1.1 .own] [.one (.int .i64 r2.2)] [.box [.sl 1 none], .row (.pair (.int .i64) (.pair (.int .i64) (.int .i64))) r2.1 .moved] ∧
               FL E H21 Try.f21 0 r lh 0 (S21_L0 r2.2 x16 x17 (IntKind.wrap .i64 (x18 + 1)) b0_0 b0_1 b0_2 r2.1)) (
              FL E H21 Try.f21 0 r lh 0 (S21_L0 r1.2 x16 x17 (IntKind.wrap .i64 (x18 + 1)) b0_0 b0_1 b0_2 r1.1))))) (
          Br (decide ((0 : Int) < x18)) (
           ∃ r3 : List (Int × (Int × Int)) × Int, SC P 71 [.agg [.int .i64 3, .int .i64 sum6, .int .i64 r0.2], .one (.ptr 0 0 0)] [.box [.sl 1 none], .row (.pair (.int .i64) (.pair (.int .i64) (.int .i64))) r0.1 .own] [.one (.int .i64 r3.2)] [.box [.sl 1 none], .row (.pair (.int .i64) (.pair (.int .i64) (.int .i64))) r3.1 .moved] ∧
            FL E H21 Try.f21 0 r lh 0 (S21_L0 r3.2 x16 x17 (IntKind.wrap .i64 (x18 + 1)) b0_0 b0_1 b0_2 r3.1)) (
           FL E H21 Try.f21 0 r lh 0 (S21_L0 r0.2 x16 x17 (IntKind.wrap .i64 (x18 + 1)) b0_0 b0_1 b0_2 r0.1)))))))) (
    ∃ r4 : Nat, SC P 72 [.one (.sl 0 none)] [.row (.pair (.int .i64) (.pair (.int .i64) (.int .i64))) h2 .own] [.one (.sl 0 (some (0, r4)))] [.row (.pair (.int .i64) (.pair (.int .i64) (.int .i64))) h2 .own] ∧
     Ret r lh [.one (.sl 0 none), .one (.bool true)] [.row (.pair (.int .i64) (.pair (.int .i64) (.int .i64))) (h2.take r4) .own])) := by kernel_rfl
theorem l21 (p : Pln) (h4 : p.2.1.length ≤ 4) (he : p.2.2.length = p.2.1.length) : ∀ (n i : Nat) (sum : Int) (out : List Step), i + n = p.2.1.length → out.length ≤ 3 * i → FL E H21 Try.f21 0 [.one (.sl 0 none), .one (.bool true)] [.row (.pair (.int .i64) (.pair (.int .i64) (.int .i64))) (progOfR p.2.1 p.2.2 i n sum out) .own] 0 (S21_L0 sum p.2.1 (p.2.1.length : Int) (i : Int) p.1 p.2.1 p.2.2 out)
  | 0, i, sum, out, h, ho => by
    refine FL_of1 ?_
    rw [eq21_L0, progOfR]
    exact Br_f (by omega) ⟨_, c72 out, rfl, by rw [List.take_length]⟩
  | n + 1, i, sum, out, h, ho => by
    have hl := progStep_len (f := p.2.1) (b := p.2.2) (sum := sum) (out := out) (i := i)
    have ih := l21 p h4 he n (i + 1) (((progStep p.2.1 p.2.2 sum out i).length : Int) - 1) (progStep p.2.1 p.2.2 sum out i) (by omega) (by omega)
    refine FL_of1 ?_
    rw [eq21_L0, wS (by omega), progOfR]
    simp only [Int.toNat_natCast]
    refine Br_t (by omega) (Ck_d (by omega) (Ck_d (by omega) ⟨(out ++ [st1 (p.2.1.getD i 0)], _), c71 (st1 (p.2.1.getD i 0)) out (by omega), Ck_d (by omega) (Ck_d (by omega) (Br_nd (fun hb => ?_) (fun hb => ?_)))⟩))
    · refine Ck_d (by omega) (Ck_d (by omega) ⟨(_, _), c71 (st2 _ (p.2.2.getD i 0)) (out ++ [st1 (p.2.1.getD i 0)]) (by simp; omega), Br_d (fun hi => ?_) (fun hi => ?_)⟩)
      · have e : progStep p.2.1 p.2.2 sum out i = ((out ++ [st1 (p.2.1.getD i 0)]) ++ [st2 (((out ++ [st1 (p.2.1.getD i 0)]).length : Int) - 1) (p.2.2.getD i 0)]) ++ [st3 sum ((((out ++ [st1 (p.2.1.getD i 0)]) ++ [st2 (((out ++ [st1 (p.2.1.getD i 0)]).length : Int) - 1) (p.2.2.getD i 0)]).length : Int) - 1)] := by
          rw [progStep, decide_eq_false hb, decide_eq_false (show ¬ i = 0 by omega)]; rfl
        rw [e] at ih ⊢
        exact ⟨(_, _), c71 (st3 sum _) ((out ++ [st1 (p.2.1.getD i 0)]) ++ [st2 (((out ++ [st1 (p.2.1.getD i 0)]).length : Int) - 1) (p.2.2.getD i 0)]) (by simp; omega), ih⟩
      · have e : progStep p.2.1 p.2.2 sum out i = (out ++ [st1 (p.2.1.getD i 0)]) ++ [st2 (((out ++ [st1 (p.2.1.getD i 0)]).length : Int) - 1) (p.2.2.getD i 0)] := by
          rw [progStep, decide_eq_false hb, decide_eq_true (show i = 0 by omega)]; rfl
        rw [e] at ih ⊢
        exact ih
    · refine Br_d (fun hi => ?_) (fun hi => ?_)
      · have e : progStep p.2.1 p.2.2 sum out i = (out ++ [st1 (p.2.1.getD i 0)]) ++ [st3 sum (((out ++ [st1 (p.2.1.getD i 0)]).length : Int) - 1)] := by
          rw [progStep, decide_eq_true (show p.2.2.getD i 0 = 1 from hb), decide_eq_false (show ¬ i = 0 by omega)]; rfl
        rw [e] at ih ⊢
        exact ⟨(_, _), c71 (st3 sum _) (out ++ [st1 (p.2.1.getD i 0)]) (by simp; omega), ih⟩
      · have e : progStep p.2.1 p.2.2 sum out i = out ++ [st1 (p.2.1.getD i 0)] := by
          rw [progStep, decide_eq_true (show p.2.2.getD i 0 = 1 from hb), decide_eq_true (show i = 0 by omega)]; rfl
        rw [e] at ih ⊢
        exact ih
theorem c21 (p : Pln) (hl : p.2.1.length ≤ 1048576) (hb : p.2.2.length ≤ 1048576) : SC P 21 [.agg [.int .i64 p.1, .ro (.int .i64) p.2.1, .ro (.int .i64) p.2.2]] [] [.one (.sl 0 none), .one (.bool (formed p))] [.row (.pair (.int .i64) (.pair (.int .i64) (.int .i64))) (progOfF p) .own] := by
  refine SC_of_FB (H := H21) E_ok Try.func21 (by kernel_rfl) ?_
  rw [eq21]
  refine ⟨_, c70 p hl hb, Br_nb (fun e => ⟨by rw [e], by rw [progOfF, e]; rfl⟩) (fun e => ?_)⟩
  have h := formed_iff e
  rw [progOfF, e]
  exact l21 p h.1.2 h.2.1 p.2.1.length 0 0 [] (by omega) (by simp)

/-! loop.example/keelson/spec.ProgOf -/
def H22 : Hint := ⟨[[(1, 0, .bool), (4, 0, .bool), (5, 0, .bool), (6, 0, .bool)]], [], [], [], [], [], []⟩
def S22_L0 (sum5 : Int) (i6 : Int) (b0_0 : Int) (b0_1 : List Int) (b0_2 : List Int) (h1 : List (Int × (Int × Int))) : St := ⟨[(1, .w (.one (.ptr 0 0 0))), (4, .w (.one (.sl 1 none))), (5, .w (.one (.int .i64 sum5))), (6, .w (.one (.int .i64 i6)))], [.box [.int .i64 b0_0, .ro (.int .i64) b0_1, .ro (.int .i64) b0_2], .row (.pair (.int .i64) (.pair (.int .i64) (.int .i64))) h1 .own]⟩
theorem eq22 (p : (Int × (List Int × List Int))) (r : List W) (lh : Heap) : FB E H22 Try.f22 [.agg [.int .i64 p.1, .ro (.int .i64) p.2.1, .ro (.int .i64) p.2.2]] [] r lh =
  (
   ∃ r0 : Bool, SC P 73 [.agg [.int .i64 p.1, .ro (.int .i64) p.2.1, .ro (.int .i64) p.2.2]] [] [.one (.bool r0)] [] ∧
    Br (!r0) (
     Ret r lh [.one (.sl 0 none), .one (.bool false)] [.row (.pair (.int .i64) (.pair (.int .i64) (.int .i64))) [] .own]) (
     FL E H22 Try.f22 0 r lh 0 (S22_L0 (-1) 0 p.1 p.2.1 p.2.2 []))) := by kernel_rfl
theorem eq22_L0 (sum5 : Int) (i6 : Int) (b0_0 : Int) (b0_1 : List Int) (b0_2 : List Int) (h1 : List (Int × (Int × Int))) (r : List W) (lh : Heap) : FL1 E H22 Try.f22 0 r lh 0 (S22_L0 sum5 i6 b0_0 b0_1 b0_2 h1) =
  (
   Br (decide (i6 < ((b0_1.length : Nat) : Int))) (
    Ck (decide ((0 : Int) ≤ i6)) (
     Ck (decide (i6 < ((b0_1.length : Nat) : Int))) (
      Ck (Nat.ble ((h1.length + 1) * 24) roomy) (
       Ck (decide ((0 : Int) ≤ i6)) (
        Ck (decide (i6 < ((b0_2.length : Nat) : Int))) (
         Br (!(decide ((b0_2.getD i6.toNat 0) = (1 : Int)))) (
          Ck (decide ((0 : Int) ≤ i6)) (
           Ck (decide (i6 < ((b0_2.length : Nat) : Int))) (
            Ck (Nat.ble (((h1 ++ ([(1, ((b0_1.getD i6.toNat 0), 0))] : List (Int × (Int × Int)))).length + 1) * 24) roomy) (
             Br (decide ((0 : Int) ≤ sum5)) (
              Ck (Nat.ble ((((h1 ++ ([(1, ((b0_1.getD i6.toNat 0), 0))] : List (Int × (Int × Int)))) ++ ([(2, ((IntKind.wrap .i64 ((((h1 ++ ([(1, ((b0_1.getD i6.toNat 0), 0))] : List (Int × (Int × Int)))).length : Nat) : Int) - 1)), (b0_2.getD i6.toNat 0)))] : List (Int × (Int × Int)))).length + 1) * 24) roomy) (
               FL E H22 Try.f22 0 r lh 0 (S22_L0 (IntKind.wrap .i64 ((((((h1 ++ ([(1, ((b0_1.getD i6.toNat 0), 0))] : List (Int × (Int × Int)))) ++ ([(2, ((IntKind.wrap .i64 ((((h1 ++ ([(1, ((b0_1.getD i6.toNat 0), 0))] : List (Int × (Int × Int)))).length : Nat) : Int) - 1)), (b0_2.getD i6.toNat 0)))] : List (Int × (Int × Int)))) ++ ([(3, (sum5, (IntKind.wrap .i64 (((((h1 ++ ([(1, ((b0_1.getD i6.toNat 0), 0))] : List (Int × (Int × Int)))) ++ ([(2, ((IntKind.wrap .i64 ((((h1 ++ ([(1, ((b0_1.getD i6.toNat 0), 0))] : List (Int × (Int × Int)))).length : Nat) : Int) - 1)), (b0_2.getD i6.toNat 0)))] : List (Int × (Int × Int)))).length : Nat) : Int) - 1))))] : List (Int × (Int × Int)))).length : Nat) : Int) - 1)) (IntKind.wrap .i64 (i6 + 1)) b0_0 b0_1 b0_2 (((h1 ++ ([(1, ((b0_1.getD i6.toNat 0), 0))] : List (Int × (Int × Int)))) ++ ([(2, ((IntKind.wrap .i64 ((((h1 ++ ([(1, ((b0_1.getD i6.toNat 0), 0))] : List (Int × (Int × Int)))).length : Nat) : Int) - 1)), (b0_2.getD i6.toNat 0)))] : List (Int × (Int × Int)))) ++ ([(3, (sum5, (IntKind.wrap .i64 (((((h1 ++ ([(1, ((b0_1.getD i6.toNat 0), 0))] : List (Int × (Int × Int)))) ++ ([(2, ((IntKind.wrap .i64 ((((h1 ++ ([(1, ((b0_1.getD i6.toNat 0), 0))] : List (Int × (Int × Int)))).length : Nat) : Int) - 1)), (b0_2.getD i6.toNat 0)))] : List (Int × (Int × Int)))).length : Nat) : Int) - 1))))] : List (Int × (Int × Int))))))) (
              FL E H22 Try.f22 0 r lh 0 (S22_L0 (IntKind.wrap .i64 (((((h1 ++ ([(1, ((b0_1.getD i6.toNat 0), 0))] : List (Int × (Int × Int)))) ++ ([(2, ((IntKind.wrap .i64 ((((h1 ++ ([(1, ((b0_1.getD i6.toNat 0), 0))] : List (Int × (Int × Int)))).length : Nat) : Int) - 1)), (b0_2.getD i6.toNat 0)))] : List (Int × (Int × Int)))).length : Nat) : Int) - 1)) (IntKind.wrap .i64 (i6 + 1)) b0_0 b0_1 b0_2 ((h1 ++ ([(1, ((b0_1.getD i6.toNat 0), 0))] : List (Int × (Int × Int)))) ++ ([(2, ((IntKind.wrap .i64 ((((h1 ++ ([(1, ((b0_1.getD i6.toNat 0), 0))] : List (Int × (Int × Int)))).length : Nat) : Int) - 1)), (b0_2.getD i6.toNat 0)))] : List (Int × (Int × Int)))))))))) (
          Br (decide ((0 : Int) ≤ sum5)) (
           Ck (Nat.ble (((h1 ++ ([(1, ((b0_1.getD i6.toNat 0), 0))] : List (Int × (Int × Int)))).length + 1) * 24) roomy) (
            FL E H22 Try.f22 0 r lh 0 (S22_L0 (IntKind.wrap .i64 (((((h1 ++ ([(1, ((b0_1.getD i6.toNat 0), 0))] : List (Int × (Int × Int)))) ++ ([(3, (sum5, (IntKind.wrap .i64 ((((h1 ++ ([(1, ((b0_1.getD i6.toNat 0), 0))] : List (Int × (Int × Int)))).length : Nat) : Int) - 1))))] : List (Int × (Int × Int)))).length : Nat) : Int) - 1)) (IntKind.wrap .i64 (i6 + 1)) b0_0 b0_1 b0_2 ((h1 ++ ([(1, ((b0_1.getD i6.toNat 0), 0))] : List (Int × (Int × Int)))) ++ ([(3, (sum5, (IntKind.wrap .i64 ((((h1 ++ ([(1, ((b0_1.getD i6.toNat 0), 0))] : List (Int × (Int × Int)))).length : Nat) : Int) - 1))))] : List (Int × (Int × Int))))))) (
           FL E H22 Try.f22 0 r lh 0 (S22_L0 (IntKind.wrap .i64 ((((h1 ++ ([(1, ((b0_1.getD i6.toNat 0), 0))] : List (Int × (Int × Int)))).length : Nat) : Int) - 1)) (IntKind.wrap .i64 (i6 + 1)) b0_0 b0_1 b0_2 (h1 ++ ([(1, ((b0_1.getD i6.toNat 0), 0))] : List (Int × (Int × Int))))))))))))) (
    Ret r lh [.one (.sl 0 none), .one (.bool true)] [.row (.pair (.int .i64) (.pair (.int .i64) (.int .i64))) h1 .own])) := by kernel_rfl
theorem l22 (p : Pln) (h4 : p.2.1.length ≤ 4) (he : p.2.2.length = p.2.1.length) : ∀ (n i : Nat) (sum : Int) (out : List Step), i + n = p.2.1.length → out.length ≤ 3 * i → (0 ≤ sum ↔ 0 < i) → FL E H22 Try.f22 0 [.one (.sl 0 none), .one (.bool true)] [.row (.pair (.int .i64) (.pair (.int .i64) (.int .i64))) (progOfR p.2.1 p.2.2 i n sum out) .own] 0 (S22_L0 sum (i : Int) p.1 p.2.1 p.2.2 out)
  | 0, i, sum, out, h, ho, hs => by
    refine FL_of1 ?_
    rw [eq22_L0, progOfR]
    exact Br_f (by omega) ⟨rfl, rfl⟩
  | n + 1, i, sum, out, h, ho, hs => by
    have hl := progStep_len (f := p.2.1) (b := p.2.2) (sum := sum) (out := out) (i := i)
    have ih := l22 p h4 he n (i + 1) (((progStep p.2.1 p.2.2 sum out i).length : Int) - 1) (progStep p.2.1 p.2.2 sum out i) (by omega) (by omega) (by omega)
    refine FL_of1 ?_
    rw [eq22_L0, wS (by omega), progOfR]
    simp only [Int.toNat_natCast]
    have o1 : (out ++ [st1 (p.2.1.getD i 0)]).length = out.length + 1 := by simp
    rw [wrap64 (n := ((out ++ [st1 (p.2.1.getD i 0)]).length : Int) - 1) (by omega) (by omega)]
    have o2 : ((out ++ [st1 (p.2.1.getD i 0)]) ++ [st2 (((out ++ [st1 (p.2.1.getD i 0)]).length : Int) - 1) (p.2.2.getD i 0)]).length = out.length + 2 := by simp
    rw [wrap64 (n := (((out ++ [st1 (p.2.1.getD i 0)]) ++ [st2 (((out ++ [st1 (p.2.1.getD i 0)]).length : Int) - 1) (p.2.2.getD i 0)]).length : Int) - 1) (by omega) (by omega)]
    have o3 : (((out ++ [st1 (p.2.1.getD i 0)]) ++ [st2 (((out ++ [st1 (p.2.1.getD i 0)]).length : Int) - 1) (p.2.2.getD i 0)]) ++ [st3 sum ((((out ++ [st1 (p.2.1.getD i 0)]) ++ [st2 (((out ++ [st1 (p.2.1.getD i 0)]).length : Int) - 1) (p.2.2.getD i 0)]).length : Int) - 1)]).length = out.length + 3 := by simp
    rw [wrap64 (n := ((((out ++ [st1 (p.2.1.getD i 0)]) ++ [st2 (((out ++ [st1 (p.2.1.getD i 0)]).length : Int) - 1) (p.2.2.getD i 0)]) ++ [st3 sum ((((out ++ [st1 (p.2.1.getD i 0)]) ++ [st2 (((out ++ [st1 (p.2.1.getD i 0)]).length : Int) - 1) (p.2.2.getD i 0)]).length : Int) - 1)]).length : Int) - 1) (by omega) (by omega)]
    have o4 : ((out ++ [st1 (p.2.1.getD i 0)]) ++ [st3 sum (((out ++ [st1 (p.2.1.getD i 0)]).length : Int) - 1)]).length = out.length + 2 := by simp
    rw [wrap64 (n := (((out ++ [st1 (p.2.1.getD i 0)]) ++ [st3 sum (((out ++ [st1 (p.2.1.getD i 0)]).length : Int) - 1)]).length : Int) - 1) (by omega) (by omega)]
    refine Br_t (by omega) (Ck_d (by omega) (Ck_d (by omega) (Ck_room (by first | omega | (simp only [List.length_append, List.length_cons, List.length_nil]; omega)) (Ck_d (by omega) (Ck_d (by omega) (Br_nd (fun hb => ?_) (fun hb => ?_)))))))
    · refine Ck_d (by omega) (Ck_d (by omega) (Ck_room (by first | omega | (simp only [List.length_append, List.length_cons, List.length_nil]; omega)) (Br_d (fun hi => Ck_room (by first | omega | (simp only [List.length_append, List.length_cons, List.length_nil]; omega)) ?_) (fun hi => ?_))))
      · have e : progStep p.2.1 p.2.2 sum out i = ((out ++ [st1 (p.2.1.getD i 0)]) ++ [st2 (((out ++ [st1 (p.2.1.getD i 0)]).length : Int) - 1) (p.2.2.getD i 0)]) ++ [st3 sum ((((out ++ [st1 (p.2.1.getD i 0)]) ++ [st2 (((out ++ [st1 (p.2.1.getD i 0)]).length : Int) - 1) (p.2.2.getD i 0)]).length : Int) - 1)] := by
          rw [progStep, decide_eq_false hb, decide_eq_false (show ¬ i = 0 by omega)]; rfl
        rw [e] at ih ⊢
        exact ih
      · have e : progStep p.2.1 p.2.2 sum out i = (out ++ [st1 (p.2.1.getD i 0)]) ++ [st2 (((out ++ [st1 (p.2.1.getD i 0)]).length : Int) - 1) (p.2.2.getD i 0)] := by
          rw [progStep, decide_eq_false hb, decide_eq_true (show i = 0 by omega)]; rfl
        rw [e] at ih ⊢
        exact ih
    · refine Br_d (fun hi => Ck_room (by first | omega | (simp only [List.length_append, List.length_cons, List.length_nil]; omega)) ?_) (fun hi => ?_)
      · have e : progStep p.2.1 p.2.2 sum out i = (out ++ [st1 (p.2.1.getD i 0)]) ++ [st3 sum (((out ++ [st1 (p.2.1.getD i 0)]).length : Int) - 1)] := by
          rw [progStep, decide_eq_true (show p.2.2.getD i 0 = 1 from hb), decide_eq_false (show ¬ i = 0 by omega)]; rfl
        rw [e] at ih ⊢
        exact ih
      · have e : progStep p.2.1 p.2.2 sum out i = out ++ [st1 (p.2.1.getD i 0)] := by
          rw [progStep, decide_eq_true (show p.2.2.getD i 0 = 1 from hb), decide_eq_true (show i = 0 by omega)]; rfl
        rw [e] at ih ⊢
        exact ih
theorem progOfR_start {f b : List Int} {n : Nat} {s s' : Int} {out : List Step} : progOfR f b 0 n s out = progOfR f b 0 n s' out := by
  cases n
  · rfl
  · rfl
theorem c22 (p : Pln) (hl : p.2.1.length ≤ 1048576) (hb : p.2.2.length ≤ 1048576) : SC P 22 [.agg [.int .i64 p.1, .ro (.int .i64) p.2.1, .ro (.int .i64) p.2.2]] [] [.one (.sl 0 none), .one (.bool (formed p))] [.row (.pair (.int .i64) (.pair (.int .i64) (.int .i64))) (progOfF p) .own] := by
  refine SC_of_FB (H := H22) E_ok Try.func22 (by kernel_rfl) ?_
  rw [eq22]
  refine ⟨_, c73 p hl hb, Br_nb (fun e => ⟨by rw [e], by rw [progOfF, e]; rfl⟩) (fun e => ?_)⟩
  have h := formed_iff e
  rw [progOfF, e, progOfR_start (s := 0) (s' := -1)]
  exact l22 p h.1.2 h.2.1 p.2.1.length 0 (-1) [] (by omega) (by simp) (by omega)

/-! loop.example/keelson/laws.eqPlan -/
def H44 : Hint := ⟨[], [], [], [], [], [], []⟩
theorem eq44 (a : (Int × (List Int × List Int))) (b : (Int × (List Int × List Int))) (r : List W) (lh : Heap) : FB E H44 Try.f44 [.agg [.int .i64 a.1, .ro (.int .i64) a.2.1, .ro (.int .i64) a.2.2], .agg [.int .i64 b.1, .ro (.int .i64) b.2.1, .ro (.int .i64) b.2.2]] [] r lh =
  (
   Br (!(decide (a.1 = b.1))) (
    Ret r lh [.one (.bool false)] []) (
    ∃ r0 : Bool, SC P 105 [.one (.ro (.int .i64) a.2.1), .one (.ro (.int .i64) b.2.1)] [] [.one (.bool r0)] [] ∧
     Br (!r0) (
      Ret r lh [.one (.bool false)] []) (
      ∃ r1 : Bool, SC P 105 [.one (.ro (.int .i64) a.2.2), .one (.ro (.int .i64) b.2.2)] [] [.one (.bool r1)] [] ∧
       Br (!r1) (
        Ret r lh [.one (.bool false)] []) (
        Ret r lh [.one (.bool true)] [])))) := by kernel_rfl
theorem c44 (p : Pln) (hl : p.2.1.length ≤ 1048576) (hb : p.2.2.length ≤ 1048576) : SC P 44 [.agg [.int .i64 p.1, .ro (.int .i64) p.2.1, .ro (.int .i64) p.2.2], .agg [.int .i64 p.1, .ro (.int .i64) p.2.1, .ro (.int .i64) p.2.2]] [] [.one (.bool true)] [] := by
  refine SC_of_FB (H := H44) E_ok Try.func44 (by kernel_rfl) ?_
  rw [eq44]
  have s1 := c105 p.2.1 p.2.1 hl
  have s2 := c105 p.2.2 p.2.2 hb
  rw [decide_eq_true rfl] at s1 s2
  exact Br_nd (fun e => absurd rfl e) (fun _ => ⟨_, s1, Br_nb (fun e => by cases e) (fun _ => ⟨_, s2, Br_nb (fun e => by cases e) (fun _ => ⟨rfl, rfl⟩)⟩)⟩)

/-! loop.example/keelson/laws.markPlan -/
def H47 : Hint := ⟨[], [], [], [], [], [], []⟩
theorem eq47 (s : Int) (a : List Int) (b : List Int) (k : Int) (r : List W) (lh : Heap) : FB E H47 Try.f47 [.agg [.int .i64 s, .sl 0 none, .sl 1 none], .one (.int .i64 k)] [.row (.int .i64) a .own, .row (.int .i64) b .own] r lh =
  (
   ∃ r0 : List Int × Int, SC P 106 [.one (.sl 0 none), .one (.int .i64 k)] [.row (.int .i64) a .own] [.one (.int .i64 r0.2)] [.row (.int .i64) r0.1 .own] ∧
    ∃ r1 : List Int × Int, SC P 106 [.one (.sl 0 none), .one (.int .i64 r0.2)] [.row (.int .i64) b .own] [.one (.int .i64 r1.2)] [.row (.int .i64) r1.1 .own] ∧
     Ret r lh [.one (.int .i64 r1.2)] [.row (.int .i64) r0.1 .own, .row (.int .i64) r1.1 .own]) := by kernel_rfl
theorem c47 (s : Int) (a b : List Int) (k : Int) (h1 : a.length ≤ 1048576) (h2 : b.length ≤ 1048576) (k0 : 0 ≤ k) (k1 : k ≤ 1000) : SC P 47 [.agg [.int .i64 s, .sl 0 none, .sl 1 none], .one (.int .i64 k)] [.row (.int .i64) a .own, .row (.int .i64) b .own]
    [.one (.int .i64 (k + a.length + b.length))] [.row (.int .i64) (marks (fun k : Int => k) k a.length) .own, .row (.int .i64) (marks (fun k : Int => k) (k + a.length) b.length) .own] := by
  refine SC_of_FB (H := H47) E_ok Try.func47 (by kernel_rfl) ?_
  rw [eq47]
  exact ⟨(_, _), c106 a k h1 k0 (by omega), (_, _), c106 b (k + a.length) h2 (by omega) (by omega), rfl, rfl⟩

/-! loop.example/keelson/spec.l4Set -/
def H127 : Hint := ⟨[[(0, 0, .bool), (3, 0, .bool), (4, 0, .bool)]], [], [], [], [], [], []⟩
def S127_L0 (bits0 : Int) (i4 : Int) (h0 : List Bool) : St := ⟨[(0, .w (.one (.int .i64 bits0))), (3, .w (.one (.sl 0 none))), (4, .w (.one (.int .i64 i4)))], [.row .bool h0 .own]⟩
theorem eq127 (bits : Int) (r : List W) (lh : Heap) : FB E H127 Try.f127 [.one (.int .i64 bits)] [] r lh =
  (
   FL E H127 Try.f127 0 r lh 0 (S127_L0 bits 0 [false, false, false, false, false, false, false, false])) := by kernel_rfl
theorem eq127_L0 (bits0 : Int) (i4 : Int) (h0 : List Bool) (r : List W) (lh : Heap) : FL1 E H127 Try.f127 0 r lh 0 (S127_L0 bits0 i4 h0) =
  (
   Br (decide (i4 < ((h0.length : Nat) : Int))) (
    Ck (decide ((0 : Int) ≤ i4)) (
     Ck (decide (i4 < ((h0.length : Nat) : Int))) (
      Ck (Nat.ble (i4.toNat + 1) h0.length) (
       FL E H127 Try.f127 0 r lh 0 (S127_L0 (IntKind.wrap .i64 (Int.tdiv bits0 2)) (IntKind.wrap .i64 (i4 + 1)) (h0.set i4.toNat (decide ((Int.tmod bits0 2) = (1 : Int))))))))) (
    Ret r lh [.one (.sl 0 none)] [.row .bool h0 .own])) := by kernel_rfl
theorem c127 : SC P 127 [.one (.int .i64 255)] [] [.one (.sl 0 none)] [.row .bool [true, true, true, true, true, true, true, true] .own] := by
  refine SC_of_FB (H := H127) E_ok Try.func127 (by kernel_rfl) ?_
  rw [eq127]
  have step : ∀ (i : Nat) (bits bits' : Int) (h : List Bool), i < 8 → h.length = 8 → bits.tmod 2 = 1 → IntKind.wrap .i64 (bits.tdiv 2) = bits' → FL E H127 Try.f127 0 [.one (.sl 0 none)] [.row .bool [true, true, true, true, true, true, true, true] .own] 0 (S127_L0 bits' ((i + 1 : Nat) : Int) (h.set i true)) →
      FL E H127 Try.f127 0 [.one (.sl 0 none)] [.row .bool [true, true, true, true, true, true, true, true] .own] 0 (S127_L0 bits (i : Int) h) := by
    intro i bits bits' h hi hl hb hw hF
    refine FL_of1 ?_
    rw [eq127_L0, wS (by omega), decide_eq_true hb, hw]
    simp only [Int.toNat_natCast]
    exact Br_t (by omega) (Ck_d (by omega) (Ck_d (by omega) (Ck_le (by omega) hF)))
  refine step 0 255 127 _ (by omega) rfl rfl rfl (step 1 127 63 _ (by omega) rfl rfl rfl (step 2 63 31 _ (by omega) rfl rfl rfl (step 3 31 15 _ (by omega) rfl rfl rfl (step 4 15 7 _ (by omega) rfl rfl rfl (step 5 7 3 _ (by omega) rfl rfl rfl (step 6 3 1 _ (by omega) rfl rfl rfl (step 7 1 0 _ (by omega) rfl rfl rfl ?_)))))))
  refine FL_of1 ?_
  rw [eq127_L0]
  exact Br_f (by simp) ⟨rfl, rfl⟩

/-! loop.example/keelson/spec.l91There -/
def H108 : Hint := ⟨[[(0, 0, .bool), (3, 0, .bool), (4, 0, .bool)]], [], [], [], [.one (.c (.sl .bool))], [], []⟩
def S108_L0 (n4 : Int) (b0_0 : List Int) (b0_1 : Int) (h1 : List Bool) : St := ⟨[(0, .w (.one (.ptr 0 0 0))), (3, .w (.one (.sl 1 none))), (4, .w (.one (.int .i64 n4)))], [.box [.ro (.int .u8) b0_0, .int .i64 b0_1], .row .bool h1 .own]⟩
theorem eq108 (b : List Int) (p : Int) (r : List W) (lh : Heap) : FB E H108 Try.f108 [.one (.ptr 0 0 0)] [.box [.ro (.int .u8) b, .int .i64 p]] r lh =
  (
   ∃ r0 : List Bool, SC P 127 [.one (.int .i64 255)] [] [.one (.sl 0 none)] [.row .bool r0 .own] ∧
    ∃ r1 : List Int × Int × Int, SC P 64 [.one (.ptr 0 0 0), .one (.int .i64 6)] [.box [.ro (.int .u8) b, .int .i64 p]] [.one (.int .i64 r1.2.2)] [.box [.ro (.int .u8) r1.1, .int .i64 r1.2.1]] ∧
     FL E H108 Try.f108 1 r lh 0 (S108_L0 r1.2.2 r1.1 r1.2.1 r0)) := by kernel_rfl
theorem eq108_L0 (n4 : Int) (b0_0 : List Int) (b0_1 : Int) (h1 : List Bool) (r : List W) (lh : Heap) : FL1 E H108 Try.f108 1 r lh 0 (S108_L0 n4 b0_0 b0_1 h1) =
  (
   Br (decide ((0 : Int) < n4)) (
    ∃ r0 : List Int × Int × Int, SC P 64 [.one (.ptr 0 0 0), .one (.int .i64 ((h1.length : Nat) : Int))] [.box [.ro (.int .u8) b0_0, .int .i64 b0_1]] [.one (.int .i64 r0.2.2)] [.box [.ro (.int .u8) r0.1, .int .i64 r0.2.1]] ∧
     Ck (decide ((0 : Int) ≤ r0.2.2)) (
      Ck (decide (r0.2.2 < ((h1.length : Nat) : Int))) (
       Ck (Nat.ble (r0.2.2.toNat + 1) h1.length) (
        FL E H108 Try.f108 1 r lh 0 (S108_L0 (IntKind.wrap .i64 (n4 - 1)) r0.1 r0.2.1 (h1.set r0.2.2.toNat false)))))) (
    ∃ r1 : List Int × Int × Int, SC P 64 [.one (.ptr 0 0 0), .one (.int .i64 40)] [.box [.ro (.int .u8) b0_0, .int .i64 b0_1]] [.one (.int .i64 r1.2.2)] [.box [.ro (.int .u8) r1.1, .int .i64 r1.2.1]] ∧
     Br (decide (r1.2.2 = (0 : Int))) (
      Ck (decide ((1 : Int) ≤ ((h1.length : Nat) : Int))) (
       Ck (decide (((h1.length : Nat) : Int) ≤ ((h1.length : Nat) : Int))) (
        Ck (decide (((h1.length : Nat) : Int) ≤ ((h1.length : Nat) : Int))) (
         Ret r lh [.one (.ro .bool ((h1.drop 1).take (((h1.length : Nat) : Int).toNat - 1)))] [.box [.ro (.int .u8) r1.1, .int .i64 r1.2.1]])))) (
      Ret r lh [.one (.ro .bool h1)] [.box [.ro (.int .u8) r1.1, .int .i64 r1.2.1]]))) := by kernel_rfl
theorem l108 (b : List Int) (hb : RdB b) : ∀ (n : Nat) (p : Int) (h : List Bool), 0 ≤ p → p + n ≤ 20000 → h.length = 8 → ∃ t p', (t : List Bool).length ≤ 8 ∧ 0 ≤ p' ∧ p' ≤ p + n + 1 ∧
    FL E H108 Try.f108 1 [.one (.ro .bool t)] [.box [.ro (.int .u8) b, .int .i64 p']] 0 (S108_L0 (n : Int) b p h)
  | 0, p, h, h0, h1, hl => by
    obtain ⟨v1, a1, b1, s1⟩ := c64 b p 40 hb (by omega) (by omega) (by omega)
    by_cases c0 : v1 = 0
    · refine ⟨(h.drop 1).take ((h.length : Int).toNat - 1), p + 1, by simp; omega, by omega, by omega, ?_⟩
      refine FL_of1 ?_
      rw [eq108_L0]
      exact Br_f (by omega) ⟨(b, p + 1, v1), s1, Br_t c0 (Ck_d (by omega) (Ck_d (by omega) (Ck_d (by omega) ⟨rfl, rfl⟩)))⟩
    · refine ⟨h, p + 1, by omega, by omega, by omega, ?_⟩
      refine FL_of1 ?_
      rw [eq108_L0]
      exact Br_f (by omega) ⟨(b, p + 1, v1), s1, Br_f c0 ⟨rfl, rfl⟩⟩
  | n + 1, p, h, h0, h1, hl => by
    obtain ⟨v1, a1, b1, s1⟩ := c64 b p (h.length : Int) hb (by omega) (by omega) (by omega)
    obtain ⟨t, p', e1, e2, e3, hF⟩ := l108 b hb n (p + 1) (h.set v1.toNat false) (by omega) (by omega) (by rw [List.length_set]; exact hl)
    refine ⟨t, p', e1, e2, by omega, ?_⟩
    refine FL_of1 ?_
    rw [eq108_L0, wrap64 (n := ((n + 1 : Nat) : Int) - 1) (by omega) (by omega), show ((n + 1 : Nat) : Int) - 1 = (n : Int) by omega]
    exact Br_t (by omega) ⟨(b, p + 1, v1), s1, Ck_d (by omega) (Ck_d (by omega) (Ck_le (by dsimp only; omega) hF))⟩
theorem c108 (b : List Int) (p : Int) (hb : RdB b) (h0 : 0 ≤ p) (h1 : p ≤ 10000) : ∃ t p', (t : List Bool).length ≤ 8 ∧ 0 ≤ p' ∧ p' ≤ p + 10 ∧ SC P 108 [.one (.ptr 0 0 0)] [.box [.ro (.int .u8) b, .int .i64 p]] [.one (.ro .bool t)] [.box [.ro (.int .u8) b, .int .i64 p']] := by
  obtain ⟨v1, a1, b1, s1⟩ := c64 b p 6 hb (by omega) (by omega) (by omega)
  obtain ⟨t, p', e1, e2, e3, hF⟩ := l108 b hb v1.toNat (p + 1) [true, true, true, true, true, true, true, true] (by omega) (by omega) rfl
  rw [show ((v1.toNat : Nat) : Int) = v1 by omega] at hF
  refine ⟨t, p', e1, e2, by omega, ?_⟩
  refine SC_of_FB (H := H108) E_ok Try.func108 (by kernel_rfl) ?_
  rw [eq108]
  exact ⟨_, c127, (b, p + 1, v1), s1, hF⟩

/-! loop.example/keelson/spec.l91Num -/
def H114 : Hint := ⟨[], [], [], [], [], [], []⟩
theorem eq114 (b : List Int) (p : Int) (r : List W) (lh : Heap) : FB E H114 Try.f114 [.one (.ptr 0 0 0)] [.box [.ro (.int .u8) b, .int .i64 p]] r lh =
  (
   ∃ r0 : List Int × Int × Int, SC P 64 [.one (.ptr 0 0 0), .one (.int .i64 10)] [.box [.ro (.int .u8) b, .int .i64 p]] [.one (.int .i64 r0.2.2)] [.box [.ro (.int .u8) r0.1, .int .i64 r0.2.1]] ∧
    Br (decide (r0.2.2 = (0 : Int))) (
     Ret r lh [.one (.int .i64 0)] [.box [.ro (.int .u8) r0.1, .int .i64 r0.2.1]]) (
     Br (decide (r0.2.2 = (1 : Int))) (
      ∃ r1 : List Int × Int × Int, SC P 64 [.one (.ptr 0 0 0), .one (.int .i64 2)] [.box [.ro (.int .u8) r0.1, .int .i64 r0.2.1]] [.one (.int .i64 r1.2.2)] [.box [.ro (.int .u8) r1.1, .int .i64 r1.2.1]] ∧
       Ck (decide ((0 : Int) ≤ r1.2.2)) (
        Ck (decide (r1.2.2 < (2 : Int))) (
         Ck (Nat.ble (r1.2.2.toNat + 1) 2) (
          Ret r lh [.one (.int .i64 ([1, 30].getD r1.2.2.toNat 0))] [.box [.ro (.int .u8) r1.1, .int .i64 r1.2.1]])))) (
      Br (decide (r0.2.2 = (2 : Int))) (
       ∃ r2 : List Int × Int × Int, SC P 64 [.one (.ptr 0 0 0), .one (.int .i64 5)] [.box [.ro (.int .u8) r0.1, .int .i64 r0.2.1]] [.one (.int .i64 r2.2.2)] [.box [.ro (.int .u8) r2.1, .int .i64 r2.2.1]] ∧
        Br (decide (r2.2.2 = (0 : Int))) (
         ∃ r3 : List Int × Int × Int, SC P 64 [.one (.ptr 0 0 0), .one (.int .i64 2)] [.box [.ro (.int .u8) r2.1, .int .i64 r2.2.1]] [.one (.int .i64 r3.2.2)] [.box [.ro (.int .u8) r3.1, .int .i64 r3.2.1]] ∧
          Ck (decide ((0 : Int) ≤ r3.2.2)) (
           Ck (decide (r3.2.2 < (2 : Int))) (
            Ck (Nat.ble (r3.2.2.toNat + 1) 2) (
             Ret r lh [.one (.int .i64 ([(-1), 31].getD r3.2.2.toNat 0))] [.box [.ro (.int .u8) r3.1, .int .i64 r3.2.1]])))) (
         ∃ r4 : List Int × Int × Int, SC P 64 [.one (.ptr 0 0 0), .one (.int .i64 31)] [.box [.ro (.int .u8) r2.1, .int .i64 r2.2.1]] [.one (.int .i64 r4.2.2)] [.box [.ro (.int .u8) r4.1, .int .i64 r4.2.1]] ∧
          Ret r lh [.one (.int .i64 r4.2.2)] [.box [.ro (.int .u8) r4.1, .int .i64 r4.2.1]])) (
       ∃ r5 : List Int × Int × Int, SC P 64 [.one (.ptr 0 0 0), .one (.int .i64 31)] [.box [.ro (.int .u8) r0.1, .int .i64 r0.2.1]] [.one (.int .i64 r5.2.2)] [.box [.ro (.int .u8) r5.1, .int .i64 r5.2.1]] ∧
        Ret r lh [.one (.int .i64 r5.2.2)] [.box [.ro (.int .u8) r5.1, .int .i64 r5.2.1]])))) := by kernel_rfl
theorem c114 (b : List Int) (p : Int) (hb : RdB b) (h0 : 0 ≤ p) (h1 : p ≤ 10000) : ∃ v p', 0 ≤ p' ∧ p' ≤ p + 4 ∧ SC P 114 [.one (.ptr 0 0 0)] [.box [.ro (.int .u8) b, .int .i64 p]] [.one (.int .i64 v)] [.box [.ro (.int .u8) b, .int .i64 p']] := by
  obtain ⟨v0, a0, b0, s0⟩ := c64 b p 10 hb (by omega) (by omega) (by omega)
  by_cases c0 : v0 = 0
  · refine ⟨0, p + 1, by omega, by omega, ?_⟩
    refine SC_of_FB (H := H114) E_ok Try.func114 (by kernel_rfl) ?_
    rw [eq114]
    exact ⟨(b, p + 1, v0), s0, Br_t c0 ⟨rfl, rfl⟩⟩
  by_cases c1 : v0 = 1
  · obtain ⟨v1, a1, b1, s1⟩ := c64 b (p + 1) 2 hb (by omega) (by omega) (by omega)
    refine ⟨[1, 30].getD v1.toNat 0, p + 1 + 1, by omega, by omega, ?_⟩
    refine SC_of_FB (H := H114) E_ok Try.func114 (by kernel_rfl) ?_
    rw [eq114]
    exact ⟨(b, p + 1, v0), s0, Br_f c0 (Br_t c1 ⟨(b, p + 1 + 1, v1), s1, Ck_d (by omega) (Ck_d (by omega) (Ck_le (by dsimp only; omega) ⟨rfl, rfl⟩))⟩)⟩
  by_cases c2 : v0 = 2
  · obtain ⟨v2, a2, b2, s2⟩ := c64 b (p + 1) 5 hb (by omega) (by omega) (by omega)
    by_cases c3 : v2 = 0
    · obtain ⟨v3, a3, b3, s3⟩ := c64 b (p + 1 + 1) 2 hb (by omega) (by omega) (by omega)
      refine ⟨[-1, 31].getD v3.toNat 0, p + 1 + 1 + 1, by omega, by omega, ?_⟩
      refine SC_of_FB (H := H114) E_ok Try.func114 (by kernel_rfl) ?_
      rw [eq114]
      exact ⟨(b, p + 1, v0), s0, Br_f c0 (Br_f c1 (Br_t c2 ⟨(b, p + 1 + 1, v2), s2, Br_t c3 ⟨(b, p + 1 + 1 + 1, v3), s3, Ck_d (by omega) (Ck_d (by omega) (Ck_le (by dsimp only; omega) ⟨rfl, rfl⟩))⟩⟩))⟩
    · obtain ⟨v3, a3, b3, s3⟩ := c64 b (p + 1 + 1) 31 hb (by omega) (by omega) (by omega)
      refine ⟨v3, p + 1 + 1 + 1, by omega, by omega, ?_⟩
      refine SC_of_FB (H := H114) E_ok Try.func114 (by kernel_rfl) ?_
      rw [eq114]
      exact ⟨(b, p + 1, v0), s0, Br_f c0 (Br_f c1 (Br_t c2 ⟨(b, p + 1 + 1, v2), s2, Br_f c3 ⟨(b, p + 1 + 1 + 1, v3), s3, rfl, rfl⟩⟩))⟩
  · obtain ⟨v3, a3, b3, s3⟩ := c64 b (p + 1) 31 hb (by omega) (by omega) (by omega)
    refine ⟨v3, p + 1 + 1, by omega, by omega, ?_⟩
    refine SC_of_FB (H := H114) E_ok Try.func114 (by kernel_rfl) ?_
    rw [eq114]
    exact ⟨(b, p + 1, v0), s0, Br_f c0 (Br_f c1 (Br_f c2 ⟨(b, p + 1 + 1, v3), s3, rfl, rfl⟩))⟩

/-! loop.example/keelson/spec.l91Vals -/
def H74 : Hint := ⟨[], [], [], [], [.one (.c (.int .i64)), .one (.own (.int .i64)), .one (.c (.sl .bool))], [], []⟩
theorem eq74 (b : List Int) (p : Int) (r : List W) (lh : Heap) : FB E H74 Try.f74 [.one (.ptr 0 0 0)] [.box [.ro (.int .u8) b, .int .i64 p]] r lh =
  (
   ∃ r0 : List Int × Int × Int, SC P 64 [.one (.ptr 0 0 0), .one (.int .i64 2)] [.box [.ro (.int .u8) b, .int .i64 p]] [.one (.int .i64 r0.2.2)] [.box [.ro (.int .u8) r0.1, .int .i64 r0.2.1]] ∧
    ∃ r1 : List Int × Int × Int, SC P 64 [.one (.ptr 0 0 0), .one (.int .i64 31)] [.box [.ro (.int .u8) r0.1, .int .i64 r0.2.1]] [.one (.int .i64 r1.2.2)] [.box [.ro (.int .u8) r1.1, .int .i64 r1.2.1]] ∧
     ∃ r2 : List Int × Int × Int, SC P 64 [.one (.ptr 0 0 0), .one (.int .i64 5)] [.box [.ro (.int .u8) r1.1, .int .i64 r1.2.1]] [.one (.int .i64 r2.2.2)] [.box [.ro (.int .u8) r2.1, .int .i64 r2.2.1]] ∧
      ∃ r3 : List Int × Int × Int, SC P 64 [.one (.ptr 0 0 0), .one (.int .i64 31)] [.box [.ro (.int .u8) r2.1, .int .i64 r2.2.1]] [.one (.int .i64 r3.2.2)] [.box [.ro (.int .u8) r3.1, .int .i64 r3.2.1]] ∧
       ∃ r4 : List Int × Int × Int, SC P 64 [.one (.ptr 0 0 0), .one (.int .i64 3)] [.box [.ro (.int .u8) r3.1, .int .i64 r3.2.1]] [.one (.int .i64 r4.2.2)] [.box [.ro (.int .u8) r4.1, .int .i64 r4.2.1]] ∧
        ∃ r5 : List Int, SC P 113 [.one (.int .i64 (IntKind.wrap .i64 (1 + r0.2.2))), .one (.ro (.int .i64) [r1.2.2, r2.2.2, r3.2.2, r4.2.2])] [] [.one (.sl 0 none)] [.row (.int .i64) r5 .own] ∧
         ∃ r6 : List Int × Int × List Bool, SC P 108 [.one (.ptr 0 0 0)] [.box [.ro (.int .u8) r4.1, .int .i64 r4.2.1]] [.one (.ro .bool r6.2.2)] [.box [.ro (.int .u8) r6.1, .int .i64 r6.2.1]] ∧
          ∃ r7 : List Int × Int × Int, SC P 64 [.one (.ptr 0 0 0), .one (.int .i64 6)] [.box [.ro (.int .u8) r6.1, .int .i64 r6.2.1]] [.one (.int .i64 r7.2.2)] [.box [.ro (.int .u8) r7.1, .int .i64 r7.2.1]] ∧
           Br (decide (r7.2.2 = (0 : Int))) (
            ∃ r8 : List Int × Int × Int, SC P 64 [.one (.ptr 0 0 0), .one (.int .i64 ((r5.length : Nat) : Int))] [.box [.ro (.int .u8) r7.1, .int .i64 r7.2.1]] [.one (.int .i64 r8.2.2)] [.box [.ro (.int .u8) r8.1, .int .i64 r8.2.1]] ∧
             ∃ r9 : List Int × Int × Int, SC P 114 [.one (.ptr 0 0 0)] [.box [.ro (.int .u8) r8.1, .int .i64 r8.2.1]] [.one (.int .i64 r9.2.2)] [.box [.ro (.int .u8) r9.1, .int .i64 r9.2.1]] ∧
              Ck (decide ((0 : Int) ≤ r8.2.2)) (
               Ck (decide (r8.2.2 < ((r5.length : Nat) : Int))) (
                Ck (Nat.ble (r8.2.2.toNat + 1) r5.length) (
                 Ret r lh [.one (.int .i64 (IntKind.wrap .i64 (1 + r0.2.2))), .one (.sl 1 none), .one (.ro .bool r6.2.2)] [.box [.ro (.int .u8) r9.1, .int .i64 r9.2.1], .row (.int .i64) (r5.set r8.2.2.toNat r9.2.2) .own])))) (
            Br (decide (r7.2.2 = (1 : Int))) (
             ∃ r10 : List Int × Int × Int, SC P 64 [.one (.ptr 0 0 0), .one (.int .i64 3)] [.box [.ro (.int .u8) r7.1, .int .i64 r7.2.1]] [.one (.int .i64 r10.2.2)] [.box [.ro (.int .u8) r10.1, .int .i64 r10.2.1]] ∧
              Br (decide (r10.2.2 = (0 : Int))) (
               ∃ r11 : List Int × Int × Int, SC P 84 [.one (.ptr 0 0 0)] [.box [.ro (.int .u8) r10.1, .int .i64 r10.2.1]] [.one (.int .i64 r11.2.2)] [.box [.ro (.int .u8) r11.1, .int .i64 r11.2.1]] ∧
                Ret r lh [.one (.int .i64 r11.2.2), .one (.sl 1 none), .one (.ro .bool r6.2.2)] [.box [.ro (.int .u8) r11.1, .int .i64 r11.2.1], .row (.int .i64) r5 .own]) (
               Ret r lh [.one (.int .i64 (IntKind.wrap .i64 (1 + r0.2.2))), .one (.sl 1 none), .one (.ro .bool r6.2.2)] [.box [.ro (.int .u8) r10.1, .int .i64 r10.2.1], .row (.int .i64) r5 .own])) (
             Ret r lh [.one (.int .i64 (IntKind.wrap .i64 (1 + r0.2.2))), .one (.sl 1 none), .one (.ro .bool r6.2.2)] [.box [.ro (.int .u8) r7.1, .int .i64 r7.2.1], .row (.int .i64) r5 .own]))) := by kernel_rfl
theorem c74 (b : List Int) (p : Int) (hb : RdB b) (h0 : 0 ≤ p) (h1 : p ≤ 1000) : ∃ k vals t p', (vals : List Int).length = 8 ∧ (t : List Bool).length ≤ 8 ∧ 0 ≤ p' ∧ p' ≤ p + 30 ∧
    SC P 74 [.one (.ptr 0 0 0)] [.box [.ro (.int .u8) b, .int .i64 p]] [.one (.int .i64 k), .one (.sl 1 none), .one (.ro .bool t)] [.box [.ro (.int .u8) b, .int .i64 p'], .row (.int .i64) vals .own] := by
  obtain ⟨v0, a0, b0, s0⟩ := c64 b p 2 hb (by omega) (by omega) (by omega)
  obtain ⟨v1, a1, b1, s1⟩ := c64 b (p + 1) 31 hb (by omega) (by omega) (by omega)
  obtain ⟨v2, a2, b2, s2⟩ := c64 b (p + 1 + 1) 5 hb (by omega) (by omega) (by omega)
  obtain ⟨v3, a3, b3, s3⟩ := c64 b (p + 1 + 1 + 1) 31 hb (by omega) (by omega) (by omega)
  obtain ⟨v4, a4, b4, s4⟩ := c64 b (p + 1 + 1 + 1 + 1) 3 hb (by omega) (by omega) (by omega)
  obtain ⟨t, q, ht, q0, q1, sT⟩ := c108 b (p + 1 + 1 + 1 + 1 + 1) hb (by omega) (by omega)
  obtain ⟨v5, a5, b5, s5⟩ := c64 b q 6 hb (by omega) (by omega) (by omega)
  have hw := wrap64 (n := 1 + v0) (by omega) (by omega)
  have hk : inB (IntKind.wrap .i64 (1 + v0)) 1 2 = true := by rw [hw]; exact inB_iff.2 ⟨by omega, by omega⟩
  have sA := c113 (IntKind.wrap .i64 (1 + v0)) hk (v1, v2, v3, v4) ⟨show FOk v1 from ⟨a1, by omega⟩, show FOk v2 from ⟨a2, by omega⟩, show FOk v3 from ⟨a3, by omega⟩, show FOk v4 from ⟨a4, by omega⟩⟩
  have hal := allF_length (IntKind.wrap .i64 (1 + v0)) (v1, v2, v3, v4)
  by_cases c0 : v5 = 0
  · obtain ⟨v6, a6, b6, s6⟩ := c64 b (q + 1) ((allF (IntKind.wrap .i64 (1 + v0)) (v1, v2, v3, v4)).length : Int) hb (by omega) (by omega) (by omega)
    obtain ⟨v7, q2, g0, g1, s7⟩ := c114 b (q + 1 + 1) hb (by omega) (by omega)
    refine ⟨IntKind.wrap .i64 (1 + v0), (allF (IntKind.wrap .i64 (1 + v0)) (v1, v2, v3, v4)).set v6.toNat v7, t, q2, by rw [List.length_set]; exact hal, ht, g0, by omega, ?_⟩
    refine SC_of_FB (H := H74) E_ok Try.func74 (by kernel_rfl) ?_
    rw [eq74]
    exact ⟨(b, p + 1, v0), s0, (b, _, v1), s1, (b, _, v2), s2, (b, _, v3), s3, (b, _, v4), s4, _, sA, (b, q, t), sT, (b, q + 1, v5), s5, Br_t c0 ⟨(b, q + 1 + 1, v6), s6, (b, q2, v7), s7, Ck_d (by omega) (Ck_d (by omega) (Ck_le (by dsimp only; omega) ⟨rfl, rfl⟩))⟩⟩
  by_cases c1 : v5 = 1
  · obtain ⟨v6, a6, b6, s6⟩ := c64 b (q + 1) 3 hb (by omega) (by omega) (by omega)
    by_cases c2 : v6 = 0
    · obtain ⟨k, q2, g0, g1, s7⟩ := c84 b (q + 1 + 1) hb (by omega) (by omega)
      refine ⟨k, allF (IntKind.wrap .i64 (1 + v0)) (v1, v2, v3, v4), t, q2, hal, ht, g0, by omega, ?_⟩
      refine SC_of_FB (H := H74) E_ok Try.func74 (by kernel_rfl) ?_
      rw [eq74]
      exact ⟨(b, p + 1, v0), s0, (b, _, v1), s1, (b, _, v2), s2, (b, _, v3), s3, (b, _, v4), s4, _, sA, (b, q, t), sT, (b, q + 1, v5), s5, Br_f c0 (Br_t c1 ⟨(b, q + 1 + 1, v6), s6, Br_t c2 ⟨(b, q2, k), s7, rfl, rfl⟩⟩)⟩
    · refine ⟨IntKind.wrap .i64 (1 + v0), allF (IntKind.wrap .i64 (1 + v0)) (v1, v2, v3, v4), t, q + 1 + 1, hal, ht, by omega, by omega, ?_⟩
      refine SC_of_FB (H := H74) E_ok Try.func74 (by kernel_rfl) ?_
      rw [eq74]
      exact ⟨(b, p + 1, v0), s0, (b, _, v1), s1, (b, _, v2), s2, (b, _, v3), s3, (b, _, v4), s4, _, sA, (b, q, t), sT, (b, q + 1, v5), s5, Br_f c0 (Br_t c1 ⟨(b, q + 1 + 1, v6), s6, Br_f c2 ⟨rfl, rfl⟩⟩)⟩
  · refine ⟨IntKind.wrap .i64 (1 + v0), allF (IntKind.wrap .i64 (1 + v0)) (v1, v2, v3, v4), t, q + 1, hal, ht, by omega, by omega, ?_⟩
    refine SC_of_FB (H := H74) E_ok Try.func74 (by kernel_rfl) ?_
    rw [eq74]
    exact ⟨(b, p + 1, v0), s0, (b, _, v1), s1, (b, _, v2), s2, (b, _, v3), s3, (b, _, v4), s4, _, sA, (b, q, t), sT, (b, q + 1, v5), s5, Br_f c0 (Br_f c1 ⟨rfl, rfl⟩)⟩

/-! loop.example/keelson/laws.lkThere -/
def H60 : Hint := ⟨[[(0, 0, .bool), (3, 0, .bool), (4, 0, .bool)]], [], [], [], [], [], []⟩
def S60_L0 (bits0 : Int) (i4 : Int) (h0 : List Bool) : St := ⟨[(0, .w (.one (.int .i64 bits0))), (3, .w (.one (.sl 0 none))), (4, .w (.one (.int .i64 i4)))], [.row .bool h0 .own]⟩
theorem eq60 (bits : Int) (r : List W) (lh : Heap) : FB E H60 Try.f60 [.one (.int .i64 bits)] [] r lh =
  (
   FL E H60 Try.f60 0 r lh 0 (S60_L0 bits 0 [])) := by kernel_rfl
theorem eq60_L0 (bits0 : Int) (i4 : Int) (h0 : List Bool) (r : List W) (lh : Heap) : FL1 E H60 Try.f60 0 r lh 0 (S60_L0 bits0 i4 h0) =
  (
   Br (decide (i4 < (8 : Int))) (
    Ck (Nat.ble ((h0.length + 1) * 1) roomy) (
     FL E H60 Try.f60 0 r lh 0 (S60_L0 (IntKind.wrap .i64 (Int.tdiv bits0 2)) (IntKind.wrap .i64 (i4 + 1)) (h0 ++ [(decide ((Int.tmod bits0 2) = (1 : Int)))])))) (
    Ret r lh [.one (.sl 0 none)] [.row .bool h0 .own])) := by kernel_rfl
theorem l60 : ∀ (n i b : Nat) (out : List Bool), i + n = 8 → out.length = i → b < 1000 → FL E H60 Try.f60 0 [.one (.sl 0 none)] [.row .bool (out ++ thereB n b) .own] 0 (S60_L0 (b : Int) (i : Int) out)
  | 0, i, b, out, h, ho, hb => by
    refine FL_of1 ?_
    rw [eq60_L0]
    exact Br_f (by omega) ⟨rfl, by rw [thereB, List.append_nil]⟩
  | n + 1, i, b, out, h, ho, hb => by
    have hw : IntKind.wrap .i64 (Int.tdiv (b : Int) 2) = ((b / 2 : Nat) : Int) := by
      rw [Int.tdiv_eq_ediv_of_nonneg (by omega), wrap64 (by omega) (by omega)]; omega
    have hd : decide (Int.tmod (b : Int) 2 = 1) = decide (b % 2 = 1) := by
      rw [Int.tmod_eq_emod_of_nonneg (by omega)]
      exact decide_eq_decide.2 (by omega)
    refine FL_of1 ?_
    rw [eq60_L0, wS (i := i) (by omega), hw, hd, thereB]
    refine Br_t (by omega) (Ck_room (by omega) ?_)
    have := l60 n (i + 1) (b / 2) (out ++ [decide (b % 2 = 1)]) (by omega) (by simp; omega) (by omega)
    rw [List.append_assoc] at this
    exact this
theorem c60 (b : Int) (h0 : 0 ≤ b) (h1 : b < 256) : SC P 60 [.one (.int .i64 b)] [] [.one (.sl 0 none)] [.row .bool (thereB 8 b.toNat) .own] := by
  refine SC_of_FB (H := H60) E_ok Try.func60 (by kernel_rfl) ?_
  rw [eq60]
  have := l60 8 0 b.toNat [] rfl rfl (by omega)
  rw [show ((b.toNat : Nat) : Int) = b by omega] at this
  exact this
theorem thereB_len : ∀ (n b : Nat), (thereB n b).length = n
  | 0, _ => rfl
  | n + 1, b => by rw [thereB, List.length_cons, thereB_len n]

end Go.Proofs.Ytnbdhclkmcfdfaa.Sh
