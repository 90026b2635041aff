/- Programs that are run: contracts, and the exact laws on them. -/
import Derived.Test.YthehpbbibfallaaShP2
namespace Go.Proofs.Ythehpbbibfallaa.Sh
open Go
set_option linter.unusedVariables false
set_option linter.unusedSimpArgs false
/-! loop.example/keelson/laws.toStep -/
def H99 : Hint := ⟨[], [], [], [], [], []⟩
theorem eq99 (a : (Int × (Int × Int))) (r : List W) (lh : Heap) : FB E H99 Try.f99 [.agg [.int .i64 a.1, .int .i64 a.2.1, .int .i64 a.2.2]] [] r lh =
  (
   Ret r lh [.agg [.int .i64 a.1, .int .i64 a.2.1, .int .i64 a.2.2]] []) := by kernel_rfl
theorem c99 (h : House) : SC P 99 [.agg [.int .i64 h.1, .int .i64 h.2.1, .int .i64 h.2.2]] [] [.agg [.int .i64 h.1, .int .i64 h.2.1, .int .i64 h.2.2]] [] := by
  refine SC_of_FB (H := H99) E_ok Try.func99 (by kernel_rfl) ?_
  rw [eq99]
  exact ⟨rfl, rfl⟩
/-! loop.example/keelson/laws.szStepS -/
def H50 : Hint := ⟨[], [], [], [], [], []⟩
theorem eq50 (a : List (Int × (Int × Int))) (left : Int) (r : List W) (lh : Heap) : FB E H50 Try.f50 [.one (.ro (.pair (.int .i64) (.pair (.int .i64) (.int .i64))) a), .one (.int .i64 left)] [] r lh =
  (
   Br (decide ((IntKind.wrap .i64 (left - ((a.length : Nat) : Int))) < (0 : Int))) (
    Ret r lh [.one (.int .i64 (-1))] []) (
    Ret r lh [.one (.int .i64 (IntKind.wrap .i64 (left - ((a.length : Nat) : Int))))] [])) := by kernel_rfl
theorem c50 (l : List House) (hl : l.length ≤ 9223372036854775807) : SC P 50 [.one (.ro (.pair (.int .i64) (.pair (.int .i64) (.int .i64))) l), .one (.int .i64 1048576)] [] [.one (.int .i64 (bif decide (l.length ≤ 1048576) then 1048576 - (l.length : Int) else -1))] [] := by
  refine SC_of_FB (H := H50) E_ok Try.func50 (by kernel_rfl) ?_
  rw [eq50]
  rw [wrap64 (by omega) (by omega)]
  refine Br_d (fun h => ⟨?_, rfl⟩) (fun h => ⟨?_, rfl⟩)
  · rw [decide_eq_false (by omega)]; rfl
  · rw [decide_eq_true (by omega)]; rfl
/-! loop.example/keelson/laws.toStepS -/
def H52 : Hint := ⟨[[(0, 0, .bool), (3, 0, .bool), (4, 0, .bool)]], [], [], [], [], []⟩
def S52_L0 (a0 : List (Int × (Int × Int))) (i4 : Int) (h0 : List (Int × (Int × Int))) : St := ⟨[(0, .w (.one (.ro (.pair (.int .i64) (.pair (.int .i64) (.int .i64))) a0))), (3, .w (.one (.sl 0 none))), (4, .w (.one (.int .i64 i4)))], [.row (.pair (.int .i64) (.pair (.int .i64) (.int .i64))) h0 .own]⟩
theorem eq52 (a : List (Int × (Int × Int))) (r : List W) (lh : Heap) : FB E H52 Try.f52 [.one (.ro (.pair (.int .i64) (.pair (.int .i64) (.int .i64))) a)] [] r lh =
  (
   Ck (decide ((0 : Int) ≤ ((a.length : Nat) : Int))) (
    Ck (decide (((a.length : Nat) : Int) ≤ ((a.length : Nat) : Int))) (
     Ck (decide (((a.length : Nat) : Int) * (24 : Nat) ≤ (roomy : Int))) (
      FL E H52 Try.f52 0 r lh 0 (S52_L0 a 0 (List.replicate (((a.length : Nat) : Int).toNat) ((0, (0, 0)) : (Int × (Int × Int))))))))) := by kernel_rfl
theorem eq52_L0 (a0 : List (Int × (Int × Int))) (i4 : Int) (h0 : List (Int × (Int × Int))) (r : List W) (lh : Heap) : FL1 E H52 Try.f52 0 r lh 0 (S52_L0 a0 i4 h0) =
  (
   Br (decide (i4 < ((a0.length : Nat) : Int))) (
    Ck (decide ((0 : Int) ≤ i4)) (
     Ck (decide (i4 < ((a0.length : Nat) : Int))) (
      ∃ r0 : Int × Int × Int, SC P 99 [.agg [.int .i64 ((a0.getD i4.toNat (0, (0, 0))).1), .int .i64 (((a0.getD i4.toNat (0, (0, 0))).2).1), .int .i64 (((a0.getD i4.toNat (0, (0, 0))).2).2)]] [] [.agg [.int .i64 r0.1, .int .i64 r0.2.1, .int .i64 r0.2.2]] [] ∧
       Ck (decide ((0 : Int) ≤ i4)) (
        Ck (decide (i4 < ((h0.length : Nat) : Int))) (
         Ck (Nat.blt i4.toNat h0.length) (
          FL E H52 Try.f52 0 r lh 0 (S52_L0 a0 (IntKind.wrap .i64 (i4 + 1)) (h0.set i4.toNat (r0.1, (r0.2.1, r0.2.2)))))))))) (
    Ret r lh [.one (.sl 0 none)] [.row (.pair (.int .i64) (.pair (.int .i64) (.int .i64))) h0 .own])) := by kernel_rfl
theorem l52 (l : List House) (hl : l.length ≤ 1048576) : ∀ (n i : Nat) (out : List House), i + n = l.length → out.length = l.length → (∀ j, j < i → out[j]? = l[j]?) → FL E H52 Try.f52 0 [.one (.sl 0 none)] [.row (.pair (.int .i64) (.pair (.int .i64) (.int .i64))) l .own] 0 (S52_L0 l (i : Int) out)
  | 0, i, out, h, ho, H => by
    refine FL_of1 ?_
    rw [eq52_L0]
    obtain rfl : out = l := fill_done ho fun j hj => H j (by omega)
    exact Br_f (by omega) ⟨rfl, rfl⟩
  | n + 1, i, out, h, ho, H => by
    refine FL_of1 ?_
    rw [eq52_L0, wS (by omega)]
    simp only [Int.toNat_natCast]
    refine Br_t (by omega) (Ck_d (by omega) (Ck_d (by omega) ⟨_, c99 (hAt l i), Ck_d (by omega) (Ck_d (by omega) (Ck_lt (by omega) ?_))⟩))
    refine l52 l hl n (i + 1) _ (by omega) (by simp [ho]) (fill_step ho ?_ H)
    rw [hAt, getD_eq (show i < l.length by omega)]
    exact List.getElem?_eq_getElem _
theorem c52 (l : List House) (hl : l.length ≤ 1048576) : SC P 52 [.one (.ro (.pair (.int .i64) (.pair (.int .i64) (.int .i64))) l)] [] [.one (.sl 0 none)] [.row (.pair (.int .i64) (.pair (.int .i64) (.int .i64))) l .own] := by
  refine SC_of_FB (H := H52) E_ok Try.func52 (by kernel_rfl) ?_
  rw [eq52]
  refine Ck_d (by omega) (Ck_d (by omega) (Ck_roomI (by omega) ?_))
  exact l52 l hl l.length 0 _ (by omega) (by simp) (fun j hj => absurd hj (by omega))
/-! loop.example/keelson/laws.eqStep -/
def H95 : Hint := ⟨[], [], [], [], [], []⟩
theorem eq95 (a : (Int × (Int × Int))) (b : (Int × (Int × Int))) (r : List W) (lh : Heap) : FB E H95 Try.f95 [.agg [.int .i64 a.1, .int .i64 a.2.1, .int .i64 a.2.2], .agg [.int .i64 b.1, .int .i64 b.2.1, .int .i64 b.2.2]] [] r lh =
  (
   Br (!(decide (a.1 = b.1))) (
    Ret r lh [.one (.bool false)] []) (
    Br (!(decide (a.2.1 = b.2.1))) (
     Ret r lh [.one (.bool false)] []) (
     Br (!(decide (a.2.2 = b.2.2))) (
      Ret r lh [.one (.bool false)] []) (
      Ret r lh [.one (.bool true)] [])))) := by kernel_rfl
theorem c95 (a b : House) : SC P 95 [.agg [.int .i64 a.1, .int .i64 a.2.1, .int .i64 a.2.2], .agg [.int .i64 b.1, .int .i64 b.2.1, .int .i64 b.2.2]] [] [.one (.bool (decide (a = b)))] [] := by
  refine SC_of_FB (H := H95) E_ok Try.func95 (by kernel_rfl) ?_
  rw [eq95]
  obtain ⟨a1, a2, a3⟩ := a
  obtain ⟨b1, b2, b3⟩ := b
  exact Br_nd (fun h => ⟨by simp [h], rfl⟩) (fun h => Br_nd (fun h' => ⟨by simp [h'], rfl⟩) (fun h' => Br_nd (fun h'' => ⟨by simp [h''], rfl⟩) (fun h'' => ⟨by simp_all, rfl⟩)))
/-! loop.example/keelson/laws.eqStepS -/
def H45 : Hint := ⟨[[(0, 0, .bool), (1, 0, .bool), (5, 0, .bool)]], [], [(6, [0, 1, 2, 3, 4, 5, 6, 7, 8, 9])], [], [], []⟩
def S45_L0 (a0 : List (Int × (Int × Int))) (b1 : List (Int × (Int × Int))) (i5 : Int) : St := ⟨[(0, .w (.one (.ro (.pair (.int .i64) (.pair (.int .i64) (.int .i64))) a0))), (1, .w (.one (.ro (.pair (.int .i64) (.pair (.int .i64) (.int .i64))) b1))), (5, .w (.one (.int .i64 i5)))], []⟩
theorem eq45 (a : List (Int × (Int × Int))) (b : List (Int × (Int × Int))) (r : List W) (lh : Heap) : FB E H45 Try.f45 [.one (.ro (.pair (.int .i64) (.pair (.int .i64) (.int .i64))) a), .one (.ro (.pair (.int .i64) (.pair (.int .i64) (.int .i64))) b)] [] r lh =
  (
   Br (!(decide (((a.length : Nat) : Int) = ((b.length : Nat) : Int)))) (
    Ret r lh [.one (.bool false)] []) (
    FL E H45 Try.f45 0 r lh 0 (S45_L0 a b 0))) := by kernel_rfl
theorem eq45_L0 (a0 : List (Int × (Int × Int))) (b1 : List (Int × (Int × Int))) (i5 : Int) (r : List W) (lh : Heap) : FL1 E H45 Try.f45 0 r lh 0 (S45_L0 a0 b1 i5) =
  (
   Br (decide (i5 < ((a0.length : Nat) : Int))) (
    Ck (decide ((0 : Int) ≤ i5)) (
     Ck (decide (i5 < ((a0.length : Nat) : Int))) (
      Ck (decide ((0 : Int) ≤ i5)) (
       Ck (decide (i5 < ((b1.length : Nat) : Int))) (
        ∃ r0 : Bool, SC P 95 [.agg [.int .i64 ((a0.getD i5.toNat (0, (0, 0))).1), .int .i64 (((a0.getD i5.toNat (0, (0, 0))).2).1), .int .i64 (((a0.getD i5.toNat (0, (0, 0))).2).2)], .agg [.int .i64 ((b1.getD i5.toNat (0, (0, 0))).1), .int .i64 (((b1.getD i5.toNat (0, (0, 0))).2).1), .int .i64 (((b1.getD i5.toNat (0, (0, 0))).2).2)]] [] [.one (.bool r0)] [] ∧
         Br (!r0) (
          Ret r lh [.one (.bool false)] []) (
          FL E H45 Try.f45 0 r lh 0 (S45_L0 a0 b1 (IntKind.wrap .i64 (i5 + 1))))))))) (
    Ret r lh [.one (.bool true)] [])) := by kernel_rfl
theorem l45 (a b : List House) (hl : a.length ≤ 1048576) (hb : a.length = b.length) : ∀ (n i : Nat), i + n = a.length → FL E H45 Try.f45 0 [.one (.bool (allR (fun j => decide (a.getD j (0, 0, 0) = b.getD j (0, 0, 0))) i n))] [] 0 (S45_L0 a b (i : Int))
  | 0, i, h => by
    refine FL_of1 ?_
    rw [eq45_L0]
    exact Br_f (by omega) ⟨rfl, rfl⟩
  | n + 1, i, h => by
    refine FL_of1 ?_
    rw [eq45_L0, wS (by omega)]
    simp only [Int.toNat_natCast]
    refine Br_t (by omega) (Ck_d (by omega) (Ck_d (by omega) (Ck_d (by omega) (Ck_d (by omega) ⟨_, c95 (hAt a i) (hAt b i), Br_nb (fun h1 => ?_) (fun h1 => ?_)⟩))))
    · exact ⟨by rw [allR_f h1], rfl⟩
    · rw [allR_t h1]
      exact l45 a b hl hb n (i + 1) (by omega)
theorem c45 (a b : List House) (hl : a.length ≤ 1048576) : SC P 45 [.one (.ro (.pair (.int .i64) (.pair (.int .i64) (.int .i64))) a), .one (.ro (.pair (.int .i64) (.pair (.int .i64) (.int .i64))) b)] [] [.one (.bool (decide (a = b)))] [] := by
  refine SC_of_FB (H := H45) E_ok Try.func45 (by kernel_rfl) ?_
  rw [eq45]
  refine Br_nd (fun h => ⟨?_, rfl⟩) (fun h => ?_)
  · rw [decide_eq_false (by rintro rfl; exact h rfl)]
  · have h : a.length = b.length := by omega
    rw [← eqR h]
    exact l45 a b hl h a.length 0 (by omega)
/-! loop.example/keelson/impl.shardOk -/
def H124 : Hint := ⟨[], [], [], [], [], []⟩
theorem eq124 (at0 : Int) (r : List W) (lh : Heap) : FB E H124 Try.f124 [.one (.int .i64 at0)] [] r lh =
  (
   ∃ r0 : Bool, SC P 68 [.one (.int .i64 at0), .one (.int .i64 0), .one (.int .i64 7)] [] [.one (.bool r0)] [] ∧
    Ret r lh [.one (.bool r0)] []) := by kernel_rfl
theorem c124 (n : Int) : SC P 124 [.one (.int .i64 n)] [] [.one (.bool (inB n 0 7))] [] := by
  refine SC_of_FB (H := H124) E_ok Try.func124 (by kernel_rfl) ?_
  rw [eq124]
  exact ⟨_, c68 _ _ _, rfl, rfl⟩
abbrev Step := Int × Int × Int
def stepOk (s : Step) (many : Int) : Bool :=
  bif decide (s.1 = 1) then inB s.2.1 0 7 && decide (s.2.2 = 0)
  else bif decide (s.1 = 2) then inB s.2.1 0 (many - 1) && inB s.2.2 0 30
  else bif decide (s.1 = 3) then inB s.2.1 0 (many - 1) && inB s.2.2 0 (many - 1)
  else false
def progOk (l : List Step) : Bool := allR (fun i => stepOk (hAt l i) (i : Int)) 0 l.length && inB (l.length : Int) 1 16
/-! (loop.example/keelson/impl.Step).ok$1 -/
def H133 : Hint := ⟨[], [], [], [], [], []⟩
theorem eq133 (n : Int) (many : Int) (r : List W) (lh : Heap) : FB E H133 Try.f133 [.one (.int .i64 n), .one (.ptr 0 0 0)] [.row (.int .i64) [many] .var] r lh =
  (
   ∃ r0 : Bool, SC P 68 [.one (.int .i64 n), .one (.int .i64 0), .one (.int .i64 (IntKind.wrap .i64 (many - 1)))] [] [.one (.bool r0)] [] ∧
    Ret r lh [.one (.bool r0)] [.row (.int .i64) [many] .var]) := by kernel_rfl
theorem c133 (n many : Int) (h0 : 0 ≤ many) (h1 : many ≤ 1048576) : SC P 133 [.one (.int .i64 n), .one (.ptr 0 0 0)] [.row (.int .i64) [many] .var] [.one (.bool (inB n 0 (many - 1)))] [.row (.int .i64) [many] .var] := by
  refine SC_of_FB (H := H133) E_ok Try.func133 (by kernel_rfl) ?_
  rw [eq133]
  rw [wrap64 (by omega) (by omega)]
  exact ⟨_, c68 _ _ _, rfl, rfl⟩
/-! (loop.example/keelson/impl.Step).ok -/
def H125 : Hint := ⟨[], [], [], [], [], []⟩
theorem eq125 (s : (Int × (Int × Int))) (many : Int) (r : List W) (lh : Heap) : FB E H125 Try.f125 [.agg [.int .i64 s.1, .int .i64 s.2.1, .int .i64 s.2.2], .one (.int .i64 many)] [] r lh =
  (
   Br (decide (s.1 = (1 : Int))) (
    ∃ r0 : Bool, SC P 124 [.one (.int .i64 s.2.1)] [] [.one (.bool r0)] [] ∧
     Br r0 (
      Ret r lh [.one (.bool (decide (s.2.2 = (0 : Int))))] []) (
      Ret r lh [.one (.bool false)] [])) (
    Br (decide (s.1 = (2 : Int))) (
     ∃ r1 : Bool, SC P 133 [.one (.int .i64 s.2.1), .one (.ptr 0 0 0)] [.row (.int .i64) [many] .var] [.one (.bool r1)] [.row (.int .i64) [many] .var] ∧
      Br r1 (
       ∃ r2 : Bool, SC P 131 [.one (.int .i64 s.2.2)] [] [.one (.bool r2)] [] ∧
        Ret r lh [.one (.bool r2)] []) (
       Ret r lh [.one (.bool false)] [])) (
     Br (decide (s.1 = (3 : Int))) (
      ∃ r3 : Bool, SC P 133 [.one (.int .i64 s.2.1), .one (.ptr 0 0 0)] [.row (.int .i64) [many] .var] [.one (.bool r3)] [.row (.int .i64) [many] .var] ∧
       Br r3 (
        ∃ r4 : Bool, SC P 133 [.one (.int .i64 s.2.2), .one (.ptr 0 0 0)] [.row (.int .i64) [many] .var] [.one (.bool r4)] [.row (.int .i64) [many] .var] ∧
         Ret r lh [.one (.bool r4)] []) (
        Ret r lh [.one (.bool false)] [])) (
      Ret r lh [.one (.bool false)] [])))) := by kernel_rfl
theorem c125 (h : Step) (many : Int) (h0 : 0 ≤ many) (h1 : many ≤ 1048576) : SC P 125 [.agg [.int .i64 h.1, .int .i64 h.2.1, .int .i64 h.2.2], .one (.int .i64 many)] [] [.one (.bool (stepOk h many))] [] := by
  refine SC_of_FB (H := H125) E_ok Try.func125 (by kernel_rfl) ?_
  rw [eq125]
  refine Br_d (fun c => ⟨_, c124 _, Br_b (fun e => ⟨by rw [stepOk, decide_eq_true c, cond_true, e, Bool.true_and], rfl⟩) (fun e => ⟨by rw [stepOk, decide_eq_true c, cond_true, e, Bool.false_and], rfl⟩)⟩) (fun c => ?_)
  refine Br_d (fun c2 => ⟨_, c133 _ many h0 h1, Br_b (fun e => ⟨_, c131 _, by rw [stepOk, decide_eq_false c, cond_false, decide_eq_true c2, cond_true, e, Bool.true_and], rfl⟩) (fun e => ⟨by rw [stepOk, decide_eq_false c, cond_false, decide_eq_true c2, cond_true, e, Bool.false_and], rfl⟩)⟩) (fun c2 => ?_)
  refine Br_d (fun c3 => ⟨_, c133 _ many h0 h1, Br_b (fun e => ⟨_, c133 _ many h0 h1, by rw [stepOk, decide_eq_false c, cond_false, decide_eq_false c2, cond_false, decide_eq_true c3, cond_true, e, Bool.true_and], rfl⟩) (fun e => ⟨by rw [stepOk, decide_eq_false c, cond_false, decide_eq_false c2, cond_false, decide_eq_true c3, cond_true, e, Bool.false_and], rfl⟩)⟩) (fun c3 => ?_)
  exact ⟨by rw [stepOk, decide_eq_false c, cond_false, decide_eq_false c2, cond_false, decide_eq_false c3, cond_false], rfl⟩
/-! loop.example/keelson/impl.ProgOk -/
def H100 : Hint := ⟨[[(0, 0, .bool), (5, 0, .bool), (6, 0, .bool), (7, 0, .bool)]], [], [], [], [], []⟩
def S100_L0 (l0 : List (Int × (Int × Int))) (x5 : List (Int × (Int × Int))) (x6 : Int) (x7 : Int) : St := ⟨[(0, .w (.one (.ro (.pair (.int .i64) (.pair (.int .i64) (.int .i64))) l0))), (5, .w (.one (.ro (.pair (.int .i64) (.pair (.int .i64) (.int .i64))) x5))), (6, .w (.one (.int .i64 x6))), (7, .w (.one (.int .i64 x7)))], []⟩
theorem eq100 (l : List (Int × (Int × Int))) (r : List W) (lh : Heap) : FB E H100 Try.f100 [.one (.ro (.pair (.int .i64) (.pair (.int .i64) (.int .i64))) l)] [] r lh =
  (
   FL E H100 Try.f100 0 r lh 0 (S100_L0 l l ((l.length : Nat) : Int) 0)) := by kernel_rfl
theorem eq100_L0 (l0 : List (Int × (Int × Int))) (x5 : List (Int × (Int × Int))) (x6 : Int) (x7 : Int) (r : List W) (lh : Heap) : FL1 E H100 Try.f100 0 r lh 0 (S100_L0 l0 x5 x6 x7) =
  (
   Br (decide (x7 < x6)) (
    Ck (decide ((0 : Int) ≤ x7)) (
     Ck (decide (x7 < ((x5.length : Nat) : Int))) (
      ∃ r0 : Bool, SC P 125 [.agg [.int .i64 ((x5.getD x7.toNat (0, (0, 0))).1), .int .i64 (((x5.getD x7.toNat (0, (0, 0))).2).1), .int .i64 (((x5.getD x7.toNat (0, (0, 0))).2).2)], .one (.int .i64 x7)] [] [.one (.bool r0)] [] ∧
       Br (!r0) (
        Ret r lh [.one (.bool false)] []) (
        FL E H100 Try.f100 0 r lh 0 (S100_L0 l0 x5 x6 (IntKind.wrap .i64 (x7 + 1))))))) (
    ∃ r1 : Bool, SC P 68 [.one (.int .i64 ((l0.length : Nat) : Int)), .one (.int .i64 1), .one (.int .i64 16)] [] [.one (.bool r1)] [] ∧
     Ret r lh [.one (.bool r1)] [])) := by kernel_rfl
theorem l100 (l : List Step) (hl : l.length ≤ 1048576) : ∀ (n i : Nat), i + n = l.length → FL E H100 Try.f100 0 [.one (.bool (allR (fun i => stepOk (hAt l i) (i : Int)) i n && inB (l.length : Int) 1 16))] [] 0 (S100_L0 l l (l.length : Int) (i : Int))
  | 0, i, h => by
    refine FL_of1 ?_
    rw [eq100_L0]
    exact Br_f (by omega) ⟨_, c68 _ _ _, by rw [allR, Bool.true_and], rfl⟩
  | n + 1, i, h => by
    refine FL_of1 ?_
    rw [eq100_L0, wS (by omega)]
    simp only [Int.toNat_natCast]
    refine Br_t (by omega) (Ck_d (by omega) (Ck_d (by omega) ⟨_, c125 (hAt l i) (i : Int) (by omega) (by omega), Br_nb (fun e => ?_) (fun e => ?_)⟩))
    · exact ⟨by rw [allR_f e, Bool.false_and], rfl⟩
    · rw [allR_t e]
      exact l100 l hl n (i + 1) (by omega)
theorem c100 (l : List Step) (hl : l.length ≤ 1048576) : SC P 100 [.one (.ro (.pair (.int .i64) (.pair (.int .i64) (.int .i64))) l)] [] [.one (.bool (progOk l))] [] := by
  refine SC_of_FB (H := H100) E_ok Try.func100 (by kernel_rfl) ?_
  rw [eq100]
  exact l100 l hl l.length 0 (by omega)
/-! loop.example/keelson/spec.ProgOk -/
def H96 : Hint := ⟨[[(0, 0, .bool), (3, 0, .bool)]], [], [], [], [], []⟩
def S96_L0 (l0 : List (Int × (Int × Int))) (i3 : Int) : St := ⟨[(0, .w (.one (.ro (.pair (.int .i64) (.pair (.int .i64) (.int .i64))) l0))), (3, .w (.one (.int .i64 i3)))], []⟩
theorem eq96 (l : List (Int × (Int × Int))) (r : List W) (lh : Heap) : FB E H96 Try.f96 [.one (.ro (.pair (.int .i64) (.pair (.int .i64) (.int .i64))) l)] [] r lh =
  (
   FL E H96 Try.f96 0 r lh 0 (S96_L0 l 0)) := by kernel_rfl
theorem eq96_L0 (l0 : List (Int × (Int × Int))) (i3 : Int) (r : List W) (lh : Heap) : FL1 E H96 Try.f96 0 r lh 0 (S96_L0 l0 i3) =
  (
   Br (decide (i3 < ((l0.length : Nat) : Int))) (
    Ck (decide ((0 : Int) ≤ i3)) (
     Ck (decide (i3 < ((l0.length : Nat) : Int))) (
      Br (decide ((l0.getD i3.toNat (0, (0, 0))).1 = (1 : Int))) (
       ∃ r0 : Bool, SC P 69 [.one (.int .i64 (((l0.getD i3.toNat (0, (0, 0))).2).1)), .one (.int .i64 0), .one (.int .i64 7)] [] [.one (.bool r0)] [] ∧
        Br (!r0) (
         Ret r lh [.one (.bool false)] []) (
         Br (!(decide (((l0.getD i3.toNat (0, (0, 0))).2).2 = (0 : Int)))) (
          Ret r lh [.one (.bool false)] []) (
          FL E H96 Try.f96 0 r lh 0 (S96_L0 l0 (IntKind.wrap .i64 (i3 + 1)))))) (
       Br (decide ((l0.getD i3.toNat (0, (0, 0))).1 = (2 : Int))) (
        ∃ r1 : Bool, SC P 69 [.one (.int .i64 (((l0.getD i3.toNat (0, (0, 0))).2).1)), .one (.int .i64 0), .one (.int .i64 (IntKind.wrap .i64 (i3 - 1)))] [] [.one (.bool r1)] [] ∧
         Br (!r1) (
          Ret r lh [.one (.bool false)] []) (
          ∃ r2 : Bool, SC P 89 [.one (.int .i64 (((l0.getD i3.toNat (0, (0, 0))).2).2))] [] [.one (.bool r2)] [] ∧
           Br (!r2) (
            Ret r lh [.one (.bool false)] []) (
            FL E H96 Try.f96 0 r lh 0 (S96_L0 l0 (IntKind.wrap .i64 (i3 + 1)))))) (
        Br (decide ((l0.getD i3.toNat (0, (0, 0))).1 = (3 : Int))) (
         ∃ r3 : Bool, SC P 69 [.one (.int .i64 (((l0.getD i3.toNat (0, (0, 0))).2).1)), .one (.int .i64 0), .one (.int .i64 (IntKind.wrap .i64 (i3 - 1)))] [] [.one (.bool r3)] [] ∧
          Br (!r3) (
           Ret r lh [.one (.bool false)] []) (
           ∃ r4 : Bool, SC P 69 [.one (.int .i64 (((l0.getD i3.toNat (0, (0, 0))).2).2)), .one (.int .i64 0), .one (.int .i64 (IntKind.wrap .i64 (i3 - 1)))] [] [.one (.bool r4)] [] ∧
            Br (!r4) (
             Ret r lh [.one (.bool false)] []) (
             FL E H96 Try.f96 0 r lh 0 (S96_L0 l0 (IntKind.wrap .i64 (i3 + 1)))))) (
         Ret r lh [.one (.bool false)] [])))))) (
    ∃ r5 : Bool, SC P 69 [.one (.int .i64 ((l0.length : Nat) : Int)), .one (.int .i64 1), .one (.int .i64 16)] [] [.one (.bool r5)] [] ∧
     Ret r lh [.one (.bool r5)] [])) := by kernel_rfl
theorem l96 (l : List Step) (hl : l.length ≤ 1048576) : ∀ (n i : Nat), i + n = l.length → FL E H96 Try.f96 0 [.one (.bool (allR (fun i => stepOk (hAt l i) (i : Int)) i n && inB (l.length : Int) 1 16))] [] 0 (S96_L0 l (i : Int))
  | 0, i, h => by
    refine FL_of1 ?_
    rw [eq96_L0]
    exact Br_f (by omega) ⟨_, c69 _ _ _, by rw [allR, Bool.true_and], rfl⟩
  | n + 1, i, h => by
    have no : stepOk (hAt l i) (i : Int) = false → [W.one (.bool false)] = [W.one (.bool (allR (fun i => stepOk (hAt l i) (i : Int)) i (n + 1) && inB (l.length : Int) 1 16))] := fun e => by rw [allR_f e, Bool.false_and]
    refine FL_of1 ?_
    rw [eq96_L0, wS (by omega), wrap64 (n := (i : Int) - 1) (by omega) (by omega)]
    simp only [Int.toNat_natCast]
    have ih := l96 l hl n (i + 1) (by omega)
    refine Br_t (by omega) (Ck_d (by omega) (Ck_d (by omega) ?_))
    refine Br_d (fun c => ⟨_, c69 _ _ _, Br_nb (fun e => ⟨no ?_, rfl⟩) (fun e => Br_nd (fun e2 => ⟨no ?_, rfl⟩) (fun e2 => ?_))⟩) (fun c => ?_)
    · rw [stepOk, show decide ((hAt l i).1 = 1) = true from decide_eq_true c, cond_true]; exact (by rw [show inB (hAt l i).2.1 0 7 = false from e]; rfl)
    · rw [stepOk, show decide ((hAt l i).1 = 1) = true from decide_eq_true c, cond_true, show inB (hAt l i).2.1 0 7 = true from e, Bool.true_and]; exact decide_eq_false e2
    · rw [allR_t (by rw [stepOk, show decide ((hAt l i).1 = 1) = true from decide_eq_true c, cond_true, show inB (hAt l i).2.1 0 7 = true from e, Bool.true_and]; exact decide_eq_true e2)]
      exact ih
    refine Br_d (fun c2 => ⟨_, c69 _ _ _, Br_nb (fun e => ⟨no ?_, rfl⟩) (fun e => ⟨_, c89 _, Br_nb (fun e2 => ⟨no ?_, rfl⟩) (fun e2 => ?_)⟩)⟩) (fun c2 => ?_)
    · rw [stepOk, show decide ((hAt l i).1 = 1) = false from decide_eq_false c, cond_false, show decide ((hAt l i).1 = 2) = true from decide_eq_true c2, cond_true, show inB (hAt l i).2.1 0 ((i : Int) - 1) = false from e]; rfl
    · rw [stepOk, show decide ((hAt l i).1 = 1) = false from decide_eq_false c, cond_false, show decide ((hAt l i).1 = 2) = true from decide_eq_true c2, cond_true, show inB (hAt l i).2.1 0 ((i : Int) - 1) = true from e, Bool.true_and]; exact e2
    · rw [allR_t (by rw [stepOk, show decide ((hAt l i).1 = 1) = false from decide_eq_false c, cond_false, show decide ((hAt l i).1 = 2) = true from decide_eq_true c2, cond_true, show inB (hAt l i).2.1 0 ((i : Int) - 1) = true from e, Bool.true_and]; exact e2)]
      exact ih
    refine Br_d (fun c3 => ⟨_, c69 _ _ _, Br_nb (fun e => ⟨no ?_, rfl⟩) (fun e => ⟨_, c69 _ _ _, Br_nb (fun e2 => ⟨no ?_, rfl⟩) (fun e2 => ?_)⟩)⟩) (fun c3 => ⟨no ?_, rfl⟩)
    · rw [stepOk, show decide ((hAt l i).1 = 1) = false from decide_eq_false c, cond_false, show decide ((hAt l i).1 = 2) = false from decide_eq_false c2, cond_false, show decide ((hAt l i).1 = 3) = true from decide_eq_true c3, cond_true, show inB (hAt l i).2.1 0 ((i : Int) - 1) = false from e]; rfl
    · rw [stepOk, show decide ((hAt l i).1 = 1) = false from decide_eq_false c, cond_false, show decide ((hAt l i).1 = 2) = false from decide_eq_false c2, cond_false, show decide ((hAt l i).1 = 3) = true from decide_eq_true c3, cond_true, show inB (hAt l i).2.1 0 ((i : Int) - 1) = true from e, Bool.true_and]; exact e2
    · rw [allR_t (by rw [stepOk, show decide ((hAt l i).1 = 1) = false from decide_eq_false c, cond_false, show decide ((hAt l i).1 = 2) = false from decide_eq_false c2, cond_false, show decide ((hAt l i).1 = 3) = true from decide_eq_true c3, cond_true, show inB (hAt l i).2.1 0 ((i : Int) - 1) = true from e, Bool.true_and]; exact e2)]
      exact ih
    · rw [stepOk, show decide ((hAt l i).1 = 1) = false from decide_eq_false c, cond_false, show decide ((hAt l i).1 = 2) = false from decide_eq_false c2, cond_false, show decide ((hAt l i).1 = 3) = false from decide_eq_false c3, cond_false]
theorem c96 (l : List Step) (hl : l.length ≤ 1048576) : SC P 96 [.one (.ro (.pair (.int .i64) (.pair (.int .i64) (.int .i64))) l)] [] [.one (.bool (progOk l))] [] := by
  refine SC_of_FB (H := H96) E_ok Try.func96 (by kernel_rfl) ?_
  rw [eq96]
  exact l96 l hl l.length 0 (by omega)
def stepV {α : Type} (ld : Int → α) (tm : α → Int → α) (pl : α → α → α) (z : α) (n : List α) (s : Step) : α :=
  bif decide (s.1 = 1) then ld s.2.1 else bif decide (s.1 = 2) then tm (n.getD s.2.1.toNat z) s.2.2 else pl (n.getD s.2.1.toNat z) (n.getD s.2.2.toNat z)
def runV {α : Type} (ld : Int → α) (tm : α → Int → α) (pl : α → α → α) (z : α) : List Step → List α → List α
  | [], n => n
  | s :: l, n => runV ld tm pl z l (n ++ [stepV ld tm pl z n s])
def runF {α : Type} (ld : Int → α) (tm : α → Int → α) (pl : α → α → α) (z : α) (l : List Step) : α := (runV ld tm pl z l []).getD (l.length - 1) z
def timesE (a c : Int) : Int := a * c % 31
def plusE (a b : Int) : Int := (a + b) % 31
theorem prog_step {l : List Step} (h : progOk l = true) {i : Nat} (hi : i < l.length) : stepOk (hAt l i) (i : Int) = true := by
  rw [progOk, Bool.and_eq_true, allR_iff] at h
  exact h.1 i (Nat.zero_le _) (by omega)
theorem prog_len {l : List Step} (h : progOk l = true) : 1 ≤ l.length ∧ l.length ≤ 16 := by
  rw [progOk, Bool.and_eq_true, inB_iff] at h
  omega
theorem step_cases {s : Step} {i : Nat} (h : stepOk s (i : Int) = true) : (s.1 = 1 ∧ 0 ≤ s.2.1 ∧ s.2.1 ≤ 7) ∨ (s.1 ≠ 1 ∧ s.1 = 2 ∧ 0 ≤ s.2.1 ∧ s.2.1 < i ∧ FOk s.2.2) ∨ (s.1 ≠ 1 ∧ s.1 ≠ 2 ∧ 0 ≤ s.2.1 ∧ s.2.1 < i ∧ 0 ≤ s.2.2 ∧ s.2.2 < i) := by
  rw [stepOk] at h
  by_cases c1 : s.1 = 1
  · rw [decide_eq_true c1, cond_true, Bool.and_eq_true, inB_iff] at h
    exact .inl ⟨c1, h.1⟩
  · rw [decide_eq_false c1, cond_false] at h
    by_cases c2 : s.1 = 2
    · rw [decide_eq_true c2, cond_true, Bool.and_eq_true, inB_iff, inB_iff] at h
      exact .inr (.inl ⟨c1, c2, h.1.1, by omega, h.2⟩)
    · rw [decide_eq_false c2, cond_false] at h
      by_cases c3 : s.1 = 3
      · rw [decide_eq_true c3, cond_true, Bool.and_eq_true, inB_iff, inB_iff] at h
        exact .inr (.inr ⟨c1, c2, h.1.1, by omega, h.2.1, by omega⟩)
      · rw [decide_eq_false c3, cond_false] at h
        cases h
theorem getD_all {α : Type} {q : α → Prop} {n : List α} {z : α} (h : ∀ x ∈ n, q x) (hz : q z) (i : Nat) : q (n.getD i z) := by
  by_cases hi : i < n.length
  · rw [getD_eq hi]; exact h _ (List.getElem_mem hi)
  · rw [List.getD, List.getElem?_eq_none (by omega)]; exact hz
def valsOk (l : List Int) : Bool := decide (l.length = 8) && l.all (fun n => inB n 0 30)
theorem valsOk_iff {l : List Int} : valsOk l = true ↔ l.length = 8 ∧ ∀ x ∈ l, FOk x := by
  rw [valsOk, Bool.and_eq_true, decide_eq_true_iff, List.all_eq_true]
  simp only [inB_iff, FOk]
theorem fok0 : FOk 0 := ⟨by omega, by omega⟩
theorem Br_ne {b : Bool} {A B : Prop} (h : B) : Br (b != b) A B := by cases b <;> exact h
def progRunF (l : List Step) (vals : List Int) : Int := bif progOk l && valsOk vals then runF (fun a => vals.getD a.toNat 0) timesE plusE 0 l else 0
def progRowV (kind : Int) (l : List Step) : V4 := runF (fun a => rowV kind a) vtimes vplus (0, 0, 0, 0) l
def progRowF (kind : Int) (l : List Step) : List Int := bif inB kind 1 2 && progOk l then (progRowV kind l).l else []
theorem progRowF_len {kind : Int} {l : List Step} : (progRowF kind l).length ≤ 4 := by
  rw [progRowF]
  cases inB kind 1 2 && progOk l
  · simp
  · exact Nat.le_refl _
/-! loop.example/keelson/impl.valsOk -/
def H101 : Hint := ⟨[], [], [], [], [], []⟩
theorem eq101 (vals : List Int) (r : List W) (lh : Heap) : FB E H101 Try.f101 [.one (.ro (.int .i64) vals)] [] r lh =
  (
   ∃ r0 : Bool, SC P 117 [.one (.ro (.int .i64) vals), .one (.int .i64 8)] [] [.one (.bool r0)] [] ∧
    Ret r lh [.one (.bool r0)] []) := by kernel_rfl
theorem c101 (l : List Int) (hl : l.length ≤ 1048576) : SC P 101 [.one (.ro (.int .i64) l)] [] [.one (.bool (valsOk l))] [] := by
  refine SC_of_FB (H := H101) E_ok Try.func101 (by kernel_rfl) ?_
  rw [eq101]
  have e : (decide ((l.length : Int) = 8) && l.all (fun n => inB n 0 30)) = valsOk l := by
    rw [valsOk]
    congr 1
    exact decide_eq_decide.2 (by omega)
  have := c117 l 8 hl
  rw [e] at this
  exact ⟨_, this, rfl, rfl⟩
/-! loop.example/keelson/spec.l4Vals -/
def H97 : Hint := ⟨[[(0, 0, .bool), (1, 0, .bool), (5, 0, .bool)]], [], [], [], [], []⟩
def S97_L0 (vals0 : List Int) (there1 : List Bool) (i5 : Int) : St := ⟨[(0, .w (.one (.ro (.int .i64) vals0))), (1, .w (.one (.ro .bool there1))), (5, .w (.one (.int .i64 i5)))], []⟩
theorem eq97 (vals : List Int) (there : List Bool) (r : List W) (lh : Heap) : FB E H97 Try.f97 [.one (.ro (.int .i64) vals), .one (.ro .bool there)] [] r lh =
  (
   FL E H97 Try.f97 0 r lh 0 (S97_L0 vals there 0)) := by kernel_rfl
theorem eq97_L0 (vals0 : List Int) (there1 : List Bool) (i5 : Int) (r : List W) (lh : Heap) : FL1 E H97 Try.f97 0 r lh 0 (S97_L0 vals0 there1 i5) =
  (
   Br (decide (i5 < ((vals0.length : Nat) : Int))) (
    Ck (decide ((0 : Int) ≤ i5)) (
     Ck (decide (i5 < ((vals0.length : Nat) : Int))) (
      ∃ r0 : Bool, SC P 89 [.one (.int .i64 (vals0.getD i5.toNat 0))] [] [.one (.bool r0)] [] ∧
       Br (!r0) (
        Ret r lh [.one (.bool false)] []) (
        FL E H97 Try.f97 0 r lh 0 (S97_L0 vals0 there1 (IntKind.wrap .i64 (i5 + 1))))))) (
    Br (decide (((vals0.length : Nat) : Int) = (8 : Int))) (
     Ret r lh [.one (.bool (decide (((there1.length : Nat) : Int) = (8 : Int))))] []) (
     Ret r lh [.one (.bool false)] []))) := by kernel_rfl
theorem l97 (l : List Int) (t : List Bool) (hl : l.length ≤ 1048576) : ∀ (n i : Nat), i + n = l.length → FL E H97 Try.f97 0 [.one (.bool ((decide (l.length = 8) && allR (fun j => inB (l.getD j 0) 0 30) i n) && decide (t.length = 8)))] [] 0 (S97_L0 l t (i : Int))
  | 0, i, h => by
    refine FL_of1 ?_
    rw [eq97_L0, allR, Bool.and_true]
    refine Br_f (by omega) (Br_d (fun c => ⟨?_, rfl⟩) (fun c => ⟨?_, rfl⟩))
    · rw [decide_eq_true (show l.length = 8 by omega), Bool.true_and]
      congr 3
      exact decide_eq_decide.2 (by omega)
    · rw [decide_eq_false (show ¬ l.length = 8 by omega), Bool.false_and]
  | n + 1, i, h => by
    refine FL_of1 ?_
    rw [eq97_L0, wS (by omega)]
    simp only [Int.toNat_natCast]
    refine Br_t (by omega) (Ck_d (by omega) (Ck_d (by omega) ⟨_, c89 _, Br_nb (fun h1 => ?_) (fun h1 => ?_)⟩))
    · exact ⟨by rw [allR_f h1, Bool.and_false, Bool.false_and], rfl⟩
    · rw [allR_t h1]
      exact l97 l t hl n (i + 1) (by omega)
theorem c97 (l : List Int) (t : List Bool) (hl : l.length ≤ 1048576) : SC P 97 [.one (.ro (.int .i64) l), .one (.ro .bool t)] [] [.one (.bool (valsOk l && decide (t.length = 8)))] [] := by
  refine SC_of_FB (H := H97) E_ok Try.func97 (by kernel_rfl) ?_
  rw [eq97]
  have := l97 l t hl l.length 0 (by omega)
  rw [allR_all (fun n => inB n 0 30) l 0] at this
  exact this
/-! loop.example/keelson/spec.FieldMul -/
def H98 : Hint := ⟨[], [], [], [], [], []⟩
theorem eq98 (a : Int) (b : Int) (r : List W) (lh : Heap) : FB E H98 Try.f98 [.one (.int .i64 a), .one (.int .i64 b)] [] r lh =
  (
   ∃ r0 : Bool, SC P 89 [.one (.int .i64 a)] [] [.one (.bool r0)] [] ∧
    Br (!r0) (
     Ret r lh [.one (.int .i64 0)] []) (
     ∃ r1 : Bool, SC P 89 [.one (.int .i64 b)] [] [.one (.bool r1)] [] ∧
      Br (!r1) (
       Ret r lh [.one (.int .i64 0)] []) (
       Ret r lh [.one (.int .i64 (Int.tmod (IntKind.wrap .i64 (a * b)) 31))] []))) := by kernel_rfl
theorem c98 (a b : Int) (ha : FOk a) (hb : FOk b) : SC P 98 [.one (.int .i64 a), .one (.int .i64 b)] [] [.one (.int .i64 (a * b % 31))] [] := by
  refine SC_of_FB (H := H98) E_ok Try.func98 (by kernel_rfl) ?_
  rw [eq98]
  have := fok_mul ha hb
  rw [wrap64 (by omega) (by omega), Int.tmod_eq_emod_of_nonneg (by omega)]
  exact ⟨_, c89 a, Br_nb (fun e => by rw [inB_iff.2 ha] at e; cases e) (fun _ => ⟨_, c89 b, Br_nb (fun e => by rw [inB_iff.2 hb] at e; cases e) (fun _ => ⟨rfl, rfl⟩)⟩)⟩
/-! loop.example/keelson/spec.l2Scale -/
def H105 : Hint := ⟨[[(0, 0, .bool), (1, 0, .bool), (5, 0, .bool), (6, 0, .bool)]], [], [], [], [], []⟩
def S105_L0 (v0 : List Int) (c1 : Int) (i6 : Int) (h0 : List Int) : St := ⟨[(0, .w (.one (.ro (.int .i64) v0))), (1, .w (.one (.int .i64 c1))), (5, .w (.one (.sl 0 none))), (6, .w (.one (.int .i64 i6)))], [.row (.int .i64) h0 .own]⟩
theorem eq105 (v : List Int) (c : Int) (r : List W) (lh : Heap) : FB E H105 Try.f105 [.one (.ro (.int .i64) v), .one (.int .i64 c)] [] r lh =
  (
   FL E H105 Try.f105 0 r lh 0 (S105_L0 v c 0 [])) := by kernel_rfl
theorem eq105_L0 (v0 : List Int) (c1 : Int) (i6 : Int) (h0 : List Int) (r : List W) (lh : Heap) : FL1 E H105 Try.f105 0 r lh 0 (S105_L0 v0 c1 i6 h0) =
  (
   Br (decide (i6 < ((v0.length : Nat) : Int))) (
    Ck (decide ((0 : Int) ≤ i6)) (
     Ck (decide (i6 < ((v0.length : Nat) : Int))) (
      Ck (Nat.ble ((h0.length + 1) * 8) roomy) (
       FL E H105 Try.f105 0 r lh 0 (S105_L0 v0 c1 (IntKind.wrap .i64 (i6 + 1)) (h0 ++ [(Int.tmod (IntKind.wrap .i64 ((v0.getD i6.toNat 0) * c1)) 31)])))))) (
    Ret r lh [.one (.sl 0 none)] [.row (.int .i64) h0 .own])) := by kernel_rfl
theorem l105 (v : V4) (c : Int) (hv : VOk v) (hc : FOk c) : ∀ (n i : Nat) (out : List Int), i + n = 4 → out.length = i → FL E H105 Try.f105 0 [.one (.sl 0 none)] [.row (.int .i64) (out ++ mapR (fun j => v.l.getD j 0 * c % 31) i n) .own] 0 (S105_L0 v.l c (i : Int) out)
  | 0, i, out, h, ho => by
    have hvl : v.l.length = 4 := rfl
    refine FL_of1 ?_
    rw [eq105_L0]
    exact Br_f (by omega) ⟨rfl, by rw [mapR, List.append_nil]⟩
  | n + 1, i, out, h, ho => by
    have hvl : v.l.length = 4 := rfl
    have hm := fok_mul (vok_get hv i) hc
    refine FL_of1 ?_
    rw [eq105_L0, wS (by omega), mapR]
    simp only [Int.toNat_natCast]
    rw [wrap64 (n := v.l.getD i 0 * c) (by omega) (by omega), Int.tmod_eq_emod_of_nonneg hm.1]
    refine Br_t (by omega) (Ck_d (by omega) (Ck_d (by omega) (Ck_room (by omega) ?_)))
    have := l105 v c hv hc n (i + 1) (out ++ [v.l.getD i 0 * c % 31]) (by omega) (by simp; omega)
    rw [List.append_assoc] at this
    exact this
theorem c105 (v : V4) (c : Int) (hv : VOk v) (hc : FOk c) : SC P 105 [.one (.ro (.int .i64) v.l), .one (.int .i64 c)] [] [.one (.sl 0 none)] [.row (.int .i64) (vtimes v c).l .own] := by
  refine SC_of_FB (H := H105) E_ok Try.func105 (by kernel_rfl) ?_
  rw [eq105]
  exact l105 v c hv hc 4 0 [] (by omega) rfl
/-! loop.example/keelson/spec.l2Sum -/
def H106 : Hint := ⟨[[(0, 0, .bool), (1, 0, .bool), (5, 0, .bool), (6, 0, .bool)]], [], [(5, [0, 1, 2, 3, 4, 5, 6, 7, 8, 9, 10, 11, 12, 13])], [], [], []⟩
def S106_L0 (a0 : List Int) (b1 : List Int) (i6 : Int) (h0 : List Int) : St := ⟨[(0, .w (.one (.ro (.int .i64) a0))), (1, .w (.one (.ro (.int .i64) b1))), (5, .w (.one (.sl 0 none))), (6, .w (.one (.int .i64 i6)))], [.row (.int .i64) h0 .own]⟩
theorem eq106 (a : List Int) (b : List Int) (r : List W) (lh : Heap) : FB E H106 Try.f106 [.one (.ro (.int .i64) a), .one (.ro (.int .i64) b)] [] r lh =
  (
   FL E H106 Try.f106 0 r lh 0 (S106_L0 a b 0 [])) := by kernel_rfl
theorem eq106_L0 (a0 : List Int) (b1 : List Int) (i6 : Int) (h0 : List Int) (r : List W) (lh : Heap) : FL1 E H106 Try.f106 0 r lh 0 (S106_L0 a0 b1 i6 h0) =
  (
   Br (decide (i6 < ((a0.length : Nat) : Int))) (
    Ck (decide ((0 : Int) ≤ i6)) (
     Ck (decide (i6 < ((a0.length : Nat) : Int))) (
      Ck (decide ((0 : Int) ≤ i6)) (
       Ck (decide (i6 < ((b1.length : Nat) : Int))) (
        Ck (Nat.ble ((h0.length + 1) * 8) roomy) (
         FL E H106 Try.f106 0 r lh 0 (S106_L0 a0 b1 (IntKind.wrap .i64 (i6 + 1)) (h0 ++ [(Int.tmod (IntKind.wrap .i64 ((a0.getD i6.toNat 0) + (b1.getD i6.toNat 0))) 31)])))))))) (
    Ret r lh [.one (.sl 0 none)] [.row (.int .i64) h0 .own])) := by kernel_rfl
theorem l106 (v u : V4) (hv : VOk v) (hu : VOk u) : ∀ (n i : Nat) (out : List Int), i + n = 4 → out.length = i → FL E H106 Try.f106 0 [.one (.sl 0 none)] [.row (.int .i64) (out ++ mapR (fun j => (v.l.getD j 0 + u.l.getD j 0) % 31) i n) .own] 0 (S106_L0 v.l u.l (i : Int) out)
  | 0, i, out, h, ho => by
    have hvl : v.l.length = 4 := rfl
    refine FL_of1 ?_
    rw [eq106_L0]
    exact Br_f (by omega) ⟨rfl, by rw [mapR, List.append_nil]⟩
  | n + 1, i, out, h, ho => by
    have hvl : v.l.length = 4 := rfl
    have hul : u.l.length = 4 := rfl
    obtain ⟨a0, a1⟩ := vok_get hv i
    obtain ⟨b0, b1⟩ := vok_get hu i
    refine FL_of1 ?_
    rw [eq106_L0, wS (by omega), mapR]
    simp only [Int.toNat_natCast]
    rw [wrap64 (n := v.l.getD i 0 + u.l.getD i 0) (by omega) (by omega), Int.tmod_eq_emod_of_nonneg (by omega)]
    refine Br_t (by omega) (Ck_d (by omega) (Ck_d (by omega) (Ck_d (by omega) (Ck_d (by omega) (Ck_room (by omega) ?_)))))
    have := l106 v u hv hu n (i + 1) (out ++ [(v.l.getD i 0 + u.l.getD i 0) % 31]) (by omega) (by simp; omega)
    rw [List.append_assoc] at this
    exact this
theorem c106 (v u : V4) (hv : VOk v) (hu : VOk u) : SC P 106 [.one (.ro (.int .i64) v.l), .one (.ro (.int .i64) u.l)] [] [.one (.sl 0 none)] [.row (.int .i64) (vplus v u).l .own] := by
  refine SC_of_FB (H := H106) E_ok Try.func106 (by kernel_rfl) ?_
  rw [eq106]
  exact l106 v u hv hu 4 0 [] (by omega) rfl
/-! loop.example/keelson/impl.ProgRun$1 -/
def H103 : Hint := ⟨[], [], [], [], [], []⟩
theorem eq103 (i : Int) (vals : List Int) (r : List W) (lh : Heap) : FB E H103 Try.f103 [.one (.int .i64 i), .one (.ptr 0 0 0)] [.box [.ro (.int .i64) vals]] r lh =
  (
   Ck (decide ((0 : Int) ≤ i)) (
    Ck (decide (i < ((vals.length : Nat) : Int))) (
     Ret r lh [.one (.int .i64 (vals.getD i.toNat 0))] [.box [.ro (.int .i64) vals]]))) := by kernel_rfl
theorem c103 (i : Int) (vals : List Int) (h0 : 0 ≤ i) (h1 : i < vals.length) : SC P 103 [.one (.int .i64 i), .one (.ptr 0 0 0)] [.box [.ro (.int .i64) vals]] [.one (.int .i64 (vals.getD i.toNat 0))] [.box [.ro (.int .i64) vals]] := by
  refine SC_of_FB (H := H103) E_ok Try.func103 (by kernel_rfl) ?_
  rw [eq103]
  exact Ck_d h0 (Ck_d h1 ⟨rfl, rfl⟩)
/-! loop.example/keelson/impl.ProgRow$1 -/
def H108 : Hint := ⟨[], [], [], [], [], []⟩
theorem eq108 (i : Int) (kind : Int) (r : List W) (lh : Heap) : FB E H108 Try.f108 [.one (.int .i64 i), .one (.ptr 0 0 0)] [.row (.int .i64) [kind] .var] r lh =
  (
   ∃ r0 : Int × Int × Int × Int, SC P 109 [.one (.int .i64 kind), .one (.int .i64 i)] [] [.agg [.int .i64 r0.1, .int .i64 r0.2.1, .int .i64 r0.2.2.1, .int .i64 r0.2.2.2]] [] ∧
    Ret r lh [.agg [.int .i64 r0.1, .int .i64 r0.2.1, .int .i64 r0.2.2.1, .int .i64 r0.2.2.2]] [.row (.int .i64) [kind] .var]) := by kernel_rfl
theorem c108 (i kind : Int) (h0 : 0 ≤ i) (h1 : i ≤ 7) : SC P 108 [.one (.int .i64 i), .one (.ptr 0 0 0)] [.row (.int .i64) [kind] .var] [.agg [.int .i64 (rowV kind i).1, .int .i64 (rowV kind i).2.1, .int .i64 (rowV kind i).2.2.1, .int .i64 (rowV kind i).2.2.2]] [.row (.int .i64) [kind] .var] := by
  refine SC_of_FB (H := H108) E_ok Try.func108 (by kernel_rfl) ?_
  rw [eq108]
  exact ⟨rowV kind i, c109 kind i h0 h1, rfl, rfl⟩
theorem m122_95 : MethodIs P 95 "loop.example/keelson/impl.times" 122 := by
  intro v w
  kernel_rfl
theorem m74_95 : MethodIs P 95 "loop.example/keelson/impl.plus" 74 := by
  intro v w
  kernel_rfl
theorem m84_97 : MethodIs P 97 "loop.example/keelson/impl.times" 84 := by
  intro v w
  kernel_rfl
theorem m123_97 : MethodIs P 97 "loop.example/keelson/impl.plus" 123 := by
  intro v w
  kernel_rfl
/-! loop.example/keelson/impl.run[loop.example/keelson/impl.element] -/
def H102 : Hint := ⟨[[(1, 0, .bool), (5, 0, .bool), (11, 0, .bool), (12, 0, .bool), (13, 0, .bool)]], [], [(10, [0, 1, 2, 3, 4, 5, 6, 7, 8, 9, 10, 11, 12]), (6, [0, 1, 2, 3, 4, 5, 6, 7, 8, 9, 10, 11, 12, 13, 14, 15])], [(54, 122), (31, 74)], [], []⟩
def S102_L0 (x11 : List (Int × (Int × Int))) (x12 : Int) (x13 : Int) (b0_0 : List Int) (h1 : List Int) : St := ⟨[(1, .w (.one (.fn 103 [0]))), (5, .w (.one (.sl 1 none))), (11, .w (.one (.ro (.pair (.int .i64) (.pair (.int .i64) (.int .i64))) x11))), (12, .w (.one (.int .i64 x12))), (13, .w (.one (.int .i64 x13)))], [.box [.ro (.int .i64) b0_0], .row (.int .i64) h1 .own]⟩
theorem eq102 (l : List (Int × Int × Int)) (vals : List Int) (r : List W) (lh : Heap) : FB E H102 Try.f102 [.one (.ro (.pair (.int .i64) (.pair (.int .i64) (.int .i64))) l), .one (.fn 103 [0])] [.box [.ro (.int .i64) vals]] r lh =
  (
   Ck (decide ((0 : Int) ≤ ((l.length : Nat) : Int))) (
    Ck (decide (((l.length : Nat) : Int) * (8 : Nat) ≤ (roomy : Int))) (
     FL E H102 Try.f102 1 r lh 0 (S102_L0 l ((l.length : Nat) : Int) 0 vals [])))) := by kernel_rfl
theorem eq102_L0 (x11 : List (Int × (Int × Int))) (x12 : Int) (x13 : Int) (b0_0 : List Int) (h1 : List Int) (r : List W) (lh : Heap) : FL1 E H102 Try.f102 1 r lh 0 (S102_L0 x11 x12 x13 b0_0 h1) =
  (
   Br (decide (x13 < x12)) (
    Ck (decide ((0 : Int) ≤ x13)) (
     Ck (decide (x13 < ((x11.length : Nat) : Int))) (
      Br (decide ((x11.getD x13.toNat (0, (0, 0))).1 = (1 : Int))) (
       ∃ r0 : Int, SC P 103 [.one (.int .i64 (((x11.getD x13.toNat (0, (0, 0))).2).1)), .one (.ptr 0 0 0)] [.box [.ro (.int .i64) b0_0]] [.one (.int .i64 r0)] [.box [.ro (.int .i64) b0_0]] ∧
        Ck (Nat.ble ((h1.length + 1) * 8) roomy) (
         FL E H102 Try.f102 1 r lh 0 (S102_L0 x11 x12 (IntKind.wrap .i64 (x13 + 1)) b0_0 (h1 ++ [r0])))) (
       Br (decide ((x11.getD x13.toNat (0, (0, 0))).1 = (2 : Int))) (
        Ck (decide ((0 : Int) ≤ ((x11.getD x13.toNat (0, (0, 0))).2).1)) (
         Ck (decide (((x11.getD x13.toNat (0, (0, 0))).2).1 < ((h1.length : Nat) : Int))) (
          Ck (Nat.ble ((((x11.getD x13.toNat (0, (0, 0))).2).1).toNat + 1) h1.length) (
           MethodIs P 95 "loop.example/keelson/impl.times" 122 ∧
            ∃ r1 : Int, SC P 122 [.one (.int .i64 (h1.getD (((x11.getD x13.toNat (0, (0, 0))).2).1).toNat 0)), .one (.int .i64 (((x11.getD x13.toNat (0, (0, 0))).2).2))] [] [.one (.int .i64 r1)] [] ∧
             Ck (Nat.ble ((h1.length + 1) * 8) roomy) (
              FL E H102 Try.f102 1 r lh 0 (S102_L0 x11 x12 (IntKind.wrap .i64 (x13 + 1)) b0_0 (h1 ++ [r1]))))))) (
        Ck (decide ((0 : Int) ≤ ((x11.getD x13.toNat (0, (0, 0))).2).1)) (
         Ck (decide (((x11.getD x13.toNat (0, (0, 0))).2).1 < ((h1.length : Nat) : Int))) (
          Ck (Nat.ble ((((x11.getD x13.toNat (0, (0, 0))).2).1).toNat + 1) h1.length) (
           Ck (decide ((0 : Int) ≤ ((x11.getD x13.toNat (0, (0, 0))).2).2)) (
            Ck (decide (((x11.getD x13.toNat (0, (0, 0))).2).2 < ((h1.length : Nat) : Int))) (
             Ck (Nat.ble ((((x11.getD x13.toNat (0, (0, 0))).2).2).toNat + 1) h1.length) (
              MethodIs P 95 "loop.example/keelson/impl.plus" 74 ∧
               ∃ r2 : Int, SC P 74 [.one (.int .i64 (h1.getD (((x11.getD x13.toNat (0, (0, 0))).2).1).toNat 0)), .one (.int .i64 (h1.getD (((x11.getD x13.toNat (0, (0, 0))).2).2).toNat 0))] [] [.one (.int .i64 r2)] [] ∧
                Ck (Nat.ble ((h1.length + 1) * 8) roomy) (
                 FL E H102 Try.f102 1 r lh 0 (S102_L0 x11 x12 (IntKind.wrap .i64 (x13 + 1)) b0_0 (h1 ++ [r2])))))))))))))) (
    Ck (decide ((0 : Int) ≤ (IntKind.wrap .i64 (((h1.length : Nat) : Int) - 1)))) (
     Ck (decide ((IntKind.wrap .i64 (((h1.length : Nat) : Int) - 1)) < ((h1.length : Nat) : Int))) (
      Ck (Nat.ble ((IntKind.wrap .i64 (((h1.length : Nat) : Int) - 1)).toNat + 1) h1.length) (
       Ret r lh [.one (.int .i64 (h1.getD (IntKind.wrap .i64 (((h1.length : Nat) : Int) - 1)).toNat 0))] [.box [.ro (.int .i64) b0_0]]))))) := by kernel_rfl
theorem l102 (l : List Step) (vals : List Int) (hp : progOk l = true) (hv : valsOk vals = true) : ∀ (n i : Nat) (ns : List Int), i + n = l.length → ns.length = i → (∀ x ∈ ns, FOk x) →
    FL E H102 Try.f102 1 [.one (.int .i64 ((runV (fun a => vals.getD a.toNat 0) timesE plusE 0 (l.drop i) ns).getD (l.length - 1) 0))] [.box [.ro (.int .i64) vals]] 0 (S102_L0 l (l.length : Int) (i : Int) vals ns)
  | 0, i, ns, h, hn, hx => by
    have hl := prog_len hp
    refine FL_of1 ?_
    rw [eq102_L0, List.drop_eq_nil_of_le (show l.length ≤ i by omega), runV, wrap64 (n := (ns.length : Int) - 1) (by omega) (by omega), show ((ns.length : Int) - 1).toNat = l.length - 1 by omega]
    exact Br_f (by omega) (Ck_d (by omega) (Ck_d (by omega) (Ck_le (by omega) ⟨rfl, rfl⟩)))
  | n + 1, i, ns, h, hn, hx => by
    have hl := prog_len hp
    have hi : i < l.length := by omega
    have hs := step_cases (prog_step hp hi)
    obtain ⟨v8, vx⟩ := valsOk_iff.1 hv
    have ga := getD_all hx fok0
    refine FL_of1 ?_
    rw [eq102_L0, wS (by omega), drop_cons hi, runV, ← getD_eq (z := (0, 0, 0)) hi]
    simp only [Int.toNat_natCast]
    have go : ∀ y, FOk y → stepV (fun a => vals.getD a.toNat 0) timesE plusE 0 ns (l.getD i (0, 0, 0)) = y →
        FL E H102 Try.f102 1 [.one (.int .i64 ((runV (fun a => vals.getD a.toNat 0) timesE plusE 0 (l.drop (i + 1)) (ns ++ [stepV (fun a => vals.getD a.toNat 0) timesE plusE 0 ns (l.getD i (0, 0, 0))])).getD (l.length - 1) 0))] [.box [.ro (.int .i64) vals]] 0 (S102_L0 l (l.length : Int) ((i + 1 : Nat) : Int) vals (ns ++ [y])) := by
      intro y hy e
      rw [e]
      refine l102 l vals hp hv n (i + 1) (ns ++ [y]) (by omega) (by simp; omega) fun x hm => ?_
      rcases List.mem_append.1 hm with hm | hm
      · exact hx x hm
      · rw [List.mem_singleton.1 hm]; exact hy
    have hs : _ := hs
    rw [hAt] at hs
    rcases hs with ⟨c1, a0, a1⟩ | ⟨c1, c2, a0, a1, b⟩ | ⟨c1, c2, a0, a1, b0, b1⟩
    · exact Br_t (by omega) (Ck_d (by omega) (Ck_d (by omega) (Br_t c1 ⟨_, c103 _ vals a0 (by omega), Ck_room (by omega) (go _ (getD_all vx fok0 _) (by rw [stepV, decide_eq_true c1, cond_true]))⟩)))
    · exact Br_t (by omega) (Ck_d (by omega) (Ck_d (by omega) (Br_f c1 (Br_t c2 (Ck_d a0 (Ck_d (by omega) (Ck_le (by omega) ⟨m122_95, _, c122 _ _ (ga _) b, Ck_room (by omega) (go _ (fok_mod _) (by rw [stepV, decide_eq_false c1, cond_false, decide_eq_true c2, cond_true, timesE]))⟩)))))))
    · exact Br_t (by omega) (Ck_d (by omega) (Ck_d (by omega) (Br_f c1 (Br_f c2 (Ck_d a0 (Ck_d (by omega) (Ck_le (by omega) (Ck_d b0 (Ck_d (by omega) (Ck_le (by omega) ⟨m74_95, _, c74 _ _ (ga _) (ga _), Ck_room (by omega) (go _ (fok_mod _) (by rw [stepV, decide_eq_false c1, cond_false, decide_eq_false c2, cond_false, plusE]))⟩))))))))))
theorem c102 (l : List Step) (vals : List Int) (hp : progOk l = true) (hv : valsOk vals = true) : SC P 102 [.one (.ro (.pair (.int .i64) (.pair (.int .i64) (.int .i64))) l), .one (.fn 103 [0])] [.box [.ro (.int .i64) vals]] [.one (.int .i64 (runF (fun a => vals.getD a.toNat 0) timesE plusE 0 l))] [.box [.ro (.int .i64) vals]] := by
  refine SC_of_FB (H := H102) E_ok Try.func102 (by kernel_rfl) ?_
  rw [eq102]
  have hl := prog_len hp
  have := l102 l vals hp hv l.length 0 [] (by omega) rfl (fun x hx => by cases hx)
  rw [List.drop_zero] at this
  exact Ck_d (by omega) (Ck_roomI (by omega) this)
/-! loop.example/keelson/impl.ProgRun -/
def H53 : Hint := ⟨[], [], [], [], [], []⟩
theorem eq53 (l : List (Int × (Int × Int))) (vals : List Int) (r : List W) (lh : Heap) : FB E H53 Try.f53 [.one (.ro (.pair (.int .i64) (.pair (.int .i64) (.int .i64))) l), .one (.ro (.int .i64) vals)] [] r lh =
  (
   ∃ r0 : Bool, SC P 100 [.one (.ro (.pair (.int .i64) (.pair (.int .i64) (.int .i64))) l)] [] [.one (.bool r0)] [] ∧
    Br (!r0) (
     Ret r lh [.one (.int .i64 0), .one (.bool false)] []) (
     ∃ r1 : Bool, SC P 101 [.one (.ro (.int .i64) vals)] [] [.one (.bool r1)] [] ∧
      Br (!r1) (
       Ret r lh [.one (.int .i64 0), .one (.bool false)] []) (
       ∃ r2 : Int, SC P 102 [.one (.ro (.pair (.int .i64) (.pair (.int .i64) (.int .i64))) l), .one (.fn 103 [0])] [.box [.ro (.int .i64) vals]] [.one (.int .i64 r2)] [.box [.ro (.int .i64) vals]] ∧
        Ret r lh [.one (.int .i64 r2), .one (.bool true)] []))) := by kernel_rfl
theorem c53 (l : List Step) (vals : List Int) (hl : l.length ≤ 1048576) (hv : vals.length ≤ 1048576) : SC P 53 [.one (.ro (.pair (.int .i64) (.pair (.int .i64) (.int .i64))) l), .one (.ro (.int .i64) vals)] [] [.one (.int .i64 (progRunF l vals)), .one (.bool (progOk l && valsOk vals))] [] := by
  refine SC_of_FB (H := H53) E_ok Try.func53 (by kernel_rfl) ?_
  rw [eq53]
  refine ⟨_, c100 l hl, Br_nb (fun e => ⟨by rw [progRunF, e]; rfl, rfl⟩) (fun e => ⟨_, c101 vals hv, Br_nb (fun e' => ⟨by rw [progRunF, e', Bool.and_false]; rfl, rfl⟩) (fun e' => ⟨_, c102 l vals e e', ?_, rfl⟩)⟩)⟩
  rw [progRunF, e, e']
  rfl
/-! loop.example/keelson/spec.ProgRun -/
def H51 : Hint := ⟨[[(0, 0, .bool), (1, 0, .bool), (6, 0, .bool), (7, 0, .bool)]], [], [(12, [0, 1, 2, 3, 4, 5, 6, 7, 8, 9, 10, 11, 12, 13, 14, 15, 16, 17]), (8, [0, 1, 2, 3, 4, 5, 6, 7, 8, 9, 10, 11, 12, 13, 14, 15, 16, 17, 18, 19, 20])], [], [], []⟩
def S51_L0 (l0 : List (Int × (Int × Int))) (vals1 : List Int) (i7 : Int) (h0 : List Int) : St := ⟨[(0, .w (.one (.ro (.pair (.int .i64) (.pair (.int .i64) (.int .i64))) l0))), (1, .w (.one (.ro (.int .i64) vals1))), (6, .w (.one (.sl 0 none))), (7, .w (.one (.int .i64 i7)))], [.row (.int .i64) h0 .own]⟩
theorem eq51 (l : List (Int × (Int × Int))) (vals : List Int) (r : List W) (lh : Heap) : FB E H51 Try.f51 [.one (.ro (.pair (.int .i64) (.pair (.int .i64) (.int .i64))) l), .one (.ro (.int .i64) vals)] [] r lh =
  (
   ∃ r0 : Bool, SC P 96 [.one (.ro (.pair (.int .i64) (.pair (.int .i64) (.int .i64))) l)] [] [.one (.bool r0)] [] ∧
    Br (!r0) (
     Ret r lh [.one (.int .i64 0), .one (.bool false)] []) (
     ∃ r1 : Bool, SC P 97 [.one (.ro (.int .i64) vals), .one (.ro .bool [false, false, false, false, false, false, false, false])] [] [.one (.bool r1)] [] ∧
      Br (!r1) (
       Ret r lh [.one (.int .i64 0), .one (.bool false)] []) (
       FL E H51 Try.f51 0 r lh 0 (S51_L0 l vals 0 [])))) := by kernel_rfl
theorem eq51_L0 (l0 : List (Int × (Int × Int))) (vals1 : List Int) (i7 : Int) (h0 : List Int) (r : List W) (lh : Heap) : FL1 E H51 Try.f51 0 r lh 0 (S51_L0 l0 vals1 i7 h0) =
  (
   Br (decide (i7 < ((l0.length : Nat) : Int))) (
    Ck (decide ((0 : Int) ≤ i7)) (
     Ck (decide (i7 < ((l0.length : Nat) : Int))) (
      Br (decide ((l0.getD i7.toNat (0, (0, 0))).1 = (1 : Int))) (
       Ck (decide ((0 : Int) ≤ i7)) (
        Ck (decide (i7 < ((l0.length : Nat) : Int))) (
         Ck (decide ((0 : Int) ≤ ((l0.getD i7.toNat (0, (0, 0))).2).1)) (
          Ck (decide (((l0.getD i7.toNat (0, (0, 0))).2).1 < ((vals1.length : Nat) : Int))) (
           Ck (Nat.ble ((h0.length + 1) * 8) roomy) (
            FL E H51 Try.f51 0 r lh 0 (S51_L0 l0 vals1 (IntKind.wrap .i64 (i7 + 1)) (h0 ++ [(vals1.getD (((l0.getD i7.toNat (0, (0, 0))).2).1).toNat 0)])))))))) (
       Br (decide ((l0.getD i7.toNat (0, (0, 0))).1 = (2 : Int))) (
        Ck (decide ((0 : Int) ≤ i7)) (
         Ck (decide (i7 < ((l0.length : Nat) : Int))) (
          Ck (decide ((0 : Int) ≤ ((l0.getD i7.toNat (0, (0, 0))).2).1)) (
           Ck (decide (((l0.getD i7.toNat (0, (0, 0))).2).1 < ((h0.length : Nat) : Int))) (
            Ck (Nat.ble ((((l0.getD i7.toNat (0, (0, 0))).2).1).toNat + 1) h0.length) (
             Ck (decide ((0 : Int) ≤ i7)) (
              Ck (decide (i7 < ((l0.length : Nat) : Int))) (
               ∃ r0 : Int, SC P 98 [.one (.int .i64 (h0.getD (((l0.getD i7.toNat (0, (0, 0))).2).1).toNat 0)), .one (.int .i64 (((l0.getD i7.toNat (0, (0, 0))).2).2))] [] [.one (.int .i64 r0)] [] ∧
                Ck (Nat.ble ((h0.length + 1) * 8) roomy) (
                 FL E H51 Try.f51 0 r lh 0 (S51_L0 l0 vals1 (IntKind.wrap .i64 (i7 + 1)) (h0 ++ [r0]))))))))))) (
        Ck (decide ((0 : Int) ≤ i7)) (
         Ck (decide (i7 < ((l0.length : Nat) : Int))) (
          Ck (decide ((0 : Int) ≤ ((l0.getD i7.toNat (0, (0, 0))).2).1)) (
           Ck (decide (((l0.getD i7.toNat (0, (0, 0))).2).1 < ((h0.length : Nat) : Int))) (
            Ck (Nat.ble ((((l0.getD i7.toNat (0, (0, 0))).2).1).toNat + 1) h0.length) (
             Ck (decide ((0 : Int) ≤ i7)) (
              Ck (decide (i7 < ((l0.length : Nat) : Int))) (
               Ck (decide ((0 : Int) ≤ ((l0.getD i7.toNat (0, (0, 0))).2).2)) (
                Ck (decide (((l0.getD i7.toNat (0, (0, 0))).2).2 < ((h0.length : Nat) : Int))) (
                 Ck (Nat.ble ((((l0.getD i7.toNat (0, (0, 0))).2).2).toNat + 1) h0.length) (
                  ∃ r1 : Int, SC P 78 [.one (.int .i64 (h0.getD (((l0.getD i7.toNat (0, (0, 0))).2).1).toNat 0)), .one (.int .i64 (h0.getD (((l0.getD i7.toNat (0, (0, 0))).2).2).toNat 0))] [] [.one (.int .i64 r1)] [] ∧
                   Ck (Nat.ble ((h0.length + 1) * 8) roomy) (
                    FL E H51 Try.f51 0 r lh 0 (S51_L0 l0 vals1 (IntKind.wrap .i64 (i7 + 1)) (h0 ++ [r1])))))))))))))))))) (
    Ck (decide ((0 : Int) ≤ (IntKind.wrap .i64 (((h0.length : Nat) : Int) - 1)))) (
     Ck (decide ((IntKind.wrap .i64 (((h0.length : Nat) : Int) - 1)) < ((h0.length : Nat) : Int))) (
      Ck (Nat.ble ((IntKind.wrap .i64 (((h0.length : Nat) : Int) - 1)).toNat + 1) h0.length) (
       Ret r lh [.one (.int .i64 (h0.getD (IntKind.wrap .i64 (((h0.length : Nat) : Int) - 1)).toNat 0)), .one (.bool true)] []))))) := by kernel_rfl
theorem l51 (l : List Step) (vals : List Int) (hp : progOk l = true) (hv : valsOk vals = true) : ∀ (n i : Nat) (ns : List Int), i + n = l.length → ns.length = i → (∀ x ∈ ns, FOk x) →
    FL E H51 Try.f51 0 [.one (.int .i64 ((runV (fun a => vals.getD a.toNat 0) timesE plusE 0 (l.drop i) ns).getD (l.length - 1) 0)), .one (.bool true)] [] 0 (S51_L0 l vals (i : Int) ns)
  | 0, i, ns, h, hn, hx => by
    have hl := prog_len hp
    refine FL_of1 ?_
    rw [eq51_L0, List.drop_eq_nil_of_le (show l.length ≤ i by omega), runV, wrap64 (n := (ns.length : Int) - 1) (by omega) (by omega), show ((ns.length : Int) - 1).toNat = l.length - 1 by omega]
    exact Br_f (by omega) (Ck_d (by omega) (Ck_d (by omega) (Ck_le (by omega) ⟨rfl, rfl⟩)))
  | n + 1, i, ns, h, hn, hx => by
    have hl := prog_len hp
    have hi : i < l.length := by omega
    have hs := step_cases (prog_step hp hi)
    obtain ⟨v8, vx⟩ := valsOk_iff.1 hv
    have ga := getD_all hx fok0
    refine FL_of1 ?_
    rw [eq51_L0, wS (by omega), drop_cons hi, runV, ← getD_eq (z := (0, 0, 0)) hi]
    simp only [Int.toNat_natCast]
    have go : ∀ y, FOk y → stepV (fun a => vals.getD a.toNat 0) timesE plusE 0 ns (l.getD i (0, 0, 0)) = y →
        FL E H51 Try.f51 0 [.one (.int .i64 ((runV (fun a => vals.getD a.toNat 0) timesE plusE 0 (l.drop (i + 1)) (ns ++ [stepV (fun a => vals.getD a.toNat 0) timesE plusE 0 ns (l.getD i (0, 0, 0))])).getD (l.length - 1) 0)), .one (.bool true)] [] 0 (S51_L0 l vals ((i + 1 : Nat) : Int) (ns ++ [y])) := by
      intro y hy e
      rw [e]
      refine l51 l vals hp hv n (i + 1) (ns ++ [y]) (by omega) (by simp; omega) fun x hm => ?_
      rcases List.mem_append.1 hm with hm | hm
      · exact hx x hm
      · rw [List.mem_singleton.1 hm]; exact hy
    rw [hAt] at hs
    rcases hs with ⟨c1, a0, a1⟩ | ⟨c1, c2, a0, a1, b⟩ | ⟨c1, c2, a0, a1, b0, b1⟩
    · exact Br_t (by omega) (Ck_d (by omega) (Ck_d (by omega) (Br_t c1 (Ck_d (by omega) (Ck_d (by omega) (Ck_d a0 (Ck_d (by omega) (Ck_room (by omega) (go _ (getD_all vx fok0 _) (by rw [stepV, decide_eq_true c1, cond_true]))))))))))
    · exact Br_t (by omega) (Ck_d (by omega) (Ck_d (by omega) (Br_f c1 (Br_t c2 (Ck_d (by omega) (Ck_d (by omega) (Ck_d a0 (Ck_d (by omega) (Ck_le (by omega) (Ck_d (by omega) (Ck_d (by omega) (⟨_, c98 _ _ (ga _) b, Ck_room (by omega) (go _ (fok_mod _) (by rw [stepV, decide_eq_false c1, cond_false, decide_eq_true c2, cond_true, timesE]))⟩))))))))))))
    · exact Br_t (by omega) (Ck_d (by omega) (Ck_d (by omega) (Br_f c1 (Br_f c2 (Ck_d (by omega) (Ck_d (by omega) (Ck_d a0 (Ck_d (by omega) (Ck_le (by omega) (Ck_d (by omega) (Ck_d (by omega) (Ck_d b0 (Ck_d (by omega) (Ck_le (by omega) (⟨_, c78 _ _ (ga _) (ga _), Ck_room (by omega) (go _ (fok_mod _) (by rw [stepV, decide_eq_false c1, cond_false, decide_eq_false c2, cond_false, plusE]))⟩)))))))))))))))
theorem c51 (l : List Step) (vals : List Int) (hl : l.length ≤ 1048576) (hv : vals.length ≤ 1048576) : SC P 51 [.one (.ro (.pair (.int .i64) (.pair (.int .i64) (.int .i64))) l), .one (.ro (.int .i64) vals)] [] [.one (.int .i64 (progRunF l vals)), .one (.bool (progOk l && valsOk vals))] [] := by
  refine SC_of_FB (H := H51) E_ok Try.func51 (by kernel_rfl) ?_
  rw [eq51]
  refine ⟨_, c96 l hl, Br_nb (fun e => ⟨by rw [progRunF, e]; rfl, rfl⟩) (fun e => ⟨_, c97 vals _ hv, ?_⟩)⟩
  rw [show decide ([false, false, false, false, false, false, false, false].length = 8) = true from rfl, Bool.and_true]
  refine Br_nb (fun e' => ⟨by rw [progRunF, e', Bool.and_false]; rfl, rfl⟩) (fun e' => ?_)
  have := l51 l vals e e' l.length 0 [] (by omega) rfl (fun x hx => by cases hx)
  rw [List.drop_zero] at this
  rw [progRunF, e, e']
  exact this
/-! loop.example/keelson/impl.run[loop.example/keelson/impl.vector] -/
def H107 : Hint := ⟨[[(1, 0, .bool), (4, 0, .bool), (5, 0, .bool), (11, 0, .bool), (12, 0, .bool), (13, 0, .bool)]], [], [(10, [0, 1, 2, 3, 4, 5, 6, 7, 8, 9, 10, 11, 12]), (6, [0, 1, 2, 3, 4, 5, 6, 7, 8, 9, 10, 11, 12, 13, 14, 15])], [(54, 84), (31, 123)], [], []⟩
def S107_L0 (x11 : List (Int × (Int × Int))) (x12 : Int) (x13 : Int) (h0 : List Int) (h1 : List Int) (h2 : List (Int × (Int × (Int × Int)))) : St := ⟨[(1, .w (.one (.fn 108 [0]))), (4, .w (.one (.ptr 1 0 0))), (5, .w (.one (.sl 2 none))), (11, .w (.one (.ro (.pair (.int .i64) (.pair (.int .i64) (.int .i64))) x11))), (12, .w (.one (.int .i64 x12))), (13, .w (.one (.int .i64 x13)))], [.row (.int .i64) h0 .var, .row (.int .i64) h1 .var, .row (.pair (.int .i64) (.pair (.int .i64) (.pair (.int .i64) (.int .i64)))) h2 .own]⟩
theorem eq107 (l : List (Int × Int × Int)) (kind : Int) (r : List W) (lh : Heap) : FB E H107 Try.f107 [.one (.ro (.pair (.int .i64) (.pair (.int .i64) (.int .i64))) l), .one (.fn 108 [0])] [.row (.int .i64) [kind] .var] r lh =
  (
   Ck (decide ((0 : Int) ≤ ((l.length : Nat) : Int))) (
    Ck (decide (((l.length : Nat) : Int) * (32 : Nat) ≤ (roomy : Int))) (
     FL E H107 Try.f107 1 r lh 0 (S107_L0 l ((l.length : Nat) : Int) 0 [kind] [0, 0, 0, 0] [])))) := by kernel_rfl
theorem eq107_L0 (x11 : List (Int × (Int × Int))) (x12 : Int) (x13 : Int) (h0 : List Int) (h1 : List Int) (h2 : List (Int × (Int × (Int × Int)))) (r : List W) (lh : Heap) : FL1 E H107 Try.f107 1 r lh 0 (S107_L0 x11 x12 x13 h0 h1 h2) =
  (
   Br (decide (x13 < x12)) (
    Ck (decide ((0 : Int) ≤ x13)) (
     Ck (decide (x13 < ((x11.length : Nat) : Int))) (
      Br (decide ((x11.getD x13.toNat (0, (0, 0))).1 = (1 : Int))) (
       ∃ r0 : Int × Int × Int × Int, SC P 108 [.one (.int .i64 (((x11.getD x13.toNat (0, (0, 0))).2).1)), .one (.ptr 0 0 0)] [.row (.int .i64) h0 .var] [.agg [.int .i64 r0.1, .int .i64 r0.2.1, .int .i64 r0.2.2.1, .int .i64 r0.2.2.2]] [.row (.int .i64) h0 .var] ∧
        Ck (Nat.ble ((h2.length + 1) * 32) roomy) (
         FL E H107 Try.f107 1 r lh 0 (S107_L0 x11 x12 (IntKind.wrap .i64 (x13 + 1)) h0 h1 (h2 ++ [(r0.1, (r0.2.1, (r0.2.2.1, r0.2.2.2)))])))) (
       Br (decide ((x11.getD x13.toNat (0, (0, 0))).1 = (2 : Int))) (
        Ck (decide ((0 : Int) ≤ ((x11.getD x13.toNat (0, (0, 0))).2).1)) (
         Ck (decide (((x11.getD x13.toNat (0, (0, 0))).2).1 < ((h2.length : Nat) : Int))) (
          Ck (Nat.blt ((((x11.getD x13.toNat (0, (0, 0))).2).1).toNat) h2.length) (
           MethodIs P 97 "loop.example/keelson/impl.times" 84 ∧
            ∃ r1 : Int × Int × Int × Int, SC P 84 [.agg [.int .i64 ((h2.getD (((x11.getD x13.toNat (0, (0, 0))).2).1).toNat (0, (0, (0, 0)))).1), .int .i64 (((h2.getD (((x11.getD x13.toNat (0, (0, 0))).2).1).toNat (0, (0, (0, 0)))).2).1), .int .i64 ((((h2.getD (((x11.getD x13.toNat (0, (0, 0))).2).1).toNat (0, (0, (0, 0)))).2).2).1), .int .i64 ((((h2.getD (((x11.getD x13.toNat (0, (0, 0))).2).1).toNat (0, (0, (0, 0)))).2).2).2)], .one (.int .i64 (((x11.getD x13.toNat (0, (0, 0))).2).2))] [] [.agg [.int .i64 r1.1, .int .i64 r1.2.1, .int .i64 r1.2.2.1, .int .i64 r1.2.2.2]] [] ∧
             Ck (Nat.ble ((h2.length + 1) * 32) roomy) (
              FL E H107 Try.f107 1 r lh 0 (S107_L0 x11 x12 (IntKind.wrap .i64 (x13 + 1)) h0 h1 (h2 ++ [(r1.1, (r1.2.1, (r1.2.2.1, r1.2.2.2)))]))))))) (
        Ck (decide ((0 : Int) ≤ ((x11.getD x13.toNat (0, (0, 0))).2).1)) (
         Ck (decide (((x11.getD x13.toNat (0, (0, 0))).2).1 < ((h2.length : Nat) : Int))) (
          Ck (Nat.blt ((((x11.getD x13.toNat (0, (0, 0))).2).1).toNat) h2.length) (
           Ck (decide ((0 : Int) ≤ ((x11.getD x13.toNat (0, (0, 0))).2).2)) (
            Ck (decide (((x11.getD x13.toNat (0, (0, 0))).2).2 < ((h2.length : Nat) : Int))) (
             Ck (Nat.blt ((((x11.getD x13.toNat (0, (0, 0))).2).2).toNat) h2.length) (
              MethodIs P 97 "loop.example/keelson/impl.plus" 123 ∧
               ∃ r2 : Int × Int × Int × Int, SC P 123 [.agg [.int .i64 ((h2.getD (((x11.getD x13.toNat (0, (0, 0))).2).1).toNat (0, (0, (0, 0)))).1), .int .i64 (((h2.getD (((x11.getD x13.toNat (0, (0, 0))).2).1).toNat (0, (0, (0, 0)))).2).1), .int .i64 ((((h2.getD (((x11.getD x13.toNat (0, (0, 0))).2).1).toNat (0, (0, (0, 0)))).2).2).1), .int .i64 ((((h2.getD (((x11.getD x13.toNat (0, (0, 0))).2).1).toNat (0, (0, (0, 0)))).2).2).2)], .agg [.int .i64 ((h2.getD (((x11.getD x13.toNat (0, (0, 0))).2).2).toNat (0, (0, (0, 0)))).1), .int .i64 (((h2.getD (((x11.getD x13.toNat (0, (0, 0))).2).2).toNat (0, (0, (0, 0)))).2).1), .int .i64 ((((h2.getD (((x11.getD x13.toNat (0, (0, 0))).2).2).toNat (0, (0, (0, 0)))).2).2).1), .int .i64 ((((h2.getD (((x11.getD x13.toNat (0, (0, 0))).2).2).toNat (0, (0, (0, 0)))).2).2).2)]] [] [.agg [.int .i64 r2.1, .int .i64 r2.2.1, .int .i64 r2.2.2.1, .int .i64 r2.2.2.2]] [] ∧
                Ck (Nat.ble ((h2.length + 1) * 32) roomy) (
                 FL E H107 Try.f107 1 r lh 0 (S107_L0 x11 x12 (IntKind.wrap .i64 (x13 + 1)) h0 h1 (h2 ++ [(r2.1, (r2.2.1, (r2.2.2.1, r2.2.2.2)))])))))))))))))) (
    Ck (decide ((0 : Int) ≤ (IntKind.wrap .i64 (((h2.length : Nat) : Int) - 1)))) (
     Ck (decide ((IntKind.wrap .i64 (((h2.length : Nat) : Int) - 1)) < ((h2.length : Nat) : Int))) (
      Ck (Nat.blt ((IntKind.wrap .i64 (((h2.length : Nat) : Int) - 1)).toNat) h2.length) (
       Ck (Nat.ble 4 h1.length) (
        Ck (Nat.ble 4 (((((h1.set 0 ((h2.getD (IntKind.wrap .i64 (((h2.length : Nat) : Int) - 1)).toNat (0, (0, (0, 0)))).1)).set 1 (((h2.getD (IntKind.wrap .i64 (((h2.length : Nat) : Int) - 1)).toNat (0, (0, (0, 0)))).2).1)).set 2 ((((h2.getD (IntKind.wrap .i64 (((h2.length : Nat) : Int) - 1)).toNat (0, (0, (0, 0)))).2).2).1)).set 3 ((((h2.getD (IntKind.wrap .i64 (((h2.length : Nat) : Int) - 1)).toNat (0, (0, (0, 0)))).2).2).2)).length)) (
         Ret r lh [.agg [.int .i64 (((((h1.set 0 ((h2.getD (IntKind.wrap .i64 (((h2.length : Nat) : Int) - 1)).toNat (0, (0, (0, 0)))).1)).set 1 (((h2.getD (IntKind.wrap .i64 (((h2.length : Nat) : Int) - 1)).toNat (0, (0, (0, 0)))).2).1)).set 2 ((((h2.getD (IntKind.wrap .i64 (((h2.length : Nat) : Int) - 1)).toNat (0, (0, (0, 0)))).2).2).1)).set 3 ((((h2.getD (IntKind.wrap .i64 (((h2.length : Nat) : Int) - 1)).toNat (0, (0, (0, 0)))).2).2).2)).getD 0 0), .int .i64 (((((h1.set 0 ((h2.getD (IntKind.wrap .i64 (((h2.length : Nat) : Int) - 1)).toNat (0, (0, (0, 0)))).1)).set 1 (((h2.getD (IntKind.wrap .i64 (((h2.length : Nat) : Int) - 1)).toNat (0, (0, (0, 0)))).2).1)).set 2 ((((h2.getD (IntKind.wrap .i64 (((h2.length : Nat) : Int) - 1)).toNat (0, (0, (0, 0)))).2).2).1)).set 3 ((((h2.getD (IntKind.wrap .i64 (((h2.length : Nat) : Int) - 1)).toNat (0, (0, (0, 0)))).2).2).2)).getD 1 0), .int .i64 (((((h1.set 0 ((h2.getD (IntKind.wrap .i64 (((h2.length : Nat) : Int) - 1)).toNat (0, (0, (0, 0)))).1)).set 1 (((h2.getD (IntKind.wrap .i64 (((h2.length : Nat) : Int) - 1)).toNat (0, (0, (0, 0)))).2).1)).set 2 ((((h2.getD (IntKind.wrap .i64 (((h2.length : Nat) : Int) - 1)).toNat (0, (0, (0, 0)))).2).2).1)).set 3 ((((h2.getD (IntKind.wrap .i64 (((h2.length : Nat) : Int) - 1)).toNat (0, (0, (0, 0)))).2).2).2)).getD 2 0), .int .i64 (((((h1.set 0 ((h2.getD (IntKind.wrap .i64 (((h2.length : Nat) : Int) - 1)).toNat (0, (0, (0, 0)))).1)).set 1 (((h2.getD (IntKind.wrap .i64 (((h2.length : Nat) : Int) - 1)).toNat (0, (0, (0, 0)))).2).1)).set 2 ((((h2.getD (IntKind.wrap .i64 (((h2.length : Nat) : Int) - 1)).toNat (0, (0, (0, 0)))).2).2).1)).set 3 ((((h2.getD (IntKind.wrap .i64 (((h2.length : Nat) : Int) - 1)).toNat (0, (0, (0, 0)))).2).2).2)).getD 3 0)]] [.row (.int .i64) h0 .var]))))))) := by kernel_rfl
theorem l107 (l : List Step) (kind : Int) (hp : progOk l = true) : ∀ (n i : Nat) (ns : List V4), i + n = l.length → ns.length = i → (∀ x ∈ ns, VOk x) →
    FL E H107 Try.f107 1 [.agg [.int .i64 ((runV (fun a => rowV kind a) vtimes vplus (0, 0, 0, 0) (l.drop i) ns).getD (l.length - 1) (0, 0, 0, 0)).1, .int .i64 ((runV (fun a => rowV kind a) vtimes vplus (0, 0, 0, 0) (l.drop i) ns).getD (l.length - 1) (0, 0, 0, 0)).2.1, .int .i64 ((runV (fun a => rowV kind a) vtimes vplus (0, 0, 0, 0) (l.drop i) ns).getD (l.length - 1) (0, 0, 0, 0)).2.2.1, .int .i64 ((runV (fun a => rowV kind a) vtimes vplus (0, 0, 0, 0) (l.drop i) ns).getD (l.length - 1) (0, 0, 0, 0)).2.2.2]] [.row (.int .i64) [kind] .var] 0 (S107_L0 l (l.length : Int) (i : Int) [kind] [0, 0, 0, 0] ns)
  | 0, i, ns, h, hn, hx => by
    have hl := prog_len hp
    refine FL_of1 ?_
    rw [eq107_L0, List.drop_eq_nil_of_le (show l.length ≤ i by omega), runV, wrap64 (n := (ns.length : Int) - 1) (by omega) (by omega), show ((ns.length : Int) - 1).toNat = l.length - 1 by omega]
    exact Br_f (by omega) (Ck_d (by omega) (Ck_d (by omega) (Ck_lt (by omega) (Ck_le (by simp) (Ck_le (by simp) ⟨rfl, rfl⟩)))))
  | n + 1, i, ns, h, hn, hx => by
    have hl := prog_len hp
    have hi : i < l.length := by omega
    have hs := step_cases (prog_step hp hi)
    have ga := getD_all (z := ((0, 0, 0, 0) : V4)) hx ⟨fok0, fok0, fok0, fok0⟩
    refine FL_of1 ?_
    rw [eq107_L0, wS (by omega), drop_cons hi, runV, ← getD_eq (z := (0, 0, 0)) hi]
    simp only [Int.toNat_natCast]
    have go : ∀ y, VOk y → stepV (fun a => rowV kind a) vtimes vplus (0, 0, 0, 0) ns (l.getD i (0, 0, 0)) = y →
        FL E H107 Try.f107 1 [.agg [.int .i64 ((runV (fun a => rowV kind a) vtimes vplus (0, 0, 0, 0) (l.drop (i + 1)) (ns ++ [stepV (fun a => rowV kind a) vtimes vplus (0, 0, 0, 0) ns (l.getD i (0, 0, 0))])).getD (l.length - 1) (0, 0, 0, 0)).1, .int .i64 ((runV (fun a => rowV kind a) vtimes vplus (0, 0, 0, 0) (l.drop (i + 1)) (ns ++ [stepV (fun a => rowV kind a) vtimes vplus (0, 0, 0, 0) ns (l.getD i (0, 0, 0))])).getD (l.length - 1) (0, 0, 0, 0)).2.1, .int .i64 ((runV (fun a => rowV kind a) vtimes vplus (0, 0, 0, 0) (l.drop (i + 1)) (ns ++ [stepV (fun a => rowV kind a) vtimes vplus (0, 0, 0, 0) ns (l.getD i (0, 0, 0))])).getD (l.length - 1) (0, 0, 0, 0)).2.2.1, .int .i64 ((runV (fun a => rowV kind a) vtimes vplus (0, 0, 0, 0) (l.drop (i + 1)) (ns ++ [stepV (fun a => rowV kind a) vtimes vplus (0, 0, 0, 0) ns (l.getD i (0, 0, 0))])).getD (l.length - 1) (0, 0, 0, 0)).2.2.2]] [.row (.int .i64) [kind] .var] 0 (S107_L0 l (l.length : Int) ((i + 1 : Nat) : Int) [kind] [0, 0, 0, 0] (ns ++ [y])) := by
      intro y hy e
      rw [e]
      refine l107 l kind hp n (i + 1) (ns ++ [y]) (by omega) (by simp; omega) fun x hm => ?_
      rcases List.mem_append.1 hm with hm | hm
      · exact hx x hm
      · rw [List.mem_singleton.1 hm]; exact hy
    rw [hAt] at hs
    rcases hs with ⟨c1, a0, a1⟩ | ⟨c1, c2, a0, a1, b⟩ | ⟨c1, c2, a0, a1, b0, b1⟩
    · exact Br_t (by omega) (Ck_d (by omega) (Ck_d (by omega) (Br_t c1 ⟨rowV kind (l.getD i (0, 0, 0)).2.1, c108 _ kind a0 a1, Ck_room (by omega) (go _ (rowV_ok _ _) (by rw [stepV, decide_eq_true c1, cond_true]))⟩)))
    · exact Br_t (by omega) (Ck_d (by omega) (Ck_d (by omega) (Br_f c1 (Br_t c2 (Ck_d a0 (Ck_d (by omega) (Ck_lt (by omega) ⟨m84_97, vtimes (ns.getD (l.getD i (0, 0, 0)).2.1.toNat (0, 0, 0, 0)) (l.getD i (0, 0, 0)).2.2, c84 _ _ (ga _) b, Ck_room (by omega) (go _ (vtimes_ok _ _) (by rw [stepV, decide_eq_false c1, cond_false, decide_eq_true c2, cond_true]))⟩)))))))
    · exact Br_t (by omega) (Ck_d (by omega) (Ck_d (by omega) (Br_f c1 (Br_f c2 (Ck_d a0 (Ck_d (by omega) (Ck_lt (by omega) (Ck_d b0 (Ck_d (by omega) (Ck_lt (by omega) ⟨m123_97, vplus (ns.getD (l.getD i (0, 0, 0)).2.1.toNat (0, 0, 0, 0)) (ns.getD (l.getD i (0, 0, 0)).2.2.toNat (0, 0, 0, 0)), c123 _ _ (ga _) (ga _), Ck_room (by omega) (go _ (vplus_ok _ _) (by rw [stepV, decide_eq_false c1, cond_false, decide_eq_false c2, cond_false]))⟩))))))))))
theorem c107 (l : List Step) (kind : Int) (hp : progOk l = true) : SC P 107 [.one (.ro (.pair (.int .i64) (.pair (.int .i64) (.int .i64))) l), .one (.fn 108 [0])] [.row (.int .i64) [kind] .var] [.agg [.int .i64 (progRowV kind l).1, .int .i64 (progRowV kind l).2.1, .int .i64 (progRowV kind l).2.2.1, .int .i64 (progRowV kind l).2.2.2]] [.row (.int .i64) [kind] .var] := by
  refine SC_of_FB (H := H107) E_ok Try.func107 (by kernel_rfl) ?_
  rw [eq107]
  have hl := prog_len hp
  have := l107 l kind hp l.length 0 [] (by omega) rfl (fun x hx => by cases hx)
  rw [List.drop_zero] at this
  exact Ck_d (by omega) (Ck_roomI (by omega) this)
/-! loop.example/keelson/impl.ProgRow -/
def H55 : Hint := ⟨[], [], [], [], [.one (.own (.int .i64)), .one (.c .bool)], []⟩
theorem eq55 (kind : Int) (l : List (Int × (Int × Int))) (r : List W) (lh : Heap) : FB E H55 Try.f55 [.one (.int .i64 kind), .one (.ro (.pair (.int .i64) (.pair (.int .i64) (.int .i64))) l)] [] r lh =
  (
   ∃ r0 : Bool, SC P 81 [.one (.int .i64 kind)] [] [.one (.bool r0)] [] ∧
    Br (!r0) (
     Ret r lh [.one (.sl 0 none), .one (.bool false)] [.row (.int .i64) [] .own]) (
     ∃ r1 : Bool, SC P 100 [.one (.ro (.pair (.int .i64) (.pair (.int .i64) (.int .i64))) l)] [] [.one (.bool r1)] [] ∧
      Br (!r1) (
       Ret r lh [.one (.sl 0 none), .one (.bool false)] [.row (.int .i64) [] .own]) (
       ∃ r2 : Int × Int × Int × Int, SC P 107 [.one (.ro (.pair (.int .i64) (.pair (.int .i64) (.int .i64))) l), .one (.fn 108 [0])] [.row (.int .i64) [kind] .var] [.agg [.int .i64 r2.1, .int .i64 r2.2.1, .int .i64 r2.2.2.1, .int .i64 r2.2.2.2]] [.row (.int .i64) [kind] .var] ∧
        ∃ r3 : List Int, SC P 75 [.agg [.int .i64 r2.1, .int .i64 r2.2.1, .int .i64 r2.2.2.1, .int .i64 r2.2.2.2]] [] [.one (.sl 0 none)] [.row (.int .i64) r3 .own] ∧
         Ret r lh [.one (.sl 0 none), .one (.bool true)] [.row (.int .i64) r3 .own]))) := by kernel_rfl
theorem c55 (kind : Int) (l : List Step) (hl : l.length ≤ 1048576) : SC P 55 [.one (.int .i64 kind), .one (.ro (.pair (.int .i64) (.pair (.int .i64) (.int .i64))) l)] [] [.one (.sl 0 none), .one (.bool (inB kind 1 2 && progOk l))] [.row (.int .i64) (progRowF kind l) .own] := by
  refine SC_of_FB (H := H55) E_ok Try.func55 (by kernel_rfl) ?_
  rw [eq55]
  refine ⟨_, c81 kind, Br_nb (fun e => ⟨by rw [e]; rfl, by rw [progRowF, e]; rfl⟩) (fun e => ⟨_, c100 l hl, Br_nb (fun e' => ⟨by rw [e', Bool.and_false], by rw [progRowF, e', Bool.and_false]; rfl⟩) (fun e' => ⟨progRowV kind l, c107 l kind e', _, c75 _, by rw [e, e']; rfl, by rw [progRowF, e, e']; rfl⟩)⟩)⟩
/-! loop.example/keelson/spec.ProgRow -/
def H54 : Hint := ⟨[[(0, 0, .bool), (1, 0, .bool), (6, 0, .bool), (7, 0, .bool)]], [], [(12, [0, 1, 2, 3, 4, 5, 6, 7, 8, 9, 10, 11, 12, 13, 14, 15, 16, 17]), (8, [0, 1, 2, 3, 4, 5, 6, 7, 8, 9, 10, 11, 12, 13, 14, 15, 16, 17, 18, 19, 20])], [], [.one (.c (.sl (.int .i64))), .one (.c .bool)], []⟩
def S54_L0 (kind0 : Int) (l1 : List (Int × (Int × Int))) (i7 : Int) (h0 : List (List Int)) : St := ⟨[(0, .w (.one (.int .i64 kind0))), (1, .w (.one (.ro (.pair (.int .i64) (.pair (.int .i64) (.int .i64))) l1))), (6, .w (.one (.sl 0 none))), (7, .w (.one (.int .i64 i7)))], [.row (.sl (.int .i64)) h0 .own]⟩
theorem eq54 (kind : Int) (l : List (Int × (Int × Int))) (r : List W) (lh : Heap) : FB E H54 Try.f54 [.one (.int .i64 kind), .one (.ro (.pair (.int .i64) (.pair (.int .i64) (.int .i64))) l)] [] r lh =
  (
   ∃ r0 : Bool, SC P 79 [.one (.int .i64 kind)] [] [.one (.bool r0)] [] ∧
    Br (!r0) (
     Ret r lh [.one (.ro (.int .i64) []), .one (.bool false)] []) (
     ∃ r1 : Bool, SC P 96 [.one (.ro (.pair (.int .i64) (.pair (.int .i64) (.int .i64))) l)] [] [.one (.bool r1)] [] ∧
      Br (!r1) (
       Ret r lh [.one (.ro (.int .i64) []), .one (.bool false)] []) (
       FL E H54 Try.f54 0 r lh 0 (S54_L0 kind l 0 [])))) := by kernel_rfl
theorem eq54_L0 (kind0 : Int) (l1 : List (Int × (Int × Int))) (i7 : Int) (h0 : List (List Int)) (r : List W) (lh : Heap) : FL1 E H54 Try.f54 0 r lh 0 (S54_L0 kind0 l1 i7 h0) =
  (
   Br (decide (i7 < ((l1.length : Nat) : Int))) (
    Ck (decide ((0 : Int) ≤ i7)) (
     Ck (decide (i7 < ((l1.length : Nat) : Int))) (
      Br (decide ((l1.getD i7.toNat (0, (0, 0))).1 = (1 : Int))) (
       Ck (decide ((0 : Int) ≤ i7)) (
        Ck (decide (i7 < ((l1.length : Nat) : Int))) (
         ∃ r0 : List Int, SC P 104 [.one (.int .i64 kind0), .one (.int .i64 (((l1.getD i7.toNat (0, (0, 0))).2).1))] [] [.one (.ro (.int .i64) r0)] [] ∧
          Ck (Nat.ble ((h0.length + 1) * 24) roomy) (
           FL E H54 Try.f54 0 r lh 0 (S54_L0 kind0 l1 (IntKind.wrap .i64 (i7 + 1)) (h0 ++ [r0])))))) (
       Br (decide ((l1.getD i7.toNat (0, (0, 0))).1 = (2 : Int))) (
        Ck (decide ((0 : Int) ≤ i7)) (
         Ck (decide (i7 < ((l1.length : Nat) : Int))) (
          Ck (decide ((0 : Int) ≤ ((l1.getD i7.toNat (0, (0, 0))).2).1)) (
           Ck (decide (((l1.getD i7.toNat (0, (0, 0))).2).1 < ((h0.length : Nat) : Int))) (
            Ck (Nat.ble ((((l1.getD i7.toNat (0, (0, 0))).2).1).toNat + 1) h0.length) (
             Ck (decide ((0 : Int) ≤ i7)) (
              Ck (decide (i7 < ((l1.length : Nat) : Int))) (
               ∃ r1 : List Int, SC P 105 [.one (.ro (.int .i64) (h0.getD (((l1.getD i7.toNat (0, (0, 0))).2).1).toNat [])), .one (.int .i64 (((l1.getD i7.toNat (0, (0, 0))).2).2))] [] [.one (.sl 0 none)] [.row (.int .i64) r1 .own] ∧
                Ck (Nat.ble ((h0.length + 1) * 24) roomy) (
                 FL E H54 Try.f54 0 r lh 0 (S54_L0 kind0 l1 (IntKind.wrap .i64 (i7 + 1)) (h0 ++ [r1]))))))))))) (
        Ck (decide ((0 : Int) ≤ i7)) (
         Ck (decide (i7 < ((l1.length : Nat) : Int))) (
          Ck (decide ((0 : Int) ≤ ((l1.getD i7.toNat (0, (0, 0))).2).1)) (
           Ck (decide (((l1.getD i7.toNat (0, (0, 0))).2).1 < ((h0.length : Nat) : Int))) (
            Ck (Nat.ble ((((l1.getD i7.toNat (0, (0, 0))).2).1).toNat + 1) h0.length) (
             Ck (decide ((0 : Int) ≤ i7)) (
              Ck (decide (i7 < ((l1.length : Nat) : Int))) (
               Ck (decide ((0 : Int) ≤ ((l1.getD i7.toNat (0, (0, 0))).2).2)) (
                Ck (decide (((l1.getD i7.toNat (0, (0, 0))).2).2 < ((h0.length : Nat) : Int))) (
                 Ck (Nat.ble ((((l1.getD i7.toNat (0, (0, 0))).2).2).toNat + 1) h0.length) (
                  ∃ r2 : List Int, SC P 106 [.one (.ro (.int .i64) (h0.getD (((l1.getD i7.toNat (0, (0, 0))).2).1).toNat [])), .one (.ro (.int .i64) (h0.getD (((l1.getD i7.toNat (0, (0, 0))).2).2).toNat []))] [] [.one (.sl 0 none)] [.row (.int .i64) r2 .own] ∧
                   Ck (Nat.ble ((h0.length + 1) * 24) roomy) (
                    FL E H54 Try.f54 0 r lh 0 (S54_L0 kind0 l1 (IntKind.wrap .i64 (i7 + 1)) (h0 ++ [r2])))))))))))))))))) (
    Ck (decide ((0 : Int) ≤ (IntKind.wrap .i64 (((h0.length : Nat) : Int) - 1)))) (
     Ck (decide ((IntKind.wrap .i64 (((h0.length : Nat) : Int) - 1)) < ((h0.length : Nat) : Int))) (
      Ck (Nat.ble ((IntKind.wrap .i64 (((h0.length : Nat) : Int) - 1)).toNat + 1) h0.length) (
       Ret r lh [.one (.ro (.int .i64) (h0.getD (IntKind.wrap .i64 (((h0.length : Nat) : Int) - 1)).toNat [])), .one (.bool true)] []))))) := by kernel_rfl
theorem getD_map {α β : Type} (g : α → β) (l : List α) (z : α) (z' : β) (i : Nat) (hi : i < l.length) : (l.map g).getD i z' = g (l.getD i z) := by
  rw [getD_eq (by rw [List.length_map]; exact hi), getD_eq hi, List.getElem_map]
theorem l54 (l : List Step) (kind : Int) (hk : inB kind 1 2 = true) (hp : progOk l = true) : ∀ (n i : Nat) (ns : List V4), i + n = l.length → ns.length = i → (∀ x ∈ ns, VOk x) →
    FL E H54 Try.f54 0 [.one (.ro (.int .i64) ((runV (fun a => rowV kind a) vtimes vplus (0, 0, 0, 0) (l.drop i) ns).getD (l.length - 1) (0, 0, 0, 0)).l), .one (.bool true)] [] 0 (S54_L0 kind l (i : Int) (ns.map V4.l))
  | 0, i, ns, h, hn, hx => by
    have hl := prog_len hp
    refine FL_of1 ?_
    rw [eq54_L0, List.drop_eq_nil_of_le (show l.length ≤ i by omega), runV, List.length_map, wrap64 (n := (ns.length : Int) - 1) (by omega) (by omega), show ((ns.length : Int) - 1).toNat = l.length - 1 by omega,
      getD_map V4.l ns (0, 0, 0, 0) [] (l.length - 1) (by omega)]
    exact Br_f (by omega) (Ck_d (by omega) (Ck_d (by omega) (Ck_le (by omega) ⟨rfl, rfl⟩)))
  | n + 1, i, ns, h, hn, hx => by
    have hl := prog_len hp
    have hi : i < l.length := by omega
    have hs := step_cases (prog_step hp hi)
    have ga := getD_all (z := ((0, 0, 0, 0) : V4)) hx ⟨fok0, fok0, fok0, fok0⟩
    refine FL_of1 ?_
    rw [eq54_L0, wS (by omega), drop_cons hi, runV, ← getD_eq (z := (0, 0, 0)) hi]
    simp only [Int.toNat_natCast, List.length_map]
    have go : ∀ y, VOk y → stepV (fun a => rowV kind a) vtimes vplus (0, 0, 0, 0) ns (l.getD i (0, 0, 0)) = y →
        FL E H54 Try.f54 0 [.one (.ro (.int .i64) ((runV (fun a => rowV kind a) vtimes vplus (0, 0, 0, 0) (l.drop (i + 1)) (ns ++ [stepV (fun a => rowV kind a) vtimes vplus (0, 0, 0, 0) ns (l.getD i (0, 0, 0))])).getD (l.length - 1) (0, 0, 0, 0)).l), .one (.bool true)] [] 0 (S54_L0 kind l ((i + 1 : Nat) : Int) (ns.map V4.l ++ [y.l])) := by
      intro y hy e
      rw [e]
      have := l54 l kind hk hp n (i + 1) (ns ++ [y]) (by omega) (by simp; omega) fun x hm => by
        rcases List.mem_append.1 hm with hm | hm
        · exact hx x hm
        · rw [List.mem_singleton.1 hm]; exact hy
      rw [List.map_append] at this
      exact this
    rw [hAt] at hs
    rcases hs with ⟨c1, a0, a1⟩ | ⟨c1, c2, a0, a1, b⟩ | ⟨c1, c2, a0, a1, b0, b1⟩
    · exact Br_t (by omega) (Ck_d (by omega) (Ck_d (by omega) (Br_t c1 (Ck_d (by omega) (Ck_d (by omega) (⟨_, c104 kind _ hk a0 a1, Ck_room (by omega) (go _ (rowV_ok _ _) (by rw [stepV, decide_eq_true c1, cond_true]))⟩))))))
    · rw [getD_map V4.l ns (0, 0, 0, 0) [] (l.getD i (0, 0, 0)).2.1.toNat (by omega)]
      exact Br_t (by omega) (Ck_d (by omega) (Ck_d (by omega) (Br_f c1 (Br_t c2 (Ck_d (by omega) (Ck_d (by omega) (Ck_d a0 (Ck_d (by omega) (Ck_le (by omega) (Ck_d (by omega) (Ck_d (by omega) (⟨_, c105 _ _ (ga _) b, Ck_room (by omega) (go _ (vtimes_ok _ _) (by rw [stepV, decide_eq_false c1, cond_false, decide_eq_true c2, cond_true]))⟩))))))))))))
    · rw [getD_map V4.l ns (0, 0, 0, 0) [] (l.getD i (0, 0, 0)).2.1.toNat (by omega), getD_map V4.l ns (0, 0, 0, 0) [] (l.getD i (0, 0, 0)).2.2.toNat (by omega)]
      exact Br_t (by omega) (Ck_d (by omega) (Ck_d (by omega) (Br_f c1 (Br_f c2 (Ck_d (by omega) (Ck_d (by omega) (Ck_d a0 (Ck_d (by omega) (Ck_le (by omega) (Ck_d (by omega) (Ck_d (by omega) (Ck_d b0 (Ck_d (by omega) (Ck_le (by omega) (⟨_, c106 _ _ (ga _) (ga _), Ck_room (by omega) (go _ (vplus_ok _ _) (by rw [stepV, decide_eq_false c1, cond_false, decide_eq_false c2, cond_false]))⟩)))))))))))))))
theorem c54 (kind : Int) (l : List Step) (hl : l.length ≤ 1048576) : SC P 54 [.one (.int .i64 kind), .one (.ro (.pair (.int .i64) (.pair (.int .i64) (.int .i64))) l)] [] [.one (.ro (.int .i64) (progRowF kind l)), .one (.bool (inB kind 1 2 && progOk l))] [] := by
  refine SC_of_FB (H := H54) E_ok Try.func54 (by kernel_rfl) ?_
  rw [eq54]
  refine ⟨_, c79 kind, Br_nb (fun e => ⟨by rw [progRowF, e]; rfl, rfl⟩) (fun e => ⟨_, c96 l hl, Br_nb (fun e' => ⟨by rw [progRowF, e', Bool.and_false]; rfl, rfl⟩) (fun e' => ?_)⟩)⟩
  have := l54 l kind e e' l.length 0 [] (by omega) rfl (fun x hx => by cases hx)
  rw [List.drop_zero] at this
  rw [progRowF, e, e']
  exact this
/-! loop.example/keelson/laws.markStepS -/
def H48 : Hint := ⟨[[(0, 0, .bool), (1, 0, .bool), (5, 0, .bool)]], [], [], [], [], []⟩
def S48_L0 (k1 : Int) (i5 : Int) (h0 : List (Int × (Int × Int))) : St := ⟨[(0, .w (.one (.sl 0 none))), (1, .w (.one (.int .i64 k1))), (5, .w (.one (.int .i64 i5)))], [.row (.pair (.int .i64) (.pair (.int .i64) (.int .i64))) h0 .own]⟩
theorem eq48 (l : List (Int × Int × Int)) (k : Int) (r : List W) (lh : Heap) : FB E H48 Try.f48 [.one (.sl 0 none), .one (.int .i64 k)] [.row (.pair (.int .i64) (.pair (.int .i64) (.int .i64))) l .own] r lh =
  (
   FL E H48 Try.f48 1 r lh 0 (S48_L0 k 0 l)) := by kernel_rfl
theorem eq48_L0 (k1 : Int) (i5 : Int) (h0 : List (Int × (Int × Int))) (r : List W) (lh : Heap) : FL1 E H48 Try.f48 1 r lh 0 (S48_L0 k1 i5 h0) =
  (
   Br (decide (i5 < ((h0.length : Nat) : Int))) (
    Ck (decide ((0 : Int) ≤ i5)) (
     Ck (decide (i5 < ((h0.length : Nat) : Int))) (
      Ck (Nat.blt i5.toNat h0.length) (
       Ck (decide ((0 : Int) ≤ i5)) (
        Ck (decide (i5 < (((h0.set i5.toNat (k1, (((h0.getD i5.toNat (0, (0, 0))).2).1, ((h0.getD i5.toNat (0, (0, 0))).2).2))).length : Nat) : Int))) (
         Ck (Nat.blt i5.toNat ((h0.set i5.toNat (k1, (((h0.getD i5.toNat (0, (0, 0))).2).1, ((h0.getD i5.toNat (0, (0, 0))).2).2))).length)) (
          Ck (decide ((0 : Int) ≤ i5)) (
           Ck (decide (i5 < ((((h0.set i5.toNat (k1, (((h0.getD i5.toNat (0, (0, 0))).2).1, ((h0.getD i5.toNat (0, (0, 0))).2).2))).set i5.toNat (((h0.set i5.toNat (k1, (((h0.getD i5.toNat (0, (0, 0))).2).1, ((h0.getD i5.toNat (0, (0, 0))).2).2))).getD i5.toNat (0, (0, 0))).1, ((IntKind.wrap .i64 (k1 + 1)), (((h0.set i5.toNat (k1, (((h0.getD i5.toNat (0, (0, 0))).2).1, ((h0.getD i5.toNat (0, (0, 0))).2).2))).getD i5.toNat (0, (0, 0))).2).2))).length : Nat) : Int))) (
            Ck (Nat.blt i5.toNat (((h0.set i5.toNat (k1, (((h0.getD i5.toNat (0, (0, 0))).2).1, ((h0.getD i5.toNat (0, (0, 0))).2).2))).set i5.toNat (((h0.set i5.toNat (k1, (((h0.getD i5.toNat (0, (0, 0))).2).1, ((h0.getD i5.toNat (0, (0, 0))).2).2))).getD i5.toNat (0, (0, 0))).1, ((IntKind.wrap .i64 (k1 + 1)), (((h0.set i5.toNat (k1, (((h0.getD i5.toNat (0, (0, 0))).2).1, ((h0.getD i5.toNat (0, (0, 0))).2).2))).getD i5.toNat (0, (0, 0))).2).2))).length)) (
             FL E H48 Try.f48 1 r lh 0 (S48_L0 (IntKind.wrap .i64 ((IntKind.wrap .i64 ((IntKind.wrap .i64 (k1 + 1)) + 1)) + 1)) (IntKind.wrap .i64 (i5 + 1)) (((h0.set i5.toNat (k1, (((h0.getD i5.toNat (0, (0, 0))).2).1, ((h0.getD i5.toNat (0, (0, 0))).2).2))).set i5.toNat (((h0.set i5.toNat (k1, (((h0.getD i5.toNat (0, (0, 0))).2).1, ((h0.getD i5.toNat (0, (0, 0))).2).2))).getD i5.toNat (0, (0, 0))).1, ((IntKind.wrap .i64 (k1 + 1)), (((h0.set i5.toNat (k1, (((h0.getD i5.toNat (0, (0, 0))).2).1, ((h0.getD i5.toNat (0, (0, 0))).2).2))).getD i5.toNat (0, (0, 0))).2).2))).set i5.toNat ((((h0.set i5.toNat (k1, (((h0.getD i5.toNat (0, (0, 0))).2).1, ((h0.getD i5.toNat (0, (0, 0))).2).2))).set i5.toNat (((h0.set i5.toNat (k1, (((h0.getD i5.toNat (0, (0, 0))).2).1, ((h0.getD i5.toNat (0, (0, 0))).2).2))).getD i5.toNat (0, (0, 0))).1, ((IntKind.wrap .i64 (k1 + 1)), (((h0.set i5.toNat (k1, (((h0.getD i5.toNat (0, (0, 0))).2).1, ((h0.getD i5.toNat (0, (0, 0))).2).2))).getD i5.toNat (0, (0, 0))).2).2))).getD i5.toNat (0, (0, 0))).1, (((((h0.set i5.toNat (k1, (((h0.getD i5.toNat (0, (0, 0))).2).1, ((h0.getD i5.toNat (0, (0, 0))).2).2))).set i5.toNat (((h0.set i5.toNat (k1, (((h0.getD i5.toNat (0, (0, 0))).2).1, ((h0.getD i5.toNat (0, (0, 0))).2).2))).getD i5.toNat (0, (0, 0))).1, ((IntKind.wrap .i64 (k1 + 1)), (((h0.set i5.toNat (k1, (((h0.getD i5.toNat (0, (0, 0))).2).1, ((h0.getD i5.toNat (0, (0, 0))).2).2))).getD i5.toNat (0, (0, 0))).2).2))).getD i5.toNat (0, (0, 0))).2).1, (IntKind.wrap .i64 ((IntKind.wrap .i64 (k1 + 1)) + 1)))))))))))))))) (
    Ret r lh [.one (.int .i64 k1)] [.row (.pair (.int .i64) (.pair (.int .i64) (.int .i64))) h0 .own])) := by kernel_rfl
theorem l48 (k : Int) (m : Nat) (hm : m ≤ 1048576) (k0 : 0 ≤ k) (k1 : k ≤ 1073741824) : ∀ (n i : Nat) (out : List House), i + n = m → out.length = m → (∀ j, j < i → out[j]? = (marksH k m)[j]?) →
    FL E H48 Try.f48 1 [.one (.int .i64 (k + 3 * (m : Int)))] [.row (.pair (.int .i64) (.pair (.int .i64) (.int .i64))) (marksH k m) .own] 0 (S48_L0 (k + 3 * (i : Int)) (i : Int) out)
  | 0, i, out, h, ho, H => by
    refine FL_of1 ?_
    rw [eq48_L0]
    obtain rfl : out = marksH k m := fill_done (by rw [marksH_length]; exact ho) fun j hj => H j (by rw [marksH_length] at hj; omega)
    refine Br_f (by omega) ⟨?_, rfl⟩
    rw [show (i : Int) = m by omega]
  | n + 1, i, out, h, ho, H => by
    refine FL_of1 ?_
    rw [eq48_L0, wS (by omega), wrap64 (n := k + 3 * (i : Int) + 1) (by omega) (by omega), wrap64 (n := k + 3 * (i : Int) + 1 + 1) (by omega) (by omega), wrap64 (n := k + 3 * (i : Int) + 1 + 1 + 1) (by omega) (by omega), show k + 3 * (i : Int) + 1 + 1 + 1 = k + 3 * ((i + 1 : Nat) : Int) by omega]
    simp only [Int.toNat_natCast, List.length_set]
    have e1 : ∀ x y : House, ((out.set i x).set i y).getD i (0, 0, 0) = y := fun x y => get_set_self (by rw [List.length_set]; omega)
    have e2 : ∀ x : House, (out.set i x).getD i (0, 0, 0) = x := fun x => get_set_self (by omega)
    simp only [e1, e2, List.set_set]
    refine Br_t (by omega) (Ck_d (by omega) (Ck_d (by omega) (Ck_lt (by omega) (Ck_d (by omega) (Ck_d (by omega) (Ck_lt (by omega) (Ck_d (by omega) (Ck_d (by omega) (Ck_lt (by omega) ?_)))))))))
    exact l48 k m hm k0 k1 n (i + 1) _ (by omega) (by simp [ho]) (fill_step (by rw [marksH_length]; exact ho) (by rw [marksH_get (by omega)]; congr 2; exact Prod.ext rfl (by dsimp only; omega)) H)
theorem c48 (l : List House) (k : Int) (hl : l.length ≤ 1048576) (k0 : 0 ≤ k) (k1 : k ≤ 1073741824) : SC P 48 [.one (.sl 0 none), .one (.int .i64 k)] [.row (.pair (.int .i64) (.pair (.int .i64) (.int .i64))) l .own] [.one (.int .i64 (k + 3 * (l.length : Int)))] [.row (.pair (.int .i64) (.pair (.int .i64) (.int .i64))) (marksH k l.length) .own] := by
  refine SC_of_FB (H := H48) E_ok Try.func48 (by kernel_rfl) ?_
  rw [eq48]
  have := l48 k l.length hl k0 k1 l.length 0 l (by omega) rfl (fun j hj => absurd hj (by omega))
  rw [show k + 3 * ((0 : Nat) : Int) = k by omega] at this
  exact this
/-! loop.example/keelson/laws.heldStepS -/
def H49 : Hint := ⟨[[(0, 0, .bool), (1, 0, .bool), (5, 0, .bool)]], [], [], [], [], []⟩
def S49_L0 (a0 : List (Int × (Int × Int))) (k1 : Int) (i5 : Int) : St := ⟨[(0, .w (.one (.ro (.pair (.int .i64) (.pair (.int .i64) (.int .i64))) a0))), (1, .w (.one (.int .i64 k1))), (5, .w (.one (.int .i64 i5)))], []⟩
theorem eq49 (a : List (Int × (Int × Int))) (k : Int) (r : List W) (lh : Heap) : FB E H49 Try.f49 [.one (.ro (.pair (.int .i64) (.pair (.int .i64) (.int .i64))) a), .one (.int .i64 k)] [] r lh =
  (
   FL E H49 Try.f49 0 r lh 0 (S49_L0 a k 0)) := by kernel_rfl
theorem eq49_L0 (a0 : List (Int × (Int × Int))) (k1 : Int) (i5 : Int) (r : List W) (lh : Heap) : FL1 E H49 Try.f49 0 r lh 0 (S49_L0 a0 k1 i5) =
  (
   Br (decide (i5 < ((a0.length : Nat) : Int))) (
    Ck (decide ((0 : Int) ≤ i5)) (
     Ck (decide (i5 < ((a0.length : Nat) : Int))) (
      Br (!(decide ((a0.getD i5.toNat (0, (0, 0))).1 = k1))) (
       Ret r lh [.one (.int .i64 (-1))] []) (
       Ck (decide ((0 : Int) ≤ i5)) (
        Ck (decide (i5 < ((a0.length : Nat) : Int))) (
         Br (!(decide (((a0.getD i5.toNat (0, (0, 0))).2).1 = (IntKind.wrap .i64 (k1 + 1))))) (
          Ret r lh [.one (.int .i64 (-1))] []) (
          Ck (decide ((0 : Int) ≤ i5)) (
           Ck (decide (i5 < ((a0.length : Nat) : Int))) (
            Br (!(decide (((a0.getD i5.toNat (0, (0, 0))).2).2 = (IntKind.wrap .i64 ((IntKind.wrap .i64 (k1 + 1)) + 1))))) (
             Ret r lh [.one (.int .i64 (-1))] []) (
             FL E H49 Try.f49 0 r lh 0 (S49_L0 a0 (IntKind.wrap .i64 ((IntKind.wrap .i64 ((IntKind.wrap .i64 (k1 + 1)) + 1)) + 1)) (IntKind.wrap .i64 (i5 + 1))))))))))))) (
    Ret r lh [.one (.int .i64 k1)] [])) := by kernel_rfl
theorem l49 (k : Int) (m : Nat) (hm : m ≤ 1048576) (k0 : 0 ≤ k) (k1 : k ≤ 1073741824) : ∀ (n i : Nat), i + n = m →
    FL E H49 Try.f49 0 [.one (.int .i64 (k + 3 * (m : Int)))] [] 0 (S49_L0 (marksH k m) (k + 3 * (i : Int)) (i : Int))
  | 0, i, h => by
    refine FL_of1 ?_
    rw [eq49_L0, marksH_length]
    refine Br_f (by omega) ⟨?_, rfl⟩
    rw [show (i : Int) = m by omega]
  | n + 1, i, h => by
    refine FL_of1 ?_
    rw [eq49_L0, marksH_length, wS (by omega), wrap64 (n := k + 3 * (i : Int) + 1) (by omega) (by omega), wrap64 (n := k + 3 * (i : Int) + 1 + 1) (by omega) (by omega), wrap64 (n := k + 3 * (i : Int) + 1 + 1 + 1) (by omega) (by omega), show k + 3 * (i : Int) + 1 + 1 + 1 = k + 3 * ((i + 1 : Nat) : Int) by omega]
    simp only [Int.toNat_natCast]
    have e := marksH_getD (k := k) (n := m) (i := i) (z := (0, 0, 0)) (by omega)
    refine Br_t (by omega) (Ck_d (by omega) (Ck_d (by omega) (Br_nd (fun h1 => absurd (by rw [e]) h1) (fun _ => Ck_d (by omega) (Ck_d (by omega) (Br_nd (fun h1 => absurd (by rw [e]) h1) (fun _ => Ck_d (by omega) (Ck_d (by omega) (Br_nd (fun h1 => ?_) (fun _ => ?_))))))))))
    · exact absurd (by rw [e]; dsimp only; omega) h1
    · exact l49 k m hm k0 k1 n (i + 1) (by omega)
theorem c49 (k : Int) (m : Nat) (hl : m ≤ 1048576) (k0 : 0 ≤ k) (k1 : k ≤ 1073741824) : SC P 49 [.one (.ro (.pair (.int .i64) (.pair (.int .i64) (.int .i64))) (marksH k m)), .one (.int .i64 k)] [] [.one (.int .i64 (k + 3 * (m : Int)))] [] := by
  refine SC_of_FB (H := H49) E_ok Try.func49 (by kernel_rfl) ?_
  rw [eq49]
  have := l49 k m hl k0 k1 m 0 (by omega)
  rw [show k + 3 * ((0 : Nat) : Int) = k by omega] at this
  exact this
/-! loop.example/keelson/laws.FnExactProgRun -/
def H11 : Hint := ⟨[], [], [], [], [], []⟩
theorem eq11 (aL : List (Int × (Int × Int))) (aVals : List Int) (r : List W) (lh : Heap) : FB E H11 Try.f11 [.one (.ro (.pair (.int .i64) (.pair (.int .i64) (.int .i64))) aL), .one (.ro (.int .i64) aVals)] [] r lh =
  (
   Br (decide ((1048576 : Int) < ((aVals.length : Nat) : Int))) (
    Ret r lh [.one (.bool true)] []) (
    ∃ r0 : Int, SC P 50 [.one (.ro (.pair (.int .i64) (.pair (.int .i64) (.int .i64))) aL), .one (.int .i64 1048576)] [] [.one (.int .i64 r0)] [] ∧
     Br (decide (r0 < (0 : Int))) (
      Ret r lh [.one (.bool true)] []) (
      ∃ r1 : List (Int × (Int × Int)), SC P 52 [.one (.ro (.pair (.int .i64) (.pair (.int .i64) (.int .i64))) aL)] [] [.one (.sl 0 none)] [.row (.pair (.int .i64) (.pair (.int .i64) (.int .i64))) r1 .own] ∧
       ∃ r2 : List Int, SC P 31 [.one (.ro (.int .i64) aVals)] [] [.one (.sl 0 none)] [.row (.int .i64) r2 .own] ∧
        ∃ r3 : Int × Bool, SC P 51 [.one (.ro (.pair (.int .i64) (.pair (.int .i64) (.int .i64))) r1), .one (.ro (.int .i64) r2)] [] [.one (.int .i64 r3.1), .one (.bool r3.2)] [] ∧
         ∃ r4 : List (Int × (Int × Int)), SC P 52 [.one (.ro (.pair (.int .i64) (.pair (.int .i64) (.int .i64))) aL)] [] [.one (.sl 0 none)] [.row (.pair (.int .i64) (.pair (.int .i64) (.int .i64))) r4 .own] ∧
          ∃ r5 : List Int, SC P 31 [.one (.ro (.int .i64) aVals)] [] [.one (.sl 0 none)] [.row (.int .i64) r5 .own] ∧
           ∃ r6 : Int × Bool, SC P 53 [.one (.ro (.pair (.int .i64) (.pair (.int .i64) (.int .i64))) r4), .one (.ro (.int .i64) r5)] [] [.one (.int .i64 r6.1), .one (.bool r6.2)] [] ∧
            Br (!(decide (r6.1 = r3.1))) (
             Ret r lh [.one (.bool false)] []) (
             Br (r6.2 != r3.2) (
              Ret r lh [.one (.bool false)] []) (
              ∃ r7 : List (Int × (Int × Int)), SC P 52 [.one (.ro (.pair (.int .i64) (.pair (.int .i64) (.int .i64))) aL)] [] [.one (.sl 0 none)] [.row (.pair (.int .i64) (.pair (.int .i64) (.int .i64))) r7 .own] ∧
               ∃ r8 : Bool, SC P 45 [.one (.ro (.pair (.int .i64) (.pair (.int .i64) (.int .i64))) r4), .one (.ro (.pair (.int .i64) (.pair (.int .i64) (.int .i64))) r7)] [] [.one (.bool r8)] [] ∧
                Br (!r8) (
                 Ret r lh [.one (.bool false)] []) (
                 ∃ r9 : List Int, SC P 31 [.one (.ro (.int .i64) aVals)] [] [.one (.sl 0 none)] [.row (.int .i64) r9 .own] ∧
                  ∃ r10 : Bool, SC P 26 [.one (.ro (.int .i64) r5), .one (.ro (.int .i64) r9)] [] [.one (.bool r10)] [] ∧
                   Br (!r10) (
                    Ret r lh [.one (.bool false)] []) (
                    Ret r lh [.one (.bool true)] []))))))) := by kernel_rfl
theorem c11 (l : List Step) (vals : List Int) (hl : l.length ≤ 9223372036854775807) : SC P 11 [.one (.ro (.pair (.int .i64) (.pair (.int .i64) (.int .i64))) l), .one (.ro (.int .i64) vals)] [] [.one (.bool true)] [] := by
  refine SC_of_FB (H := H11) E_ok Try.func11 (by kernel_rfl) ?_
  rw [eq11]
  refine Br_d (fun _ => ⟨rfl, rfl⟩) (fun h' => ⟨_, c50 l hl, ?_⟩)
  have hv : vals.length ≤ 1048576 := by omega
  by_cases h : l.length ≤ 1048576
  · rw [decide_eq_true h, cond_true]
    exact Br_f (by omega) ⟨_, c52 l h, _, c31 vals hv, (_, _), c51 l vals h hv, _, c52 l h, _, c31 vals hv, (_, _), c53 l vals h hv, Br_nd (fun e => absurd rfl e) (fun _ => Br_ne ⟨_, c52 l h, _, c45 l l h, Br_nb (fun e => by simp at e) (fun _ => ⟨_, c31 vals hv, _, c26 _ _ hv, Br_nb (fun e => by simp at e) (fun _ => ⟨rfl, rfl⟩)⟩)⟩)⟩
  · rw [decide_eq_false h, cond_false]
    exact Br_t (by omega) ⟨rfl, rfl⟩
/-! loop.example/keelson/laws.FnExactProgRow -/
def H12 : Hint := ⟨[], [], [], [], [], []⟩
theorem eq12 (aKind : Int) (aL : List (Int × (Int × Int))) (r : List W) (lh : Heap) : FB E H12 Try.f12 [.one (.int .i64 aKind), .one (.ro (.pair (.int .i64) (.pair (.int .i64) (.int .i64))) aL)] [] r lh =
  (
   ∃ r0 : Int, SC P 50 [.one (.ro (.pair (.int .i64) (.pair (.int .i64) (.int .i64))) aL), .one (.int .i64 1048576)] [] [.one (.int .i64 r0)] [] ∧
    Br (decide (r0 < (0 : Int))) (
     Ret r lh [.one (.bool true)] []) (
     ∃ r1 : List (Int × (Int × Int)), SC P 52 [.one (.ro (.pair (.int .i64) (.pair (.int .i64) (.int .i64))) aL)] [] [.one (.sl 0 none)] [.row (.pair (.int .i64) (.pair (.int .i64) (.int .i64))) r1 .own] ∧
      ∃ r2 : List Int × Bool, SC P 54 [.one (.int .i64 aKind), .one (.ro (.pair (.int .i64) (.pair (.int .i64) (.int .i64))) r1)] [] [.one (.ro (.int .i64) r2.1), .one (.bool r2.2)] [] ∧
       ∃ r3 : List (Int × (Int × Int)), SC P 52 [.one (.ro (.pair (.int .i64) (.pair (.int .i64) (.int .i64))) aL)] [] [.one (.sl 0 none)] [.row (.pair (.int .i64) (.pair (.int .i64) (.int .i64))) r3 .own] ∧
        ∃ r4 : List Int × Bool, SC P 55 [.one (.int .i64 aKind), .one (.ro (.pair (.int .i64) (.pair (.int .i64) (.int .i64))) r3)] [] [.one (.sl 0 none), .one (.bool r4.2)] [.row (.int .i64) r4.1 .own] ∧
         ∃ r5 : Bool, SC P 26 [.one (.ro (.int .i64) r4.1), .one (.ro (.int .i64) r2.1)] [] [.one (.bool r5)] [] ∧
          Br (!r5) (
           Ret r lh [.one (.bool false)] []) (
           Br (r4.2 != r2.2) (
            Ret r lh [.one (.bool false)] []) (
            ∃ r6 : List (Int × (Int × Int)), SC P 52 [.one (.ro (.pair (.int .i64) (.pair (.int .i64) (.int .i64))) aL)] [] [.one (.sl 0 none)] [.row (.pair (.int .i64) (.pair (.int .i64) (.int .i64))) r6 .own] ∧
             ∃ r7 : Bool, SC P 45 [.one (.ro (.pair (.int .i64) (.pair (.int .i64) (.int .i64))) r3), .one (.ro (.pair (.int .i64) (.pair (.int .i64) (.int .i64))) r6)] [] [.one (.bool r7)] [] ∧
              Br (!r7) (
               Ret r lh [.one (.bool false)] []) (
               ∃ r8 : List (Int × (Int × Int)) × Int, SC P 48 [.one (.sl 0 none), .one (.int .i64 1)] [.row (.pair (.int .i64) (.pair (.int .i64) (.int .i64))) r3 .own] [.one (.int .i64 r8.2)] [.row (.pair (.int .i64) (.pair (.int .i64) (.int .i64))) r8.1 .own] ∧
                Br (decide (r8.2 < (0 : Int))) (
                 Ret r lh [.one (.bool false)] []) (
                 ∃ r9 : Bool, SC P 26 [.one (.ro (.int .i64) r4.1), .one (.ro (.int .i64) r2.1)] [] [.one (.bool r9)] [] ∧
                  Br (!r9) (
                   Ret r lh [.one (.bool false)] []) (
                   Br (r4.2 != r2.2) (
                    Ret r lh [.one (.bool false)] []) (
                    ∃ r10 : List Int × Int, SC P 27 [.one (.sl 0 none), .one (.int .i64 1)] [.row (.int .i64) r4.1 .own] [.one (.int .i64 r10.2)] [.row (.int .i64) r10.1 .own] ∧
                     ∃ r11 : Int, SC P 28 [.one (.ro (.int .i64) r10.1), .one (.int .i64 1)] [] [.one (.int .i64 r11)] [] ∧
                      Br (decide (r11 < (0 : Int))) (
                       Ret r lh [.one (.bool false)] []) (
                       Br (!(decide (r11 = r10.2))) (
                        Ret r lh [.one (.bool false)] []) (
                        ∃ r12 : List (Int × (Int × Int)), SC P 52 [.one (.ro (.pair (.int .i64) (.pair (.int .i64) (.int .i64))) aL)] [] [.one (.sl 0 none)] [.row (.pair (.int .i64) (.pair (.int .i64) (.int .i64))) r12 .own] ∧
                         ∃ r13 : List Int × Bool, SC P 55 [.one (.int .i64 aKind), .one (.ro (.pair (.int .i64) (.pair (.int .i64) (.int .i64))) r12)] [] [.one (.sl 0 none), .one (.bool r13.2)] [.row (.int .i64) r13.1 .own] ∧
                          ∃ r14 : Bool, SC P 26 [.one (.ro (.int .i64) r13.1), .one (.ro (.int .i64) r2.1)] [] [.one (.bool r14)] [] ∧
                           Br (!r14) (
                            Ret r lh [.one (.bool false)] []) (
                            Br (r13.2 != r2.2) (
                             Ret r lh [.one (.bool false)] []) (
                             ∃ r15 : Int, SC P 28 [.one (.ro (.int .i64) r10.1), .one (.int .i64 1)] [] [.one (.int .i64 r15)] [] ∧
                              Br (decide (r15 < (0 : Int))) (
                               Ret r lh [.one (.bool false)] []) (
                               Br (!(decide (r15 = r10.2))) (
                                Ret r lh [.one (.bool false)] []) (
                                Ret r lh [.one (.bool true)] [])))))))))))))) := by kernel_rfl
theorem c12 (kind : Int) (l : List Step) (hl : l.length ≤ 9223372036854775807) : SC P 12 [.one (.int .i64 kind), .one (.ro (.pair (.int .i64) (.pair (.int .i64) (.int .i64))) l)] [] [.one (.bool true)] [] := by
  refine SC_of_FB (H := H12) E_ok Try.func12 (by kernel_rfl) ?_
  rw [eq12]
  refine ⟨_, c50 l hl, ?_⟩
  have hr : (progRowF kind l).length ≤ 1048576 := Nat.le_trans progRowF_len (by omega)
  by_cases h : l.length ≤ 1048576
  · rw [decide_eq_true h, cond_true]
    refine Br_f (by omega) ⟨_, c52 l h, (_, _), c54 kind l h, _, c52 l h, (_, _), c55 kind l h, _, c26 _ _ hr, Br_nb (fun e => by simp at e) (fun _ => Br_ne ⟨_, c52 l h, _, c45 l l h, Br_nb (fun e => by simp at e) (fun _ => ?_)⟩)⟩
    refine ⟨(_, _), c48 l 1 h (by omega) (by omega), Br_f (by dsimp only; omega) ⟨_, c26 _ _ hr, Br_nb (fun e => by simp at e) (fun _ => Br_ne ?_)⟩⟩
    refine ⟨(_, _), c27 (progRowF kind l) 1 hr (by omega) (by omega), _, c28 1 _ hr (by omega) (by omega), Br_f (by omega) (Br_nd (fun e => absurd rfl e) (fun _ => ?_))⟩
    refine ⟨_, c52 l h, (_, _), c55 kind l h, _, c26 _ _ hr, Br_nb (fun e => by simp at e) (fun _ => Br_ne ?_)⟩
    exact ⟨_, c28 1 _ hr (by omega) (by omega), Br_f (by omega) (Br_nd (fun e => absurd rfl e) (fun _ => ⟨rfl, rfl⟩))⟩
  · rw [decide_eq_false h, cond_false]
    exact Br_t (by omega) ⟨rfl, rfl⟩
end Go.Proofs.Ythehpbbibfallaa.Sh
