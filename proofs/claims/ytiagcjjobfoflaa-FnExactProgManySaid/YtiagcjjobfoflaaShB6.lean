/- Programs: contracts, and the exact laws on them. -/
import Derived.Test.YtiagcjjobfoflaaShB1
namespace Go.Proofs.Ytiagcjjobfoflaa.Sh
open Go
set_option linter.unusedVariables false
set_option linter.unusedSimpArgs false
/-! loop.example/keelson/laws.toStep -/
def H98 : Hint := ⟨[], [], [], [], []⟩
theorem eq98 (a : (Int × (Int × Int))) (r : List W) (lh : Heap) : FB E H98 Try.f98 [.agg [.int .i64 a.1, .int .i64 a.2.1, .int .i64 a.2.2]] [] r lh =
  (
   Ret r lh [.agg [.int .i64 a.1, .int .i64 a.2.1, .int .i64 a.2.2]] []) := by kernel_rfl
theorem c98 (h : House) : SC P 98 [.agg [.int .i64 h.1, .int .i64 h.2.1, .int .i64 h.2.2]] [] [.agg [.int .i64 h.1, .int .i64 h.2.1, .int .i64 h.2.2]] [] := by
  refine SC_of_FB (H := H98) E_ok Try.func98 (by kernel_rfl) ?_
  rw [eq98]
  exact ⟨rfl, rfl⟩
/-! loop.example/keelson/laws.szStepS -/
def H43 : Hint := ⟨[], [], [], [], []⟩
theorem eq43 (a : List (Int × (Int × Int))) (left : Int) (r : List W) (lh : Heap) : FB E H43 Try.f43 [.one (.ro (.pair (.int .i64) (.pair (.int .i64) (.int .i64))) a), .one (.int .i64 left)] [] r lh =
  (
   Br (decide ((IntKind.wrap .i64 (left - ((a.length : Nat) : Int))) < (0 : Int))) (
    Ret r lh [.one (.int .i64 (-1))] []) (
    Ret r lh [.one (.int .i64 (IntKind.wrap .i64 (left - ((a.length : Nat) : Int))))] [])) := by kernel_rfl
theorem c43 (l : List House) (hl : l.length ≤ 9223372036854775807) : SC P 43 [.one (.ro (.pair (.int .i64) (.pair (.int .i64) (.int .i64))) l), .one (.int .i64 1048576)] [] [.one (.int .i64 (bif decide (l.length ≤ 1048576) then 1048576 - (l.length : Int) else -1))] [] := by
  refine SC_of_FB (H := H43) E_ok Try.func43 (by kernel_rfl) ?_
  rw [eq43]
  rw [wrap64 (by omega) (by omega)]
  refine Br_d (fun h => ⟨?_, rfl⟩) (fun h => ⟨?_, rfl⟩)
  · rw [decide_eq_false (by omega)]; rfl
  · rw [decide_eq_true (by omega)]; rfl
/-! loop.example/keelson/laws.toStepS -/
def H45 : Hint := ⟨[[(0, 0, .bool), (3, 0, .bool), (4, 0, .bool)]], [], [], [], []⟩
def S45_L0 (a0 : List (Int × (Int × Int))) (i4 : Int) (h0 : List (Int × (Int × Int))) : St := ⟨[(0, .w (.one (.ro (.pair (.int .i64) (.pair (.int .i64) (.int .i64))) a0))), (3, .w (.one (.sl 0 none))), (4, .w (.one (.int .i64 i4)))], [.row (.pair (.int .i64) (.pair (.int .i64) (.int .i64))) h0 .own]⟩
theorem eq45 (a : List (Int × (Int × Int))) (r : List W) (lh : Heap) : FB E H45 Try.f45 [.one (.ro (.pair (.int .i64) (.pair (.int .i64) (.int .i64))) a)] [] r lh =
  (
   Ck (decide ((0 : Int) ≤ ((a.length : Nat) : Int))) (
    Ck (decide (((a.length : Nat) : Int) ≤ ((a.length : Nat) : Int))) (
     Ck (decide (((a.length : Nat) : Int) * (24 : Nat) ≤ (roomy : Int))) (
      FL E H45 Try.f45 0 r lh 0 (S45_L0 a 0 (List.replicate (((a.length : Nat) : Int).toNat) (0, (0, 0)))))))) := by kernel_rfl
theorem eq45_L0 (a0 : List (Int × (Int × Int))) (i4 : Int) (h0 : List (Int × (Int × Int))) (r : List W) (lh : Heap) : FL1 E H45 Try.f45 0 r lh 0 (S45_L0 a0 i4 h0) =
  (
   Br (decide (i4 < ((a0.length : Nat) : Int))) (
    Ck (decide ((0 : Int) ≤ i4)) (
     Ck (decide (i4 < ((a0.length : Nat) : Int))) (
      ∃ r0 : Int × Int × Int, SC P 98 [.agg [.int .i64 ((a0.getD i4.toNat (0, (0, 0))).1), .int .i64 (((a0.getD i4.toNat (0, (0, 0))).2).1), .int .i64 (((a0.getD i4.toNat (0, (0, 0))).2).2)]] [] [.agg [.int .i64 r0.1, .int .i64 r0.2.1, .int .i64 r0.2.2]] [] ∧
       Ck (decide ((0 : Int) ≤ i4)) (
        Ck (decide (i4 < ((h0.length : Nat) : Int))) (
         Ck (Nat.blt i4.toNat h0.length) (
          FL E H45 Try.f45 0 r lh 0 (S45_L0 a0 (IntKind.wrap .i64 (i4 + 1)) (h0.set i4.toNat (r0.1, (r0.2.1, r0.2.2)))))))))) (
    Ret r lh [.one (.sl 0 none)] [.row (.pair (.int .i64) (.pair (.int .i64) (.int .i64))) h0 .own])) := by kernel_rfl
theorem l45 (l : List House) (hl : l.length ≤ 1048576) : ∀ (n i : Nat) (out : List House), i + n = l.length → out.length = l.length → (∀ j, j < i → out[j]? = l[j]?) → FL E H45 Try.f45 0 [.one (.sl 0 none)] [.row (.pair (.int .i64) (.pair (.int .i64) (.int .i64))) l .own] 0 (S45_L0 l (i : Int) out)
  | 0, i, out, h, ho, H => by
    refine FL_of1 ?_
    rw [eq45_L0]
    obtain rfl : out = l := fill_done ho fun j hj => H j (by omega)
    exact Br_f (by omega) ⟨rfl, rfl⟩
  | n + 1, i, out, h, ho, H => by
    refine FL_of1 ?_
    rw [eq45_L0, wS (by omega)]
    simp only [Int.toNat_natCast]
    refine Br_t (by omega) (Ck_d (by omega) (Ck_d (by omega) ⟨_, c98 (hAt l i), Ck_d (by omega) (Ck_d (by omega) (Ck_lt (by omega) ?_))⟩))
    refine l45 l hl n (i + 1) _ (by omega) (by simp [ho]) (fill_step ho ?_ H)
    rw [hAt, getD_eq (show i < l.length by omega)]
    exact List.getElem?_eq_getElem _
theorem c45 (l : List House) (hl : l.length ≤ 1048576) : SC P 45 [.one (.ro (.pair (.int .i64) (.pair (.int .i64) (.int .i64))) l)] [] [.one (.sl 0 none)] [.row (.pair (.int .i64) (.pair (.int .i64) (.int .i64))) l .own] := by
  refine SC_of_FB (H := H45) E_ok Try.func45 (by kernel_rfl) ?_
  rw [eq45]
  refine Ck_d (by omega) (Ck_d (by omega) (Ck_roomI (by omega) ?_))
  exact l45 l hl l.length 0 _ (by omega) (by simp) (fun j hj => absurd hj (by omega))
/-! loop.example/keelson/laws.eqStep -/
def H100 : Hint := ⟨[], [], [], [], []⟩
theorem eq100 (a : (Int × (Int × Int))) (b : (Int × (Int × Int))) (r : List W) (lh : Heap) : FB E H100 Try.f100 [.agg [.int .i64 a.1, .int .i64 a.2.1, .int .i64 a.2.2], .agg [.int .i64 b.1, .int .i64 b.2.1, .int .i64 b.2.2]] [] r lh =
  (
   Br (!(decide (a.1 = b.1))) (
    Ret r lh [.one (.bool false)] []) (
    Br (!(decide (a.2.1 = b.2.1))) (
     Ret r lh [.one (.bool false)] []) (
     Br (!(decide (a.2.2 = b.2.2))) (
      Ret r lh [.one (.bool false)] []) (
      Ret r lh [.one (.bool true)] [])))) := by kernel_rfl
theorem c100 (a b : House) : SC P 100 [.agg [.int .i64 a.1, .int .i64 a.2.1, .int .i64 a.2.2], .agg [.int .i64 b.1, .int .i64 b.2.1, .int .i64 b.2.2]] [] [.one (.bool (decide (a = b)))] [] := by
  refine SC_of_FB (H := H100) E_ok Try.func100 (by kernel_rfl) ?_
  rw [eq100]
  obtain ⟨a1, a2, a3⟩ := a
  obtain ⟨b1, b2, b3⟩ := b
  exact Br_nd (fun h => ⟨by simp [h], rfl⟩) (fun h => Br_nd (fun h' => ⟨by simp [h'], rfl⟩) (fun h' => Br_nd (fun h'' => ⟨by simp [h''], rfl⟩) (fun h'' => ⟨by simp_all, rfl⟩)))
/-! loop.example/keelson/laws.eqStepS -/
def H47 : Hint := ⟨[[(0, 0, .bool), (1, 0, .bool), (5, 0, .bool)]], [], [(6, [0, 1, 2, 3, 4, 5, 6, 7, 8, 9])], [], []⟩
def S47_L0 (a0 : List (Int × (Int × Int))) (b1 : List (Int × (Int × Int))) (i5 : Int) : St := ⟨[(0, .w (.one (.ro (.pair (.int .i64) (.pair (.int .i64) (.int .i64))) a0))), (1, .w (.one (.ro (.pair (.int .i64) (.pair (.int .i64) (.int .i64))) b1))), (5, .w (.one (.int .i64 i5)))], []⟩
theorem eq47 (a : List (Int × (Int × Int))) (b : List (Int × (Int × Int))) (r : List W) (lh : Heap) : FB E H47 Try.f47 [.one (.ro (.pair (.int .i64) (.pair (.int .i64) (.int .i64))) a), .one (.ro (.pair (.int .i64) (.pair (.int .i64) (.int .i64))) b)] [] r lh =
  (
   Br (!(decide (((a.length : Nat) : Int) = ((b.length : Nat) : Int)))) (
    Ret r lh [.one (.bool false)] []) (
    FL E H47 Try.f47 0 r lh 0 (S47_L0 a b 0))) := by kernel_rfl
theorem eq47_L0 (a0 : List (Int × (Int × Int))) (b1 : List (Int × (Int × Int))) (i5 : Int) (r : List W) (lh : Heap) : FL1 E H47 Try.f47 0 r lh 0 (S47_L0 a0 b1 i5) =
  (
   Br (decide (i5 < ((a0.length : Nat) : Int))) (
    Ck (decide ((0 : Int) ≤ i5)) (
     Ck (decide (i5 < ((a0.length : Nat) : Int))) (
      Ck (decide ((0 : Int) ≤ i5)) (
       Ck (decide (i5 < ((b1.length : Nat) : Int))) (
        ∃ r0 : Bool, SC P 100 [.agg [.int .i64 ((a0.getD i5.toNat (0, (0, 0))).1), .int .i64 (((a0.getD i5.toNat (0, (0, 0))).2).1), .int .i64 (((a0.getD i5.toNat (0, (0, 0))).2).2)], .agg [.int .i64 ((b1.getD i5.toNat (0, (0, 0))).1), .int .i64 (((b1.getD i5.toNat (0, (0, 0))).2).1), .int .i64 (((b1.getD i5.toNat (0, (0, 0))).2).2)]] [] [.one (.bool r0)] [] ∧
         Br (!r0) (
          Ret r lh [.one (.bool false)] []) (
          FL E H47 Try.f47 0 r lh 0 (S47_L0 a0 b1 (IntKind.wrap .i64 (i5 + 1))))))))) (
    Ret r lh [.one (.bool true)] [])) := by kernel_rfl
theorem l47 (a b : List House) (hl : a.length ≤ 1048576) (hb : a.length = b.length) : ∀ (n i : Nat), i + n = a.length → FL E H47 Try.f47 0 [.one (.bool (allR (fun j => decide (a.getD j (0, 0, 0) = b.getD j (0, 0, 0))) i n))] [] 0 (S47_L0 a b (i : Int))
  | 0, i, h => by
    refine FL_of1 ?_
    rw [eq47_L0]
    exact Br_f (by omega) ⟨rfl, rfl⟩
  | n + 1, i, h => by
    refine FL_of1 ?_
    rw [eq47_L0, wS (by omega)]
    simp only [Int.toNat_natCast]
    refine Br_t (by omega) (Ck_d (by omega) (Ck_d (by omega) (Ck_d (by omega) (Ck_d (by omega) ⟨_, c100 (hAt a i) (hAt b i), Br_nb (fun h1 => ?_) (fun h1 => ?_)⟩))))
    · exact ⟨by rw [allR_f h1], rfl⟩
    · rw [allR_t h1]
      exact l47 a b hl hb n (i + 1) (by omega)
theorem c47 (a b : List House) (hl : a.length ≤ 1048576) : SC P 47 [.one (.ro (.pair (.int .i64) (.pair (.int .i64) (.int .i64))) a), .one (.ro (.pair (.int .i64) (.pair (.int .i64) (.int .i64))) b)] [] [.one (.bool (decide (a = b)))] [] := by
  refine SC_of_FB (H := H47) E_ok Try.func47 (by kernel_rfl) ?_
  rw [eq47]
  refine Br_nd (fun h => ⟨?_, rfl⟩) (fun h => ?_)
  · rw [decide_eq_false (by rintro rfl; exact h rfl)]
  · have h : a.length = b.length := by omega
    rw [← eqR h]
    exact l47 a b hl h a.length 0 (by omega)
/-! loop.example/keelson/spec.FieldOk -/
def H97 : Hint := ⟨[], [], [], [], []⟩
theorem eq97 (n : Int) (r : List W) (lh : Heap) : FB E H97 Try.f97 [.one (.int .i64 n)] [] r lh =
  (
   ∃ r0 : Bool, SC P 85 [.one (.int .i64 n), .one (.int .i64 0), .one (.int .i64 30)] [] [.one (.bool r0)] [] ∧
    Ret r lh [.one (.bool r0)] []) := by kernel_rfl
theorem c97 (n : Int) : SC P 97 [.one (.int .i64 n)] [] [.one (.bool (inB n 0 30))] [] := by
  refine SC_of_FB (H := H97) E_ok Try.func97 (by kernel_rfl) ?_
  rw [eq97]
  exact ⟨_, c85 _ _ _, rfl, rfl⟩
/-! loop.example/keelson/impl.FieldOk -/
def H125 : Hint := ⟨[], [], [], [], []⟩
theorem eq125 (n : Int) (r : List W) (lh : Heap) : FB E H125 Try.f125 [.one (.int .i64 n)] [] r lh =
  (
   ∃ r0 : Bool, SC P 86 [.one (.int .i64 n), .one (.int .i64 0), .one (.int .i64 30)] [] [.one (.bool r0)] [] ∧
    Ret r lh [.one (.bool r0)] []) := by kernel_rfl
theorem c125 (n : Int) : SC P 125 [.one (.int .i64 n)] [] [.one (.bool (inB n 0 30))] [] := by
  refine SC_of_FB (H := H125) E_ok Try.func125 (by kernel_rfl) ?_
  rw [eq125]
  exact ⟨_, c86 _ _ _, rfl, rfl⟩
/-! loop.example/keelson/impl.shardOk -/
def H124 : Hint := ⟨[], [], [], [], []⟩
theorem eq124 (at0 : Int) (r : List W) (lh : Heap) : FB E H124 Try.f124 [.one (.int .i64 at0)] [] r lh =
  (
   ∃ r0 : Bool, SC P 86 [.one (.int .i64 at0), .one (.int .i64 0), .one (.int .i64 7)] [] [.one (.bool r0)] [] ∧
    Ret r lh [.one (.bool r0)] []) := by kernel_rfl
theorem c124 (n : Int) : SC P 124 [.one (.int .i64 n)] [] [.one (.bool (inB n 0 7))] [] := by
  refine SC_of_FB (H := H124) E_ok Try.func124 (by kernel_rfl) ?_
  rw [eq124]
  exact ⟨_, c86 _ _ _, rfl, rfl⟩
abbrev Step := Int × Int × Int
def stepOk (s : Step) (many : Int) : Bool :=
  bif decide (s.1 = 1) then inB s.2.1 0 7 && decide (s.2.2 = 0)
  else bif decide (s.1 = 2) then inB s.2.1 0 (many - 1) && inB s.2.2 0 30
  else bif decide (s.1 = 3) then inB s.2.1 0 (many - 1) && inB s.2.2 0 (many - 1)
  else false
def progOk (l : List Step) : Bool := allR (fun i => stepOk (hAt l i) (i : Int)) 0 l.length && inB (l.length : Int) 1 16
/-! (loop.example/keelson/impl.Step).ok$1 -/
def H123 : Hint := ⟨[], [], [], [], []⟩
theorem eq123 (n : Int) (many : Int) (r : List W) (lh : Heap) : FB E H123 Try.f123 [.one (.int .i64 n), .one (.ptr 0 0 0)] [.row (.int .i64) [many] .var] r lh =
  (
   ∃ r0 : Bool, SC P 86 [.one (.int .i64 n), .one (.int .i64 0), .one (.int .i64 (IntKind.wrap .i64 (many - 1)))] [] [.one (.bool r0)] [] ∧
    Ret r lh [.one (.bool r0)] [.row (.int .i64) [many] .var]) := by kernel_rfl
theorem c123 (n many : Int) (h0 : 0 ≤ many) (h1 : many ≤ 1048576) : SC P 123 [.one (.int .i64 n), .one (.ptr 0 0 0)] [.row (.int .i64) [many] .var] [.one (.bool (inB n 0 (many - 1)))] [.row (.int .i64) [many] .var] := by
  refine SC_of_FB (H := H123) E_ok Try.func123 (by kernel_rfl) ?_
  rw [eq123]
  rw [wrap64 (by omega) (by omega)]
  exact ⟨_, c86 _ _ _, rfl, rfl⟩
/-! (loop.example/keelson/impl.Step).ok -/
def H99 : Hint := ⟨[], [], [], [], []⟩
theorem eq99 (s : (Int × (Int × Int))) (many : Int) (r : List W) (lh : Heap) : FB E H99 Try.f99 [.agg [.int .i64 s.1, .int .i64 s.2.1, .int .i64 s.2.2], .one (.int .i64 many)] [] r lh =
  (
   Br (decide (s.1 = (1 : Int))) (
    ∃ r0 : Bool, SC P 124 [.one (.int .i64 s.2.1)] [] [.one (.bool r0)] [] ∧
     Br r0 (
      Ret r lh [.one (.bool (decide (s.2.2 = (0 : Int))))] []) (
      Ret r lh [.one (.bool false)] [])) (
    Br (decide (s.1 = (2 : Int))) (
     ∃ r1 : Bool, SC P 123 [.one (.int .i64 s.2.1), .one (.ptr 0 0 0)] [.row (.int .i64) [many] .var] [.one (.bool r1)] [.row (.int .i64) [many] .var] ∧
      Br r1 (
       ∃ r2 : Bool, SC P 125 [.one (.int .i64 s.2.2)] [] [.one (.bool r2)] [] ∧
        Ret r lh [.one (.bool r2)] []) (
       Ret r lh [.one (.bool false)] [])) (
     Br (decide (s.1 = (3 : Int))) (
      ∃ r3 : Bool, SC P 123 [.one (.int .i64 s.2.1), .one (.ptr 0 0 0)] [.row (.int .i64) [many] .var] [.one (.bool r3)] [.row (.int .i64) [many] .var] ∧
       Br r3 (
        ∃ r4 : Bool, SC P 123 [.one (.int .i64 s.2.2), .one (.ptr 0 0 0)] [.row (.int .i64) [many] .var] [.one (.bool r4)] [.row (.int .i64) [many] .var] ∧
         Ret r lh [.one (.bool r4)] []) (
        Ret r lh [.one (.bool false)] [])) (
      Ret r lh [.one (.bool false)] [])))) := by kernel_rfl
theorem c99 (h : Step) (many : Int) (h0 : 0 ≤ many) (h1 : many ≤ 1048576) : SC P 99 [.agg [.int .i64 h.1, .int .i64 h.2.1, .int .i64 h.2.2], .one (.int .i64 many)] [] [.one (.bool (stepOk h many))] [] := by
  refine SC_of_FB (H := H99) E_ok Try.func99 (by kernel_rfl) ?_
  rw [eq99]
  refine Br_d (fun c => ⟨_, c124 _, Br_b (fun e => ⟨by rw [stepOk, decide_eq_true c, cond_true, e, Bool.true_and], rfl⟩) (fun e => ⟨by rw [stepOk, decide_eq_true c, cond_true, e, Bool.false_and], rfl⟩)⟩) (fun c => ?_)
  refine Br_d (fun c2 => ⟨_, c123 _ many h0 h1, Br_b (fun e => ⟨_, c125 _, by rw [stepOk, decide_eq_false c, cond_false, decide_eq_true c2, cond_true, e, Bool.true_and], rfl⟩) (fun e => ⟨by rw [stepOk, decide_eq_false c, cond_false, decide_eq_true c2, cond_true, e, Bool.false_and], rfl⟩)⟩) (fun c2 => ?_)
  refine Br_d (fun c3 => ⟨_, c123 _ many h0 h1, Br_b (fun e => ⟨_, c123 _ many h0 h1, by rw [stepOk, decide_eq_false c, cond_false, decide_eq_false c2, cond_false, decide_eq_true c3, cond_true, e, Bool.true_and], rfl⟩) (fun e => ⟨by rw [stepOk, decide_eq_false c, cond_false, decide_eq_false c2, cond_false, decide_eq_true c3, cond_true, e, Bool.false_and], rfl⟩)⟩) (fun c3 => ?_)
  exact ⟨by rw [stepOk, decide_eq_false c, cond_false, decide_eq_false c2, cond_false, decide_eq_false c3, cond_false], rfl⟩
/-! loop.example/keelson/impl.ProgOk -/
def H46 : Hint := ⟨[[(0, 0, .bool), (5, 0, .bool), (6, 0, .bool), (7, 0, .bool)]], [], [], [], []⟩
def S46_L0 (l0 : List (Int × (Int × Int))) (x5 : List (Int × (Int × Int))) (x6 : Int) (x7 : Int) : St := ⟨[(0, .w (.one (.ro (.pair (.int .i64) (.pair (.int .i64) (.int .i64))) l0))), (5, .w (.one (.ro (.pair (.int .i64) (.pair (.int .i64) (.int .i64))) x5))), (6, .w (.one (.int .i64 x6))), (7, .w (.one (.int .i64 x7)))], []⟩
theorem eq46 (l : List (Int × (Int × Int))) (r : List W) (lh : Heap) : FB E H46 Try.f46 [.one (.ro (.pair (.int .i64) (.pair (.int .i64) (.int .i64))) l)] [] r lh =
  (
   FL E H46 Try.f46 0 r lh 0 (S46_L0 l l ((l.length : Nat) : Int) 0)) := by kernel_rfl
theorem eq46_L0 (l0 : List (Int × (Int × Int))) (x5 : List (Int × (Int × Int))) (x6 : Int) (x7 : Int) (r : List W) (lh : Heap) : FL1 E H46 Try.f46 0 r lh 0 (S46_L0 l0 x5 x6 x7) =
  (
   Br (decide (x7 < x6)) (
    Ck (decide ((0 : Int) ≤ x7)) (
     Ck (decide (x7 < ((x5.length : Nat) : Int))) (
      ∃ r0 : Bool, SC P 99 [.agg [.int .i64 ((x5.getD x7.toNat (0, (0, 0))).1), .int .i64 (((x5.getD x7.toNat (0, (0, 0))).2).1), .int .i64 (((x5.getD x7.toNat (0, (0, 0))).2).2)], .one (.int .i64 x7)] [] [.one (.bool r0)] [] ∧
       Br (!r0) (
        Ret r lh [.one (.bool false)] []) (
        FL E H46 Try.f46 0 r lh 0 (S46_L0 l0 x5 x6 (IntKind.wrap .i64 (x7 + 1))))))) (
    ∃ r1 : Bool, SC P 86 [.one (.int .i64 ((l0.length : Nat) : Int)), .one (.int .i64 1), .one (.int .i64 16)] [] [.one (.bool r1)] [] ∧
     Ret r lh [.one (.bool r1)] [])) := by kernel_rfl
theorem l46 (l : List Step) (hl : l.length ≤ 1048576) : ∀ (n i : Nat), i + n = l.length → FL E H46 Try.f46 0 [.one (.bool (allR (fun i => stepOk (hAt l i) (i : Int)) i n && inB (l.length : Int) 1 16))] [] 0 (S46_L0 l l (l.length : Int) (i : Int))
  | 0, i, h => by
    refine FL_of1 ?_
    rw [eq46_L0]
    exact Br_f (by omega) ⟨_, c86 _ _ _, by rw [allR, Bool.true_and], rfl⟩
  | n + 1, i, h => by
    refine FL_of1 ?_
    rw [eq46_L0, wS (by omega)]
    simp only [Int.toNat_natCast]
    refine Br_t (by omega) (Ck_d (by omega) (Ck_d (by omega) ⟨_, c99 (hAt l i) (i : Int) (by omega) (by omega), Br_nb (fun e => ?_) (fun e => ?_)⟩))
    · exact ⟨by rw [allR_f e, Bool.false_and], rfl⟩
    · rw [allR_t e]
      exact l46 l hl n (i + 1) (by omega)
theorem c46 (l : List Step) (hl : l.length ≤ 1048576) : SC P 46 [.one (.ro (.pair (.int .i64) (.pair (.int .i64) (.int .i64))) l)] [] [.one (.bool (progOk l))] [] := by
  refine SC_of_FB (H := H46) E_ok Try.func46 (by kernel_rfl) ?_
  rw [eq46]
  exact l46 l hl l.length 0 (by omega)
/-! loop.example/keelson/spec.ProgOk -/
def H44 : Hint := ⟨[[(0, 0, .bool), (3, 0, .bool)]], [], [], [], []⟩
def S44_L0 (l0 : List (Int × (Int × Int))) (i3 : Int) : St := ⟨[(0, .w (.one (.ro (.pair (.int .i64) (.pair (.int .i64) (.int .i64))) l0))), (3, .w (.one (.int .i64 i3)))], []⟩
theorem eq44 (l : List (Int × (Int × Int))) (r : List W) (lh : Heap) : FB E H44 Try.f44 [.one (.ro (.pair (.int .i64) (.pair (.int .i64) (.int .i64))) l)] [] r lh =
  (
   FL E H44 Try.f44 0 r lh 0 (S44_L0 l 0)) := by kernel_rfl
theorem eq44_L0 (l0 : List (Int × (Int × Int))) (i3 : Int) (r : List W) (lh : Heap) : FL1 E H44 Try.f44 0 r lh 0 (S44_L0 l0 i3) =
  (
   Br (decide (i3 < ((l0.length : Nat) : Int))) (
    Ck (decide ((0 : Int) ≤ i3)) (
     Ck (decide (i3 < ((l0.length : Nat) : Int))) (
      Br (decide ((l0.getD i3.toNat (0, (0, 0))).1 = (1 : Int))) (
       ∃ r0 : Bool, SC P 85 [.one (.int .i64 (((l0.getD i3.toNat (0, (0, 0))).2).1)), .one (.int .i64 0), .one (.int .i64 7)] [] [.one (.bool r0)] [] ∧
        Br (!r0) (
         Ret r lh [.one (.bool false)] []) (
         Br (!(decide (((l0.getD i3.toNat (0, (0, 0))).2).2 = (0 : Int)))) (
          Ret r lh [.one (.bool false)] []) (
          FL E H44 Try.f44 0 r lh 0 (S44_L0 l0 (IntKind.wrap .i64 (i3 + 1)))))) (
       Br (decide ((l0.getD i3.toNat (0, (0, 0))).1 = (2 : Int))) (
        ∃ r1 : Bool, SC P 85 [.one (.int .i64 (((l0.getD i3.toNat (0, (0, 0))).2).1)), .one (.int .i64 0), .one (.int .i64 (IntKind.wrap .i64 (i3 - 1)))] [] [.one (.bool r1)] [] ∧
         Br (!r1) (
          Ret r lh [.one (.bool false)] []) (
          ∃ r2 : Bool, SC P 97 [.one (.int .i64 (((l0.getD i3.toNat (0, (0, 0))).2).2))] [] [.one (.bool r2)] [] ∧
           Br (!r2) (
            Ret r lh [.one (.bool false)] []) (
            FL E H44 Try.f44 0 r lh 0 (S44_L0 l0 (IntKind.wrap .i64 (i3 + 1)))))) (
        Br (decide ((l0.getD i3.toNat (0, (0, 0))).1 = (3 : Int))) (
         ∃ r3 : Bool, SC P 85 [.one (.int .i64 (((l0.getD i3.toNat (0, (0, 0))).2).1)), .one (.int .i64 0), .one (.int .i64 (IntKind.wrap .i64 (i3 - 1)))] [] [.one (.bool r3)] [] ∧
          Br (!r3) (
           Ret r lh [.one (.bool false)] []) (
           ∃ r4 : Bool, SC P 85 [.one (.int .i64 (((l0.getD i3.toNat (0, (0, 0))).2).2)), .one (.int .i64 0), .one (.int .i64 (IntKind.wrap .i64 (i3 - 1)))] [] [.one (.bool r4)] [] ∧
            Br (!r4) (
             Ret r lh [.one (.bool false)] []) (
             FL E H44 Try.f44 0 r lh 0 (S44_L0 l0 (IntKind.wrap .i64 (i3 + 1)))))) (
         Ret r lh [.one (.bool false)] [])))))) (
    ∃ r5 : Bool, SC P 85 [.one (.int .i64 ((l0.length : Nat) : Int)), .one (.int .i64 1), .one (.int .i64 16)] [] [.one (.bool r5)] [] ∧
     Ret r lh [.one (.bool r5)] [])) := by kernel_rfl
theorem l44 (l : List Step) (hl : l.length ≤ 1048576) : ∀ (n i : Nat), i + n = l.length → FL E H44 Try.f44 0 [.one (.bool (allR (fun i => stepOk (hAt l i) (i : Int)) i n && inB (l.length : Int) 1 16))] [] 0 (S44_L0 l (i : Int))
  | 0, i, h => by
    refine FL_of1 ?_
    rw [eq44_L0]
    exact Br_f (by omega) ⟨_, c85 _ _ _, by rw [allR, Bool.true_and], rfl⟩
  | n + 1, i, h => by
    have no : stepOk (hAt l i) (i : Int) = false → [W.one (.bool false)] = [W.one (.bool (allR (fun i => stepOk (hAt l i) (i : Int)) i (n + 1) && inB (l.length : Int) 1 16))] := fun e => by rw [allR_f e, Bool.false_and]
    refine FL_of1 ?_
    rw [eq44_L0, wS (by omega), wrap64 (n := (i : Int) - 1) (by omega) (by omega)]
    simp only [Int.toNat_natCast]
    have ih := l44 l hl n (i + 1) (by omega)
    refine Br_t (by omega) (Ck_d (by omega) (Ck_d (by omega) ?_))
    refine Br_d (fun c => ⟨_, c85 _ _ _, Br_nb (fun e => ⟨no ?_, rfl⟩) (fun e => Br_nd (fun e2 => ⟨no ?_, rfl⟩) (fun e2 => ?_))⟩) (fun c => ?_)
    · rw [stepOk, show decide ((hAt l i).1 = 1) = true from decide_eq_true c, cond_true]; exact (by rw [show inB (hAt l i).2.1 0 7 = false from e]; rfl)
    · rw [stepOk, show decide ((hAt l i).1 = 1) = true from decide_eq_true c, cond_true, show inB (hAt l i).2.1 0 7 = true from e, Bool.true_and]; exact decide_eq_false e2
    · rw [allR_t (by rw [stepOk, show decide ((hAt l i).1 = 1) = true from decide_eq_true c, cond_true, show inB (hAt l i).2.1 0 7 = true from e, Bool.true_and]; exact decide_eq_true e2)]
      exact ih
    refine Br_d (fun c2 => ⟨_, c85 _ _ _, Br_nb (fun e => ⟨no ?_, rfl⟩) (fun e => ⟨_, c97 _, Br_nb (fun e2 => ⟨no ?_, rfl⟩) (fun e2 => ?_)⟩)⟩) (fun c2 => ?_)
    · rw [stepOk, show decide ((hAt l i).1 = 1) = false from decide_eq_false c, cond_false, show decide ((hAt l i).1 = 2) = true from decide_eq_true c2, cond_true, show inB (hAt l i).2.1 0 ((i : Int) - 1) = false from e]; rfl
    · rw [stepOk, show decide ((hAt l i).1 = 1) = false from decide_eq_false c, cond_false, show decide ((hAt l i).1 = 2) = true from decide_eq_true c2, cond_true, show inB (hAt l i).2.1 0 ((i : Int) - 1) = true from e, Bool.true_and]; exact e2
    · rw [allR_t (by rw [stepOk, show decide ((hAt l i).1 = 1) = false from decide_eq_false c, cond_false, show decide ((hAt l i).1 = 2) = true from decide_eq_true c2, cond_true, show inB (hAt l i).2.1 0 ((i : Int) - 1) = true from e, Bool.true_and]; exact e2)]
      exact ih
    refine Br_d (fun c3 => ⟨_, c85 _ _ _, Br_nb (fun e => ⟨no ?_, rfl⟩) (fun e => ⟨_, c85 _ _ _, Br_nb (fun e2 => ⟨no ?_, rfl⟩) (fun e2 => ?_)⟩)⟩) (fun c3 => ⟨no ?_, rfl⟩)
    · rw [stepOk, show decide ((hAt l i).1 = 1) = false from decide_eq_false c, cond_false, show decide ((hAt l i).1 = 2) = false from decide_eq_false c2, cond_false, show decide ((hAt l i).1 = 3) = true from decide_eq_true c3, cond_true, show inB (hAt l i).2.1 0 ((i : Int) - 1) = false from e]; rfl
    · rw [stepOk, show decide ((hAt l i).1 = 1) = false from decide_eq_false c, cond_false, show decide ((hAt l i).1 = 2) = false from decide_eq_false c2, cond_false, show decide ((hAt l i).1 = 3) = true from decide_eq_true c3, cond_true, show inB (hAt l i).2.1 0 ((i : Int) - 1) = true from e, Bool.true_and]; exact e2
    · rw [allR_t (by rw [stepOk, show decide ((hAt l i).1 = 1) = false from decide_eq_false c, cond_false, show decide ((hAt l i).1 = 2) = false from decide_eq_false c2, cond_false, show decide ((hAt l i).1 = 3) = true from decide_eq_true c3, cond_true, show inB (hAt l i).2.1 0 ((i : Int) - 1) = true from e, Bool.true_and]; exact e2)]
      exact ih
    · rw [stepOk, show decide ((hAt l i).1 = 1) = false from decide_eq_false c, cond_false, show decide ((hAt l i).1 = 2) = false from decide_eq_false c2, cond_false, show decide ((hAt l i).1 = 3) = false from decide_eq_false c3, cond_false]
theorem c44 (l : List Step) (hl : l.length ≤ 1048576) : SC P 44 [.one (.ro (.pair (.int .i64) (.pair (.int .i64) (.int .i64))) l)] [] [.one (.bool (progOk l))] [] := by
  refine SC_of_FB (H := H44) E_ok Try.func44 (by kernel_rfl) ?_
  rw [eq44]
  exact l44 l hl l.length 0 (by omega)
def progMany (l : List Step) (op : Int) : Nat := l.countP (fun s => decide (s.1 = op))
def progManyF (l : List Step) (op : Int) : Int := bif progOk l then (progMany l op : Int) else -1
/-! loop.example/keelson/spec.ProgMany -/
def H56 : Hint := ⟨[[(0, 0, .bool), (1, 0, .bool), (5, 0, .bool), (6, 0, .bool)]], [], [], [], []⟩
def S56_L0 (l0 : List (Int × (Int × Int))) (op1 : Int) (n5 : Int) (i6 : Int) : St := ⟨[(0, .w (.one (.ro (.pair (.int .i64) (.pair (.int .i64) (.int .i64))) l0))), (1, .w (.one (.int .i64 op1))), (5, .w (.one (.int .i64 n5))), (6, .w (.one (.int .i64 i6)))], []⟩
theorem eq56 (l : List (Int × (Int × Int))) (op : Int) (r : List W) (lh : Heap) : FB E H56 Try.f56 [.one (.ro (.pair (.int .i64) (.pair (.int .i64) (.int .i64))) l), .one (.int .i64 op)] [] r lh =
  (
   ∃ r0 : Bool, SC P 44 [.one (.ro (.pair (.int .i64) (.pair (.int .i64) (.int .i64))) l)] [] [.one (.bool r0)] [] ∧
    Br (!r0) (
     Ret r lh [.one (.int .i64 (-1))] []) (
     FL E H56 Try.f56 0 r lh 0 (S56_L0 l op 0 0))) := by kernel_rfl
theorem eq56_L0 (l0 : List (Int × (Int × Int))) (op1 : Int) (n5 : Int) (i6 : Int) (r : List W) (lh : Heap) : FL1 E H56 Try.f56 0 r lh 0 (S56_L0 l0 op1 n5 i6) =
  (
   Br (decide (i6 < ((l0.length : Nat) : Int))) (
    Ck (decide ((0 : Int) ≤ i6)) (
     Ck (decide (i6 < ((l0.length : Nat) : Int))) (
      Br (decide ((l0.getD i6.toNat (0, (0, 0))).1 = op1)) (
       FL E H56 Try.f56 0 r lh 0 (S56_L0 l0 op1 (IntKind.wrap .i64 (n5 + 1)) (IntKind.wrap .i64 (i6 + 1)))) (
       FL E H56 Try.f56 0 r lh 0 (S56_L0 l0 op1 n5 (IntKind.wrap .i64 (i6 + 1))))))) (
    Ret r lh [.one (.int .i64 n5)] [])) := by kernel_rfl
theorem l56 (l : List Step) (op : Int) (hl : l.length ≤ 1048576) : ∀ (n i m : Nat), i + n = l.length → m ≤ i → FL E H56 Try.f56 0 [.one (.int .i64 ((m + countR (fun j => decide ((l.getD j (0, 0, 0)).1 = op)) i n : Nat) : Int))] [] 0 (S56_L0 l op (m : Int) (i : Int))
  | 0, i, m, h, hm => by
    refine FL_of1 ?_
    rw [eq56_L0]
    exact Br_f (by omega) ⟨rfl, rfl⟩
  | n + 1, i, m, h, hm => by
    refine FL_of1 ?_
    rw [eq56_L0, wS (i := i) (by omega), wS (i := m) (by omega), countR]
    simp only [Int.toNat_natCast]
    refine Br_t (by omega) (Ck_d (by omega) (Ck_d (by omega) (Br_d (fun c => ?_) (fun c => ?_))))
    · rw [decide_eq_true c]
      have := l56 l op hl n (i + 1) (m + 1) (by omega) (by omega)
      rw [Nat.add_assoc] at this
      exact this
    · rw [decide_eq_false c]
      have := l56 l op hl n (i + 1) m (by omega) (by omega)
      rw [show ∀ q : Nat, (bif false then 1 else 0) + q = q from fun q => Nat.zero_add q]
      exact this
theorem c56 (l : List Step) (op : Int) (hl : l.length ≤ 1048576) : SC P 56 [.one (.ro (.pair (.int .i64) (.pair (.int .i64) (.int .i64))) l), .one (.int .i64 op)] [] [.one (.int .i64 (progManyF l op))] [] := by
  refine SC_of_FB (H := H56) E_ok Try.func56 (by kernel_rfl) ?_
  rw [eq56]
  refine ⟨_, c44 l hl, Br_nb (fun e => ⟨by rw [progManyF, e]; rfl, rfl⟩) (fun e => ?_)⟩
  have := l56 l op hl l.length 0 0 (by omega) (by omega)
  rw [countR_countP (l := l) (z := (0, 0, 0)) (fun s => decide (s.1 = op)), Nat.zero_add] at this
  rw [progManyF, e]
  exact this
/-! loop.example/keelson/impl.ProgMany -/
def H57 : Hint := ⟨[[(1, 0, .bool), (5, 0, .bool), (11, 0, .bool), (12, 0, .bool), (13, 0, .bool)]], [], [], [], []⟩
def S57_L0 (op1 : Int) (many5 : Int) (x11 : List (Int × (Int × Int))) (x12 : Int) (x13 : Int) : St := ⟨[(1, .w (.one (.int .i64 op1))), (5, .w (.one (.int .i64 many5))), (11, .w (.one (.ro (.pair (.int .i64) (.pair (.int .i64) (.int .i64))) x11))), (12, .w (.one (.int .i64 x12))), (13, .w (.one (.int .i64 x13)))], []⟩
theorem eq57 (l : List (Int × (Int × Int))) (op : Int) (r : List W) (lh : Heap) : FB E H57 Try.f57 [.one (.ro (.pair (.int .i64) (.pair (.int .i64) (.int .i64))) l), .one (.int .i64 op)] [] r lh =
  (
   ∃ r0 : Bool, SC P 46 [.one (.ro (.pair (.int .i64) (.pair (.int .i64) (.int .i64))) l)] [] [.one (.bool r0)] [] ∧
    Br (!r0) (
     Ret r lh [.one (.int .i64 (-1))] []) (
     FL E H57 Try.f57 0 r lh 0 (S57_L0 op 0 l ((l.length : Nat) : Int) 0))) := by kernel_rfl
theorem eq57_L0 (op1 : Int) (many5 : Int) (x11 : List (Int × (Int × Int))) (x12 : Int) (x13 : Int) (r : List W) (lh : Heap) : FL1 E H57 Try.f57 0 r lh 0 (S57_L0 op1 many5 x11 x12 x13) =
  (
   Br (decide (x13 < x12)) (
    Ck (decide ((0 : Int) ≤ x13)) (
     Ck (decide (x13 < ((x11.length : Nat) : Int))) (
      Br (decide ((x11.getD x13.toNat (0, (0, 0))).1 = op1)) (
       FL E H57 Try.f57 0 r lh 0 (S57_L0 op1 (IntKind.wrap .i64 (many5 + 1)) x11 x12 (IntKind.wrap .i64 (x13 + 1)))) (
       FL E H57 Try.f57 0 r lh 0 (S57_L0 op1 many5 x11 x12 (IntKind.wrap .i64 (x13 + 1))))))) (
    Ret r lh [.one (.int .i64 many5)] [])) := by kernel_rfl
theorem l57 (l : List Step) (op : Int) (hl : l.length ≤ 1048576) : ∀ (n i m : Nat), i + n = l.length → m ≤ i → FL E H57 Try.f57 0 [.one (.int .i64 ((m + countR (fun j => decide ((l.getD j (0, 0, 0)).1 = op)) i n : Nat) : Int))] [] 0 (S57_L0 op (m : Int) l (l.length : Int) (i : Int))
  | 0, i, m, h, hm => by
    refine FL_of1 ?_
    rw [eq57_L0]
    exact Br_f (by omega) ⟨rfl, rfl⟩
  | n + 1, i, m, h, hm => by
    refine FL_of1 ?_
    rw [eq57_L0, wS (i := i) (by omega), wS (i := m) (by omega), countR]
    simp only [Int.toNat_natCast]
    refine Br_t (by omega) (Ck_d (by omega) (Ck_d (by omega) (Br_d (fun c => ?_) (fun c => ?_))))
    · rw [decide_eq_true c]
      have := l57 l op hl n (i + 1) (m + 1) (by omega) (by omega)
      rw [Nat.add_assoc] at this
      exact this
    · rw [decide_eq_false c]
      have := l57 l op hl n (i + 1) m (by omega) (by omega)
      rw [show ∀ q : Nat, (bif false then 1 else 0) + q = q from fun q => Nat.zero_add q]
      exact this
theorem c57 (l : List Step) (op : Int) (hl : l.length ≤ 1048576) : SC P 57 [.one (.ro (.pair (.int .i64) (.pair (.int .i64) (.int .i64))) l), .one (.int .i64 op)] [] [.one (.int .i64 (progManyF l op))] [] := by
  refine SC_of_FB (H := H57) E_ok Try.func57 (by kernel_rfl) ?_
  rw [eq57]
  refine ⟨_, c46 l hl, Br_nb (fun e => ⟨by rw [progManyF, e]; rfl, rfl⟩) (fun e => ?_)⟩
  have := l57 l op hl l.length 0 0 (by omega) (by omega)
  rw [countR_countP (l := l) (z := (0, 0, 0)) (fun s => decide (s.1 = op)), Nat.zero_add] at this
  rw [progManyF, e]
  exact this
/-! loop.example/keelson/laws.FnExactProgOk -/
def H9 : Hint := ⟨[], [], [], [], []⟩
theorem eq9 (aL : List (Int × (Int × Int))) (r : List W) (lh : Heap) : FB E H9 Try.f9 [.one (.ro (.pair (.int .i64) (.pair (.int .i64) (.int .i64))) aL)] [] r lh =
  (
   ∃ r0 : Int, SC P 43 [.one (.ro (.pair (.int .i64) (.pair (.int .i64) (.int .i64))) aL), .one (.int .i64 1048576)] [] [.one (.int .i64 r0)] [] ∧
    Br (decide (r0 < (0 : Int))) (
     Ret r lh [.one (.bool true)] []) (
     ∃ r1 : List (Int × (Int × Int)), SC P 45 [.one (.ro (.pair (.int .i64) (.pair (.int .i64) (.int .i64))) aL)] [] [.one (.sl 0 none)] [.row (.pair (.int .i64) (.pair (.int .i64) (.int .i64))) r1 .own] ∧
      ∃ r2 : Bool, SC P 44 [.one (.ro (.pair (.int .i64) (.pair (.int .i64) (.int .i64))) r1)] [] [.one (.bool r2)] [] ∧
       ∃ r3 : List (Int × (Int × Int)), SC P 45 [.one (.ro (.pair (.int .i64) (.pair (.int .i64) (.int .i64))) aL)] [] [.one (.sl 0 none)] [.row (.pair (.int .i64) (.pair (.int .i64) (.int .i64))) r3 .own] ∧
        ∃ r4 : Bool, SC P 46 [.one (.ro (.pair (.int .i64) (.pair (.int .i64) (.int .i64))) r3)] [] [.one (.bool r4)] [] ∧
         Br (r4 != r2) (
          Ret r lh [.one (.bool false)] []) (
          ∃ r5 : List (Int × (Int × Int)), SC P 45 [.one (.ro (.pair (.int .i64) (.pair (.int .i64) (.int .i64))) aL)] [] [.one (.sl 0 none)] [.row (.pair (.int .i64) (.pair (.int .i64) (.int .i64))) r5 .own] ∧
           ∃ r6 : Bool, SC P 47 [.one (.ro (.pair (.int .i64) (.pair (.int .i64) (.int .i64))) r3), .one (.ro (.pair (.int .i64) (.pair (.int .i64) (.int .i64))) r5)] [] [.one (.bool r6)] [] ∧
            Br (!r6) (
             Ret r lh [.one (.bool false)] []) (
             Ret r lh [.one (.bool true)] [])))) := by kernel_rfl
theorem c9 (l : List Step) (hl : l.length ≤ 9223372036854775807) : SC P 9 [.one (.ro (.pair (.int .i64) (.pair (.int .i64) (.int .i64))) l)] [] [.one (.bool true)] [] := by
  refine SC_of_FB (H := H9) E_ok Try.func9 (by kernel_rfl) ?_
  rw [eq9]
  refine ⟨_, c43 l hl, ?_⟩
  by_cases h : l.length ≤ 1048576
  · rw [decide_eq_true h, cond_true]
    exact Br_f (by omega) ⟨_, c45 l h, _, c44 l h, _, c45 l h, _, c46 l h, Br_b (fun e => by simp at e) (fun _ => ⟨_, c45 l h, _, c47 l l h, Br_nb (fun e => by simp at e) (fun _ => ⟨rfl, rfl⟩)⟩)⟩
  · rw [decide_eq_false h, cond_false]
    exact Br_t (by omega) ⟨rfl, rfl⟩
/-! loop.example/keelson/laws.FnExactProgMany -/
def H12 : Hint := ⟨[], [], [], [], []⟩
theorem eq12 (aL : List (Int × (Int × Int))) (aOp : Int) (r : List W) (lh : Heap) : FB E H12 Try.f12 [.one (.ro (.pair (.int .i64) (.pair (.int .i64) (.int .i64))) aL), .one (.int .i64 aOp)] [] r lh =
  (
   ∃ r0 : Int, SC P 43 [.one (.ro (.pair (.int .i64) (.pair (.int .i64) (.int .i64))) aL), .one (.int .i64 1048576)] [] [.one (.int .i64 r0)] [] ∧
    Br (decide (r0 < (0 : Int))) (
     Ret r lh [.one (.bool true)] []) (
     ∃ r1 : List (Int × (Int × Int)), SC P 45 [.one (.ro (.pair (.int .i64) (.pair (.int .i64) (.int .i64))) aL)] [] [.one (.sl 0 none)] [.row (.pair (.int .i64) (.pair (.int .i64) (.int .i64))) r1 .own] ∧
      ∃ r2 : Int, SC P 56 [.one (.ro (.pair (.int .i64) (.pair (.int .i64) (.int .i64))) r1), .one (.int .i64 aOp)] [] [.one (.int .i64 r2)] [] ∧
       ∃ r3 : List (Int × (Int × Int)), SC P 45 [.one (.ro (.pair (.int .i64) (.pair (.int .i64) (.int .i64))) aL)] [] [.one (.sl 0 none)] [.row (.pair (.int .i64) (.pair (.int .i64) (.int .i64))) r3 .own] ∧
        ∃ r4 : Int, SC P 57 [.one (.ro (.pair (.int .i64) (.pair (.int .i64) (.int .i64))) r3), .one (.int .i64 aOp)] [] [.one (.int .i64 r4)] [] ∧
         Br (!(decide (r4 = r2))) (
          Ret r lh [.one (.bool false)] []) (
          ∃ r5 : List (Int × (Int × Int)), SC P 45 [.one (.ro (.pair (.int .i64) (.pair (.int .i64) (.int .i64))) aL)] [] [.one (.sl 0 none)] [.row (.pair (.int .i64) (.pair (.int .i64) (.int .i64))) r5 .own] ∧
           ∃ r6 : Bool, SC P 47 [.one (.ro (.pair (.int .i64) (.pair (.int .i64) (.int .i64))) r3), .one (.ro (.pair (.int .i64) (.pair (.int .i64) (.int .i64))) r5)] [] [.one (.bool r6)] [] ∧
            Br (!r6) (
             Ret r lh [.one (.bool false)] []) (
             Ret r lh [.one (.bool true)] [])))) := by kernel_rfl
theorem c12 (l : List Step) (op : Int) (hl : l.length ≤ 9223372036854775807) : SC P 12 [.one (.ro (.pair (.int .i64) (.pair (.int .i64) (.int .i64))) l), .one (.int .i64 op)] [] [.one (.bool true)] [] := by
  refine SC_of_FB (H := H12) E_ok Try.func12 (by kernel_rfl) ?_
  rw [eq12]
  refine ⟨_, c43 l hl, ?_⟩
  by_cases h : l.length ≤ 1048576
  · rw [decide_eq_true h, cond_true]
    exact Br_f (by omega) ⟨_, c45 l h, _, c56 l op h, _, c45 l h, _, c57 l op h, Br_nd (fun e => absurd rfl e) (fun _ => ⟨_, c45 l h, _, c47 l l h, Br_nb (fun e => by simp at e) (fun _ => ⟨rfl, rfl⟩)⟩)⟩
  · rw [decide_eq_false h, cond_false]
    exact Br_t (by omega) ⟨rfl, rfl⟩
end Go.Proofs.Ytiagcjjobfoflaa.Sh
