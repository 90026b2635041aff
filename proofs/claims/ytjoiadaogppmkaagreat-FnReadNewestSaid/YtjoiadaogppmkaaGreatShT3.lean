/- Stripes: the exact laws. -/
import Derived.Test.YtjoiadaogppmkaaGreatShT2
namespace Go.Proofs.YtjoiadaogppmkaaGreat.Sh
open Go
set_option linter.unusedVariables false
set_option linter.unusedSimpArgs false
/-! loop.example/keelson/laws.toBoolS -/
def H26 : Hint := ⟨[[(0, 0, .bool), (3, 0, .bool), (4, 0, .bool)]], [], [], [], [], [], []⟩
def S26_L0 (a0 : List Bool) (i4 : Int) (h0 : List Bool) : St := ⟨[(0, .w (.one (.ro .bool a0))), (3, .w (.one (.sl 0 none))), (4, .w (.one (.int .i64 i4)))], [.row .bool h0 .own]⟩
theorem eq26 (a : List Bool) (r : List W) (lh : Heap) : FB E H26 Tryz.f26 [.one (.ro .bool a)] [] r lh =
  (
   Ck (decide ((0 : Int) ≤ ((a.length : Nat) : Int))) (
    Ck (decide (((a.length : Nat) : Int) ≤ ((a.length : Nat) : Int))) (
     Ck (decide (((a.length : Nat) : Int) * (1 : Nat) ≤ (roomy : Int))) (
      FL E H26 Tryz.f26 0 r lh 0 (S26_L0 a 0 (List.replicate (((a.length : Nat) : Int).toNat) (false : Bool))))))) := by kernel_rfl
theorem eq26_L0 (a0 : List Bool) (i4 : Int) (h0 : List Bool) (r : List W) (lh : Heap) : FL1 E H26 Tryz.f26 0 r lh 0 (S26_L0 a0 i4 h0) =
  (
   Br (decide (i4 < ((a0.length : Nat) : Int))) (
    Ck (decide ((0 : Int) ≤ i4)) (
     Ck (decide (i4 < ((a0.length : Nat) : Int))) (
      Ck (decide ((0 : Int) ≤ i4)) (
       Ck (decide (i4 < ((h0.length : Nat) : Int))) (
        Ck (Nat.ble (i4.toNat + 1) h0.length) (
         FL E H26 Tryz.f26 0 r lh 0 (S26_L0 a0 (IntKind.wrap .i64 (i4 + 1)) (h0.set i4.toNat (a0.getD i4.toNat false))))))))) (
    Ret r lh [.one (.sl 0 none)] [.row .bool h0 .own])) := by kernel_rfl
theorem l26 (l : List Bool) (hl : l.length ≤ 1048576) : ∀ (n i : Nat) (out : List Bool), i + n = l.length → out.length = l.length → (∀ j, j < i → out[j]? = l[j]?) → FL E H26 Tryz.f26 0 [.one (.sl 0 none)] [.row (.bool) l .own] 0 (S26_L0 l (i : Int) out)
  | 0, i, out, h, ho, H => by
    refine FL_of1 ?_
    rw [eq26_L0]
    obtain rfl : out = l := fill_done ho fun j hj => H j (by omega)
    exact Br_f (by omega) ⟨rfl, rfl⟩
  | n + 1, i, out, h, ho, H => by
    refine FL_of1 ?_
    rw [eq26_L0, wS (by omega)]
    simp only [Int.toNat_natCast]
    refine Br_t (by omega) (Ck_d (by omega) (Ck_d (by omega) (Ck_d (by omega) (Ck_d (by omega) (Ck_le (by omega) ?_)))))
    refine l26 l hl n (i + 1) _ (by omega) (by simp [ho]) (fill_step ho ?_ H)
    rw [getD_eq (show i < l.length by omega)]
    exact List.getElem?_eq_getElem _
theorem c26 (l : List Bool) (hl : l.length ≤ 1048576) : SC P 26 [.one (.ro (.bool) l)] [] [.one (.sl 0 none)] [.row (.bool) l .own] := by
  refine SC_of_FB (H := H26) E_ok Tryz.func26 (by kernel_rfl) ?_
  rw [eq26]
  refine Ck_d (by omega) (Ck_d (by omega) (Ck_roomI (by omega) ?_))
  exact l26 l hl l.length 0 _ (by omega) (by simp) (fun j hj => absurd hj (by omega))
def leftF (left : Int) (n : Nat) : Int := bif decide ((n : Int) ≤ left) then left - n else -1
theorem Br_neT {b : Bool} {A B : Prop} (h : B) : Br (b != b) A B := by cases b <;> exact h
/-! loop.example/keelson/laws.szIntS -/
def H22 : Hint := ⟨[], [], [], [], [], [], []⟩
theorem eq22 (a : List Int) (left : Int) (r : List W) (lh : Heap) : FB E H22 Tryz.f22 [.one (.ro (.int .i64) a), .one (.int .i64 left)] [] r lh =
  (
   Br (decide ((IntKind.wrap .i64 (left - ((a.length : Nat) : Int))) < (0 : Int))) (
    Ret r lh [.one (.int .i64 (-1))] []) (
    Ret r lh [.one (.int .i64 (IntKind.wrap .i64 (left - ((a.length : Nat) : Int))))] [])) := by kernel_rfl
theorem c22 (l : List Int) (left : Int) (h0 : 0 ≤ left) (h1 : left ≤ 1048576) (hl : l.length ≤ 9223372036854775807) : SC P 22 [.one (.ro (.int .i64) l), .one (.int .i64 left)] [] [.one (.int .i64 (leftF left l.length))] [] := by
  refine SC_of_FB (H := H22) E_ok Tryz.func22 (by kernel_rfl) ?_
  rw [eq22]
  rw [wrap64 (n := left - (l.length : Int)) (by omega) (by omega)]
  by_cases e : (l.length : Int) ≤ left
  · exact Br_f (by omega) ⟨by rw [leftF, decide_eq_true e]; rfl, rfl⟩
  · exact Br_t (by omega) ⟨by rw [leftF, decide_eq_false e]; rfl, rfl⟩
/-! loop.example/keelson/laws.szBoolS -/
def H23 : Hint := ⟨[], [], [], [], [], [], []⟩
theorem eq23 (a : List Bool) (left : Int) (r : List W) (lh : Heap) : FB E H23 Tryz.f23 [.one (.ro .bool a), .one (.int .i64 left)] [] r lh =
  (
   Br (decide ((IntKind.wrap .i64 (left - ((a.length : Nat) : Int))) < (0 : Int))) (
    Ret r lh [.one (.int .i64 (-1))] []) (
    Ret r lh [.one (.int .i64 (IntKind.wrap .i64 (left - ((a.length : Nat) : Int))))] [])) := by kernel_rfl
theorem c23 (l : List Bool) (left : Int) (h0 : 0 ≤ left) (h1 : left ≤ 1048576) (hl : l.length ≤ 9223372036854775807) : SC P 23 [.one (.ro (.bool) l), .one (.int .i64 left)] [] [.one (.int .i64 (leftF left l.length))] [] := by
  refine SC_of_FB (H := H23) E_ok Tryz.func23 (by kernel_rfl) ?_
  rw [eq23]
  rw [wrap64 (n := left - (l.length : Int)) (by omega) (by omega)]
  by_cases e : (l.length : Int) ≤ left
  · exact Br_f (by omega) ⟨by rw [leftF, decide_eq_true e]; rfl, rfl⟩
  · exact Br_t (by omega) ⟨by rw [leftF, decide_eq_false e]; rfl, rfl⟩
/-! loop.example/keelson/laws.szStripe -/
def H6 : Hint := ⟨[], [], [], [], [], [], []⟩
theorem eq6 (a : (Int × (List Int × (List Int × List Bool)))) (left : Int) (r : List W) (lh : Heap) : FB E H6 Tryz.f6 [.agg [.int .i64 a.1, .ro (.int .i64) a.2.1, .ro (.int .i64) a.2.2.1, .ro .bool a.2.2.2], .one (.int .i64 left)] [] r lh =
  (
   ∃ r0 : Int, SC P 22 [.one (.ro (.int .i64) a.2.1), .one (.int .i64 left)] [] [.one (.int .i64 r0)] [] ∧
    Br (decide (r0 < (0 : Int))) (
     Ret r lh [.one (.int .i64 (-1))] []) (
     ∃ r1 : Int, SC P 22 [.one (.ro (.int .i64) a.2.2.1), .one (.int .i64 r0)] [] [.one (.int .i64 r1)] [] ∧
      Br (decide (r1 < (0 : Int))) (
       Ret r lh [.one (.int .i64 (-1))] []) (
       ∃ r2 : Int, SC P 23 [.one (.ro .bool a.2.2.2), .one (.int .i64 r1)] [] [.one (.int .i64 r2)] [] ∧
        Br (decide (r2 < (0 : Int))) (
         Ret r lh [.one (.int .i64 (-1))] []) (
         Ret r lh [.one (.int .i64 r2)] [])))) := by kernel_rfl
theorem c6 (s : StrT) (h1 : s.2.1.length ≤ 9223372036854775807) (h2 : s.2.2.1.length ≤ 9223372036854775807) (h3 : s.2.2.2.length ≤ 9223372036854775807) : ∃ n : Int, (0 ≤ n → s.2.1.length ≤ 1048576 ∧ s.2.2.1.length ≤ 1048576 ∧ s.2.2.2.length ≤ 1048576) ∧ SC P 6 [.agg [.int .i64 s.1, .ro (.int .i64) s.2.1, .ro (.int .i64) s.2.2.1, .ro .bool s.2.2.2], .one (.int .i64 1048576)] [] [.one (.int .i64 n)] [] := by
  have s1 := c22 s.2.1 1048576 (by omega) (by omega) h1
  by_cases e1 : (s.2.1.length : Int) ≤ 1048576
  · rw [leftF, decide_eq_true e1, cond_true] at s1
    have s2 := c22 s.2.2.1 (1048576 - (s.2.1.length : Int)) (by omega) (by omega) h2
    by_cases e2 : (s.2.2.1.length : Int) ≤ 1048576 - (s.2.1.length : Int)
    · rw [leftF, decide_eq_true e2, cond_true] at s2
      have s3 := c23 s.2.2.2 (1048576 - (s.2.1.length : Int) - (s.2.2.1.length : Int)) (by omega) (by omega) h3
      by_cases e3 : (s.2.2.2.length : Int) ≤ 1048576 - (s.2.1.length : Int) - (s.2.2.1.length : Int)
      · rw [leftF, decide_eq_true e3, cond_true] at s3
        refine ⟨1048576 - (s.2.1.length : Int) - (s.2.2.1.length : Int) - (s.2.2.2.length : Int), fun _ => ⟨by omega, by omega, by omega⟩, ?_⟩
        refine SC_of_FB (H := H6) E_ok Tryz.func6 (by kernel_rfl) ?_
        rw [eq6]
        exact ⟨_, s1, Br_f (by omega) ⟨_, s2, Br_f (by omega) ⟨_, s3, Br_f (by omega) ⟨rfl, rfl⟩⟩⟩⟩
      · rw [leftF, decide_eq_false e3, cond_false] at s3
        refine ⟨-1, fun h => absurd h (by omega), ?_⟩
        refine SC_of_FB (H := H6) E_ok Tryz.func6 (by kernel_rfl) ?_
        rw [eq6]
        exact ⟨_, s1, Br_f (by omega) ⟨_, s2, Br_f (by omega) ⟨_, s3, Br_t (by omega) ⟨rfl, rfl⟩⟩⟩⟩
    · rw [leftF, decide_eq_false e2, cond_false] at s2
      refine ⟨-1, fun h => absurd h (by omega), ?_⟩
      refine SC_of_FB (H := H6) E_ok Tryz.func6 (by kernel_rfl) ?_
      rw [eq6]
      exact ⟨_, s1, Br_f (by omega) ⟨_, s2, Br_t (by omega) ⟨rfl, rfl⟩⟩⟩
  · rw [leftF, decide_eq_false e1, cond_false] at s1
    refine ⟨-1, fun h => absurd h (by omega), ?_⟩
    refine SC_of_FB (H := H6) E_ok Tryz.func6 (by kernel_rfl) ?_
    rw [eq6]
    exact ⟨_, s1, Br_t (by omega) ⟨rfl, rfl⟩⟩
/-! loop.example/keelson/laws.toStripe -/
def H8 : Hint := ⟨[], [], [], [], [], [], []⟩
theorem eq8 (a : (Int × (List Int × (List Int × List Bool)))) (r : List W) (lh : Heap) : FB E H8 Tryz.f8 [.agg [.int .i64 a.1, .ro (.int .i64) a.2.1, .ro (.int .i64) a.2.2.1, .ro .bool a.2.2.2]] [] r lh =
  (
   ∃ r0 : List Int, SC P 25 [.one (.ro (.int .i64) a.2.1)] [] [.one (.sl 0 none)] [.row (.int .i64) r0 .own] ∧
    ∃ r1 : List Int, SC P 25 [.one (.ro (.int .i64) a.2.2.1)] [] [.one (.sl 0 none)] [.row (.int .i64) r1 .own] ∧
     ∃ r2 : List Bool, SC P 26 [.one (.ro .bool a.2.2.2)] [] [.one (.sl 0 none)] [.row .bool r2 .own] ∧
      Ret r lh [.agg [.int .i64 a.1, .sl 0 none, .sl 1 none, .sl 2 none]] [.row (.int .i64) r0 .own, .row (.int .i64) r1 .own, .row .bool r2 .own]) := by kernel_rfl
theorem c8 (s : StrT) (h1 : s.2.1.length ≤ 1048576) (h2 : s.2.2.1.length ≤ 1048576) (h3 : s.2.2.2.length ≤ 1048576) : SC P 8 [.agg [.int .i64 s.1, .ro (.int .i64) s.2.1, .ro (.int .i64) s.2.2.1, .ro .bool s.2.2.2]] [] [.agg [.int .i64 s.1, .sl 0 none, .sl 1 none, .sl 2 none]] [.row (.int .i64) s.2.1 .own, .row (.int .i64) s.2.2.1 .own, .row .bool s.2.2.2 .own] := by
  refine SC_of_FB (H := H8) E_ok Tryz.func8 (by kernel_rfl) ?_
  rw [eq8]
  exact ⟨_, c25 _ h1, _, c25 _ h2, _, c26 _ h3, rfl, rfl⟩


/-! loop.example/keelson/laws.markStripe -/
def H12w : Hint := ⟨[], [], [], [], [], [], []⟩
theorem eq12w (s : Int) (a : List Int) (b : List Int) (c : List Bool) (k : Int) (r : List W) (lh : Heap) : FB E H12w Tryz.f12 [.agg [.int .i64 s, .sl 0 none, .sl 1 none, .sl 2 none], .one (.int .i64 k)] [.row (.int .i64) a .own, .row (.int .i64) b .own, .row .bool c .own] r lh =
  (
   ∃ r0 : List Int × Int, SC P 13 [.one (.sl 0 none), .one (.int .i64 k)] [.row (.int .i64) a .own] [.one (.int .i64 r0.2)] [.row (.int .i64) r0.1 .own] ∧
    ∃ r1 : List Int × Int, SC P 13 [.one (.sl 0 none), .one (.int .i64 r0.2)] [.row (.int .i64) b .own] [.one (.int .i64 r1.2)] [.row (.int .i64) r1.1 .own] ∧
     ∃ r2 : List Bool × Int, SC P 30 [.one (.sl 0 none), .one (.int .i64 r1.2)] [.row .bool c .own] [.one (.int .i64 r2.2)] [.row .bool r2.1 .own] ∧
      Ret r lh [.one (.int .i64 r2.2)] [.row (.int .i64) r0.1 .own, .row (.int .i64) r1.1 .own, .row .bool r2.1 .own]) := by kernel_rfl
theorem c12w (s : Int) (a b : List Int) (c : List Bool) (k : Int) (h1 : a.length ≤ 1048576) (h2 : b.length ≤ 1048576) (h3 : c.length ≤ 1048576) (k0 : 0 ≤ k) (k1 : k ≤ 1000) : SC P 12 [.agg [.int .i64 s, .sl 0 none, .sl 1 none, .sl 2 none], .one (.int .i64 k)] [.row (.int .i64) a .own, .row (.int .i64) b .own, .row .bool c .own]
    [.one (.int .i64 (k + a.length + b.length + c.length))] [.row (.int .i64) (marks (fun k : Int => k) k a.length) .own, .row (.int .i64) (marks (fun k : Int => k) (k + a.length) b.length) .own, .row .bool (marks (fun k : Int => decide (Int.tmod k 3 = 0)) (k + a.length + b.length) c.length) .own] := by
  refine SC_of_FB (H := H12w) E_ok Tryz.func12 (by kernel_rfl) ?_
  rw [eq12w]
  exact ⟨(_, _), c13 a k (by omega) k0 (by omega), (_, _), c13 b (k + a.length) (by omega) (by omega) (by omega), (_, _), c30 c (k + a.length + b.length) (by omega) (by omega) (by omega), rfl, rfl⟩
/-! loop.example/keelson/laws.FnExactStripeRead -/
def H3 : Hint := ⟨[], [], [(10, [0, 1, 2, 3, 4])], [], [], [], []⟩
theorem eq3 (aS : (Int × (List Int × (List Int × List Bool)))) (r : List W) (lh : Heap) : FB E H3 Tryz.f3 [.agg [.int .i64 aS.1, .ro (.int .i64) aS.2.1, .ro (.int .i64) aS.2.2.1, .ro .bool aS.2.2.2]] [] r lh =
  (
   ∃ r0 : Int, SC P 6 [.agg [.int .i64 aS.1, .ro (.int .i64) aS.2.1, .ro (.int .i64) aS.2.2.1, .ro .bool aS.2.2.2], .one (.int .i64 1048576)] [] [.one (.int .i64 r0)] [] ∧
    Br (decide (r0 < (0 : Int))) (
     Ret r lh [.one (.bool true)] []) (
     ∃ r1 : Int × List Int × List Int × List Bool, SC P 8 [.agg [.int .i64 aS.1, .ro (.int .i64) aS.2.1, .ro (.int .i64) aS.2.2.1, .ro .bool aS.2.2.2]] [] [.agg [.int .i64 r1.1, .sl 0 none, .sl 1 none, .sl 2 none]] [.row (.int .i64) r1.2.1 .own, .row (.int .i64) r1.2.2.1 .own, .row .bool r1.2.2.2 .own] ∧
      ∃ r2 : List Int × Int × Bool, SC P 7 [.agg [.int .i64 r1.1, .ro (.int .i64) r1.2.1, .ro (.int .i64) r1.2.2.1, .ro .bool r1.2.2.2]] [] [.one (.sl 0 none), .one (.int .i64 r2.2.1), .one (.bool r2.2.2)] [.row (.int .i64) r2.1 .own] ∧
       ∃ r3 : Int × List Int × List Int × List Bool, SC P 8 [.agg [.int .i64 aS.1, .ro (.int .i64) aS.2.1, .ro (.int .i64) aS.2.2.1, .ro .bool aS.2.2.2]] [] [.agg [.int .i64 r3.1, .sl 0 none, .sl 1 none, .sl 2 none]] [.row (.int .i64) r3.2.1 .own, .row (.int .i64) r3.2.2.1 .own, .row .bool r3.2.2.2 .own] ∧
        ∃ r4 : List Int × Int × Bool, SC P 9 [.agg [.int .i64 r3.1, .ro (.int .i64) r3.2.1, .ro (.int .i64) r3.2.2.1, .ro .bool r3.2.2.2]] [] [.one (.sl 0 none), .one (.int .i64 r4.2.1), .one (.bool r4.2.2)] [.row (.int .i64) r4.1 .own] ∧
         ∃ r5 : Bool, SC P 10 [.one (.ro (.int .i64) r4.1), .one (.ro (.int .i64) r2.1)] [] [.one (.bool r5)] [] ∧
          Br (!r5) (
           Ret r lh [.one (.bool false)] []) (
           Br (!(decide (r4.2.1 = r2.2.1))) (
            Ret r lh [.one (.bool false)] []) (
            Br (r4.2.2 != r2.2.2) (
             Ret r lh [.one (.bool false)] []) (
             ∃ r6 : Int × List Int × List Int × List Bool, SC P 8 [.agg [.int .i64 aS.1, .ro (.int .i64) aS.2.1, .ro (.int .i64) aS.2.2.1, .ro .bool aS.2.2.2]] [] [.agg [.int .i64 r6.1, .sl 0 none, .sl 1 none, .sl 2 none]] [.row (.int .i64) r6.2.1 .own, .row (.int .i64) r6.2.2.1 .own, .row .bool r6.2.2.2 .own] ∧
              ∃ r7 : Bool, SC P 11 [.agg [.int .i64 r3.1, .ro (.int .i64) r3.2.1, .ro (.int .i64) r3.2.2.1, .ro .bool r3.2.2.2], .agg [.int .i64 r6.1, .ro (.int .i64) r6.2.1, .ro (.int .i64) r6.2.2.1, .ro .bool r6.2.2.2]] [] [.one (.bool r7)] [] ∧
               Br (!r7) (
                Ret r lh [.one (.bool false)] []) (
                ∃ r8 : List Int × List Int × List Bool × Int, SC P 12 [.agg [.int .i64 r3.1, .sl 0 none, .sl 1 none, .sl 2 none], .one (.int .i64 1)] [.row (.int .i64) r3.2.1 .own, .row (.int .i64) r3.2.2.1 .own, .row .bool r3.2.2.2 .own] [.one (.int .i64 r8.2.2.2)] [.row (.int .i64) r8.1 .own, .row (.int .i64) r8.2.1 .own, .row .bool r8.2.2.1 .own] ∧
                 Br (decide (r8.2.2.2 < (0 : Int))) (
                  Ret r lh [.one (.bool false)] []) (
                  ∃ r9 : Bool, SC P 10 [.one (.ro (.int .i64) r4.1), .one (.ro (.int .i64) r2.1)] [] [.one (.bool r9)] [] ∧
                   Br (!r9) (
                    Ret r lh [.one (.bool false)] []) (
                    Br (!(decide (r4.2.1 = r2.2.1))) (
                     Ret r lh [.one (.bool false)] []) (
                     Br (r4.2.2 != r2.2.2) (
                      Ret r lh [.one (.bool false)] []) (
                      ∃ r10 : List Int × Int, SC P 13 [.one (.sl 0 none), .one (.int .i64 1)] [.row (.int .i64) r4.1 .own] [.one (.int .i64 r10.2)] [.row (.int .i64) r10.1 .own] ∧
                       ∃ r11 : Int, SC P 14 [.one (.ro (.int .i64) r10.1), .one (.int .i64 1)] [] [.one (.int .i64 r11)] [] ∧
                        Br (decide (r11 < (0 : Int))) (
                         Ret r lh [.one (.bool false)] []) (
                         Br (!(decide (r11 = r10.2))) (
                          Ret r lh [.one (.bool false)] []) (
                          ∃ r12 : Int × List Int × List Int × List Bool, SC P 8 [.agg [.int .i64 aS.1, .ro (.int .i64) aS.2.1, .ro (.int .i64) aS.2.2.1, .ro .bool aS.2.2.2]] [] [.agg [.int .i64 r12.1, .sl 0 none, .sl 1 none, .sl 2 none]] [.row (.int .i64) r12.2.1 .own, .row (.int .i64) r12.2.2.1 .own, .row .bool r12.2.2.2 .own] ∧
                           ∃ r13 : List Int × Int × Bool, SC P 9 [.agg [.int .i64 r12.1, .ro (.int .i64) r12.2.1, .ro (.int .i64) r12.2.2.1, .ro .bool r12.2.2.2]] [] [.one (.sl 0 none), .one (.int .i64 r13.2.1), .one (.bool r13.2.2)] [.row (.int .i64) r13.1 .own] ∧
                            ∃ r14 : Bool, SC P 10 [.one (.ro (.int .i64) r13.1), .one (.ro (.int .i64) r2.1)] [] [.one (.bool r14)] [] ∧
                             Br (!r14) (
                              Ret r lh [.one (.bool false)] []) (
                              Br (!(decide (r13.2.1 = r2.2.1))) (
                               Ret r lh [.one (.bool false)] []) (
                               Br (r13.2.2 != r2.2.2) (
                                Ret r lh [.one (.bool false)] []) (
                                ∃ r15 : Int, SC P 14 [.one (.ro (.int .i64) r10.1), .one (.int .i64 1)] [] [.one (.int .i64 r15)] [] ∧
                                 Br (decide (r15 < (0 : Int))) (
                                  Ret r lh [.one (.bool false)] []) (
                                  Br (!(decide (r15 = r10.2))) (
                                   Ret r lh [.one (.bool false)] []) (
                                   Ret r lh [.one (.bool true)] []))))))))))))))))) := by kernel_rfl
theorem c3 (s : StrT) (h1 : s.2.1.length ≤ 9223372036854775807) (h2 : s.2.2.1.length ≤ 9223372036854775807) (h3 : s.2.2.2.length ≤ 9223372036854775807) : SC P 3 [.agg [.int .i64 s.1, .ro (.int .i64) s.2.1, .ro (.int .i64) s.2.2.1, .ro .bool s.2.2.2]] [] [.one (.bool true)] [] := by
  obtain ⟨n, hn, s0⟩ := c6 s h1 h2 h3
  refine SC_of_FB (H := H3) E_ok Tryz.func3 (by kernel_rfl) ?_
  rw [eq3]
  refine ⟨n, s0, Br_d (fun _ => ⟨rfl, rfl⟩) (fun h => ?_)⟩
  obtain ⟨g1, g2, g3⟩ := hn (by omega)
  have st := c8 s g1 g2 g3
  have sE := c11 s s g1 g2 g3
  rw [decide_eq_true rfl] at sE
  have s2 := c7 s g1
  have s4 := c9 s
  have hl := readR_len (s := s)
  generalize readR s = R at s2 s4 hl
  have sI := c10 R.1 R.1 (by omega)
  rw [decide_eq_true rfl] at sI
  have sM := c12w s.1 s.2.1 s.2.2.1 s.2.2.2 1 g1 g2 g3 (by omega) (by omega)
  have sN := c13 R.1 1 (by omega) (by omega) (by omega)
  have sH := c14 1 R.1.length (by omega) (by omega) (by omega)
  exact ⟨s, st, R, s2, s, st, R, s4, true, sI, Br_nb (fun e => by cases e) (fun _ => Br_nd (fun e => absurd rfl e) (fun _ => Br_neT (⟨s, st, true, sE, Br_nb (fun e => by cases e) (fun _ => ⟨(_, _, _, _), sM, Br_f (by dsimp only; omega) ⟨true, sI, Br_nb (fun e => by cases e) (fun _ => Br_nd (fun e => absurd rfl e) (fun _ => Br_neT (⟨(_, _), sN, _, sH, Br_f (by omega) (Br_nd (fun e => absurd rfl e) (fun _ => ⟨s, st, R, s4, true, sI, Br_nb (fun e => by cases e) (fun _ => Br_nd (fun e => absurd rfl e) (fun _ => Br_neT (⟨_, sH, Br_f (by omega) (Br_nd (fun e => absurd rfl e) (fun _ => ⟨rfl, rfl⟩))⟩)))⟩))⟩)))⟩⟩)⟩)))⟩
end Go.Proofs.YtjoiadaogppmkaaGreat.Sh
