/- Stripes: the exact laws. -/
import Derived.Test.YtjoiadaogppmkaaShT2
namespace Go.Proofs.Ytjoiadaogppmkaa.Sh
open Go
set_option linter.unusedVariables false
set_option linter.unusedSimpArgs false
/-! loop.example/keelson/laws.toBoolS -/
def H14 : Hint := ⟨[[(0, 0, .bool), (3, 0, .bool), (4, 0, .bool)]], [], [], [], [], [], []⟩
def S14_L0 (a0 : List Bool) (i4 : Int) (h0 : List Bool) : St := ⟨[(0, .w (.one (.ro .bool a0))), (3, .w (.one (.sl 0 none))), (4, .w (.one (.int .i64 i4)))], [.row .bool h0 .own]⟩
theorem eq14 (a : List Bool) (r : List W) (lh : Heap) : FB E H14 Try.f14 [.one (.ro .bool a)] [] r lh =
  (
   Ck (decide ((0 : Int) ≤ ((a.length : Nat) : Int))) (
    Ck (decide (((a.length : Nat) : Int) ≤ ((a.length : Nat) : Int))) (
     Ck (decide (((a.length : Nat) : Int) * (1 : Nat) ≤ (roomy : Int))) (
      FL E H14 Try.f14 0 r lh 0 (S14_L0 a 0 (List.replicate (((a.length : Nat) : Int).toNat) (false : Bool))))))) := by kernel_rfl
theorem eq14_L0 (a0 : List Bool) (i4 : Int) (h0 : List Bool) (r : List W) (lh : Heap) : FL1 E H14 Try.f14 0 r lh 0 (S14_L0 a0 i4 h0) =
  (
   Br (decide (i4 < ((a0.length : Nat) : Int))) (
    Ck (decide ((0 : Int) ≤ i4)) (
     Ck (decide (i4 < ((a0.length : Nat) : Int))) (
      Ck (decide ((0 : Int) ≤ i4)) (
       Ck (decide (i4 < ((h0.length : Nat) : Int))) (
        Ck (Nat.ble (i4.toNat + 1) h0.length) (
         FL E H14 Try.f14 0 r lh 0 (S14_L0 a0 (IntKind.wrap .i64 (i4 + 1)) (h0.set i4.toNat (a0.getD i4.toNat false))))))))) (
    Ret r lh [.one (.sl 0 none)] [.row .bool h0 .own])) := by kernel_rfl
theorem l14 (l : List Bool) (hl : l.length ≤ 1048576) : ∀ (n i : Nat) (out : List Bool), i + n = l.length → out.length = l.length → (∀ j, j < i → out[j]? = l[j]?) → FL E H14 Try.f14 0 [.one (.sl 0 none)] [.row (.bool) l .own] 0 (S14_L0 l (i : Int) out)
  | 0, i, out, h, ho, H => by
    refine FL_of1 ?_
    rw [eq14_L0]
    obtain rfl : out = l := fill_done ho fun j hj => H j (by omega)
    exact Br_f (by omega) ⟨rfl, rfl⟩
  | n + 1, i, out, h, ho, H => by
    refine FL_of1 ?_
    rw [eq14_L0, wS (by omega)]
    simp only [Int.toNat_natCast]
    refine Br_t (by omega) (Ck_d (by omega) (Ck_d (by omega) (Ck_d (by omega) (Ck_d (by omega) (Ck_le (by omega) ?_)))))
    refine l14 l hl n (i + 1) _ (by omega) (by simp [ho]) (fill_step ho ?_ H)
    rw [getD_eq (show i < l.length by omega)]
    exact List.getElem?_eq_getElem _
theorem c14 (l : List Bool) (hl : l.length ≤ 1048576) : SC P 14 [.one (.ro (.bool) l)] [] [.one (.sl 0 none)] [.row (.bool) l .own] := by
  refine SC_of_FB (H := H14) E_ok Try.func14 (by kernel_rfl) ?_
  rw [eq14]
  refine Ck_d (by omega) (Ck_d (by omega) (Ck_roomI (by omega) ?_))
  exact l14 l hl l.length 0 _ (by omega) (by simp) (fun j hj => absurd hj (by omega))
def leftF (left : Int) (n : Nat) : Int := bif decide ((n : Int) ≤ left) then left - n else -1
theorem Br_neT {b : Bool} {A B : Prop} (h : B) : Br (b != b) A B := by cases b <;> exact h
/-! loop.example/keelson/laws.szIntS -/
def H68 : Hint := ⟨[], [], [], [], [], [], []⟩
theorem eq68 (a : List Int) (left : Int) (r : List W) (lh : Heap) : FB E H68 Try.f68 [.one (.ro (.int .i64) a), .one (.int .i64 left)] [] r lh =
  (
   Br (decide ((IntKind.wrap .i64 (left - ((a.length : Nat) : Int))) < (0 : Int))) (
    Ret r lh [.one (.int .i64 (-1))] []) (
    Ret r lh [.one (.int .i64 (IntKind.wrap .i64 (left - ((a.length : Nat) : Int))))] [])) := by kernel_rfl
theorem c68 (l : List Int) (left : Int) (h0 : 0 ≤ left) (h1 : left ≤ 1048576) (hl : l.length ≤ 9223372036854775807) : SC P 68 [.one (.ro (.int .i64) l), .one (.int .i64 left)] [] [.one (.int .i64 (leftF left l.length))] [] := by
  refine SC_of_FB (H := H68) E_ok Try.func68 (by kernel_rfl) ?_
  rw [eq68]
  rw [wrap64 (n := left - (l.length : Int)) (by omega) (by omega)]
  by_cases e : (l.length : Int) ≤ left
  · exact Br_f (by omega) ⟨by rw [leftF, decide_eq_true e]; rfl, rfl⟩
  · exact Br_t (by omega) ⟨by rw [leftF, decide_eq_false e]; rfl, rfl⟩
/-! loop.example/keelson/laws.szBoolS -/
def H69 : Hint := ⟨[], [], [], [], [], [], []⟩
theorem eq69 (a : List Bool) (left : Int) (r : List W) (lh : Heap) : FB E H69 Try.f69 [.one (.ro .bool a), .one (.int .i64 left)] [] r lh =
  (
   Br (decide ((IntKind.wrap .i64 (left - ((a.length : Nat) : Int))) < (0 : Int))) (
    Ret r lh [.one (.int .i64 (-1))] []) (
    Ret r lh [.one (.int .i64 (IntKind.wrap .i64 (left - ((a.length : Nat) : Int))))] [])) := by kernel_rfl
theorem c69 (l : List Bool) (left : Int) (h0 : 0 ≤ left) (h1 : left ≤ 1048576) (hl : l.length ≤ 9223372036854775807) : SC P 69 [.one (.ro (.bool) l), .one (.int .i64 left)] [] [.one (.int .i64 (leftF left l.length))] [] := by
  refine SC_of_FB (H := H69) E_ok Try.func69 (by kernel_rfl) ?_
  rw [eq69]
  rw [wrap64 (n := left - (l.length : Int)) (by omega) (by omega)]
  by_cases e : (l.length : Int) ≤ left
  · exact Br_f (by omega) ⟨by rw [leftF, decide_eq_true e]; rfl, rfl⟩
  · exact Br_t (by omega) ⟨by rw [leftF, decide_eq_false e]; rfl, rfl⟩
/-! loop.example/keelson/laws.szStripe -/
def H29 : Hint := ⟨[], [], [], [], [], [], []⟩
theorem eq29 (a : (Int × (List Int × (List Int × List Bool)))) (left : Int) (r : List W) (lh : Heap) : FB E H29 Try.f29 [.agg [.int .i64 a.1, .ro (.int .i64) a.2.1, .ro (.int .i64) a.2.2.1, .ro .bool a.2.2.2], .one (.int .i64 left)] [] r lh =
  (
   ∃ r0 : Int, SC P 68 [.one (.ro (.int .i64) a.2.1), .one (.int .i64 left)] [] [.one (.int .i64 r0)] [] ∧
    Br (decide (r0 < (0 : Int))) (
     Ret r lh [.one (.int .i64 (-1))] []) (
     ∃ r1 : Int, SC P 68 [.one (.ro (.int .i64) a.2.2.1), .one (.int .i64 r0)] [] [.one (.int .i64 r1)] [] ∧
      Br (decide (r1 < (0 : Int))) (
       Ret r lh [.one (.int .i64 (-1))] []) (
       ∃ r2 : Int, SC P 69 [.one (.ro .bool a.2.2.2), .one (.int .i64 r1)] [] [.one (.int .i64 r2)] [] ∧
        Br (decide (r2 < (0 : Int))) (
         Ret r lh [.one (.int .i64 (-1))] []) (
         Ret r lh [.one (.int .i64 r2)] [])))) := by kernel_rfl
theorem c29 (s : StrT) (h1 : s.2.1.length ≤ 9223372036854775807) (h2 : s.2.2.1.length ≤ 9223372036854775807) (h3 : s.2.2.2.length ≤ 9223372036854775807) : ∃ n : Int, (0 ≤ n → s.2.1.length ≤ 1048576 ∧ s.2.2.1.length ≤ 1048576 ∧ s.2.2.2.length ≤ 1048576) ∧ SC P 29 [.agg [.int .i64 s.1, .ro (.int .i64) s.2.1, .ro (.int .i64) s.2.2.1, .ro .bool s.2.2.2], .one (.int .i64 1048576)] [] [.one (.int .i64 n)] [] := by
  have s1 := c68 s.2.1 1048576 (by omega) (by omega) h1
  by_cases e1 : (s.2.1.length : Int) ≤ 1048576
  · rw [leftF, decide_eq_true e1, cond_true] at s1
    have s2 := c68 s.2.2.1 (1048576 - (s.2.1.length : Int)) (by omega) (by omega) h2
    by_cases e2 : (s.2.2.1.length : Int) ≤ 1048576 - (s.2.1.length : Int)
    · rw [leftF, decide_eq_true e2, cond_true] at s2
      have s3 := c69 s.2.2.2 (1048576 - (s.2.1.length : Int) - (s.2.2.1.length : Int)) (by omega) (by omega) h3
      by_cases e3 : (s.2.2.2.length : Int) ≤ 1048576 - (s.2.1.length : Int) - (s.2.2.1.length : Int)
      · rw [leftF, decide_eq_true e3, cond_true] at s3
        refine ⟨1048576 - (s.2.1.length : Int) - (s.2.2.1.length : Int) - (s.2.2.2.length : Int), fun _ => ⟨by omega, by omega, by omega⟩, ?_⟩
        refine SC_of_FB (H := H29) E_ok Try.func29 (by kernel_rfl) ?_
        rw [eq29]
        exact ⟨_, s1, Br_f (by omega) ⟨_, s2, Br_f (by omega) ⟨_, s3, Br_f (by omega) ⟨rfl, rfl⟩⟩⟩⟩
      · rw [leftF, decide_eq_false e3, cond_false] at s3
        refine ⟨-1, fun h => absurd h (by omega), ?_⟩
        refine SC_of_FB (H := H29) E_ok Try.func29 (by kernel_rfl) ?_
        rw [eq29]
        exact ⟨_, s1, Br_f (by omega) ⟨_, s2, Br_f (by omega) ⟨_, s3, Br_t (by omega) ⟨rfl, rfl⟩⟩⟩⟩
    · rw [leftF, decide_eq_false e2, cond_false] at s2
      refine ⟨-1, fun h => absurd h (by omega), ?_⟩
      refine SC_of_FB (H := H29) E_ok Try.func29 (by kernel_rfl) ?_
      rw [eq29]
      exact ⟨_, s1, Br_f (by omega) ⟨_, s2, Br_t (by omega) ⟨rfl, rfl⟩⟩⟩
  · rw [leftF, decide_eq_false e1, cond_false] at s1
    refine ⟨-1, fun h => absurd h (by omega), ?_⟩
    refine SC_of_FB (H := H29) E_ok Try.func29 (by kernel_rfl) ?_
    rw [eq29]
    exact ⟨_, s1, Br_t (by omega) ⟨rfl, rfl⟩⟩
/-! loop.example/keelson/laws.toStripe -/
def H31 : Hint := ⟨[], [], [], [], [], [], []⟩
theorem eq31 (a : (Int × (List Int × (List Int × List Bool)))) (r : List W) (lh : Heap) : FB E H31 Try.f31 [.agg [.int .i64 a.1, .ro (.int .i64) a.2.1, .ro (.int .i64) a.2.2.1, .ro .bool a.2.2.2]] [] r lh =
  (
   ∃ r0 : List Int, SC P 73 [.one (.ro (.int .i64) a.2.1)] [] [.one (.sl 0 none)] [.row (.int .i64) r0 .own] ∧
    ∃ r1 : List Int, SC P 73 [.one (.ro (.int .i64) a.2.2.1)] [] [.one (.sl 0 none)] [.row (.int .i64) r1 .own] ∧
     ∃ r2 : List Bool, SC P 14 [.one (.ro .bool a.2.2.2)] [] [.one (.sl 0 none)] [.row .bool r2 .own] ∧
      Ret r lh [.agg [.int .i64 a.1, .sl 0 none, .sl 1 none, .sl 2 none]] [.row (.int .i64) r0 .own, .row (.int .i64) r1 .own, .row .bool r2 .own]) := by kernel_rfl
theorem c31 (s : StrT) (h1 : s.2.1.length ≤ 1048576) (h2 : s.2.2.1.length ≤ 1048576) (h3 : s.2.2.2.length ≤ 1048576) : SC P 31 [.agg [.int .i64 s.1, .ro (.int .i64) s.2.1, .ro (.int .i64) s.2.2.1, .ro .bool s.2.2.2]] [] [.agg [.int .i64 s.1, .sl 0 none, .sl 1 none, .sl 2 none]] [.row (.int .i64) s.2.1 .own, .row (.int .i64) s.2.2.1 .own, .row .bool s.2.2.2 .own] := by
  refine SC_of_FB (H := H31) E_ok Try.func31 (by kernel_rfl) ?_
  rw [eq31]
  exact ⟨_, c73 _ h1, _, c73 _ h2, _, c14 _ h3, rfl, rfl⟩
/-! loop.example/keelson/laws.FnExactStripeOk -/
def H6 : Hint := ⟨[], [], [(10, [0, 1, 2, 3, 4])], [], [], [], []⟩
theorem eq6 (aS : (Int × (List Int × (List Int × List Bool)))) (r : List W) (lh : Heap) : FB E H6 Try.f6 [.agg [.int .i64 aS.1, .ro (.int .i64) aS.2.1, .ro (.int .i64) aS.2.2.1, .ro .bool aS.2.2.2]] [] r lh =
  (
   ∃ r0 : Int, SC P 29 [.agg [.int .i64 aS.1, .ro (.int .i64) aS.2.1, .ro (.int .i64) aS.2.2.1, .ro .bool aS.2.2.2], .one (.int .i64 1048576)] [] [.one (.int .i64 r0)] [] ∧
    Br (decide (r0 < (0 : Int))) (
     Ret r lh [.one (.bool true)] []) (
     ∃ r1 : Int × List Int × List Int × List Bool, SC P 31 [.agg [.int .i64 aS.1, .ro (.int .i64) aS.2.1, .ro (.int .i64) aS.2.2.1, .ro .bool aS.2.2.2]] [] [.agg [.int .i64 r1.1, .sl 0 none, .sl 1 none, .sl 2 none]] [.row (.int .i64) r1.2.1 .own, .row (.int .i64) r1.2.2.1 .own, .row .bool r1.2.2.2 .own] ∧
      ∃ r2 : Bool, SC P 30 [.agg [.int .i64 r1.1, .ro (.int .i64) r1.2.1, .ro (.int .i64) r1.2.2.1, .ro .bool r1.2.2.2]] [] [.one (.bool r2)] [] ∧
       ∃ r3 : Int × List Int × List Int × List Bool, SC P 31 [.agg [.int .i64 aS.1, .ro (.int .i64) aS.2.1, .ro (.int .i64) aS.2.2.1, .ro .bool aS.2.2.2]] [] [.agg [.int .i64 r3.1, .sl 0 none, .sl 1 none, .sl 2 none]] [.row (.int .i64) r3.2.1 .own, .row (.int .i64) r3.2.2.1 .own, .row .bool r3.2.2.2 .own] ∧
        ∃ r4 : Bool, SC P 25 [.agg [.int .i64 r3.1, .ro (.int .i64) r3.2.1, .ro (.int .i64) r3.2.2.1, .ro .bool r3.2.2.2]] [] [.one (.bool r4)] [] ∧
         Br (r4 != r2) (
          Ret r lh [.one (.bool false)] []) (
          ∃ r5 : Int × List Int × List Int × List Bool, SC P 31 [.agg [.int .i64 aS.1, .ro (.int .i64) aS.2.1, .ro (.int .i64) aS.2.2.1, .ro .bool aS.2.2.2]] [] [.agg [.int .i64 r5.1, .sl 0 none, .sl 1 none, .sl 2 none]] [.row (.int .i64) r5.2.1 .own, .row (.int .i64) r5.2.2.1 .own, .row .bool r5.2.2.2 .own] ∧
           ∃ r6 : Bool, SC P 32 [.agg [.int .i64 r3.1, .ro (.int .i64) r3.2.1, .ro (.int .i64) r3.2.2.1, .ro .bool r3.2.2.2], .agg [.int .i64 r5.1, .ro (.int .i64) r5.2.1, .ro (.int .i64) r5.2.2.1, .ro .bool r5.2.2.2]] [] [.one (.bool r6)] [] ∧
            Br (!r6) (
             Ret r lh [.one (.bool false)] []) (
             Ret r lh [.one (.bool true)] [])))) := by kernel_rfl
theorem c6 (s : StrT) (h1 : s.2.1.length ≤ 9223372036854775807) (h2 : s.2.2.1.length ≤ 9223372036854775807) (h3 : s.2.2.2.length ≤ 9223372036854775807) : SC P 6 [.agg [.int .i64 s.1, .ro (.int .i64) s.2.1, .ro (.int .i64) s.2.2.1, .ro .bool s.2.2.2]] [] [.one (.bool true)] [] := by
  obtain ⟨n, hn, s0⟩ := c29 s h1 h2 h3
  refine SC_of_FB (H := H6) E_ok Try.func6 (by kernel_rfl) ?_
  rw [eq6]
  refine ⟨n, s0, Br_d (fun _ => ⟨rfl, rfl⟩) (fun h => ?_)⟩
  obtain ⟨g1, g2, g3⟩ := hn (by omega)
  have st := c31 s g1 g2 g3
  have sE := c32 s s g1 g2 g3
  rw [decide_eq_true rfl] at sE
  exact ⟨s, st, _, c30 s g1, s, st, _, c25 s, Br_neT (⟨s, st, true, sE, Br_nb (fun e => by cases e) (fun _ => ⟨rfl, rfl⟩)⟩)⟩
/-! loop.example/keelson/laws.FnExactStripeTop -/
def H7 : Hint := ⟨[], [], [(10, [0, 1, 2, 3, 4])], [], [], [], []⟩
theorem eq7 (aS : (Int × (List Int × (List Int × List Bool)))) (r : List W) (lh : Heap) : FB E H7 Try.f7 [.agg [.int .i64 aS.1, .ro (.int .i64) aS.2.1, .ro (.int .i64) aS.2.2.1, .ro .bool aS.2.2.2]] [] r lh =
  (
   ∃ r0 : Int, SC P 29 [.agg [.int .i64 aS.1, .ro (.int .i64) aS.2.1, .ro (.int .i64) aS.2.2.1, .ro .bool aS.2.2.2], .one (.int .i64 1048576)] [] [.one (.int .i64 r0)] [] ∧
    Br (decide (r0 < (0 : Int))) (
     Ret r lh [.one (.bool true)] []) (
     ∃ r1 : Int × List Int × List Int × List Bool, SC P 31 [.agg [.int .i64 aS.1, .ro (.int .i64) aS.2.1, .ro (.int .i64) aS.2.2.1, .ro .bool aS.2.2.2]] [] [.agg [.int .i64 r1.1, .sl 0 none, .sl 1 none, .sl 2 none]] [.row (.int .i64) r1.2.1 .own, .row (.int .i64) r1.2.2.1 .own, .row .bool r1.2.2.2 .own] ∧
      ∃ r2 : Int, SC P 33 [.agg [.int .i64 r1.1, .ro (.int .i64) r1.2.1, .ro (.int .i64) r1.2.2.1, .ro .bool r1.2.2.2]] [] [.one (.int .i64 r2)] [] ∧
       ∃ r3 : Int × List Int × List Int × List Bool, SC P 31 [.agg [.int .i64 aS.1, .ro (.int .i64) aS.2.1, .ro (.int .i64) aS.2.2.1, .ro .bool aS.2.2.2]] [] [.agg [.int .i64 r3.1, .sl 0 none, .sl 1 none, .sl 2 none]] [.row (.int .i64) r3.2.1 .own, .row (.int .i64) r3.2.2.1 .own, .row .bool r3.2.2.2 .own] ∧
        ∃ r4 : Int, SC P 28 [.agg [.int .i64 r3.1, .ro (.int .i64) r3.2.1, .ro (.int .i64) r3.2.2.1, .ro .bool r3.2.2.2]] [] [.one (.int .i64 r4)] [] ∧
         Br (!(decide (r4 = r2))) (
          Ret r lh [.one (.bool false)] []) (
          ∃ r5 : Int × List Int × List Int × List Bool, SC P 31 [.agg [.int .i64 aS.1, .ro (.int .i64) aS.2.1, .ro (.int .i64) aS.2.2.1, .ro .bool aS.2.2.2]] [] [.agg [.int .i64 r5.1, .sl 0 none, .sl 1 none, .sl 2 none]] [.row (.int .i64) r5.2.1 .own, .row (.int .i64) r5.2.2.1 .own, .row .bool r5.2.2.2 .own] ∧
           ∃ r6 : Bool, SC P 32 [.agg [.int .i64 r3.1, .ro (.int .i64) r3.2.1, .ro (.int .i64) r3.2.2.1, .ro .bool r3.2.2.2], .agg [.int .i64 r5.1, .ro (.int .i64) r5.2.1, .ro (.int .i64) r5.2.2.1, .ro .bool r5.2.2.2]] [] [.one (.bool r6)] [] ∧
            Br (!r6) (
             Ret r lh [.one (.bool false)] []) (
             Ret r lh [.one (.bool true)] [])))) := by kernel_rfl
theorem c7 (s : StrT) (h1 : s.2.1.length ≤ 9223372036854775807) (h2 : s.2.2.1.length ≤ 9223372036854775807) (h3 : s.2.2.2.length ≤ 9223372036854775807) : SC P 7 [.agg [.int .i64 s.1, .ro (.int .i64) s.2.1, .ro (.int .i64) s.2.2.1, .ro .bool s.2.2.2]] [] [.one (.bool true)] [] := by
  obtain ⟨n, hn, s0⟩ := c29 s h1 h2 h3
  refine SC_of_FB (H := H7) E_ok Try.func7 (by kernel_rfl) ?_
  rw [eq7]
  refine ⟨n, s0, Br_d (fun _ => ⟨rfl, rfl⟩) (fun h => ?_)⟩
  obtain ⟨g1, g2, g3⟩ := hn (by omega)
  have st := c31 s g1 g2 g3
  have sE := c32 s s g1 g2 g3
  rw [decide_eq_true rfl] at sE
  exact ⟨s, st, _, c33 s g1, s, st, _, c28 s, Br_nd (fun e => absurd rfl e) (fun _ => ⟨s, st, true, sE, Br_nb (fun e => by cases e) (fun _ => ⟨rfl, rfl⟩)⟩)⟩


end Go.Proofs.Ytjoiadaogppmkaa.Sh
