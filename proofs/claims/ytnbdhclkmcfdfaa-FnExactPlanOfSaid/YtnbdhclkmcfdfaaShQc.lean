/- The least plan: the exact law. -/
import Derived.Test.YtnbdhclkmcfdfaaShQ9
import Derived.Test.YtnbdhclkmcfdfaaShQ2
namespace Go.Proofs.Ytnbdhclkmcfdfaa.Sh
open Go
set_option linter.unusedVariables false
set_option linter.unusedSimpArgs false
/-! loop.example/keelson/laws.toBoolS -/
def H42 : Hint := ⟨[[(0, 0, .bool), (3, 0, .bool), (4, 0, .bool)]], [], [], [], [], [], []⟩
def S42_L0 (a0 : List Bool) (i4 : Int) (h0 : List Bool) : St := ⟨[(0, .w (.one (.ro .bool a0))), (3, .w (.one (.sl 0 none))), (4, .w (.one (.int .i64 i4)))], [.row .bool h0 .own]⟩
theorem eq42 (a : List Bool) (r : List W) (lh : Heap) : FB E H42 Try.f42 [.one (.ro .bool a)] [] r lh =
  (
   Ck (decide ((0 : Int) ≤ ((a.length : Nat) : Int))) (
    Ck (decide (((a.length : Nat) : Int) ≤ ((a.length : Nat) : Int))) (
     Ck (decide (((a.length : Nat) : Int) * (1 : Nat) ≤ (roomy : Int))) (
      FL E H42 Try.f42 0 r lh 0 (S42_L0 a 0 (List.replicate (((a.length : Nat) : Int).toNat) (false : Bool))))))) := by kernel_rfl
theorem eq42_L0 (a0 : List Bool) (i4 : Int) (h0 : List Bool) (r : List W) (lh : Heap) : FL1 E H42 Try.f42 0 r lh 0 (S42_L0 a0 i4 h0) =
  (
   Br (decide (i4 < ((a0.length : Nat) : Int))) (
    Ck (decide ((0 : Int) ≤ i4)) (
     Ck (decide (i4 < ((a0.length : Nat) : Int))) (
      Ck (decide ((0 : Int) ≤ i4)) (
       Ck (decide (i4 < ((h0.length : Nat) : Int))) (
        Ck (Nat.ble (i4.toNat + 1) h0.length) (
         FL E H42 Try.f42 0 r lh 0 (S42_L0 a0 (IntKind.wrap .i64 (i4 + 1)) (h0.set i4.toNat (a0.getD i4.toNat false))))))))) (
    Ret r lh [.one (.sl 0 none)] [.row .bool h0 .own])) := by kernel_rfl
theorem l42 (l : List Bool) (hl : l.length ≤ 1048576) : ∀ (n i : Nat) (out : List Bool), i + n = l.length → out.length = l.length → (∀ j, j < i → out[j]? = l[j]?) → FL E H42 Try.f42 0 [.one (.sl 0 none)] [.row (.bool) l .own] 0 (S42_L0 l (i : Int) out)
  | 0, i, out, h, ho, H => by
    refine FL_of1 ?_
    rw [eq42_L0]
    obtain rfl : out = l := fill_done ho fun j hj => H j (by omega)
    exact Br_f (by omega) ⟨rfl, rfl⟩
  | n + 1, i, out, h, ho, H => by
    refine FL_of1 ?_
    rw [eq42_L0, wS (by omega)]
    simp only [Int.toNat_natCast]
    refine Br_t (by omega) (Ck_d (by omega) (Ck_d (by omega) (Ck_d (by omega) (Ck_d (by omega) (Ck_le (by omega) ?_)))))
    refine l42 l hl n (i + 1) _ (by omega) (by simp [ho]) (fill_step ho ?_ H)
    rw [getD_eq (show i < l.length by omega)]
    exact List.getElem?_eq_getElem _
theorem c42 (l : List Bool) (hl : l.length ≤ 1048576) : SC P 42 [.one (.ro (.bool) l)] [] [.one (.sl 0 none)] [.row (.bool) l .own] := by
  refine SC_of_FB (H := H42) E_ok Try.func42 (by kernel_rfl) ?_
  rw [eq42]
  refine Ck_d (by omega) (Ck_d (by omega) (Ck_roomI (by omega) ?_))
  exact l42 l hl l.length 0 _ (by omega) (by simp) (fun j hj => absurd hj (by omega))
/-! loop.example/keelson/laws.heldPlan -/
def H48 : Hint := ⟨[], [], [], [], [], [], []⟩
theorem eq48 (a : (Int × (List Int × List Int))) (k : Int) (r : List W) (lh : Heap) : FB E H48 Try.f48 [.agg [.int .i64 a.1, .ro (.int .i64) a.2.1, .ro (.int .i64) a.2.2], .one (.int .i64 k)] [] r lh =
  (
   ∃ r0 : Int, SC P 107 [.one (.ro (.int .i64) a.2.1), .one (.int .i64 k)] [] [.one (.int .i64 r0)] [] ∧
    Br (decide (r0 < (0 : Int))) (
     Ret r lh [.one (.int .i64 (-1))] []) (
     ∃ r1 : Int, SC P 107 [.one (.ro (.int .i64) a.2.2), .one (.int .i64 r0)] [] [.one (.int .i64 r1)] [] ∧
      Br (decide (r1 < (0 : Int))) (
       Ret r lh [.one (.int .i64 (-1))] []) (
       Ret r lh [.one (.int .i64 r1)] []))) := by kernel_rfl
theorem c48 (s k : Int) (m n : Nat) (h1 : m ≤ 1000) (h2 : n ≤ 1000) (k0 : 0 ≤ k) (k1 : k ≤ 1000) : SC P 48 [.agg [.int .i64 s, .ro (.int .i64) (marks (fun k : Int => k) k m), .ro (.int .i64) (marks (fun k : Int => k) (k + m) n)], .one (.int .i64 k)] [] [.one (.int .i64 (k + m + n))] [] := by
  refine SC_of_FB (H := H48) E_ok Try.func48 (by kernel_rfl) ?_
  have e := eq48 (s, marks (fun k : Int => k) k m, marks (fun k : Int => k) (k + m) n) k
  dsimp only at e
  rw [e]
  exact ⟨_, c107 k m (by omega) k0 (by omega), Br_f (by omega) ⟨_, c107 (k + m) n (by omega) (by omega) (by omega), Br_f (by omega) ⟨rfl, rfl⟩⟩⟩
/-! loop.example/keelson/laws.FnExactPlanOf -/
def H9 : Hint := ⟨[], [], [], [], [], [], []⟩
theorem eq9 (aKind : Int) (aLost : Int) (aThere : List Bool) (r : List W) (lh : Heap) : FB E H9 Try.f9 [.one (.int .i64 aKind), .one (.int .i64 aLost), .one (.ro .bool aThere)] [] r lh =
  (
   Br (decide ((1048576 : Int) < ((aThere.length : Nat) : Int))) (
    Ret r lh [.one (.bool true)] []) (
    ∃ r0 : List Bool, SC P 42 [.one (.ro .bool aThere)] [] [.one (.sl 0 none)] [.row .bool r0 .own] ∧
     ∃ r1 : Int × List Int × List Int × Bool, SC P 41 [.one (.int .i64 aKind), .one (.int .i64 aLost), .one (.ro .bool r0)] [] [.agg [.int .i64 r1.1, .sl 0 none, .sl 1 none], .one (.bool r1.2.2.2)] [.row (.int .i64) r1.2.1 .own, .row (.int .i64) r1.2.2.1 .own] ∧
      ∃ r2 : List Bool, SC P 42 [.one (.ro .bool aThere)] [] [.one (.sl 0 none)] [.row .bool r2 .own] ∧
       ∃ r3 : Int × List Int × List Int × Bool, SC P 43 [.one (.int .i64 aKind), .one (.int .i64 aLost), .one (.ro .bool r2)] [] [.agg [.int .i64 r3.1, .sl 0 none, .sl 1 none], .one (.bool r3.2.2.2)] [.row (.int .i64) r3.2.1 .own, .row (.int .i64) r3.2.2.1 .own] ∧
        ∃ r4 : Bool, SC P 44 [.agg [.int .i64 r3.1, .ro (.int .i64) r3.2.1, .ro (.int .i64) r3.2.2.1], .agg [.int .i64 r1.1, .ro (.int .i64) r1.2.1, .ro (.int .i64) r1.2.2.1]] [] [.one (.bool r4)] [] ∧
         Br (!r4) (
          Ret r lh [.one (.bool false)] []) (
          Br (r3.2.2.2 != r1.2.2.2) (
           Ret r lh [.one (.bool false)] []) (
           ∃ r5 : List Bool, SC P 42 [.one (.ro .bool aThere)] [] [.one (.sl 0 none)] [.row .bool r5 .own] ∧
            ∃ r6 : Bool, SC P 45 [.one (.ro .bool r2), .one (.ro .bool r5)] [] [.one (.bool r6)] [] ∧
             Br (!r6) (
              Ret r lh [.one (.bool false)] []) (
              ∃ r7 : List Bool × Int, SC P 46 [.one (.sl 0 none), .one (.int .i64 1)] [.row .bool r2 .own] [.one (.int .i64 r7.2)] [.row .bool r7.1 .own] ∧
               Br (decide (r7.2 < (0 : Int))) (
                Ret r lh [.one (.bool false)] []) (
                ∃ r8 : Bool, SC P 44 [.agg [.int .i64 r3.1, .ro (.int .i64) r3.2.1, .ro (.int .i64) r3.2.2.1], .agg [.int .i64 r1.1, .ro (.int .i64) r1.2.1, .ro (.int .i64) r1.2.2.1]] [] [.one (.bool r8)] [] ∧
                 Br (!r8) (
                  Ret r lh [.one (.bool false)] []) (
                  Br (r3.2.2.2 != r1.2.2.2) (
                   Ret r lh [.one (.bool false)] []) (
                   ∃ r9 : List Int × List Int × Int, SC P 47 [.agg [.int .i64 r3.1, .sl 0 none, .sl 1 none], .one (.int .i64 1)] [.row (.int .i64) r3.2.1 .own, .row (.int .i64) r3.2.2.1 .own] [.one (.int .i64 r9.2.2)] [.row (.int .i64) r9.1 .own, .row (.int .i64) r9.2.1 .own] ∧
                    ∃ r10 : Int, SC P 48 [.agg [.int .i64 r3.1, .ro (.int .i64) r9.1, .ro (.int .i64) r9.2.1], .one (.int .i64 1)] [] [.one (.int .i64 r10)] [] ∧
                     Br (decide (r10 < (0 : Int))) (
                      Ret r lh [.one (.bool false)] []) (
                      Br (!(decide (r10 = r9.2.2))) (
                       Ret r lh [.one (.bool false)] []) (
                       ∃ r11 : List Bool, SC P 42 [.one (.ro .bool aThere)] [] [.one (.sl 0 none)] [.row .bool r11 .own] ∧
                        ∃ r12 : Int × List Int × List Int × Bool, SC P 43 [.one (.int .i64 aKind), .one (.int .i64 aLost), .one (.ro .bool r11)] [] [.agg [.int .i64 r12.1, .sl 0 none, .sl 1 none], .one (.bool r12.2.2.2)] [.row (.int .i64) r12.2.1 .own, .row (.int .i64) r12.2.2.1 .own] ∧
                         ∃ r13 : Bool, SC P 44 [.agg [.int .i64 r12.1, .ro (.int .i64) r12.2.1, .ro (.int .i64) r12.2.2.1], .agg [.int .i64 r1.1, .ro (.int .i64) r1.2.1, .ro (.int .i64) r1.2.2.1]] [] [.one (.bool r13)] [] ∧
                          Br (!r13) (
                           Ret r lh [.one (.bool false)] []) (
                           Br (r12.2.2.2 != r1.2.2.2) (
                            Ret r lh [.one (.bool false)] []) (
                            ∃ r14 : Int, SC P 48 [.agg [.int .i64 r3.1, .ro (.int .i64) r9.1, .ro (.int .i64) r9.2.1], .one (.int .i64 1)] [] [.one (.int .i64 r14)] [] ∧
                             Br (decide (r14 < (0 : Int))) (
                              Ret r lh [.one (.bool false)] []) (
                              Br (!(decide (r14 = r9.2.2))) (
                               Ret r lh [.one (.bool false)] []) (
                               Ret r lh [.one (.bool true)] [])))))))))))))) := by kernel_rfl
theorem c9 (kind lost : Int) (there : List Bool) : SC P 9 [.one (.int .i64 kind), .one (.int .i64 lost), .one (.ro .bool there)] [] [.one (.bool true)] [] := by
  refine SC_of_FB (H := H9) E_ok Try.func9 (by kernel_rfl) ?_
  rw [eq9]
  refine Br_d (fun _ => ⟨rfl, rfl⟩) (fun h => ?_)
  have hl : there.length ≤ 1048576 := by omega
  have t := c42 there hl
  have s1 := c41 kind lost there
  have s2 := c43 kind lost there hl
  obtain ⟨f4, f8⟩ := planOfF_len (kind := kind) (lost := lost) (there := there)
  generalize planOfF kind lost there = R at s1 s2 f4 f8
  have sE := c44 (R.1, R.2.1, R.2.2.1) (by dsimp only; omega) (by dsimp only; omega)
  have sB := c45 there there hl
  rw [decide_eq_true rfl] at sB
  have sM := c46 there 1 hl (by omega) (by omega)
  have sP := c47 R.1 R.2.1 R.2.2.1 1 (by omega) (by omega) (by omega) (by omega)
  have sH := c48 R.1 1 R.2.1.length R.2.2.1.length (by omega) (by omega) (by omega) (by omega)
  exact ⟨_, t, R, s1, _, t, R, s2, true, sE, Br_nb (fun e => by cases e) (fun _ => Br_bne rfl ⟨_, t, true, sB, Br_nb (fun e => by cases e) (fun _ => ⟨(_, _), sM, Br_f (by dsimp only; omega) ⟨true, sE, Br_nb (fun e => by cases e) (fun _ => Br_bne rfl ⟨(_, _, _), sP, _, sH, Br_f (by omega) (Br_nd (fun e => absurd rfl e) (fun _ => ⟨_, t, R, s2, true, sE, Br_nb (fun e => by cases e) (fun _ => Br_bne rfl ⟨_, sH, Br_f (by omega) (Br_nd (fun e => absurd rfl e) (fun _ => ⟨rfl, rfl⟩))⟩)⟩))⟩)⟩⟩)⟩)⟩
end Go.Proofs.Ytnbdhclkmcfdfaa.Sh
