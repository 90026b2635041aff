/- Plans that the program finds: contracts. -/
import Derived.Test.YtjoiadaogppmkaaShQ1
import Derived.Test.YtjoiadaogppmkaaShQ6
namespace Go.Proofs.Ytjoiadaogppmkaa.Sh
open Go
set_option linter.unusedVariables false
set_option linter.unusedSimpArgs false
/-! loop.example/keelson/impl.planOf$1 -/
def H81 : Hint := ⟨[], [], [], [], [], [], []⟩
theorem eq81 (at0 : Int) (lost : Int) (r : List W) (lh : Heap) : FB E H81 Try.f81 [.one (.int .i64 at0), .one (.ptr 0 0 0)] [.row (.int .i64) [lost] .var] r lh =
  (
   Ret r lh [.one (.bool (decide (at0 = lost)))] [.row (.int .i64) [lost] .var]) := by kernel_rfl
theorem c81 (at0 lost : Int) : SC P 81 [.one (.int .i64 at0), .one (.ptr 0 0 0)] [.row (.int .i64) [lost] .var] [.one (.bool (decide (at0 = lost)))] [.row (.int .i64) [lost] .var] := by
  refine SC_of_FB (H := H81) E_ok Try.func81 (by kernel_rfl) ?_
  rw [eq81]
  exact ⟨rfl, rfl⟩
/-! slices.IndexFunc[[]int,int] -/
def H94l : Hint := ⟨[[(0, 0, .bool), (1, 0, .bool), (7, 0, .bool), (8, 0, .bool)]], [], [], [], [], [], []⟩
def S94l_L0 (x7 : Int) (x8 : Int) (h0 : List Int) (h1 : List Int) : St := ⟨[(0, .w (.one (.sl 0 none))), (1, .w (.one (.fn 81 [1]))), (7, .w (.one (.int .i64 x7))), (8, .w (.one (.int .i64 x8)))], [.row (.int .i64) h0 .own, .row (.int .i64) h1 .var]⟩
theorem eq94l (l : List Int) (lost : Int) (r : List W) (lh : Heap) : FB E H94l Try.f94 [.one (.sl 0 none), .one (.fn 81 [1])] [.row (.int .i64) l .own, .row (.int .i64) [lost] .var] r lh =
  (
   FL E H94l Try.f94 2 r lh 0 (S94l_L0 ((l.length : Nat) : Int) 0 l [lost])) := by kernel_rfl
theorem eq94l_L0 (x7 : Int) (x8 : Int) (h0 : List Int) (h1 : List Int) (r : List W) (lh : Heap) : FL1 E H94l Try.f94 2 r lh 0 (S94l_L0 x7 x8 h0 h1) =
  (
   Br (decide (x8 < x7)) (
    Ck (decide ((0 : Int) ≤ x8)) (
     Ck (decide (x8 < ((h0.length : Nat) : Int))) (
      Ck (Nat.ble (x8.toNat + 1) h0.length) (
       ∃ r0 : Bool, SC P 81 [.one (.int .i64 (h0.getD x8.toNat 0)), .one (.ptr 0 0 0)] [.row (.int .i64) h1 .var] [.one (.bool r0)] [.row (.int .i64) h1 .var] ∧
        Br r0 (
         Ret r lh [.one (.int .i64 x8)] [.row (.int .i64) h0 .own, .row (.int .i64) h1 .var]) (
         FL E H94l Try.f94 2 r lh 0 (S94l_L0 x7 (IntKind.wrap .i64 (x8 + 1)) h0 h1)))))) (
    Ret r lh [.one (.int .i64 (-1))] [.row (.int .i64) h0 .own, .row (.int .i64) h1 .var])) := by kernel_rfl
theorem l94l (l : List Int) (lost : Int) (hl : l.length ≤ 1048576) : ∀ (n i : Nat), i + n = l.length → FL E H94l Try.f94 2 [.one (.int .i64 (findR (fun j => (fun x : Int => decide (x = lost)) (l.getD j 0)) (fun j => (j : Int)) (-1) i n))] [.row (.int .i64) l .own, .row (.int .i64) [lost] .var] 0 (S94l_L0 (l.length : Int) (i : Int) l [lost])
  | 0, i, h => by
    refine FL_of1 ?_
    rw [eq94l_L0]
    exact Br_f (by omega) ⟨rfl, rfl⟩
  | n + 1, i, h => by
    refine FL_of1 ?_
    rw [eq94l_L0, wS (by omega), findR]
    simp only [Int.toNat_natCast]
    refine Br_t (by omega) (Ck_d (by omega) (Ck_d (by omega) (Ck_le (by omega) ⟨_, c81 (l.getD i 0) lost, Br_b (fun h1 => ?_) (fun h1 => ?_)⟩)))
    · exact ⟨by rw [cond_t h1], rfl⟩
    · rw [cond_f h1]
      exact l94l l lost hl n (i + 1) (by omega)
theorem c94l (l : List Int) (lost : Int) (hl : l.length ≤ 1048576) : SC P 94 [.one (.sl 0 none), .one (.fn 81 [1])] [.row (.int .i64) l .own, .row (.int .i64) [lost] .var] [.one (.int .i64 (findR (fun j => (fun x : Int => decide (x = lost)) (l.getD j 0)) (fun j => (j : Int)) (-1) 0 l.length))] [.row (.int .i64) l .own, .row (.int .i64) [lost] .var] := by
  refine SC_of_FB (H := H94l) E_ok Try.func94 (by kernel_rfl) ?_
  rw [eq94l]
  exact l94l l lost hl l.length 0 (by omega)
/-! slices.DeleteFunc[[]int,int] -/
def H79 : Hint := ⟨[[(0, 0, .bool), (1, 0, .bool), (5, 0, .bool), (6, 0, .bool)]], [], [], [], [.one (.sub 0)], [], []⟩
def S79_L0 (i5 : Int) (j6 : Int) (h0 : List Int) (h1 : List Int) : St := ⟨[(0, .w (.one (.sl 0 none))), (1, .w (.one (.fn 81 [1]))), (5, .w (.one (.int .i64 i5))), (6, .w (.one (.int .i64 j6)))], [.row (.int .i64) h0 .own, .row (.int .i64) h1 .var]⟩
theorem eq79 (l : List Int) (lost : Int) (r : List W) (lh : Heap) : FB E H79 Try.f79 [.one (.sl 0 none), .one (.fn 81 [1])] [.row (.int .i64) l .own, .row (.int .i64) [lost] .var] r lh =
  (
   ∃ r0 : Int, SC P 94 [.one (.sl 0 none), .one (.fn 81 [1])] [.row (.int .i64) l .own, .row (.int .i64) [lost] .var] [.one (.int .i64 r0)] [.row (.int .i64) l .own, .row (.int .i64) [lost] .var] ∧
    Br (decide (r0 = ((-1) : Int))) (
     Ret r lh [.one (.sl 0 (some (0, l.length)))] [.row (.int .i64) l .own, .row (.int .i64) [lost] .var]) (
     FL E H79 Try.f79 2 r lh 0 (S79_L0 r0 (IntKind.wrap .i64 (r0 + 1)) l [lost]))) := by kernel_rfl
theorem eq79_L0 (i5 : Int) (j6 : Int) (h0 : List Int) (h1 : List Int) (r : List W) (lh : Heap) : FL1 E H79 Try.f79 2 r lh 0 (S79_L0 i5 j6 h0 h1) =
  (
   Br (decide (j6 < ((h0.length : Nat) : Int))) (
    Ck (decide ((0 : Int) ≤ j6)) (
     Ck (decide (j6 < ((h0.length : Nat) : Int))) (
      Ck (Nat.ble (j6.toNat + 1) h0.length) (
       ∃ r0 : Bool, SC P 81 [.one (.int .i64 (h0.getD j6.toNat 0)), .one (.ptr 0 0 0)] [.row (.int .i64) h1 .var] [.one (.bool r0)] [.row (.int .i64) h1 .var] ∧
        Br (!r0) (
         Ck (decide ((0 : Int) ≤ i5)) (
          Ck (decide (i5 < ((h0.length : Nat) : Int))) (
           Ck (Nat.ble (i5.toNat + 1) h0.length) (
            FL E H79 Try.f79 2 r lh 0 (S79_L0 (IntKind.wrap .i64 (i5 + 1)) (IntKind.wrap .i64 (j6 + 1)) (h0.set i5.toNat (h0.getD j6.toNat 0)) h1))))) (
         FL E H79 Try.f79 2 r lh 0 (S79_L0 i5 (IntKind.wrap .i64 (j6 + 1)) h0 h1)))))) (
    Ck (decide ((0 : Int) ≤ i5)) (
     Ck (decide (i5 ≤ ((h0.length : Nat) : Int))) (
      Ck (decide (((h0.length : Nat) : Int) ≤ ((h0.length : Nat) : Int))) (
       Ck (decide (((h0.length : Nat) : Int) ≤ ((h0.length : Nat) : Int))) (
        Ck (decide ((0 : Int) ≤ i5)) (
         Ck (decide (i5 ≤ (((h0.take i5.toNat ++ List.replicate (((h0.length : Nat) : Int).toNat - i5.toNat) 0 ++ h0.drop (i5.toNat + (((h0.length : Nat) : Int).toNat - i5.toNat))).length : Nat) : Int))) (
          Ck (decide ((((h0.take i5.toNat ++ List.replicate (((h0.length : Nat) : Int).toNat - i5.toNat) 0 ++ h0.drop (i5.toNat + (((h0.length : Nat) : Int).toNat - i5.toNat))).length : Nat) : Int) ≤ (((h0.take i5.toNat ++ List.replicate (((h0.length : Nat) : Int).toNat - i5.toNat) 0 ++ h0.drop (i5.toNat + (((h0.length : Nat) : Int).toNat - i5.toNat))).length : Nat) : Int))) (
           Ret r lh [.one (.sl 0 (some (0, i5.toNat)))] [.row (.int .i64) (h0.take i5.toNat ++ List.replicate (((h0.length : Nat) : Int).toNat - i5.toNat) 0 ++ h0.drop (i5.toNat + (((h0.length : Nat) : Int).toNat - i5.toNat))) .own, .row (.int .i64) h1 .var]))))))))) := by kernel_rfl
theorem l79 (l : List Int) (lost : Int) (hl : l.length ≤ 1048576) : ∀ (n i j : Nat) (h : List Int), DInv (fun x : Int => decide (x = lost)) l h i j → j + n = l.length → ∃ h' k, h'.take k = l.filter (fun x => !(fun x : Int => decide (x = lost)) x) ∧ h'.length ≤ 3145728 ∧ k ≤ h'.length ∧
    FL E H79 Try.f79 2 [.one (.sl 0 (some (0, k)))] [.row (.int .i64) h' .own, .row (.int .i64) [lost] .var] 0 (S79_L0 (i : Int) (j : Int) h [lost])
  | 0, i, j, h, H, hj => by
    have h1 := H.len; have h2 := H.lt; have h3 := H.le
    refine ⟨h.take i ++ List.replicate (h.length - i) 0 ++ h.drop (i + (h.length - i)), i, ?_, by simp; omega, by simp; omega, ?_⟩
    · rw [List.append_assoc, List.take_append_of_le_length (by simp; omega), List.take_take, Nat.min_self, H.fin (by omega)]
    refine FL_of1 ?_
    rw [eq79_L0]
    simp only [Int.toNat_natCast]
    exact Br_f (by omega) (Ck_d (by omega) (Ck_d (by omega) (Ck_d (by omega) (Ck_d (by omega) (Ck_d (by omega) (Ck_d (by simp; omega) (Ck_d (by omega) ⟨rfl, rfl⟩)))))))
  | n + 1, i, j, h, H, hj => by
    have h1 := H.len; have h2 := H.lt; have h3 := H.le
    have hg : h.getD j 0 = l[j]'(by omega) := H.get (by omega)
    cases hp : (fun x : Int => decide (x = lost)) (l[j]'(by omega)) with
    | false =>
      obtain ⟨h', k, e1, e2, e3, hF⟩ := l79 l lost hl n (i + 1) (j + 1) _ (H.keep (by omega) hp) (by omega)
      refine ⟨h', k, e1, e2, e3, ?_⟩
      refine FL_of1 ?_
      rw [eq79_L0, wS (i := i) (by omega), wS (i := j) (by omega)]
      simp only [Int.toNat_natCast]
      refine Br_t (by omega) (Ck_d (by omega) (Ck_d (by omega) (Ck_le (by omega) ⟨_, c81 (h.getD j 0) lost, Br_nb (fun _ => ?_) (fun h4 => ?_)⟩)))
      · rw [← hg] at hF
        exact Ck_d (by omega) (Ck_d (by omega) (Ck_le (by omega) hF))
      · rw [hg] at h4
        exact absurd (hp.symm.trans h4) (by simp)
    | true =>
      obtain ⟨h', k, e1, e2, e3, hF⟩ := l79 l lost hl n i (j + 1) _ (H.drop (by omega) hp) (by omega)
      refine ⟨h', k, e1, e2, e3, ?_⟩
      refine FL_of1 ?_
      rw [eq79_L0, wS (i := i) (by omega), wS (i := j) (by omega)]
      simp only [Int.toNat_natCast]
      refine Br_t (by omega) (Ck_d (by omega) (Ck_d (by omega) (Ck_le (by omega) ⟨_, c81 (h.getD j 0) lost, Br_nb (fun h4 => ?_) (fun _ => hF)⟩)))
      rw [hg] at h4
      exact absurd (hp.symm.trans h4) (by simp)
theorem c79 (l : List Int) (lost : Int) (hl : l.length ≤ 1048576) : ∃ h' k, h'.take k = l.filter (fun x => !(fun x : Int => decide (x = lost)) x) ∧ h'.length ≤ 3145728 ∧ k ≤ h'.length ∧
    SC P 79 [.one (.sl 0 none), .one (.fn 81 [1])] [.row (.int .i64) l .own, .row (.int .i64) [lost] .var] [.one (.sl 0 (some (0, k)))] [.row (.int .i64) h' .own, .row (.int .i64) [lost] .var] := by
  rcases findI_spec (p := fun j => (fun x : Int => decide (x = lost)) (l.getD j 0)) (n := l.length) (i := 0) with ⟨h1, h2⟩ | ⟨j, h1, h2, h3, h4, h5⟩
  · refine ⟨l, l.length, ?_, by omega, Nat.le_refl _, ?_⟩
    · rw [List.take_length]
      symm
      rw [List.filter_eq_self]
      intro a ha
      obtain ⟨q, hq, rfl⟩ := List.getElem_of_mem ha
      have := h2 q (Nat.zero_le _) (by omega)
      rw [getD_eq hq] at this
      rw [this]; rfl
    refine SC_of_FB (H := H79) E_ok Try.func79 (by kernel_rfl) ?_
    rw [eq79]
    refine ⟨_, c94l l lost hl, ?_⟩
    rw [h1]
    exact Br_t rfl ⟨rfl, rfl⟩
  · have hj : j < l.length := by omega
    have S0 : DInv (fun x : Int => decide (x = lost)) l l j (j + 1) := DInv.start hj (by rw [getD_eq hj] at h4; exact h4) fun q hq hqj => by
      have := h5 q (Nat.zero_le _) hqj
      rw [getD_eq hq] at this
      exact this
    obtain ⟨h', k, e1, e2, e3, hF⟩ := l79 l lost hl (l.length - (j + 1)) j (j + 1) l S0 (by omega)
    refine ⟨h', k, e1, e2, e3, ?_⟩
    refine SC_of_FB (H := H79) E_ok Try.func79 (by kernel_rfl) ?_
    rw [eq79]
    refine ⟨_, c94l l lost hl, ?_⟩
    rw [h3, wS (by omega)]
    exact Br_f (by omega) hF
/-! loop.example/keelson/impl.planBy -/
def H84 : Hint := ⟨[[(6, 0, .bool), (8, 0, .bool), (9, 0, .bool), (10, 0, .bool), (32, 0, .bool), (33, 0, .bool)]], [], [(6, [0, 1, 2, 3, 4, 5, 6, 7, 8]), (8, [0, 1, 2, 3, 4, 5, 6, 7])], [], [], [2], [(2, .fork3 [0, 1, 4, 5] 2 (.fork3 [] 3 (.fork [] 6 (.lin [7, 8, 9]) 8 (.lin [6, 7, 9])) 6 (.fork [] 3 (.lin [7, 8, 9]) 8 (.lin [3, 7, 9])) 8 (.fork [] 3 (.lin [6, 7, 9]) 6 (.lin [3, 7, 9]))) 6 (.fork [] 2 (.fork [] 3 (.lin [7, 8, 9]) 8 (.lin [3, 7, 9])) 8 (.lin [2, 3, 7, 9])) 8 (.fork [] 2 (.fork [] 3 (.lin [6, 7, 9]) 6 (.lin [3, 7, 9])) 6 (.lin [2, 3, 7, 9])))]⟩
def S84_L0 (ok9 : Bool) (x32 : Int) (x33 : Int) (b0_0 : Int) (h1 : List Int) (b2_0 : Int) (b2_1n : Nat) (h3 : List Int) (h4 : List Int) : St := ⟨[(6, .w (.one (.ptr 0 0 0))), (8, .w (.one (.ptr 1 0 0))), (9, .w (.one (.bool ok9))), (10, .w (.one (.ptr 2 0 0))), (32, .w (.one (.int .i64 x32))), (33, .w (.one (.int .i64 x33)))], [.box [.int .i64 b0_0, .nil, .nil], .row (.int .i64) h1 .var, .box [.int .i64 b2_0, .sl 3 (some (0, b2_1n)), .sl 4 none], .row (.int .i64) h3 .own, .row (.int .i64) h4 .own]⟩
theorem eq84 (kind : Int) (lost : Int) (from0 : List Int) (r : List W) (lh : Heap) : FB E H84 Try.f84 [.one (.int .i64 kind), .one (.int .i64 lost), .one (.ro (.int .i64) from0)] [] r lh =
  (
   ∃ r0 : List (Int × (Int × (Int × Int))), SC P 86 [.one (.int .i64 kind), .one (.ro (.int .i64) from0)] [] [.one (.sl 0 none)] [.row (.pair (.int .i64) (.pair (.int .i64) (.pair (.int .i64) (.int .i64)))) r0 .own] ∧
    ∃ r1 : (List ((Int × (Int × (Int × Int))) × (Int × (Int × (Int × (Int × (Int × (Int × (Int × Int)))))))) × List Int), SC P 105 [.one (.ro (.pair (.int .i64) (.pair (.int .i64) (.pair (.int .i64) (.int .i64)))) r0)] [] [.one (.ptr 0 0 0)] [.box [.ro (.pair (.pair (.int .i64) (.pair (.int .i64) (.pair (.int .i64) (.int .i64)))) (.pair (.int .i64) (.pair (.int .i64) (.pair (.int .i64) (.pair (.int .i64) (.pair (.int .i64) (.pair (.int .i64) (.pair (.int .i64) (.int .i64))))))))) r1.1, .ro (.int .i64) r1.2]] ∧
     ∃ r2 : Int × Int × Int × Int, SC P 90 [.one (.int .i64 kind), .one (.int .i64 lost)] [] [.agg [.int .i64 r2.1, .int .i64 r2.2.1, .int .i64 r2.2.2.1, .int .i64 r2.2.2.2]] [] ∧
      ∃ r3 : Int × Int × Int × Int × Int × Int × Int × Int × Bool, SC P 106 [.one (.ptr 0 0 0), .agg [.int .i64 r2.1, .int .i64 r2.2.1, .int .i64 r2.2.2.1, .int .i64 r2.2.2.2]] [.box [.ro (.pair (.pair (.int .i64) (.pair (.int .i64) (.pair (.int .i64) (.int .i64)))) (.pair (.int .i64) (.pair (.int .i64) (.pair (.int .i64) (.pair (.int .i64) (.pair (.int .i64) (.pair (.int .i64) (.pair (.int .i64) (.int .i64))))))))) r1.1, .ro (.int .i64) r1.2]] [.agg [.int .i64 r3.1, .int .i64 r3.2.1, .int .i64 r3.2.2.1, .int .i64 r3.2.2.2.1, .int .i64 r3.2.2.2.2.1, .int .i64 r3.2.2.2.2.2.1, .int .i64 r3.2.2.2.2.2.2.1, .int .i64 r3.2.2.2.2.2.2.2.1], .one (.bool r3.2.2.2.2.2.2.2.2)] [.box [.ro (.pair (.pair (.int .i64) (.pair (.int .i64) (.pair (.int .i64) (.int .i64)))) (.pair (.int .i64) (.pair (.int .i64) (.pair (.int .i64) (.pair (.int .i64) (.pair (.int .i64) (.pair (.int .i64) (.pair (.int .i64) (.int .i64))))))))) r1.1, .ro (.int .i64) r1.2]] ∧
       (
        ∃ r4 : List Int, SC P 80 [.one (.ro (.int .i64) from0)] [] [.one (.sl 0 none)] [.row (.int .i64) r4 .own] ∧
         (
          ∃ r5 : Nat, SC P 107 [.one (.sl 0 none)] [.row (.int .i64) r4 .own] [.one (.sl 0 (some (0, r5)))] [.row (.int .i64) r4 .own] ∧
           (
            Ck (decide ((0 : Int) ≤ ((from0.length : Nat) : Int))) (
             Ck (decide (((from0.length : Nat) : Int) * (8 : Nat) ≤ (roomy : Int))) (
              FL E H84 Try.f84 0 r lh 0 (S84_L0 r3.2.2.2.2.2.2.2.2 ((from0.length : Nat) : Int) 0 0 [r3.1, r3.2.1, r3.2.2.1, r3.2.2.2.1, r3.2.2.2.2.1, r3.2.2.2.2.2.1, r3.2.2.2.2.2.2.1, r3.2.2.2.2.2.2.2.1] lost r5 r4 [])))) ∧ (
            Ck (decide ((0 : Int) ≤ ((from0.length : Nat) : Int))) (
             Ck (decide (((from0.length : Nat) : Int) * (8 : Nat) ≤ (roomy : Int))) (
              FL E H84 Try.f84 0 r lh 0 (S84_L0 r3.2.2.2.2.2.2.2.2 ((from0.length : Nat) : Int) 0 0 [r3.1, r3.2.1, r3.2.2.1, r3.2.2.2.1, r3.2.2.2.2.1, r3.2.2.2.2.2.1, r3.2.2.2.2.2.2.1, r3.2.2.2.2.2.2.2.1] lost r5 r4 []))))) ∧ (
          (
           Ck (decide ((0 : Int) ≤ ((from0.length : Nat) : Int))) (
            Ck (decide (((from0.length : Nat) : Int) * (8 : Nat) ≤ (roomy : Int))) (
             (
              ∃ r6 : Nat, SC P 107 [.one (.sl 0 none)] [.row (.int .i64) r4 .own] [.one (.sl 0 (some (0, r6)))] [.row (.int .i64) r4 .own] ∧
               FL E H84 Try.f84 0 r lh 0 (S84_L0 r3.2.2.2.2.2.2.2.2 ((from0.length : Nat) : Int) 0 0 [r3.1, r3.2.1, r3.2.2.1, r3.2.2.2.1, r3.2.2.2.2.1, r3.2.2.2.2.2.1, r3.2.2.2.2.2.2.1, r3.2.2.2.2.2.2.2.1] lost r6 r4 [])) ∧ (
              ∃ r7 : Nat, SC P 107 [.one (.sl 0 none)] [.row (.int .i64) r4 .own] [.one (.sl 0 (some (0, r7)))] [.row (.int .i64) r4 .own] ∧
               FL E H84 Try.f84 0 r lh 0 (S84_L0 r3.2.2.2.2.2.2.2.2 ((from0.length : Nat) : Int) 0 0 [r3.1, r3.2.1, r3.2.2.1, r3.2.2.2.1, r3.2.2.2.2.1, r3.2.2.2.2.2.1, r3.2.2.2.2.2.2.1, r3.2.2.2.2.2.2.2.1] lost r7 r4 []))))) ∧ (
           (
            ∃ r8 : Nat, SC P 107 [.one (.sl 0 none)] [.row (.int .i64) r4 .own] [.one (.sl 0 (some (0, r8)))] [.row (.int .i64) r4 .own] ∧
             Ck (decide ((0 : Int) ≤ ((from0.length : Nat) : Int))) (
              Ck (decide (((from0.length : Nat) : Int) * (8 : Nat) ≤ (roomy : Int))) (
               FL E H84 Try.f84 0 r lh 0 (S84_L0 r3.2.2.2.2.2.2.2.2 ((from0.length : Nat) : Int) 0 0 [r3.1, r3.2.1, r3.2.2.1, r3.2.2.2.1, r3.2.2.2.2.1, r3.2.2.2.2.2.1, r3.2.2.2.2.2.2.1, r3.2.2.2.2.2.2.2.1] lost r8 r4 [])))) ∧ (
            Ck (decide ((0 : Int) ≤ ((from0.length : Nat) : Int))) (
             Ck (decide (((from0.length : Nat) : Int) * (8 : Nat) ≤ (roomy : Int))) (
              ∃ r9 : Nat, SC P 107 [.one (.sl 0 none)] [.row (.int .i64) r4 .own] [.one (.sl 0 (some (0, r9)))] [.row (.int .i64) r4 .own] ∧
               FL E H84 Try.f84 0 r lh 0 (S84_L0 r3.2.2.2.2.2.2.2.2 ((from0.length : Nat) : Int) 0 0 [r3.1, r3.2.1, r3.2.2.1, r3.2.2.2.1, r3.2.2.2.2.1, r3.2.2.2.2.2.1, r3.2.2.2.2.2.2.1, r3.2.2.2.2.2.2.2.1] lost r9 r4 []))))))) ∧ (
        (
         Ck (decide ((0 : Int) ≤ ((from0.length : Nat) : Int))) (
          Ck (decide (((from0.length : Nat) : Int) * (8 : Nat) ≤ (roomy : Int))) (
           (
            ∃ r10 : List Int, SC P 80 [.one (.ro (.int .i64) from0)] [] [.one (.sl 0 none)] [.row (.int .i64) r10 .own] ∧
             (
              ∃ r11 : Nat, SC P 107 [.one (.sl 0 none)] [.row (.int .i64) r10 .own] [.one (.sl 0 (some (0, r11)))] [.row (.int .i64) r10 .own] ∧
               FL E H84 Try.f84 0 r lh 0 (S84_L0 r3.2.2.2.2.2.2.2.2 ((from0.length : Nat) : Int) 0 0 [r3.1, r3.2.1, r3.2.2.1, r3.2.2.2.1, r3.2.2.2.2.1, r3.2.2.2.2.2.1, r3.2.2.2.2.2.2.1, r3.2.2.2.2.2.2.2.1] lost r11 r10 [])) ∧ (
              ∃ r12 : Nat, SC P 107 [.one (.sl 0 none)] [.row (.int .i64) r10 .own] [.one (.sl 0 (some (0, r12)))] [.row (.int .i64) r10 .own] ∧
               FL E H84 Try.f84 0 r lh 0 (S84_L0 r3.2.2.2.2.2.2.2.2 ((from0.length : Nat) : Int) 0 0 [r3.1, r3.2.1, r3.2.2.1, r3.2.2.2.1, r3.2.2.2.2.1, r3.2.2.2.2.2.1, r3.2.2.2.2.2.2.1, r3.2.2.2.2.2.2.2.1] lost r12 r10 []))) ∧ (
            ∃ r13 : List Int, SC P 80 [.one (.ro (.int .i64) from0)] [] [.one (.sl 0 none)] [.row (.int .i64) r13 .own] ∧
             ∃ r14 : Nat, SC P 107 [.one (.sl 0 none)] [.row (.int .i64) r13 .own] [.one (.sl 0 (some (0, r14)))] [.row (.int .i64) r13 .own] ∧
              FL E H84 Try.f84 0 r lh 0 (S84_L0 r3.2.2.2.2.2.2.2.2 ((from0.length : Nat) : Int) 0 0 [r3.1, r3.2.1, r3.2.2.1, r3.2.2.2.1, r3.2.2.2.2.1, r3.2.2.2.2.2.1, r3.2.2.2.2.2.2.1, r3.2.2.2.2.2.2.2.1] lost r14 r13 []))))) ∧ (
         (
          ∃ r15 : List Int, SC P 80 [.one (.ro (.int .i64) from0)] [] [.one (.sl 0 none)] [.row (.int .i64) r15 .own] ∧
           (
            ∃ r16 : Nat, SC P 107 [.one (.sl 0 none)] [.row (.int .i64) r15 .own] [.one (.sl 0 (some (0, r16)))] [.row (.int .i64) r15 .own] ∧
             Ck (decide ((0 : Int) ≤ ((from0.length : Nat) : Int))) (
              Ck (decide (((from0.length : Nat) : Int) * (8 : Nat) ≤ (roomy : Int))) (
               FL E H84 Try.f84 0 r lh 0 (S84_L0 r3.2.2.2.2.2.2.2.2 ((from0.length : Nat) : Int) 0 0 [r3.1, r3.2.1, r3.2.2.1, r3.2.2.2.1, r3.2.2.2.2.1, r3.2.2.2.2.2.1, r3.2.2.2.2.2.2.1, r3.2.2.2.2.2.2.2.1] lost r16 r15 [])))) ∧ (
            Ck (decide ((0 : Int) ≤ ((from0.length : Nat) : Int))) (
             Ck (decide (((from0.length : Nat) : Int) * (8 : Nat) ≤ (roomy : Int))) (
              ∃ r17 : Nat, SC P 107 [.one (.sl 0 none)] [.row (.int .i64) r15 .own] [.one (.sl 0 (some (0, r17)))] [.row (.int .i64) r15 .own] ∧
               FL E H84 Try.f84 0 r lh 0 (S84_L0 r3.2.2.2.2.2.2.2.2 ((from0.length : Nat) : Int) 0 0 [r3.1, r3.2.1, r3.2.2.1, r3.2.2.2.1, r3.2.2.2.2.1, r3.2.2.2.2.2.1, r3.2.2.2.2.2.2.1, r3.2.2.2.2.2.2.2.1] lost r17 r15 []))))) ∧ (
          Ck (decide ((0 : Int) ≤ ((from0.length : Nat) : Int))) (
           Ck (decide (((from0.length : Nat) : Int) * (8 : Nat) ≤ (roomy : Int))) (
            ∃ r18 : List Int, SC P 80 [.one (.ro (.int .i64) from0)] [] [.one (.sl 0 none)] [.row (.int .i64) r18 .own] ∧
             ∃ r19 : Nat, SC P 107 [.one (.sl 0 none)] [.row (.int .i64) r18 .own] [.one (.sl 0 (some (0, r19)))] [.row (.int .i64) r18 .own] ∧
              FL E H84 Try.f84 0 r lh 0 (S84_L0 r3.2.2.2.2.2.2.2.2 ((from0.length : Nat) : Int) 0 0 [r3.1, r3.2.1, r3.2.2.1, r3.2.2.2.1, r3.2.2.2.2.1, r3.2.2.2.2.2.1, r3.2.2.2.2.2.2.1, r3.2.2.2.2.2.2.2.1] lost r19 r18 []))))))) := by kernel_rfl
theorem eq84_L0 (ok9 : Bool) (x32 : Int) (x33 : Int) (b0_0 : Int) (h1 : List Int) (b2_0 : Int) (b2_1n : Nat) (h3 : List Int) (h4 : List Int) (r : List W) (lh : Heap) : FL1 E H84 Try.f84 0 r lh 0 (S84_L0 ok9 x32 x33 b0_0 h1 b2_0 b2_1n h3 h4) =
  (
   Br (decide (x33 < x32)) (
    Ck (decide ((0 : Int) ≤ x33)) (
     Ck (decide (x33 < (8 : Int))) (
      Ck (Nat.ble ((0 + (x33.toNat * 1)) + 1) h1.length) (
       Ck (Nat.ble ((h4.length + 1) * 8) roomy) (
        FL E H84 Try.f84 0 r lh 0 (S84_L0 ok9 x32 (IntKind.wrap .i64 (x33 + 1)) b0_0 h1 b2_0 b2_1n h3 (h4 ++ [(h1.getD (0 + (x33.toNat * 1)) 0)]))))))) (
    Br ok9 (
     ∃ r0 : Bool, SC P 108 [.agg [.int .i64 b2_0, .ro (.int .i64) ((h3.drop 0).take b2_1n), .ro (.int .i64) h4]] [] [.one (.bool r0)] [] ∧
      Ret r lh [.agg [.int .i64 b2_0, .sl 0 (some (0, b2_1n)), .sl 1 none], .one (.bool r0)] [.row (.int .i64) h3 .own, .row (.int .i64) h4 .own]) (
     Ret r lh [.agg [.int .i64 b2_0, .sl 0 (some (0, b2_1n)), .sl 1 none], .one (.bool false)] [.row (.int .i64) h3 .own, .row (.int .i64) h4 .own]))) := by kernel_rfl
def planIT (kind lost : Int) (S : List Int) : Option (List Int × List Int) := bif (byK (spanF (rowsF kind S)).1 (rowV kind lost)).2 && formed (lost, S, byI kind lost S) then some (S, byI kind lost S) else none
theorem byI_len {kind lost : Int} {S : List Int} : (byI kind lost S).length = S.length := by
  rw [byI]
  generalize S.length = n
  generalize (0 : Nat) = i
  induction n generalizing i with
  | zero => rfl
  | succ n ih => rw [mapR, List.length_cons, ih]
theorem l84 (kind lost : Int) (S : List Int) (h8 : S.length ≤ 8) (ok : Bool) (hok : ok = (byK (spanF (rowsF kind S)).1 (rowV kind lost)).2) : ∀ (n i : Nat) (out : List Int), i + n = S.length → out.length = i → out ++ mapR (fun j => (byK (spanF (rowsF kind S)).1 (rowV kind lost)).1.l.getD j 0) i n = byI kind lost S →
    FL E H84 Try.f84 0 [.agg [.int .i64 lost, .sl 0 (some (0, S.length)), .sl 1 none], .one (.bool ((byK (spanF (rowsF kind S)).1 (rowV kind lost)).2 && formed (lost, S, byI kind lost S)))] [.row (.int .i64) S .own, .row (.int .i64) (byI kind lost S) .own] 0 (S84_L0 ok (S.length : Int) (i : Int) 0 (byK (spanF (rowsF kind S)).1 (rowV kind lost)).1.l lost S.length S out)
  | 0, i, out, h, ho, e => by
    rw [mapR, List.append_nil] at e
    subst e
    have hb := byI_len (kind := kind) (lost := lost) (S := S)
    have sf := c108 (lost, S, byI kind lost S) (by dsimp only; omega) (by dsimp only; omega)
    refine FL_of1 ?_
    rw [eq84_L0]
    simp only [List.drop_zero, List.take_length]
    subst hok
    refine Br_f (by omega) (Br_b (fun e => ⟨_, sf, ?_, rfl⟩) (fun e => ⟨?_, rfl⟩))
    · rw [e, Bool.true_and]
    · rw [e, Bool.false_and]
  | n + 1, i, out, h, ho, e => by
    refine FL_of1 ?_
    rw [eq84_L0, wS (i := i) (by omega)]
    simp only [Int.toNat_natCast, Nat.mul_one, Nat.zero_add]
    refine Br_t (by omega) (Ck_d (by omega) (Ck_d (by omega) (Ck_le (by simp [V8.l]; omega) (Ck_room (by omega) ?_))))
    refine l84 kind lost S h8 ok hok n (i + 1) _ (by omega) (by simp; omega) ?_
    rw [List.append_assoc]
    rw [mapR] at e
    exact e
theorem c84 (kind lost : Int) (h0 : 0 ≤ lost) (h1 : lost ≤ 7) (S : List Int) (hs : ShOk S) (h8 : S.length ≤ 8) : SC P 84 [.one (.int .i64 kind), .one (.int .i64 lost), .one (.ro (.int .i64) S)] [] [.agg [.int .i64 lost, .sl 0 none, .sl 1 none], .one (.bool ((byK (spanF (rowsF kind S)).1 (rowV kind lost)).2 && formed (lost, S, byI kind lost S)))] [.row (.int .i64) S .own, .row (.int .i64) (byI kind lost S) .own] := by
  have hro := rows_ok kind S
  have hlen : (rowsF kind S).length = S.length := List.length_map _
  have s1 := c86 kind S hs (by omega)
  have s2 := c105 (rowsF kind S) hro (by omega)
  have s3 := c90 kind lost h0 h1
  have s4 := c106 _ (spanF_ok hro) (by have := spanF_len (rowsF kind S); omega) (spanF (rowsF kind S)).2 (rowV kind lost) (rowV_ok _ _)
  have s5 := c80 S (by omega)
  have s6 := c107 S
  have hF := l84 kind lost S h8 _ rfl S.length 0 [] (Nat.zero_add _) rfl rfl
  refine SC.wholeAgg (t := .int .i64) (n := S.length) rfl ?_
  refine SC_of_FB (H := H84) E_ok Try.func84 (by kernel_rfl) ?_
  rw [eq84]
  refine ⟨_, s1, (_, _), s2, rowV kind lost, s3, (((byK (spanF (rowsF kind S)).1 (rowV kind lost)).1).1, ((byK (spanF (rowsF kind S)).1 (rowV kind lost)).1).2.1, ((byK (spanF (rowsF kind S)).1 (rowV kind lost)).1).2.2.1, ((byK (spanF (rowsF kind S)).1 (rowV kind lost)).1).2.2.2.1, ((byK (spanF (rowsF kind S)).1 (rowV kind lost)).1).2.2.2.2.1, ((byK (spanF (rowsF kind S)).1 (rowV kind lost)).1).2.2.2.2.2.1, ((byK (spanF (rowsF kind S)).1 (rowV kind lost)).1).2.2.2.2.2.2.1, ((byK (spanF (rowsF kind S)).1 (rowV kind lost)).1).2.2.2.2.2.2.2, (byK (spanF (rowsF kind S)).1 (rowV kind lost)).2), s4, ?_⟩
  repeat' first
    | exact hF
    | exact ⟨S, s5, S.length, s6, Ck_d (by omega) (Ck_roomI (by omega) hF)⟩
    | refine Ck_d (by omega) ?_
    | refine Ck_roomI (by omega) ?_
    | refine ⟨S, s5, ?_⟩
    | refine ⟨S.length, s6, ?_⟩
    | refine ⟨?_, ?_⟩
/-! loop.example/keelson/impl.planOf$2 -/
def H83 : Hint := ⟨[], [], [], [], [], [], []⟩
theorem eq83 (set : List Int) (kind : Int) (lost : Int) (r : List W) (lh : Heap) : FB E H83 Try.f83 [.one (.ro (.int .i64) set), .one (.ptr 0 0 0), .one (.ptr 1 0 0), .one (.ptr 2 0 0)] [.row (.int .i64) [kind] .var, .row (.int .i64) [lost] .var, .box [.int .i64 0, .nil, .nil]] r lh =
  (
   ∃ r0 : Int × List Int × List Int × Bool, SC P 84 [.one (.int .i64 kind), .one (.int .i64 lost), .one (.ro (.int .i64) set)] [] [.agg [.int .i64 r0.1, .sl 0 none, .sl 1 none], .one (.bool r0.2.2.2)] [.row (.int .i64) r0.2.1 .own, .row (.int .i64) r0.2.2.1 .own] ∧
    Br r0.2.2.2 (
     Ret r lh [.one (.bool r0.2.2.2)] [.row (.int .i64) [kind] .var, .row (.int .i64) [lost] .var, .box [.int .i64 r0.1, .sl 3 none, .sl 4 none], .row (.int .i64) r0.2.1 .own, .row (.int .i64) r0.2.2.1 .own]) (
     Ret r lh [.one (.bool r0.2.2.2)] [.row (.int .i64) [kind] .var, .row (.int .i64) [lost] .var, .box [.int .i64 0, .nil, .nil]])) := by kernel_rfl
theorem c83 (kind lost : Int) (h0 : 0 ≤ lost) (h1 : lost ≤ 7) (set : List Int) (hs : ShOk set) (h8 : set.length ≤ 8) : SC P 83 [.one (.ro (.int .i64) set), .one (.ptr 0 0 0), .one (.ptr 1 0 0), .one (.ptr 2 0 0)] [.row (.int .i64) [kind] .var, .row (.int .i64) [lost] .var, .box [.int .i64 0, .nil, .nil]] [.one (.bool (resP lost (planIT kind lost set)).2.2.2)] [.row (.int .i64) [kind] .var, .row (.int .i64) [lost] .var, .box [.int .i64 (resP lost (planIT kind lost set)).1, .sl 3 none, .sl 4 none], .row (.int .i64) (resP lost (planIT kind lost set)).2.1 .own, .row (.int .i64) (resP lost (planIT kind lost set)).2.2.1 .own] := by
  have sb := c84 kind lost h0 h1 set hs h8
  rw [planIT]
  cases ho : (byK (spanF (rowsF kind set)).1 (rowV kind lost)).2 && formed (lost, set, byI kind lost set) with
  | true =>
    rw [ho] at sb
    refine SC_of_FB (H := H83) E_ok Try.func83 (by kernel_rfl) ?_
    rw [eq83]
    exact ⟨(lost, set, byI kind lost set, true), sb, Br_b (fun _ => ⟨rfl, rfl⟩) (fun e => by cases e)⟩
  | false =>
    rw [ho] at sb
    have s0 : SC P 83 [.one (.ro (.int .i64) set), .one (.ptr 0 0 0), .one (.ptr 1 0 0), .one (.ptr 2 0 0)] [.row (.int .i64) [kind] .var, .row (.int .i64) [lost] .var, .box [.int .i64 0, .nil, .nil]] [.one (.bool false)] [.row (.int .i64) [kind] .var, .row (.int .i64) [lost] .var, .box [.int .i64 0, .nil, .nil]] := by
      refine SC_of_FB (H := H83) E_ok Try.func83 (by kernel_rfl) ?_
      rw [eq83]
      exact ⟨(lost, set, byI kind lost set, false), sb, Br_b (fun e => by cases e) (fun _ => ⟨rfl, rfl⟩)⟩
    have s1 := SC.nilRow (t := .int .i64) 2 1 rfl rfl rfl rfl s0
    have s2 := SC.nilRow (t := .int .i64) 2 2 rfl rfl rfl rfl s1
    exact s2
/-! loop.example/keelson/impl.planOf$2 -/
def H83o : Hint := ⟨[], [], [], [], [], [], []⟩
theorem eq83o (set : List Int) (kind : Int) (lost : Int) (r : List W) (lh : Heap) : FB E H83o Try.f83 [.one (.ro (.int .i64) set), .one (.ptr 0 0 0), .one (.ptr 1 0 0), .one (.ptr 2 0 0)] [.row (.int .i64) [kind] .var, .row (.int .i64) [lost] .var, .box [.int .i64 0, .sl 3 none, .sl 4 none], .row (.int .i64) [] .own, .row (.int .i64) [] .own] r lh =
  (
   ∃ r0 : Int × List Int × List Int × Bool, SC P 84 [.one (.int .i64 kind), .one (.int .i64 lost), .one (.ro (.int .i64) set)] [] [.agg [.int .i64 r0.1, .sl 0 none, .sl 1 none], .one (.bool r0.2.2.2)] [.row (.int .i64) r0.2.1 .own, .row (.int .i64) r0.2.2.1 .own] ∧
    Br r0.2.2.2 (
     Ret r lh [.one (.bool r0.2.2.2)] [.row (.int .i64) [kind] .var, .row (.int .i64) [lost] .var, .box [.int .i64 r0.1, .sl 5 none, .sl 6 none], .row (.int .i64) [] .own, .row (.int .i64) [] .own, .row (.int .i64) r0.2.1 .own, .row (.int .i64) r0.2.2.1 .own]) (
     Ret r lh [.one (.bool r0.2.2.2)] [.row (.int .i64) [kind] .var, .row (.int .i64) [lost] .var, .box [.int .i64 0, .sl 3 none, .sl 4 none], .row (.int .i64) [] .own, .row (.int .i64) [] .own])) := by kernel_rfl
theorem c83o (kind lost : Int) (h0 : 0 ≤ lost) (h1 : lost ≤ 7) (set : List Int) (hs : ShOk set) (h8 : set.length ≤ 8) : SC P 83 [.one (.ro (.int .i64) set), .one (.ptr 0 0 0), .one (.ptr 1 0 0), .one (.ptr 2 0 0)] [.row (.int .i64) [kind] .var, .row (.int .i64) [lost] .var, .box [.int .i64 0, .sl 3 none, .sl 4 none], .row (.int .i64) [] .own, .row (.int .i64) [] .own] [.one (.bool (resP lost (planIT kind lost set)).2.2.2)] [.row (.int .i64) [kind] .var, .row (.int .i64) [lost] .var, .box [.int .i64 (resP lost (planIT kind lost set)).1, .sl 3 none, .sl 4 none], .row (.int .i64) (resP lost (planIT kind lost set)).2.1 .moved, .row (.int .i64) (resP lost (planIT kind lost set)).2.2.1 .moved, .row (.int .i64) [] .own, .row (.int .i64) [] .own] := by
  have sb := c84 kind lost h0 h1 set hs h8
  rw [planIT]
  cases ho : (byK (spanF (rowsF kind set)).1 (rowV kind lost)).2 && formed (lost, set, byI kind lost set) with
  | true =>
    rw [ho] at sb
    have s0 : SC P 83 [.one (.ro (.int .i64) set), .one (.ptr 0 0 0), .one (.ptr 1 0 0), .one (.ptr 2 0 0)] [.row (.int .i64) [kind] .var, .row (.int .i64) [lost] .var, .box [.int .i64 0, .sl 3 none, .sl 4 none], .row (.int .i64) [] .own, .row (.int .i64) [] .own] [.one (.bool true)] [.row (.int .i64) [kind] .var, .row (.int .i64) [lost] .var, .box [.int .i64 lost, .sl 5 none, .sl 6 none], .row (.int .i64) [] .own, .row (.int .i64) [] .own, .row (.int .i64) set .own, .row (.int .i64) (byI kind lost set) .own] := by
      refine SC_of_FB (H := H83o) E_ok Try.func83 (by kernel_rfl) ?_
      rw [eq83o]
      exact ⟨(lost, set, byI kind lost set, true), sb, Br_b (fun _ => ⟨rfl, rfl⟩) (fun e => by cases e)⟩
    have s1 := SC.swapRow (t := .int .i64) 2 1 3 5 rfl rfl rfl rfl (by simp) (by simp) rfl rfl s0
    have s2 := SC.swapRow (t := .int .i64) 2 2 4 6 rfl rfl rfl rfl (by simp) (by simp) rfl rfl s1
    exact s2
  | false =>
    rw [ho] at sb
    have s0 : SC P 83 [.one (.ro (.int .i64) set), .one (.ptr 0 0 0), .one (.ptr 1 0 0), .one (.ptr 2 0 0)] [.row (.int .i64) [kind] .var, .row (.int .i64) [lost] .var, .box [.int .i64 0, .sl 3 none, .sl 4 none], .row (.int .i64) [] .own, .row (.int .i64) [] .own] [.one (.bool false)] [.row (.int .i64) [kind] .var, .row (.int .i64) [lost] .var, .box [.int .i64 0, .sl 3 none, .sl 4 none], .row (.int .i64) [] .own, .row (.int .i64) [] .own] := by
      refine SC_of_FB (H := H83o) E_ok Try.func83 (by kernel_rfl) ?_
      rw [eq83o]
      exact ⟨(lost, set, byI kind lost set, false), sb, Br_b (fun e => by cases e) (fun _ => ⟨rfl, rfl⟩)⟩
    have s1 := SC.movedRow 3 (t := .int .i64) (l := []) rfl s0
    have s2 := SC.movedRow 4 (t := .int .i64) (l := []) rfl s1
    have s3 := SC.more (t := .int .i64) rfl rfl s2
    have s4 := SC.more (t := .int .i64) rfl rfl s3
    exact s4
end Go.Proofs.Ytjoiadaogppmkaa.Sh
