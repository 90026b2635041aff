/- What is read of shards: the exact laws. -/
import Derived.Test.YtlebgbcoljnejaaShS2
namespace Go.Proofs.Ytlebgbcoljnejaa.Sh
open Go
set_option linter.unusedVariables false
set_option linter.unusedSimpArgs false
/-! loop.example/keelson/laws.toBoolS -/
def H24 : Hint := ⟨[[(0, 0, .bool), (3, 0, .bool), (4, 0, .bool)]], [], [], [], [], [], []⟩
def S24_L0 (a0 : List Bool) (i4 : Int) (h0 : List Bool) : St := ⟨[(0, .w (.one (.ro .bool a0))), (3, .w (.one (.sl 0 none))), (4, .w (.one (.int .i64 i4)))], [.row .bool h0 .own]⟩
theorem eq24 (a : List Bool) (r : List W) (lh : Heap) : FB E H24 Try.f24 [.one (.ro .bool a)] [] r lh =
  (
   Ck (decide ((0 : Int) ≤ ((a.length : Nat) : Int))) (
    Ck (decide (((a.length : Nat) : Int) ≤ ((a.length : Nat) : Int))) (
     Ck (decide (((a.length : Nat) : Int) * (1 : Nat) ≤ (roomy : Int))) (
      FL E H24 Try.f24 0 r lh 0 (S24_L0 a 0 (List.replicate (((a.length : Nat) : Int).toNat) (false : Bool))))))) := by kernel_rfl
theorem eq24_L0 (a0 : List Bool) (i4 : Int) (h0 : List Bool) (r : List W) (lh : Heap) : FL1 E H24 Try.f24 0 r lh 0 (S24_L0 a0 i4 h0) =
  (
   Br (decide (i4 < ((a0.length : Nat) : Int))) (
    Ck (decide ((0 : Int) ≤ i4)) (
     Ck (decide (i4 < ((a0.length : Nat) : Int))) (
      Ck (decide ((0 : Int) ≤ i4)) (
       Ck (decide (i4 < ((h0.length : Nat) : Int))) (
        Ck (Nat.ble (i4.toNat + 1) h0.length) (
         FL E H24 Try.f24 0 r lh 0 (S24_L0 a0 (IntKind.wrap .i64 (i4 + 1)) (h0.set i4.toNat (a0.getD i4.toNat false))))))))) (
    Ret r lh [.one (.sl 0 none)] [.row .bool h0 .own])) := by kernel_rfl
theorem l24 (l : List Bool) (hl : l.length ≤ 1048576) : ∀ (n i : Nat) (out : List Bool), i + n = l.length → out.length = l.length → (∀ j, j < i → out[j]? = l[j]?) → FL E H24 Try.f24 0 [.one (.sl 0 none)] [.row (.bool) l .own] 0 (S24_L0 l (i : Int) out)
  | 0, i, out, h, ho, H => by
    refine FL_of1 ?_
    rw [eq24_L0]
    obtain rfl : out = l := fill_done ho fun j hj => H j (by omega)
    exact Br_f (by omega) ⟨rfl, rfl⟩
  | n + 1, i, out, h, ho, H => by
    refine FL_of1 ?_
    rw [eq24_L0, wS (by omega)]
    simp only [Int.toNat_natCast]
    refine Br_t (by omega) (Ck_d (by omega) (Ck_d (by omega) (Ck_d (by omega) (Ck_d (by omega) (Ck_le (by omega) ?_)))))
    refine l24 l hl n (i + 1) _ (by omega) (by simp [ho]) (fill_step ho ?_ H)
    rw [getD_eq (show i < l.length by omega)]
    exact List.getElem?_eq_getElem _
theorem c24 (l : List Bool) (hl : l.length ≤ 1048576) : SC P 24 [.one (.ro (.bool) l)] [] [.one (.sl 0 none)] [.row (.bool) l .own] := by
  refine SC_of_FB (H := H24) E_ok Try.func24 (by kernel_rfl) ?_
  rw [eq24]
  refine Ck_d (by omega) (Ck_d (by omega) (Ck_roomI (by omega) ?_))
  exact l24 l hl l.length 0 _ (by omega) (by simp) (fun j hj => absurd hj (by omega))
/-! loop.example/keelson/laws.eqBoolS -/
def H27 : Hint := ⟨[[(0, 0, .bool), (1, 0, .bool), (5, 0, .bool)]], [], [(6, [0, 1, 2, 3, 4, 5, 6, 7, 8])], [], [], [], []⟩
def S27_L0 (a0 : List Bool) (b1 : List Bool) (i5 : Int) : St := ⟨[(0, .w (.one (.ro .bool a0))), (1, .w (.one (.ro .bool b1))), (5, .w (.one (.int .i64 i5)))], []⟩
theorem eq27 (a : List Bool) (b : List Bool) (r : List W) (lh : Heap) : FB E H27 Try.f27 [.one (.ro .bool a), .one (.ro .bool b)] [] r lh =
  (
   Br (!(decide (((a.length : Nat) : Int) = ((b.length : Nat) : Int)))) (
    Ret r lh [.one (.bool false)] []) (
    FL E H27 Try.f27 0 r lh 0 (S27_L0 a b 0))) := by kernel_rfl
theorem eq27_L0 (a0 : List Bool) (b1 : List Bool) (i5 : Int) (r : List W) (lh : Heap) : FL1 E H27 Try.f27 0 r lh 0 (S27_L0 a0 b1 i5) =
  (
   Br (decide (i5 < ((a0.length : Nat) : Int))) (
    Ck (decide ((0 : Int) ≤ i5)) (
     Ck (decide (i5 < ((a0.length : Nat) : Int))) (
      Ck (decide ((0 : Int) ≤ i5)) (
       Ck (decide (i5 < ((b1.length : Nat) : Int))) (
        Br ((a0.getD i5.toNat false) != (b1.getD i5.toNat false)) (
         Ret r lh [.one (.bool false)] []) (
         FL E H27 Try.f27 0 r lh 0 (S27_L0 a0 b1 (IntKind.wrap .i64 (i5 + 1))))))))) (
    Ret r lh [.one (.bool true)] [])) := by kernel_rfl
theorem l27 (a b : List Bool) (hl : a.length ≤ 1048576) (hb : a.length = b.length) : ∀ (n i : Nat), i + n = a.length → FL E H27 Try.f27 0 [.one (.bool (allR (fun j => decide (a.getD j false = b.getD j false)) i n))] [] 0 (S27_L0 a b (i : Int))
  | 0, i, h => by
    refine FL_of1 ?_
    rw [eq27_L0]
    exact Br_f (by omega) ⟨rfl, rfl⟩
  | n + 1, i, h => by
    refine FL_of1 ?_
    rw [eq27_L0, wS (by omega)]
    simp only [Int.toNat_natCast]
    refine Br_t (by omega) (Ck_d (by omega) (Ck_d (by omega) (Ck_d (by omega) (Ck_d (by omega) (Br_b (fun h1 => ?_) (fun h1 => ?_))))))
    · exact ⟨by rw [allR_f (by simpa using h1)], rfl⟩
    · rw [allR_t (by simpa using h1)]
      exact l27 a b hl hb n (i + 1) (by omega)
theorem c27 (a b : List Bool) (hl : a.length ≤ 1048576) : SC P 27 [.one (.ro (.bool) a), .one (.ro (.bool) b)] [] [.one (.bool (decide (a = b)))] [] := by
  refine SC_of_FB (H := H27) E_ok Try.func27 (by kernel_rfl) ?_
  rw [eq27]
  refine Br_nd (fun h => ⟨?_, rfl⟩) (fun h => ?_)
  · rw [decide_eq_false (by rintro rfl; exact h rfl)]
  · have h : a.length = b.length := by omega
    rw [← eqR (z := false) h]
    exact l27 a b hl h a.length 0 (by omega)
/-! loop.example/keelson/laws.markBoolS -/
def H28 : Hint := ⟨[[(0, 0, .bool), (1, 0, .bool), (5, 0, .bool)]], [], [], [], [], [], []⟩
def S28_L0 (k1 : Int) (i5 : Int) (h0 : List Bool) : St := ⟨[(0, .w (.one (.sl 0 none))), (1, .w (.one (.int .i64 k1))), (5, .w (.one (.int .i64 i5)))], [.row .bool h0 .own]⟩
theorem eq28 (l : List Bool) (k : Int) (r : List W) (lh : Heap) : FB E H28 Try.f28 [.one (.sl 0 none), .one (.int .i64 k)] [.row .bool l .own] r lh =
  (
   FL E H28 Try.f28 1 r lh 0 (S28_L0 k 0 l)) := by kernel_rfl
theorem eq28_L0 (k1 : Int) (i5 : Int) (h0 : List Bool) (r : List W) (lh : Heap) : FL1 E H28 Try.f28 1 r lh 0 (S28_L0 k1 i5 h0) =
  (
   Br (decide (i5 < ((h0.length : Nat) : Int))) (
    Ck (decide ((0 : Int) ≤ i5)) (
     Ck (decide (i5 < ((h0.length : Nat) : Int))) (
      Ck (Nat.ble (i5.toNat + 1) h0.length) (
       FL E H28 Try.f28 1 r lh 0 (S28_L0 (IntKind.wrap .i64 (k1 + 1)) (IntKind.wrap .i64 (i5 + 1)) (h0.set i5.toNat (decide ((Int.tmod k1 3) = (0 : Int))))))))) (
    Ret r lh [.one (.int .i64 k1)] [.row .bool h0 .own])) := by kernel_rfl
theorem l28 (k : Int) (m : Nat) (hm : m ≤ 1048576) (k0 : 0 ≤ k) (k1 : k ≤ 1073741824) : ∀ (n i : Nat) (out : List Bool), i + n = m → out.length = m → (∀ j, j < i → out[j]? = (marks (fun k : Int => decide (Int.tmod k 3 = 0)) k m)[j]?) →
    FL E H28 Try.f28 1 [.one (.int .i64 (k + m))] [.row (.bool) (marks (fun k : Int => decide (Int.tmod k 3 = 0)) k m) .own] 0 (S28_L0 (k + (i : Int)) (i : Int) out)
  | 0, i, out, h, ho, H => by
    refine FL_of1 ?_
    rw [eq28_L0]
    obtain rfl : out = marks (fun k : Int => decide (Int.tmod k 3 = 0)) k m := fill_done (by rw [marks_length]; exact ho) fun j hj => H j (by rw [marks_length] at hj; omega)
    refine Br_f (by omega) ⟨?_, rfl⟩
    rw [show (i : Int) = m by omega]
  | n + 1, i, out, h, ho, H => by
    refine FL_of1 ?_
    rw [eq28_L0, wS (by omega), wrap64 (n := k + (i : Int) + 1) (by omega) (by omega), show k + (i : Int) + 1 = k + ((i + 1 : Nat) : Int) by omega]
    simp only [Int.toNat_natCast]
    refine Br_t (by omega) (Ck_d (by omega) (Ck_d (by omega) (Ck_le (by omega) ?_)))
    exact l28 k m hm k0 k1 n (i + 1) _ (by omega) (by simp [ho]) (fill_step (by rw [marks_length]; exact ho) (by rw [marks_get (by omega)]) H)
theorem c28 (l : List Bool) (k : Int) (hl : l.length ≤ 1048576) (k0 : 0 ≤ k) (k1 : k ≤ 1073741824) : SC P 28 [.one (.sl 0 none), .one (.int .i64 k)] [.row (.bool) l .own] [.one (.int .i64 (k + l.length))] [.row (.bool) (marks (fun k : Int => decide (Int.tmod k 3 = 0)) k l.length) .own] := by
  refine SC_of_FB (H := H28) E_ok Try.func28 (by kernel_rfl) ?_
  rw [eq28]
  have := l28 k l.length hl k0 k1 l.length 0 l (by omega) rfl (fun j hj => absurd hj (by omega))
  rw [show k + ((0 : Nat) : Int) = k by omega] at this
  exact this
theorem Br_ne' {b : Bool} {A B : Prop} (h : B) : Br (b != b) A B := by cases b <;> exact h
theorem readFromF_len {kind : Int} {there : List Bool} : (readFromF kind there).length ≤ 8 := by
  rw [readFromF]
  cases h : codeBears kind there
  · exact Nat.zero_le _
  · rw [codeBears, Bool.and_eq_true, Bool.and_eq_true, decide_eq_true_iff] at h
    have := spanF_len (rowsF kind (flagF there))
    have h1 : (rowsF kind (flagF there)).length = (flagF there).length := List.length_map _
    have := (flag_ok h.2.1).len
    rw [cond_true, List.length_map]
    omega
/-! loop.example/keelson/laws.FnExactReadFrom -/
def H4 : Hint := ⟨[], [], [], [], [], [], []⟩
theorem eq4 (aKind : Int) (aThere : List Bool) (r : List W) (lh : Heap) : FB E H4 Try.f4 [.one (.int .i64 aKind), .one (.ro .bool aThere)] [] r lh =
  (
   Br (decide ((1048576 : Int) < ((aThere.length : Nat) : Int))) (
    Ret r lh [.one (.bool true)] []) (
    ∃ r0 : List Bool, SC P 24 [.one (.ro .bool aThere)] [] [.one (.sl 0 none)] [.row .bool r0 .own] ∧
     ∃ r1 : List Int, SC P 23 [.one (.int .i64 aKind), .one (.ro .bool r0)] [] [.one (.sl 0 none)] [.row (.int .i64) r1 .own] ∧
      ∃ r2 : List Bool, SC P 24 [.one (.ro .bool aThere)] [] [.one (.sl 0 none)] [.row .bool r2 .own] ∧
       ∃ r3 : List Int, SC P 25 [.one (.int .i64 aKind), .one (.ro .bool r2)] [] [.one (.sl 0 none)] [.row (.int .i64) r3 .own] ∧
        ∃ r4 : Bool, SC P 26 [.one (.ro (.int .i64) r3), .one (.ro (.int .i64) r1)] [] [.one (.bool r4)] [] ∧
         Br (!r4) (
          Ret r lh [.one (.bool false)] []) (
          ∃ r5 : List Bool, SC P 24 [.one (.ro .bool aThere)] [] [.one (.sl 0 none)] [.row .bool r5 .own] ∧
           ∃ r6 : Bool, SC P 27 [.one (.ro .bool r2), .one (.ro .bool r5)] [] [.one (.bool r6)] [] ∧
            Br (!r6) (
             Ret r lh [.one (.bool false)] []) (
             ∃ r7 : List Bool × Int, SC P 28 [.one (.sl 0 none), .one (.int .i64 1)] [.row .bool r2 .own] [.one (.int .i64 r7.2)] [.row .bool r7.1 .own] ∧
              Br (decide (r7.2 < (0 : Int))) (
               Ret r lh [.one (.bool false)] []) (
               ∃ r8 : Bool, SC P 26 [.one (.ro (.int .i64) r3), .one (.ro (.int .i64) r1)] [] [.one (.bool r8)] [] ∧
                Br (!r8) (
                 Ret r lh [.one (.bool false)] []) (
                 ∃ r9 : List Int × Int, SC P 29 [.one (.sl 0 none), .one (.int .i64 1)] [.row (.int .i64) r3 .own] [.one (.int .i64 r9.2)] [.row (.int .i64) r9.1 .own] ∧
                  ∃ r10 : Int, SC P 30 [.one (.ro (.int .i64) r9.1), .one (.int .i64 1)] [] [.one (.int .i64 r10)] [] ∧
                   Br (decide (r10 < (0 : Int))) (
                    Ret r lh [.one (.bool false)] []) (
                    Br (!(decide (r10 = r9.2))) (
                     Ret r lh [.one (.bool false)] []) (
                     ∃ r11 : List Bool, SC P 24 [.one (.ro .bool aThere)] [] [.one (.sl 0 none)] [.row .bool r11 .own] ∧
                      ∃ r12 : List Int, SC P 25 [.one (.int .i64 aKind), .one (.ro .bool r11)] [] [.one (.sl 0 none)] [.row (.int .i64) r12 .own] ∧
                       ∃ r13 : Bool, SC P 26 [.one (.ro (.int .i64) r12), .one (.ro (.int .i64) r1)] [] [.one (.bool r13)] [] ∧
                        Br (!r13) (
                         Ret r lh [.one (.bool false)] []) (
                         ∃ r14 : Int, SC P 30 [.one (.ro (.int .i64) r9.1), .one (.int .i64 1)] [] [.one (.int .i64 r14)] [] ∧
                          Br (decide (r14 < (0 : Int))) (
                           Ret r lh [.one (.bool false)] []) (
                           Br (!(decide (r14 = r9.2))) (
                            Ret r lh [.one (.bool false)] []) (
                            Ret r lh [.one (.bool true)] []))))))))))) := by kernel_rfl
theorem c4 (kind : Int) (there : List Bool) : SC P 4 [.one (.int .i64 kind), .one (.ro .bool there)] [] [.one (.bool true)] [] := by
  refine SC_of_FB (H := H4) E_ok Try.func4 (by kernel_rfl) ?_
  rw [eq4]
  refine Br_d (fun _ => ⟨rfl, rfl⟩) (fun h => ?_)
  have ht : there.length ≤ 1048576 := by omega
  have hr : (readFromF kind there).length ≤ 1048576 := Nat.le_trans readFromF_len (by omega)
  exact ⟨_, c24 there ht, _, c23 kind there, _, c24 there ht, _, c25 kind there ht, _, c26 _ _ hr, Br_nb (fun e => by simp at e) (fun _ => ⟨_, c24 there ht, _, c27 _ _ ht, Br_nb (fun e => by simp at e) (fun _ => ⟨(_, _), c28 there 1 ht (by omega) (by omega), Br_f (by dsimp only; omega) ⟨_, c26 _ _ hr, Br_nb (fun e => by simp at e) (fun _ => ⟨(_, _), c29 (readFromF kind there) 1 hr (by omega) (by omega), _, c30 1 _ hr (by omega) (by omega), Br_f (by omega) (Br_nd (fun e => absurd rfl e) (fun _ =>
    ⟨_, c24 there ht, _, c25 kind there ht, _, c26 _ _ hr, Br_nb (fun e => by simp at e) (fun _ => ⟨_, c30 1 _ hr (by omega) (by omega), Br_f (by omega) (Br_nd (fun e => absurd rfl e) (fun _ => ⟨rfl, rfl⟩))⟩)⟩))⟩)⟩⟩)⟩)⟩
/-! loop.example/keelson/laws.FnExactReadData -/
def H9 : Hint := ⟨[], [], [], [], [], [], []⟩
theorem eq9 (aKind : Int) (aVals : List Int) (aThere : List Bool) (r : List W) (lh : Heap) : FB E H9 Try.f9 [.one (.int .i64 aKind), .one (.ro (.int .i64) aVals), .one (.ro .bool aThere)] [] r lh =
  (
   Br (decide ((1048576 : Int) < ((aVals.length : Nat) : Int))) (
    Ret r lh [.one (.bool true)] []) (
    Br (decide ((1048576 : Int) < ((aThere.length : Nat) : Int))) (
     Ret r lh [.one (.bool true)] []) (
     ∃ r0 : List Int, SC P 50 [.one (.ro (.int .i64) aVals)] [] [.one (.sl 0 none)] [.row (.int .i64) r0 .own] ∧
      ∃ r1 : List Bool, SC P 24 [.one (.ro .bool aThere)] [] [.one (.sl 0 none)] [.row .bool r1 .own] ∧
       ∃ r2 : List Int × Bool, SC P 49 [.one (.int .i64 aKind), .one (.ro (.int .i64) r0), .one (.ro .bool r1)] [] [.one (.sl 0 none), .one (.bool r2.2)] [.row (.int .i64) r2.1 .own] ∧
        ∃ r3 : List Int, SC P 50 [.one (.ro (.int .i64) aVals)] [] [.one (.sl 0 none)] [.row (.int .i64) r3 .own] ∧
         ∃ r4 : List Bool, SC P 24 [.one (.ro .bool aThere)] [] [.one (.sl 0 none)] [.row .bool r4 .own] ∧
          ∃ r5 : List Int × Bool, SC P 48 [.one (.int .i64 aKind), .one (.ro (.int .i64) r3), .one (.ro .bool r4)] [] [.one (.sl 0 none), .one (.bool r5.2)] [.row (.int .i64) r5.1 .own] ∧
           ∃ r6 : Bool, SC P 26 [.one (.ro (.int .i64) r5.1), .one (.ro (.int .i64) r2.1)] [] [.one (.bool r6)] [] ∧
            Br (!r6) (
             Ret r lh [.one (.bool false)] []) (
             Br (r5.2 != r2.2) (
              Ret r lh [.one (.bool false)] []) (
              ∃ r7 : List Int, SC P 50 [.one (.ro (.int .i64) aVals)] [] [.one (.sl 0 none)] [.row (.int .i64) r7 .own] ∧
               ∃ r8 : Bool, SC P 26 [.one (.ro (.int .i64) r3), .one (.ro (.int .i64) r7)] [] [.one (.bool r8)] [] ∧
                Br (!r8) (
                 Ret r lh [.one (.bool false)] []) (
                 ∃ r9 : List Bool, SC P 24 [.one (.ro .bool aThere)] [] [.one (.sl 0 none)] [.row .bool r9 .own] ∧
                  ∃ r10 : Bool, SC P 27 [.one (.ro .bool r4), .one (.ro .bool r9)] [] [.one (.bool r10)] [] ∧
                   Br (!r10) (
                    Ret r lh [.one (.bool false)] []) (
                    ∃ r11 : List Int × Int, SC P 29 [.one (.sl 0 none), .one (.int .i64 1)] [.row (.int .i64) r3 .own] [.one (.int .i64 r11.2)] [.row (.int .i64) r11.1 .own] ∧
                     ∃ r12 : List Bool × Int, SC P 28 [.one (.sl 0 none), .one (.int .i64 r11.2)] [.row .bool r4 .own] [.one (.int .i64 r12.2)] [.row .bool r12.1 .own] ∧
                      Br (decide (r12.2 < (0 : Int))) (
                       Ret r lh [.one (.bool false)] []) (
                       ∃ r13 : Bool, SC P 26 [.one (.ro (.int .i64) r5.1), .one (.ro (.int .i64) r2.1)] [] [.one (.bool r13)] [] ∧
                        Br (!r13) (
                         Ret r lh [.one (.bool false)] []) (
                         Br (r5.2 != r2.2) (
                          Ret r lh [.one (.bool false)] []) (
                          ∃ r14 : List Int × Int, SC P 29 [.one (.sl 0 none), .one (.int .i64 1)] [.row (.int .i64) r5.1 .own] [.one (.int .i64 r14.2)] [.row (.int .i64) r14.1 .own] ∧
                           ∃ r15 : Int, SC P 30 [.one (.ro (.int .i64) r14.1), .one (.int .i64 1)] [] [.one (.int .i64 r15)] [] ∧
                            Br (decide (r15 < (0 : Int))) (
                             Ret r lh [.one (.bool false)] []) (
                             Br (!(decide (r15 = r14.2))) (
                              Ret r lh [.one (.bool false)] []) (
                              ∃ r16 : List Int, SC P 50 [.one (.ro (.int .i64) aVals)] [] [.one (.sl 0 none)] [.row (.int .i64) r16 .own] ∧
                               ∃ r17 : List Bool, SC P 24 [.one (.ro .bool aThere)] [] [.one (.sl 0 none)] [.row .bool r17 .own] ∧
                                ∃ r18 : List Int × Bool, SC P 48 [.one (.int .i64 aKind), .one (.ro (.int .i64) r16), .one (.ro .bool r17)] [] [.one (.sl 0 none), .one (.bool r18.2)] [.row (.int .i64) r18.1 .own] ∧
                                 ∃ r19 : Bool, SC P 26 [.one (.ro (.int .i64) r18.1), .one (.ro (.int .i64) r2.1)] [] [.one (.bool r19)] [] ∧
                                  Br (!r19) (
                                   Ret r lh [.one (.bool false)] []) (
                                   Br (r18.2 != r2.2) (
                                    Ret r lh [.one (.bool false)] []) (
                                    ∃ r20 : Int, SC P 30 [.one (.ro (.int .i64) r14.1), .one (.int .i64 1)] [] [.one (.int .i64 r20)] [] ∧
                                     Br (decide (r20 < (0 : Int))) (
                                      Ret r lh [.one (.bool false)] []) (
                                      Br (!(decide (r20 = r14.2))) (
                                       Ret r lh [.one (.bool false)] []) (
                                       Ret r lh [.one (.bool true)] [])))))))))))))))) := by kernel_rfl
theorem c9 (kind : Int) (vals : List Int) (there : List Bool) : SC P 9 [.one (.int .i64 kind), .one (.ro (.int .i64) vals), .one (.ro .bool there)] [] [.one (.bool true)] [] := by
  refine SC_of_FB (H := H9) E_ok Try.func9 (by kernel_rfl) ?_
  rw [eq9]
  refine Br_d (fun _ => ⟨rfl, rfl⟩) (fun h => Br_d (fun _ => ⟨rfl, rfl⟩) (fun h' => ?_))
  have hv : vals.length ≤ 1048576 := by omega
  have ht : there.length ≤ 1048576 := by omega
  have hr : (readDataL kind vals there).length ≤ 1048576 := Nat.le_trans readDataL_len (by omega)
  exact ⟨_, c50 vals hv, _, c24 there ht, (_, _), c49 kind vals there hv ht, _, c50 vals hv, _, c24 there ht, (_, _), c48 kind vals there hv ht, _, c26 _ _ hr, Br_nb (fun e => by simp at e) (fun _ => (Br_ne' ⟨_, c50 vals hv, _, c26 _ _ hv, Br_nb (fun e => by simp at e) (fun _ => ⟨_, c24 there ht, _, c27 _ _ ht, Br_nb (fun e => by simp at e) (fun _ => 
    ⟨(_, _), c29 vals 1 hv (by omega) (by omega), (_, _), c28 there (1 + vals.length) ht (by omega) (by omega), Br_f (by dsimp only; omega) ⟨_, c26 _ _ hr, Br_nb (fun e => by simp at e) (fun _ => (Br_ne' ⟨(_, _), c29 (readDataL kind vals there) 1 hr (by omega) (by omega), _, c30 1 _ hr (by omega) (by omega), Br_f (by omega) (Br_nd (fun e => absurd rfl e) (fun _ =>
    ⟨_, c50 vals hv, _, c24 there ht, (_, _), c48 kind vals there hv ht, _, c26 _ _ hr, Br_nb (fun e => by simp at e) (fun _ => (Br_ne' ⟨_, c30 1 _ hr (by omega) (by omega), Br_f (by omega) (Br_nd (fun e => absurd rfl e) (fun _ => ⟨rfl, rfl⟩))⟩))⟩))⟩))⟩⟩)⟩)⟩))⟩
end Go.Proofs.Ytlebgbcoljnejaa.Sh
