/- What is read of shards: the exact laws. -/
import Derived.Test.YtlebgbcoljnejaaShD1
import Derived.Test.YtlebgbcoljnejaaShS2
namespace Go.Proofs.Ytlebgbcoljnejaa.Sh
open Go
set_option linter.unusedVariables false
set_option linter.unusedSimpArgs false
/-! loop.example/keelson/laws.toBoolS -/
def H24 : Hint := ⟨[[(0, 0, .bool), (3, 0, .bool), (4, 0, .bool)]], [], [], [], [], [], []⟩
def S24_L0 (a0 : List Bool) (i4 : Int) (h0 : List Bool) : St := ⟨[(0, .w (.one (.ro .bool a0))), (3, .w (.one (.sl 0 none))), (4, .w (.one (.int .i64 i4)))], [.row .bool h0 .own]⟩
theorem eq24 (a : List Bool) (r : List W) (lh : Heap) : FB E H24 Try.f24 [.one (.ro .bool a)] [] r lh =
  (
   Ck (decide ((0 : Int) ≤ ((a.length : Nat) : Int))) (
    Ck (decide (((a.length : Nat) : Int) ≤ ((a.length : Nat) : Int))) (
     Ck (decide (((a.length : Nat) : Int) * (1 : Nat) ≤ (roomy : Int))) (
      FL E H24 Try.f24 0 r lh 0 (S24_L0 a 0 (List.replicate (((a.length : Nat) : Int).toNat) (false : Bool))))))) := by kernel_rfl
theorem eq24_L0 (a0 : List Bool) (i4 : Int) (h0 : List Bool) (r : List W) (lh : Heap) : FL1 E H24 Try.f24 0 r lh 0 (S24_L0 a0 i4 h0) =
  (
   Br (decide (i4 < ((a0.length : Nat) : Int))) (
    Ck (decide ((0 : Int) ≤ i4)) (
     Ck (decide (i4 < ((a0.length : Nat) : Int))) (
      Ck (decide ((0 : Int) ≤ i4)) (
       Ck (decide (i4 < ((h0.length : Nat) : Int))) (
        Ck (Nat.ble (i4.toNat + 1) h0.length) (
         FL E H24 Try.f24 0 r lh 0 (S24_L0 a0 (IntKind.wrap .i64 (i4 + 1)) (h0.set i4.toNat (a0.getD i4.toNat false))))))))) (
    Ret r lh [.one (.sl 0 none)] [.row .bool h0 .own])) := by kernel_rfl
theorem l24 (l : List Bool) (hl : l.length ≤ 1048576) : ∀ (n i : Nat) (out : List Bool), i + n = l.length → out.length = l.length → (∀ j, j < i → out[j]? = l[j]?) → FL E H24 Try.f24 0 [.one (.sl 0 none)] [.row (.bool) l .own] 0 (S24_L0 l (i : Int) out)
  | 0, i, out, h, ho, H => by
    refine FL_of1 ?_
    rw [eq24_L0]
    obtain rfl : out = l := fill_done ho fun j hj => H j (by omega)
    exact Br_f (by omega) ⟨rfl, rfl⟩
  | n + 1, i, out, h, ho, H => by
    refine FL_of1 ?_
    rw [eq24_L0, wS (by omega)]
    simp only [Int.toNat_natCast]
    refine Br_t (by omega) (Ck_d (by omega) (Ck_d (by omega) (Ck_d (by omega) (Ck_d (by omega) (Ck_le (by omega) ?_)))))
    refine l24 l hl n (i + 1) _ (by omega) (by simp [ho]) (fill_step ho ?_ H)
    rw [getD_eq (show i < l.length by omega)]
    exact List.getElem?_eq_getElem _
theorem c24 (l : List Bool) (hl : l.length ≤ 1048576) : SC P 24 [.one (.ro (.bool) l)] [] [.one (.sl 0 none)] [.row (.bool) l .own] := by
  refine SC_of_FB (H := H24) E_ok Try.func24 (by kernel_rfl) ?_
  rw [eq24]
  refine Ck_d (by omega) (Ck_d (by omega) (Ck_roomI (by omega) ?_))
  exact l24 l hl l.length 0 _ (by omega) (by simp) (fun j hj => absurd hj (by omega))
/-! loop.example/keelson/laws.eqBoolS -/
def H27 : Hint := ⟨[[(0, 0, .bool), (1, 0, .bool), (5, 0, .bool)]], [], [(6, [0, 1, 2, 3, 4, 5, 6, 7, 8])], [], [], [], []⟩
def S27_L0 (a0 : List Bool) (b1 : List Bool) (i5 : Int) : St := ⟨[(0, .w (.one (.ro .bool a0))), (1, .w (.one (.ro .bool b1))), (5, .w (.one (.int .i64 i5)))], []⟩
theorem eq27 (a : List Bool) (b : List Bool) (r : List W) (lh : Heap) : FB E H27 Try.f27 [.one (.ro .bool a), .one (.ro .bool b)] [] r lh =
  (
   Br (!(decide (((a.length : Nat) : Int) = ((b.length : Nat) : Int)))) (
    Ret r lh [.one (.bool false)] []) (
    FL E H27 Try.f27 0 r lh 0 (S27_L0 a b 0))) := by kernel_rfl
theorem eq27_L0 (a0 : List Bool) (b1 : List Bool) (i5 : Int) (r : List W) (lh : Heap) : FL1 E H27 Try.f27 0 r lh 0 (S27_L0 a0 b1 i5) =
  (
   Br (decide (i5 < ((a0.length : Nat) : Int))) (
    Ck (decide ((0 : Int) ≤ i5)) (
     Ck (decide (i5 < ((a0.length : Nat) : Int))) (
      Ck (decide ((0 : Int) ≤ i5)) (
       Ck (decide (i5 < ((b1.length : Nat) : Int))) (
        Br ((a0.getD i5.toNat false) != (b1.getD i5.toNat false)) (
         Ret r lh [.one (.bool false)] []) (
         FL E H27 Try.f27 0 r lh 0 (S27_L0 a0 b1 (IntKind.wrap .i64 (i5 + 1))))))))) (
    Ret r lh [.one (.bool true)] [])) := by kernel_rfl
theorem l27 (a b : List Bool) (hl : a.length ≤ 1048576) (hb : a.length = b.length) : ∀ (n i : Nat), i + n = a.length → FL E H27 Try.f27 0 [.one (.bool (allR (fun j => decide (a.getD j false = b.getD j false)) i n))] [] 0 (S27_L0 a b (i : Int))
  | 0, i, h => by
    refine FL_of1 ?_
    rw [eq27_L0]
    exact Br_f (by omega) ⟨rfl, rfl⟩
  | n + 1, i, h => by
    refine FL_of1 ?_
    rw [eq27_L0, wS (by omega)]
    simp only [Int.toNat_natCast]
    refine Br_t (by omega) (Ck_d (by omega) (Ck_d (by omega) (Ck_d (by omega) (Ck_d (by omega) (Br_b (fun h1 => ?_) (fun h1 => ?_))))))
    · exact ⟨by rw [allR_f (by simpa using h1)], rfl⟩
    · rw [allR_t (by simpa using h1)]
      exact l27 a b hl hb n (i + 1) (by omega)
theorem c27 (a b : List Bool) (hl : a.length ≤ 1048576) : SC P 27 [.one (.ro (.bool) a), .one (.ro (.bool) b)] [] [.one (.bool (decide (a = b)))] [] := by
  refine SC_of_FB (H := H27) E_ok Try.func27 (by kernel_rfl) ?_
  rw [eq27]
  refine Br_nd (fun h => ⟨?_, rfl⟩) (fun h => ?_)
  · rw [decide_eq_false (by rintro rfl; exact h rfl)]
  · have h : a.length = b.length := by omega
    rw [← eqR (z := false) h]
    exact l27 a b hl h a.length 0 (by omega)
/-! loop.example/keelson/laws.markBoolS -/
def H28 : Hint := ⟨[[(0, 0, .bool), (1, 0, .bool), (5, 0, .bool)]], [], [], [], [], [], []⟩
def S28_L0 (k1 : Int) (i5 : Int) (h0 : List Bool) : St := ⟨[(0, .w (.one (.sl 0 none))), (1, .w (.one (.int .i64 k1))), (5, .w (.one (.int .i64 i5)))], [.row .bool h0 .own]⟩
theorem eq28 (l : List Bool) (k : Int) (r : List W) (lh : Heap) : FB E H28 Try.f28 [.one (.sl 0 none), .one (.int .i64 k)] [.row .bool l .own] r lh =
  (
   FL E H28 Try.f28 1 r lh 0 (S28_L0 k 0 l)) := by kernel_rfl
theorem eq28_L0 (k1 : Int) (i5 : Int) (h0 : List Bool) (r : List W) (lh : Heap) : FL1 E H28 Try.f28 1 r lh 0 (S28_L0 k1 i5 h0) =
  (
   Br (decide (i5 < ((h0.length : Nat) : Int))) (
    Ck (decide ((0 : Int) ≤ i5)) (
     Ck (decide (i5 < ((h0.length : Nat) : Int))) (
      Ck (Nat.ble (i5.toNat + 1) h0.length) (
       FL E H28 Try.f28 1 r lh 0 (S28_L0 (IntKind.wrap .i64 (k1 + 1)) (IntKind.wrap .i64 (i5 + 1)) (h0.set i5.toNat (decide ((Int.tmod k1 3) = (0 : Int))))))))) (
    Ret r lh [.one (.int .i64 k1)] [.row .bool h0 .own])) := by kernel_rfl
theorem l28 (k : Int) (m : Nat) (hm : m ≤ 1048576) (k0 : 0 ≤ k) (k1 : k ≤ 1073741824) : ∀ (n i : Nat) (out : List Bool), i + n = m → out.length = m → (∀ j, j < i → out[j]? = (marks (fun k : Int => decide (Int.tmod k 3 = 0)) k m)[j]?) →
    FL E H28 Try.f28 1 [.one (.int .i64 (k + m))] [.row (.bool) (marks (fun k : Int => decide (Int.tmod k 3 = 0)) k m) .own] 0 (S28_L0 (k + (i : Int)) (i : Int) out)
  | 0, i, out, h, ho, H => by
    refine FL_of1 ?_
    rw [eq28_L0]
    obtain rfl : out = marks (fun k : Int => decide (Int.tmod k 3 = 0)) k m := fill_done (by rw [marks_length]; exact ho) fun j hj => H j (by rw [marks_length] at hj; omega)
    refine Br_f (by omega) ⟨?_, rfl⟩
    rw [show (i : Int) = m by omega]
  | n + 1, i, out, h, ho, H => by
    refine FL_of1 ?_
    rw [eq28_L0, wS (by omega), wrap64 (n := k + (i : Int) + 1) (by omega) (by omega), show k + (i : Int) + 1 = k + ((i + 1 : Nat) : Int) by omega]
    simp only [Int.toNat_natCast]
    refine Br_t (by omega) (Ck_d (by omega) (Ck_d (by omega) (Ck_le (by omega) ?_)))
    exact l28 k m hm k0 k1 n (i + 1) _ (by omega) (by simp [ho]) (fill_step (by rw [marks_length]; exact ho) (by rw [marks_get (by omega)]) H)
theorem c28 (l : List Bool) (k : Int) (hl : l.length ≤ 1048576) (k0 : 0 ≤ k) (k1 : k ≤ 1073741824) : SC P 28 [.one (.sl 0 none), .one (.int .i64 k)] [.row (.bool) l .own] [.one (.int .i64 (k + l.length))] [.row (.bool) (marks (fun k : Int => decide (Int.tmod k 3 = 0)) k l.length) .own] := by
  refine SC_of_FB (H := H28) E_ok Try.func28 (by kernel_rfl) ?_
  rw [eq28]
  have := l28 k l.length hl k0 k1 l.length 0 l (by omega) rfl (fun j hj => absurd hj (by omega))
  rw [show k + ((0 : Nat) : Int) = k by omega] at this
  exact this
theorem Br_ne' {b : Bool} {A B : Prop} (h : B) : Br (b != b) A B := by cases b <;> exact h
theorem readFromF_len {kind : Int} {there : List Bool} : (readFromF kind there).length ≤ 8 := by
  rw [readFromF]
  cases h : codeBears kind there
  · exact Nat.zero_le _
  · rw [codeBears, Bool.and_eq_true, Bool.and_eq_true, decide_eq_true_iff] at h
    have := spanF_len (rowsF kind (flagF there))
    have h1 : (rowsF kind (flagF there)).length = (flagF there).length := List.length_map _
    have := (flag_ok h.2.1).len
    rw [cond_true, List.length_map]
    omega
/-! loop.example/keelson/laws.FnExactReadFrom -/
def H4 : Hint := ⟨[], [], [], [], [], [], []⟩
theorem eq4 (aKind : Int) (aThere : List Bool) (r : List W) (lh : Heap) : FB E H4 Try.f4 [.one (.int .i64 aKind), .one (.ro .bool aThere)] [] r lh =
  (
   Br (decide ((1048576 : Int) < ((aThere.length : Nat) : Int))) (
    Ret r lh [.one (.bool true)] []) (
    ∃ r0 : List Bool, SC P 24 [.one (.ro .bool aThere)] [] [.one (.sl 0 none)] [.row .bool r0 .own] ∧
     ∃ r1 : List Int, SC P 23 [.one (.int .i64 aKind), .one (.ro .bool r0)] [] [.one (.sl 0 none)] [.row (.int .i64) r1 .own] ∧
      ∃ r2 : List Bool, SC P 24 [.one (.ro .bool aThere)] [] [.one (.sl 0 none)] [.row .bool r2 .own] ∧
       ∃ r3 : List Int, SC P 25 [.one (.int .i64 aKind), .one (.ro .bool r2)] [] [.one (.sl 0 none)] [.row (.int .i64) r3 .own] ∧
        ∃ r4 : Bool, SC P 26 [.one (.ro (.int .i64) r3), .one (.ro (.int .i64) r1)] [] [.one (.bool r4)] [] ∧
         Br (!r4) (
          Ret r lh [.one (.bool false)] []) (
          ∃ r5 : List Bool, SC P 24 [.one (.ro .bool aThere)] [] [.one (.sl 0 none)] [.row .bool r5 .own] ∧
           ∃ r6 : Bool, SC P 27 [.one (.ro .bool r2), .one (.ro .bool r5)] [] [.one (.bool r6)] [] ∧
            Br (!r6) (
             Ret r lh [.one (.bool false)] []) (
             ∃ r7 : List Bool × Int, SC P 28 [.one (.sl 0 none), .one (.int .i64 1)] [.row .bool r2 .own] [.one (.int .i64 r7.2)] [.row .bool r7.1 .own] ∧
              Br (decide (r7.2 < (0 : Int))) (
               Ret r lh [.one (.bool false)] []) (
               ∃ r8 : Bool, SC P 26 [.one (.ro (.int .i64) r3), .one (.ro (.int .i64) r1)] [] [.one (.bool r8)] [] ∧
                Br (!r8) (
                 Ret r lh [.one (.bool false)] []) (
                 ∃ r9 : List Int × Int, SC P 29 [.one (.sl 0 none), .one (.int .i64 1)] [.row (.int .i64) r3 .own] [.one (.int .i64 r9.2)] [.row (.int .i64) r9.1 .own] ∧
                  ∃ r10 : Int, SC P 30 [.one (.ro (.int .i64) r9.1), .one (.int .i64 1)] [] [.one (.int .i64 r10)] [] ∧
                   Br (decide (r10 < (0 : Int))) (
                    Ret r lh [.one (.bool false)] []) (
                    Br (!(decide (r10 = r9.2))) (
                     Ret r lh [.one (.bool false)] []) (
                     ∃ r11 : List Bool, SC P 24 [.one (.ro .bool aThere)] [] [.one (.sl 0 none)] [.row .bool r11 .own] ∧
                      ∃ r12 : List Int, SC P 25 [.one (.int .i64 aKind), .one (.ro .bool r11)] [] [.one (.sl 0 none)] [.row (.int .i64) r12 .own] ∧
                       ∃ r13 : Bool, SC P 26 [.one (.ro (.int .i64) r12), .one (.ro (.int .i64) r1)] [] [.one (.bool r13)] [] ∧
                        Br (!r13) (
                         Ret r lh [.one (.bool false)] []) (
                         ∃ r14 : Int, SC P 30 [.one (.ro (.int .i64) r9.1), .one (.int .i64 1)] [] [.one (.int .i64 r14)] [] ∧
                          Br (decide (r14 < (0 : Int))) (
                           Ret r lh [.one (.bool false)] []) (
                           Br (!(decide (r14 = r9.2))) (
                            Ret r lh [.one (.bool false)] []) (
                            Ret r lh [.one (.bool true)] []))))))))))) := by kernel_rfl
theorem c4 (kind : Int) (there : List Bool) : SC P 4 [.one (.int .i64 kind), .one (.ro .bool there)] [] [.one (.bool true)] [] := by
  refine SC_of_FB (H := H4) E_ok Try.func4 (by kernel_rfl) ?_
  rw [eq4]
  refine Br_d (fun _ => ⟨rfl, rfl⟩) (fun h => ?_)
  have ht : there.length ≤ 1048576 := by omega
  have hr : (readFromF kind there).length ≤ 1048576 := Nat.le_trans readFromF_len (by omega)
  exact ⟨_, c24 there ht, _, c23 kind there, _, c24 there ht, _, c25 kind there ht, _, c26 _ _ hr, Br_nb (fun e => by simp at e) (fun _ => ⟨_, c24 there ht, _, c27 _ _ ht, Br_nb (fun e => by simp at e) (fun _ => ⟨(_, _), c28 there 1 ht (by omega) (by omega), Br_f (by dsimp only; omega) ⟨_, c26 _ _ hr, Br_nb (fun e => by simp at e) (fun _ => ⟨(_, _), c29 (readFromF kind there) 1 hr (by omega) (by omega), _, c30 1 _ hr (by omega) (by omega), Br_f (by omega) (Br_nd (fun e => absurd rfl e) (fun _ =>
    ⟨_, c24 there ht, _, c25 kind there ht, _, c26 _ _ hr, Br_nb (fun e => by simp at e) (fun _ => ⟨_, c30 1 _ hr (by omega) (by omega), Br_f (by omega) (Br_nd (fun e => absurd rfl e) (fun _ => ⟨rfl, rfl⟩))⟩)⟩))⟩)⟩⟩)⟩)⟩
/-! loop.example/keelson/laws.FnExactReadData -/
def H9 : Hint := ⟨[], [], [], [], [], [], []⟩
theorem eq9 (aKind : Int) (aVals : List Int) (aThere : List Bool) (r : List W) (lh : Heap) : FB E H9 Try.f9 [.one (.int .i64 aKind), .one (.ro (.int .i64) aVals), .one (.ro .bool aThere)] [] r lh =
  (
   Br (decide ((1048576 : Int) < ((aVals.length : Nat) : Int))) (
    Ret r lh [.one (.bool true)] []) (
    Br (decide ((1048576 : Int) < ((aThere.length : Nat) : Int))) (
     Ret r lh [.one (.bool true)] []) (
     ∃ r0 : List Int, SC P 50 [.one (.ro (.int .i64) aVals)] [] [.one (.sl 0 none)] [.row (.int .i64) r0 .own] ∧
      ∃ r1 : List Bool, SC P 24 [.one (.ro .bool aThere)] [] [.one (.sl 0 none)] [.row .bool r1 .own] ∧
       ∃ r2 : List Int × Bool, SC P 49 [.one (.int .i64 aKind), .one (.ro (.int .i64) r0), .one (.ro .bool r1)] [] [.one (.sl 0 none), .one (.bool r2.2)] [.row (.int .i64) r2.1 .own] ∧
        ∃ r3 : List Int, SC P 50 [.one (.ro (.int .i64) aVals)] [] [.one (.sl 0 none)] [.row (.int .i64) r3 .own] ∧
         ∃ r4 : List Bool, SC P 24 [.one (.ro .bool aThere)] [] [.one (.sl 0 none)] [.row .bool r4 .own] ∧
          ∃ r5 : List Int × Bool, SC P 48 [.one (.int .i64 aKind), .one (.ro (.int .i64) r3), .one (.ro .bool r4)] [] [.one (.sl 0 none), .one (.bool r5.2)] [.row (.int .i64) r5.1 .own] ∧
           ∃ r6 : Bool, SC P 26 [.one (.ro (.int .i64) r5.1), .one (.ro (.int .i64) r2.1)] [] [.one (.bool r6)] [] ∧
            Br (!r6) (
             Ret r lh [.one (.bool false)] []) (
             Br (r5.2 != r2.2) (
              Ret r lh [.one (.bool false)] []) (
              ∃ r7 : List Int, SC P 50 [.one (.ro (.int .i64) aVals)] [] [.one (.sl 0 none)] [.row (.int .i64) r7 .own] ∧
               ∃ r8 : Bool, SC P 26 [.one (.ro (.int .i64) r3), .one (.ro (.int .i64) r7)] [] [.one (.bool r8)] [] ∧
                Br (!r8) (
                 Ret r lh [.one (.bool false)] []) (
                 ∃ r9 : List Bool, SC P 24 [.one (.ro .bool aThere)] [] [.one (.sl 0 none)] [.row .bool r9 .own] ∧
                  ∃ r10 : Bool, SC P 27 [.one (.ro .bool r4), .one (.ro .bool r9)] [] [.one (.bool r10)] [] ∧
                   Br (!r10) (
                    Ret r lh [.one (.bool false)] []) (
                    ∃ r11 : List Int × Int, SC P 29 [.one (.sl 0 none), .one (.int .i64 1)] [.row (.int .i64) r3 .own] [.one (.int .i64 r11.2)] [.row (.int .i64) r11.1 .own] ∧
                     ∃ r12 : List Bool × Int, SC P 28 [.one (.sl 0 none), .one (.int .i64 r11.2)] [.row .bool r4 .own] [.one (.int .i64 r12.2)] [.row .bool r12.1 .own] ∧
                      Br (decide (r12.2 < (0 : Int))) (
                       Ret r lh [.one (.bool false)] []) (
                       ∃ r13 : Bool, SC P 26 [.one (.ro (.int .i64) r5.1), .one (.ro (.int .i64) r2.1)] [] [.one (.bool r13)] [] ∧
                        Br (!r13) (
                         Ret r lh [.one (.bool false)] []) (
                         Br (r5.2 != r2.2) (
                          Ret r lh [.one (.bool false)] []) (
                          ∃ r14 : List Int × Int, SC P 29 [.one (.sl 0 none), .one (.int .i64 1)] [.row (.int .i64) r5.1 .own] [.one (.int .i64 r14.2)] [.row (.int .i64) r14.1 .own] ∧
                           ∃ r15 : Int, SC P 30 [.one (.ro (.int .i64) r14.1), .one (.int .i64 1)] [] [.one (.int .i64 r15)] [] ∧
                            Br (decide (r15 < (0 : Int))) (
                             Ret r lh [.one (.bool false)] []) (
                             Br (!(decide (r15 = r14.2))) (
                              Ret r lh [.one (.bool false)] []) (
                              ∃ r16 : List Int, SC P 50 [.one (.ro (.int .i64) aVals)] [] [.one (.sl 0 none)] [.row (.int .i64) r16 .own] ∧
                               ∃ r17 : List Bool, SC P 24 [.one (.ro .bool aThere)] [] [.one (.sl 0 none)] [.row .bool r17 .own] ∧
                                ∃ r18 : List Int × Bool, SC P 48 [.one (.int .i64 aKind), .one (.ro (.int .i64) r16), .one (.ro .bool r17)] [] [.one (.sl 0 none), .one (.bool r18.2)] [.row (.int .i64) r18.1 .own] ∧
                                 ∃ r19 : Bool, SC P 26 [.one (.ro (.int .i64) r18.1), .one (.ro (.int .i64) r2.1)] [] [.one (.bool r19)] [] ∧
                                  Br (!r19) (
                                   Ret r lh [.one (.bool false)] []) (
                                   Br (r18.2 != r2.2) (
                                    Ret r lh [.one (.bool false)] []) (
                                    ∃ r20 : Int, SC P 30 [.one (.ro (.int .i64) r14.1), .one (.int .i64 1)] [] [.one (.int .i64 r20)] [] ∧
                                     Br (decide (r20 < (0 : Int))) (
                                      Ret r lh [.one (.bool false)] []) (
                                      Br (!(decide (r20 = r14.2))) (
                                       Ret r lh [.one (.bool false)] []) (
                                       Ret r lh [.one (.bool true)] [])))))))))))))))) := by kernel_rfl
theorem c9 (kind : Int) (vals : List Int) (there : List Bool) : SC P 9 [.one (.int .i64 kind), .one (.ro (.int .i64) vals), .one (.ro .bool there)] [] [.one (.bool true)] [] := by
  refine SC_of_FB (H := H9) E_ok Try.func9 (by kernel_rfl) ?_
  rw [eq9]
  refine Br_d (fun _ => ⟨rfl, rfl⟩) (fun h => Br_d (fun _ => ⟨rfl, rfl⟩) (fun h' => ?_))
  have hv : vals.length ≤ 1048576 := by omega
  have ht : there.length ≤ 1048576 := by omega
  have hr : (readDataL kind vals there).length ≤ 1048576 := Nat.le_trans readDataL_len (by omega)
  exact ⟨_, c50 vals hv, _, c24 there ht, (_, _), c49 kind vals there hv ht, _, c50 vals hv, _, c24 there ht, (_, _), c48 kind vals there hv ht, _, c26 _ _ hr, Br_nb (fun e => by simp at e) (fun _ => (Br_ne' ⟨_, c50 vals hv, _, c26 _ _ hv, Br_nb (fun e => by simp at e) (fun _ => ⟨_, c24 there ht, _, c27 _ _ ht, Br_nb (fun e => by simp at e) (fun _ => 
    ⟨(_, _), c29 vals 1 hv (by omega) (by omega), (_, _), c28 there (1 + vals.length) ht (by omega) (by omega), Br_f (by dsimp only; omega) ⟨_, c26 _ _ hr, Br_nb (fun e => by simp at e) (fun _ => (Br_ne' ⟨(_, _), c29 (readDataL kind vals there) 1 hr (by omega) (by omega), _, c30 1 _ hr (by omega) (by omega), Br_f (by omega) (Br_nd (fun e => absurd rfl e) (fun _ =>
    ⟨_, c50 vals hv, _, c24 there ht, (_, _), c48 kind vals there hv ht, _, c26 _ _ hr, Br_nb (fun e => by simp at e) (fun _ => (Br_ne' ⟨_, c30 1 _ hr (by omega) (by omega), Br_f (by omega) (Br_nd (fun e => absurd rfl e) (fun _ => ⟨rfl, rfl⟩))⟩))⟩))⟩))⟩⟩)⟩)⟩))⟩
/-! ## ShL2 -/
theorem allF_get (kind : Int) (v : V4) {i : Int} (h0 : 0 ≤ i) (h1 : i ≤ 7) : (allF kind v).getD i.toNat 0 = dotF (rowV kind i) v := by
  rw [allF, mapR_get (show i.toNat < 8 by omega)]
  rw [show ((0 + i.toNat : Nat) : Int) = i by omega]
theorem allF_p (kind : Int) (v : V4) : ValsP (allF kind v) := ⟨allF_length _ _, (mapR_ok (n := 8) fun j => fok_mod _).ok⟩
/-- shards of numbers: they fit, and the numbers come back, if they are enough -/
theorem all_read {kind : Int} {v : V4} (hv : VOk v) {p : List Int} (hs : ShOk p) (h8 : p.length ≤ 8) (hid : idOk kind p = true) : fitsI kind (allF kind v) p = true ∧ solveI kind (allF kind v) p = v :=
  ⟨id_fits h8 hid hv fun i hi => allF_get kind v (hs i hi).1 (hs i hi).2, id_solve h8 hid hv fun i hi => allF_get kind v (hs i hi).1 (hs i hi).2⟩
theorem all_data {kind : Int} (hk : inB kind 1 2 = true) {v : V4} (hv : VOk v) {there : List Bool} (h8 : there.length = 8) : readDataOk kind (allF kind v) there = codeBears kind there ∧ (codeBears kind there = true → readDataL kind (allF kind v) there = v.l) := by
  have hcb : codeBears kind there = bearsI kind (flagF there) := by rw [codeBears, hk, decide_eq_true h8]; rfl
  have hrd : readDataOk kind (allF kind v) there = readOk kind (allF kind v) (flagF there) := by rw [readDataOk, hk, p_vals (allF_p kind v), decide_eq_true h8]; rfl
  rw [readDataL, hrd, hcb, readOk]
  cases hb : bearsI kind (flagF there) with
  | false => exact ⟨rfl, fun h => by cases h⟩
  | true =>
    obtain ⟨s1, s2⟩ := flag_sh h8
    obtain ⟨a1, a2⟩ := all_read hv s1 s2 (set_id hk h8 hb)
    rw [a1, a2]
    exact ⟨rfl, fun _ => rfl⟩
theorem codeAll_cases (kind : Int) (d : List Int) : codeAll kind d = [] ∨ (inB kind 1 2 = true ∧ ∃ v : V4, VOk v ∧ d = v.l ∧ codeAll kind d = allF kind v) := by
  rw [codeAll]
  cases h : inB kind 1 2 && vecOk d
  · exact .inl rfl
  · rw [Bool.and_eq_true] at h
    obtain ⟨v, hv, rfl⟩ := vecOk_v h.2
    exact .inr ⟨h.1, v, hv, rfl, by rw [vecF_l hv]; rfl⟩
theorem Br_bne {a b : Bool} {A B : Prop} (e : a = b) (h : B) : Br (a != b) A B := by subst e; cases a <;> exact h
theorem Br_beq {a b : Bool} {A B : Prop} (e : a = b) (h : A) : Br (a == b) A B := by subst e; cases a <;> exact h
/-! loop.example/keelson/laws.FnReadBack -/
def H8 : Hint := ⟨[[(1, 0, .bool), (5, 0, .bool), (6, 0, .bool), (7, 0, .bool), (8, 0, .bool)]], [], [], [], [], [], []⟩
def S8_L0 (more1 : List Int) (kind5 : Int) (d6 : List Int) (i8 : Int) (h0 : List Int) : St := ⟨[(1, .w (.one (.ro (.int .u8) more1))), (5, .w (.one (.int .i64 kind5))), (6, .w (.one (.ro (.int .i64) d6))), (7, .w (.one (.sl 0 none))), (8, .w (.one (.int .i64 i8)))], [.row (.int .i64) h0 .own]⟩
theorem eq8 (code : List Int) (more : List Int) (r : List W) (lh : Heap) : FB E H8 Try.f8 [.one (.ro (.int .u8) code), .one (.ro (.int .u8) more)] [] r lh =
  (
   Br (decide ((1048576 : Int) < ((code.length : Nat) : Int))) (
    Ret r lh [.one (.bool true)] []) (
    Br (decide ((1048576 : Int) < ((more.length : Nat) : Int))) (
     Ret r lh [.one (.bool true)] []) (
     ∃ r0 : Int × List Int, SC P 44 [.one (.ro (.int .u8) code)] [] [.one (.int .i64 r0.1), .one (.ro (.int .i64) r0.2)] [] ∧
      ∃ r1 : List Int, SC P 36 [.one (.int .i64 r0.1), .one (.ro (.int .i64) r0.2)] [] [.one (.sl 0 none)] [.row (.int .i64) r1 .own] ∧
       ∃ r2 : List Int, SC P 45 [.one (.int .i64 r0.1), .one (.ro (.int .i64) r0.2)] [] [.one (.sl 0 none)] [.row (.int .i64) r2 .own] ∧
        ∃ r3 : Bool, SC P 33 [.one (.ro (.int .i64) r1), .one (.ro (.int .i64) r2)] [] [.one (.bool r3)] [] ∧
         Br (!r3) (
          ∃ r4 : List Int, SC P 45 [.one (.int .i64 r0.1), .one (.ro (.int .i64) r0.2)] [] [.one (.sl 0 none)] [.row (.int .i64) r4 .own] ∧
           ∃ r5 : Bool, SC P 33 [.one (.ro (.int .i64) r1), .one (.ro (.int .i64) r4)] [] [.one (.bool r5)] [] ∧
            Ret r lh [.one (.bool r5)] []) (
          Br (decide (((r1.length : Nat) : Int) = (0 : Int))) (
           ∃ r6 : List Int, SC P 45 [.one (.int .i64 r0.1), .one (.ro (.int .i64) r0.2)] [] [.one (.sl 0 none)] [.row (.int .i64) r6 .own] ∧
            ∃ r7 : Bool, SC P 33 [.one (.ro (.int .i64) r1), .one (.ro (.int .i64) r6)] [] [.one (.bool r7)] [] ∧
             Ret r lh [.one (.bool r7)] []) (
           FL E H8 Try.f8 0 r lh 0 (S8_L0 more r0.1 r0.2 0 r1)))))) := by kernel_rfl
theorem eq8_L0 (more1 : List Int) (kind5 : Int) (d6 : List Int) (i8 : Int) (h0 : List Int) (r : List W) (lh : Heap) : FL1 E H8 Try.f8 0 r lh 0 (S8_L0 more1 kind5 d6 i8 h0) =
  (
   Br (decide (i8 < (5 : Int))) (
    ∃ r0 : List Bool, SC P 47 [.one (.int .i64 (Int.tmod (IntKind.wrap .i64 ((IntKind.wrap .i64 (((more1.length : Nat) : Int) * 31)) + (IntKind.wrap .i64 (i8 * 77)))) 256))] [] [.one (.sl 0 none)] [.row .bool r0 .own] ∧
     ∃ r1 : List Int × Bool, SC P 48 [.one (.int .i64 kind5), .one (.ro (.int .i64) h0), .one (.ro .bool r0)] [] [.one (.sl 0 none), .one (.bool r1.2)] [.row (.int .i64) r1.1 .own] ∧
      ∃ r2 : Bool, SC P 21 [.one (.int .i64 kind5), .one (.ro .bool r0)] [] [.one (.bool r2)] [] ∧
       Br (r1.2 != r2) (
        Ret r lh [.one (.bool false)] []) (
        Br r1.2 (
         ∃ r3 : Bool, SC P 33 [.one (.ro (.int .i64) r1.1), .one (.ro (.int .i64) d6)] [] [.one (.bool r3)] [] ∧
          Br (!r3) (
           Ret r lh [.one (.bool false)] []) (
           FL E H8 Try.f8 0 r lh 0 (S8_L0 more1 kind5 d6 (IntKind.wrap .i64 (i8 + 1)) h0))) (
         FL E H8 Try.f8 0 r lh 0 (S8_L0 more1 kind5 d6 (IntKind.wrap .i64 (i8 + 1)) h0)))) (
    Ret r lh [.one (.bool true)] [])) := by kernel_rfl
theorem l8 (more : List Int) (hm : more.length ≤ 1048576) (kind : Int) (hk : inB kind 1 2 = true) (v : V4) (hv : VOk v) : ∀ (n i : Nat), i + n = 5 → FL E H8 Try.f8 0 [.one (.bool true)] [] 0 (S8_L0 more kind v.l (i : Int) (allF kind v))
  | 0, i, h => by
    refine FL_of1 ?_
    rw [eq8_L0]
    exact Br_f (by omega) ⟨rfl, rfl⟩
  | n + 1, i, h => by
    refine FL_of1 ?_
    rw [eq8_L0, wS (i := i) (by omega), wrap64 (n := (more.length : Int) * 31) (by omega) (by omega), wrap64 (n := (i : Int) * 77) (by omega) (by omega), wrap64 (n := (more.length : Int) * 31 + (i : Int) * 77) (by omega) (by omega), Int.tmod_eq_emod_of_nonneg (by omega)]
    have hb0 : 0 ≤ ((more.length : Int) * 31 + (i : Int) * 77) % 256 := by omega
    have hb1 : ((more.length : Int) * 31 + (i : Int) * 77) % 256 < 256 := by omega
    generalize ((more.length : Int) * 31 + (i : Int) * 77) % 256 = bits at hb0 hb1
    have hl8 := thereB_len 8 bits.toNat
    obtain ⟨a1, a2⟩ := all_data hk hv (there := thereB 8 bits.toNat) hl8
    have hal := allF_length kind v
    have hrl := readDataL_len (kind := kind) (vals := allF kind v) (there := thereB 8 bits.toNat)
    have sR := c48 kind (allF kind v) (thereB 8 bits.toNat) (by omega) (by omega)
    have sC := c21 kind (thereB 8 bits.toNat) (by omega)
    rw [a1] at sR
    generalize readDataL kind (allF kind v) (thereB 8 bits.toNat) = L at hrl sR a2
    generalize codeBears kind (thereB 8 bits.toNat) = O at sR sC a2
    refine Br_t (by omega) ⟨_, c47 bits hb0 hb1, (L, O), sR, O, sC, Br_bne rfl ?_⟩
    refine Br_b (fun e => ?_) (fun e => l8 more hm kind hk v hv n (i + 1) (by omega))
    have hvl : v.l.length = 4 := rfl
    have sI := c33 v.l L (by omega)
    rw [a2 e, decide_eq_true rfl] at sI
    refine ⟨true, by rw [← a2 e]; rw [← a2 e] at sI; exact sI, ?_⟩
    exact Br_nb (fun e => by cases e) (fun _ => l8 more hm kind hk v hv n (i + 1) (by omega))
theorem c8 (code more : List Int) (hc : Bytes code) : SC P 8 [.one (.ro (.int .u8) code), .one (.ro (.int .u8) more)] [] [.one (.bool true)] [] := by
  refine SC_of_FB (H := H8) E_ok Try.func8 (by kernel_rfl) ?_
  rw [eq8]
  refine Br_d (fun _ => ⟨rfl, rfl⟩) (fun hcl => ?_)
  refine Br_d (fun _ => ⟨rfl, rfl⟩) (fun hml => ?_)
  obtain ⟨kind, d, hd, s0⟩ := c44 code hc
  have hal := codeAll_len (kind := kind) (d := d)
  have sE := c33 (codeAll kind d) (codeAll kind d) (by omega)
  rw [decide_eq_true rfl] at sE
  refine ⟨(kind, d), s0, _, c36 kind d (by omega), _, c45 kind d (by omega), _, sE, Br_nb (fun e => by cases e) (fun _ => Br_d (fun e => ⟨_, c45 kind d (by omega), _, sE, rfl, rfl⟩) (fun e => ?_))⟩
  rcases codeAll_cases kind d with h | ⟨hk, v, hv, rfl, h⟩
  · rw [h] at e; exact absurd rfl e
  · rw [h]
    exact l8 more (by omega) kind hk v hv 5 0 rfl
/-! loop.example/keelson/laws.FnReadFits -/
def H10 : Hint := ⟨[[(4, 0, .bool), (5, 0, .bool), (9, 0, .bool), (10, 0, .bool), (11, 0, .bool)]], [], [(14, [0, 1, 2, 3, 4, 5, 6, 7, 8, 9, 10, 11, 12, 13, 14])], [], [], [], []⟩
def S10_L0 (there5 : List Bool) (ok9 : Bool) (i11 : Int) (h0 : List Int) (h1 : List Int) : St := ⟨[(4, .w (.one (.sl 0 none))), (5, .w (.one (.ro .bool there5))), (9, .w (.one (.bool ok9))), (10, .w (.one (.sl 1 none))), (11, .w (.one (.int .i64 i11)))], [.row (.int .i64) h0 .own, .row (.int .i64) h1 .own]⟩
theorem eq10 (code : List Int) (r : List W) (lh : Heap) : FB E H10 Try.f10 [.one (.ro (.int .u8) code)] [] r lh =
  (
   Br (decide ((1048576 : Int) < ((code.length : Nat) : Int))) (
    Ret r lh [.one (.bool true)] []) (
    ∃ r0 : Int × List Int × List Bool, SC P 51 [.one (.ro (.int .u8) code)] [] [.one (.int .i64 r0.1), .one (.sl 0 none), .one (.ro .bool r0.2.2)] [.row (.int .i64) r0.2.1 .own] ∧
     ∃ r1 : List Int × Bool, SC P 49 [.one (.int .i64 r0.1), .one (.ro (.int .i64) r0.2.1), .one (.ro .bool r0.2.2)] [] [.one (.sl 0 none), .one (.bool r1.2)] [.row (.int .i64) r1.1 .own] ∧
      ∃ r2 : List Int × Bool, SC P 48 [.one (.int .i64 r0.1), .one (.ro (.int .i64) r0.2.1), .one (.ro .bool r0.2.2)] [] [.one (.sl 0 none), .one (.bool r2.2)] [.row (.int .i64) r2.1 .own] ∧
       Br (r2.2 != r1.2) (
        Ret r lh [.one (.bool false)] []) (
        ∃ r3 : Bool, SC P 33 [.one (.ro (.int .i64) r2.1), .one (.ro (.int .i64) r1.1)] [] [.one (.bool r3)] [] ∧
         Br (!r3) (
          Ret r lh [.one (.bool false)] []) (
          ∃ r4 : Bool, SC P 21 [.one (.int .i64 r0.1), .one (.ro .bool r0.2.2)] [] [.one (.bool r4)] [] ∧
           Br r4 (
            ∃ r5 : Bool, SC P 52 [.one (.int .i64 r0.1), .one (.ro (.int .i64) r0.2.1), .one (.ro .bool r0.2.2)] [] [.one (.bool r5)] [] ∧
             Br (r2.2 != r5) (
              Ret r lh [.one (.bool false)] []) (
              ∃ r6 : List Int, SC P 36 [.one (.int .i64 r0.1), .one (.ro (.int .i64) r2.1)] [] [.one (.sl 0 none)] [.row (.int .i64) r6 .own] ∧
               FL E H10 Try.f10 0 r lh 0 (S10_L0 r0.2.2 r2.2 0 r0.2.1 r6))) (
            Br (r2.2 != false) (
             Ret r lh [.one (.bool false)] []) (
             ∃ r7 : List Int, SC P 36 [.one (.int .i64 r0.1), .one (.ro (.int .i64) r2.1)] [] [.one (.sl 0 none)] [.row (.int .i64) r7 .own] ∧
              FL E H10 Try.f10 0 r lh 0 (S10_L0 r0.2.2 r2.2 0 r0.2.1 r7))))))) := by kernel_rfl
theorem eq10_L0 (there5 : List Bool) (ok9 : Bool) (i11 : Int) (h0 : List Int) (h1 : List Int) (r : List W) (lh : Heap) : FL1 E H10 Try.f10 0 r lh 0 (S10_L0 there5 ok9 i11 h0 h1) =
  (
   Br ok9 (
    Br (decide (i11 < ((h1.length : Nat) : Int))) (
     Ck (decide ((0 : Int) ≤ i11)) (
      Ck (decide (i11 < ((there5.length : Nat) : Int))) (
       Br (there5.getD i11.toNat false) (
        Ck (decide ((0 : Int) ≤ i11)) (
         Ck (decide (i11 < ((h1.length : Nat) : Int))) (
          Ck (Nat.ble (i11.toNat + 1) h1.length) (
           Ck (decide ((0 : Int) ≤ i11)) (
            Ck (decide (i11 < ((h0.length : Nat) : Int))) (
             Ck (Nat.ble (i11.toNat + 1) h0.length) (
              Br (!(decide ((h1.getD i11.toNat 0) = (h0.getD i11.toNat 0)))) (
               Ret r lh [.one (.bool false)] []) (
               FL E H10 Try.f10 0 r lh 0 (S10_L0 there5 ok9 (IntKind.wrap .i64 (i11 + 1)) h0 h1))))))))) (
        FL E H10 Try.f10 0 r lh 0 (S10_L0 there5 ok9 (IntKind.wrap .i64 (i11 + 1)) h0 h1))))) (
     Ret r lh [.one (.bool true)] [])) (
    Ret r lh [.one (.bool true)] [])) := by kernel_rfl
theorem fits_bears (kind : Int) (vals : List Int) (there : List Bool) : readDataOk kind vals there = (codeBears kind there && codeFits kind vals there) := by
  rw [readDataOk, codeBears, codeFits, readOk]
  cases inB kind 1 2 <;> cases valsOk vals <;> cases decide (there.length = 8) <;> cases bearsI kind (flagF there) <;> cases fitsI kind vals (flagF there) <;> rfl
theorem data_ok {kind : Int} {vals : List Int} {there : List Bool} (h : readDataOk kind vals there = true) : inB kind 1 2 = true ∧ ValsP vals ∧ there.length = 8 ∧ bearsI kind (flagF there) = true ∧ fitsI kind vals (flagF there) = true ∧ readDataL kind vals there = (solveI kind vals (flagF there)).l := by
  have h' := h
  rw [readDataOk, readOk, Bool.and_eq_true, Bool.and_eq_true, Bool.and_eq_true, Bool.and_eq_true, decide_eq_true_iff] at h'
  exact ⟨h'.1.1, vals_p h'.1.2, h'.2.1, h'.2.2.1, h'.2.2.2, by rw [readDataL, h]; rfl⟩
theorem fits_at {kind : Int} {vals : List Int} {there : List Bool} (h8 : there.length = 8) (hf : fitsI kind vals (flagF there) = true) {i : Nat} (hi : i < 8) (ht : there.getD i false = true) : vals.getD i 0 = (allF kind (solveI kind vals (flagF there))).getD i 0 := by
  have := fits_mem hf (i : Int) (((flag_ok h8).mem i hi).2 ht)
  rw [Int.toNat_natCast] at this
  rw [this, ← allF_get kind _ (show (0 : Int) ≤ (i : Int) by omega) (by omega), Int.toNat_natCast]
theorem l10 (kind : Int) (vals : List Int) (hv : vals.length = 8) (there : List Bool) (hR : readDataOk kind vals there = true) : ∀ (n i : Nat), i + n = 8 → FL E H10 Try.f10 0 [.one (.bool true)] [] 0 (S10_L0 there true (i : Int) vals (allF kind (solveI kind vals (flagF there))))
  | 0, i, h => by
    refine FL_of1 ?_
    rw [eq10_L0, allF_length]
    exact Br_b (fun _ => Br_f (by omega) ⟨rfl, rfl⟩) (fun e => by cases e)
  | n + 1, i, h => by
    obtain ⟨h1, h2, h3, h4, h5, h6⟩ := data_ok hR
    refine FL_of1 ?_
    rw [eq10_L0, allF_length, wS (i := i) (by omega)]
    simp only [Int.toNat_natCast]
    refine Br_b (fun _ => Br_t (by omega) (Ck_d (by omega) (Ck_d (by omega) (Br_b (fun e => Ck_d (by omega) (Ck_d (by omega) (Ck_le (by omega) (Ck_d (by omega) (Ck_d (by omega) (Ck_le (by omega) (Br_nd (fun e2 => ?_) (fun _ => l10 kind vals hv there hR n (i + 1) (by omega))))))))) (fun _ => l10 kind vals hv there hR n (i + 1) (by omega)))))) (fun e => by cases e)
    exact absurd (fits_at h3 h5 (by omega) e).symm e2
theorem c10 (code : List Int) (hc : Bytes code) : SC P 10 [.one (.ro (.int .u8) code)] [] [.one (.bool true)] [] := by
  refine SC_of_FB (H := H10) E_ok Try.func10 (by kernel_rfl) ?_
  rw [eq10]
  refine Br_d (fun _ => ⟨rfl, rfl⟩) (fun hcl => ?_)
  obtain ⟨kind, vals, there, hv, ht, s0⟩ := c51 code hc
  have hrl := readDataL_len (kind := kind) (vals := vals) (there := there)
  have sE := c33 (readDataL kind vals there) (readDataL kind vals there) (by omega)
  rw [decide_eq_true rfl] at sE
  have hfb := fits_bears kind vals there
  refine ⟨(kind, vals, there), s0, (readDataL kind vals there, readDataOk kind vals there), c49 kind vals there (by omega) (by omega), (readDataL kind vals there, readDataOk kind vals there), c48 kind vals there (by omega) (by omega), Br_bne rfl ⟨_, sE, Br_nb (fun e => by cases e) (fun _ => ⟨_, c21 kind there (by omega), Br_b (fun e => ⟨_, c52 kind vals there (by omega) (by omega), Br_bne (by rw [hfb, e]; rfl) ⟨_, c36 kind (readDataL kind vals there) (by omega), ?_⟩⟩) (fun e => Br_bne (by rw [hfb, e]; rfl) ⟨_, c36 kind (readDataL kind vals there) (by omega), ?_⟩)⟩)⟩⟩
  all_goals
    cases hR : readDataOk kind vals there with
    | false =>
      refine FL_of1 ?_
      rw [eq10_L0]
      exact Br_b (fun e => by cases e) (fun _ => ⟨rfl, rfl⟩)
    | true =>
      obtain ⟨h1, h2, h3, h4, h5, h6⟩ := data_ok hR
      have hca : codeAll kind (readDataL kind vals there) = allF kind (solveI kind vals (flagF there)) := by
        rw [h6, codeAll, h1, vecOk_l (solve_ok _ _ _), vecF_l (solve_ok _ _ _)]; rfl
      rw [hca]
      exact l10 kind vals hv there hR 8 0 rfl
/-! loop.example/keelson/laws.FnReadTwo -/
def H11 : Hint := ⟨[[(5, 0, .bool), (6, 0, .bool), (7, 0, .bool), (10, 0, .bool), (12, 0, .bool), (13, 0, .bool)]], [], [], [], [], [], []⟩
def S11_L0 (kind5 : Int) (there7 : List Bool) (i13 : Int) (h0 : List Int) (h1 : List Int) (h2 : List Bool) : St := ⟨[(5, .w (.one (.int .i64 kind5))), (6, .w (.one (.sl 0 none))), (7, .w (.one (.ro .bool there7))), (10, .w (.one (.sl 1 none))), (12, .w (.one (.sl 2 none))), (13, .w (.one (.int .i64 i13)))], [.row (.int .i64) h0 .own, .row (.int .i64) h1 .own, .row .bool h2 .own]⟩
theorem eq11 (code : List Int) (more : List Int) (r : List W) (lh : Heap) : FB E H11 Try.f11 [.one (.ro (.int .u8) code), .one (.ro (.int .u8) more)] [] r lh =
  (
   Br (decide ((1048576 : Int) < ((code.length : Nat) : Int))) (
    Ret r lh [.one (.bool true)] []) (
    Br (decide ((1048576 : Int) < ((more.length : Nat) : Int))) (
     Ret r lh [.one (.bool true)] []) (
     ∃ r0 : Int × List Int × List Bool, SC P 51 [.one (.ro (.int .u8) code)] [] [.one (.int .i64 r0.1), .one (.sl 0 none), .one (.ro .bool r0.2.2)] [.row (.int .i64) r0.2.1 .own] ∧
      ∃ r1 : List Int × Bool, SC P 49 [.one (.int .i64 r0.1), .one (.ro (.int .i64) r0.2.1), .one (.ro .bool r0.2.2)] [] [.one (.sl 0 none), .one (.bool r1.2)] [.row (.int .i64) r1.1 .own] ∧
       ∃ r2 : List Int × Bool, SC P 48 [.one (.int .i64 r0.1), .one (.ro (.int .i64) r0.2.1), .one (.ro .bool r0.2.2)] [] [.one (.sl 0 none), .one (.bool r2.2)] [.row (.int .i64) r2.1 .own] ∧
        Br (r2.2 != r1.2) (
         Br (r2.2 == r1.2) (
          ∃ r3 : Bool, SC P 33 [.one (.ro (.int .i64) r2.1), .one (.ro (.int .i64) r1.1)] [] [.one (.bool r3)] [] ∧
           Ret r lh [.one (.bool r3)] []) (
          Ret r lh [.one (.bool false)] [])) (
         ∃ r4 : Bool, SC P 33 [.one (.ro (.int .i64) r2.1), .one (.ro (.int .i64) r1.1)] [] [.one (.bool r4)] [] ∧
          Br (!r4) (
           Br (r2.2 == r1.2) (
            ∃ r5 : Bool, SC P 33 [.one (.ro (.int .i64) r2.1), .one (.ro (.int .i64) r1.1)] [] [.one (.bool r5)] [] ∧
             Ret r lh [.one (.bool r5)] []) (
            Ret r lh [.one (.bool false)] [])) (
           Br (!r2.2) (
            Br (r2.2 == r1.2) (
             ∃ r6 : Bool, SC P 33 [.one (.ro (.int .i64) r2.1), .one (.ro (.int .i64) r1.1)] [] [.one (.bool r6)] [] ∧
              Ret r lh [.one (.bool r6)] []) (
             Ret r lh [.one (.bool false)] [])) (
            ∃ r7 : List Bool, SC P 47 [.one (.int .i64 (Int.tmod (IntKind.wrap .i64 (((more.length : Nat) : Int) * 37)) 256))] [] [.one (.sl 0 none)] [.row .bool r7 .own] ∧
             FL E H11 Try.f11 0 r lh 0 (S11_L0 r0.1 r0.2.2 0 r0.2.1 r2.1 r7))))))) := by kernel_rfl
theorem eq11_L0 (kind5 : Int) (there7 : List Bool) (i13 : Int) (h0 : List Int) (h1 : List Int) (h2 : List Bool) (r : List W) (lh : Heap) : FL1 E H11 Try.f11 0 r lh 0 (S11_L0 kind5 there7 i13 h0 h1 h2) =
  (
   Br (decide (i13 < ((h2.length : Nat) : Int))) (
    Ck (decide ((0 : Int) ≤ i13)) (
     Ck (decide (i13 < ((h2.length : Nat) : Int))) (
      Ck (Nat.ble (i13.toNat + 1) h2.length) (
       Br (h2.getD i13.toNat false) (
        Ck (decide ((0 : Int) ≤ i13)) (
         Ck (decide (i13 < ((there7.length : Nat) : Int))) (
          Ck (decide ((0 : Int) ≤ i13)) (
           Ck (decide (i13 < ((h2.length : Nat) : Int))) (
            Ck (Nat.ble (i13.toNat + 1) h2.length) (
             FL E H11 Try.f11 0 r lh 0 (S11_L0 kind5 there7 (IntKind.wrap .i64 (i13 + 1)) h0 h1 (h2.set i13.toNat (there7.getD i13.toNat false))))))))) (
        Ck (decide ((0 : Int) ≤ i13)) (
         Ck (decide (i13 < ((h2.length : Nat) : Int))) (
          Ck (Nat.ble (i13.toNat + 1) h2.length) (
           FL E H11 Try.f11 0 r lh 0 (S11_L0 kind5 there7 (IntKind.wrap .i64 (i13 + 1)) h0 h1 (h2.set i13.toNat false)))))))))) (
    ∃ r0 : List Int × Bool, SC P 48 [.one (.int .i64 kind5), .one (.ro (.int .i64) h0), .one (.ro .bool h2)] [] [.one (.sl 0 none), .one (.bool r0.2)] [.row (.int .i64) r0.1 .own] ∧
     ∃ r1 : Bool, SC P 21 [.one (.int .i64 kind5), .one (.ro .bool h2)] [] [.one (.bool r1)] [] ∧
      Br (r0.2 == r1) (
       Br (!r0.2) (
        Ret r lh [.one (.bool true)] []) (
        ∃ r2 : Bool, SC P 33 [.one (.ro (.int .i64) r0.1), .one (.ro (.int .i64) h1)] [] [.one (.bool r2)] [] ∧
         Ret r lh [.one (.bool r2)] [])) (
       Ret r lh [.one (.bool false)] []))) := by kernel_rfl
/-- some of the shards that are there -/
def bothF (a b : List Bool) : List Bool := mapR (fun i => a.getD i false && b.getD i false) 0 a.length
theorem setB_get {l : List Bool} {i j : Nat} {x : Bool} (h : i < l.length) : (l.set i x).getD j false = if i = j then x else l.getD j false := by
  by_cases e : i = j
  · subst e; rw [if_pos rfl]; exact get_set_self h
  · rw [if_neg e, List.getD, List.getElem?_set_ne e]; rfl
theorem l11 (kind : Int) (vals d : List Int) (there : List Bool) (h8 : there.length = 8) (hv : vals.length = 8) (hd : d.length ≤ 4) (hG : ∀ t : List Bool, t.length = 8 → (∀ j, j < 8 → t.getD j false = true → there.getD j false = true) → readDataOk kind vals t = codeBears kind t ∧ (codeBears kind t = true → readDataL kind vals t = d)) :
    ∀ (n i : Nat) (t : List Bool), i + n = 8 → t.length = 8 → (∀ j, j < i → t.getD j false = true → there.getD j false = true) → FL E H11 Try.f11 0 [.one (.bool true)] [] 0 (S11_L0 kind there (i : Int) vals d t)
  | 0, i, t, h, ht, hj => by
    obtain ⟨g1, g2⟩ := hG t ht (fun j hj' => hj j (by omega))
    have hrl := readDataL_len (kind := kind) (vals := vals) (there := t)
    refine FL_of1 ?_
    rw [eq11_L0]
    refine Br_f (by omega) ⟨(readDataL kind vals t, readDataOk kind vals t), c48 kind vals t (by omega) (by omega), codeBears kind t, c21 kind t (by omega), Br_beq g1 ?_⟩
    refine Br_nb (fun e => ⟨rfl, rfl⟩) (fun e => ?_)
    have e : readDataOk kind vals t = true := e
    have e2 := g2 (by rw [← g1]; exact e)
    have sI := c33 (readDataL kind vals t) (readDataL kind vals t) (by omega)
    rw [decide_eq_true rfl] at sI
    exact ⟨_, by rw [← e2]; exact sI, rfl, rfl⟩
  | n + 1, i, t, h, ht, hj => by
    refine FL_of1 ?_
    rw [eq11_L0, wS (i := i) (by omega)]
    simp only [Int.toNat_natCast]
    refine Br_t (by omega) (Ck_d (by omega) (Ck_d (by omega) (Ck_le (by omega) (Br_b (fun e => ?_) (fun e => ?_)))))
    · refine Ck_d (by omega) (Ck_d (by omega) (Ck_d (by omega) (Ck_d (by omega) (Ck_le (by omega) ?_))))
      refine l11 kind vals d there h8 hv hd hG n (i + 1) _ (by omega) (by rw [List.length_set]; exact ht) ?_
      intro j hj1 hj2
      rw [setB_get (by omega)] at hj2
      by_cases e2 : i = j
      · subst e2; rw [if_pos rfl] at hj2; exact hj2
      · rw [if_neg e2] at hj2; exact hj j (by omega) hj2
    · refine Ck_d (by omega) (Ck_d (by omega) (Ck_le (by omega) ?_))
      refine l11 kind vals d there h8 hv hd hG n (i + 1) _ (by omega) (by rw [List.length_set]; exact ht) ?_
      intro j hj1 hj2
      rw [setB_get (by omega)] at hj2
      by_cases e2 : i = j
      · subst e2; rw [if_pos rfl] at hj2; cases hj2
      · rw [if_neg e2] at hj2; exact hj j (by omega) hj2
theorem some_data {kind : Int} {vals : List Int} {there : List Bool} (hR : readDataOk kind vals there = true) {t : List Bool} (ht : t.length = 8) (hs : ∀ j, j < 8 → t.getD j false = true → there.getD j false = true) : readDataOk kind vals t = codeBears kind t ∧ (codeBears kind t = true → readDataL kind vals t = readDataL kind vals there) := by
  obtain ⟨h1, h2, h3, h4, h5, h6⟩ := data_ok hR
  have hcb : codeBears kind t = bearsI kind (flagF t) := by rw [codeBears, h1, decide_eq_true ht]; rfl
  have hrd : readDataOk kind vals t = readOk kind vals (flagF t) := by rw [readDataOk, h1, p_vals h2, decide_eq_true ht]; rfl
  rw [readDataL, hrd, hcb, readOk, h6]
  cases hb : bearsI kind (flagF t) with
  | false => exact ⟨rfl, fun h => by cases h⟩
  | true =>
    obtain ⟨s1, s2⟩ := flag_sh ht
    have sub : ∀ x ∈ flagF t, x ∈ flagF there := by
      intro x hx
      obtain ⟨x0, x7⟩ := s1 x hx
      have hx' : ((x.toNat : Nat) : Int) ∈ flagF t := by rw [show ((x.toNat : Nat) : Int) = x by omega]; exact hx
      have := ((flag_ok h3).mem x.toNat (by omega)).2 (hs x.toNat (by omega) (((flag_ok ht).mem x.toNat (by omega)).1 hx'))
      rw [show ((x.toNat : Nat) : Int) = x by omega] at this
      exact this
    obtain ⟨a1, a2⟩ := fits_sub h5 sub s2 (set_id h1 ht hb)
    rw [a1, a2]
    exact ⟨rfl, fun _ => rfl⟩
theorem c11 (code more : List Int) (hc : Bytes code) : SC P 11 [.one (.ro (.int .u8) code), .one (.ro (.int .u8) more)] [] [.one (.bool true)] [] := by
  refine SC_of_FB (H := H11) E_ok Try.func11 (by kernel_rfl) ?_
  rw [eq11]
  refine Br_d (fun _ => ⟨rfl, rfl⟩) (fun hcl => ?_)
  refine Br_d (fun _ => ⟨rfl, rfl⟩) (fun hml => ?_)
  obtain ⟨kind, vals, there, hv, ht, s0⟩ := c51 code hc
  have hrl := readDataL_len (kind := kind) (vals := vals) (there := there)
  have sE := c33 (readDataL kind vals there) (readDataL kind vals there) (by omega)
  rw [decide_eq_true rfl] at sE
  refine ⟨(kind, vals, there), s0, (readDataL kind vals there, readDataOk kind vals there), c49 kind vals there (by omega) (by omega), (readDataL kind vals there, readDataOk kind vals there), c48 kind vals there (by omega) (by omega), Br_bne rfl ⟨_, sE, Br_nb (fun e => by cases e) (fun _ => Br_nb (fun e => Br_beq rfl ⟨_, sE, rfl, rfl⟩) (fun e => ?_))⟩⟩
  have hR : readDataOk kind vals there = true := e
  rw [wrap64 (n := (more.length : Int) * 37) (by omega) (by omega), Int.tmod_eq_emod_of_nonneg (by omega)]
  refine ⟨_, c47 _ (by omega) (by omega), ?_⟩
  exact l11 kind vals _ there (data_ok hR).2.2.1 hv (by omega) (fun t h1 h2 => some_data hR h1 h2) 8 0 _ rfl (thereB_len _ _) (fun j hj => absurd hj (Nat.not_lt_zero _))
end Go.Proofs.Ytlebgbcoljnejaa.Sh
