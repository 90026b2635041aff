/- Shards that come one behind the other: laws. -/
import Derived.Test.YtlebgbcoljnejaaShL3
import Derived.Test.YtlebgbcoljnejaaShR4
namespace Go.Proofs.Ytlebgbcoljnejaa.Sh
open Go
set_option linter.unusedVariables false
set_option linter.unusedSimpArgs false
/-! loop.example/keelson/laws.FnExactReadSoon -/
def H15 : Hint := ⟨[], [], [], [], [], [], []⟩
theorem eq15 (aKind : Int) (aVals : List Int) (aOrder : List Int) (r : List W) (lh : Heap) : FB E H15 Try.f15 [.one (.int .i64 aKind), .one (.ro (.int .i64) aVals), .one (.ro (.int .i64) aOrder)] [] r lh =
  (
   Br (decide ((1048576 : Int) < ((aVals.length : Nat) : Int))) (
    Ret r lh [.one (.bool true)] []) (
    Br (decide ((1048576 : Int) < ((aOrder.length : Nat) : Int))) (
     Ret r lh [.one (.bool true)] []) (
     ∃ r0 : List Int, SC P 50 [.one (.ro (.int .i64) aVals)] [] [.one (.sl 0 none)] [.row (.int .i64) r0 .own] ∧
      ∃ r1 : List Int, SC P 50 [.one (.ro (.int .i64) aOrder)] [] [.one (.sl 0 none)] [.row (.int .i64) r1 .own] ∧
       ∃ r2 : List Int × Int × Bool, SC P 56 [.one (.int .i64 aKind), .one (.ro (.int .i64) r0), .one (.ro (.int .i64) r1)] [] [.one (.sl 0 none), .one (.int .i64 r2.2.1), .one (.bool r2.2.2)] [.row (.int .i64) r2.1 .own] ∧
        ∃ r3 : List Int, SC P 50 [.one (.ro (.int .i64) aVals)] [] [.one (.sl 0 none)] [.row (.int .i64) r3 .own] ∧
         ∃ r4 : List Int, SC P 50 [.one (.ro (.int .i64) aOrder)] [] [.one (.sl 0 none)] [.row (.int .i64) r4 .own] ∧
          ∃ r5 : List Int × Int × Bool, SC P 46 [.one (.int .i64 aKind), .one (.ro (.int .i64) r3), .one (.ro (.int .i64) r4)] [] [.one (.sl 0 none), .one (.int .i64 r5.2.1), .one (.bool r5.2.2)] [.row (.int .i64) r5.1 .own] ∧
           ∃ r6 : Bool, SC P 26 [.one (.ro (.int .i64) r5.1), .one (.ro (.int .i64) r2.1)] [] [.one (.bool r6)] [] ∧
            Br (!r6) (
             Ret r lh [.one (.bool false)] []) (
             Br (!(decide (r5.2.1 = r2.2.1))) (
              Ret r lh [.one (.bool false)] []) (
              Br (r5.2.2 != r2.2.2) (
               Ret r lh [.one (.bool false)] []) (
               ∃ r7 : List Int, SC P 50 [.one (.ro (.int .i64) aVals)] [] [.one (.sl 0 none)] [.row (.int .i64) r7 .own] ∧
                ∃ r8 : Bool, SC P 26 [.one (.ro (.int .i64) r3), .one (.ro (.int .i64) r7)] [] [.one (.bool r8)] [] ∧
                 Br (!r8) (
                  Ret r lh [.one (.bool false)] []) (
                  ∃ r9 : List Int, SC P 50 [.one (.ro (.int .i64) aOrder)] [] [.one (.sl 0 none)] [.row (.int .i64) r9 .own] ∧
                   ∃ r10 : Bool, SC P 26 [.one (.ro (.int .i64) r4), .one (.ro (.int .i64) r9)] [] [.one (.bool r10)] [] ∧
                    Br (!r10) (
                     Ret r lh [.one (.bool false)] []) (
                     ∃ r11 : List Int × Int, SC P 29 [.one (.sl 0 none), .one (.int .i64 1)] [.row (.int .i64) r3 .own] [.one (.int .i64 r11.2)] [.row (.int .i64) r11.1 .own] ∧
                      ∃ r12 : List Int × Int, SC P 29 [.one (.sl 0 none), .one (.int .i64 r11.2)] [.row (.int .i64) r4 .own] [.one (.int .i64 r12.2)] [.row (.int .i64) r12.1 .own] ∧
                       Br (decide (r12.2 < (0 : Int))) (
                        Ret r lh [.one (.bool false)] []) (
                        ∃ r13 : Bool, SC P 26 [.one (.ro (.int .i64) r5.1), .one (.ro (.int .i64) r2.1)] [] [.one (.bool r13)] [] ∧
                         Br (!r13) (
                          Ret r lh [.one (.bool false)] []) (
                          Br (!(decide (r5.2.1 = r2.2.1))) (
                           Ret r lh [.one (.bool false)] []) (
                           Br (r5.2.2 != r2.2.2) (
                            Ret r lh [.one (.bool false)] []) (
                            ∃ r14 : List Int × Int, SC P 29 [.one (.sl 0 none), .one (.int .i64 1)] [.row (.int .i64) r5.1 .own] [.one (.int .i64 r14.2)] [.row (.int .i64) r14.1 .own] ∧
                             ∃ r15 : Int, SC P 30 [.one (.ro (.int .i64) r14.1), .one (.int .i64 1)] [] [.one (.int .i64 r15)] [] ∧
                              Br (decide (r15 < (0 : Int))) (
                               Ret r lh [.one (.bool false)] []) (
                               Br (!(decide (r15 = r14.2))) (
                                Ret r lh [.one (.bool false)] []) (
                                ∃ r16 : List Int, SC P 50 [.one (.ro (.int .i64) aVals)] [] [.one (.sl 0 none)] [.row (.int .i64) r16 .own] ∧
                                 ∃ r17 : List Int, SC P 50 [.one (.ro (.int .i64) aOrder)] [] [.one (.sl 0 none)] [.row (.int .i64) r17 .own] ∧
                                  ∃ r18 : List Int × Int × Bool, SC P 46 [.one (.int .i64 aKind), .one (.ro (.int .i64) r16), .one (.ro (.int .i64) r17)] [] [.one (.sl 0 none), .one (.int .i64 r18.2.1), .one (.bool r18.2.2)] [.row (.int .i64) r18.1 .own] ∧
                                   ∃ r19 : Bool, SC P 26 [.one (.ro (.int .i64) r18.1), .one (.ro (.int .i64) r2.1)] [] [.one (.bool r19)] [] ∧
                                    Br (!r19) (
                                     Ret r lh [.one (.bool false)] []) (
                                     Br (!(decide (r18.2.1 = r2.2.1))) (
                                      Ret r lh [.one (.bool false)] []) (
                                      Br (r18.2.2 != r2.2.2) (
                                       Ret r lh [.one (.bool false)] []) (
                                       ∃ r20 : Int, SC P 30 [.one (.ro (.int .i64) r14.1), .one (.int .i64 1)] [] [.one (.int .i64 r20)] [] ∧
                                        Br (decide (r20 < (0 : Int))) (
                                         Ret r lh [.one (.bool false)] []) (
                                         Br (!(decide (r20 = r14.2))) (
                                          Ret r lh [.one (.bool false)] []) (
                                          Ret r lh [.one (.bool true)] []))))))))))))))))))) := by kernel_rfl
theorem soonR_len {kind : Int} {vals order : List Int} : ∀ {n i : Nat}, (soonR kind vals order i n).1.length ≤ 4
  | 0, _ => Nat.zero_le _
  | n + 1, i => by
    rw [soonR]
    cases !inB (order.getD i 0) 0 7 || has (order.take i) (order.getD i 0)
    · rw [cond_false]
      cases bearsI kind (order.take (i + 1))
      · exact soonR_len (n := n)
      · exact readL_len
    · exact Nat.zero_le _
theorem readSoon_len {kind : Int} {vals order : List Int} : (readSoon kind vals order).1.length ≤ 4 := by
  rw [readSoon]
  cases inB kind 1 2 && valsOk vals
  · exact Nat.zero_le _
  · exact soonR_len
theorem c15 (kind : Int) (vals order : List Int) : SC P 15 [.one (.int .i64 kind), .one (.ro (.int .i64) vals), .one (.ro (.int .i64) order)] [] [.one (.bool true)] [] := by
  refine SC_of_FB (H := H15) E_ok Try.func15 (by kernel_rfl) ?_
  rw [eq15]
  refine Br_d (fun _ => ⟨rfl, rfl⟩) (fun h => Br_d (fun _ => ⟨rfl, rfl⟩) (fun h' => ?_))
  have hv : vals.length ≤ 1048576 := by omega
  have ht : order.length ≤ 1048576 := by omega
  have hr : (readSoon kind vals order).1.length ≤ 1048576 := Nat.le_trans readSoon_len (by omega)
  have sS := c56 kind vals order hv ht
  have sI := c46 kind vals order hv ht
  generalize readSoon kind vals order = q at hr sS sI
  exact ⟨_, c50 vals hv, _, c50 order ht, q, sS, _, c50 vals hv, _, c50 order ht, q, sI, _, c26 _ _ hr, Br_nb (fun e => by simp at e) (fun _ => (Br_nd (fun e => absurd rfl e) (fun _ => Br_ne' ⟨_, c50 vals hv, _, c26 _ _ hv, Br_nb (fun e => by simp at e) (fun _ => ⟨_, c50 order ht, _, c26 _ _ ht, Br_nb (fun e => by simp at e) (fun _ => 
    ⟨(_, _), c29 vals 1 hv (by omega) (by omega), (_, _), c29 order (1 + vals.length) ht (by omega) (by omega), Br_f (by dsimp only; omega) ⟨_, c26 _ _ hr, Br_nb (fun e => by simp at e) (fun _ => (Br_nd (fun e => absurd rfl e) (fun _ => Br_ne' ⟨(_, _), c29 q.1 1 hr (by omega) (by omega), _, c30 1 _ hr (by omega) (by omega), Br_f (by omega) (Br_nd (fun e => absurd rfl e) (fun _ =>
    ⟨_, c50 vals hv, _, c50 order ht, q, sI, _, c26 _ _ hr, Br_nb (fun e => by simp at e) (fun _ => (Br_nd (fun e => absurd rfl e) (fun _ => Br_ne' ⟨_, c30 1 _ hr (by omega) (by omega), Br_f (by omega) (Br_nd (fun e => absurd rfl e) (fun _ => ⟨rfl, rfl⟩))⟩)))⟩))⟩)))⟩⟩)⟩)⟩)))⟩
/-! loop.example/keelson/laws.FnReadSoon -/
def H16 : Hint := ⟨[[(3, 0, .bool), (4, 0, .bool), (5, 0, .bool), (9, 0, .bool), (10, 0, .bool), (11, 0, .bool), (12, 0, .bool), (13, 0, .bool)]], [], [], [], [], [], []⟩
def S16_L0 (kind3 : Int) (n10 : Int) (ok11 : Bool) (i13 : Int) (h0 : List Int) (h1 : List Int) (h2 : List Int) (h3 : List Bool) : St := ⟨[(3, .w (.one (.int .i64 kind3))), (4, .w (.one (.sl 0 none))), (5, .w (.one (.sl 1 none))), (9, .w (.one (.sl 2 none))), (10, .w (.one (.int .i64 n10))), (11, .w (.one (.bool ok11))), (12, .w (.one (.sl 3 none))), (13, .w (.one (.int .i64 i13)))], [.row (.int .i64) h0 .own, .row (.int .i64) h1 .own, .row (.int .i64) h2 .own, .row .bool h3 .own]⟩
theorem eq16 (code : List Int) (r : List W) (lh : Heap) : FB E H16 Try.f16 [.one (.ro (.int .u8) code)] [] r lh =
  (
   Br (decide ((1048576 : Int) < ((code.length : Nat) : Int))) (
    Ret r lh [.one (.bool true)] []) (
    ∃ r0 : Int × List Int × List Int, SC P 57 [.one (.ro (.int .u8) code)] [] [.one (.int .i64 r0.1), .one (.sl 0 none), .one (.sl 1 none)] [.row (.int .i64) r0.2.1 .own, .row (.int .i64) r0.2.2 .own] ∧
     ∃ r1 : List Int × Int × Bool, SC P 56 [.one (.int .i64 r0.1), .one (.ro (.int .i64) r0.2.1), .one (.ro (.int .i64) r0.2.2)] [] [.one (.sl 0 none), .one (.int .i64 r1.2.1), .one (.bool r1.2.2)] [.row (.int .i64) r1.1 .own] ∧
      ∃ r2 : List Int × Int × Bool, SC P 46 [.one (.int .i64 r0.1), .one (.ro (.int .i64) r0.2.1), .one (.ro (.int .i64) r0.2.2)] [] [.one (.sl 0 none), .one (.int .i64 r2.2.1), .one (.bool r2.2.2)] [.row (.int .i64) r2.1 .own] ∧
       Br (r2.2.2 != r1.2.2) (
        Br (r2.2.2 == r1.2.2) (
         Br (decide (r2.2.1 = r1.2.1)) (
          ∃ r3 : Bool, SC P 33 [.one (.ro (.int .i64) r2.1), .one (.ro (.int .i64) r1.1)] [] [.one (.bool r3)] [] ∧
           Ret r lh [.one (.bool r3)] []) (
          Ret r lh [.one (.bool false)] [])) (
         Ret r lh [.one (.bool false)] [])) (
        Br (!(decide (r2.2.1 = r1.2.1))) (
         Br (r2.2.2 == r1.2.2) (
          Br (decide (r2.2.1 = r1.2.1)) (
           ∃ r4 : Bool, SC P 33 [.one (.ro (.int .i64) r2.1), .one (.ro (.int .i64) r1.1)] [] [.one (.bool r4)] [] ∧
            Ret r lh [.one (.bool r4)] []) (
           Ret r lh [.one (.bool false)] [])) (
          Ret r lh [.one (.bool false)] [])) (
         ∃ r5 : Bool, SC P 33 [.one (.ro (.int .i64) r2.1), .one (.ro (.int .i64) r1.1)] [] [.one (.bool r5)] [] ∧
          Br (!r5) (
           Br (r2.2.2 == r1.2.2) (
            Br (decide (r2.2.1 = r1.2.1)) (
             ∃ r6 : Bool, SC P 33 [.one (.ro (.int .i64) r2.1), .one (.ro (.int .i64) r1.1)] [] [.one (.bool r6)] [] ∧
              Ret r lh [.one (.bool r6)] []) (
             Ret r lh [.one (.bool false)] [])) (
            Ret r lh [.one (.bool false)] [])) (
           Br (decide (r2.2.1 = (0 : Int))) (
            Br (r2.2.2 == r1.2.2) (
             Br (decide (r2.2.1 = r1.2.1)) (
              ∃ r7 : Bool, SC P 33 [.one (.ro (.int .i64) r2.1), .one (.ro (.int .i64) r1.1)] [] [.one (.bool r7)] [] ∧
               Ret r lh [.one (.bool r7)] []) (
              Ret r lh [.one (.bool false)] [])) (
             Ret r lh [.one (.bool false)] [])) (
            ∃ r8 : List Bool, SC P 47 [.one (.int .i64 0)] [] [.one (.sl 0 none)] [.row .bool r8 .own] ∧
             FL E H16 Try.f16 0 r lh 0 (S16_L0 r0.1 r2.2.1 r2.2.2 0 r0.2.1 r0.2.2 r2.1 r8))))))) := by kernel_rfl
theorem eq16_L0 (kind3 : Int) (n10 : Int) (ok11 : Bool) (i13 : Int) (h0 : List Int) (h1 : List Int) (h2 : List Int) (h3 : List Bool) (r : List W) (lh : Heap) : FL1 E H16 Try.f16 0 r lh 0 (S16_L0 kind3 n10 ok11 i13 h0 h1 h2 h3) =
  (
   Br (decide (i13 < (IntKind.wrap .i64 (n10 - 1)))) (
    Ck (decide ((0 : Int) ≤ i13)) (
     Ck (decide (i13 < ((h1.length : Nat) : Int))) (
      Ck (Nat.ble (i13.toNat + 1) h1.length) (
       Ck (decide ((0 : Int) ≤ (h1.getD i13.toNat 0))) (
        Ck (decide ((h1.getD i13.toNat 0) < ((h3.length : Nat) : Int))) (
         Ck (Nat.ble ((h1.getD i13.toNat 0).toNat + 1) h3.length) (
          FL E H16 Try.f16 0 r lh 0 (S16_L0 kind3 n10 ok11 (IntKind.wrap .i64 (i13 + 1)) h0 h1 h2 (h3.set ((h1.getD i13.toNat 0).toNat) true))))))))) (
    ∃ r0 : Bool, SC P 21 [.one (.int .i64 kind3), .one (.ro .bool h3)] [] [.one (.bool r0)] [] ∧
     Ck (decide ((0 : Int) ≤ (IntKind.wrap .i64 (n10 - 1)))) (
      Ck (decide ((IntKind.wrap .i64 (n10 - 1)) < ((h1.length : Nat) : Int))) (
       Ck (Nat.ble ((IntKind.wrap .i64 (n10 - 1)).toNat + 1) h1.length) (
        Ck (decide ((0 : Int) ≤ (h1.getD (IntKind.wrap .i64 (n10 - 1)).toNat 0))) (
         Ck (decide ((h1.getD (IntKind.wrap .i64 (n10 - 1)).toNat 0) < ((h3.length : Nat) : Int))) (
          Ck (Nat.ble ((h1.getD (IntKind.wrap .i64 (n10 - 1)).toNat 0).toNat + 1) h3.length) (
           ∃ r1 : List Int × Bool, SC P 48 [.one (.int .i64 kind3), .one (.ro (.int .i64) h0), .one (.ro .bool (h3.set ((h1.getD (IntKind.wrap .i64 (n10 - 1)).toNat 0).toNat) true))] [] [.one (.sl 0 none), .one (.bool r1.2)] [.row (.int .i64) r1.1 .own] ∧
            Br (!r0) (
             ∃ r2 : Bool, SC P 21 [.one (.int .i64 kind3), .one (.ro .bool (h3.set ((h1.getD (IntKind.wrap .i64 (n10 - 1)).toNat 0).toNat) true))] [] [.one (.bool r2)] [] ∧
              Br r2 (
               Br (r1.2 == ok11) (
                ∃ r3 : Bool, SC P 33 [.one (.ro (.int .i64) r1.1), .one (.ro (.int .i64) h2)] [] [.one (.bool r3)] [] ∧
                 Ret r lh [.one (.bool r3)] []) (
                Ret r lh [.one (.bool false)] [])) (
               Ret r lh [.one (.bool false)] [])) (
             Ret r lh [.one (.bool false)] []))))))))) := by kernel_rfl
structure SoonOk (kind : Int) (vals order : List Int) (r : List Int × Int × Bool) (m : Nat) : Prop where
  pos : 1 ≤ m
  le : m ≤ order.length
  six : m ≤ 6
  eq : r = (readL kind vals (order.take m), (m : Int), readOk kind vals (order.take m))
  range : ∀ x ∈ order.take m, 0 ≤ x ∧ x ≤ 7
  set : setOk kind (order.take m) = true
  bears : bearsI kind (order.take m) = true
  bears2 : bearsI kind (flagF (setOf (order.take m))) = true
  few : bearsI kind (flagF (setOf (order.take (m - 1)))) = false
theorem soonR_inv {kind : Int} {vals order : List Int} : ∀ (n i k : Nat), i + n = order.length → i + k = 6 → (∀ x ∈ order.take i, 0 ≤ x ∧ x ≤ 7) → soonK kind k (spanV (rowsF kind (order.take i))) (order.take i) = true → bearsI kind (flagF (setOf (order.take i))) = false →
    (soonR kind vals order i n).2.1 = 0 ∨ ∃ m, SoonOk kind vals order (soonR kind vals order i n) m
  | 0, _, _, _, _, _, _, _ => .inl rfl
  | n + 1, i, k, h, hik, hr, hs, hf => by
    have hi : i < order.length := by omega
    rw [soonR]
    cases hc : !inB (order.getD i 0) 0 7 || has (order.take i) (order.getD i 0) with
    | true => exact .inl rfl
    | false =>
      rw [Bool.or_eq_false_iff, Bool.not_eq_false'] at hc
      have ha := inB_iff.1 hc.1
      obtain ⟨k', rfl, hb1, hb2⟩ := soon_next hs ha.1 ha.2 (of_decide_eq_false hc.2)
      have htk : order.take (i + 1) = order.take i ++ [order.getD i 0] := by rw [take_succ' hi, getD_eq hi]
      rw [← htk] at hb1 hb2
      have hr' : ∀ x ∈ order.take (i + 1), 0 ≤ x ∧ x ≤ 7 := by
        rw [htk]
        intro x hx
        rcases List.mem_append.1 hx with hx | hx
        · exact hr x hx
        · rw [List.mem_singleton] at hx; rw [hx]; exact ha
      rw [cond_false]
      cases hb : bearsI kind (order.take (i + 1)) with
      | true =>
        obtain ⟨q1, q2⟩ := hb1 hb
        exact .inr ⟨i + 1, by omega, by omega, by omega, rfl, hr', q1, hb, q2, hf⟩
      | false =>
        obtain ⟨q1, q2⟩ := hb2 hb
        exact soonR_inv n (i + 1) k' (by omega) (by omega) hr' q2 q1
theorem none_bears {kind : Int} (hk : inB kind 1 2 = true) : bearsI kind (flagF (setOf [])) = false := by
  have : bearsI 1 (flagF (setOf [])) = false ∧ bearsI 2 (flagF (setOf [])) = false := by decide +kernel
  rcases kind_cases hk with rfl | rfl
  · exact this.1
  · exact this.2
theorem l16 (kind : Int) (hk : inB kind 1 2 = true) (vals order : List Int) (hv : ValsP vals) (hol : order.length ≤ 1048576) (m : Nat) (S : SoonOk kind vals order (soonR kind vals order 0 order.length) m) : ∀ (n i : Nat), i + n = m - 1 →
    FL E H16 Try.f16 0 [.one (.bool true)] [] 0 (S16_L0 kind (m : Int) (readOk kind vals (order.take m)) (i : Int) vals order (readL kind vals (order.take m)) (setOf (order.take i)))
  | 0, i, h => by
    have hpos := S.pos; have hle := S.le; have h6 := S.six
    have hw : IntKind.wrap .i64 ((m : Int) - 1) = ((m - 1 : Nat) : Int) := by rw [wrap64 (by omega) (by omega)]; omega
    have hi : i = m - 1 := by omega
    have htk : order.take m = order.take (m - 1) ++ [order.getD (m - 1) 0] := by
      have := take_succ' (show m - 1 < order.length by omega)
      rw [show m - 1 + 1 = m by omega] at this
      rw [this, getD_eq (show m - 1 < order.length by omega)]
    obtain ⟨a0, a7⟩ := S.range (order.getD (m - 1) 0) (by rw [htk]; simp)
    have hset : (setOf (order.take i)).set (order.getD (m - 1) 0).toNat true = setOf (order.take m) := by rw [hi, htk, setOf_snoc _ a0 a7]
    have hsl := setOf_len (order.take i)
    have hsl' := setOf_len (order.take m)
    have hcb : ∀ p, codeBears kind (setOf p) = bearsI kind (flagF (setOf p)) := fun p => by rw [codeBears, hk, decide_eq_true (setOf_len p)]; rfl
    obtain ⟨r1, r2⟩ := same_read hk (vals := vals) (by simp; omega) S.range S.set S.bears S.bears2
    have d1 : readDataOk kind vals (setOf (order.take m)) = readOk kind vals (order.take m) := by rw [readDataOk, hk, p_vals hv, decide_eq_true hsl', ← r1]; rfl
    have d2 : readDataL kind vals (setOf (order.take m)) = readL kind vals (order.take m) := by rw [← r2, readDataL, d1, readL, r1]
    have hrl := readL_len (kind := kind) (vals := vals) (shards := order.take m)
    have hv8 := hv.1
    have sR := c48 kind vals (setOf (order.take m)) (by omega) (by omega)
    rw [d1, d2] at sR
    have sB := c21 kind (setOf (order.take i)) (by omega)
    rw [hcb, hi, S.few, ← hi] at sB
    have sB2 := c21 kind (setOf (order.take m)) (by omega)
    rw [hcb, S.bears2] at sB2
    have sE := c33 (readL kind vals (order.take m)) (readL kind vals (order.take m)) (by omega)
    rw [decide_eq_true rfl] at sE
    refine FL_of1 ?_
    rw [eq16_L0]
    simp only [hw, Int.toNat_natCast]
    rw [hset]
    exact Br_f (by omega) ⟨false, sB, Ck_d (by omega) (Ck_d (by omega) (Ck_le (by omega) (Ck_d (by omega) (Ck_d (by omega) (Ck_le (by omega) ⟨(_, _), sR, Br_nb (fun _ => ⟨true, sB2, Br_b (fun _ => Br_beq rfl ⟨_, sE, rfl, rfl⟩) (fun e => by cases e)⟩) (fun e => by cases e)⟩)))))⟩
  | n + 1, i, h => by
    have hpos := S.pos; have hle := S.le; have h6 := S.six
    have hw : IntKind.wrap .i64 ((m : Int) - 1) = ((m - 1 : Nat) : Int) := by rw [wrap64 (by omega) (by omega)]; omega
    have hi : i < order.length := by omega
    have htk : order.take (i + 1) = order.take i ++ [order.getD i 0] := by rw [take_succ' hi, getD_eq hi]
    have hmem : order.getD i 0 ∈ order.take m := by
      rw [getD_eq hi]
      exact List.mem_take_iff_getElem.2 ⟨i, by omega, rfl⟩
    obtain ⟨a0, a7⟩ := S.range _ hmem
    have hsl := setOf_len (order.take i)
    have ih := l16 kind hk vals order hv hol m S n (i + 1) (by omega)
    rw [htk, setOf_snoc _ a0 a7] at ih
    refine FL_of1 ?_
    rw [eq16_L0, wS (i := i) (by omega)]
    simp only [hw, Int.toNat_natCast]
    exact Br_t (by omega) (Ck_d (by omega) (Ck_d (by omega) (Ck_le (by omega) (Ck_d (by omega) (Ck_d (by omega) (Ck_le (by omega) ih))))))
theorem c16 (code : List Int) (hc : Bytes code) : SC P 16 [.one (.ro (.int .u8) code)] [] [.one (.bool true)] [] := by
  refine SC_of_FB (H := H16) E_ok Try.func16 (by kernel_rfl) ?_
  rw [eq16]
  refine Br_d (fun _ => ⟨rfl, rfl⟩) (fun hcl => ?_)
  obtain ⟨kind, vals, order, hv, ho, s0⟩ := c57 code hc
  have hrl := readSoon_len (kind := kind) (vals := vals) (order := order)
  have sE := c33 (readSoon kind vals order).1 (readSoon kind vals order).1 (by omega)
  rw [decide_eq_true rfl] at sE
  refine ⟨(kind, vals, order), s0, ((readSoon kind vals order).1, (readSoon kind vals order).2.1, (readSoon kind vals order).2.2), c56 kind vals order (by omega) (by omega), ((readSoon kind vals order).1, (readSoon kind vals order).2.1, (readSoon kind vals order).2.2), c46 kind vals order (by omega) (by omega), Br_bne rfl (Br_nd (fun e => absurd rfl e) (fun _ => ⟨_, sE, Br_nb (fun e => by cases e) (fun _ => Br_d (fun _ => Br_beq rfl (Br_t rfl ⟨_, sE, rfl, rfl⟩)) (fun e => ?_))⟩))⟩
  have e : ¬ (readSoon kind vals order).2.1 = 0 := e
  rw [readSoon] at e
  cases hkv : inB kind 1 2 && valsOk vals with
  | false => rw [hkv] at e; exact absurd rfl e
  | true =>
    have hk := hkv
    rw [Bool.and_eq_true] at hk
    rw [hkv, cond_true] at e
    rcases soonR_inv order.length 0 6 (Nat.zero_add _) rfl (fun x hx => by cases hx) (soon_start hk.1) (none_bears hk.1) with h | ⟨m, S⟩
    · exact absurd h e
    · have hq : readSoon kind vals order = (readL kind vals (order.take m), (m : Int), readOk kind vals (order.take m)) := by rw [readSoon, hkv, cond_true]; exact S.eq
      rw [hq]
      refine ⟨_, c47 0 (by omega) (by omega), ?_⟩
      exact l16 kind hk.1 vals order (vals_p hk.2) (by omega) m S (m - 1) 0 (Nat.zero_add _)
end Go.Proofs.Ytlebgbcoljnejaa.Sh
