/- Programs: laws on drawn ones. -/
import Derived.Test.YtnbdhclkmcfdfaaShQ1
namespace Go.Proofs.Ytnbdhclkmcfdfaa.Sh
open Go
set_option linter.unusedVariables false
set_option linter.unusedSimpArgs false
theorem Br_bne {a b : Bool} {A B : Prop} (e : a = b) (h : B) : Br (a != b) A B := by subst e; cases a <;> exact h
theorem Br_beq {a b : Bool} {A B : Prop} (e : a = b) (h : A) : Br (a == b) A B := by subst e; cases a <;> exact h
theorem stepOk_ops {s : Step} {m : Int} (h : stepOk s m = true) : s.1 = 1 ∨ s.1 = 2 ∨ s.1 = 3 := by
  rw [stepOk] at h
  by_cases c1 : s.1 = 1
  · exact .inl c1
  by_cases c2 : s.1 = 2
  · exact .inr (.inl c2)
  by_cases c3 : s.1 = 3
  · exact .inr (.inr c3)
  · rw [decide_eq_false c1, decide_eq_false c2, decide_eq_false c3] at h; cases h
theorem prog_ops {l : List Step} (h : progOk l = true) : ∀ s ∈ l, s.1 = 1 ∨ s.1 = 2 ∨ s.1 = 3 := by
  intro s hs
  obtain ⟨i, hi, rfl⟩ := List.getElem_of_mem hs
  have := prog_step h hi
  rw [hAt, getD_eq hi] at this
  exact stepOk_ops this
theorem many_sum : ∀ {l : List Step}, (∀ s ∈ l, s.1 = 1 ∨ s.1 = 2 ∨ s.1 = 3) → progMany l 1 + progMany l 2 + progMany l 3 = l.length
  | [], _ => rfl
  | s :: l, h => by
    have ih := many_sum (l := l) fun s hs => h s (List.mem_cons_of_mem _ hs)
    simp only [progMany] at ih ⊢
    rw [List.countP_cons, List.countP_cons, List.countP_cons, List.length_cons]
    rcases h s (List.mem_cons_self ..) with e | e | e <;> rw [e] <;> simp <;> omega
theorem hAt_take {l : List Step} {k i : Nat} (h : i < k) : hAt (l.take k) i = hAt l i := by
  rw [hAt, hAt, List.getD, List.getElem?_take_of_lt h]; rfl
theorem prog_take {l : List Step} (h : progOk l = true) {k : Nat} (h1 : 1 ≤ k) (h2 : k ≤ l.length) : progOk (l.take k) = true := by
  have hl := prog_len h
  have hk : (l.take k).length = k := by rw [List.length_take]; omega
  rw [progOk, Bool.and_eq_true, allR_iff, hk]
  refine ⟨fun i _ hi => ?_, inB_iff.2 (by omega)⟩
  rw [hAt_take (by omega)]
  exact prog_step h (by omega)
theorem hAt_snoc {l : List Step} {s : Step} : hAt (l ++ [s]) l.length = s := by
  rw [hAt, List.getD, List.getElem?_append_right (Nat.le_refl _), Nat.sub_self]; rfl
theorem hAt_app {l m : List Step} {i : Nat} (h : i < l.length) : hAt (l ++ m) i = hAt l i := by
  rw [hAt, hAt, List.getD, List.getElem?_append_left h]; rfl
theorem prog_bad {l : List Step} {s : Step} (h : stepOk s (l.length : Int) = false) : progOk (l ++ [s]) = false := by
  cases e : progOk (l ++ [s]) with
  | false => rfl
  | true =>
    have := prog_step e (i := l.length) (by simp)
    rw [hAt_snoc, h] at this
    cases this
theorem prog_snoc {l : List Step} {s : Step} (h : progOk l = true) (hs : stepOk s (l.length : Int) = true) (hl : l.length + 1 ≤ 16) : progOk (l ++ [s]) = true := by
  have h1 := prog_len h
  rw [progOk, Bool.and_eq_true, allR_iff]
  refine ⟨fun i _ hi => ?_, inB_iff.2 (by simp; omega)⟩
  rw [List.length_append, List.length_singleton] at hi
  by_cases e : i < l.length
  · rw [hAt_app e]; exact prog_step h e
  · obtain rfl : i = l.length := by omega
    rw [hAt_snoc]; exact hs
/-! loop.example/keelson/laws.FnProgMany -/
def H4 : Hint := ⟨[[(3, 0, .bool), (4, 0, .bool), (5, 0, .bool), (6, 0, .bool), (7, 0, .bool)]], [], [], [], [], [], []⟩
def S4_L0 (op4 : Int) (n5 : Int) (k6 : Int) (i7 : Int) (h0 : List (Int × (Int × Int))) : St := ⟨[(3, .w (.one (.sl 0 none))), (4, .w (.one (.int .i64 op4))), (5, .w (.one (.int .i64 n5))), (6, .w (.one (.int .i64 k6))), (7, .w (.one (.int .i64 i7)))], [.row (.pair (.int .i64) (.pair (.int .i64) (.int .i64))) h0 .own]⟩
theorem eq4 (code : List Int) (r : List W) (lh : Heap) : FB E H4 Try.f4 [.one (.ro (.int .u8) code)] [] r lh =
  (
   Br (decide ((1048576 : Int) < ((code.length : Nat) : Int))) (
    Ret r lh [.one (.bool true)] []) (
    ∃ r0 : List (Int × (Int × Int)) × Int, SC P 17 [.one (.ro (.int .u8) code)] [] [.one (.sl 0 none), .one (.int .i64 r0.2)] [.row (.pair (.int .i64) (.pair (.int .i64) (.int .i64))) r0.1 .own] ∧
     ∃ r1 : Int, SC P 18 [.one (.ro (.pair (.int .i64) (.pair (.int .i64) (.int .i64))) r0.1), .one (.int .i64 r0.2)] [] [.one (.int .i64 r1)] [] ∧
      ∃ r2 : Int, SC P 19 [.one (.ro (.pair (.int .i64) (.pair (.int .i64) (.int .i64))) r0.1), .one (.int .i64 r0.2)] [] [.one (.int .i64 r2)] [] ∧
       Br (!(decide (r1 = r2))) (
        ∃ r3 : Int, SC P 19 [.one (.ro (.pair (.int .i64) (.pair (.int .i64) (.int .i64))) r0.1), .one (.int .i64 r0.2)] [] [.one (.int .i64 r3)] [] ∧
         Ret r lh [.one (.bool (decide (r1 = r3)))] []) (
        Br (decide (r1 < (0 : Int))) (
         ∃ r4 : Int, SC P 19 [.one (.ro (.pair (.int .i64) (.pair (.int .i64) (.int .i64))) r0.1), .one (.int .i64 r0.2)] [] [.one (.int .i64 r4)] [] ∧
          Ret r lh [.one (.bool (decide (r1 = r4)))] []) (
         FL E H4 Try.f4 0 r lh 0 (S4_L0 r0.2 r1 0 0 r0.1))))) := by kernel_rfl
theorem eq4_L0 (op4 : Int) (n5 : Int) (k6 : Int) (i7 : Int) (h0 : List (Int × (Int × Int))) (r : List W) (lh : Heap) : FL1 E H4 Try.f4 0 r lh 0 (S4_L0 op4 n5 k6 i7 h0) =
  (
   Br (decide (i7 < ((h0.length : Nat) : Int))) (
    Ck (decide ((0 : Int) ≤ i7)) (
     Ck (decide (i7 < ((h0.length : Nat) : Int))) (
      Ck (Nat.blt i7.toNat h0.length) (
       Br (decide ((h0.getD i7.toNat (0, (0, 0))).1 = op4)) (
        FL E H4 Try.f4 0 r lh 0 (S4_L0 op4 n5 (IntKind.wrap .i64 (k6 + 1)) (IntKind.wrap .i64 (i7 + 1)) h0)) (
        FL E H4 Try.f4 0 r lh 0 (S4_L0 op4 n5 k6 (IntKind.wrap .i64 (i7 + 1)) h0)))))) (
    Br (decide (n5 = k6)) (
     ∃ r0 : Int, SC P 18 [.one (.ro (.pair (.int .i64) (.pair (.int .i64) (.int .i64))) h0), .one (.int .i64 1)] [] [.one (.int .i64 r0)] [] ∧
      ∃ r1 : Int, SC P 18 [.one (.ro (.pair (.int .i64) (.pair (.int .i64) (.int .i64))) h0), .one (.int .i64 2)] [] [.one (.int .i64 r1)] [] ∧
       ∃ r2 : Int, SC P 18 [.one (.ro (.pair (.int .i64) (.pair (.int .i64) (.int .i64))) h0), .one (.int .i64 3)] [] [.one (.int .i64 r2)] [] ∧
        Ret r lh [.one (.bool (decide ((IntKind.wrap .i64 ((IntKind.wrap .i64 (r0 + r1)) + r2)) = ((h0.length : Nat) : Int))))] []) (
     Ret r lh [.one (.bool false)] []))) := by kernel_rfl
theorem l4 (l : List Step) (hp : progOk l = true) (o : Int) (hl : l.length ≤ 1048576) : ∀ (n i k : Nat), i + n = l.length → k ≤ i → k + countR (fun j => decide ((l.getD j (0, (0, 0))).1 = o)) i n = progMany l o →
    FL E H4 Try.f4 0 [.one (.bool true)] [] 0 (S4_L0 o ((progMany l o : Nat) : Int) (k : Int) (i : Int) l)
  | 0, i, k, h, hk, e => by
    rw [countR] at e
    have hs := many_sum (prog_ops hp)
    have f := fun q => c18 l q hl
    simp only [progManyF, hp, cond_true] at f
    refine FL_of1 ?_
    rw [eq4_L0]
    refine Br_f (by omega) (Br_t (by omega) ⟨_, f 1, _, f 2, _, f 3, ?_, rfl⟩)
    rw [wrap64 (n := ((progMany l 1 : Nat) : Int) + ((progMany l 2 : Nat) : Int)) (by omega) (by omega), wrap64 (by omega) (by omega), decide_eq_true (by omega)]
  | n + 1, i, k, h, hk, e => by
    rw [countR] at e
    refine FL_of1 ?_
    rw [eq4_L0, wS (i := i) (by omega), wS (i := k) (by omega)]
    simp only [Int.toNat_natCast]
    refine Br_t (by omega) (Ck_d (by omega) (Ck_d (by omega) (Ck_lt (by omega) (Br_d (fun c => ?_) (fun c => ?_)))))
    · rw [decide_eq_true c, cond_true] at e
      exact l4 l hp o hl n (i + 1) (k + 1) (by omega) (by omega) (by omega)
    · rw [decide_eq_false c, cond_false] at e
      exact l4 l hp o hl n (i + 1) k (by omega) (by omega) (by omega)
theorem c4 (code : List Int) (hc : Bytes code) : SC P 4 [.one (.ro (.int .u8) code)] [] [.one (.bool true)] [] := by
  refine SC_of_FB (H := H4) E_ok Try.func4 (by kernel_rfl) ?_
  rw [eq4]
  refine Br_d (fun _ => ⟨rfl, rfl⟩) (fun hcl => ?_)
  obtain ⟨l, o, l1, l2, s0⟩ := c17 code hc
  have s1 := c18 l o (by omega)
  have s2 := c19 l o (by omega)
  refine ⟨(l, o), s0, _, s1, _, s2, Br_nd (fun e => absurd rfl e) (fun _ => Br_d (fun _ => ⟨_, s2, by rw [decide_eq_true rfl], rfl⟩) (fun e => ?_))⟩
  cases hp : progOk l with
  | false => rw [progManyF, hp, cond_false] at e; omega
  | true =>
    rw [progManyF, hp, cond_true]
    exact l4 l hp o (by omega) l.length 0 0 (Nat.zero_add _) (Nat.le_refl _) (by rw [Nat.zero_add, countR_countP (l := l) (z := (0, (0, 0))) (fun s => decide (s.1 = o))]; rfl)
/-! loop.example/keelson/impl.ProgOk -/
def H15n : Hint := ⟨[[(0, 0, .bool), (5, 0, .bool), (6, 0, .bool), (7, 0, .bool)]], [], [], [], [], [], []⟩
def S15n_L0 (x6 : Int) (x7 : Int) : St := ⟨[(0, .w (.one (.nil))), (5, .w (.one (.nil))), (6, .w (.one (.int .i64 x6))), (7, .w (.one (.int .i64 x7)))], []⟩
theorem eq15n (r : List W) (lh : Heap) : FB E H15n Try.f15 [.one (.nil)] [] r lh =
  (
   FL E H15n Try.f15 0 r lh 0 (S15n_L0 0 0)) := by kernel_rfl
theorem eq15n_L0 (x6 : Int) (x7 : Int) (r : List W) (lh : Heap) : FL1 E H15n Try.f15 0 r lh 0 (S15n_L0 x6 x7) =
  (
   Br (decide (x7 < x6)) (
    False) (
    ∃ r0 : Bool, SC P 66 [.one (.int .i64 0), .one (.int .i64 1), .one (.int .i64 16)] [] [.one (.bool r0)] [] ∧
     Ret r lh [.one (.bool r0)] [])) := by kernel_rfl
theorem c15n : SC P 15 [.one .nil] [] [.one (.bool false)] [] := by
  refine SC_of_FB (H := H15n) E_ok Try.func15 (by kernel_rfl) ?_
  rw [eq15n]
  refine FL_of1 ?_
  rw [eq15n_L0]
  exact Br_f (by omega) ⟨_, c66 _ _ _, rfl, rfl⟩
/-! loop.example/keelson/laws.FnProgForm -/
def H3 : Hint := ⟨[], [], [], [], [], [], []⟩
theorem eq3 (code : List Int) (more : List Int) (r : List W) (lh : Heap) : FB E H3 Try.f3 [.one (.ro (.int .u8) code), .one (.ro (.int .u8) more)] [] r lh =
  (
   Br (decide ((1048576 : Int) < ((code.length : Nat) : Int))) (
    Ret r lh [.one (.bool true)] []) (
    Br (decide ((1048576 : Int) < ((more.length : Nat) : Int))) (
     Ret r lh [.one (.bool true)] []) (
     ∃ r0 : List (Int × (Int × Int)), SC P 14 [.one (.ro (.int .u8) code)] [] [.one (.ro (.pair (.int .i64) (.pair (.int .i64) (.int .i64))) r0)] [] ∧
      ∃ r1 : Bool, SC P 15 [.one (.ro (.pair (.int .i64) (.pair (.int .i64) (.int .i64))) r0)] [] [.one (.bool r1)] [] ∧
       ∃ r2 : Bool, SC P 16 [.one (.ro (.pair (.int .i64) (.pair (.int .i64) (.int .i64))) r0)] [] [.one (.bool r2)] [] ∧
        Br (r1 != r2) (
         ∃ r3 : Bool, SC P 16 [.one (.ro (.pair (.int .i64) (.pair (.int .i64) (.int .i64))) r0)] [] [.one (.bool r3)] [] ∧
          Ret r lh [.one (.bool (r1 == r3))] []) (
         Br (!r1) (
          ∃ r4 : Bool, SC P 16 [.one (.ro (.pair (.int .i64) (.pair (.int .i64) (.int .i64))) r0)] [] [.one (.bool r4)] [] ∧
           Ret r lh [.one (.bool (r1 == r4))] []) (
          Ck (!decide (((r0.length : Nat) : Int) = 0)) (
           Ck (decide ((0 : Int) ≤ (IntKind.wrap .i64 ((Int.tmod ((more.length : Nat) : Int) ((r0.length : Nat) : Int)) + 1)))) (
            Ck (decide ((IntKind.wrap .i64 ((Int.tmod ((more.length : Nat) : Int) ((r0.length : Nat) : Int)) + 1)) ≤ ((r0.length : Nat) : Int))) (
             Ck (decide (((r0.length : Nat) : Int) ≤ ((r0.length : Nat) : Int))) (
              Ck (Nat.ble ((0 + ((r0.drop 0).take ((IntKind.wrap .i64 ((Int.tmod ((more.length : Nat) : Int) ((r0.length : Nat) : Int)) + 1)).toNat - 0)).length) * 24) roomy) (
               Ck (Nat.ble ((([] ++ ((r0.drop 0).take ((IntKind.wrap .i64 ((Int.tmod ((more.length : Nat) : Int) ((r0.length : Nat) : Int)) + 1)).toNat - 0))).length + 1) * 24) roomy) (
                Ck (decide ((0 : Int) ≤ (IntKind.wrap .i64 ((Int.tmod ((more.length : Nat) : Int) ((r0.length : Nat) : Int)) + 1)))) (
                 Ck (decide ((IntKind.wrap .i64 ((Int.tmod ((more.length : Nat) : Int) ((r0.length : Nat) : Int)) + 1)) ≤ ((r0.length : Nat) : Int))) (
                  Ck (decide (((r0.length : Nat) : Int) ≤ ((r0.length : Nat) : Int))) (
                   Ck (Nat.ble ((0 + ((r0.drop 0).take ((IntKind.wrap .i64 ((Int.tmod ((more.length : Nat) : Int) ((r0.length : Nat) : Int)) + 1)).toNat - 0)).length) * 24) roomy) (
                    Ck (Nat.ble ((([] ++ ((r0.drop 0).take ((IntKind.wrap .i64 ((Int.tmod ((more.length : Nat) : Int) ((r0.length : Nat) : Int)) + 1)).toNat - 0))).length + 1) * 24) roomy) (
                     Ck (decide ((0 : Int) ≤ (IntKind.wrap .i64 ((Int.tmod ((more.length : Nat) : Int) ((r0.length : Nat) : Int)) + 1)))) (
                      Ck (decide ((IntKind.wrap .i64 ((Int.tmod ((more.length : Nat) : Int) ((r0.length : Nat) : Int)) + 1)) ≤ ((r0.length : Nat) : Int))) (
                       Ck (decide (((r0.length : Nat) : Int) ≤ ((r0.length : Nat) : Int))) (
                        ∃ r5 : Bool, SC P 15 [.one (.ro (.pair (.int .i64) (.pair (.int .i64) (.int .i64))) ((r0.drop 0).take ((IntKind.wrap .i64 ((Int.tmod ((more.length : Nat) : Int) ((r0.length : Nat) : Int)) + 1)).toNat - 0)))] [] [.one (.bool r5)] [] ∧
                         Br r5 (
                          ∃ r6 : Bool, SC P 15 [.one (.ro (.pair (.int .i64) (.pair (.int .i64) (.int .i64))) (([] ++ ((r0.drop 0).take ((IntKind.wrap .i64 ((Int.tmod ((more.length : Nat) : Int) ((r0.length : Nat) : Int)) + 1)).toNat - 0))) ++ ([(2, ((IntKind.wrap .i64 ((Int.tmod ((more.length : Nat) : Int) ((r0.length : Nat) : Int)) + 1)), 1))] : List (Int × (Int × Int)))))] [] [.one (.bool r6)] [] ∧
                           Br (!r6) (
                            ∃ r7 : Bool, SC P 15 [.one (.ro (.pair (.int .i64) (.pair (.int .i64) (.int .i64))) (([] ++ ((r0.drop 0).take ((IntKind.wrap .i64 ((Int.tmod ((more.length : Nat) : Int) ((r0.length : Nat) : Int)) + 1)).toNat - 0))) ++ ([(4, (0, 0))] : List (Int × (Int × Int)))))] [] [.one (.bool r7)] [] ∧
                             Br (!r7) (
                              ∃ r8 : Bool, SC P 15 [.one (.nil)] [] [.one (.bool r8)] [] ∧
                               Ret r lh [.one (.bool (!r8))] []) (
                              Ret r lh [.one (.bool false)] [])) (
                            Ret r lh [.one (.bool false)] [])) (
                          Ret r lh [.one (.bool false)] [])))))))))))))))))))) := by kernel_rfl
theorem c3 (code more : List Int) (hc : Bytes code) : SC P 3 [.one (.ro (.int .u8) code), .one (.ro (.int .u8) more)] [] [.one (.bool true)] [] := by
  refine SC_of_FB (H := H3) E_ok Try.func3 (by kernel_rfl) ?_
  rw [eq3]
  refine Br_d (fun _ => ⟨rfl, rfl⟩) (fun hcl => Br_d (fun _ => ⟨rfl, rfl⟩) (fun hml => ?_))
  obtain ⟨l, l2, s0⟩ := c14 code hc
  have s1 := c15 l (by omega)
  have s2 := c16 l (by omega)
  refine ⟨l, s0, _, s1, _, s2, Br_bne rfl (Br_nb (fun e => ⟨_, s2, by simp, rfl⟩) (fun hp => ?_))⟩
  have hp : progOk l = true := hp
  have hl := prog_len hp
  have hmod : Int.tmod (more.length : Int) (l.length : Int) = ((more.length % l.length : Nat) : Int) := by rw [Int.tmod_eq_emod_of_nonneg (by omega)]; rfl
  have hlt : more.length % l.length < l.length := Nat.mod_lt _ (by omega)
  rw [hmod, wS (by omega)]
  generalize hK : more.length % l.length + 1 = K
  have hK1 : 1 ≤ K := by omega
  have hK2 : K ≤ l.length := by omega
  simp only [Int.toNat_natCast, List.drop_zero, Nat.sub_zero, List.nil_append]
  have htl : (l.take K).length = K := by rw [List.length_take]; omega
  have t1 := c15 (l.take K) (by omega)
  rw [prog_take hp hK1 hK2] at t1
  have b1 : stepOk (2, ((K : Int), 1)) ((l.take K).length : Int) = false := by
    rw [htl]
    show (inB (K : Int) 0 ((K : Int) - 1) && inB 1 0 30) = false
    cases h : inB (K : Int) 0 ((K : Int) - 1) with
    | false => rfl
    | true => have := inB_iff.1 h; omega
  have t2 := c15 (l.take K ++ [(2, ((K : Int), 1))]) (by simp; omega)
  rw [prog_bad b1] at t2
  have t3 := c15 (l.take K ++ [(4, (0, 0))]) (by simp; omega)
  rw [prog_bad (show stepOk (4, (0, 0)) _ = false from rfl)] at t3
  have t4 := c15n
  refine Ck_n (by omega) ?_
  repeat (first | refine Ck_d (by omega) ?_ | refine Ck_room (by first | omega | (simp; omega)) ?_)
  exact ⟨true, t1, Br_b (fun _ => ⟨false, t2, Br_nb (fun _ => ⟨false, t3, Br_nb (fun _ => ⟨false, t4, rfl, rfl⟩) (fun e => by cases e)⟩) (fun e => by cases e)⟩) (fun e => by cases e)⟩
end Go.Proofs.Ytnbdhclkmcfdfaa.Sh
