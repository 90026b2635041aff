/- Programs of plans: laws on drawn ones. -/
import Derived.Test.YtnbdhclkmcfdfaaShQ2
namespace Go.Proofs.Ytnbdhclkmcfdfaa.Sh
open Go
set_option linter.unusedVariables false
set_option linter.unusedSimpArgs false
/-- so far each step may stand where it stands -/
def StepsOk (out : List Step) : Prop := ∀ j, j < out.length → stepOk (hAt out j) (j : Int) = true
theorem stepsOk_snoc {out : List Step} {s : Step} (h : StepsOk out) (hs : stepOk s (out.length : Int) = true) : StepsOk (out ++ [s]) := by
  intro j hj
  rw [List.length_append, List.length_singleton] at hj
  by_cases e : j < out.length
  · rw [hAt_app e]; exact h j e
  · obtain rfl : j = out.length := by omega
    rw [hAt_snoc]; exact hs
theorem many_snoc (out : List Step) (s : Step) (o : Int) : progMany (out ++ [s]) o = progMany out o + (if s.1 = o then 1 else 0) := by
  rw [progMany, progMany, List.countP_append, List.countP_cons, List.countP_nil]
  by_cases h : s.1 = o
  · rw [decide_eq_true h, if_pos h]; rfl
  · rw [decide_eq_false h, if_neg h]; rfl
theorem stepOk1 {a m : Int} (h0 : 0 ≤ a) (h1 : a ≤ 7) : stepOk (1, (a, 0)) m = true := by
  show (inB a 0 7 && decide ((0 : Int) = 0)) = true
  rw [inB_iff.2 ⟨h0, h1⟩]; rfl
theorem stepOk2 {a b m : Int} (h0 : 0 ≤ a) (h1 : a ≤ m - 1) (hb : FOk b) : stepOk (2, (a, b)) m = true := by
  show (inB a 0 (m - 1) && inB b 0 30) = true
  rw [inB_iff.2 ⟨h0, h1⟩, inB_iff.2 hb]; rfl
theorem stepOk3 {a b m : Int} (h0 : 0 ≤ a) (h1 : a ≤ m - 1) (h2 : 0 ≤ b) (h3 : b ≤ m - 1) : stepOk (3, (a, b)) m = true := by
  show (inB a 0 (m - 1) && inB b 0 (m - 1)) = true
  rw [inB_iff.2 ⟨h0, h1⟩, inB_iff.2 ⟨h2, h3⟩]; rfl
structure ProgI (F B : List Int) (i : Nat) (sum : Int) (out : List Step) : Prop where
  ok : StepsOk out
  sum : i = 0 ∨ (0 ≤ sum ∧ sum ≤ (out.length : Int) - 1)
  one : progMany out 1 = i
  two : progMany out 2 = countR (fun j => !decide (B.getD j 0 = 1)) 0 i
  three : progMany out 3 = i - 1
theorem countR_last {p : Nat → Bool} : ∀ {n i : Nat}, countR p i (n + 1) = countR p i n + (bif p (i + n) then 1 else 0)
  | 0, i => by rw [countR, countR, countR]; simp
  | n + 1, i => by
    rw [countR, countR_last (n := n), countR, show i + 1 + n = i + (n + 1) by omega]
    omega
theorem progStep_i {F B : List Int} {i : Nat} {sum : Int} {out : List Step} (h : ProgI F B i sum out) (hf : 0 ≤ F.getD i 0 ∧ F.getD i 0 ≤ 7) (hb : FOk (B.getD i 0)) : ProgI F B (i + 1) (((progStep F B sum out i).length : Int) - 1) (progStep F B sum out i) := by
  obtain ⟨ok, hs, o1, o2, o3⟩ := h
  have a1 : StepsOk (out ++ [(1, (F.getD i 0, 0))]) := stepsOk_snoc ok (stepOk1 hf.1 hf.2)
  have hl1 : (out ++ [((1, (F.getD i 0, 0)) : Step)]).length = out.length + 1 := by simp
  have key : ∀ out2 : List Step, StepsOk out2 → out.length + 1 ≤ out2.length → progMany out2 1 = i + 1 → progMany out2 2 = countR (fun j => !decide (B.getD j 0 = 1)) 0 (i + 1) → progMany out2 3 = i - 1 →
      ProgI F B (i + 1) (((bif decide (i = 0) then out2 else out2 ++ [st3 sum ((out2.length : Int) - 1)]).length : Int) - 1) (bif decide (i = 0) then out2 else out2 ++ [st3 sum ((out2.length : Int) - 1)]) := by
    intro out2 k1 k2 k3 k4 k5
    by_cases e : i = 0
    · rw [decide_eq_true e, cond_true]
      exact ⟨k1, .inr ⟨by omega, by omega⟩, k3, k4, by omega⟩
    · rw [decide_eq_false e, cond_false]
      have hs' : 0 ≤ sum ∧ sum ≤ (out.length : Int) - 1 := hs.resolve_left e
      refine ⟨stepsOk_snoc k1 (stepOk3 (by omega) (by omega) (by omega) (by omega)), .inr ⟨by rw [List.length_append, List.length_singleton]; omega, by omega⟩, ?_, ?_, ?_⟩
      · rw [many_snoc, k3]; rfl
      · rw [many_snoc, k4]; rfl
      · rw [many_snoc, k5]; show i - 1 + 1 = i + 1 - 1; omega
  have hc : countR (fun j => !decide (B.getD j 0 = 1)) 0 (i + 1) = countR (fun j => !decide (B.getD j 0 = 1)) 0 i + (bif !decide (B.getD i 0 = 1) then 1 else 0) := by rw [countR_last, Nat.zero_add]
  rw [progStep]
  by_cases e : B.getD i 0 = 1
  · rw [decide_eq_true e, cond_true]
    rw [decide_eq_true e] at hc
    refine key _ a1 (by rw [hl1]; omega) ?_ ?_ ?_
    · rw [many_snoc, o1]; rfl
    · rw [many_snoc, o2, hc]; rfl
    · rw [many_snoc, o3]; rfl
  · rw [decide_eq_false e, cond_false]
    rw [decide_eq_false e] at hc
    refine key _ (stepsOk_snoc a1 (stepOk2 (by rw [hl1]; omega) (by rw [hl1]; omega) hb)) (by simp) ?_ ?_ ?_
    · rw [many_snoc, many_snoc, o1]; rfl
    · rw [many_snoc, many_snoc, o2, hc]; rfl
    · rw [many_snoc, many_snoc, o3]; rfl
theorem progOfR_i {F B : List Int} (hf : ∀ i, i < F.length → 0 ≤ F.getD i 0 ∧ F.getD i 0 ≤ 7) (hb : ∀ i, i < F.length → FOk (B.getD i 0)) : ∀ (n i : Nat) (sum : Int) (out : List Step), i + n = F.length → ProgI F B i sum out → ∃ sum', ProgI F B F.length sum' (progOfR F B i n sum out)
  | 0, i, sum, out, h, hi => ⟨sum, by obtain rfl : i = F.length := by omega
                                      exact hi⟩
  | n + 1, i, sum, out, h, hi => progOfR_i hf hb n (i + 1) _ _ (by omega) (progStep_i hi (hf i (by omega)) (hb i (by omega)))
/-- the program of a plan -/
theorem progOf_i {p : Pln} (h : formed p = true) : progOk (progOfF p) = true ∧ progMany (progOfF p) 1 = p.2.1.length ∧ progMany (progOfF p) 2 = countR (fun j => !decide (p.2.2.getD j 0 = 1)) 0 p.2.1.length ∧ progMany (progOfF p) 3 = p.2.1.length - 1 := by
  obtain ⟨⟨f1, f4⟩, fl, fa⟩ := formed_iff h
  have hfa : ∀ i, i < p.2.1.length → (0 ≤ p.2.1.getD i 0 ∧ p.2.1.getD i 0 ≤ 7) ∧ FOk (p.2.2.getD i 0) := by
    intro i hi
    obtain ⟨a, b⟩ := fa i hi
    rw [formedAt, Bool.and_eq_true, Bool.and_eq_true] at a
    have b' := inB_iff.1 b
    exact ⟨inB_iff.1 a.1.1, ⟨by omega, by omega⟩⟩
  obtain ⟨s, ok, _, o1, o2, o3⟩ := progOfR_i (F := p.2.1) (B := p.2.2) (fun i hi => (hfa i hi).1) (fun i hi => (hfa i hi).2) p.2.1.length 0 0 [] (Nat.zero_add _) ⟨fun j hj => absurd hj (Nat.not_lt_zero _), .inl rfl, rfl, rfl, rfl⟩
  have hlen := progOfF_len (p := p)
  have he : progOfF p = progOfR p.2.1 p.2.2 0 p.2.1.length 0 [] := by rw [progOfF, h]; rfl
  rw [← he] at ok o1 o2 o3
  refine ⟨?_, o1, o2, o3⟩
  have hpos : 1 ≤ (progOfF p).length := by
    have := List.countP_le_length (p := fun s : Step => decide (s.1 = 1)) (l := progOfF p)
    have o1' : (progOfF p).countP (fun s => decide (s.1 = 1)) = p.2.1.length := o1
    omega
  rw [progOk, Bool.and_eq_true, allR_iff]
  exact ⟨fun i _ hi => ok i (by omega), inB_iff.2 (by omega)⟩
/-! loop.example/keelson/spec.DrawProgOf -/
def H20 : Hint := ⟨[], [], [], [], [], [], []⟩
theorem eq20 (code : List Int) (r : List W) (lh : Heap) : FB E H20 Try.f20 [.one (.ro (.int .u8) code)] [] r lh =
  (
   ∃ r0 : (List Int × Int), SC P 62 [.one (.ro (.int .u8) code)] [] [.one (.ptr 0 0 0)] [.box [.ro (.int .u8) r0.1, .int .i64 r0.2]] ∧
    ∃ r1 : List Int × Int × Int × Int × List Int × List Int, SC P 69 [.one (.ptr 0 0 0)] [.box [.ro (.int .u8) r0.1, .int .i64 r0.2]] [.one (.int .i64 r1.2.2.1), .agg [.int .i64 r1.2.2.2.1, .sl 1 none, .sl 2 none]] [.box [.ro (.int .u8) r1.1, .int .i64 r1.2.1], .row (.int .i64) r1.2.2.2.2.1 .own, .row (.int .i64) r1.2.2.2.2.2 .own] ∧
     Ret r lh [.agg [.int .i64 r1.2.2.2.1, .sl 0 none, .sl 1 none]] [.row (.int .i64) r1.2.2.2.2.1 .own, .row (.int .i64) r1.2.2.2.2.2 .own]) := by kernel_rfl
theorem c20 (code : List Int) (hc : Bytes code) : ∃ (L : Int) (F B : List Int), F.length ≤ 8 ∧ B.length ≤ 8 ∧ SC P 20 [.one (.ro (.int .u8) code)] [] [.agg [.int .i64 L, .sl 0 none, .sl 1 none]] [.row (.int .i64) F .own, .row (.int .i64) B .own] := by
  obtain ⟨b, hb, s0⟩ := c62 code hc
  obtain ⟨k, L, F, B, p, f8, b8, p0, p1, s1⟩ := c69 b 0 hb (by omega) (by omega)
  refine ⟨L, F, B, f8, b8, ?_⟩
  refine SC_of_FB (H := H20) E_ok Try.func20 (by kernel_rfl) ?_
  rw [eq20]
  exact ⟨(b, 0), s0, (b, p, k, L, F, B), s1, rfl, rfl⟩
/-! loop.example/keelson/laws.FnProgSteps -/
def H5 : Hint := ⟨[[(3, 0, .bool), (4, 0, .bool), (8, 0, .bool), (9, 0, .bool)]], [], [(14, [0, 2, 3, 4, 1, 5, 6, 7, 9, 8, 10, 11, 12, 13, 15, 16, 17, 18, 14, 19, 20, 21])], [], [], [], []⟩
def S5_L0 (n8 : Int) (i9 : Int) (b0_0 : Int) (h1 : List Int) (h2 : List Int) (h3 : List (Int × (Int × Int))) : St := ⟨[(3, .w (.one (.ptr 0 0 0))), (4, .w (.one (.sl 3 none))), (8, .w (.one (.int .i64 n8))), (9, .w (.one (.int .i64 i9)))], [.box [.int .i64 b0_0, .sl 1 none, .sl 2 none], .row (.int .i64) h1 .own, .row (.int .i64) h2 .own, .row (.pair (.int .i64) (.pair (.int .i64) (.int .i64))) h3 .own]⟩
theorem eq5 (code : List Int) (r : List W) (lh : Heap) : FB E H5 Try.f5 [.one (.ro (.int .u8) code)] [] r lh =
  (
   Br (decide ((1048576 : Int) < ((code.length : Nat) : Int))) (
    Ret r lh [.one (.bool true)] []) (
    ∃ r0 : Int × List Int × List Int, SC P 20 [.one (.ro (.int .u8) code)] [] [.agg [.int .i64 r0.1, .sl 0 none, .sl 1 none]] [.row (.int .i64) r0.2.1 .own, .row (.int .i64) r0.2.2 .own] ∧
     ∃ r1 : List (Int × (Int × Int)) × Bool, SC P 21 [.agg [.int .i64 r0.1, .ro (.int .i64) r0.2.1, .ro (.int .i64) r0.2.2]] [] [.one (.sl 0 none), .one (.bool r1.2)] [.row (.pair (.int .i64) (.pair (.int .i64) (.int .i64))) r1.1 .own] ∧
      ∃ r2 : List (Int × (Int × Int)) × Bool, SC P 22 [.agg [.int .i64 r0.1, .ro (.int .i64) r0.2.1, .ro (.int .i64) r0.2.2]] [] [.one (.sl 0 none), .one (.bool r2.2)] [.row (.pair (.int .i64) (.pair (.int .i64) (.int .i64))) r2.1 .own] ∧
       Br (r1.2 != r2.2) (
        Br (r1.2 == r2.2) (
         Ret r lh [.one (.bool (decide (((r1.1.length : Nat) : Int) = ((r2.1.length : Nat) : Int))))] []) (
         Ret r lh [.one (.bool false)] [])) (
        Br (!(decide (((r1.1.length : Nat) : Int) = ((r2.1.length : Nat) : Int)))) (
         Br (r1.2 == r2.2) (
          Ret r lh [.one (.bool (decide (((r1.1.length : Nat) : Int) = ((r2.1.length : Nat) : Int))))] []) (
          Ret r lh [.one (.bool false)] [])) (
         Br (!r1.2) (
          Br (r1.2 == r2.2) (
           Ret r lh [.one (.bool (decide (((r1.1.length : Nat) : Int) = ((r2.1.length : Nat) : Int))))] []) (
           Ret r lh [.one (.bool false)] [])) (
          FL E H5 Try.f5 0 r lh 0 (S5_L0 0 0 r0.1 r0.2.1 r0.2.2 r1.1)))))) := by kernel_rfl
theorem eq5_L0 (n8 : Int) (i9 : Int) (b0_0 : Int) (h1 : List Int) (h2 : List Int) (h3 : List (Int × (Int × Int))) (r : List W) (lh : Heap) : FL1 E H5 Try.f5 0 r lh 0 (S5_L0 n8 i9 b0_0 h1 h2 h3) =
  (
   Br (decide (i9 < ((h2.length : Nat) : Int))) (
    Ck (decide ((0 : Int) ≤ i9)) (
     Ck (decide (i9 < ((h2.length : Nat) : Int))) (
      Ck (Nat.ble (i9.toNat + 1) h2.length) (
       Br (!(decide ((h2.getD i9.toNat 0) = (1 : Int)))) (
        FL E H5 Try.f5 0 r lh 0 (S5_L0 (IntKind.wrap .i64 (n8 + 1)) (IntKind.wrap .i64 (i9 + 1)) b0_0 h1 h2 h3)) (
        FL E H5 Try.f5 0 r lh 0 (S5_L0 n8 (IntKind.wrap .i64 (i9 + 1)) b0_0 h1 h2 h3)))))) (
    ∃ r0 : Int, SC P 18 [.one (.ro (.pair (.int .i64) (.pair (.int .i64) (.int .i64))) h3), .one (.int .i64 1)] [] [.one (.int .i64 r0)] [] ∧
     Br (decide (r0 = ((h1.length : Nat) : Int))) (
      ∃ r1 : Int, SC P 18 [.one (.ro (.pair (.int .i64) (.pair (.int .i64) (.int .i64))) h3), .one (.int .i64 2)] [] [.one (.int .i64 r1)] [] ∧
       Br (decide (r1 = n8)) (
        ∃ r2 : Int, SC P 18 [.one (.ro (.pair (.int .i64) (.pair (.int .i64) (.int .i64))) h3), .one (.int .i64 3)] [] [.one (.int .i64 r2)] [] ∧
         Ret r lh [.one (.bool (decide (r2 = (IntKind.wrap .i64 (((h1.length : Nat) : Int) - 1)))))] []) (
        Ret r lh [.one (.bool false)] [])) (
      Ret r lh [.one (.bool false)] []))) := by kernel_rfl
theorem l5 (p : Pln) (hp : formed p = true) (hl : p.2.1.length ≤ 8) (hb : p.2.2.length ≤ 8) : ∀ (n i k : Nat), i + n = p.2.2.length → k ≤ i → k + countR (fun j => !decide (p.2.2.getD j 0 = 1)) i n = progMany (progOfF p) 2 →
    FL E H5 Try.f5 0 [.one (.bool true)] [] 0 (S5_L0 (k : Int) (i : Int) p.1 p.2.1 p.2.2 (progOfF p))
  | 0, i, k, h, hk, e => by
    rw [countR, Nat.add_zero] at e
    obtain ⟨ok, o1, o2, o3⟩ := progOf_i hp
    obtain ⟨⟨f1, f4⟩, fl, fa⟩ := formed_iff hp
    have hlen := progOfF_len (p := p)
    have f := fun q => c18 (progOfF p) q (by omega)
    simp only [progManyF, ok, cond_true] at f
    refine FL_of1 ?_
    rw [eq5_L0]
    refine Br_f (by omega) ⟨_, f 1, Br_t (by omega) ⟨_, f 2, Br_t (by omega) ⟨_, f 3, ?_, rfl⟩⟩⟩
    rw [wrap64 (by omega) (by omega), decide_eq_true (by omega)]
  | n + 1, i, k, h, hk, e => by
    rw [countR] at e
    refine FL_of1 ?_
    rw [eq5_L0, wS (i := i) (by omega), wS (i := k) (by omega)]
    simp only [Int.toNat_natCast]
    refine Br_t (by omega) (Ck_d (by omega) (Ck_d (by omega) (Ck_le (by omega) (Br_nd (fun c => ?_) (fun c => ?_)))))
    · rw [decide_eq_false c, Bool.not_false, cond_true] at e
      exact l5 p hp hl hb n (i + 1) (k + 1) (by omega) (by omega) (by omega)
    · rw [decide_eq_true c, Bool.not_true, cond_false] at e
      exact l5 p hp hl hb n (i + 1) k (by omega) (by omega) (by omega)
theorem c5 (code : List Int) (hc : Bytes code) : SC P 5 [.one (.ro (.int .u8) code)] [] [.one (.bool true)] [] := by
  refine SC_of_FB (H := H5) E_ok Try.func5 (by kernel_rfl) ?_
  rw [eq5]
  refine Br_d (fun _ => ⟨rfl, rfl⟩) (fun hcl => ?_)
  obtain ⟨L, F, B, f8, b8, s0⟩ := c20 code hc
  have s1 := c21 (L, F, B) (by dsimp only; omega) (by dsimp only; omega)
  have s2 := c22 (L, F, B) (by dsimp only; omega) (by dsimp only; omega)
  refine ⟨(L, F, B), s0, (progOfF (L, F, B), formed (L, F, B)), s1, (progOfF (L, F, B), formed (L, F, B)), s2, Br_bne rfl (Br_nd (fun e => absurd rfl e) (fun _ => Br_nb (fun e => Br_beq rfl ⟨by rw [decide_eq_true rfl], rfl⟩) (fun e => ?_)))⟩
  have hp : formed (L, F, B) = true := e
  obtain ⟨ok, o1, o2, o3⟩ := progOf_i hp
  obtain ⟨⟨f1, f4⟩, fl, fa⟩ := formed_iff hp
  exact l5 (L, F, B) hp f8 b8 B.length 0 0 (Nat.zero_add _) (Nat.le_refl _) (by rw [Nat.zero_add, o2]; rw [show B.length = F.length from fl])
end Go.Proofs.Ytnbdhclkmcfdfaa.Sh
