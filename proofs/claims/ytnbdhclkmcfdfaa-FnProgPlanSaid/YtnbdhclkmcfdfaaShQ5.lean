/- Programs and plans: a law on drawn ones. -/
import Derived.Test.YtnbdhclkmcfdfaaShQ3
import Derived.Test.YtnbdhclkmcfdfaaShQ4
namespace Go.Proofs.Ytnbdhclkmcfdfaa.Sh
open Go
set_option linter.unusedVariables false
set_option linter.unusedSimpArgs false
def sumP (kind : Int) (F B : List Int) : Nat → Nat → V4 → V4
  | _, 0, acc => acc
  | i, n + 1, acc => sumP kind F B (i + 1) n (vplus acc (vtimes (rowV kind (F.getD i 0)) (B.getD i 0)))
def planOkF (kind : Int) (p : Pln) : Bool := inB kind 1 2 && (formed p && decide (sumP kind p.2.1 p.2.2 0 p.2.1.length (0, 0, 0, 0) = rowV kind p.1))
theorem v4_eq (a b : V4) : (decide (a.1 = b.1) && (decide (a.2.1 = b.2.1) && (decide (a.2.2.1 = b.2.2.1) && decide (a.2.2.2 = b.2.2.2)))) = decide (a = b) := by
  obtain ⟨a0, a1, a2, a3⟩ := a
  obtain ⟨b0, b1, b2, b3⟩ := b
  rw [Bool.eq_iff_iff]
  simp only [Bool.and_eq_true, decide_eq_true_eq, Prod.mk.injEq]
theorem v4_l_eq (a b : V4) : decide (a.l = b.l) = decide (a = b) := by
  refine decide_eq_decide.2 ⟨fun h => ?_, fun h => by rw [h]⟩
  obtain ⟨a0, a1, a2, a3⟩ := a
  obtain ⟨b0, b1, b2, b3⟩ := b
  simp only [V4.l, List.cons.injEq, and_true] at h
  obtain ⟨h0, h1, h2, h3⟩ := h
  rw [h0, h1, h2, h3]
theorem formed_fb {p : Pln} (h : formed p = true) : (0 ≤ p.1 ∧ p.1 ≤ 7) ∧ ∀ i, i < p.2.1.length → (0 ≤ p.2.1.getD i 0 ∧ p.2.1.getD i 0 ≤ 7) ∧ FOk (p.2.2.getD i 0) := by
  obtain ⟨⟨f1, f4⟩, fl, fa⟩ := formed_iff h
  rw [formed, Bool.and_eq_true, Bool.and_eq_true, Bool.and_eq_true] at h
  refine ⟨inB_iff.1 h.1.1.1, fun i hi => ?_⟩
  obtain ⟨a, b⟩ := fa i hi
  rw [formedAt, Bool.and_eq_true, Bool.and_eq_true] at a
  have b' := inB_iff.1 b
  exact ⟨inB_iff.1 a.1.1, ⟨by omega, by omega⟩⟩
theorem v4l_set (v u : V4) : (((v.l.set 0 u.1).set 1 u.2.1).set 2 u.2.2.1).set 3 u.2.2.2 = u.l := rfl
/-! what the program of a plan makes of rows -/
def RR (kind : Int) (l : List Step) : List V4 := runV (fun a => rowV kind a) vtimes vplus (0, 0, 0, 0) l []
theorem RR_len (kind : Int) (l : List Step) : (RR kind l).length = l.length := by
  rw [RR, runV_len, List.length_nil, Nat.zero_add]
theorem RR_snoc (kind : Int) (l : List Step) (s : Step) : RR kind (l ++ [s]) = RR kind l ++ [stepQ (fun a => rowV kind a) vtimes vplus (0, 0, 0, 0) (RR kind l) s] := by
  rw [RR, runV_app]; rfl
theorem RR_last (kind : Int) (l : List Step) (s : Step) : (RR kind (l ++ [s])).getD l.length (0, 0, 0, 0) = stepQ (fun a => rowV kind a) vtimes vplus (0, 0, 0, 0) (RR kind l) s := by
  rw [RR_snoc, ← RR_len kind l, List.getD, List.getElem?_append_right (Nat.le_refl _), Nat.sub_self]; rfl
theorem RR_old (kind : Int) (l : List Step) (s : Step) {j : Nat} (h : j < l.length) : (RR kind (l ++ [s])).getD j (0, 0, 0, 0) = (RR kind l).getD j (0, 0, 0, 0) := by
  rw [RR_snoc, List.getD, List.getElem?_append_left (by rw [RR_len]; exact h)]; rfl
theorem fok_times1 {x : Int} (h : FOk x) : x * 1 % 31 = x := by obtain ⟨a, b⟩ := h; omega
theorem fok_plus0 {x : Int} (h : FOk x) : (0 + x) % 31 = x := by obtain ⟨a, b⟩ := h; omega
theorem vtimes_one {v : V4} (h : VOk v) : vtimes v 1 = v := by
  obtain ⟨v0, v1, v2, v3⟩ := v
  obtain ⟨h0, h1, h2, h3⟩ := h
  show (v0 * 1 % 31, v1 * 1 % 31, v2 * 1 % 31, v3 * 1 % 31) = _
  rw [fok_times1 h0, fok_times1 h1, fok_times1 h2, fok_times1 h3]
theorem vplus_zero {v : V4} (h : VOk v) : vplus (0, 0, 0, 0) v = v := by
  obtain ⟨v0, v1, v2, v3⟩ := v
  obtain ⟨h0, h1, h2, h3⟩ := h
  show ((0 + v0) % 31, (0 + v1) % 31, (0 + v2) % 31, (0 + v3) % 31) = _
  rw [fok_plus0 h0, fok_plus0 h1, fok_plus0 h2, fok_plus0 h3]
theorem progStep_run {kind : Int} {F B : List Int} {i : Nat} {sum : Int} {out : List Step} {acc : V4} (h : (i = 0 ∧ acc = (0, 0, 0, 0)) ∨ (i ≠ 0 ∧ 0 ≤ sum ∧ sum < out.length ∧ (RR kind out).getD sum.toNat (0, 0, 0, 0) = acc)) :
    (RR kind (progStep F B sum out i)).getD ((progStep F B sum out i).length - 1) (0, 0, 0, 0) = vplus acc (vtimes (rowV kind (F.getD i 0)) (B.getD i 0)) := by
  have key : ∀ out2 : List Step, out.length < out2.length → (RR kind out2).getD (out2.length - 1) (0, 0, 0, 0) = vtimes (rowV kind (F.getD i 0)) (B.getD i 0) → (∀ j, j < out.length → (RR kind out2).getD j (0, 0, 0, 0) = (RR kind out).getD j (0, 0, 0, 0)) →
      (RR kind (bif decide (i = 0) then out2 else out2 ++ [st3 sum ((out2.length : Int) - 1)])).getD ((bif decide (i = 0) then out2 else out2 ++ [st3 sum ((out2.length : Int) - 1)]).length - 1) (0, 0, 0, 0) = vplus acc (vtimes (rowV kind (F.getD i 0)) (B.getD i 0)) := by
    intro out2 k1 k2 k3
    rcases h with ⟨rfl, rfl⟩ | ⟨h0, h1, h2, h3⟩
    · rw [decide_eq_true rfl, cond_true, k2, vplus_zero (vtimes_ok _ _)]
    · rw [decide_eq_false h0, cond_false, List.length_append, List.length_singleton, Nat.add_sub_cancel, RR_last]
      show vplus ((RR kind out2).getD sum.toNat (0, 0, 0, 0)) ((RR kind out2).getD ((out2.length : Int) - 1).toNat (0, 0, 0, 0)) = _
      rw [show ((out2.length : Int) - 1).toNat = out2.length - 1 by omega, k2, k3 _ (by omega), h3]
  have e1 : (RR kind (out ++ [st1 (F.getD i 0)])).getD out.length (0, 0, 0, 0) = rowV kind (F.getD i 0) := by rw [RR_last]; rfl
  have hl1 : (out ++ [st1 (F.getD i 0)]).length = out.length + 1 := by simp
  rw [progStep]
  by_cases e : B.getD i 0 = 1
  · rw [decide_eq_true e, cond_true]
    refine key _ (by rw [hl1]; omega) ?_ (fun j hj => RR_old kind out _ hj)
    rw [hl1, Nat.add_sub_cancel, e1, e, vtimes_one (rowV_ok _ _)]
  · rw [decide_eq_false e, cond_false]
    have e2 : ∀ s : Step, (RR kind (out ++ [st1 (F.getD i 0)] ++ [s])).getD ((out ++ [st1 (F.getD i 0)] ++ [s]).length - 1) (0, 0, 0, 0) = stepQ (fun a => rowV kind a) vtimes vplus (0, 0, 0, 0) (RR kind (out ++ [st1 (F.getD i 0)])) s := fun s => by
      rw [List.length_append (bs := [s]), List.length_singleton, Nat.add_sub_cancel, RR_last]
    refine key _ (by simp only [List.length_append, List.length_singleton]; omega) ((e2 _).trans ?_) (fun j hj => by rw [RR_old _ _ _ (by rw [hl1]; omega), RR_old _ _ _ hj])
    show vtimes ((RR kind (out ++ [st1 (F.getD i 0)])).getD (((out ++ [st1 (F.getD i 0)]).length : Int) - 1).toNat (0, 0, 0, 0)) (B.getD i 0) = _
    rw [show (((out ++ [st1 (F.getD i 0)]).length : Int) - 1).toNat = out.length by rw [hl1]; omega, e1]
theorem progOfR_run {kind : Int} {F B : List Int} : ∀ (n i : Nat) (sum : Int) (out : List Step) (acc : V4), ((i = 0 ∧ acc = (0, 0, 0, 0)) ∨ (i ≠ 0 ∧ sum = (out.length : Int) - 1 ∧ 1 ≤ out.length ∧ (RR kind out).getD (out.length - 1) (0, 0, 0, 0) = acc)) → 1 ≤ i + n →
    (RR kind (progOfR F B i n sum out)).getD ((progOfR F B i n sum out).length - 1) (0, 0, 0, 0) = sumP kind F B i n acc
  | 0, i, sum, out, acc, h, hn => by
    rcases h with ⟨rfl, _⟩ | ⟨_, _, _, h3⟩
    · omega
    · exact h3
  | n + 1, i, sum, out, acc, h, hn => by
    have hl := (progStep_len (f := F) (b := B) (sum := sum) (out := out) (i := i)).1
    rw [progOfR, sumP]
    refine progOfR_run n (i + 1) _ _ _ (.inr ⟨by omega, rfl, by omega, ?_⟩) (by omega)
    refine progStep_run ?_
    rcases h with h | ⟨h0, h1, h2, h3⟩
    · exact .inl h
    · exact .inr ⟨h0, by omega, by omega, by rw [show sum.toNat = out.length - 1 by omega]; exact h3⟩
theorem progOf_row {kind : Int} {p : Pln} (h : formed p = true) : progRowV kind (progOfF p) = sumP kind p.2.1 p.2.2 0 p.2.1.length (0, 0, 0, 0) := by
  obtain ⟨⟨f1, f4⟩, fl, fa⟩ := formed_iff h
  rw [progRowV, runF, progOfF, h]
  exact progOfR_run p.2.1.length 0 0 [] (0, 0, 0, 0) (.inl ⟨rfl, rfl⟩) (by omega)
/-! loop.example/keelson/impl.PlanOk -/
def H38 : Hint := ⟨[[(0, 0, .bool), (3, 0, .bool), (5, 0, .bool), (17, 0, .bool), (18, 0, .bool), (19, 0, .bool)]], [], [(7, [0, 1, 2, 4, 5, 6, 7, 8, 3, 9, 10, 11]), (9, [0, 1, 2, 3, 4, 5, 6])], [], [], [], []⟩
def S38_L0 (kind0 : Int) (x17 : List Int) (x18 : Int) (x19 : Int) (b0_0 : Int) (b0_1 : List Int) (b0_2 : List Int) (h1 : List Int) : St := ⟨[(0, .w (.one (.int .i64 kind0))), (3, .w (.one (.ptr 0 0 0))), (5, .w (.one (.ptr 1 0 0))), (17, .w (.one (.ro (.int .i64) x17))), (18, .w (.one (.int .i64 x18))), (19, .w (.one (.int .i64 x19)))], [.box [.int .i64 b0_0, .ro (.int .i64) b0_1, .ro (.int .i64) b0_2], .row (.int .i64) h1 .var]⟩
theorem eq38 (kind : Int) (p : (Int × (List Int × List Int))) (r : List W) (lh : Heap) : FB E H38 Try.f38 [.one (.int .i64 kind), .agg [.int .i64 p.1, .ro (.int .i64) p.2.1, .ro (.int .i64) p.2.2]] [] r lh =
  (
   ∃ r0 : Bool, SC P 89 [.one (.int .i64 kind)] [] [.one (.bool r0)] [] ∧
    Br (!r0) (
     Ret r lh [.one (.bool false)] []) (
     ∃ r1 : Bool, SC P 70 [.agg [.int .i64 p.1, .ro (.int .i64) p.2.1, .ro (.int .i64) p.2.2]] [] [.one (.bool r1)] [] ∧
      Br (!r1) (
       Ret r lh [.one (.bool false)] []) (
       FL E H38 Try.f38 0 r lh 0 (S38_L0 kind p.2.1 ((p.2.1.length : Nat) : Int) 0 p.1 p.2.1 p.2.2 [0, 0, 0, 0])))) := by kernel_rfl
theorem eq38_L0 (kind0 : Int) (x17 : List Int) (x18 : Int) (x19 : Int) (b0_0 : Int) (b0_1 : List Int) (b0_2 : List Int) (h1 : List Int) (r : List W) (lh : Heap) : FL1 E H38 Try.f38 0 r lh 0 (S38_L0 kind0 x17 x18 x19 b0_0 b0_1 b0_2 h1) =
  (
   Br (decide (x19 < x18)) (
    Ck (decide ((0 : Int) ≤ x19)) (
     Ck (decide (x19 < ((x17.length : Nat) : Int))) (
      Ck (Nat.ble 4 h1.length) (
       Ck (decide ((0 : Int) ≤ x19)) (
        Ck (decide (x19 < ((b0_2.length : Nat) : Int))) (
         ∃ r0 : Int × Int × Int × Int, SC P 92 [.one (.int .i64 kind0), .one (.int .i64 (x17.getD x19.toNat 0))] [] [.agg [.int .i64 r0.1, .int .i64 r0.2.1, .int .i64 r0.2.2.1, .int .i64 r0.2.2.2]] [] ∧
          ∃ r1 : Int × Int × Int × Int, SC P 99 [.agg [.int .i64 r0.1, .int .i64 r0.2.1, .int .i64 r0.2.2.1, .int .i64 r0.2.2.2], .one (.int .i64 (b0_2.getD x19.toNat 0))] [] [.agg [.int .i64 r1.1, .int .i64 r1.2.1, .int .i64 r1.2.2.1, .int .i64 r1.2.2.2]] [] ∧
           ∃ r2 : Int × Int × Int × Int, SC P 98 [.agg [.int .i64 (h1.getD 0 0), .int .i64 (h1.getD 1 0), .int .i64 (h1.getD 2 0), .int .i64 (h1.getD 3 0)], .agg [.int .i64 r1.1, .int .i64 r1.2.1, .int .i64 r1.2.2.1, .int .i64 r1.2.2.2]] [] [.agg [.int .i64 r2.1, .int .i64 r2.2.1, .int .i64 r2.2.2.1, .int .i64 r2.2.2.2]] [] ∧
            Ck (Nat.ble 4 h1.length) (
             FL E H38 Try.f38 0 r lh 0 (S38_L0 kind0 x17 x18 (IntKind.wrap .i64 (x19 + 1)) b0_0 b0_1 b0_2 ((((h1.set 0 r2.1).set 1 r2.2.1).set 2 r2.2.2.1).set 3 r2.2.2.2))))))))) (
    Ck (Nat.ble 4 h1.length) (
     ∃ r3 : Int × Int × Int × Int, SC P 92 [.one (.int .i64 kind0), .one (.int .i64 b0_0)] [] [.agg [.int .i64 r3.1, .int .i64 r3.2.1, .int .i64 r3.2.2.1, .int .i64 r3.2.2.2]] [] ∧
      Ret r lh [.one (.bool ((decide ((h1.getD 0 0) = r3.1)) && ((decide ((h1.getD 1 0) = r3.2.1)) && ((decide ((h1.getD 2 0) = r3.2.2.1)) && (decide ((h1.getD 3 0) = r3.2.2.2))))))] []))) := by kernel_rfl
theorem l38 (kind : Int) (p : Pln) (hp : formed p = true) : ∀ (n i : Nat) (acc : V4), i + n = p.2.1.length → VOk acc →
    FL E H38 Try.f38 0 [.one (.bool (decide (sumP kind p.2.1 p.2.2 i n acc = rowV kind p.1)))] [] 0 (S38_L0 kind p.2.1 (p.2.1.length : Int) (i : Int) p.1 p.2.1 p.2.2 acc.l)
  | 0, i, acc, h, ha => by
    obtain ⟨⟨h0, h1⟩, _⟩ := formed_fb hp
    refine FL_of1 ?_
    rw [eq38_L0]
    refine Br_f (by omega) (Ck_le (by simp [V4.l]) ⟨rowV kind p.1, c92 kind p.1 h0 h1, ?_, rfl⟩)
    rw [sumP, ← v4_eq]; rfl
  | n + 1, i, acc, h, ha => by
    obtain ⟨⟨h0, h1⟩, hf⟩ := formed_fb hp
    obtain ⟨⟨⟨f1, f4⟩, fl, fa⟩⟩ := And.intro (formed_iff hp) trivial
    obtain ⟨g0, g1⟩ := hf i (by omega)
    refine FL_of1 ?_
    rw [eq38_L0, wS (i := i) (by omega)]
    simp only [Int.toNat_natCast]
    refine Br_t (by omega) (Ck_d (by omega) (Ck_d (by omega) (Ck_le (by simp [V4.l]) (Ck_d (by omega) (Ck_d (by omega) ⟨rowV kind (p.2.1.getD i 0), c92 kind _ g0.1 g0.2, vtimes (rowV kind (p.2.1.getD i 0)) (p.2.2.getD i 0), c99 _ _ (rowV_ok _ _) g1, vplus acc (vtimes (rowV kind (p.2.1.getD i 0)) (p.2.2.getD i 0)), c98 acc _ ha (vtimes_ok _ _), Ck_le (by simp [V4.l]) ?_⟩)))))
    rw [v4l_set, sumP]
    exact l38 kind p hp n (i + 1) _ (by omega) (vplus_ok _ _)
theorem c38 (kind : Int) (p : Pln) (hl : p.2.1.length ≤ 1048576) (hb : p.2.2.length ≤ 1048576) : SC P 38 [.one (.int .i64 kind), .agg [.int .i64 p.1, .ro (.int .i64) p.2.1, .ro (.int .i64) p.2.2]] [] [.one (.bool (planOkF kind p))] [] := by
  refine SC_of_FB (H := H38) E_ok Try.func38 (by kernel_rfl) ?_
  rw [eq38]
  refine ⟨_, c89 kind, Br_nb (fun e => ⟨by rw [planOkF, e]; rfl, rfl⟩) (fun e => ⟨_, c70 p hl hb, Br_nb (fun e2 => ⟨by rw [planOkF, e2, Bool.false_and, Bool.and_false], rfl⟩) (fun e2 => ?_)⟩)⟩
  rw [planOkF, e, e2]
  exact l38 kind p e2 p.2.1.length 0 (0, 0, 0, 0) (Nat.zero_add _) ⟨fok0, fok0, fok0, fok0⟩
/-! loop.example/keelson/spec.l3Same -/
def H100 : Hint := ⟨[[(0, 0, .bool), (1, 0, .bool), (5, 0, .bool)], [(0, 0, .bool), (1, 0, .bool), (5, 0, .bool), (6, 0, .bool)]], [], [(9, [0, 1, 2, 3, 4, 5, 6, 7, 8, 9, 10, 11, 12, 13, 14])], [], [], [], []⟩
def S100_L0 (a0 : List (List Int)) (b1 : List (List Int)) (i5 : Int) : St := ⟨[(0, .w (.one (.ro (.sl (.int .i64)) a0))), (1, .w (.one (.ro (.sl (.int .i64)) b1))), (5, .w (.one (.int .i64 i5)))], []⟩
def S100_L1 (a0 : List (List Int)) (b1 : List (List Int)) (i5 : Int) (k6 : Int) : St := ⟨[(0, .w (.one (.ro (.sl (.int .i64)) a0))), (1, .w (.one (.ro (.sl (.int .i64)) b1))), (5, .w (.one (.int .i64 i5))), (6, .w (.one (.int .i64 k6)))], []⟩
theorem eq100 (a : List (List Int)) (b : List (List Int)) (r : List W) (lh : Heap) : FB E H100 Try.f100 [.one (.ro (.sl (.int .i64)) a), .one (.ro (.sl (.int .i64)) b)] [] r lh =
  (
   Br (!(decide (((a.length : Nat) : Int) = ((b.length : Nat) : Int)))) (
    Ret r lh [.one (.bool false)] []) (
    FL E H100 Try.f100 0 r lh 0 (S100_L0 a b 0))) := by kernel_rfl
theorem eq100_L0 (a0 : List (List Int)) (b1 : List (List Int)) (i5 : Int) (r : List W) (lh : Heap) : FL1 E H100 Try.f100 0 r lh 0 (S100_L0 a0 b1 i5) =
  (
   Br (decide (i5 < ((a0.length : Nat) : Int))) (
    FL E H100 Try.f100 0 r lh 1 (S100_L1 a0 b1 i5 0)) (
    Ret r lh [.one (.bool true)] [])) := by kernel_rfl
theorem eq100_L1 (a0 : List (List Int)) (b1 : List (List Int)) (i5 : Int) (k6 : Int) (r : List W) (lh : Heap) : FL1 E H100 Try.f100 0 r lh 1 (S100_L1 a0 b1 i5 k6) =
  (
   Br (decide (k6 < (4 : Int))) (
    Ck (decide ((0 : Int) ≤ i5)) (
     Ck (decide (i5 < ((a0.length : Nat) : Int))) (
      Ck (decide ((0 : Int) ≤ k6)) (
       Ck (decide (k6 < (((a0.getD i5.toNat []).length : Nat) : Int))) (
        Ck (decide ((0 : Int) ≤ i5)) (
         Ck (decide (i5 < ((b1.length : Nat) : Int))) (
          Ck (decide ((0 : Int) ≤ k6)) (
           Ck (decide (k6 < (((b1.getD i5.toNat []).length : Nat) : Int))) (
            Br (!(decide (((a0.getD i5.toNat []).getD k6.toNat 0) = ((b1.getD i5.toNat []).getD k6.toNat 0)))) (
             Ret r lh [.one (.bool false)] []) (
             FL E H100 Try.f100 0 r lh 1 (S100_L1 a0 b1 i5 (IntKind.wrap .i64 (k6 + 1))))))))))))) (
    FL E H100 Try.f100 0 r lh 0 (S100_L0 a0 b1 (IntKind.wrap .i64 (i5 + 1))))) := by kernel_rfl
theorem l100_1 (v w : V4) : ∀ (n k : Nat), k + n = 4 → (∀ j, j < k → v.l.getD j 0 = w.l.getD j 0) → FL E H100 Try.f100 0 [.one (.bool (decide (v = w)))] [] 1 (S100_L1 [v.l] [w.l] 0 (k : Int))
  | 0, k, h, hj => by
    have e : v = w := by
      obtain ⟨v0, v1, v2, v3⟩ := v
      obtain ⟨w0, w1, w2, w3⟩ := w
      have h0 : v0 = w0 := hj 0 (by omega)
      have h1 : v1 = w1 := hj 1 (by omega)
      have h2 : v2 = w2 := hj 2 (by omega)
      have h3 : v3 = w3 := hj 3 (by omega)
      rw [h0, h1, h2, h3]
    refine FL_of1 ?_
    rw [eq100_L1]
    refine Br_f (by omega) (FL_of1 ?_)
    rw [eq100_L0]
    exact Br_f (by rw [wrap64 (by omega) (by omega)]; simp) ⟨by rw [decide_eq_true e], rfl⟩
  | n + 1, k, h, hj => by
    have hv : ([v.l] : List (List Int)).getD (0 : Int).toNat [] = v.l := rfl
    have hw : ([w.l] : List (List Int)).getD (0 : Int).toNat [] = w.l := rfl
    have hvl : v.l.length = 4 := rfl
    have hwl : w.l.length = 4 := rfl
    refine FL_of1 ?_
    rw [eq100_L1, wS (i := k) (by omega), hv, hw]
    simp only [Int.toNat_natCast]
    refine Br_t (by omega) (Ck_d (by omega) (Ck_d (by simp) (Ck_d (by omega) (Ck_d (by omega) (Ck_d (by omega) (Ck_d (by simp) (Ck_d (by omega) (Ck_d (by omega) (Br_nd (fun e => ⟨?_, rfl⟩) (fun e => l100_1 v w n (k + 1) (by omega) (fun j hj' => ?_)))))))))))
    · rw [decide_eq_false (fun h => e (by rw [h]))]
    · rcases Nat.lt_succ_iff_lt_or_eq.1 hj' with g | rfl
      · exact hj j g
      · exact e
theorem c100 (v w : V4) : SC P 100 [.one (.ro (.sl (.int .i64)) [v.l]), .one (.ro (.sl (.int .i64)) [w.l])] [] [.one (.bool (decide (v = w)))] [] := by
  refine SC_of_FB (H := H100) E_ok Try.func100 (by kernel_rfl) ?_
  rw [eq100]
  refine Br_nd (fun e => absurd rfl e) (fun _ => FL_of1 ?_)
  rw [eq100_L0]
  exact Br_t (by simp) (l100_1 v w 4 0 rfl (fun j hj => absurd hj (Nat.not_lt_zero _)))
/-! loop.example/keelson/spec.PlanOk -/
def H39 : Hint := ⟨[[(0, 0, .bool), (3, 0, .bool), (5, 0, .bool), (6, 0, .bool)]], [], [(7, [0, 1, 2, 3, 4, 5, 6, 8, 9, 10, 11, 12, 7, 13, 14, 15])], [], [], [], []⟩
def S39_L0 (kind0 : Int) (i6 : Int) (b0_0 : Int) (b0_1 : List Int) (b0_2 : List Int) (h1 : List Int) : St := ⟨[(0, .w (.one (.int .i64 kind0))), (3, .w (.one (.ptr 0 0 0))), (5, .w (.one (.sl 1 none))), (6, .w (.one (.int .i64 i6)))], [.box [.int .i64 b0_0, .ro (.int .i64) b0_1, .ro (.int .i64) b0_2], .row (.int .i64) h1 .own]⟩
theorem eq39 (kind : Int) (p : (Int × (List Int × List Int))) (r : List W) (lh : Heap) : FB E H39 Try.f39 [.one (.int .i64 kind), .agg [.int .i64 p.1, .ro (.int .i64) p.2.1, .ro (.int .i64) p.2.2]] [] r lh =
  (
   ∃ r0 : Bool, SC P 85 [.one (.int .i64 kind)] [] [.one (.bool r0)] [] ∧
    Br (!r0) (
     Ret r lh [.one (.bool false)] []) (
     ∃ r1 : Bool, SC P 73 [.agg [.int .i64 p.1, .ro (.int .i64) p.2.1, .ro (.int .i64) p.2.2]] [] [.one (.bool r1)] [] ∧
      Br (!r1) (
       Ret r lh [.one (.bool false)] []) (
       FL E H39 Try.f39 0 r lh 0 (S39_L0 kind 0 p.1 p.2.1 p.2.2 [0, 0, 0, 0])))) := by kernel_rfl
theorem eq39_L0 (kind0 : Int) (i6 : Int) (b0_0 : Int) (b0_1 : List Int) (b0_2 : List Int) (h1 : List Int) (r : List W) (lh : Heap) : FL1 E H39 Try.f39 0 r lh 0 (S39_L0 kind0 i6 b0_0 b0_1 b0_2 h1) =
  (
   Br (decide (i6 < ((b0_1.length : Nat) : Int))) (
    Ck (decide ((0 : Int) ≤ i6)) (
     Ck (decide (i6 < ((b0_1.length : Nat) : Int))) (
      Ck (decide ((0 : Int) ≤ i6)) (
       Ck (decide (i6 < ((b0_2.length : Nat) : Int))) (
        ∃ r0 : List Int, SC P 86 [.one (.int .i64 kind0), .one (.int .i64 (b0_1.getD i6.toNat 0))] [] [.one (.ro (.int .i64) r0)] [] ∧
         ∃ r1 : List Int, SC P 87 [.one (.ro (.int .i64) r0), .one (.int .i64 (b0_2.getD i6.toNat 0))] [] [.one (.sl 0 none)] [.row (.int .i64) r1 .own] ∧
          ∃ r2 : List Int, SC P 88 [.one (.ro (.int .i64) h1), .one (.ro (.int .i64) r1)] [] [.one (.sl 0 none)] [.row (.int .i64) r2 .own] ∧
           FL E H39 Try.f39 0 r lh 0 (S39_L0 kind0 (IntKind.wrap .i64 (i6 + 1)) b0_0 b0_1 b0_2 r2)))))) (
    ∃ r3 : List Int, SC P 86 [.one (.int .i64 kind0), .one (.int .i64 b0_0)] [] [.one (.ro (.int .i64) r3)] [] ∧
     ∃ r4 : Bool, SC P 100 [.one (.ro (.sl (.int .i64)) [h1]), .one (.ro (.sl (.int .i64)) [r3])] [] [.one (.bool r4)] [] ∧
      Ret r lh [.one (.bool r4)] [])) := by kernel_rfl
theorem l39 (kind : Int) (hk : inB kind 1 2 = true) (p : Pln) (hp : formed p = true) : ∀ (n i : Nat) (acc : V4), i + n = p.2.1.length → VOk acc →
    FL E H39 Try.f39 0 [.one (.bool (decide (sumP kind p.2.1 p.2.2 i n acc = rowV kind p.1)))] [] 0 (S39_L0 kind (i : Int) p.1 p.2.1 p.2.2 acc.l)
  | 0, i, acc, h, ha => by
    obtain ⟨⟨h0, h1⟩, _⟩ := formed_fb hp
    refine FL_of1 ?_
    rw [eq39_L0]
    exact Br_f (by omega) ⟨_, c86 kind p.1 hk h0 h1, _, c100 acc (rowV kind p.1), rfl, rfl⟩
  | n + 1, i, acc, h, ha => by
    obtain ⟨⟨h0, h1⟩, hf⟩ := formed_fb hp
    obtain ⟨⟨⟨f1, f4⟩, fl, fa⟩⟩ := And.intro (formed_iff hp) trivial
    obtain ⟨g0, g1⟩ := hf i (by omega)
    refine FL_of1 ?_
    rw [eq39_L0, wS (i := i) (by omega)]
    simp only [Int.toNat_natCast]
    refine Br_t (by omega) (Ck_d (by omega) (Ck_d (by omega) (Ck_d (by omega) (Ck_d (by omega) ⟨(rowV kind (p.2.1.getD i 0)).l, c86 kind _ hk g0.1 g0.2, (vtimes (rowV kind (p.2.1.getD i 0)) (p.2.2.getD i 0)).l, c87v _ _ (rowV_ok _ _) g1, (vplus acc (vtimes (rowV kind (p.2.1.getD i 0)) (p.2.2.getD i 0))).l, c88v acc _ ha (vtimes_ok _ _), ?_⟩))))
    rw [sumP]
    exact l39 kind hk p hp n (i + 1) _ (by omega) (vplus_ok _ _)
theorem c39 (kind : Int) (p : Pln) (hl : p.2.1.length ≤ 1048576) (hb : p.2.2.length ≤ 1048576) : SC P 39 [.one (.int .i64 kind), .agg [.int .i64 p.1, .ro (.int .i64) p.2.1, .ro (.int .i64) p.2.2]] [] [.one (.bool (planOkF kind p))] [] := by
  refine SC_of_FB (H := H39) E_ok Try.func39 (by kernel_rfl) ?_
  rw [eq39]
  refine ⟨_, c85 kind, Br_nb (fun e => ⟨by rw [planOkF, e]; rfl, rfl⟩) (fun e => ⟨_, c73 p hl hb, Br_nb (fun e2 => ⟨by rw [planOkF, e2, Bool.false_and, Bool.and_false], rfl⟩) (fun e2 => ?_)⟩)⟩
  rw [planOkF, e, e2]
  exact l39 kind e p e2 p.2.1.length 0 (0, 0, 0, 0) (Nat.zero_add _) ⟨fok0, fok0, fok0, fok0⟩
/-! loop.example/keelson/spec.DrawPlanOk -/
def H37 : Hint := ⟨[], [], [], [], [], [], []⟩
theorem eq37 (code : List Int) (r : List W) (lh : Heap) : FB E H37 Try.f37 [.one (.ro (.int .u8) code)] [] r lh =
  (
   ∃ r0 : (List Int × Int), SC P 62 [.one (.ro (.int .u8) code)] [] [.one (.ptr 0 0 0)] [.box [.ro (.int .u8) r0.1, .int .i64 r0.2]] ∧
    ∃ r1 : List Int × Int × Int × Int × List Int × List Int, SC P 69 [.one (.ptr 0 0 0)] [.box [.ro (.int .u8) r0.1, .int .i64 r0.2]] [.one (.int .i64 r1.2.2.1), .agg [.int .i64 r1.2.2.2.1, .sl 1 none, .sl 2 none]] [.box [.ro (.int .u8) r1.1, .int .i64 r1.2.1], .row (.int .i64) r1.2.2.2.2.1 .own, .row (.int .i64) r1.2.2.2.2.2 .own] ∧
     Ret r lh [.one (.int .i64 r1.2.2.1), .agg [.int .i64 r1.2.2.2.1, .sl 0 none, .sl 1 none]] [.row (.int .i64) r1.2.2.2.2.1 .own, .row (.int .i64) r1.2.2.2.2.2 .own]) := by kernel_rfl
theorem c37 (code : List Int) (hc : Bytes code) : ∃ (k L : Int) (F B : List Int), F.length ≤ 8 ∧ B.length ≤ 8 ∧ SC P 37 [.one (.ro (.int .u8) code)] [] [.one (.int .i64 k), .agg [.int .i64 L, .sl 0 none, .sl 1 none]] [.row (.int .i64) F .own, .row (.int .i64) B .own] := by
  obtain ⟨b, hb, s0⟩ := c62 code hc
  obtain ⟨k, L, F, B, p, f8, b8, p0, p1, s1⟩ := c69 b 0 hb (by omega) (by omega)
  refine ⟨k, L, F, B, f8, b8, ?_⟩
  refine SC_of_FB (H := H37) E_ok Try.func37 (by kernel_rfl) ?_
  rw [eq37]
  exact ⟨(b, 0), s0, (b, p, k, L, F, B), s1, rfl, rfl⟩
/-! loop.example/keelson/laws.FnProgPlan -/
def H8 : Hint := ⟨[], [], [], [], [], [], []⟩
theorem eq8 (code : List Int) (r : List W) (lh : Heap) : FB E H8 Try.f8 [.one (.ro (.int .u8) code)] [] r lh =
  (
   Br (decide ((1048576 : Int) < ((code.length : Nat) : Int))) (
    Ret r lh [.one (.bool true)] []) (
    ∃ r0 : Int × Int × List Int × List Int, SC P 37 [.one (.ro (.int .u8) code)] [] [.one (.int .i64 r0.1), .agg [.int .i64 r0.2.1, .sl 0 none, .sl 1 none]] [.row (.int .i64) r0.2.2.1 .own, .row (.int .i64) r0.2.2.2 .own] ∧
     ∃ r1 : Bool, SC P 38 [.one (.int .i64 r0.1), .agg [.int .i64 r0.2.1, .ro (.int .i64) r0.2.2.1, .ro (.int .i64) r0.2.2.2]] [] [.one (.bool r1)] [] ∧
      ∃ r2 : Bool, SC P 39 [.one (.int .i64 r0.1), .agg [.int .i64 r0.2.1, .ro (.int .i64) r0.2.2.1, .ro (.int .i64) r0.2.2.2]] [] [.one (.bool r2)] [] ∧
       Br (r1 != r2) (
        ∃ r3 : Bool, SC P 39 [.one (.int .i64 r0.1), .agg [.int .i64 r0.2.1, .ro (.int .i64) r0.2.2.1, .ro (.int .i64) r0.2.2.2]] [] [.one (.bool r3)] [] ∧
         Ret r lh [.one (.bool (r1 == r3))] []) (
        Br (decide (r0.1 < (1 : Int))) (
         ∃ r4 : Bool, SC P 39 [.one (.int .i64 r0.1), .agg [.int .i64 r0.2.1, .ro (.int .i64) r0.2.2.1, .ro (.int .i64) r0.2.2.2]] [] [.one (.bool r4)] [] ∧
          Ret r lh [.one (.bool (r1 == r4))] []) (
         Br (decide ((2 : Int) < r0.1)) (
          ∃ r5 : Bool, SC P 39 [.one (.int .i64 r0.1), .agg [.int .i64 r0.2.1, .ro (.int .i64) r0.2.2.1, .ro (.int .i64) r0.2.2.2]] [] [.one (.bool r5)] [] ∧
           Ret r lh [.one (.bool (r1 == r5))] []) (
          ∃ r6 : List (Int × (Int × Int)) × Bool, SC P 21 [.agg [.int .i64 r0.2.1, .ro (.int .i64) r0.2.2.1, .ro (.int .i64) r0.2.2.2]] [] [.one (.sl 0 none), .one (.bool r6.2)] [.row (.pair (.int .i64) (.pair (.int .i64) (.int .i64))) r6.1 .own] ∧
           Br (!r6.2) (
            Ret r lh [.one (.bool (!r1))] []) (
            ∃ r7 : List Int × Bool, SC P 31 [.one (.int .i64 r0.1), .one (.ro (.pair (.int .i64) (.pair (.int .i64) (.int .i64))) r6.1)] [] [.one (.sl 0 none), .one (.bool r7.2)] [.row (.int .i64) r7.1 .own] ∧
             ∃ r8 : List Int × Bool, SC P 40 [.one (.int .i64 r0.1), .one (.int .i64 r0.2.1)] [] [.one (.sl 0 none), .one (.bool r8.2)] [.row (.int .i64) r8.1 .own] ∧
              Br r8.2 (
               ∃ r9 : Bool, SC P 32 [.one (.ro (.int .i64) r7.1), .one (.ro (.int .i64) r8.1)] [] [.one (.bool r9)] [] ∧
                Ret r lh [.one (.bool (r1 == r9))] []) (
               Ret r lh [.one (.bool (r1 == false))] []))))))) := by kernel_rfl
theorem c8 (code : List Int) (hc : Bytes code) : SC P 8 [.one (.ro (.int .u8) code)] [] [.one (.bool true)] [] := by
  refine SC_of_FB (H := H8) E_ok Try.func8 (by kernel_rfl) ?_
  rw [eq8]
  refine Br_d (fun _ => ⟨rfl, rfl⟩) (fun hcl => ?_)
  obtain ⟨k, L, F, B, f8, b8, s0⟩ := c37 code hc
  have s1 := c38 k (L, F, B) (by dsimp only; omega) (by dsimp only; omega)
  have s2 := c39 k (L, F, B) (by dsimp only; omega) (by dsimp only; omega)
  have same : (planOkF k (L, F, B) == planOkF k (L, F, B)) = true := by simp
  refine ⟨(k, L, F, B), s0, _, s1, _, s2, Br_bne rfl (Br_d (fun e => ⟨_, s2, by rw [same], rfl⟩) (fun e1 => Br_d (fun e => ⟨_, s2, by rw [same], rfl⟩) (fun e2 => ?_)))⟩
  have e1 : ¬ k < 1 := e1
  have e2 : ¬ 2 < k := e2
  have hk : inB k 1 2 = true := inB_iff.2 ⟨by omega, by omega⟩
  have s3 := c21 (L, F, B) (by dsimp only; omega) (by dsimp only; omega)
  refine ⟨(progOfF (L, F, B), formed (L, F, B)), s3, Br_nb (fun e => ⟨?_, rfl⟩) (fun e => ?_)⟩
  · have e : formed (L, F, B) = false := e
    rw [planOkF, e, Bool.false_and, Bool.and_false]; rfl
  · have hp : formed (L, F, B) = true := e
    have hlen := progOfF_len (p := (L, F, B))
    obtain ⟨ok, _⟩ := progOf_i hp
    obtain ⟨⟨h0, h1⟩, _⟩ := formed_fb hp
    have s4 := c31 k (progOfF (L, F, B)) (by omega)
    have hrow : progRowF k (progOfF (L, F, B)) = (sumP k F B 0 F.length (0, 0, 0, 0)).l := by rw [progRowF, hk, ok, ← progOf_row (kind := k) hp]; rfl
    rw [hrow, hk, ok] at s4
    have s5 := c40 k L
    have hL : inB L 0 7 = true := inB_iff.2 ⟨h0, h1⟩
    rw [show codeRow k L = (rowV k L).l by rw [codeRow, hk, hL]; rfl, hk, hL] at s5
    have s6 := c32 (sumP k F B 0 F.length (0, 0, 0, 0)).l (rowV k L).l (by simp [V4.l])
    rw [v4_l_eq] at s6
    refine ⟨(_, true), s4, (_, true), s5, Br_b (fun _ => ⟨_, s6, ?_, rfl⟩) (fun e => by cases e)⟩
    have : planOkF k (L, F, B) = decide (sumP k F B 0 F.length (0, 0, 0, 0) = rowV k L) := by rw [planOkF, hk, hp]; rfl
    rw [this]
    cases decide (sumP k F B 0 F.length (0, 0, 0, 0) = rowV k L) <;> rfl
end Go.Proofs.Ytnbdhclkmcfdfaa.Sh
