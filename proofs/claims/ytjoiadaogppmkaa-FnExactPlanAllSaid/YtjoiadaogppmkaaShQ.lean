/- Contracts, poured together. -/
import Derived.Test.YtjoiadaogppmkaaShR2
import Derived.Test.YtjoiadaogppmkaaShP3
import Derived.Test.YtjoiadaogppmkaaShOpen
import Derived.Test.YtjoiadaogppmkaaMaSpec
namespace Go.Proofs.Ytjoiadaogppmkaa.Sh
open Go
set_option linter.unusedVariables false
set_option linter.unusedSimpArgs false
abbrev Step := Int × Int × Int
def stepOk (s : Step) (many : Int) : Bool :=
  bif decide (s.1 = 1) then inB s.2.1 0 7 && decide (s.2.2 = 0)
  else bif decide (s.1 = 2) then inB s.2.1 0 (many - 1) && inB s.2.2 0 30
  else bif decide (s.1 = 3) then inB s.2.1 0 (many - 1) && inB s.2.2 0 (many - 1)
  else false
def progOk (l : List Step) : Bool := allR (fun i => stepOk (hAt l i) (i : Int)) 0 l.length && inB (l.length : Int) 1 16

def progMany (l : List Step) (op : Int) : Nat := l.countP (fun s => decide (s.1 = op))
def progManyF (l : List Step) (op : Int) : Int := bif progOk l then (progMany l op : Int) else -1

def stepQ {α : Type} (ld : Int → α) (tm : α → Int → α) (pl : α → α → α) (z : α) (n : List α) (s : Step) : α :=
  bif decide (s.1 = 1) then ld s.2.1 else bif decide (s.1 = 2) then tm (n.getD s.2.1.toNat z) s.2.2 else pl (n.getD s.2.1.toNat z) (n.getD s.2.2.toNat z)
def runV {α : Type} (ld : Int → α) (tm : α → Int → α) (pl : α → α → α) (z : α) : List Step → List α → List α
  | [], n => n
  | s :: l, n => runV ld tm pl z l (n ++ [stepQ ld tm pl z n s])
def runF {α : Type} (ld : Int → α) (tm : α → Int → α) (pl : α → α → α) (z : α) (l : List Step) : α := (runV ld tm pl z l []).getD (l.length - 1) z
def timesE (a c : Int) : Int := a * c % 31
def plusE (a b : Int) : Int := (a + b) % 31
theorem prog_step {l : List Step} (h : progOk l = true) {i : Nat} (hi : i < l.length) : stepOk (hAt l i) (i : Int) = true := by
  rw [progOk, Bool.and_eq_true, allR_iff] at h
  exact h.1 i (Nat.zero_le _) (by omega)
theorem prog_len {l : List Step} (h : progOk l = true) : 1 ≤ l.length ∧ l.length ≤ 16 := by
  rw [progOk, Bool.and_eq_true, inB_iff] at h
  omega
theorem step_cases {s : Step} {i : Nat} (h : stepOk s (i : Int) = true) : (s.1 = 1 ∧ 0 ≤ s.2.1 ∧ s.2.1 ≤ 7) ∨ (s.1 ≠ 1 ∧ s.1 = 2 ∧ 0 ≤ s.2.1 ∧ s.2.1 < i ∧ FOk s.2.2) ∨ (s.1 ≠ 1 ∧ s.1 ≠ 2 ∧ 0 ≤ s.2.1 ∧ s.2.1 < i ∧ 0 ≤ s.2.2 ∧ s.2.2 < i) := by
  rw [stepOk] at h
  by_cases c1 : s.1 = 1
  · rw [decide_eq_true c1, cond_true, Bool.and_eq_true, inB_iff] at h
    exact .inl ⟨c1, h.1⟩
  · rw [decide_eq_false c1, cond_false] at h
    by_cases c2 : s.1 = 2
    · rw [decide_eq_true c2, cond_true, Bool.and_eq_true, inB_iff, inB_iff] at h
      exact .inr (.inl ⟨c1, c2, h.1.1, by omega, h.2⟩)
    · rw [decide_eq_false c2, cond_false] at h
      by_cases c3 : s.1 = 3
      · rw [decide_eq_true c3, cond_true, Bool.and_eq_true, inB_iff, inB_iff] at h
        exact .inr (.inr ⟨c1, c2, h.1.1, by omega, h.2.1, by omega⟩)
      · rw [decide_eq_false c3, cond_false] at h
        cases h
theorem getD_all {α : Type} {q : α → Prop} {n : List α} {z : α} (h : ∀ x ∈ n, q x) (hz : q z) (i : Nat) : q (n.getD i z) := by
  by_cases hi : i < n.length
  · rw [getD_eq hi]; exact h _ (List.getElem_mem hi)
  · rw [List.getD, List.getElem?_eq_none (by omega)]; exact hz
theorem valsOk_iff {l : List Int} : valsOk l = true ↔ l.length = 8 ∧ ∀ x ∈ l, FOk x := by
  rw [valsOk, Bool.and_eq_true, decide_eq_true_iff, List.all_eq_true]
  simp only [inB_iff, FOk]
theorem Br_ne {b : Bool} {A B : Prop} (h : B) : Br (b != b) A B := by cases b <;> exact h
def progRunF (l : List Step) (vals : List Int) : Int := bif progOk l && valsOk vals then runF (fun a => vals.getD a.toNat 0) timesE plusE 0 l else 0
def progRowV (kind : Int) (l : List Step) : V4 := runF (fun a => rowV kind a) vtimes vplus (0, 0, 0, 0) l
def progRowF (kind : Int) (l : List Step) : List Int := bif inB kind 1 2 && progOk l then (progRowV kind l).l else []
theorem progRowF_len {kind : Int} {l : List Step} : (progRowF kind l).length ≤ 4 := by
  rw [progRowF]
  cases inB kind 1 2 && progOk l
  · simp
  · exact Nat.le_refl _

/-! loop.example/keelson/spec.l4Vals -/
def H70 : Hint := ⟨[[(0, 0, .bool), (1, 0, .bool), (5, 0, .bool)]], [], [], [], [], [], []⟩
def S70_L0 (vals0 : List Int) (there1 : List Bool) (i5 : Int) : St := ⟨[(0, .w (.one (.ro (.int .i64) vals0))), (1, .w (.one (.ro .bool there1))), (5, .w (.one (.int .i64 i5)))], []⟩
theorem eq70 (vals : List Int) (there : List Bool) (r : List W) (lh : Heap) : FB E H70 Try.f70 [.one (.ro (.int .i64) vals), .one (.ro .bool there)] [] r lh =
  (
   FL E H70 Try.f70 0 r lh 0 (S70_L0 vals there 0)) := by kernel_rfl
theorem eq70_L0 (vals0 : List Int) (there1 : List Bool) (i5 : Int) (r : List W) (lh : Heap) : FL1 E H70 Try.f70 0 r lh 0 (S70_L0 vals0 there1 i5) =
  (
   Br (decide (i5 < ((vals0.length : Nat) : Int))) (
    Ck (decide ((0 : Int) ≤ i5)) (
     Ck (decide (i5 < ((vals0.length : Nat) : Int))) (
      ∃ r0 : Bool, SC P 87 [.one (.int .i64 (vals0.getD i5.toNat 0))] [] [.one (.bool r0)] [] ∧
       Br (!r0) (
        Ret r lh [.one (.bool false)] []) (
        FL E H70 Try.f70 0 r lh 0 (S70_L0 vals0 there1 (IntKind.wrap .i64 (i5 + 1))))))) (
    Br (decide (((vals0.length : Nat) : Int) = (8 : Int))) (
     Ret r lh [.one (.bool (decide (((there1.length : Nat) : Int) = (8 : Int))))] []) (
     Ret r lh [.one (.bool false)] []))) := by kernel_rfl
theorem l70 (l : List Int) (t : List Bool) (hl : l.length ≤ 1048576) : ∀ (n i : Nat), i + n = l.length → FL E H70 Try.f70 0 [.one (.bool ((decide (l.length = 8) && allR (fun j => inB (l.getD j 0) 0 30) i n) && decide (t.length = 8)))] [] 0 (S70_L0 l t (i : Int))
  | 0, i, h => by
    refine FL_of1 ?_
    rw [eq70_L0, allR, Bool.and_true]
    refine Br_f (by omega) (Br_d (fun c => ⟨?_, rfl⟩) (fun c => ⟨?_, rfl⟩))
    · rw [decide_eq_true (show l.length = 8 by omega), Bool.true_and]
      congr 3
      exact decide_eq_decide.2 (by omega)
    · rw [decide_eq_false (show ¬ l.length = 8 by omega), Bool.false_and]
  | n + 1, i, h => by
    refine FL_of1 ?_
    rw [eq70_L0, wS (by omega)]
    simp only [Int.toNat_natCast]
    refine Br_t (by omega) (Ck_d (by omega) (Ck_d (by omega) ⟨_, c87 _, Br_nb (fun h1 => ?_) (fun h1 => ?_)⟩))
    · exact ⟨by rw [allR_f h1, Bool.and_false, Bool.false_and], rfl⟩
    · rw [allR_t h1]
      exact l70 l t hl n (i + 1) (by omega)
theorem c70 (l : List Int) (t : List Bool) (hl : l.length ≤ 1048576) : SC P 70 [.one (.ro (.int .i64) l), .one (.ro .bool t)] [] [.one (.bool (valsOk l && decide (t.length = 8)))] [] := by
  refine SC_of_FB (H := H70) E_ok Try.func70 (by kernel_rfl) ?_
  rw [eq70]
  have := l70 l t hl l.length 0 (by omega)
  rw [allR_all (fun n => inB n 0 30) l 0] at this
  exact this

/-! loop.example/keelson/spec.l2Scale -/
def H129v : Hint := ⟨[[(0, 0, .bool), (1, 0, .bool), (5, 0, .bool), (6, 0, .bool)]], [], [], [], [], [], []⟩
def S129v_L0 (v0 : List Int) (c1 : Int) (i6 : Int) (h0 : List Int) : St := ⟨[(0, .w (.one (.ro (.int .i64) v0))), (1, .w (.one (.int .i64 c1))), (5, .w (.one (.sl 0 none))), (6, .w (.one (.int .i64 i6)))], [.row (.int .i64) h0 .own]⟩
theorem eq129v (v : List Int) (c : Int) (r : List W) (lh : Heap) : FB E H129v Try.f129 [.one (.ro (.int .i64) v), .one (.int .i64 c)] [] r lh =
  (
   FL E H129v Try.f129 0 r lh 0 (S129v_L0 v c 0 [])) := by kernel_rfl
theorem eq129v_L0 (v0 : List Int) (c1 : Int) (i6 : Int) (h0 : List Int) (r : List W) (lh : Heap) : FL1 E H129v Try.f129 0 r lh 0 (S129v_L0 v0 c1 i6 h0) =
  (
   Br (decide (i6 < ((v0.length : Nat) : Int))) (
    Ck (decide ((0 : Int) ≤ i6)) (
     Ck (decide (i6 < ((v0.length : Nat) : Int))) (
      Ck (Nat.ble ((h0.length + 1) * 8) roomy) (
       FL E H129v Try.f129 0 r lh 0 (S129v_L0 v0 c1 (IntKind.wrap .i64 (i6 + 1)) (h0 ++ [(Int.tmod (IntKind.wrap .i64 ((v0.getD i6.toNat 0) * c1)) 31)])))))) (
    Ret r lh [.one (.sl 0 none)] [.row (.int .i64) h0 .own])) := by kernel_rfl
theorem l129v (v : V4) (c : Int) (hv : VOk v) (hc : FOk c) : ∀ (n i : Nat) (out : List Int), i + n = 4 → out.length = i → FL E H129v Try.f129 0 [.one (.sl 0 none)] [.row (.int .i64) (out ++ mapR (fun j => v.l.getD j 0 * c % 31) i n) .own] 0 (S129v_L0 v.l c (i : Int) out)
  | 0, i, out, h, ho => by
    have hvl : v.l.length = 4 := rfl
    refine FL_of1 ?_
    rw [eq129v_L0]
    exact Br_f (by omega) ⟨rfl, by rw [mapR, List.append_nil]⟩
  | n + 1, i, out, h, ho => by
    have hvl : v.l.length = 4 := rfl
    have hm := fok_mul (vok_get hv i) hc
    refine FL_of1 ?_
    rw [eq129v_L0, wS (by omega), mapR]
    simp only [Int.toNat_natCast]
    rw [wrap64 (n := v.l.getD i 0 * c) (by omega) (by omega), Int.tmod_eq_emod_of_nonneg hm.1]
    refine Br_t (by omega) (Ck_d (by omega) (Ck_d (by omega) (Ck_room (by omega) ?_)))
    have := l129v v c hv hc n (i + 1) (out ++ [v.l.getD i 0 * c % 31]) (by omega) (by simp; omega)
    rw [List.append_assoc] at this
    exact this
theorem c129v (v : V4) (c : Int) (hv : VOk v) (hc : FOk c) : SC P 129 [.one (.ro (.int .i64) v.l), .one (.int .i64 c)] [] [.one (.sl 0 none)] [.row (.int .i64) (vtimes v c).l .own] := by
  refine SC_of_FB (H := H129v) E_ok Try.func129 (by kernel_rfl) ?_
  rw [eq129v]
  exact l129v v c hv hc 4 0 [] (by omega) rfl

/-! loop.example/keelson/spec.l2Sum -/
def H148v : Hint := ⟨[[(0, 0, .bool), (1, 0, .bool), (5, 0, .bool), (6, 0, .bool)]], [], [(5, [0, 1, 2, 3, 4, 5, 6, 7, 8, 9, 10, 11, 12, 13])], [], [], [], []⟩
def S148v_L0 (a0 : List Int) (b1 : List Int) (i6 : Int) (h0 : List Int) : St := ⟨[(0, .w (.one (.ro (.int .i64) a0))), (1, .w (.one (.ro (.int .i64) b1))), (5, .w (.one (.sl 0 none))), (6, .w (.one (.int .i64 i6)))], [.row (.int .i64) h0 .own]⟩
theorem eq148v (a : List Int) (b : List Int) (r : List W) (lh : Heap) : FB E H148v Try.f148 [.one (.ro (.int .i64) a), .one (.ro (.int .i64) b)] [] r lh =
  (
   FL E H148v Try.f148 0 r lh 0 (S148v_L0 a b 0 [])) := by kernel_rfl
theorem eq148v_L0 (a0 : List Int) (b1 : List Int) (i6 : Int) (h0 : List Int) (r : List W) (lh : Heap) : FL1 E H148v Try.f148 0 r lh 0 (S148v_L0 a0 b1 i6 h0) =
  (
   Br (decide (i6 < ((a0.length : Nat) : Int))) (
    Ck (decide ((0 : Int) ≤ i6)) (
     Ck (decide (i6 < ((a0.length : Nat) : Int))) (
      Ck (decide ((0 : Int) ≤ i6)) (
       Ck (decide (i6 < ((b1.length : Nat) : Int))) (
        Ck (Nat.ble ((h0.length + 1) * 8) roomy) (
         FL E H148v Try.f148 0 r lh 0 (S148v_L0 a0 b1 (IntKind.wrap .i64 (i6 + 1)) (h0 ++ [(Int.tmod (IntKind.wrap .i64 ((a0.getD i6.toNat 0) + (b1.getD i6.toNat 0))) 31)])))))))) (
    Ret r lh [.one (.sl 0 none)] [.row (.int .i64) h0 .own])) := by kernel_rfl
theorem l148v (v u : V4) (hv : VOk v) (hu : VOk u) : ∀ (n i : Nat) (out : List Int), i + n = 4 → out.length = i → FL E H148v Try.f148 0 [.one (.sl 0 none)] [.row (.int .i64) (out ++ mapR (fun j => (v.l.getD j 0 + u.l.getD j 0) % 31) i n) .own] 0 (S148v_L0 v.l u.l (i : Int) out)
  | 0, i, out, h, ho => by
    have hvl : v.l.length = 4 := rfl
    refine FL_of1 ?_
    rw [eq148v_L0]
    exact Br_f (by omega) ⟨rfl, by rw [mapR, List.append_nil]⟩
  | n + 1, i, out, h, ho => by
    have hvl : v.l.length = 4 := rfl
    have hul : u.l.length = 4 := rfl
    obtain ⟨a0, a1⟩ := vok_get hv i
    obtain ⟨b0, b1⟩ := vok_get hu i
    refine FL_of1 ?_
    rw [eq148v_L0, wS (by omega), mapR]
    simp only [Int.toNat_natCast]
    rw [wrap64 (n := v.l.getD i 0 + u.l.getD i 0) (by omega) (by omega), Int.tmod_eq_emod_of_nonneg (by omega)]
    refine Br_t (by omega) (Ck_d (by omega) (Ck_d (by omega) (Ck_d (by omega) (Ck_d (by omega) (Ck_room (by omega) ?_)))))
    have := l148v v u hv hu n (i + 1) (out ++ [(v.l.getD i 0 + u.l.getD i 0) % 31]) (by omega) (by simp; omega)
    rw [List.append_assoc] at this
    exact this
theorem c148v (v u : V4) (hv : VOk v) (hu : VOk u) : SC P 148 [.one (.ro (.int .i64) v.l), .one (.ro (.int .i64) u.l)] [] [.one (.sl 0 none)] [.row (.int .i64) (vplus v u).l .own] := by
  refine SC_of_FB (H := H148v) E_ok Try.func148 (by kernel_rfl) ?_
  rw [eq148v]
  exact l148v v u hv hu 4 0 [] (by omega) rfl

theorem m115_74 : MethodIs P 74 "loop.example/keelson/impl.times" 115 := by
  intro v w
  kernel_rfl

theorem m114_74 : MethodIs P 74 "loop.example/keelson/impl.plus" 114 := by
  intro v w
  kernel_rfl

theorem m123_76 : MethodIs P 76 "loop.example/keelson/impl.times" 123 := by
  intro v w
  kernel_rfl

theorem m113_76 : MethodIs P 76 "loop.example/keelson/impl.plus" 113 := by
  intro v w
  kernel_rfl

theorem getD_map {α β : Type} (g : α → β) (l : List α) (z : α) (z' : β) (i : Nat) (hi : i < l.length) : (l.map g).getD i z' = g (l.getD i z) := by
  rw [getD_eq (by rw [List.length_map]; exact hi), getD_eq hi, List.getElem_map]

abbrev Pln := Int × List Int × List Int
def formedAt (p : Pln) (i : Nat) : Bool := (inB (p.2.1.getD i 0) 0 7 && !decide (p.2.1.getD i 0 = p.1)) && (decide (i = 0) || decide (p.2.1.getD (i - 1) 0 < p.2.1.getD i 0))
def byAt (p : Pln) (i : Nat) : Bool := inB (p.2.2.getD i 0) 1 30
def formed (p : Pln) : Bool := ((inB p.1 0 7 && inB (p.2.1.length : Int) 1 4) && decide (p.2.2.length = p.2.1.length)) && allR (fun i => formedAt p i && byAt p i) 0 p.2.1.length
theorem allR_and {p q : Nat → Bool} : ∀ {n i : Nat}, allR (fun j => p j && q j) i n = (allR p i n && allR q i n)
  | 0, _ => rfl
  | n + 1, i => by
    rw [allR, allR, allR, allR_and (n := n) (i := i + 1)]
    cases p i <;> cases q i <;> simp
theorem formed_iff {p : Pln} (h : formed p = true) : (1 ≤ p.2.1.length ∧ p.2.1.length ≤ 4) ∧ p.2.2.length = p.2.1.length ∧ ∀ i, i < p.2.1.length → formedAt p i = true ∧ byAt p i = true := by
  rw [formed, Bool.and_eq_true, Bool.and_eq_true, Bool.and_eq_true, inB_iff, inB_iff, decide_eq_true_iff, allR_iff] at h
  refine ⟨by omega, h.1.2, fun i hi => ?_⟩
  have := h.2 i (Nat.zero_le _) (by omega)
  rwa [Bool.and_eq_true] at this

/-! (loop.example/keelson/impl.Plan).formed -/
def H108 : Hint := ⟨[[(1, 0, .bool), (26, 0, .bool), (27, 0, .bool), (28, 0, .bool)]], [], [], [], [], [], []⟩
def S108_L0 (x26 : List Int) (x27 : Int) (x28 : Int) (b0_0 : Int) (b0_1 : List Int) (b0_2 : List Int) : St := ⟨[(1, .w (.one (.ptr 0 0 0))), (26, .w (.one (.ro (.int .i64) x26))), (27, .w (.one (.int .i64 x27))), (28, .w (.one (.int .i64 x28)))], [.box [.int .i64 b0_0, .ro (.int .i64) b0_1, .ro (.int .i64) b0_2]]⟩
theorem eq108 (p : (Int × (List Int × List Int))) (r : List W) (lh : Heap) : FB E H108 Try.f108 [.agg [.int .i64 p.1, .ro (.int .i64) p.2.1, .ro (.int .i64) p.2.2]] [] r lh =
  (
   ∃ r0 : Bool, SC P 44 [.one (.int .i64 p.1)] [] [.one (.bool r0)] [] ∧
    Br (!r0) (
     Ret r lh [.one (.bool false)] []) (
     ∃ r1 : Bool, SC P 78 [.one (.int .i64 ((p.2.1.length : Nat) : Int)), .one (.int .i64 1), .one (.int .i64 4)] [] [.one (.bool r1)] [] ∧
      Br (!r1) (
       Ret r lh [.one (.bool false)] []) (
       Br (!(decide (((p.2.2.length : Nat) : Int) = ((p.2.1.length : Nat) : Int)))) (
        Ret r lh [.one (.bool false)] []) (
        FL E H108 Try.f108 0 r lh 0 (S108_L0 p.2.1 ((p.2.1.length : Nat) : Int) 0 p.1 p.2.1 p.2.2))))) := by kernel_rfl
theorem eq108_L0 (x26 : List Int) (x27 : Int) (x28 : Int) (b0_0 : Int) (b0_1 : List Int) (b0_2 : List Int) (r : List W) (lh : Heap) : FL1 E H108 Try.f108 0 r lh 0 (S108_L0 x26 x27 x28 b0_0 b0_1 b0_2) =
  (
   Br (decide (x28 < x27)) (
    Ck (decide ((0 : Int) ≤ x28)) (
     Ck (decide (x28 < ((x26.length : Nat) : Int))) (
      ∃ r0 : Bool, SC P 44 [.one (.int .i64 (x26.getD x28.toNat 0))] [] [.one (.bool r0)] [] ∧
       Br (!r0) (
        Ret r lh [.one (.bool false)] []) (
        Br (decide ((x26.getD x28.toNat 0) = b0_0)) (
         Ret r lh [.one (.bool false)] []) (
         Br (decide ((0 : Int) < x28)) (
          Ck (decide ((0 : Int) ≤ (IntKind.wrap .i64 (x28 - 1)))) (
           Ck (decide ((IntKind.wrap .i64 (x28 - 1)) < ((b0_1.length : Nat) : Int))) (
            Br (decide ((x26.getD x28.toNat 0) ≤ (b0_1.getD (IntKind.wrap .i64 (x28 - 1)).toNat 0))) (
             Ret r lh [.one (.bool false)] []) (
             Ck (decide ((0 : Int) ≤ x28)) (
              Ck (decide (x28 < ((b0_2.length : Nat) : Int))) (
               ∃ r1 : Bool, SC P 78 [.one (.int .i64 (b0_2.getD x28.toNat 0)), .one (.int .i64 1), .one (.int .i64 30)] [] [.one (.bool r1)] [] ∧
                Br (!r1) (
                 Ret r lh [.one (.bool false)] []) (
                 FL E H108 Try.f108 0 r lh 0 (S108_L0 x26 x27 (IntKind.wrap .i64 (x28 + 1)) b0_0 b0_1 b0_2)))))))) (
          Ck (decide ((0 : Int) ≤ x28)) (
           Ck (decide (x28 < ((b0_2.length : Nat) : Int))) (
            ∃ r2 : Bool, SC P 78 [.one (.int .i64 (b0_2.getD x28.toNat 0)), .one (.int .i64 1), .one (.int .i64 30)] [] [.one (.bool r2)] [] ∧
             Br (!r2) (
              Ret r lh [.one (.bool false)] []) (
              FL E H108 Try.f108 0 r lh 0 (S108_L0 x26 x27 (IntKind.wrap .i64 (x28 + 1)) b0_0 b0_1 b0_2)))))))))) (
    Ret r lh [.one (.bool true)] [])) := by kernel_rfl
theorem l108 (p : Pln) (hl : p.2.1.length ≤ 1048576) (he : p.2.2.length = p.2.1.length) : ∀ (n i : Nat), i + n = p.2.1.length → FL E H108 Try.f108 0 [.one (.bool (allR (fun i => formedAt p i && byAt p i) i n))] [] 0 (S108_L0 p.2.1 (p.2.1.length : Int) (i : Int) p.1 p.2.1 p.2.2)
  | 0, i, h => by
    refine FL_of1 ?_
    rw [eq108_L0]
    exact Br_f (by omega) ⟨rfl, rfl⟩
  | n + 1, i, h => by
    have no : formedAt p i = false → [W.one (.bool false)] = [W.one (.bool (allR (fun i => formedAt p i && byAt p i) i (n + 1)))] := fun e => by rw [allR_f (by rw [e, Bool.false_and])]
    have no2 : byAt p i = false → [W.one (.bool false)] = [W.one (.bool (allR (fun i => formedAt p i && byAt p i) i (n + 1)))] := fun e => by rw [allR_f (by rw [e, Bool.and_false])]
    have ih := l108 p hl he n (i + 1) (by omega)
    refine FL_of1 ?_
    rw [eq108_L0, wS (by omega)]
    simp only [Int.toNat_natCast]
    refine Br_t (by omega) (Ck_d (by omega) (Ck_d (by omega) ⟨_, c44 _, Br_nb (fun e => ⟨no (by rw [formedAt, e]; rfl), rfl⟩) (fun e1 => Br_d (fun e => ⟨no (by rw [formedAt, decide_eq_true e, Bool.not_true, Bool.and_false, Bool.false_and]), rfl⟩) (fun e2 => Br_d (fun hi => ?_) (fun hi => ?_)))⟩))
    · rw [wrap64 (n := (i : Int) - 1) (by omega) (by omega), show ((i : Int) - 1).toNat = i - 1 by omega]
      refine Ck_d (by omega) (Ck_d (by omega) (Br_d (fun e => ⟨no ?_, rfl⟩) (fun e3 => Ck_d (by omega) (Ck_d (by omega) ⟨_, c78 _ _ _, Br_nb (fun e => ⟨no2 e, rfl⟩) (fun e4 => ?_)⟩))))
      · rw [formedAt, decide_eq_false (show ¬ i = 0 by omega), decide_eq_false (show ¬ p.2.1.getD (i - 1) 0 < p.2.1.getD i 0 by omega), Bool.or_false, Bool.and_false]
      · rw [allR_t (by rw [formedAt, byAt, e1, e4, decide_eq_false e2, decide_eq_true (show p.2.1.getD (i - 1) 0 < p.2.1.getD i 0 by omega), Bool.or_true]; rfl)]
        exact ih
    · refine Ck_d (by omega) (Ck_d (by omega) ⟨_, c78 _ _ _, Br_nb (fun e => ⟨no2 e, rfl⟩) (fun e4 => ?_)⟩)
      rw [allR_t (by rw [formedAt, byAt, e1, e4, decide_eq_false e2, decide_eq_true (show i = 0 by omega), Bool.true_or]; rfl)]
      exact ih
theorem c108 (p : Pln) (hl : p.2.1.length ≤ 1048576) (hb : p.2.2.length ≤ 1048576) : SC P 108 [.agg [.int .i64 p.1, .ro (.int .i64) p.2.1, .ro (.int .i64) p.2.2]] [] [.one (.bool (formed p))] [] := by
  refine SC_of_FB (H := H108) E_ok Try.func108 (by kernel_rfl) ?_
  rw [eq108]
  refine ⟨_, c44 _, Br_nb (fun e => ⟨by rw [formed, e]; rfl, rfl⟩) (fun e1 => ⟨_, c78 _ _ _, Br_nb (fun e => ⟨by rw [formed, e, Bool.and_false]; rfl, rfl⟩) (fun e2 => Br_nd (fun e => ⟨?_, rfl⟩) (fun e3 => ?_))⟩)⟩
  · rw [formed, decide_eq_false (show ¬ p.2.2.length = p.2.1.length by omega), Bool.and_false]; rfl
  · have := l108 p hl (by omega) p.2.1.length 0 (by omega)
    rw [formed, e1, e2, decide_eq_true (show p.2.2.length = p.2.1.length by omega)]
    exact this

theorem formed_spec (p : Pln) : (allR (formedAt p) 0 p.2.1.length && (allR (byAt p) 0 p.2.2.length && (inB p.1 0 7 && (decide (p.2.2.length = p.2.1.length) && inB (p.2.1.length : Int) 1 4)))) = formed p := by
  rw [formed, allR_and]
  by_cases h : p.2.2.length = p.2.1.length
  · rw [h, decide_eq_true rfl]
    cases allR (formedAt p) 0 p.2.1.length <;> cases allR (byAt p) 0 p.2.1.length <;> cases inB p.1 0 7 <;> cases inB (p.2.1.length : Int) 1 4 <;> rfl
  · rw [decide_eq_false h]
    cases allR (formedAt p) 0 p.2.1.length <;> cases allR (byAt p) 0 p.2.2.length <;> cases inB p.1 0 7 <;> cases inB (p.2.1.length : Int) 1 4 <;> rfl
abbrev st1 (a : Int) : Step := (1, a, 0)
abbrev st2 (one b : Int) : Step := (2, one, b)
abbrev st3 (sum one : Int) : Step := (3, sum, one)
def progStep (f b : List Int) (sum : Int) (out : List Step) (i : Nat) : List Step :=
  let out1 := out ++ [st1 (f.getD i 0)]
  let out2 := bif decide (b.getD i 0 = 1) then out1 else out1 ++ [st2 ((out1.length : Int) - 1) (b.getD i 0)]
  bif decide (i = 0) then out2 else out2 ++ [st3 sum ((out2.length : Int) - 1)]
theorem progStep_len {f b : List Int} {sum : Int} {out : List Step} {i : Nat} : out.length + 1 ≤ (progStep f b sum out i).length ∧ (progStep f b sum out i).length ≤ out.length + 3 := by
  rw [progStep]
  cases decide (b.getD i 0 = 1) <;> cases decide (i = 0) <;> simp
def progOfR (f b : List Int) : Nat → Nat → Int → List Step → List Step
  | _, 0, _, out => out
  | i, n + 1, sum, out => progOfR f b (i + 1) n (((progStep f b sum out i).length : Int) - 1) (progStep f b sum out i)
theorem progOfR_len {f b : List Int} : ∀ {n i : Nat} {sum : Int} {out : List Step}, (progOfR f b i n sum out).length ≤ out.length + 3 * n
  | 0, _, _, _ => Nat.le_refl _
  | n + 1, i, sum, out => by
    have h1 := progOfR_len (f := f) (b := b) (n := n) (i := i + 1) (sum := ((progStep f b sum out i).length : Int) - 1) (out := progStep f b sum out i)
    have h2 := (progStep_len (f := f) (b := b) (sum := sum) (out := out) (i := i)).2
    rw [progOfR]
    omega
def progOfF (p : Pln) : List Step := bif formed p then progOfR p.2.1 p.2.2 0 p.2.1.length 0 [] else []
theorem progOfF_len {p : Pln} : (progOfF p).length ≤ 12 := by
  rw [progOfF]
  cases h : formed p
  · simp
  · have := formed_iff h
    have h1 := progOfR_len (f := p.2.1) (b := p.2.2) (n := p.2.1.length) (i := 0) (sum := 0) (out := [])
    simp only [List.length_nil] at h1
    rw [cond_true]
    omega

theorem progOfR_start {f b : List Int} {n : Nat} {s s' : Int} {out : List Step} : progOfR f b 0 n s out = progOfR f b 0 n s' out := by
  cases n
  · rfl
  · rfl

/-! loop.example/keelson/laws.szIntS -/
def H68 : Hint := ⟨[], [], [], [], [], [], []⟩
theorem eq68 (a : List Int) (left : Int) (r : List W) (lh : Heap) : FB E H68 Try.f68 [.one (.ro (.int .i64) a), .one (.int .i64 left)] [] r lh =
  (
   Br (decide ((IntKind.wrap .i64 (left - ((a.length : Nat) : Int))) < (0 : Int))) (
    Ret r lh [.one (.int .i64 (-1))] []) (
    Ret r lh [.one (.int .i64 (IntKind.wrap .i64 (left - ((a.length : Nat) : Int))))] [])) := by kernel_rfl
theorem c68 (l : List Int) (m : Int) (hl : l.length ≤ 9223372036854775807) (h0 : 0 ≤ m) (h1 : m ≤ 1048576) : SC P 68 [.one (.ro (.int .i64) l), .one (.int .i64 m)] [] [.one (.int .i64 (bif decide ((l.length : Int) ≤ m) then m - (l.length : Int) else -1))] [] := by
  refine SC_of_FB (H := H68) E_ok Try.func68 (by kernel_rfl) ?_
  rw [eq68]
  rw [wrap64 (by omega) (by omega)]
  refine Br_d (fun h => ⟨?_, rfl⟩) (fun h => ⟨?_, rfl⟩)
  · rw [decide_eq_false (by omega)]; rfl
  · rw [decide_eq_true (by omega)]; rfl

/-! loop.example/keelson/laws.eqPlan -/
def H45 : Hint := ⟨[], [], [], [], [], [], []⟩
theorem eq45 (a : (Int × (List Int × List Int))) (b : (Int × (List Int × List Int))) (r : List W) (lh : Heap) : FB E H45 Try.f45 [.agg [.int .i64 a.1, .ro (.int .i64) a.2.1, .ro (.int .i64) a.2.2], .agg [.int .i64 b.1, .ro (.int .i64) b.2.1, .ro (.int .i64) b.2.2]] [] r lh =
  (
   Br (!(decide (a.1 = b.1))) (
    Ret r lh [.one (.bool false)] []) (
    ∃ r0 : Bool, SC P 74 [.one (.ro (.int .i64) a.2.1), .one (.ro (.int .i64) b.2.1)] [] [.one (.bool r0)] [] ∧
     Br (!r0) (
      Ret r lh [.one (.bool false)] []) (
      ∃ r1 : Bool, SC P 74 [.one (.ro (.int .i64) a.2.2), .one (.ro (.int .i64) b.2.2)] [] [.one (.bool r1)] [] ∧
       Br (!r1) (
        Ret r lh [.one (.bool false)] []) (
        Ret r lh [.one (.bool true)] [])))) := by kernel_rfl
theorem c45 (p : Pln) (hl : p.2.1.length ≤ 1048576) (hb : p.2.2.length ≤ 1048576) : SC P 45 [.agg [.int .i64 p.1, .ro (.int .i64) p.2.1, .ro (.int .i64) p.2.2], .agg [.int .i64 p.1, .ro (.int .i64) p.2.1, .ro (.int .i64) p.2.2]] [] [.one (.bool true)] [] := by
  refine SC_of_FB (H := H45) E_ok Try.func45 (by kernel_rfl) ?_
  rw [eq45]
  have s1 := c74 p.2.1 p.2.1 hl
  have s2 := c74 p.2.2 p.2.2 hb
  rw [decide_eq_true rfl] at s1 s2
  exact Br_nd (fun e => absurd rfl e) (fun _ => ⟨_, s1, Br_nb (fun e => by cases e) (fun _ => ⟨_, s2, Br_nb (fun e => by cases e) (fun _ => ⟨rfl, rfl⟩)⟩)⟩)

/-! loop.example/keelson/spec.l4Set -/
def H76 : Hint := ⟨[[(0, 0, .bool), (3, 0, .bool), (4, 0, .bool)]], [], [], [], [], [], []⟩
def S76_L0 (bits0 : Int) (i4 : Int) (h0 : List Bool) : St := ⟨[(0, .w (.one (.int .i64 bits0))), (3, .w (.one (.sl 0 none))), (4, .w (.one (.int .i64 i4)))], [.row .bool h0 .own]⟩
theorem eq76 (bits : Int) (r : List W) (lh : Heap) : FB E H76 Try.f76 [.one (.int .i64 bits)] [] r lh =
  (
   FL E H76 Try.f76 0 r lh 0 (S76_L0 bits 0 [false, false, false, false, false, false, false, false])) := by kernel_rfl
theorem eq76_L0 (bits0 : Int) (i4 : Int) (h0 : List Bool) (r : List W) (lh : Heap) : FL1 E H76 Try.f76 0 r lh 0 (S76_L0 bits0 i4 h0) =
  (
   Br (decide (i4 < ((h0.length : Nat) : Int))) (
    Ck (decide ((0 : Int) ≤ i4)) (
     Ck (decide (i4 < ((h0.length : Nat) : Int))) (
      Ck (Nat.ble (i4.toNat + 1) h0.length) (
       FL E H76 Try.f76 0 r lh 0 (S76_L0 (IntKind.wrap .i64 (Int.tdiv bits0 2)) (IntKind.wrap .i64 (i4 + 1)) (h0.set i4.toNat (decide ((Int.tmod bits0 2) = (1 : Int))))))))) (
    Ret r lh [.one (.sl 0 none)] [.row .bool h0 .own])) := by kernel_rfl
theorem c76 : SC P 76 [.one (.int .i64 255)] [] [.one (.sl 0 none)] [.row .bool [true, true, true, true, true, true, true, true] .own] := by
  refine SC_of_FB (H := H76) E_ok Try.func76 (by kernel_rfl) ?_
  rw [eq76]
  have step : ∀ (i : Nat) (bits bits' : Int) (h : List Bool), i < 8 → h.length = 8 → bits.tmod 2 = 1 → IntKind.wrap .i64 (bits.tdiv 2) = bits' → FL E H76 Try.f76 0 [.one (.sl 0 none)] [.row .bool [true, true, true, true, true, true, true, true] .own] 0 (S76_L0 bits' ((i + 1 : Nat) : Int) (h.set i true)) →
      FL E H76 Try.f76 0 [.one (.sl 0 none)] [.row .bool [true, true, true, true, true, true, true, true] .own] 0 (S76_L0 bits (i : Int) h) := by
    intro i bits bits' h hi hl hb hw hF
    refine FL_of1 ?_
    rw [eq76_L0, wS (by omega), decide_eq_true hb, hw]
    simp only [Int.toNat_natCast]
    exact Br_t (by omega) (Ck_d (by omega) (Ck_d (by omega) (Ck_le (by omega) hF)))
  refine step 0 255 127 _ (by omega) rfl rfl rfl (step 1 127 63 _ (by omega) rfl rfl rfl (step 2 63 31 _ (by omega) rfl rfl rfl (step 3 31 15 _ (by omega) rfl rfl rfl (step 4 15 7 _ (by omega) rfl rfl rfl (step 5 7 3 _ (by omega) rfl rfl rfl (step 6 3 1 _ (by omega) rfl rfl rfl (step 7 1 0 _ (by omega) rfl rfl rfl ?_)))))))
  refine FL_of1 ?_
  rw [eq76_L0]
  exact Br_f (by simp) ⟨rfl, rfl⟩

/-! loop.example/keelson/spec.l91There -/
def H36 : Hint := ⟨[[(0, 0, .bool), (3, 0, .bool), (4, 0, .bool)]], [], [], [], [.one (.c (.sl .bool))], [], []⟩
def S36_L0 (n4 : Int) (b0_0 : List Int) (b0_1 : Int) (h1 : List Bool) : St := ⟨[(0, .w (.one (.ptr 0 0 0))), (3, .w (.one (.sl 1 none))), (4, .w (.one (.int .i64 n4)))], [.box [.ro (.int .u8) b0_0, .int .i64 b0_1], .row .bool h1 .own]⟩
theorem eq36 (b : List Int) (p : Int) (r : List W) (lh : Heap) : FB E H36 Try.f36 [.one (.ptr 0 0 0)] [.box [.ro (.int .u8) b, .int .i64 p]] r lh =
  (
   ∃ r0 : List Bool, SC P 76 [.one (.int .i64 255)] [] [.one (.sl 0 none)] [.row .bool r0 .own] ∧
    ∃ r1 : List Int × Int × Int, SC P 49 [.one (.ptr 0 0 0), .one (.int .i64 6)] [.box [.ro (.int .u8) b, .int .i64 p]] [.one (.int .i64 r1.2.2)] [.box [.ro (.int .u8) r1.1, .int .i64 r1.2.1]] ∧
     FL E H36 Try.f36 1 r lh 0 (S36_L0 r1.2.2 r1.1 r1.2.1 r0)) := by kernel_rfl
theorem eq36_L0 (n4 : Int) (b0_0 : List Int) (b0_1 : Int) (h1 : List Bool) (r : List W) (lh : Heap) : FL1 E H36 Try.f36 1 r lh 0 (S36_L0 n4 b0_0 b0_1 h1) =
  (
   Br (decide ((0 : Int) < n4)) (
    ∃ r0 : List Int × Int × Int, SC P 49 [.one (.ptr 0 0 0), .one (.int .i64 ((h1.length : Nat) : Int))] [.box [.ro (.int .u8) b0_0, .int .i64 b0_1]] [.one (.int .i64 r0.2.2)] [.box [.ro (.int .u8) r0.1, .int .i64 r0.2.1]] ∧
     Ck (decide ((0 : Int) ≤ r0.2.2)) (
      Ck (decide (r0.2.2 < ((h1.length : Nat) : Int))) (
       Ck (Nat.ble (r0.2.2.toNat + 1) h1.length) (
        FL E H36 Try.f36 1 r lh 0 (S36_L0 (IntKind.wrap .i64 (n4 - 1)) r0.1 r0.2.1 (h1.set r0.2.2.toNat false)))))) (
    ∃ r1 : List Int × Int × Int, SC P 49 [.one (.ptr 0 0 0), .one (.int .i64 40)] [.box [.ro (.int .u8) b0_0, .int .i64 b0_1]] [.one (.int .i64 r1.2.2)] [.box [.ro (.int .u8) r1.1, .int .i64 r1.2.1]] ∧
     Br (decide (r1.2.2 = (0 : Int))) (
      Ck (decide ((1 : Int) ≤ ((h1.length : Nat) : Int))) (
       Ck (decide (((h1.length : Nat) : Int) ≤ ((h1.length : Nat) : Int))) (
        Ck (decide (((h1.length : Nat) : Int) ≤ ((h1.length : Nat) : Int))) (
         Ret r lh [.one (.ro .bool ((h1.drop 1).take (((h1.length : Nat) : Int).toNat - 1)))] [.box [.ro (.int .u8) r1.1, .int .i64 r1.2.1]])))) (
      Ret r lh [.one (.ro .bool h1)] [.box [.ro (.int .u8) r1.1, .int .i64 r1.2.1]]))) := by kernel_rfl
theorem l36 (b : List Int) (hb : RdB b) : ∀ (n : Nat) (p : Int) (h : List Bool), 0 ≤ p → p + n ≤ 20000 → h.length = 8 → ∃ t p', (t : List Bool).length ≤ 8 ∧ 0 ≤ p' ∧ p' ≤ p + n + 1 ∧
    FL E H36 Try.f36 1 [.one (.ro .bool t)] [.box [.ro (.int .u8) b, .int .i64 p']] 0 (S36_L0 (n : Int) b p h)
  | 0, p, h, h0, h1, hl => by
    obtain ⟨v1, a1, b1, s1⟩ := c49 b p 40 hb (by omega) (by omega) (by omega)
    by_cases c0 : v1 = 0
    · refine ⟨(h.drop 1).take ((h.length : Int).toNat - 1), p + 1, by simp; omega, by omega, by omega, ?_⟩
      refine FL_of1 ?_
      rw [eq36_L0]
      exact Br_f (by omega) ⟨(b, p + 1, v1), s1, Br_t c0 (Ck_d (by omega) (Ck_d (by omega) (Ck_d (by omega) ⟨rfl, rfl⟩)))⟩
    · refine ⟨h, p + 1, by omega, by omega, by omega, ?_⟩
      refine FL_of1 ?_
      rw [eq36_L0]
      exact Br_f (by omega) ⟨(b, p + 1, v1), s1, Br_f c0 ⟨rfl, rfl⟩⟩
  | n + 1, p, h, h0, h1, hl => by
    obtain ⟨v1, a1, b1, s1⟩ := c49 b p (h.length : Int) hb (by omega) (by omega) (by omega)
    obtain ⟨t, p', e1, e2, e3, hF⟩ := l36 b hb n (p + 1) (h.set v1.toNat false) (by omega) (by omega) (by rw [List.length_set]; exact hl)
    refine ⟨t, p', e1, e2, by omega, ?_⟩
    refine FL_of1 ?_
    rw [eq36_L0, wrap64 (n := ((n + 1 : Nat) : Int) - 1) (by omega) (by omega), show ((n + 1 : Nat) : Int) - 1 = (n : Int) by omega]
    exact Br_t (by omega) ⟨(b, p + 1, v1), s1, Ck_d (by omega) (Ck_d (by omega) (Ck_le (by dsimp only; omega) hF))⟩
theorem c36 (b : List Int) (p : Int) (hb : RdB b) (h0 : 0 ≤ p) (h1 : p ≤ 10000) : ∃ t p', (t : List Bool).length ≤ 8 ∧ 0 ≤ p' ∧ p' ≤ p + 10 ∧ SC P 36 [.one (.ptr 0 0 0)] [.box [.ro (.int .u8) b, .int .i64 p]] [.one (.ro .bool t)] [.box [.ro (.int .u8) b, .int .i64 p']] := by
  obtain ⟨v1, a1, b1, s1⟩ := c49 b p 6 hb (by omega) (by omega) (by omega)
  obtain ⟨t, p', e1, e2, e3, hF⟩ := l36 b hb v1.toNat (p + 1) [true, true, true, true, true, true, true, true] (by omega) (by omega) rfl
  rw [show ((v1.toNat : Nat) : Int) = v1 by omega] at hF
  refine ⟨t, p', e1, e2, by omega, ?_⟩
  refine SC_of_FB (H := H36) E_ok Try.func36 (by kernel_rfl) ?_
  rw [eq36]
  exact ⟨_, c76, (b, p + 1, v1), s1, hF⟩

theorem thereB_len : ∀ (n b : Nat), (thereB n b).length = n
  | 0, _ => rfl
  | n + 1, b => by rw [thereB, List.length_cons, thereB_len n]

end Go.Proofs.Ytjoiadaogppmkaa.Sh
