/- Stripes: contracts. -/
import Derived.Test.YtjoiadaogppmkaaGreatShT0
import Derived.Test.YtjoiadaogppmkaaGreatShT1
import Derived.Test.YtjoiadaogppmkaaGreatShS2
namespace Go.Proofs.YtjoiadaogppmkaaGreat.Sh
open Go
set_option linter.unusedVariables false
set_option linter.unusedSimpArgs false
abbrev StrT := Int × List Int × List Int × List Bool
def fitV (s : StrT) (v : Int) : Bool := fitsI s.1 s.2.1 (flagF (ofF s.2.2.1 s.2.2.2 v))
def bearV (s : StrT) (v : Int) : Bool := bearsI s.1 (flagF (ofF s.2.2.1 s.2.2.2 v))
def strAt (s : StrT) (i : Nat) : Bool := bif s.2.2.2.getD i false then inB (s.2.1.getD i 0) 0 30 && inB (s.2.2.1.getD i 0) 1 99 else decide (s.2.1.getD i 0 = 0) && decide (s.2.2.1.getD i 0 = 0)
def fitAt (s : StrT) (i : Nat) : Bool := !s.2.2.2.getD i false || fitV s (s.2.2.1.getD i 0)
def speAt (s : StrT) (i : Nat) : Bool := bif s.2.2.2.getD i false then inB (s.2.2.1.getD i 0) 1 99 && fitV s (s.2.2.1.getD i 0) else decide (s.2.1.getD i 0 = 0) && decide (s.2.2.1.getD i 0 = 0)
def lensOk (s : StrT) : Bool := decide (s.2.1.length = 8) && (decide (s.2.2.1.length = 8) && decide (s.2.2.2.length = 8))
def stripeOkF (s : StrT) : Bool := (inB s.1 1 2 && lensOk s) && (allR (strAt s) 0 8 && allR (fitAt s) 0 8)
theorem lens_iff {s : StrT} : lensOk s = true ↔ s.2.1.length = 8 ∧ s.2.2.1.length = 8 ∧ s.2.2.2.length = 8 := by
  rw [lensOk, Bool.and_eq_true, Bool.and_eq_true, decide_eq_true_iff, decide_eq_true_iff, decide_eq_true_iff]
theorem valsOk_R {l : List Int} (h : l.length = 8) : valsOk l = allR (fun i => inB (l.getD i 0) 0 30) 0 8 := by
  rw [valsOk, decide_eq_true h, Bool.true_and, Bool.eq_iff_iff, List.all_eq_true, allR_iff]
  constructor
  · intro H j _ hj
    rw [getD_eq (show j < l.length by omega)]
    exact H _ (List.getElem_mem _)
  · intro H x hx
    obtain ⟨i, hi, rfl⟩ := List.getElem_of_mem hx
    have := H i (Nat.zero_le _) (by omega)
    rw [getD_eq hi] at this
    exact this
theorem specOk_eq {s : StrT} : ((inB s.1 1 2 && (valsOk s.2.1 && decide (s.2.2.2.length = 8))) && (decide (s.2.2.1.length = 8) && allR (speAt s) 0 8)) = stripeOkF s := by
  rw [stripeOkF]
  by_cases hL : lensOk s = true
  · obtain ⟨h1, h2, h3⟩ := lens_iff.1 hL
    rw [hL, decide_eq_true h2, decide_eq_true h3, valsOk_R h1, Bool.and_true, Bool.and_true, Bool.true_and]
    cases inB s.1 1 2
    · rfl
    rw [Bool.true_and, Bool.true_and, Bool.eq_iff_iff, Bool.and_eq_true, Bool.and_eq_true, allR_iff, allR_iff, allR_iff, allR_iff]
    constructor
    · rintro ⟨g1, g2⟩
      refine ⟨fun j a b => ?_, fun j a b => ?_⟩
      · have e1 := g1 j a b; have e2 := g2 j a b
        rw [speAt] at e2; rw [strAt]
        cases h : s.2.2.2.getD j false
        · rw [h, cond_false] at e2; rw [cond_false]; exact e2
        · rw [h, cond_true, Bool.and_eq_true] at e2; rw [cond_true, e1, e2.1]; rfl
      · have e2 := g2 j a b
        rw [speAt] at e2; rw [fitAt]
        cases h : s.2.2.2.getD j false
        · rfl
        · rw [h, cond_true, Bool.and_eq_true] at e2; rw [e2.2]; rfl
    · rintro ⟨g1, g2⟩
      refine ⟨fun j a b => ?_, fun j a b => ?_⟩
      · have e1 := g1 j a b
        rw [strAt] at e1
        cases h : s.2.2.2.getD j false
        · rw [h, cond_false, Bool.and_eq_true, decide_eq_true_iff] at e1; rw [e1.1]; rfl
        · rw [h, cond_true, Bool.and_eq_true] at e1; exact e1.1
      · have e1 := g1 j a b; have e2 := g2 j a b
        rw [strAt] at e1; rw [fitAt] at e2; rw [speAt]
        cases h : s.2.2.2.getD j false
        · rw [h, cond_false] at e1; rw [cond_false]; exact e1
        · rw [h, cond_true, Bool.and_eq_true] at e1; rw [h, Bool.not_true, Bool.false_or] at e2; rw [cond_true, e1.2, e2]; rfl
  · have hL' : lensOk s = false := by simpa using hL
    rw [hL', Bool.and_false, Bool.false_and]
    rw [Bool.eq_false_iff]
    intro H
    rw [Bool.and_eq_true, Bool.and_eq_true, Bool.and_eq_true, Bool.and_eq_true, decide_eq_true_iff, decide_eq_true_iff] at H
    obtain ⟨⟨_, h1, h3⟩, h2, _⟩ := H
    exact hL (lens_iff.2 ⟨(vals_p h1).1, h2, h3⟩)
structure StrOk (s : StrT) : Prop where
  kind : inB s.1 1 2 = true
  l1 : s.2.1.length = 8
  l2 : s.2.2.1.length = 8
  l3 : s.2.2.2.length = 8
  vals : ValsP s.2.1
  yes : ∀ i, i < 8 → s.2.2.2.getD i false = true → 1 ≤ s.2.2.1.getD i 0 ∧ s.2.2.1.getD i 0 ≤ 99
  no : ∀ i, i < 8 → s.2.2.2.getD i false = false → s.2.1.getD i 0 = 0 ∧ s.2.2.1.getD i 0 = 0
  fits : ∀ v, (∃ i, i < 8 ∧ s.2.2.2.getD i false = true ∧ s.2.2.1.getD i 0 = v) → fitV s v = true
theorem at_vals {s : StrT} (h1 : s.2.1.length = 8) (H : ∀ j, 0 ≤ j → j < 0 + 8 → strAt s j = true) : ValsP s.2.1 := by
  refine ⟨h1, fun i => ?_⟩
  by_cases hi : i < 8
  · have := H i (Nat.zero_le _) (by omega)
    rw [strAt] at this
    cases h : s.2.2.2.getD i false
    · rw [h, cond_false, Bool.and_eq_true, decide_eq_true_iff] at this; rw [this.1]; exact fok0
    · rw [h, cond_true, Bool.and_eq_true] at this; exact inB_iff.1 this.1
  · rw [List.getD, List.getElem?_eq_none (by omega)]; exact fok0
theorem str_ok {s : StrT} (h : stripeOkF s = true) : StrOk s := by
  rw [stripeOkF, Bool.and_eq_true, Bool.and_eq_true, Bool.and_eq_true, lens_iff, allR_iff, allR_iff] at h
  obtain ⟨⟨hk, h1, h2, h3⟩, g1, g2⟩ := h
  refine ⟨hk, h1, h2, h3, at_vals h1 g1, fun i hi ht => ?_, fun i hi ht => ?_, ?_⟩
  · have := g1 i (Nat.zero_le _) (by omega)
    rw [strAt, ht, cond_true, Bool.and_eq_true] at this
    exact inB_iff.1 this.2
  · have := g1 i (Nat.zero_le _) (by omega)
    rw [strAt, ht, cond_false, Bool.and_eq_true, decide_eq_true_iff, decide_eq_true_iff] at this
    exact this
  · rintro v ⟨i, hi, ht, rfl⟩
    have := g2 i (Nat.zero_le _) (by omega)
    rw [fitAt, ht, Bool.not_true, Bool.false_or] at this
    exact this
theorem fits_any {s : StrT} {L : List Int} (hL : VersP s.2.2.1 s.2.2.2 L) : (!(L.any fun v => !fitV s v)) = allR (fitAt s) 0 8 := by
  rw [Bool.eq_iff_iff, Bool.not_eq_true', List.any_eq_false, allR_iff]
  constructor
  · intro H j _ hj
    rw [fitAt]
    cases h : s.2.2.2.getD j false
    · rfl
    · have := H _ ((hL.mem _).2 ⟨j, by omega, h, rfl⟩)
      rw [Bool.not_true, Bool.false_or]
      simpa using this
  · intro H v hv
    obtain ⟨i, hi, ht, rfl⟩ := (hL.mem v).1 hv
    have := H i (Nat.zero_le _) (by omega)
    rw [fitAt, ht, Bool.not_true, Bool.false_or] at this
    rw [this]; decide
theorem BrT {A B : Prop} (h : A) : Br true A B := h
theorem BrF {A B : Prop} (h : B) : Br false A B := h
def topV (s : StrT) : Int := bif stripeOkF s then topF s.2.2.1 else -1
def readV (s : StrT) : Int := downF (bearV s) (topF s.2.2.1).toNat
def readU (s : StrT) (v : Int) : List Int := bif decide (v = 0) then [] else (solveI s.1 s.2.1 (flagF (ofF s.2.2.1 s.2.2.2 v))).l
def readR (s : StrT) : List Int × Int × Bool := bif stripeOkF s then (readU s (readV s), readV s, !decide (readV s = 0)) else ([], 0, false)
theorem readU_len {s : StrT} {v : Int} : (readU s v).length ≤ 4 := by
  rw [readU]
  cases decide (v = 0)
  · exact Nat.le_refl _
  · exact Nat.zero_le _
theorem readR_len {s : StrT} : (readR s).1.length ≤ 4 := by
  rw [readR]
  cases stripeOkF s
  · exact Nat.zero_le _
  · exact readU_len
theorem ofF_sh {vers : List Int} {there : List Bool} {v : Int} : ShOk (flagF (ofF vers there v)) ∧ (flagF (ofF vers there v)).length ≤ 8 := flag_sh (ofF_len _ _ _)
/-! (loop.example/keelson/impl.Stripe).shaped -/
def H47 : Hint := ⟨[], [], [], [], [], [], []⟩
theorem eq47 (s : (Int × (List Int × (List Int × List Bool)))) (r : List W) (lh : Heap) : FB E H47 Tryz.f47 [.agg [.int .i64 s.1, .ro (.int .i64) s.2.1, .ro (.int .i64) s.2.2.1, .ro .bool s.2.2.2]] [] r lh =
  (
   Br (decide (((s.2.1.length : Nat) : Int) = (8 : Int))) (
    Br (decide (((s.2.2.1.length : Nat) : Int) = (8 : Int))) (
     Ret r lh [.one (.bool (decide (((s.2.2.2.length : Nat) : Int) = (8 : Int))))] []) (
     Ret r lh [.one (.bool false)] [])) (
    Ret r lh [.one (.bool false)] [])) := by kernel_rfl
theorem c47 (s : StrT) : SC P 47 [.agg [.int .i64 s.1, .ro (.int .i64) s.2.1, .ro (.int .i64) s.2.2.1, .ro .bool s.2.2.2]] [] [.one (.bool (lensOk s))] [] := by
  have d8 : ∀ n : Nat, decide ((n : Int) = 8) = decide (n = 8) := fun n => decide_eq_decide.2 (by omega)
  refine SC_of_FB (H := H47) E_ok Tryz.func47 (by kernel_rfl) ?_
  rw [eq47]
  rw [d8, d8, d8, lensOk]
  refine Br_d (fun e => Br_d (fun e2 => ⟨by rw [decide_eq_true e, decide_eq_true e2]; rfl, rfl⟩) (fun e2 => ⟨by rw [decide_eq_false e2, Bool.false_and, Bool.and_false], rfl⟩)) (fun e => ⟨by rw [decide_eq_false e, Bool.false_and], rfl⟩)
/-! loop.example/keelson/impl.StripeOk$1 -/
def H52 : Hint := ⟨[], [], [(1, [0, 1, 2, 3, 4, 5, 6, 7, 8, 9])], [], [], [], []⟩
theorem eq52 (v : Int) (s : Int × List Int × List Int × List Bool) (r : List W) (lh : Heap) : FB E H52 Tryz.f52 [.one (.int .i64 v), .one (.ptr 0 0 0)] [.box [.int .i64 s.1, .ro (.int .i64) s.2.1, .ro (.int .i64) s.2.2.1, .ro .bool s.2.2.2]] r lh =
  (
   ∃ r0 : List Int, SC P 54 [.agg [.int .i64 s.1, .ro (.int .i64) s.2.1, .ro (.int .i64) s.2.2.1, .ro .bool s.2.2.2], .one (.int .i64 v)] [] [.one (.sl 0 none)] [.row (.int .i64) r0 .own] ∧
    ∃ r1 : Bool, SC P 53 [.one (.int .i64 s.1), .one (.ro (.int .i64) s.2.1), .one (.ro (.int .i64) r0)] [] [.one (.bool r1)] [] ∧
     Ret r lh [.one (.bool (!r1))] [.box [.int .i64 s.1, .ro (.int .i64) s.2.1, .ro (.int .i64) s.2.2.1, .ro .bool s.2.2.2]]) := by kernel_rfl
theorem c52 (v : Int) (s : StrT) (hk : inB s.1 1 2 = true) (hv : ValsP s.2.1) (h2 : s.2.2.1.length = 8) (h3 : s.2.2.2.length = 8) : SC P 52 [.one (.int .i64 v), .one (.ptr 0 0 0)] [.box [.int .i64 s.1, .ro (.int .i64) s.2.1, .ro (.int .i64) s.2.2.1, .ro .bool s.2.2.2]] [.one (.bool (!fitV s v))] [.box [.int .i64 s.1, .ro (.int .i64) s.2.1, .ro (.int .i64) s.2.2.1, .ro .bool s.2.2.2]] := by
  refine SC_of_FB (H := H52) E_ok Tryz.func52 (by kernel_rfl) ?_
  rw [eq52]
  exact ⟨_, c54 s v h3 h2, _, c53 s.1 s.2.1 _ hv ofF_sh.1 ofF_sh.2 (set_solve hk (ofF_len _ _ _) _), rfl, rfl⟩
/-! slices.IndexFunc[[]int,int] -/
def H77w : Hint := ⟨[[(0, 0, .bool), (1, 0, .bool), (7, 0, .bool), (8, 0, .bool)]], [], [], [], [], [], []⟩
def S77w_L0 (x7 : Int) (x8 : Int) (h0 : List Int) (b1_0 : Int) (b1_1 : List Int) (b1_2 : List Int) (b1_3 : List Bool) : St := ⟨[(0, .w (.one (.sl 0 none))), (1, .w (.one (.fn 52 [1]))), (7, .w (.one (.int .i64 x7))), (8, .w (.one (.int .i64 x8)))], [.row (.int .i64) h0 .own, .box [.int .i64 b1_0, .ro (.int .i64) b1_1, .ro (.int .i64) b1_2, .ro .bool b1_3]]⟩
theorem eq77w (l : List Int) (s : Int × List Int × List Int × List Bool) (r : List W) (lh : Heap) : FB E H77w Tryz.f77 [.one (.sl 0 none), .one (.fn 52 [1])] [.row (.int .i64) l .own, .box [.int .i64 s.1, .ro (.int .i64) s.2.1, .ro (.int .i64) s.2.2.1, .ro .bool s.2.2.2]] r lh =
  (
   FL E H77w Tryz.f77 2 r lh 0 (S77w_L0 ((l.length : Nat) : Int) 0 l s.1 s.2.1 s.2.2.1 s.2.2.2)) := by kernel_rfl
theorem eq77w_L0 (x7 : Int) (x8 : Int) (h0 : List Int) (b1_0 : Int) (b1_1 : List Int) (b1_2 : List Int) (b1_3 : List Bool) (r : List W) (lh : Heap) : FL1 E H77w Tryz.f77 2 r lh 0 (S77w_L0 x7 x8 h0 b1_0 b1_1 b1_2 b1_3) =
  (
   Br (decide (x8 < x7)) (
    Ck (decide ((0 : Int) ≤ x8)) (
     Ck (decide (x8 < ((h0.length : Nat) : Int))) (
      Ck (Nat.ble (x8.toNat + 1) h0.length) (
       ∃ r0 : Bool, SC P 52 [.one (.int .i64 (h0.getD x8.toNat 0)), .one (.ptr 0 0 0)] [.box [.int .i64 b1_0, .ro (.int .i64) b1_1, .ro (.int .i64) b1_2, .ro .bool b1_3]] [.one (.bool r0)] [.box [.int .i64 b1_0, .ro (.int .i64) b1_1, .ro (.int .i64) b1_2, .ro .bool b1_3]] ∧
        Br r0 (
         Ret r lh [.one (.int .i64 x8)] [.row (.int .i64) h0 .own, .box [.int .i64 b1_0, .ro (.int .i64) b1_1, .ro (.int .i64) b1_2, .ro .bool b1_3]]) (
         FL E H77w Tryz.f77 2 r lh 0 (S77w_L0 x7 (IntKind.wrap .i64 (x8 + 1)) h0 b1_0 b1_1 b1_2 b1_3)))))) (
    Ret r lh [.one (.int .i64 (-1))] [.row (.int .i64) h0 .own, .box [.int .i64 b1_0, .ro (.int .i64) b1_1, .ro (.int .i64) b1_2, .ro .bool b1_3]])) := by kernel_rfl
theorem l77w (l : List Int) (s : StrT) (hk : inB s.1 1 2 = true) (hv : ValsP s.2.1) (h2 : s.2.2.1.length = 8) (h3 : s.2.2.2.length = 8) (hl : l.length ≤ 3145728) : ∀ (n i : Nat), i + n = l.length → FL E H77w Tryz.f77 2 [.one (.int .i64 (findR (fun j => !fitV s (l.getD j 0)) (fun j => (j : Int)) (-1) i n))] [.row (.int .i64) l .own, .box [.int .i64 s.1, .ro (.int .i64) s.2.1, .ro (.int .i64) s.2.2.1, .ro .bool s.2.2.2]] 0 (S77w_L0 (l.length : Int) (i : Int) l s.1 s.2.1 s.2.2.1 s.2.2.2)
  | 0, i, h => by
    refine FL_of1 ?_
    rw [eq77w_L0]
    exact Br_f (by omega) ⟨rfl, rfl⟩
  | n + 1, i, h => by
    refine FL_of1 ?_
    rw [eq77w_L0, wS (by omega), findR]
    simp only [Int.toNat_natCast]
    refine Br_t (by omega) (Ck_d (by omega) (Ck_d (by omega) (Ck_le (by omega) ⟨_, c52 (l.getD i 0) s hk hv h2 h3, Br_b (fun h1 => ?_) (fun h1 => ?_)⟩)))
    · exact ⟨by rw [cond_t h1], rfl⟩
    · rw [cond_f h1]
      exact l77w l s hk hv h2 h3 hl n (i + 1) (by omega)
theorem c77w (l : List Int) (s : StrT) (hk : inB s.1 1 2 = true) (hv : ValsP s.2.1) (h2 : s.2.2.1.length = 8) (h3 : s.2.2.2.length = 8) (hl : l.length ≤ 3145728) : SC P 77 [.one (.sl 0 none), .one (.fn 52 [1])] [.row (.int .i64) l .own, .box [.int .i64 s.1, .ro (.int .i64) s.2.1, .ro (.int .i64) s.2.2.1, .ro .bool s.2.2.2]] [.one (.int .i64 (findR (fun j => !fitV s (l.getD j 0)) (fun j => (j : Int)) (-1) 0 l.length))] [.row (.int .i64) l .own, .box [.int .i64 s.1, .ro (.int .i64) s.2.1, .ro (.int .i64) s.2.2.1, .ro .bool s.2.2.2]] := by
  refine SC_of_FB (H := H77w) E_ok Tryz.func77 (by kernel_rfl) ?_
  rw [eq77w]
  exact l77w l s hk hv h2 h3 hl l.length 0 (by omega)
/-! slices.ContainsFunc[[]int,int] -/
def H50w : Hint := ⟨[], [], [], [], [], [], []⟩
theorem eq50w (l : List Int) (s : Int × List Int × List Int × List Bool) (r : List W) (lh : Heap) : FB E H50w Tryz.f50 [.one (.sl 0 none), .one (.fn 52 [1])] [.row (.int .i64) l .own, .box [.int .i64 s.1, .ro (.int .i64) s.2.1, .ro (.int .i64) s.2.2.1, .ro .bool s.2.2.2]] r lh =
  (
   ∃ r0 : Int, SC P 77 [.one (.sl 0 none), .one (.fn 52 [1])] [.row (.int .i64) l .own, .box [.int .i64 s.1, .ro (.int .i64) s.2.1, .ro (.int .i64) s.2.2.1, .ro .bool s.2.2.2]] [.one (.int .i64 r0)] [.row (.int .i64) l .own, .box [.int .i64 s.1, .ro (.int .i64) s.2.1, .ro (.int .i64) s.2.2.1, .ro .bool s.2.2.2]] ∧
    Ret r lh [.one (.bool (decide ((0 : Int) ≤ r0)))] [.row (.int .i64) l .own, .box [.int .i64 s.1, .ro (.int .i64) s.2.1, .ro (.int .i64) s.2.2.1, .ro .bool s.2.2.2]]) := by kernel_rfl
theorem c50w (l : List Int) (s : StrT) (hk : inB s.1 1 2 = true) (hv : ValsP s.2.1) (h2 : s.2.2.1.length = 8) (h3 : s.2.2.2.length = 8) (hl : l.length ≤ 3145728) : SC P 50 [.one (.sl 0 none), .one (.fn 52 [1])] [.row (.int .i64) l .own, .box [.int .i64 s.1, .ro (.int .i64) s.2.1, .ro (.int .i64) s.2.2.1, .ro .bool s.2.2.2]] [.one (.bool (l.any fun v => !fitV s v))] [.row (.int .i64) l .own, .box [.int .i64 s.1, .ro (.int .i64) s.2.1, .ro (.int .i64) s.2.2.1, .ro .bool s.2.2.2]] := by
  refine SC_of_FB (H := H50w) E_ok Tryz.func50 (by kernel_rfl) ?_
  rw [eq50w]
  exact ⟨_, c77w l s hk hv h2 h3 hl, congrArg (fun b => [W.one (.bool b)]) (findR_any (fun v => !fitV s v) l 0), rfl⟩
/-! loop.example/keelson/impl.StripeOk -/
def H27 : Hint := ⟨[[(1, 0, .bool), (15, 0, .bool), (16, 0, .bool), (17, 0, .bool)]], [], [], [], [], [], []⟩
def S27_L0 (x15 : List Bool) (x16 : Int) (x17 : Int) (b0_0 : Int) (b0_1 : List Int) (b0_2 : List Int) (b0_3 : List Bool) : St := ⟨[(1, .w (.one (.ptr 0 0 0))), (15, .w (.one (.ro .bool x15))), (16, .w (.one (.int .i64 x16))), (17, .w (.one (.int .i64 x17)))], [.box [.int .i64 b0_0, .ro (.int .i64) b0_1, .ro (.int .i64) b0_2, .ro .bool b0_3]]⟩
theorem eq27 (s : (Int × (List Int × (List Int × List Bool)))) (r : List W) (lh : Heap) : FB E H27 Tryz.f27 [.agg [.int .i64 s.1, .ro (.int .i64) s.2.1, .ro (.int .i64) s.2.2.1, .ro .bool s.2.2.2]] [] r lh =
  (
   ∃ r0 : Bool, SC P 38 [.one (.int .i64 s.1)] [] [.one (.bool r0)] [] ∧
    Br (!r0) (
     Ret r lh [.one (.bool false)] []) (
     ∃ r1 : Bool, SC P 47 [.agg [.int .i64 s.1, .ro (.int .i64) s.2.1, .ro (.int .i64) s.2.2.1, .ro .bool s.2.2.2]] [] [.one (.bool r1)] [] ∧
      Br (!r1) (
       Ret r lh [.one (.bool false)] []) (
       FL E H27 Tryz.f27 0 r lh 0 (S27_L0 s.2.2.2 ((s.2.2.2.length : Nat) : Int) 0 s.1 s.2.1 s.2.2.1 s.2.2.2)))) := by kernel_rfl
theorem eq27_L0 (x15 : List Bool) (x16 : Int) (x17 : Int) (b0_0 : Int) (b0_1 : List Int) (b0_2 : List Int) (b0_3 : List Bool) (r : List W) (lh : Heap) : FL1 E H27 Tryz.f27 0 r lh 0 (S27_L0 x15 x16 x17 b0_0 b0_1 b0_2 b0_3) =
  (
   Br (decide (x17 < x16)) (
    Ck (decide ((0 : Int) ≤ x17)) (
     Ck (decide (x17 < ((x15.length : Nat) : Int))) (
      Br (x15.getD x17.toNat false) (
       Ck (decide ((0 : Int) ≤ x17)) (
        Ck (decide (x17 < ((b0_1.length : Nat) : Int))) (
         ∃ r0 : Bool, SC P 48 [.one (.int .i64 (b0_1.getD x17.toNat 0))] [] [.one (.bool r0)] [] ∧
          Br (!r0) (
           Ret r lh [.one (.bool false)] []) (
           Ck (decide ((0 : Int) ≤ x17)) (
            Ck (decide (x17 < ((b0_2.length : Nat) : Int))) (
             ∃ r1 : Bool, SC P 49 [.one (.int .i64 (b0_2.getD x17.toNat 0))] [] [.one (.bool r1)] [] ∧
              Br (!r1) (
               Ret r lh [.one (.bool false)] []) (
               Br (!(x15.getD x17.toNat false)) (
                Ck (decide ((0 : Int) ≤ x17)) (
                 Ck (decide (x17 < ((b0_1.length : Nat) : Int))) (
                  Br (!(decide ((b0_1.getD x17.toNat 0) = (0 : Int)))) (
                   Ret r lh [.one (.bool false)] []) (
                   Ck (decide ((0 : Int) ≤ x17)) (
                    Ck (decide (x17 < ((b0_2.length : Nat) : Int))) (
                     Br (!(decide ((b0_2.getD x17.toNat 0) = (0 : Int)))) (
                      Ret r lh [.one (.bool false)] []) (
                      FL E H27 Tryz.f27 0 r lh 0 (S27_L0 x15 x16 (IntKind.wrap .i64 (x17 + 1)) b0_0 b0_1 b0_2 b0_3)))))))) (
                FL E H27 Tryz.f27 0 r lh 0 (S27_L0 x15 x16 (IntKind.wrap .i64 (x17 + 1)) b0_0 b0_1 b0_2 b0_3))))))))) (
       Br (!(x15.getD x17.toNat false)) (
        Ck (decide ((0 : Int) ≤ x17)) (
         Ck (decide (x17 < ((b0_1.length : Nat) : Int))) (
          Br (!(decide ((b0_1.getD x17.toNat 0) = (0 : Int)))) (
           Ret r lh [.one (.bool false)] []) (
           Ck (decide ((0 : Int) ≤ x17)) (
            Ck (decide (x17 < ((b0_2.length : Nat) : Int))) (
             Br (!(decide ((b0_2.getD x17.toNat 0) = (0 : Int)))) (
              Ret r lh [.one (.bool false)] []) (
              FL E H27 Tryz.f27 0 r lh 0 (S27_L0 x15 x16 (IntKind.wrap .i64 (x17 + 1)) b0_0 b0_1 b0_2 b0_3)))))))) (
        FL E H27 Tryz.f27 0 r lh 0 (S27_L0 x15 x16 (IntKind.wrap .i64 (x17 + 1)) b0_0 b0_1 b0_2 b0_3)))))) (
    ∃ r2 : List Int, SC P 51 [.agg [.int .i64 b0_0, .ro (.int .i64) b0_1, .ro (.int .i64) b0_2, .ro .bool b0_3]] [] [.one (.sl 0 none)] [.row (.int .i64) r2 .own] ∧
     ∃ r3 : Bool, SC P 50 [.one (.sl 0 none), .one (.fn 52 [1])] [.row (.int .i64) r2 .own, .box [.int .i64 b0_0, .ro (.int .i64) b0_1, .ro (.int .i64) b0_2, .ro .bool b0_3]] [.one (.bool r3)] [.row (.int .i64) r2 .own, .box [.int .i64 b0_0, .ro (.int .i64) b0_1, .ro (.int .i64) b0_2, .ro .bool b0_3]] ∧
      Ret r lh [.one (.bool (!r3))] [])) := by kernel_rfl
theorem l27 (s : StrT) (hk : inB s.1 1 2 = true) (h1 : s.2.1.length = 8) (h2 : s.2.2.1.length = 8) (h3 : s.2.2.2.length = 8) : ∀ (n i : Nat), i + n = 8 → (∀ j, j < i → strAt s j = true) → FL E H27 Tryz.f27 0 [.one (.bool (allR (strAt s) i n && allR (fitAt s) 0 8))] [] 0 (S27_L0 s.2.2.2 (s.2.2.2.length : Int) (i : Int) s.1 s.2.1 s.2.2.1 s.2.2.2)
  | 0, i, h, H => by
    have hv : ValsP s.2.1 := at_vals h1 fun j _ hj => H j (by omega)
    obtain ⟨L, hL, hl, sv⟩ := c51 s h3 h2
    refine FL_of1 ?_
    rw [eq27_L0]
    refine Br_f (by omega) ⟨L, sv, _, c50w L s hk hv h2 h3 hl, ?_, rfl⟩
    rw [fits_any hL]; rfl
  | n + 1, i, h, H => by
    have next : strAt s i = true → FL E H27 Tryz.f27 0 [.one (.bool (allR (strAt s) i (n + 1) && allR (fitAt s) 0 8))] [] 0 (S27_L0 s.2.2.2 (s.2.2.2.length : Int) ((i + 1 : Nat) : Int) s.1 s.2.1 s.2.2.1 s.2.2.2) := fun e => by
      rw [allR_t e]
      exact l27 s hk h1 h2 h3 n (i + 1) (by omega) fun j hj => by
        rcases Nat.lt_succ_iff_lt_or_eq.1 hj with g | rfl
        · exact H j g
        · exact e
    have stop : strAt s i = false → [W.one (.bool false)] = [W.one (.bool (allR (strAt s) i (n + 1) && allR (fitAt s) 0 8))] ∧ ([] : Heap) = [] := fun e => ⟨by rw [allR_f e, Bool.false_and], rfl⟩
    refine FL_of1 ?_
    rw [eq27_L0, wS (i := i) (by omega)]
    simp only [Int.toNat_natCast]
    refine Br_t (by omega) (Ck_d (by omega) (Ck_d (by omega) (Br_b (fun e => ?_) (fun e => ?_))))
    · refine Ck_d (by omega) (Ck_d (by omega) ⟨_, c48 _, Br_nb (fun e2 => stop (by rw [strAt, e, e2]; rfl)) (fun e2 => Ck_d (by omega) (Ck_d (by omega) ⟨_, c49 _, Br_nb (fun e3 => stop (by rw [strAt, e, e2, e3]; rfl)) (fun e3 => ?_)⟩))⟩)
      rw [e]
      exact next (by rw [strAt, e, e2, e3]; rfl)
    · rw [e, Bool.not_false]
      refine BrT ?_
      exact Ck_d (by omega) (Ck_d (by omega) (Br_nd (fun e2 => stop (by rw [strAt, e, decide_eq_false e2]; rfl)) (fun e2 => Ck_d (by omega) (Ck_d (by omega) (Br_nd (fun e3 => stop (by rw [strAt, e, cond_false, decide_eq_false e3, Bool.and_false])) (fun e3 => next (by rw [strAt, e, decide_eq_true e2, decide_eq_true e3]; rfl)))))))
theorem c27 (s : StrT) : SC P 27 [.agg [.int .i64 s.1, .ro (.int .i64) s.2.1, .ro (.int .i64) s.2.2.1, .ro .bool s.2.2.2]] [] [.one (.bool (stripeOkF s))] [] := by
  refine SC_of_FB (H := H27) E_ok Tryz.func27 (by kernel_rfl) ?_
  rw [eq27]
  refine ⟨_, c38 s.1, Br_nb (fun e => ⟨by rw [stripeOkF, e]; rfl, rfl⟩) (fun e => ⟨_, c47 s, Br_nb (fun e2 => ⟨by rw [stripeOkF, e2, Bool.and_false]; rfl, rfl⟩) (fun e2 => ?_)⟩)⟩
  obtain ⟨h1, h2, h3⟩ := lens_iff.1 e2
  rw [stripeOkF, e, e2]
  exact l27 s e h1 h2 h3 8 0 rfl (fun j hj => absurd hj (by omega))
/-! loop.example/keelson/spec.l21Of -/
def H37 : Hint := ⟨[[(1, 0, .bool), (2, 0, .bool), (5, 0, .bool), (6, 0, .bool)]], [], [], [], [], [], []⟩
def S37_L0 (vers1 : Int) (i6 : Int) (b0_0 : Int) (b0_1 : List Int) (b0_2 : List Int) (b0_3 : List Bool) (h1 : List Bool) : St := ⟨[(1, .w (.one (.int .i64 vers1))), (2, .w (.one (.ptr 0 0 0))), (5, .w (.one (.sl 1 none))), (6, .w (.one (.int .i64 i6)))], [.box [.int .i64 b0_0, .ro (.int .i64) b0_1, .ro (.int .i64) b0_2, .ro .bool b0_3], .row .bool h1 .own]⟩
theorem eq37 (s : (Int × (List Int × (List Int × List Bool)))) (vers : Int) (r : List W) (lh : Heap) : FB E H37 Tryz.f37 [.agg [.int .i64 s.1, .ro (.int .i64) s.2.1, .ro (.int .i64) s.2.2.1, .ro .bool s.2.2.2], .one (.int .i64 vers)] [] r lh =
  (
   FL E H37 Tryz.f37 0 r lh 0 (S37_L0 vers 0 s.1 s.2.1 s.2.2.1 s.2.2.2 [])) := by kernel_rfl
theorem eq37_L0 (vers1 : Int) (i6 : Int) (b0_0 : Int) (b0_1 : List Int) (b0_2 : List Int) (b0_3 : List Bool) (h1 : List Bool) (r : List W) (lh : Heap) : FL1 E H37 Tryz.f37 0 r lh 0 (S37_L0 vers1 i6 b0_0 b0_1 b0_2 b0_3 h1) =
  (
   Br (decide (i6 < ((b0_3.length : Nat) : Int))) (
    Ck (decide ((0 : Int) ≤ i6)) (
     Ck (decide (i6 < ((b0_3.length : Nat) : Int))) (
      Br (b0_3.getD i6.toNat false) (
       Ck (decide ((0 : Int) ≤ i6)) (
        Ck (decide (i6 < ((b0_2.length : Nat) : Int))) (
         Ck (Nat.ble ((h1.length + 1) * 1) roomy) (
          FL E H37 Tryz.f37 0 r lh 0 (S37_L0 vers1 (IntKind.wrap .i64 (i6 + 1)) b0_0 b0_1 b0_2 b0_3 (h1 ++ [(decide ((b0_2.getD i6.toNat 0) = vers1))])))))) (
       Ck (Nat.ble ((h1.length + 1) * 1) roomy) (
        FL E H37 Tryz.f37 0 r lh 0 (S37_L0 vers1 (IntKind.wrap .i64 (i6 + 1)) b0_0 b0_1 b0_2 b0_3 (h1 ++ [false]))))))) (
    Ret r lh [.one (.sl 0 none)] [.row .bool h1 .own])) := by kernel_rfl
theorem l37 (s : StrT) (v : Int) (h2 : s.2.2.1.length = 8) (h3 : s.2.2.2.length = 8) : ∀ (n i : Nat) (out : List Bool), i + n = 8 → out.length = i → out ++ mapR (fun i => s.2.2.2.getD i false && decide (s.2.2.1.getD i 0 = v)) i n = ofF s.2.2.1 s.2.2.2 v →
    FL E H37 Tryz.f37 0 [.one (.sl 0 none)] [.row .bool (ofF s.2.2.1 s.2.2.2 v) .own] 0 (S37_L0 v (i : Int) s.1 s.2.1 s.2.2.1 s.2.2.2 out)
  | 0, i, out, h, ho, e => by
    rw [mapR, List.append_nil] at e
    subst e
    refine FL_of1 ?_
    rw [eq37_L0]
    exact Br_f (by omega) ⟨rfl, rfl⟩
  | n + 1, i, out, h, ho, e => by
    rw [mapR] at e
    refine FL_of1 ?_
    rw [eq37_L0, wS (i := i) (by omega)]
    simp only [Int.toNat_natCast]
    refine Br_t (by omega) (Ck_d (by omega) (Ck_d (by omega) (Br_b (fun e2 => ?_) (fun e2 => ?_))))
    · refine Ck_d (by omega) (Ck_d (by omega) (Ck_room (by omega) (l37 s v h2 h3 n (i + 1) _ (by omega) (by simp; omega) ?_)))
      rw [e2, Bool.true_and] at e
      rw [List.append_assoc]; exact e
    · refine Ck_room (by omega) (l37 s v h2 h3 n (i + 1) _ (by omega) (by simp; omega) ?_)
      rw [e2, Bool.false_and] at e
      rw [List.append_assoc]; exact e
theorem c37 (s : StrT) (v : Int) (h2 : s.2.2.1.length = 8) (h3 : s.2.2.2.length = 8) : SC P 37 [.agg [.int .i64 s.1, .ro (.int .i64) s.2.1, .ro (.int .i64) s.2.2.1, .ro .bool s.2.2.2], .one (.int .i64 v)] [] [.one (.sl 0 none)] [.row .bool (ofF s.2.2.1 s.2.2.2 v) .own] := by
  refine SC_of_FB (H := H37) E_ok Tryz.func37 (by kernel_rfl) ?_
  rw [eq37]
  exact l37 s v h2 h3 8 0 [] rfl rfl rfl
/-! loop.example/keelson/spec.StripeOk -/
def H17 : Hint := ⟨[[(1, 0, .bool), (3, 0, .bool)]], [], [(6, [0, 1, 2, 3, 4, 5, 6, 7, 8, 9, 10, 11, 12, 13, 14, 15, 16, 17, 18, 19, 20, 21, 22, 23, 24, 25, 26, 27, 28, 29, 30, 31, 32, 33, 34, 35, 36, 37, 38, 39, 40, 41, 42, 43, 44, 45, 46, 47, 48, 49, 50, 51, 52])], [], [], [], []⟩
def S17_L0 (i3 : Int) (b0_0 : Int) (b0_1 : List Int) (b0_2 : List Int) (b0_3 : List Bool) : St := ⟨[(1, .w (.one (.ptr 0 0 0))), (3, .w (.one (.int .i64 i3)))], [.box [.int .i64 b0_0, .ro (.int .i64) b0_1, .ro (.int .i64) b0_2, .ro .bool b0_3]]⟩
theorem eq17 (s : (Int × (List Int × (List Int × List Bool)))) (r : List W) (lh : Heap) : FB E H17 Tryz.f17 [.agg [.int .i64 s.1, .ro (.int .i64) s.2.1, .ro (.int .i64) s.2.2.1, .ro .bool s.2.2.2]] [] r lh =
  (
   ∃ r0 : Bool, SC P 33 [.one (.int .i64 s.1)] [] [.one (.bool r0)] [] ∧
    Br (!r0) (
     Ret r lh [.one (.bool false)] []) (
     ∃ r1 : Bool, SC P 34 [.one (.ro (.int .i64) s.2.1), .one (.ro .bool s.2.2.2)] [] [.one (.bool r1)] [] ∧
      Br (!r1) (
       Ret r lh [.one (.bool false)] []) (
       Br (!(decide (((s.2.2.1.length : Nat) : Int) = (8 : Int)))) (
        Ret r lh [.one (.bool false)] []) (
        FL E H17 Tryz.f17 0 r lh 0 (S17_L0 0 s.1 s.2.1 s.2.2.1 s.2.2.2))))) := by kernel_rfl
theorem eq17_L0 (i3 : Int) (b0_0 : Int) (b0_1 : List Int) (b0_2 : List Int) (b0_3 : List Bool) (r : List W) (lh : Heap) : FL1 E H17 Tryz.f17 0 r lh 0 (S17_L0 i3 b0_0 b0_1 b0_2 b0_3) =
  (
   Br (decide (i3 < (8 : Int))) (
    Ck (decide ((0 : Int) ≤ i3)) (
     Ck (decide (i3 < ((b0_3.length : Nat) : Int))) (
      Br (!(b0_3.getD i3.toNat false)) (
       Ck (decide ((0 : Int) ≤ i3)) (
        Ck (decide (i3 < ((b0_1.length : Nat) : Int))) (
         Br (!(decide ((b0_1.getD i3.toNat 0) = (0 : Int)))) (
          Ret r lh [.one (.bool false)] []) (
          Ck (decide ((0 : Int) ≤ i3)) (
           Ck (decide (i3 < ((b0_2.length : Nat) : Int))) (
            Br (!(decide ((b0_2.getD i3.toNat 0) = (0 : Int)))) (
             Ret r lh [.one (.bool false)] []) (
             Ck (decide ((0 : Int) ≤ i3)) (
              Ck (decide (i3 < ((b0_3.length : Nat) : Int))) (
               Br (b0_3.getD i3.toNat false) (
                Ck (decide ((0 : Int) ≤ i3)) (
                 Ck (decide (i3 < ((b0_2.length : Nat) : Int))) (
                  ∃ r0 : Bool, SC P 35 [.one (.int .i64 (b0_2.getD i3.toNat 0)), .one (.int .i64 1), .one (.int .i64 99)] [] [.one (.bool r0)] [] ∧
                   Br (!r0) (
                    Ret r lh [.one (.bool false)] []) (
                    Ck (decide ((0 : Int) ≤ i3)) (
                     Ck (decide (i3 < ((b0_2.length : Nat) : Int))) (
                      ∃ r1 : List Bool, SC P 37 [.agg [.int .i64 b0_0, .ro (.int .i64) b0_1, .ro (.int .i64) b0_2, .ro .bool b0_3], .one (.int .i64 (b0_2.getD i3.toNat 0))] [] [.one (.sl 0 none)] [.row .bool r1 .own] ∧
                       ∃ r2 : Bool, SC P 36 [.one (.int .i64 b0_0), .one (.ro (.int .i64) b0_1), .one (.ro .bool r1)] [] [.one (.bool r2)] [] ∧
                        Br (!r2) (
                         Ret r lh [.one (.bool false)] []) (
                         FL E H17 Tryz.f17 0 r lh 0 (S17_L0 (IntKind.wrap .i64 (i3 + 1)) b0_0 b0_1 b0_2 b0_3)))))))) (
                FL E H17 Tryz.f17 0 r lh 0 (S17_L0 (IntKind.wrap .i64 (i3 + 1)) b0_0 b0_1 b0_2 b0_3))))))))))) (
       Ck (decide ((0 : Int) ≤ i3)) (
        Ck (decide (i3 < ((b0_3.length : Nat) : Int))) (
         Br (b0_3.getD i3.toNat false) (
          Ck (decide ((0 : Int) ≤ i3)) (
           Ck (decide (i3 < ((b0_2.length : Nat) : Int))) (
            ∃ r3 : Bool, SC P 35 [.one (.int .i64 (b0_2.getD i3.toNat 0)), .one (.int .i64 1), .one (.int .i64 99)] [] [.one (.bool r3)] [] ∧
             Br (!r3) (
              Ret r lh [.one (.bool false)] []) (
              Ck (decide ((0 : Int) ≤ i3)) (
               Ck (decide (i3 < ((b0_2.length : Nat) : Int))) (
                ∃ r4 : List Bool, SC P 37 [.agg [.int .i64 b0_0, .ro (.int .i64) b0_1, .ro (.int .i64) b0_2, .ro .bool b0_3], .one (.int .i64 (b0_2.getD i3.toNat 0))] [] [.one (.sl 0 none)] [.row .bool r4 .own] ∧
                 ∃ r5 : Bool, SC P 36 [.one (.int .i64 b0_0), .one (.ro (.int .i64) b0_1), .one (.ro .bool r4)] [] [.one (.bool r5)] [] ∧
                  Br (!r5) (
                   Ret r lh [.one (.bool false)] []) (
                   FL E H17 Tryz.f17 0 r lh 0 (S17_L0 (IntKind.wrap .i64 (i3 + 1)) b0_0 b0_1 b0_2 b0_3)))))))) (
          FL E H17 Tryz.f17 0 r lh 0 (S17_L0 (IntKind.wrap .i64 (i3 + 1)) b0_0 b0_1 b0_2 b0_3)))))))) (
    Ret r lh [.one (.bool true)] [])) := by kernel_rfl
theorem l17 (s : StrT) (hk : inB s.1 1 2 = true) (hv : ValsP s.2.1) (h2 : s.2.2.1.length = 8) (h3 : s.2.2.2.length = 8) : ∀ (n i : Nat), i + n = 8 → FL E H17 Tryz.f17 0 [.one (.bool (allR (speAt s) i n))] [] 0 (S17_L0 (i : Int) s.1 s.2.1 s.2.2.1 s.2.2.2)
  | 0, i, h => by
    refine FL_of1 ?_
    rw [eq17_L0]
    exact Br_f (by omega) ⟨rfl, rfl⟩
  | n + 1, i, h => by
    have h1 := hv.1
    have next : speAt s i = true → FL E H17 Tryz.f17 0 [.one (.bool (allR (speAt s) i (n + 1)))] [] 0 (S17_L0 ((i + 1 : Nat) : Int) s.1 s.2.1 s.2.2.1 s.2.2.2) := fun e => by
      rw [allR_t e]
      exact l17 s hk hv h2 h3 n (i + 1) (by omega)
    have stop : speAt s i = false → [W.one (.bool false)] = [W.one (.bool (allR (speAt s) i (n + 1)))] ∧ ([] : Heap) = [] := fun e => ⟨by rw [allR_f e], rfl⟩
    have so := c37 s (s.2.2.1.getD i 0) h2 h3
    have sf := c36 s.1 hk s.2.1 hv (ofF s.2.2.1 s.2.2.2 (s.2.2.1.getD i 0)) (ofF_len _ _ _)
    refine FL_of1 ?_
    rw [eq17_L0, wS (i := i) (by omega)]
    simp only [Int.toNat_natCast]
    refine Br_t (by omega) (Ck_d (by omega) (Ck_d (by omega) (Br_nb (fun e => ?_) (fun e => ?_))))
    · refine Ck_d (by omega) (Ck_d (by omega) (Br_nd (fun e2 => stop (by rw [speAt, e, decide_eq_false e2]; rfl)) (fun e2 => Ck_d (by omega) (Ck_d (by omega) (Br_nd (fun e3 => stop (by rw [speAt, e, cond_false, decide_eq_false e3, Bool.and_false])) (fun e3 => Ck_d (by omega) (Ck_d (by omega) ?_)))))))
      rw [e]
      exact next (by rw [speAt, e, decide_eq_true e2, decide_eq_true e3]; rfl)
    · refine Ck_d (by omega) (Ck_d (by omega) ?_)
      rw [e]
      refine BrT ?_
      exact Ck_d (by omega) (Ck_d (by omega) ⟨_, c35 _ _ _, Br_nb (fun e2 => stop (by rw [speAt, e, e2]; rfl)) (fun e2 => Ck_d (by omega) (Ck_d (by omega) ⟨_, so, _, sf, Br_nb (fun e3 => stop (by rw [speAt, e, e2, fitV, e3]; rfl)) (fun e3 => next (by rw [speAt, e, e2, fitV, e3]; rfl))⟩))⟩)
theorem c17 (s : StrT) (hl : s.2.1.length ≤ 1048576) : SC P 17 [.agg [.int .i64 s.1, .ro (.int .i64) s.2.1, .ro (.int .i64) s.2.2.1, .ro .bool s.2.2.2]] [] [.one (.bool (stripeOkF s))] [] := by
  have d8 : ∀ n : Nat, decide ((n : Int) = 8) = decide (n = 8) := fun n => decide_eq_decide.2 (by omega)
  refine SC_of_FB (H := H17) E_ok Tryz.func17 (by kernel_rfl) ?_
  rw [eq17]
  rw [d8, ← specOk_eq]
  refine ⟨_, c33 s.1, Br_nb (fun e => ⟨by rw [e]; rfl, rfl⟩) (fun e => ⟨_, c34 s.2.1 s.2.2.2 hl, Br_nb (fun e2 => ⟨by rw [e2, Bool.and_false]; rfl, rfl⟩) (fun e2 => Br_nd (fun e3 => ⟨by rw [decide_eq_false e3, Bool.false_and, Bool.and_false], rfl⟩) (fun e3 => ?_))⟩)⟩
  rw [e, e2, decide_eq_true e3]
  rw [Bool.and_eq_true, decide_eq_true_iff] at e2
  exact l17 s e (vals_p e2.1) e3 e2.2 8 0 rfl
/-! loop.example/keelson/spec.l21Top -/
def H44 : Hint := ⟨[[(1, 0, .bool), (3, 0, .bool), (4, 0, .bool)]], [], [], [], [], [], []⟩
def S44_L0 (n3 : Int) (i4 : Int) (b0_0 : Int) (b0_1 : List Int) (b0_2 : List Int) (b0_3 : List Bool) : St := ⟨[(1, .w (.one (.ptr 0 0 0))), (3, .w (.one (.int .i64 n3))), (4, .w (.one (.int .i64 i4)))], [.box [.int .i64 b0_0, .ro (.int .i64) b0_1, .ro (.int .i64) b0_2, .ro .bool b0_3]]⟩
theorem eq44 (s : (Int × (List Int × (List Int × List Bool)))) (r : List W) (lh : Heap) : FB E H44 Tryz.f44 [.agg [.int .i64 s.1, .ro (.int .i64) s.2.1, .ro (.int .i64) s.2.2.1, .ro .bool s.2.2.2]] [] r lh =
  (
   FL E H44 Tryz.f44 0 r lh 0 (S44_L0 0 0 s.1 s.2.1 s.2.2.1 s.2.2.2)) := by kernel_rfl
theorem eq44_L0 (n3 : Int) (i4 : Int) (b0_0 : Int) (b0_1 : List Int) (b0_2 : List Int) (b0_3 : List Bool) (r : List W) (lh : Heap) : FL1 E H44 Tryz.f44 0 r lh 0 (S44_L0 n3 i4 b0_0 b0_1 b0_2 b0_3) =
  (
   Br (decide (i4 < ((b0_2.length : Nat) : Int))) (
    Ck (decide ((0 : Int) ≤ i4)) (
     Ck (decide (i4 < ((b0_2.length : Nat) : Int))) (
      FL E H44 Tryz.f44 0 r lh 0 (S44_L0 (max n3 (b0_2.getD i4.toNat 0)) (IntKind.wrap .i64 (i4 + 1)) b0_0 b0_1 b0_2 b0_3)))) (
    Ret r lh [.one (.int .i64 n3)] [])) := by kernel_rfl
theorem l44 (s : StrT) (h2 : s.2.2.1.length ≤ 1048576) : ∀ (n i : Nat) (acc : Int), i + n = s.2.2.1.length → FL E H44 Tryz.f44 0 [.one (.int .i64 ((s.2.2.1.drop i).foldl max acc))] [] 0 (S44_L0 acc (i : Int) s.1 s.2.1 s.2.2.1 s.2.2.2)
  | 0, i, acc, h => by
    refine FL_of1 ?_
    rw [eq44_L0, List.drop_eq_nil_of_le (by omega)]
    exact Br_f (by omega) ⟨rfl, rfl⟩
  | n + 1, i, acc, h => by
    have hi : i < s.2.2.1.length := by omega
    have hdr : s.2.2.1.drop i = s.2.2.1.getD i 0 :: s.2.2.1.drop (i + 1) := by rw [getD_eq hi]; exact drop_cons hi
    refine FL_of1 ?_
    rw [eq44_L0, wS (i := i) (by omega), hdr, List.foldl_cons]
    simp only [Int.toNat_natCast]
    exact Br_t (by omega) (Ck_d (by omega) (Ck_d (by omega) (l44 s h2 n (i + 1) _ (by omega))))
theorem c44 (s : StrT) (h2 : s.2.2.1.length ≤ 1048576) : SC P 44 [.agg [.int .i64 s.1, .ro (.int .i64) s.2.1, .ro (.int .i64) s.2.2.1, .ro .bool s.2.2.2]] [] [.one (.int .i64 (topF s.2.2.1))] [] := by
  refine SC_of_FB (H := H44) E_ok Tryz.func44 (by kernel_rfl) ?_
  rw [eq44]
  exact l44 s h2 s.2.2.1.length 0 0 (Nat.zero_add _)

theorem StrOk.oks {s : StrT} (h : StrOk s) : ∀ i, i < 8 → (s.2.2.2.getD i false = true → 1 ≤ s.2.2.1.getD i 0) ∧ (s.2.2.2.getD i false = false → s.2.2.1.getD i 0 = 0) := fun i hi => ⟨fun e => (h.yes i hi e).1, fun e => (h.no i hi e).2⟩
/-! (loop.example/keelson/impl.Stripe).top -/
def H43 : Hint := ⟨[[(6, 0, .bool), (7, 0, .bool), (8, 0, .bool)]], [], [], [], [], [], []⟩
def S43_L0 (x7 : Int) (x8 : Int) (h0 : List Int) : St := ⟨[(6, .w (.one (.sl 0 none))), (7, .w (.one (.int .i64 x7))), (8, .w (.one (.int .i64 x8)))], [.row (.int .i64) h0 .own]⟩
theorem eq43 (s : (Int × (List Int × (List Int × List Bool)))) (r : List W) (lh : Heap) : FB E H43 Tryz.f43 [.agg [.int .i64 s.1, .ro (.int .i64) s.2.1, .ro (.int .i64) s.2.2.1, .ro .bool s.2.2.2]] [] r lh =
  (
   ∃ r0 : List Int, SC P 51 [.agg [.int .i64 s.1, .ro (.int .i64) s.2.1, .ro (.int .i64) s.2.2.1, .ro .bool s.2.2.2]] [] [.one (.sl 0 none)] [.row (.int .i64) r0 .own] ∧
    FL E H43 Tryz.f43 0 r lh 0 (S43_L0 ((r0.length : Nat) : Int) 0 r0)) := by kernel_rfl
theorem eq43_L0 (x7 : Int) (x8 : Int) (h0 : List Int) (r : List W) (lh : Heap) : FL1 E H43 Tryz.f43 0 r lh 0 (S43_L0 x7 x8 h0) =
  (
   Br (decide (x8 < x7)) (
    Ck (decide ((0 : Int) ≤ x8)) (
     Ck (decide (x8 < ((h0.length : Nat) : Int))) (
      Ck (Nat.ble (x8.toNat + 1) h0.length) (
       Ret r lh [.one (.int .i64 (h0.getD x8.toNat 0))] [])))) (
    Ret r lh [.one (.int .i64 0)] [])) := by kernel_rfl
theorem c43 (s : StrT) (hs : StrOk s) : SC P 43 [.agg [.int .i64 s.1, .ro (.int .i64) s.2.1, .ro (.int .i64) s.2.2.1, .ro .bool s.2.2.2]] [] [.one (.int .i64 (topF s.2.2.1))] [] := by
  obtain ⟨L, hL, hl, sv⟩ := c51 s hs.l3 hs.l2
  have ht := hL.top hs.l2 hs.oks
  refine SC_of_FB (H := H43) E_ok Tryz.func43 (by kernel_rfl) ?_
  rw [eq43]
  refine ⟨L, sv, FL_of1 ?_⟩
  rw [eq43_L0, ← ht]
  cases L with
  | nil => exact Br_f (by simp) ⟨rfl, rfl⟩
  | cons x L => exact Br_t (by rw [List.length_cons]; omega) (Ck_d (by omega) (Ck_d (by rw [List.length_cons]; omega) (Ck_le (by simp) ⟨rfl, rfl⟩)))
/-! loop.example/keelson/impl.StripeTop -/
def H21 : Hint := ⟨[], [], [], [], [], [], []⟩
theorem eq21 (s : (Int × (List Int × (List Int × List Bool)))) (r : List W) (lh : Heap) : FB E H21 Tryz.f21 [.agg [.int .i64 s.1, .ro (.int .i64) s.2.1, .ro (.int .i64) s.2.2.1, .ro .bool s.2.2.2]] [] r lh =
  (
   ∃ r0 : Bool, SC P 27 [.agg [.int .i64 s.1, .ro (.int .i64) s.2.1, .ro (.int .i64) s.2.2.1, .ro .bool s.2.2.2]] [] [.one (.bool r0)] [] ∧
    Br (!r0) (
     Ret r lh [.one (.int .i64 (-1))] []) (
     ∃ r1 : Int, SC P 43 [.agg [.int .i64 s.1, .ro (.int .i64) s.2.1, .ro (.int .i64) s.2.2.1, .ro .bool s.2.2.2]] [] [.one (.int .i64 r1)] [] ∧
      Ret r lh [.one (.int .i64 r1)] [])) := by kernel_rfl
theorem c21 (s : StrT) : SC P 21 [.agg [.int .i64 s.1, .ro (.int .i64) s.2.1, .ro (.int .i64) s.2.2.1, .ro .bool s.2.2.2]] [] [.one (.int .i64 (topV s))] [] := by
  refine SC_of_FB (H := H21) E_ok Tryz.func21 (by kernel_rfl) ?_
  rw [eq21]
  exact ⟨_, c27 s, Br_nb (fun e => ⟨by rw [topV, e]; rfl, rfl⟩) (fun e => ⟨_, c43 s (str_ok e), by rw [topV, e]; rfl, rfl⟩)⟩
/-! (loop.example/keelson/impl.Stripe).read -/
def H28 : Hint := ⟨[[(1, 0, .bool), (10, 0, .bool), (11, 0, .bool), (12, 0, .bool)]], [], [(4, [0, 1, 2, 3, 4, 5, 6, 7, 8, 9, 10, 11, 12])], [], [.one (.own (.int .i64)), .one (.c (.int .i64)), .one (.c .bool)], [], []⟩
def S28_L0 (x11 : Int) (x12 : Int) (b0_0 : Int) (b0_1 : List Int) (b0_2 : List Int) (b0_3 : List Bool) (h1 : List Int) : St := ⟨[(1, .w (.one (.ptr 0 0 0))), (10, .w (.one (.sl 1 none))), (11, .w (.one (.int .i64 x11))), (12, .w (.one (.int .i64 x12)))], [.box [.int .i64 b0_0, .ro (.int .i64) b0_1, .ro (.int .i64) b0_2, .ro .bool b0_3], .row (.int .i64) h1 .own]⟩
theorem eq28 (s : (Int × (List Int × (List Int × List Bool)))) (r : List W) (lh : Heap) : FB E H28 Tryz.f28 [.agg [.int .i64 s.1, .ro (.int .i64) s.2.1, .ro (.int .i64) s.2.2.1, .ro .bool s.2.2.2]] [] r lh =
  (
   ∃ r0 : List Int, SC P 51 [.agg [.int .i64 s.1, .ro (.int .i64) s.2.1, .ro (.int .i64) s.2.2.1, .ro .bool s.2.2.2]] [] [.one (.sl 0 none)] [.row (.int .i64) r0 .own] ∧
    FL E H28 Tryz.f28 0 r lh 0 (S28_L0 ((r0.length : Nat) : Int) 0 s.1 s.2.1 s.2.2.1 s.2.2.2 r0)) := by kernel_rfl
theorem eq28_L0 (x11 : Int) (x12 : Int) (b0_0 : Int) (b0_1 : List Int) (b0_2 : List Int) (b0_3 : List Bool) (h1 : List Int) (r : List W) (lh : Heap) : FL1 E H28 Tryz.f28 0 r lh 0 (S28_L0 x11 x12 b0_0 b0_1 b0_2 b0_3 h1) =
  (
   Br (decide (x12 < x11)) (
    Ck (decide ((0 : Int) ≤ x12)) (
     Ck (decide (x12 < ((h1.length : Nat) : Int))) (
      Ck (Nat.ble (x12.toNat + 1) h1.length) (
       ∃ r0 : List Int, SC P 54 [.agg [.int .i64 b0_0, .ro (.int .i64) b0_1, .ro (.int .i64) b0_2, .ro .bool b0_3], .one (.int .i64 (h1.getD x12.toNat 0))] [] [.one (.sl 0 none)] [.row (.int .i64) r0 .own] ∧
        ∃ r1 : List Int × Bool, SC P 40 [.one (.int .i64 b0_0), .one (.ro (.int .i64) b0_1), .one (.ro (.int .i64) r0)] [] [.one (.sl 0 none), .one (.bool r1.2)] [.row (.int .i64) r1.1 .own] ∧
         Br r1.2 (
          Ret r lh [.one (.sl 0 none), .one (.int .i64 (h1.getD x12.toNat 0)), .one (.bool true)] [.row (.int .i64) r1.1 .own]) (
          FL E H28 Tryz.f28 0 r lh 0 (S28_L0 x11 (IntKind.wrap .i64 (x12 + 1)) b0_0 b0_1 b0_2 b0_3 h1)))))) (
    Ret r lh [.one (.sl 0 none), .one (.int .i64 0), .one (.bool false)] [.row (.int .i64) [] .own])) := by kernel_rfl
theorem l28 (s : StrT) (hs : StrOk s) (L : List Int) (hL : VersP s.2.2.1 s.2.2.2 L) (hl : L.length ≤ 3145728) : ∀ (n i : Nat), i + n = L.length → FL E H28 Tryz.f28 0 [.one (.sl 0 none), .one (.int .i64 (((L.drop i).find? (bearV s)).getD 0)), .one (.bool (!decide ((((L.drop i).find? (bearV s)).getD 0) = 0)))] [.row (.int .i64) (readU s (((L.drop i).find? (bearV s)).getD 0)) .own] 0 (S28_L0 (L.length : Int) (i : Int) s.1 s.2.1 s.2.2.1 s.2.2.2 L)
  | 0, i, h => by
    refine FL_of1 ?_
    rw [eq28_L0, List.drop_eq_nil_of_le (by omega)]
    exact Br_f (by omega) ⟨rfl, rfl⟩
  | n + 1, i, h => by
    have hi : i < L.length := by omega
    have hdr : L.drop i = L.getD i 0 :: L.drop (i + 1) := by rw [getD_eq hi]; exact drop_cons hi
    have hm : L.getD i 0 ∈ L := by rw [getD_eq hi]; exact List.getElem_mem _
    have hin := (hL.mem _).1 hm
    have hf := hs.fits _ hin
    have hne : ¬ L.getD i 0 = 0 := by
      obtain ⟨k, hk, ht, e⟩ := hin
      have := (hs.yes k hk ht).1
      omega
    have sr := c40 s.1 s.2.1 (flagF (ofF s.2.2.1 s.2.2.2 (L.getD i 0))) hs.vals ofF_sh.1 ofF_sh.2 (fun _ => set_solve hs.kind (ofF_len _ _ _) _)
    have so := c54 s (L.getD i 0) hs.l3 hs.l2
    refine FL_of1 ?_
    rw [eq28_L0, wS (i := i) (by omega), hdr, List.find?_cons]
    simp only [Int.toNat_natCast]
    rw [fitV] at hf
    refine Br_t (by omega) (Ck_d (by omega) (Ck_d (by omega) (Ck_le (by omega) ⟨_, so, (_, _), sr, Br_b (fun e => ?_) (fun e => ?_)⟩)))
    · have e' : readOk s.1 s.2.1 (flagF (ofF s.2.2.1 s.2.2.2 (L.getD i 0))) = true := e
      have eb : bearV s (L.getD i 0) = true := by rw [readOk, hf, Bool.and_true] at e'; exact e'
      rw [eb]
      refine ⟨?_, ?_⟩
      · show _ = [W.one (.sl 0 none), W.one (.int .i64 (L.getD i 0)), W.one (.bool (!decide (L.getD i 0 = 0)))]
        rw [decide_eq_false hne]; rfl
      · show [Blk.row (.int .i64) (readL _ _ _) .own] = [Blk.row (.int .i64) (readU s (L.getD i 0)) .own]
        rw [readU, decide_eq_false hne, readL, e']; rfl
    · have e' : readOk s.1 s.2.1 (flagF (ofF s.2.2.1 s.2.2.2 (L.getD i 0))) = false := e
      have eb : bearV s (L.getD i 0) = false := by rw [readOk, hf, Bool.and_true] at e'; exact e'
      rw [eb]
      exact l28 s hs L hL hl n (i + 1) (by omega)
theorem c28 (s : StrT) (hs : StrOk s) : SC P 28 [.agg [.int .i64 s.1, .ro (.int .i64) s.2.1, .ro (.int .i64) s.2.2.1, .ro .bool s.2.2.2]] [] [.one (.sl 0 none), .one (.int .i64 (readV s)), .one (.bool (!decide ((readV s) = 0)))] [.row (.int .i64) (readU s (readV s)) .own] := by
  obtain ⟨L, hL, hl, sv⟩ := c51 s hs.l3 hs.l2
  refine SC_of_FB (H := H28) E_ok Tryz.func28 (by kernel_rfl) ?_
  rw [eq28]
  have := l28 s hs L hL hl L.length 0 (Nat.zero_add _)
  rw [List.drop_zero, hL.find (f := bearV s) (fun i hi e => (hs.yes i hi e).1) (fun v hv => of_bears hs.l3 hv)] at this
  exact ⟨L, sv, this⟩
/-! loop.example/keelson/impl.StripeRead -/
def H9 : Hint := ⟨[], [], [], [], [.one (.own (.int .i64)), .one (.c (.int .i64)), .one (.c .bool)], [], []⟩
theorem eq9 (s : (Int × (List Int × (List Int × List Bool)))) (r : List W) (lh : Heap) : FB E H9 Tryz.f9 [.agg [.int .i64 s.1, .ro (.int .i64) s.2.1, .ro (.int .i64) s.2.2.1, .ro .bool s.2.2.2]] [] r lh =
  (
   ∃ r0 : Bool, SC P 27 [.agg [.int .i64 s.1, .ro (.int .i64) s.2.1, .ro (.int .i64) s.2.2.1, .ro .bool s.2.2.2]] [] [.one (.bool r0)] [] ∧
    Br (!r0) (
     Ret r lh [.one (.sl 0 none), .one (.int .i64 0), .one (.bool false)] [.row (.int .i64) [] .own]) (
     ∃ r1 : List Int × Int × Bool, SC P 28 [.agg [.int .i64 s.1, .ro (.int .i64) s.2.1, .ro (.int .i64) s.2.2.1, .ro .bool s.2.2.2]] [] [.one (.sl 0 none), .one (.int .i64 r1.2.1), .one (.bool r1.2.2)] [.row (.int .i64) r1.1 .own] ∧
      Ret r lh [.one (.sl 0 none), .one (.int .i64 r1.2.1), .one (.bool r1.2.2)] [.row (.int .i64) r1.1 .own])) := by kernel_rfl
theorem c9 (s : StrT) : SC P 9 [.agg [.int .i64 s.1, .ro (.int .i64) s.2.1, .ro (.int .i64) s.2.2.1, .ro .bool s.2.2.2]] [] [.one (.sl 0 none), .one (.int .i64 (readR s).2.1), .one (.bool (readR s).2.2)] [.row (.int .i64) (readR s).1 .own] := by
  refine SC_of_FB (H := H9) E_ok Tryz.func9 (by kernel_rfl) ?_
  rw [eq9]
  refine ⟨_, c27 s, Br_nb (fun e => ⟨by rw [readR, e]; rfl, by rw [readR, e]; rfl⟩) (fun e => ?_)⟩
  rw [readR, e]
  exact ⟨(_, _, _), c28 s (str_ok e), rfl, rfl⟩
/-! loop.example/keelson/spec.l21Read -/
def H24 : Hint := ⟨[[(1, 0, .bool), (5, 0, .bool)]], [], [(4, [0, 1, 2, 3, 4, 5]), (5, [0, 1, 2, 3, 4, 5, 6, 7, 8, 9, 10, 11, 12])], [], [.one (.own (.int .i64)), .one (.c (.int .i64)), .one (.c .bool)], [], []⟩
def S24_L0 (vers5 : Int) (b0_0 : Int) (b0_1 : List Int) (b0_2 : List Int) (b0_3 : List Bool) : St := ⟨[(1, .w (.one (.ptr 0 0 0))), (5, .w (.one (.int .i64 vers5)))], [.box [.int .i64 b0_0, .ro (.int .i64) b0_1, .ro (.int .i64) b0_2, .ro .bool b0_3]]⟩
theorem eq24 (s : (Int × (List Int × (List Int × List Bool)))) (r : List W) (lh : Heap) : FB E H24 Tryz.f24 [.agg [.int .i64 s.1, .ro (.int .i64) s.2.1, .ro (.int .i64) s.2.2.1, .ro .bool s.2.2.2]] [] r lh =
  (
   ∃ r0 : Int, SC P 44 [.agg [.int .i64 s.1, .ro (.int .i64) s.2.1, .ro (.int .i64) s.2.2.1, .ro .bool s.2.2.2]] [] [.one (.int .i64 r0)] [] ∧
    FL E H24 Tryz.f24 0 r lh 0 (S24_L0 r0 s.1 s.2.1 s.2.2.1 s.2.2.2)) := by kernel_rfl
theorem eq24_L0 (vers5 : Int) (b0_0 : Int) (b0_1 : List Int) (b0_2 : List Int) (b0_3 : List Bool) (r : List W) (lh : Heap) : FL1 E H24 Tryz.f24 0 r lh 0 (S24_L0 vers5 b0_0 b0_1 b0_2 b0_3) =
  (
   Br (decide ((0 : Int) < vers5)) (
    ∃ r0 : List Bool, SC P 37 [.agg [.int .i64 b0_0, .ro (.int .i64) b0_1, .ro (.int .i64) b0_2, .ro .bool b0_3], .one (.int .i64 vers5)] [] [.one (.sl 0 none)] [.row .bool r0 .own] ∧
     ∃ r1 : Bool, SC P 45 [.one (.int .i64 b0_0), .one (.ro .bool r0)] [] [.one (.bool r1)] [] ∧
      Br r1 (
       ∃ r2 : List Bool, SC P 37 [.agg [.int .i64 b0_0, .ro (.int .i64) b0_1, .ro (.int .i64) b0_2, .ro .bool b0_3], .one (.int .i64 vers5)] [] [.one (.sl 0 none)] [.row .bool r2 .own] ∧
        ∃ r3 : List Int × Bool, SC P 46 [.one (.int .i64 b0_0), .one (.ro (.int .i64) b0_1), .one (.ro .bool r2)] [] [.one (.sl 0 none), .one (.bool r3.2)] [.row (.int .i64) r3.1 .own] ∧
         Ret r lh [.one (.sl 0 none), .one (.int .i64 vers5), .one (.bool r3.2)] [.row (.int .i64) r3.1 .own]) (
       FL E H24 Tryz.f24 0 r lh 0 (S24_L0 (IntKind.wrap .i64 (vers5 - 1)) b0_0 b0_1 b0_2 b0_3))) (
    Ret r lh [.one (.sl 0 none), .one (.int .i64 0), .one (.bool false)] [.row (.int .i64) [] .own])) := by kernel_rfl
theorem l24 (s : StrT) (hs : StrOk s) : ∀ (n : Nat), n ≤ 1000 → FL E H24 Tryz.f24 0 [.one (.sl 0 none), .one (.int .i64 (downF (bearV s) n)), .one (.bool (!decide ((downF (bearV s) n) = 0)))] [.row (.int .i64) (readU s (downF (bearV s) n)) .own] 0 (S24_L0 (n : Int) s.1 s.2.1 s.2.2.1 s.2.2.2)
  | 0, h => by
    refine FL_of1 ?_
    rw [eq24_L0]
    exact Br_f (by omega) ⟨rfl, rfl⟩
  | n + 1, h => by
    have so := c37 s ((n + 1 : Nat) : Int) hs.l2 hs.l3
    have sb := c45 s.1 (ofF s.2.2.1 s.2.2.2 ((n + 1 : Nat) : Int))
    rw [show codeBears s.1 (ofF s.2.2.1 s.2.2.2 ((n + 1 : Nat) : Int)) = bearV s ((n + 1 : Nat) : Int) by rw [codeBears, hs.kind, ofF_len]; rfl] at sb
    have sr := c46 s.1 hs.kind s.2.1 hs.vals (ofF s.2.2.1 s.2.2.2 ((n + 1 : Nat) : Int)) (ofF_len _ _ _)
    refine FL_of1 ?_
    rw [eq24_L0, wP (i := n) (by omega), downF]
    refine Br_t (by omega) ⟨_, so, _, sb, Br_b (fun e => ⟨_, so, (_, _), sr, ?_⟩) (fun e => ?_)⟩
    · have hf := hs.fits _ (of_bears hs.l3 e)
      rw [fitV] at hf
      have e' : bearsI s.1 (flagF (ofF s.2.2.1 s.2.2.2 ((n + 1 : Nat) : Int))) = true := e
      have ro : readOk s.1 s.2.1 (flagF (ofF s.2.2.1 s.2.2.2 ((n + 1 : Nat) : Int))) = true := by rw [readOk, e', hf]; rfl
      have rl : readL s.1 s.2.1 (flagF (ofF s.2.2.1 s.2.2.2 ((n + 1 : Nat) : Int))) = (solveI s.1 s.2.1 (flagF (ofF s.2.2.1 s.2.2.2 ((n + 1 : Nat) : Int)))).l := by rw [readL, ro]; rfl
      have hd : (bif bearV s ((n + 1 : Nat) : Int) then ((n + 1 : Nat) : Int) else downF (bearV s) n) = ((n + 1 : Nat) : Int) := by rw [e]; rfl
      have hne : ¬ ((n + 1 : Nat) : Int) = 0 := by omega
      rw [hd]
      refine ⟨?_, ?_⟩
      · show [W.one (.sl 0 none), W.one (.int .i64 ((n + 1 : Nat) : Int)), W.one (.bool (readOk s.1 s.2.1 (flagF (ofF s.2.2.1 s.2.2.2 ((n + 1 : Nat) : Int)))))] = _
        rw [ro, decide_eq_false hne]; rfl
      · show [Blk.row (.int .i64) (readL s.1 s.2.1 (flagF (ofF s.2.2.1 s.2.2.2 ((n + 1 : Nat) : Int)))) .own] = _
        rw [rl, readU, decide_eq_false hne]; rfl
    · rw [e, cond_false]
      exact l24 s hs n (by omega)
theorem c24 (s : StrT) (hs : StrOk s) : SC P 24 [.agg [.int .i64 s.1, .ro (.int .i64) s.2.1, .ro (.int .i64) s.2.2.1, .ro .bool s.2.2.2]] [] [.one (.sl 0 none), .one (.int .i64 (readV s)), .one (.bool (!decide ((readV s) = 0)))] [.row (.int .i64) (readU s (readV s)) .own] := by
  refine SC_of_FB (H := H24) E_ok Tryz.func24 (by kernel_rfl) ?_
  rw [eq24]
  have h0 := topF_nonneg s.2.2.1
  have h99 : topF s.2.2.1 ≤ 99 := by
    rcases topF_at s.2.2.1 with e | ⟨i, hi, e⟩
    · omega
    · rw [← e]
      cases ht : s.2.2.2.getD i false
      · have := (hs.no i (by have := hs.l2; omega) ht).2; omega
      · exact (hs.yes i (by have := hs.l2; omega) ht).2
  have := l24 s hs (topF s.2.2.1).toNat (by omega)
  rw [show (((topF s.2.2.1).toNat : Nat) : Int) = topF s.2.2.1 by omega] at this
  exact ⟨_, c44 s (by rw [hs.l2]; omega), this⟩
/-! loop.example/keelson/spec.StripeRead -/
def H7 : Hint := ⟨[], [], [], [], [.one (.own (.int .i64)), .one (.c (.int .i64)), .one (.c .bool)], [], []⟩
theorem eq7 (s : (Int × (List Int × (List Int × List Bool)))) (r : List W) (lh : Heap) : FB E H7 Tryz.f7 [.agg [.int .i64 s.1, .ro (.int .i64) s.2.1, .ro (.int .i64) s.2.2.1, .ro .bool s.2.2.2]] [] r lh =
  (
   ∃ r0 : Bool, SC P 17 [.agg [.int .i64 s.1, .ro (.int .i64) s.2.1, .ro (.int .i64) s.2.2.1, .ro .bool s.2.2.2]] [] [.one (.bool r0)] [] ∧
    Br (!r0) (
     Ret r lh [.one (.sl 0 none), .one (.int .i64 0), .one (.bool false)] [.row (.int .i64) [] .own]) (
     ∃ r1 : List Int × Int × Bool, SC P 24 [.agg [.int .i64 s.1, .ro (.int .i64) s.2.1, .ro (.int .i64) s.2.2.1, .ro .bool s.2.2.2]] [] [.one (.sl 0 none), .one (.int .i64 r1.2.1), .one (.bool r1.2.2)] [.row (.int .i64) r1.1 .own] ∧
      Ret r lh [.one (.sl 0 none), .one (.int .i64 r1.2.1), .one (.bool r1.2.2)] [.row (.int .i64) r1.1 .own])) := by kernel_rfl
theorem c7 (s : StrT) (hl : s.2.1.length ≤ 1048576) : SC P 7 [.agg [.int .i64 s.1, .ro (.int .i64) s.2.1, .ro (.int .i64) s.2.2.1, .ro .bool s.2.2.2]] [] [.one (.sl 0 none), .one (.int .i64 (readR s).2.1), .one (.bool (readR s).2.2)] [.row (.int .i64) (readR s).1 .own] := by
  refine SC_of_FB (H := H7) E_ok Tryz.func7 (by kernel_rfl) ?_
  rw [eq7]
  refine ⟨_, c17 s hl, Br_nb (fun e => ⟨by rw [readR, e]; rfl, by rw [readR, e]; rfl⟩) (fun e => ?_)⟩
  rw [readR, e]
  exact ⟨(_, _, _), c24 s (str_ok e), rfl, rfl⟩
end Go.Proofs.YtjoiadaogppmkaaGreat.Sh
