/- The plans of all that are lost: contracts. -/
import Derived.Test.YtjoiadaogppmkaaShQ9
import Derived.Test.YtjoiadaogppmkaaShR3
namespace Go.Proofs.Ytjoiadaogppmkaa.Sh
open Go
set_option linter.unusedVariables false
set_option linter.unusedSimpArgs false
/-- the plans of all that are not there, if each has one -/
def planAt (kind : Int) (there : List Bool) (i : Nat) : PlnR := resP (i : Int) (fewest (planT kind (i : Int)) (othersF (i : Int) there))
def plansR (kind : Int) (there : List Bool) : Nat → Nat → List Pln → List Pln × Bool
  | _, 0, out => (out, true)
  | i, n + 1, out => bif there.getD i false then plansR kind there (i + 1) n out else
    bif (planAt kind there i).2.2.2 then plansR kind there (i + 1) n (out ++ [((planAt kind there i).1, ((planAt kind there i).2.1, (planAt kind there i).2.2.1))]) else ([], false)
def planAllF (kind : Int) (there : List Bool) : List Pln × Bool := bif inB kind 1 2 && decide (there.length = 8) then plansR kind there 0 8 [] else ([], false)
theorem plansR_len {kind : Int} {there : List Bool} : ∀ {n i : Nat} {out : List Pln}, (plansR kind there i n out).1.length ≤ out.length + n
  | 0, _, _ => Nat.le_refl _
  | n + 1, i, out => by
    rw [plansR]
    cases there.getD i false
    · rw [cond_false]
      cases (planAt kind there i).2.2.2
      · exact Nat.zero_le _
      · have := plansR_len (kind := kind) (there := there) (n := n) (i := i + 1) (out := out ++ [((planAt kind there i).1, ((planAt kind there i).2.1, (planAt kind there i).2.2.1))])
        rw [List.length_append, List.length_singleton] at this
        rw [cond_true]; omega
    · have := plansR_len (kind := kind) (there := there) (n := n) (i := i + 1) (out := out)
      rw [cond_true]; omega
/-! loop.example/keelson/spec.PlanAll -/
def H9 : Hint := ⟨[[(0, 0, .bool), (1, 0, .bool), (6, 0, .bool), (7, 0, .bool)]], [], [], [], [], [], []⟩
def S9_L0 (kind0 : Int) (there1 : List Bool) (x7 : Int) (h0 : List (Int × (List Int × List Int))) : St := ⟨[(0, .w (.one (.int .i64 kind0))), (1, .w (.one (.ro .bool there1))), (6, .w (.one (.sl 0 none))), (7, .w (.one (.int .i64 x7)))], [.row (.pair (.int .i64) (.pair (.sl (.int .i64)) (.sl (.int .i64)))) h0 .own]⟩
theorem eq9 (kind : Int) (there : List Bool) (r : List W) (lh : Heap) : FB E H9 Try.f9 [.one (.int .i64 kind), .one (.ro .bool there)] [] r lh =
  (
   ∃ r0 : Bool, SC P 37 [.one (.int .i64 kind)] [] [.one (.bool r0)] [] ∧
    Br (!r0) (
     Ret r lh [.one (.sl 0 none), .one (.bool false)] [.row (.pair (.int .i64) (.pair (.sl (.int .i64)) (.sl (.int .i64)))) [] .own]) (
     Br (!(decide (((there.length : Nat) : Int) = (8 : Int)))) (
      Ret r lh [.one (.sl 0 none), .one (.bool false)] [.row (.pair (.int .i64) (.pair (.sl (.int .i64)) (.sl (.int .i64)))) [] .own]) (
      FL E H9 Try.f9 0 r lh 0 (S9_L0 kind there 0 [])))) := by kernel_rfl
theorem eq9_L0 (kind0 : Int) (there1 : List Bool) (x7 : Int) (h0 : List (Int × (List Int × List Int))) (r : List W) (lh : Heap) : FL1 E H9 Try.f9 0 r lh 0 (S9_L0 kind0 there1 x7 h0) =
  (
   Br (decide (x7 < (8 : Int))) (
    Ck (decide ((0 : Int) ≤ x7)) (
     Ck (decide (x7 < ((there1.length : Nat) : Int))) (
      Br (there1.getD x7.toNat false) (
       FL E H9 Try.f9 0 r lh 0 (S9_L0 kind0 there1 (IntKind.wrap .i64 (x7 + 1)) h0)) (
       ∃ r0 : Int × List Int × List Int × Bool, SC P 38 [.one (.int .i64 kind0), .one (.int .i64 x7), .one (.ro .bool there1)] [] [.agg [.int .i64 r0.1, .sl 0 none, .sl 1 none], .one (.bool r0.2.2.2)] [.row (.int .i64) r0.2.1 .own, .row (.int .i64) r0.2.2.1 .own] ∧
        Br (!r0.2.2.2) (
         Ret r lh [.one (.sl 0 none), .one (.bool false)] [.row (.pair (.int .i64) (.pair (.sl (.int .i64)) (.sl (.int .i64)))) [] .own]) (
         Ck (Nat.ble ((h0.length + 1) * 56) roomy) (
          FL E H9 Try.f9 0 r lh 0 (S9_L0 kind0 there1 (IntKind.wrap .i64 (x7 + 1)) (h0 ++ ([(r0.1, (r0.2.1, r0.2.2.1))] : List (Int × (List Int × List Int))))))))))) (
    Ret r lh [.one (.sl 0 none), .one (.bool true)] [.row (.pair (.int .i64) (.pair (.sl (.int .i64)) (.sl (.int .i64)))) h0 .own])) := by kernel_rfl
theorem l9 (kind : Int) (hk : inB kind 1 2 = true) (there : List Bool) (h8 : there.length = 8) : ∀ (n i : Nat) (out : List Pln), i + n = 8 → out.length ≤ i → FL E H9 Try.f9 0 [.one (.sl 0 none), .one (.bool (plansR kind there i n out).2)] [.row (.pair (.int .i64) (.pair (.sl (.int .i64)) (.sl (.int .i64)))) (plansR kind there i n out).1 .own] 0 (S9_L0 kind there (i : Int) out)
  | 0, i, out, h, ho => by
    refine FL_of1 ?_
    rw [eq9_L0]
    exact Br_f (by omega) ⟨rfl, rfl⟩
  | n + 1, i, out, h, ho => by
    have sp := c38 kind hk (i : Int) (by omega) (by omega) there h8
    refine FL_of1 ?_
    rw [eq9_L0, wS (i := i) (by omega), plansR]
    simp only [Int.toNat_natCast]
    refine Br_t (by omega) (Ck_d (by omega) (Ck_d (by omega) (Br_b (fun e => ?_) (fun e => ⟨planAt kind there i, sp, Br_nb (fun e2 => ?_) (fun e2 => Ck_room (by omega) ?_)⟩))))
    · rw [e, cond_true]; exact l9 kind hk there h8 n (i + 1) out (by omega) (by omega)
    · rw [e, e2]; exact ⟨rfl, rfl⟩
    · rw [e, e2, cond_false, cond_true]; exact l9 kind hk there h8 n (i + 1) _ (by omega) (by simp; omega)
theorem c9 (kind : Int) (there : List Bool) : SC P 9 [.one (.int .i64 kind), .one (.ro .bool there)] [] [.one (.sl 0 none), .one (.bool (planAllF kind there).2)] [.row (.pair (.int .i64) (.pair (.sl (.int .i64)) (.sl (.int .i64)))) (planAllF kind there).1 .own] := by
  refine SC_of_FB (H := H9) E_ok Try.func9 (by kernel_rfl) ?_
  rw [eq9]
  refine ⟨_, c37 kind, Br_nb (fun e => by rw [planAllF, e]; exact ⟨rfl, rfl⟩) (fun e => ?_)⟩
  rw [dec8']
  refine Br_nd (fun e2 => by rw [planAllF, decide_eq_false e2, Bool.and_false]; exact ⟨rfl, rfl⟩) (fun e2 => ?_)
  rw [planAllF, e, decide_eq_true e2]
  exact l9 kind e there e2 8 0 [] rfl (Nat.le_refl _)
/-! slices.Clip[[]loop.example/keelson/impl.Plan,loop.example/keelson/impl.Plan] -/
def H42 : Hint := ⟨[], [], [], [], [], [], []⟩
theorem eq42 (l : List (Int × (List Int × List Int))) (r : List W) (lh : Heap) : FB E H42 Try.f42 [.one (.sl 0 none)] [.row (.pair (.int .i64) (.pair (.sl (.int .i64)) (.sl (.int .i64)))) l .own] r lh =
  (
   Ck (decide ((0 : Int) ≤ ((l.length : Nat) : Int))) (
    Ck (decide (((l.length : Nat) : Int) ≤ ((l.length : Nat) : Int))) (
     Ck (decide (((l.length : Nat) : Int) ≤ ((l.length : Nat) : Int))) (
      Ret r lh [.one (.sl 0 (some (0, ((l.length : Nat) : Int).toNat)))] [.row (.pair (.int .i64) (.pair (.sl (.int .i64)) (.sl (.int .i64)))) l .own])))) := by kernel_rfl
theorem c42 (l : List Pln) : SC P 42 [.one (.sl 0 none)] [.row (.pair (.int .i64) (.pair (.sl (.int .i64)) (.sl (.int .i64)))) l .own] [.one (.sl 0 (some (0, l.length)))] [.row (.pair (.int .i64) (.pair (.sl (.int .i64)) (.sl (.int .i64)))) l .own] := by
  refine SC_of_FB (H := H42) E_ok Try.func42 (by kernel_rfl) ?_
  rw [eq42]
  repeat (first | exact ⟨rfl, rfl⟩ | refine Ck_d (by omega) ?_)
/-! loop.example/keelson/impl.PlanAll -/
def H10 : Hint := ⟨[[(0, 0, .bool), (1, 0, .bool), (6, 0, .bool), (20, 0, .bool), (21, 0, .bool), (22, 0, .bool)]], [], [], [], [.one (.own (.pair (.int .i64) (.pair (.sl (.int .i64)) (.sl (.int .i64))))), .one (.c .bool)], [], []⟩
def S10_L0 (kind0 : Int) (there1 : List Bool) (x20 : List Bool) (x21 : Int) (x22 : Int) (h0 : List (Int × (List Int × List Int))) : St := ⟨[(0, .w (.one (.int .i64 kind0))), (1, .w (.one (.ro .bool there1))), (6, .w (.one (.sl 0 none))), (20, .w (.one (.ro .bool x20))), (21, .w (.one (.int .i64 x21))), (22, .w (.one (.int .i64 x22)))], [.row (.pair (.int .i64) (.pair (.sl (.int .i64)) (.sl (.int .i64)))) h0 .own]⟩
theorem eq10 (kind : Int) (there : List Bool) (r : List W) (lh : Heap) : FB E H10 Try.f10 [.one (.int .i64 kind), .one (.ro .bool there)] [] r lh =
  (
   ∃ r0 : Bool, SC P 39 [.one (.int .i64 kind)] [] [.one (.bool r0)] [] ∧
    Br (!r0) (
     Ret r lh [.one (.sl 0 none), .one (.bool false)] [.row (.pair (.int .i64) (.pair (.sl (.int .i64)) (.sl (.int .i64)))) [] .own]) (
     Br (!(decide (((there.length : Nat) : Int) = (8 : Int)))) (
      Ret r lh [.one (.sl 0 none), .one (.bool false)] [.row (.pair (.int .i64) (.pair (.sl (.int .i64)) (.sl (.int .i64)))) [] .own]) (
      FL E H10 Try.f10 0 r lh 0 (S10_L0 kind there there ((there.length : Nat) : Int) 0 [])))) := by kernel_rfl
theorem eq10_L0 (kind0 : Int) (there1 : List Bool) (x20 : List Bool) (x21 : Int) (x22 : Int) (h0 : List (Int × (List Int × List Int))) (r : List W) (lh : Heap) : FL1 E H10 Try.f10 0 r lh 0 (S10_L0 kind0 there1 x20 x21 x22 h0) =
  (
   Br (decide (x22 < x21)) (
    Ck (decide ((0 : Int) ≤ x22)) (
     Ck (decide (x22 < ((x20.length : Nat) : Int))) (
      Br (x20.getD x22.toNat false) (
       FL E H10 Try.f10 0 r lh 0 (S10_L0 kind0 there1 x20 x21 (IntKind.wrap .i64 (x22 + 1)) h0)) (
       ∃ r0 : List Int, SC P 41 [.one (.ro .bool there1)] [] [.one (.sl 0 none)] [.row (.int .i64) r0 .own] ∧
        ∃ r1 : Int × List Int × List Int × Bool, SC P 40 [.one (.int .i64 kind0), .one (.int .i64 x22), .one (.ro (.int .i64) r0)] [] [.agg [.int .i64 r1.1, .sl 0 none, .sl 1 none], .one (.bool r1.2.2.2)] [.row (.int .i64) r1.2.1 .own, .row (.int .i64) r1.2.2.1 .own] ∧
         Br (!r1.2.2.2) (
          Ret r lh [.one (.sl 0 none), .one (.bool false)] [.row (.pair (.int .i64) (.pair (.sl (.int .i64)) (.sl (.int .i64)))) [] .own]) (
          Ck (Nat.ble ((h0.length + 1) * 56) roomy) (
           FL E H10 Try.f10 0 r lh 0 (S10_L0 kind0 there1 x20 x21 (IntKind.wrap .i64 (x22 + 1)) (h0 ++ ([(r1.1, (r1.2.1, r1.2.2.1))] : List (Int × (List Int × List Int))))))))))) (
    ∃ r2 : Nat, SC P 42 [.one (.sl 0 none)] [.row (.pair (.int .i64) (.pair (.sl (.int .i64)) (.sl (.int .i64)))) h0 .own] [.one (.sl 0 (some (0, r2)))] [.row (.pair (.int .i64) (.pair (.sl (.int .i64)) (.sl (.int .i64)))) h0 .own] ∧
     Ret r lh [.one (.sl 0 none), .one (.bool true)] [.row (.pair (.int .i64) (.pair (.sl (.int .i64)) (.sl (.int .i64)))) (h0.take r2) .own])) := by kernel_rfl
theorem l10 (kind : Int) (hk : inB kind 1 2 = true) (there : List Bool) (h8 : there.length = 8) : ∀ (n i : Nat) (out : List Pln), i + n = 8 → out.length ≤ i → FL E H10 Try.f10 0 [.one (.sl 0 none), .one (.bool (plansR kind there i n out).2)] [.row (.pair (.int .i64) (.pair (.sl (.int .i64)) (.sl (.int .i64)))) (plansR kind there i n out).1 .own] 0 (S10_L0 kind there there (there.length : Int) (i : Int) out)
  | 0, i, out, h, ho => by
    refine FL_of1 ?_
    rw [eq10_L0]
    refine Br_f (by omega) ⟨out.length, c42 out, rfl, ?_⟩
    rw [List.take_length]; rfl
  | n + 1, i, out, h, ho => by
    have hfs := sub_sh (flag_sub h8)
    have sp := c40 kind (i : Int) (by omega) (by omega) (flagF there) hfs.1 hfs.2
    rw [show (flagF there).filter (fun x => !decide (x = (i : Int))) = othersF (i : Int) there from rfl, fewest_T hk (by omega) (by omega) h8] at sp
    refine FL_of1 ?_
    rw [eq10_L0, wS (i := i) (by omega), plansR]
    simp only [Int.toNat_natCast]
    refine Br_t (by omega) (Ck_d (by omega) (Ck_d (by omega) (Br_b (fun e => ?_) (fun e => ⟨_, c41 there (by omega), planAt kind there i, sp, Br_nb (fun e2 => ?_) (fun e2 => Ck_room (by omega) ?_)⟩))))
    · rw [e, cond_true]; exact l10 kind hk there h8 n (i + 1) out (by omega) (by omega)
    · rw [e, e2]; exact ⟨rfl, rfl⟩
    · rw [e, e2, cond_false, cond_true]; exact l10 kind hk there h8 n (i + 1) _ (by omega) (by simp; omega)
theorem c10 (kind : Int) (there : List Bool) (hl : there.length ≤ 1048576) : SC P 10 [.one (.int .i64 kind), .one (.ro .bool there)] [] [.one (.sl 0 none), .one (.bool (planAllF kind there).2)] [.row (.pair (.int .i64) (.pair (.sl (.int .i64)) (.sl (.int .i64)))) (planAllF kind there).1 .own] := by
  refine SC_of_FB (H := H10) E_ok Try.func10 (by kernel_rfl) ?_
  rw [eq10]
  refine ⟨_, c39 kind, Br_nb (fun e => by rw [planAllF, e]; exact ⟨rfl, rfl⟩) (fun e => ?_)⟩
  rw [dec8']
  refine Br_nd (fun e2 => by rw [planAllF, decide_eq_false e2, Bool.and_false]; exact ⟨rfl, rfl⟩) (fun e2 => ?_)
  rw [planAllF, e, decide_eq_true e2]
  exact l10 kind e there e2 8 0 [] rfl (Nat.le_refl _)
/-! ## ShQe -/
def allK (kind : Int) (t : List Bool) : Bool := !bearsI kind (flagF t) || (List.range 8).all fun i => t.getD i false || hasI kind (i : Int) (flagF t)
set_option maxRecDepth 100000 in
theorem all_key1 : ∀ b : Nat, b < 256 → allK 1 (thereB 8 b) = true := by decide +kernel
set_option maxRecDepth 100000 in
theorem all_key2 : ∀ b : Nat, b < 256 → allK 2 (thereB 8 b) = true := by decide +kernel
theorem filterR_in {α : Type} {p : Nat → Bool} {f : Nat → α} {x : α} : ∀ {n i : Nat}, x ∈ filterR p f i n → ∃ j, i ≤ j ∧ j < i + n ∧ p j = true ∧ f j = x
  | 0, _, h => by cases h
  | n + 1, i, h => by
    rw [filterR] at h
    have ih := filterR_in (p := p) (f := f) (x := x) (n := n) (i := i + 1)
    cases hp : p i with
    | false =>
      rw [hp, cond_false] at h
      obtain ⟨j, h1, h2, h3⟩ := ih h
      exact ⟨j, by omega, by omega, h3⟩
    | true =>
      rw [hp, cond_true] at h
      rcases List.mem_cons.1 h with e | h
      · exact ⟨i, Nat.le_refl _, by omega, hp, e.symm⟩
      · obtain ⟨j, h1, h2, h3⟩ := ih h
        exact ⟨j, by omega, by omega, h3⟩
theorem others_flag {i : Nat} {there : List Bool} (h : there.getD i false = false) : othersF (i : Int) there = flagF there := by
  rw [othersF, List.filter_eq_self]
  intro x hx
  obtain ⟨j, _, _, h3, rfl⟩ := filterR_in hx
  rw [Bool.not_eq_true', decide_eq_false_iff_not]
  intro e
  have : j = i := by omega
  subst this
  rw [h] at h3; cases h3
theorem all_k {kind : Int} (hk : inB kind 1 2 = true) {there : List Bool} (h8 : there.length = 8) : allK kind there = true := by
  rcases kind_cases hk with rfl | rfl
  · exact all_there (p := fun t => allK 1 t = true) all_key1 h8
  · exact all_there (p := fun t => allK 2 t = true) all_key2 h8
theorem planAt_ok {kind : Int} (hk : inB kind 1 2 = true) {there : List Bool} (h8 : there.length = 8) {i : Nat} (hi : i < 8) (hb : bearsI kind (flagF there) = true) (ht : there.getD i false = false) : (planAt kind there i).2.2.2 = true := by
  have := all_k hk h8
  rw [allK, hb, Bool.not_true, Bool.false_or, List.all_eq_true] at this
  have := this i (List.mem_range.2 hi)
  rw [ht, Bool.false_or] at this
  rw [planAt, resP_ok, fewest_some_congr (planT_some kind (i : Int)), fewest_has hk (by omega) (by omega) h8, others_flag ht]
  exact this
theorem plansR_ok {kind : Int} (hk : inB kind 1 2 = true) {there : List Bool} (h8 : there.length = 8) (hb : bearsI kind (flagF there) = true) : ∀ {n i : Nat} {out : List Pln}, i + n = 8 → (plansR kind there i n out).2 = true
  | 0, _, _, _ => rfl
  | n + 1, i, out, h => by
    rw [plansR]
    cases ht : there.getD i false with
    | true => rw [cond_true]; exact plansR_ok hk h8 hb (by omega)
    | false => rw [cond_false, planAt_ok hk h8 (by omega) hb ht, cond_true]; exact plansR_ok hk h8 hb (by omega)
theorem all_none {kind : Int} {there : List Bool} (h : (planAllF kind there).2 = false) : codeBears kind there = false := by
  rw [Bool.eq_false_iff]
  intro hb
  rw [codeBears, Bool.and_eq_true, Bool.and_eq_true, decide_eq_true_iff] at hb
  obtain ⟨hk, h8, hb⟩ := hb
  rw [planAllF, hk, decide_eq_true h8, Bool.and_self, cond_true, plansR_ok hk h8 hb rfl] at h
  cases h
theorem plansR_ext {kind : Int} {there : List Bool} : ∀ {n i : Nat} {out L : List Pln}, plansR kind there i n out = (L, true) → ∃ S, L = out ++ S
  | 0, _, out, L, h => by
    rw [plansR] at h
    exact ⟨[], by rw [List.append_nil]; exact (congrArg Prod.fst h).symm⟩
  | n + 1, i, out, L, h => by
    rw [plansR] at h
    cases ht : there.getD i false with
    | true => rw [ht, cond_true] at h; exact plansR_ext h
    | false =>
      rw [ht, cond_false] at h
      cases hq : (planAt kind there i).2.2.2 with
      | false => rw [hq, cond_false] at h; exact absurd (congrArg Prod.snd h) (by simp)
      | true =>
        rw [hq, cond_true] at h
        obtain ⟨S, e⟩ := plansR_ext h
        exact ⟨_, by rw [e, List.append_assoc]⟩
theorem cut_at {α : Type} {L T S : List α} {k : Nat} {p z : α} (hk : k ≤ L.length) (hT : L.take k = T) (h : L = (T ++ [p]) ++ S) : k < L.length ∧ L.getD k z = p ∧ L.take (k + 1) = T ++ [p] := by
  have hl : T.length = k := by rw [← hT, List.length_take]; omega
  clear hT
  subst h
  refine ⟨by simp; omega, ?_, ?_⟩
  · rw [List.append_assoc, List.getD, List.getElem?_append_right (by omega), hl, Nat.sub_self]; rfl
  · exact List.take_left' (by simp; omega)
/-! loop.example/keelson/spec.DrawPlanAll -/
def H8 : Hint := ⟨[], [], [], [], [], [], []⟩
theorem eq8 (code : List Int) (r : List W) (lh : Heap) : FB E H8 Try.f8 [.one (.ro (.int .u8) code)] [] r lh =
  (
   ∃ r0 : (List Int × Int), SC P 34 [.one (.ro (.int .u8) code)] [] [.one (.ptr 0 0 0)] [.box [.ro (.int .u8) r0.1, .int .i64 r0.2]] ∧
    ∃ r1 : List Int × Int × Int, SC P 35 [.one (.ptr 0 0 0)] [.box [.ro (.int .u8) r0.1, .int .i64 r0.2]] [.one (.int .i64 r1.2.2)] [.box [.ro (.int .u8) r1.1, .int .i64 r1.2.1]] ∧
     ∃ r2 : List Int × Int × List Bool, SC P 36 [.one (.ptr 0 0 0)] [.box [.ro (.int .u8) r1.1, .int .i64 r1.2.1]] [.one (.ro .bool r2.2.2)] [.box [.ro (.int .u8) r2.1, .int .i64 r2.2.1]] ∧
      Ret r lh [.one (.int .i64 r1.2.2), .one (.ro .bool r2.2.2)] []) := by kernel_rfl
theorem c8 (code : List Int) (hc : Bytes code) : ∃ (k : Int) (t : List Bool), t.length ≤ 8 ∧ SC P 8 [.one (.ro (.int .u8) code)] [] [.one (.int .i64 k), .one (.ro .bool t)] [] := by
  obtain ⟨b, hb, s0⟩ := c34 code hc
  obtain ⟨k, p, p0, p1, s1⟩ := c35 b 0 hb (by omega) (by omega)
  obtain ⟨t, q, ht, q0, q1, s2⟩ := c36 b p hb p0 (by omega)
  refine ⟨k, t, ht, ?_⟩
  refine SC_of_FB (H := H8) E_ok Try.func8 (by kernel_rfl) ?_
  rw [eq8]
  exact ⟨(b, 0), s0, (b, p, k), s1, (b, q, t), s2, rfl, rfl⟩
/-! loop.example/keelson/laws.FnPlanAll -/
def H3 : Hint := ⟨[[(3, 0, .bool), (4, 0, .bool), (7, 0, .bool), (9, 0, .bool), (10, 0, .bool)]], [], [(14, [0, 1, 2, 3, 4, 5, 6, 7, 8, 9, 10, 11, 12, 13, 14, 15, 16])], [], [], [], []⟩
def S3_L0 (kind3 : Int) (there4 : List Bool) (k9 : Int) (x10 : Int) (h0 : List (Int × (List Int × List Int))) : St := ⟨[(3, .w (.one (.int .i64 kind3))), (4, .w (.one (.ro .bool there4))), (7, .w (.one (.sl 0 none))), (9, .w (.one (.int .i64 k9))), (10, .w (.one (.int .i64 x10)))], [.row (.pair (.int .i64) (.pair (.sl (.int .i64)) (.sl (.int .i64)))) h0 .own]⟩
theorem eq3 (code : List Int) (r : List W) (lh : Heap) : FB E H3 Try.f3 [.one (.ro (.int .u8) code)] [] r lh =
  (
   Br (decide ((1048576 : Int) < ((code.length : Nat) : Int))) (
    Ret r lh [.one (.bool true)] []) (
    ∃ r0 : Int × List Bool, SC P 8 [.one (.ro (.int .u8) code)] [] [.one (.int .i64 r0.1), .one (.ro .bool r0.2)] [] ∧
     ∃ r1 : List (Int × (List Int × List Int)) × Bool, SC P 9 [.one (.int .i64 r0.1), .one (.ro .bool r0.2)] [] [.one (.sl 0 none), .one (.bool r1.2)] [.row (.pair (.int .i64) (.pair (.sl (.int .i64)) (.sl (.int .i64)))) r1.1 .own] ∧
      ∃ r2 : List (Int × (List Int × List Int)) × Bool, SC P 10 [.one (.int .i64 r0.1), .one (.ro .bool r0.2)] [] [.one (.sl 0 none), .one (.bool r2.2)] [.row (.pair (.int .i64) (.pair (.sl (.int .i64)) (.sl (.int .i64)))) r2.1 .own] ∧
       Br (r2.2 != r1.2) (
        Br (r2.2 == r1.2) (
         Br (decide (((r2.1.length : Nat) : Int) = ((r1.1.length : Nat) : Int))) (
          Br r2.2 (
           Ret r lh [.one (.bool true)] []) (
           ∃ r3 : Bool, SC P 11 [.one (.int .i64 r0.1), .one (.ro .bool r0.2)] [] [.one (.bool r3)] [] ∧
            Ret r lh [.one (.bool (!r3))] [])) (
          Ret r lh [.one (.bool false)] [])) (
         Ret r lh [.one (.bool false)] [])) (
        Br (!(decide (((r2.1.length : Nat) : Int) = ((r1.1.length : Nat) : Int)))) (
         Br (r2.2 == r1.2) (
          Br (decide (((r2.1.length : Nat) : Int) = ((r1.1.length : Nat) : Int))) (
           Br r2.2 (
            Ret r lh [.one (.bool true)] []) (
            ∃ r4 : Bool, SC P 11 [.one (.int .i64 r0.1), .one (.ro .bool r0.2)] [] [.one (.bool r4)] [] ∧
             Ret r lh [.one (.bool (!r4))] [])) (
           Ret r lh [.one (.bool false)] [])) (
          Ret r lh [.one (.bool false)] [])) (
         Br (!r2.2) (
          Br (r2.2 == r1.2) (
           Br (decide (((r2.1.length : Nat) : Int) = ((r1.1.length : Nat) : Int))) (
            Br r2.2 (
             Ret r lh [.one (.bool true)] []) (
             ∃ r5 : Bool, SC P 11 [.one (.int .i64 r0.1), .one (.ro .bool r0.2)] [] [.one (.bool r5)] [] ∧
              Ret r lh [.one (.bool (!r5))] [])) (
            Ret r lh [.one (.bool false)] [])) (
           Ret r lh [.one (.bool false)] [])) (
          FL E H3 Try.f3 0 r lh 0 (S3_L0 r0.1 r0.2 0 0 r2.1)))))) := by kernel_rfl
theorem eq3_L0 (kind3 : Int) (there4 : List Bool) (k9 : Int) (x10 : Int) (h0 : List (Int × (List Int × List Int))) (r : List W) (lh : Heap) : FL1 E H3 Try.f3 0 r lh 0 (S3_L0 kind3 there4 k9 x10 h0) =
  (
   Br (decide (x10 < (8 : Int))) (
    Ck (decide ((0 : Int) ≤ x10)) (
     Ck (decide (x10 < ((there4.length : Nat) : Int))) (
      Br (there4.getD x10.toNat false) (
       FL E H3 Try.f3 0 r lh 0 (S3_L0 kind3 there4 k9 (IntKind.wrap .i64 (x10 + 1)) h0)) (
       ∃ r0 : Int × List Int × List Int × Bool, SC P 12 [.one (.int .i64 kind3), .one (.int .i64 x10), .one (.ro .bool there4)] [] [.agg [.int .i64 r0.1, .sl 0 none, .sl 1 none], .one (.bool r0.2.2.2)] [.row (.int .i64) r0.2.1 .own, .row (.int .i64) r0.2.2.1 .own] ∧
        Br (decide (((h0.length : Nat) : Int) ≤ k9)) (
         Ret r lh [.one (.bool false)] []) (
         Br (!r0.2.2.2) (
          Ret r lh [.one (.bool false)] []) (
          Ck (decide ((0 : Int) ≤ k9)) (
           Ck (decide (k9 < ((h0.length : Nat) : Int))) (
            Ck (Nat.blt k9.toNat h0.length) (
             ∃ r1 : Bool, SC P 13 [.agg [.int .i64 r0.1, .ro (.int .i64) r0.2.1, .ro (.int .i64) r0.2.2.1], .agg [.int .i64 ((h0.getD k9.toNat (0, ([], []))).1), .ro (.int .i64) (((h0.getD k9.toNat (0, ([], []))).2).1), .ro (.int .i64) (((h0.getD k9.toNat (0, ([], []))).2).2)]] [] [.one (.bool r1)] [] ∧
              Br (!r1) (
               Ret r lh [.one (.bool false)] []) (
               FL E H3 Try.f3 0 r lh 0 (S3_L0 kind3 there4 (IntKind.wrap .i64 (k9 + 1)) (IntKind.wrap .i64 (x10 + 1)) h0))))))))))) (
    Ret r lh [.one (.bool (decide (k9 = ((h0.length : Nat) : Int))))] [])) := by kernel_rfl
theorem l3 (kind : Int) (hk : inB kind 1 2 = true) (there : List Bool) (h8 : there.length = 8) (L : List Pln) : ∀ (n i k : Nat), i + n = 8 → k ≤ i → k ≤ L.length → plansR kind there i n (L.take k) = (L, true) → FL E H3 Try.f3 0 [.one (.bool true)] [] 0 (S3_L0 kind there (k : Int) (i : Int) L)
  | 0, i, k, h, hki, hkl, hp => by
    rw [plansR] at hp
    have hl0 : L.take k = L := congrArg Prod.fst hp
    have hl : (L.take k).length = L.length := by rw [hl0]
    rw [List.length_take] at hl
    refine FL_of1 ?_
    rw [eq3_L0]
    exact Br_f (by omega) ⟨by rw [decide_eq_true (show (k : Int) = (L.length : Int) by omega)], rfl⟩
  | n + 1, i, k, h, hki, hkl, hp => by
    have sp := c12 kind (i : Int) there (by omega)
    obtain ⟨f4, f8⟩ := planOfF_len (kind := kind) (lost := (i : Int)) (there := there)
    have e0 : planOfF kind (i : Int) there = planAt kind there i := by rw [planOfF, hk, inB_iff.2 ⟨by omega, by omega⟩, decide_eq_true h8]; rfl
    rw [e0] at sp f4 f8
    rw [plansR] at hp
    refine FL_of1 ?_
    rw [eq3_L0, wS (i := i) (by omega)]
    simp only [Int.toNat_natCast]
    refine Br_t (by omega) (Ck_d (by omega) (Ck_d (by omega) (Br_b (fun e => ?_) (fun e => ?_))))
    · rw [e, cond_true] at hp
      exact l3 kind hk there h8 L n (i + 1) k (by omega) (by omega) hkl hp
    · rw [e, cond_false] at hp
      cases hq : (planAt kind there i).2.2.2 with
      | false => rw [hq, cond_false] at hp; exact absurd (congrArg Prod.snd hp) (by simp)
      | true =>
        rw [hq, cond_true] at hp
        obtain ⟨S, eS⟩ := plansR_ext hp
        obtain ⟨g1, g2, g3⟩ := cut_at (z := ((0, ([], [])) : Pln)) hkl rfl eS
        rw [← g3] at hp
        have sl := c13 ((planAt kind there i).1, (planAt kind there i).2.1, (planAt kind there i).2.2.1) (by dsimp only; omega) (by dsimp only; omega)
        have nx := l3 kind hk there h8 L n (i + 1) (k + 1) (by omega) (by omega) (by omega) hp
        rw [g2, wS (i := k) (by omega)]
        refine ⟨planAt kind there i, sp, Br_f (by omega) ?_⟩
        rw [hq]
        exact Br_nb (fun e => by cases e) (fun _ => Ck_d (by omega) (Ck_d (by omega) (Ck_lt (by omega) ⟨true, sl, Br_nb (fun e => by cases e) (fun _ => nx)⟩)))
theorem c3 (code : List Int) (hc : Bytes code) : SC P 3 [.one (.ro (.int .u8) code)] [] [.one (.bool true)] [] := by
  refine SC_of_FB (H := H3) E_ok Try.func3 (by kernel_rfl) ?_
  rw [eq3]
  refine Br_d (fun _ => ⟨rfl, rfl⟩) (fun hcl => ?_)
  obtain ⟨k, t, ht, s0⟩ := c8 code hc
  have s1 := c9 k t
  have s2 := c10 k t (by omega)
  have s3 := c11 k t (by omega)
  cases ho : (planAllF k t).2 with
  | false =>
    rw [all_none ho] at s3
    rw [ho] at s1 s2
    generalize (planAllF k t).1 = L at s1 s2
    exact ⟨(k, t), s0, (L, false), s1, (L, false), s2, Br_bne rfl (Br_nd (fun e => absurd rfl e) (fun _ => Br_nb (fun _ => Br_beq rfl (Br_t rfl (Br_b (fun _ => ⟨rfl, rfl⟩) (fun _ => ⟨false, s3, rfl, rfl⟩)))) (fun e => by cases e)))⟩
  | true =>
    have hd := ho
    rw [planAllF] at hd
    cases hg : inB k 1 2 && decide (t.length = 8) with
    | false => rw [hg, cond_false] at hd; cases hd
    | true =>
      have hp : plansR k t 0 8 [] = ((planAllF k t).1, true) := by
        rw [← ho, planAllF, hg, cond_true]
      rw [ho] at s1 s2
      generalize (planAllF k t).1 = L at s1 s2 hp
      rw [Bool.and_eq_true, decide_eq_true_iff] at hg
      have hF := l3 k hg.1 t hg.2 L 8 0 0 rfl (Nat.le_refl _) (Nat.zero_le _) (by rw [List.take_zero]; exact hp)
      exact ⟨(k, t), s0, (L, true), s1, (L, true), s2, Br_bne rfl (Br_nd (fun e => absurd rfl e) (fun _ => Br_nb (fun e => by cases e) (fun _ => hF)))⟩
end Go.Proofs.Ytjoiadaogppmkaa.Sh
