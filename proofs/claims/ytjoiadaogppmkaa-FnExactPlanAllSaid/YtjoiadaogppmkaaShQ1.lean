/- Plans that the reference finds, and drawn programs: contracts. -/
import Derived.Test.YtjoiadaogppmkaaShQ
import Derived.Test.YtjoiadaogppmkaaShS1
import Derived.Test.YtjoiadaogppmkaaMaPlanC
namespace Go.Proofs.Ytjoiadaogppmkaa.Sh
open Go
set_option linter.unusedVariables false
set_option linter.unusedSimpArgs false
theorem dec8' {n : Nat} : decide ((n : Int) = 8) = decide (n = 8) := decide_eq_decide.2 (by omega)
theorem rowsL_p' {kind : Int} {p : List Int} : RowsP 4 (rowsL kind p) := by
  intro l hl
  obtain ⟨i, _, rfl⟩ := List.mem_map.1 hl
  exact rowP_v (rowV_ok _ _)
abbrev PlnR := Int × List Int × List Int × Bool
def resP (lost : Int) : Option (List Int × List Int) → PlnR
  | some q => (lost, q.1, q.2, true)
  | none => (0, [], [], false)
def planT (kind lost : Int) (S : List Int) : Option (List Int × List Int) := (planS kind lost S).map fun b => (S, b)
/-- what is left of the others, from a place on -/
def remF (lost : Int) (there : List Bool) (i n : Nat) : List Int := filterR (fun j => there.getD j false && !decide ((j : Int) = lost)) (fun j => (j : Int)) i n
theorem filterR_filt {α : Type} {p : Nat → Bool} {f : Nat → α} {q : α → Bool} : ∀ {n i : Nat}, (filterR p f i n).filter q = filterR (fun j => p j && q (f j)) f i n
  | 0, _ => rfl
  | n + 1, i => by
    rw [filterR, filterR]
    cases h : p i with
    | false => rw [cond_false, Bool.false_and, cond_false]; exact filterR_filt
    | true =>
      rw [cond_true, Bool.true_and, List.filter_cons, filterR_filt]
      cases q (f i) <;> rfl
theorem remF_others {lost : Int} {there : List Bool} (h8 : there.length = 8) : remF lost there 0 8 = othersF lost there := by
  rw [othersF, flagF, h8, filterR_filt]; rfl
theorem remF_cons {lost : Int} {there : List Bool} {i n : Nat} (h : there.getD i false = true) (hn : ¬ (i : Int) = lost) : remF lost there i (n + 1) = (i : Int) :: remF lost there (i + 1) n := by
  rw [remF, filterR, h, decide_eq_false hn]; rfl
theorem remF_skip {lost : Int} {there : List Bool} {i n : Nat} (h : (there.getD i false && !decide ((i : Int) = lost)) = false) : remF lost there i (n + 1) = remF lost there (i + 1) n := by
  rw [remF, filterR, h]; rfl
theorem sub_sh {S : List Int} (h : S.Sublist every8L) : ShOk S ∧ S.length ≤ 8 := by
  refine ⟨fun i hi => ?_, h.length_le⟩
  have := h.subset hi
  simp only [every8L, List.mem_cons, List.not_mem_nil, or_false] at this
  omega
/-! loop.example/keelson/spec.l11Plan -/
def H103 : Hint := ⟨[[(0, 0, .bool), (1, 0, .bool), (2, 0, .bool), (6, 0, .bool), (8, 0, .bool), (9, 0, .bool)]], [], [], [], [.agg [.c (.int .i64), .own (.int .i64), .own (.int .i64)], .one (.c .bool)], [], []⟩
def S103_L0 (kind0 : Int) (lost1 : Int) (x2 : List Int) (i9 : Int) (b0_0 : Int) (h1 : List (List Int)) : St := ⟨[(0, .w (.one (.int .i64 kind0))), (1, .w (.one (.int .i64 lost1))), (2, .w (.one (.ro (.int .i64) x2))), (6, .w (.one (.ptr 0 0 0))), (8, .w (.one (.sl 1 none))), (9, .w (.one (.int .i64 i9)))], [.box [.int .i64 b0_0, .nil, .nil], .row (.sl (.int .i64)) h1 .own]⟩
theorem eq103 (kind : Int) (lost : Int) (from0 : List Int) (r : List W) (lh : Heap) : FB E H103 Try.f103 [.one (.int .i64 kind), .one (.int .i64 lost), .one (.ro (.int .i64) from0)] [] r lh =
  (
   FL E H103 Try.f103 0 r lh 0 (S103_L0 kind lost from0 0 0 [])) := by kernel_rfl
theorem eq103_L0 (kind0 : Int) (lost1 : Int) (x2 : List Int) (i9 : Int) (b0_0 : Int) (h1 : List (List Int)) (r : List W) (lh : Heap) : FL1 E H103 Try.f103 0 r lh 0 (S103_L0 kind0 lost1 x2 i9 b0_0 h1) =
  (
   Br (decide (i9 < ((x2.length : Nat) : Int))) (
    Ck (decide ((0 : Int) ≤ i9)) (
     Ck (decide (i9 < ((x2.length : Nat) : Int))) (
      ∃ r0 : List Int, SC P 100 [.one (.int .i64 kind0), .one (.int .i64 (x2.getD i9.toNat 0))] [] [.one (.ro (.int .i64) r0)] [] ∧
       Ck (Nat.ble ((h1.length + 1) * 24) roomy) (
        FL E H103 Try.f103 0 r lh 0 (S103_L0 kind0 lost1 x2 (IntKind.wrap .i64 (i9 + 1)) b0_0 (h1 ++ [r0])))))) (
    ∃ r1 : List Int, SC P 130 [.one (.ro (.sl (.int .i64)) h1)] [] [.one (.sl 0 none)] [.row (.int .i64) r1 .own] ∧
     Br (decide (((r1.length : Nat) : Int) < ((h1.length : Nat) : Int))) (
      Ret r lh [.agg [.int .i64 0, .sl 0 none, .sl 1 none], .one (.bool false)] [.row (.int .i64) [] .own, .row (.int .i64) [] .own]) (
      ∃ r2 : List Int, SC P 100 [.one (.int .i64 kind0), .one (.int .i64 lost1)] [] [.one (.ro (.int .i64) r2)] [] ∧
       ∃ r3 : List Int × Bool, SC P 102 [.one (.ro (.sl (.int .i64)) h1), .one (.ro (.int .i64) r2)] [] [.one (.sl 0 none), .one (.bool r3.2)] [.row (.int .i64) r3.1 .own] ∧
        Br (!r3.2) (
         Ret r lh [.agg [.int .i64 0, .sl 0 none, .sl 1 none], .one (.bool false)] [.row (.int .i64) [] .own, .row (.int .i64) [] .own]) (
         Ck (Nat.ble ((0 + x2.length) * 8) roomy) (
          Ret r lh [.agg [.int .i64 lost1, .sl 0 none, .sl 1 none], .one (.bool true)] [.row (.int .i64) ([] ++ x2) .own, .row (.int .i64) r3.1 .own]))))) := by kernel_rfl
theorem l103 (kind : Int) (hk : inB kind 1 2 = true) (lost : Int) (h0 : 0 ≤ lost) (h1 : lost ≤ 7) (S : List Int) (hs : ShOk S) (h8 : S.length ≤ 8) (hw : wellL [] (rowsL kind S) = true) : ∀ (n i : Nat) (out : List (List Int)), i + n = S.length → out.length = i → out ++ mapR (fun j => (rowV kind (S.getD j 0)).l) i n = rowsL kind S →
    FL E H103 Try.f103 0 [.agg [.int .i64 (resP lost (planT kind lost S)).1, .sl 0 none, .sl 1 none], .one (.bool (resP lost (planT kind lost S)).2.2.2)] [.row (.int .i64) (resP lost (planT kind lost S)).2.1 .own, .row (.int .i64) (resP lost (planT kind lost S)).2.2.1 .own] 0 (S103_L0 kind lost S (i : Int) 0 out)
  | 0, i, out, h, ho, e => by
    rw [mapR, List.append_nil] at e
    subst e
    have hl : (rowsL kind S).length = S.length := List.length_map _
    refine FL_of1 ?_
    rw [eq103_L0]
    refine Br_f (by omega) ⟨_, c130 _ rowsL_p' (by omega) hw, Br_d (fun c => ?_) (fun c => ⟨_, c100 kind lost hk h0 h1, (_, _), c102 (rowsL kind S) (rowV kind lost).l rowsL_p' (rowP_v (rowV_ok _ _)) (by omega), Br_nb (fun e => ?_) (fun e => Ck_room (by omega) ?_)⟩)⟩
    · have : planT kind lost S = none := by rw [planT, planS, decide_eq_true (by omega)]; rfl
      rw [this]; exact ⟨rfl, rfl⟩
    · have : planT kind lost S = none := by rw [planT, planS, decide_eq_false (by omega), show byOk (rowsL kind S) (rowV kind lost).l = false from e]; rfl
      rw [this]; exact ⟨rfl, rfl⟩
    · have : planT kind lost S = some (S, byL (rowsL kind S) (rowV kind lost).l) := by rw [planT, planS, decide_eq_false (by omega), show byOk (rowsL kind S) (rowV kind lost).l = true from e]; rfl
      rw [this]; exact ⟨rfl, rfl⟩
  | n + 1, i, out, h, ho, e => by
    have hi : i < S.length := by omega
    obtain ⟨g0, g1⟩ : 0 ≤ S.getD i 0 ∧ S.getD i 0 ≤ 7 := by rw [getD_eq hi]; exact hs _ (List.getElem_mem hi)
    refine FL_of1 ?_
    rw [eq103_L0, wS (i := i) (by omega)]
    simp only [Int.toNat_natCast]
    refine Br_t (by omega) (Ck_d (by omega) (Ck_d (by omega) ⟨_, c100 kind _ hk g0 g1, Ck_room (by omega) ?_⟩))
    refine l103 kind hk lost h0 h1 S hs h8 hw n (i + 1) _ (by omega) (by simp; omega) ?_
    rw [List.append_assoc]
    rw [mapR] at e
    exact e
theorem c103 (kind : Int) (hk : inB kind 1 2 = true) (lost : Int) (h0 : 0 ≤ lost) (h1 : lost ≤ 7) (S : List Int) (hs : ShOk S) (h8 : S.length ≤ 8) (hw : wellL [] (rowsL kind S) = true) : SC P 103 [.one (.int .i64 kind), .one (.int .i64 lost), .one (.ro (.int .i64) S)] [] [.agg [.int .i64 (resP lost (planT kind lost S)).1, .sl 0 none, .sl 1 none], .one (.bool (resP lost (planT kind lost S)).2.2.2)] [.row (.int .i64) (resP lost (planT kind lost S)).2.1 .own, .row (.int .i64) (resP lost (planT kind lost S)).2.2.1 .own] := by
  refine SC_of_FB (H := H103) E_ok Try.func103 (by kernel_rfl) ?_
  rw [eq103]
  exact l103 kind hk lost h0 h1 S hs h8 hw S.length 0 [] (Nat.zero_add _) rfl (mapR_map (l := S) (z := 0) fun x => (rowV kind x).l)
/-! loop.example/keelson/spec.l11Search -/
def H77 : Hint := ⟨[[(0, 0, .bool), (1, 0, .bool), (2, 0, .bool), (3, 0, .bool), (5, 0, .bool), (12, 0, .bool), (14, 0, .bool)]], [], [], [], [.agg [.c (.int .i64), .own (.int .i64), .own (.int .i64)], .one (.c .bool)], [], []⟩
def S77_L0 (kind0 : Int) (lost1 : Int) (there2 : List Bool) (x3 : List Int) (many5 : Int) (i14 : Int) (b0_0 : Int) : St := ⟨[(0, .w (.one (.int .i64 kind0))), (1, .w (.one (.int .i64 lost1))), (2, .w (.one (.ro .bool there2))), (3, .w (.one (.ro (.int .i64) x3))), (5, .w (.one (.int .i64 many5))), (12, .w (.one (.ptr 0 0 0))), (14, .w (.one (.int .i64 i14)))], [.box [.int .i64 b0_0, .nil, .nil]]⟩
theorem eq77 (kind : Int) (lost : Int) (there : List Bool) (from0 : List Int) (at0 : Int) (many : Int) (r : List W) (lh : Heap) : FB E H77 Try.f77 [.one (.int .i64 kind), .one (.int .i64 lost), .one (.ro .bool there), .one (.ro (.int .i64) from0), .one (.int .i64 at0), .one (.int .i64 many)] [] r lh =
  (
   Br (decide (many = (0 : Int))) (
    ∃ r0 : Int × List Int × List Int × Bool, SC P 103 [.one (.int .i64 kind), .one (.int .i64 lost), .one (.ro (.int .i64) from0)] [] [.agg [.int .i64 r0.1, .sl 0 none, .sl 1 none], .one (.bool r0.2.2.2)] [.row (.int .i64) r0.2.1 .own, .row (.int .i64) r0.2.2.1 .own] ∧
     Ret r lh [.agg [.int .i64 r0.1, .sl 0 none, .sl 1 none], .one (.bool r0.2.2.2)] [.row (.int .i64) r0.2.1 .own, .row (.int .i64) r0.2.2.1 .own]) (
    FL E H77 Try.f77 0 r lh 0 (S77_L0 kind lost there from0 many at0 0))) := by kernel_rfl
theorem eq77_L0 (kind0 : Int) (lost1 : Int) (there2 : List Bool) (x3 : List Int) (many5 : Int) (i14 : Int) (b0_0 : Int) (r : List W) (lh : Heap) : FL1 E H77 Try.f77 0 r lh 0 (S77_L0 kind0 lost1 there2 x3 many5 i14 b0_0) =
  (
   Br (decide (i14 < (8 : Int))) (
    Ck (decide ((0 : Int) ≤ i14)) (
     Ck (decide (i14 < ((there2.length : Nat) : Int))) (
      Br (!(there2.getD i14.toNat false)) (
       FL E H77 Try.f77 0 r lh 0 (S77_L0 kind0 lost1 there2 x3 many5 (IntKind.wrap .i64 (i14 + 1)) b0_0)) (
       Br (decide (i14 = lost1)) (
        FL E H77 Try.f77 0 r lh 0 (S77_L0 kind0 lost1 there2 x3 many5 (IntKind.wrap .i64 (i14 + 1)) b0_0)) (
        Ck (Nat.ble ((0 + x3.length) * 8) roomy) (
         Ck (Nat.ble ((([] ++ x3).length + 1) * 8) roomy) (
          ∃ r0 : Int × List Int × List Int × Bool, SC P 77 [.one (.int .i64 kind0), .one (.int .i64 lost1), .one (.ro .bool there2), .one (.ro (.int .i64) (([] ++ x3) ++ [i14])), .one (.int .i64 (IntKind.wrap .i64 (i14 + 1))), .one (.int .i64 (IntKind.wrap .i64 (many5 - 1)))] [] [.agg [.int .i64 r0.1, .sl 0 none, .sl 1 none], .one (.bool r0.2.2.2)] [.row (.int .i64) r0.2.1 .own, .row (.int .i64) r0.2.2.1 .own] ∧
           Br r0.2.2.2 (
            Ret r lh [.agg [.int .i64 r0.1, .sl 0 none, .sl 1 none], .one (.bool true)] [.row (.int .i64) r0.2.1 .own, .row (.int .i64) r0.2.2.1 .own]) (
            FL E H77 Try.f77 0 r lh 0 (S77_L0 kind0 lost1 there2 x3 many5 (IntKind.wrap .i64 (i14 + 1)) b0_0))))))))) (
    Ret r lh [.agg [.int .i64 0, .sl 0 none, .sl 1 none], .one (.bool false)] [.row (.int .i64) [] .own, .row (.int .i64) [] .own])) := by kernel_rfl
def SeH (lost : Int) (there : List Bool) (set : List Int) (i n : Nat) : Prop := ∀ T : List Int, T.Sublist (remF lost there i n) → (set ++ T).Sublist (othersF lost there)
theorem l77 (kind : Int) (lost : Int) (there : List Bool) (h8 : there.length = 8) (many : Nat) (set : List Int) (hl : set.length + (many + 1) ≤ 4)
    (IH : ∀ (set : List Int) (i n : Nat), i + n = 8 → SeH lost there set i n → 1 ≤ set.length + many → set.length + many ≤ 4 → SC P 77 [.one (.int .i64 kind), .one (.int .i64 lost), .one (.ro .bool there), .one (.ro (.int .i64) set), .one (.int .i64 (i : Int)), .one (.int .i64 (many : Int))] [] [.agg [.int .i64 (resP lost (findE (planT kind lost) (set.length + many) (remF lost there i n) set)).1, .sl 0 none, .sl 1 none], .one (.bool (resP lost (findE (planT kind lost) (set.length + many) (remF lost there i n) set)).2.2.2)] [.row (.int .i64) (resP lost (findE (planT kind lost) (set.length + many) (remF lost there i n) set)).2.1 .own, .row (.int .i64) (resP lost (findE (planT kind lost) (set.length + many) (remF lost there i n) set)).2.2.1 .own]) :
    ∀ (n i : Nat), i + n = 8 → SeH lost there set i n → FL E H77 Try.f77 0 [.agg [.int .i64 (resP lost (findL (planT kind lost) (set.length + (many + 1)) (remF lost there i n) set)).1, .sl 0 none, .sl 1 none], .one (.bool (resP lost (findL (planT kind lost) (set.length + (many + 1)) (remF lost there i n) set)).2.2.2)] [.row (.int .i64) (resP lost (findL (planT kind lost) (set.length + (many + 1)) (remF lost there i n) set)).2.1 .own, .row (.int .i64) (resP lost (findL (planT kind lost) (set.length + (many + 1)) (remF lost there i n) set)).2.2.1 .own] 0 (S77_L0 kind lost there set ((many + 1 : Nat) : Int) (i : Int) 0)
  | 0, i, h, hS => by
    refine FL_of1 ?_
    rw [eq77_L0]
    exact Br_f (by omega) ⟨rfl, rfl⟩
  | n + 1, i, h, hS => by
    refine FL_of1 ?_
    rw [eq77_L0, wS (i := i) (by omega)]
    simp only [Int.toNat_natCast, List.nil_append]
    refine Br_t (by omega) (Ck_d (by omega) (Ck_d (by omega) (Br_nb (fun e => ?_) (fun e => Br_d (fun e2 => ?_) (fun e2 => ?_)))))
    · have hr := remF_skip (lost := lost) (n := n) (show (there.getD i false && !decide ((i : Int) = lost)) = false by rw [e, Bool.false_and])
      rw [hr]
      exact l77 kind lost there h8 many set hl IH n (i + 1) (by omega) (fun T hT => hS T (by rw [hr]; exact hT))
    · have hr := remF_skip (there := there) (n := n) (show (there.getD i false && !decide ((i : Int) = lost)) = false by rw [decide_eq_true e2]; simp)
      rw [hr]
      exact l77 kind lost there h8 many set hl IH n (i + 1) (by omega) (fun T hT => hS T (by rw [hr]; exact hT))
    · have hr := remF_cons (n := n) e e2
      have hw : IntKind.wrap .i64 (((many + 1 : Nat) : Int) - 1) = (many : Int) := by rw [wrap64 (by omega) (by omega)]; omega
      have sc := IH (set ++ [(i : Int)]) (i + 1) n (by omega) (fun T hT => by
        have := hS ((i : Int) :: T) (by rw [hr]; exact hT.cons_cons _)
        rw [List.append_assoc]; exact this) (by simp; omega) (by simp; omega)
      have ih := l77 kind lost there h8 many set hl IH n (i + 1) (by omega) (fun T hT => hS T (by rw [hr]; exact hT.cons _))
      rw [show (set ++ [(i : Int)]).length + many = set.length + (many + 1) by rw [List.length_append, List.length_singleton]; omega] at sc
      rw [hr, findL_cons, hw]
      refine Ck_room (by omega) (Ck_room (by omega) ?_)
      cases hq : findE (planT kind lost) (set.length + (many + 1)) (remF lost there (i + 1) n) (set ++ [(i : Int)]) with
      | none =>
        rw [hq] at sc
        rw [Option.none_or]
        exact ⟨(0, [], [], false), sc, ih⟩
      | some q =>
        rw [hq] at sc
        exact ⟨(lost, q.1, q.2, true), sc, ⟨rfl, rfl⟩⟩
theorem c77 (kind : Int) (hk : inB kind 1 2 = true) (lost : Int) (h0 : 0 ≤ lost) (h1 : lost ≤ 7) (there : List Bool) (h8 : there.length = 8) : ∀ (many : Nat) (set : List Int) (i n : Nat), i + n = 8 → SeH lost there set i n → 1 ≤ set.length + many → set.length + many ≤ 4 → SC P 77 [.one (.int .i64 kind), .one (.int .i64 lost), .one (.ro .bool there), .one (.ro (.int .i64) set), .one (.int .i64 (i : Int)), .one (.int .i64 (many : Int))] [] [.agg [.int .i64 (resP lost (findE (planT kind lost) (set.length + many) (remF lost there i n) set)).1, .sl 0 none, .sl 1 none], .one (.bool (resP lost (findE (planT kind lost) (set.length + many) (remF lost there i n) set)).2.2.2)] [.row (.int .i64) (resP lost (findE (planT kind lost) (set.length + many) (remF lost there i n) set)).2.1 .own, .row (.int .i64) (resP lost (findE (planT kind lost) (set.length + many) (remF lost there i n) set)).2.2.1 .own]
  | 0, set, i, n, h, hS, m1, m4 => by
    have hsub := hS [] (List.nil_sublist _)
    rw [List.append_nil] at hsub
    obtain ⟨g1, g2⟩ := others_sub h8 hsub
    obtain ⟨g3, g4⟩ := sub_sh g1
    rw [show findE (planT kind lost) (set.length + 0) (remF lost there i n) set = planT kind lost set by rw [findE, decide_eq_true (Nat.add_zero _).symm]; rfl]
    refine SC_of_FB (H := H77) E_ok Try.func77 (by kernel_rfl) ?_
    rw [eq77]
    exact Br_t rfl ⟨_, c103 kind hk lost h0 h1 set g3 g4 (plan_at hk h0 h1 g1 g2 (by omega) (by omega)).well, rfl, rfl⟩
  | many + 1, set, i, n, h, hS, m1, m4 => by
    rw [show findE (planT kind lost) (set.length + (many + 1)) (remF lost there i n) set = findL (planT kind lost) (set.length + (many + 1)) (remF lost there i n) set by rw [findE, decide_eq_false (by omega)]; rfl]
    refine SC_of_FB (H := H77) E_ok Try.func77 (by kernel_rfl) ?_
    rw [eq77]
    exact Br_f (by omega) (l77 kind lost there h8 many set m4 (c77 kind hk lost h0 h1 there h8 many) n i h hS)
/-! loop.example/keelson/spec.l11Of -/
def H38 : Hint := ⟨[[(0, 0, .bool), (1, 0, .bool), (2, 0, .bool), (6, 0, .bool), (8, 0, .bool)]], [], [], [], [.agg [.c (.int .i64), .own (.int .i64), .own (.int .i64)], .one (.c .bool)], [], []⟩
def S38_L0 (kind0 : Int) (lost1 : Int) (there2 : List Bool) (many8 : Int) (b0_0 : Int) : St := ⟨[(0, .w (.one (.int .i64 kind0))), (1, .w (.one (.int .i64 lost1))), (2, .w (.one (.ro .bool there2))), (6, .w (.one (.ptr 0 0 0))), (8, .w (.one (.int .i64 many8)))], [.box [.int .i64 b0_0, .nil, .nil]]⟩
theorem eq38 (kind : Int) (lost : Int) (there : List Bool) (r : List W) (lh : Heap) : FB E H38 Try.f38 [.one (.int .i64 kind), .one (.int .i64 lost), .one (.ro .bool there)] [] r lh =
  (
   FL E H38 Try.f38 0 r lh 0 (S38_L0 kind lost there 1 0)) := by kernel_rfl
theorem eq38_L0 (kind0 : Int) (lost1 : Int) (there2 : List Bool) (many8 : Int) (b0_0 : Int) (r : List W) (lh : Heap) : FL1 E H38 Try.f38 0 r lh 0 (S38_L0 kind0 lost1 there2 many8 b0_0) =
  (
   Br (decide (many8 ≤ (4 : Int))) (
    ∃ r0 : Int × List Int × List Int × Bool, SC P 77 [.one (.int .i64 kind0), .one (.int .i64 lost1), .one (.ro .bool there2), .one (.ro (.int .i64) []), .one (.int .i64 0), .one (.int .i64 many8)] [] [.agg [.int .i64 r0.1, .sl 0 none, .sl 1 none], .one (.bool r0.2.2.2)] [.row (.int .i64) r0.2.1 .own, .row (.int .i64) r0.2.2.1 .own] ∧
     Br r0.2.2.2 (
      Ret r lh [.agg [.int .i64 r0.1, .sl 0 none, .sl 1 none], .one (.bool true)] [.row (.int .i64) r0.2.1 .own, .row (.int .i64) r0.2.2.1 .own]) (
      FL E H38 Try.f38 0 r lh 0 (S38_L0 kind0 lost1 there2 (IntKind.wrap .i64 (many8 + 1)) b0_0))) (
    Ret r lh [.agg [.int .i64 0, .sl 0 none, .sl 1 none], .one (.bool false)] [.row (.int .i64) [] .own, .row (.int .i64) [] .own])) := by kernel_rfl
def fewL {α : Type} (test : List Int → Option α) (others : List Int) : Nat → Nat → Option α
  | _, 0 => none
  | m, n + 1 => (findE test m others []).or (fewL test others (m + 1) n)
theorem fewL_fewest {α : Type} (test : List Int → Option α) (others : List Int) : fewL test others 1 4 = fewest test others := by
  simp only [fewL, fewest, Option.or_none]
theorem l38 (kind : Int) (hk : inB kind 1 2 = true) (lost : Int) (h0 : 0 ≤ lost) (h1 : lost ≤ 7) (there : List Bool) (h8 : there.length = 8) : ∀ (n m : Nat), m + n = 5 → 1 ≤ m → FL E H38 Try.f38 0 [.agg [.int .i64 (resP lost (fewL (planT kind lost) (othersF lost there) m n)).1, .sl 0 none, .sl 1 none], .one (.bool (resP lost (fewL (planT kind lost) (othersF lost there) m n)).2.2.2)] [.row (.int .i64) (resP lost (fewL (planT kind lost) (othersF lost there) m n)).2.1 .own, .row (.int .i64) (resP lost (fewL (planT kind lost) (othersF lost there) m n)).2.2.1 .own] 0 (S38_L0 kind lost there (m : Int) 0)
  | 0, m, h, hm => by
    refine FL_of1 ?_
    rw [eq38_L0]
    exact Br_f (by omega) ⟨rfl, rfl⟩
  | n + 1, m, h, hm => by
    have sc := c77 kind hk lost h0 h1 there h8 m [] 0 8 rfl (fun T hT => by rw [List.nil_append, ← remF_others h8]; exact hT) (by simp; omega) (by simp; omega)
    rw [List.length_nil, Nat.zero_add, remF_others h8] at sc
    refine FL_of1 ?_
    rw [eq38_L0, wS (i := m) (by omega), fewL]
    refine Br_t (by omega) ?_
    cases hq : findE (planT kind lost) m (othersF lost there) [] with
    | none =>
      rw [hq] at sc
      rw [Option.none_or]
      exact ⟨(0, [], [], false), sc, l38 kind hk lost h0 h1 there h8 n (m + 1) (by omega) (by omega)⟩
    | some q =>
      rw [hq] at sc
      exact ⟨(lost, q.1, q.2, true), sc, ⟨rfl, rfl⟩⟩
theorem c38 (kind : Int) (hk : inB kind 1 2 = true) (lost : Int) (h0 : 0 ≤ lost) (h1 : lost ≤ 7) (there : List Bool) (h8 : there.length = 8) : SC P 38 [.one (.int .i64 kind), .one (.int .i64 lost), .one (.ro .bool there)] [] [.agg [.int .i64 (resP lost (fewest (planT kind lost) (othersF lost there))).1, .sl 0 none, .sl 1 none], .one (.bool (resP lost (fewest (planT kind lost) (othersF lost there))).2.2.2)] [.row (.int .i64) (resP lost (fewest (planT kind lost) (othersF lost there))).2.1 .own, .row (.int .i64) (resP lost (fewest (planT kind lost) (othersF lost there))).2.2.1 .own] := by
  rw [← fewL_fewest]
  refine SC_of_FB (H := H38) E_ok Try.func38 (by kernel_rfl) ?_
  rw [eq38]
  exact l38 kind hk lost h0 h1 there h8 4 1 rfl (Nat.le_refl _)
/-- the least plan -/
def planOfF (kind lost : Int) (there : List Bool) : PlnR := bif inB kind 1 2 && (inB lost 0 7 && decide (there.length = 8)) then resP lost (fewest (planT kind lost) (othersF lost there)) else (0, [], [], false)
theorem fewest_some {α : Type} {test : List Int → Option α} {others : List Int} {p : α} (h : fewest test others = some p) : ∃ m, 1 ≤ m ∧ m ≤ 4 ∧ findL test m others [] = some p ∧ ∀ k, 1 ≤ k → k < m → findL test k others [] = none := by
  rw [fewest, findE_nil (by omega), findE_nil (by omega), findE_nil (by omega), findE_nil (by omega)] at h
  cases e1 : findL test 1 others [] with
  | some q => rw [e1, Option.some_or] at h; cases h; exact ⟨1, by omega, by omega, e1, fun k a b => by omega⟩
  | none =>
  cases e2 : findL test 2 others [] with
  | some q => rw [e1, e2, Option.none_or, Option.some_or] at h; cases h; exact ⟨2, by omega, by omega, e2, fun k a b => by rcases (show k = 1 by omega) with rfl; exact e1⟩
  | none =>
  cases e3 : findL test 3 others [] with
  | some q => rw [e1, e2, e3, Option.none_or, Option.none_or, Option.some_or] at h; cases h; exact ⟨3, by omega, by omega, e3, fun k a b => by rcases (show k = 1 ∨ k = 2 by omega) with rfl | rfl <;> assumption⟩
  | none =>
    rw [e1, e2, e3, Option.none_or, Option.none_or, Option.none_or] at h
    exact ⟨4, by omega, by omega, h, fun k a b => by rcases (show k = 1 ∨ k = 2 ∨ k = 3 by omega) with rfl | rfl | rfl <;> assumption⟩
theorem planOfF_len {kind lost : Int} {there : List Bool} : (planOfF kind lost there).2.1.length ≤ 4 ∧ (planOfF kind lost there).2.2.1.length ≤ 8 := by
  rw [planOfF]
  cases h : inB kind 1 2 && (inB lost 0 7 && decide (there.length = 8)) with
  | false => exact ⟨Nat.zero_le _, Nat.zero_le _⟩
  | true =>
    rw [Bool.and_eq_true, Bool.and_eq_true, decide_eq_true_iff] at h
    obtain ⟨hk, h2, h8⟩ := h
    obtain ⟨h0, h1⟩ := inB_iff.1 h2
    rw [cond_true]
    cases hq : fewest (planT kind lost) (othersF lost there) with
    | none => exact ⟨Nat.zero_le _, Nat.zero_le _⟩
    | some q =>
      obtain ⟨m, m1, m4, hm, _⟩ := fewest_some hq
      obtain ⟨T, t1, t2, t3⟩ := findL_some hm
      rw [List.nil_append] at t2 t3
      obtain ⟨g1, g2⟩ := others_sub h8 t1
      have hp := plan_at hk h0 h1 g1 g2 (by omega) (by omega)
      rw [planT, planS] at t3
      cases c1 : decide ((firstL (rowsL kind T)).length < (rowsL kind T).length) with
      | true => rw [c1] at t3; cases t3
      | false =>
        cases c2 : byOk (rowsL kind T) (rowV kind lost).l with
        | false => rw [c1, c2] at t3; cases t3
        | true =>
          rw [c1, c2] at t3
          cases t3
          exact ⟨by show T.length ≤ 4; omega, hp.by8⟩




end Go.Proofs.Ytjoiadaogppmkaa.Sh
