/- Plans that the reference finds, and drawn programs: contracts. -/
import Derived.Test.YtnbdhclkmcfdfaaShQ
import Derived.Test.YtnbdhclkmcfdfaaShS1
import Derived.Test.YtnbdhclkmcfdfaaMaPlanC
namespace Go.Proofs.Ytnbdhclkmcfdfaa.Sh
open Go
set_option linter.unusedVariables false
set_option linter.unusedSimpArgs false
theorem dec8' {n : Nat} : decide ((n : Int) = 8) = decide (n = 8) := decide_eq_decide.2 (by omega)
theorem rowsL_p' {kind : Int} {p : List Int} : RowsP 4 (rowsL kind p) := by
  intro l hl
  obtain ⟨i, _, rfl⟩ := List.mem_map.1 hl
  exact rowP_v (rowV_ok _ _)
abbrev PlnR := Int × List Int × List Int × Bool
def resP (lost : Int) : Option (List Int × List Int) → PlnR
  | some q => (lost, q.1, q.2, true)
  | none => (0, [], [], false)
def planT (kind lost : Int) (S : List Int) : Option (List Int × List Int) := (planS kind lost S).map fun b => (S, b)
/-- what is left of the others, from a place on -/
def remF (lost : Int) (there : List Bool) (i n : Nat) : List Int := filterR (fun j => there.getD j false && !decide ((j : Int) = lost)) (fun j => (j : Int)) i n
theorem filterR_filt {α : Type} {p : Nat → Bool} {f : Nat → α} {q : α → Bool} : ∀ {n i : Nat}, (filterR p f i n).filter q = filterR (fun j => p j && q (f j)) f i n
  | 0, _ => rfl
  | n + 1, i => by
    rw [filterR, filterR]
    cases h : p i with
    | false => rw [cond_false, Bool.false_and, cond_false]; exact filterR_filt
    | true =>
      rw [cond_true, Bool.true_and, List.filter_cons, filterR_filt]
      cases q (f i) <;> rfl
theorem remF_others {lost : Int} {there : List Bool} (h8 : there.length = 8) : remF lost there 0 8 = othersF lost there := by
  rw [othersF, flagF, h8, filterR_filt]; rfl
theorem remF_cons {lost : Int} {there : List Bool} {i n : Nat} (h : there.getD i false = true) (hn : ¬ (i : Int) = lost) : remF lost there i (n + 1) = (i : Int) :: remF lost there (i + 1) n := by
  rw [remF, filterR, h, decide_eq_false hn]; rfl
theorem remF_skip {lost : Int} {there : List Bool} {i n : Nat} (h : (there.getD i false && !decide ((i : Int) = lost)) = false) : remF lost there i (n + 1) = remF lost there (i + 1) n := by
  rw [remF, filterR, h]; rfl
theorem sub_sh {S : List Int} (h : S.Sublist every8L) : ShOk S ∧ S.length ≤ 8 := by
  refine ⟨fun i hi => ?_, h.length_le⟩
  have := h.subset hi
  simp only [every8L, List.mem_cons, List.not_mem_nil, or_false] at this
  omega
/-! loop.example/keelson/spec.l11Plan -/
def H135 : Hint := ⟨[[(0, 0, .bool), (1, 0, .bool), (2, 0, .bool), (6, 0, .bool), (8, 0, .bool), (9, 0, .bool)]], [], [], [], [.agg [.c (.int .i64), .own (.int .i64), .own (.int .i64)], .one (.c .bool)], [], []⟩
def S135_L0 (kind0 : Int) (lost1 : Int) (x2 : List Int) (i9 : Int) (b0_0 : Int) (h1 : List (List Int)) : St := ⟨[(0, .w (.one (.int .i64 kind0))), (1, .w (.one (.int .i64 lost1))), (2, .w (.one (.ro (.int .i64) x2))), (6, .w (.one (.ptr 0 0 0))), (8, .w (.one (.sl 1 none))), (9, .w (.one (.int .i64 i9)))], [.box [.int .i64 b0_0, .nil, .nil], .row (.sl (.int .i64)) h1 .own]⟩
theorem eq135 (kind : Int) (lost : Int) (from0 : List Int) (r : List W) (lh : Heap) : FB E H135 Try.f135 [.one (.int .i64 kind), .one (.int .i64 lost), .one (.ro (.int .i64) from0)] [] r lh =
  (
   FL E H135 Try.f135 0 r lh 0 (S135_L0 kind lost from0 0 0 [])) := by kernel_rfl
theorem eq135_L0 (kind0 : Int) (lost1 : Int) (x2 : List Int) (i9 : Int) (b0_0 : Int) (h1 : List (List Int)) (r : List W) (lh : Heap) : FL1 E H135 Try.f135 0 r lh 0 (S135_L0 kind0 lost1 x2 i9 b0_0 h1) =
  (
   Br (decide (i9 < ((x2.length : Nat) : Int))) (
    Ck (decide ((0 : Int) ≤ i9)) (
     Ck (decide (i9 < ((x2.length : Nat) : Int))) (
      ∃ r0 : List Int, SC P 86 [.one (.int .i64 kind0), .one (.int .i64 (x2.getD i9.toNat 0))] [] [.one (.ro (.int .i64) r0)] [] ∧
       Ck (Nat.ble ((h1.length + 1) * 24) roomy) (
        FL E H135 Try.f135 0 r lh 0 (S135_L0 kind0 lost1 x2 (IntKind.wrap .i64 (i9 + 1)) b0_0 (h1 ++ [r0])))))) (
    ∃ r1 : List Int, SC P 141 [.one (.ro (.sl (.int .i64)) h1)] [] [.one (.sl 0 none)] [.row (.int .i64) r1 .own] ∧
     Br (decide (((r1.length : Nat) : Int) < ((h1.length : Nat) : Int))) (
      Ret r lh [.agg [.int .i64 0, .sl 0 none, .sl 1 none], .one (.bool false)] [.row (.int .i64) [] .own, .row (.int .i64) [] .own]) (
      ∃ r2 : List Int, SC P 86 [.one (.int .i64 kind0), .one (.int .i64 lost1)] [] [.one (.ro (.int .i64) r2)] [] ∧
       ∃ r3 : List Int × Bool, SC P 142 [.one (.ro (.sl (.int .i64)) h1), .one (.ro (.int .i64) r2)] [] [.one (.sl 0 none), .one (.bool r3.2)] [.row (.int .i64) r3.1 .own] ∧
        Br (!r3.2) (
         Ret r lh [.agg [.int .i64 0, .sl 0 none, .sl 1 none], .one (.bool false)] [.row (.int .i64) [] .own, .row (.int .i64) [] .own]) (
         Ck (Nat.ble ((0 + x2.length) * 8) roomy) (
          Ret r lh [.agg [.int .i64 lost1, .sl 0 none, .sl 1 none], .one (.bool true)] [.row (.int .i64) ([] ++ x2) .own, .row (.int .i64) r3.1 .own]))))) := by kernel_rfl
theorem l135 (kind : Int) (hk : inB kind 1 2 = true) (lost : Int) (h0 : 0 ≤ lost) (h1 : lost ≤ 7) (S : List Int) (hs : ShOk S) (h8 : S.length ≤ 8) (hw : wellL [] (rowsL kind S) = true) : ∀ (n i : Nat) (out : List (List Int)), i + n = S.length → out.length = i → out ++ mapR (fun j => (rowV kind (S.getD j 0)).l) i n = rowsL kind S →
    FL E H135 Try.f135 0 [.agg [.int .i64 (resP lost (planT kind lost S)).1, .sl 0 none, .sl 1 none], .one (.bool (resP lost (planT kind lost S)).2.2.2)] [.row (.int .i64) (resP lost (planT kind lost S)).2.1 .own, .row (.int .i64) (resP lost (planT kind lost S)).2.2.1 .own] 0 (S135_L0 kind lost S (i : Int) 0 out)
  | 0, i, out, h, ho, e => by
    rw [mapR, List.append_nil] at e
    subst e
    have hl : (rowsL kind S).length = S.length := List.length_map _
    refine FL_of1 ?_
    rw [eq135_L0]
    refine Br_f (by omega) ⟨_, c141 _ rowsL_p' (by omega) hw, Br_d (fun c => ?_) (fun c => ⟨_, c86 kind lost hk h0 h1, (_, _), c142 (rowsL kind S) (rowV kind lost).l rowsL_p' (rowP_v (rowV_ok _ _)) (by omega), Br_nb (fun e => ?_) (fun e => Ck_room (by omega) ?_)⟩)⟩
    · have : planT kind lost S = none := by rw [planT, planS, decide_eq_true (by omega)]; rfl
      rw [this]; exact ⟨rfl, rfl⟩
    · have : planT kind lost S = none := by rw [planT, planS, decide_eq_false (by omega), show byOk (rowsL kind S) (rowV kind lost).l = false from e]; rfl
      rw [this]; exact ⟨rfl, rfl⟩
    · have : planT kind lost S = some (S, byL (rowsL kind S) (rowV kind lost).l) := by rw [planT, planS, decide_eq_false (by omega), show byOk (rowsL kind S) (rowV kind lost).l = true from e]; rfl
      rw [this]; exact ⟨rfl, rfl⟩
  | n + 1, i, out, h, ho, e => by
    have hi : i < S.length := by omega
    obtain ⟨g0, g1⟩ : 0 ≤ S.getD i 0 ∧ S.getD i 0 ≤ 7 := by rw [getD_eq hi]; exact hs _ (List.getElem_mem hi)
    refine FL_of1 ?_
    rw [eq135_L0, wS (i := i) (by omega)]
    simp only [Int.toNat_natCast]
    refine Br_t (by omega) (Ck_d (by omega) (Ck_d (by omega) ⟨_, c86 kind _ hk g0 g1, Ck_room (by omega) ?_⟩))
    refine l135 kind hk lost h0 h1 S hs h8 hw n (i + 1) _ (by omega) (by simp; omega) ?_
    rw [List.append_assoc]
    rw [mapR] at e
    exact e
theorem c135 (kind : Int) (hk : inB kind 1 2 = true) (lost : Int) (h0 : 0 ≤ lost) (h1 : lost ≤ 7) (S : List Int) (hs : ShOk S) (h8 : S.length ≤ 8) (hw : wellL [] (rowsL kind S) = true) : SC P 135 [.one (.int .i64 kind), .one (.int .i64 lost), .one (.ro (.int .i64) S)] [] [.agg [.int .i64 (resP lost (planT kind lost S)).1, .sl 0 none, .sl 1 none], .one (.bool (resP lost (planT kind lost S)).2.2.2)] [.row (.int .i64) (resP lost (planT kind lost S)).2.1 .own, .row (.int .i64) (resP lost (planT kind lost S)).2.2.1 .own] := by
  refine SC_of_FB (H := H135) E_ok Try.func135 (by kernel_rfl) ?_
  rw [eq135]
  exact l135 kind hk lost h0 h1 S hs h8 hw S.length 0 [] (Nat.zero_add _) rfl (mapR_map (l := S) (z := 0) fun x => (rowV kind x).l)
/-! loop.example/keelson/spec.l11Search -/
def H120 : Hint := ⟨[[(0, 0, .bool), (1, 0, .bool), (2, 0, .bool), (3, 0, .bool), (5, 0, .bool), (12, 0, .bool), (14, 0, .bool)]], [], [], [], [.agg [.c (.int .i64), .own (.int .i64), .own (.int .i64)], .one (.c .bool)], [], []⟩
def S120_L0 (kind0 : Int) (lost1 : Int) (there2 : List Bool) (x3 : List Int) (many5 : Int) (i14 : Int) (b0_0 : Int) : St := ⟨[(0, .w (.one (.int .i64 kind0))), (1, .w (.one (.int .i64 lost1))), (2, .w (.one (.ro .bool there2))), (3, .w (.one (.ro (.int .i64) x3))), (5, .w (.one (.int .i64 many5))), (12, .w (.one (.ptr 0 0 0))), (14, .w (.one (.int .i64 i14)))], [.box [.int .i64 b0_0, .nil, .nil]]⟩
theorem eq120 (kind : Int) (lost : Int) (there : List Bool) (from0 : List Int) (at0 : Int) (many : Int) (r : List W) (lh : Heap) : FB E H120 Try.f120 [.one (.int .i64 kind), .one (.int .i64 lost), .one (.ro .bool there), .one (.ro (.int .i64) from0), .one (.int .i64 at0), .one (.int .i64 many)] [] r lh =
  (
   Br (decide (many = (0 : Int))) (
    ∃ r0 : Int × List Int × List Int × Bool, SC P 135 [.one (.int .i64 kind), .one (.int .i64 lost), .one (.ro (.int .i64) from0)] [] [.agg [.int .i64 r0.1, .sl 0 none, .sl 1 none], .one (.bool r0.2.2.2)] [.row (.int .i64) r0.2.1 .own, .row (.int .i64) r0.2.2.1 .own] ∧
     Ret r lh [.agg [.int .i64 r0.1, .sl 0 none, .sl 1 none], .one (.bool r0.2.2.2)] [.row (.int .i64) r0.2.1 .own, .row (.int .i64) r0.2.2.1 .own]) (
    FL E H120 Try.f120 0 r lh 0 (S120_L0 kind lost there from0 many at0 0))) := by kernel_rfl
theorem eq120_L0 (kind0 : Int) (lost1 : Int) (there2 : List Bool) (x3 : List Int) (many5 : Int) (i14 : Int) (b0_0 : Int) (r : List W) (lh : Heap) : FL1 E H120 Try.f120 0 r lh 0 (S120_L0 kind0 lost1 there2 x3 many5 i14 b0_0) =
  (
   Br (decide (i14 < (8 : Int))) (
    Ck (decide ((0 : Int) ≤ i14)) (
     Ck (decide (i14 < ((there2.length : Nat) : Int))) (
      Br (!(there2.getD i14.toNat false)) (
       FL E H120 Try.f120 0 r lh 0 (S120_L0 kind0 lost1 there2 x3 many5 (IntKind.wrap .i64 (i14 + 1)) b0_0)) (
       Br (decide (i14 = lost1)) (
        FL E H120 Try.f120 0 r lh 0 (S120_L0 kind0 lost1 there2 x3 many5 (IntKind.wrap .i64 (i14 + 1)) b0_0)) (
        Ck (Nat.ble ((0 + x3.length) * 8) roomy) (
         Ck (Nat.ble ((([] ++ x3).length + 1) * 8) roomy) (
          ∃ r0 : Int × List Int × List Int × Bool, SC P 120 [.one (.int .i64 kind0), .one (.int .i64 lost1), .one (.ro .bool there2), .one (.ro (.int .i64) (([] ++ x3) ++ [i14])), .one (.int .i64 (IntKind.wrap .i64 (i14 + 1))), .one (.int .i64 (IntKind.wrap .i64 (many5 - 1)))] [] [.agg [.int .i64 r0.1, .sl 0 none, .sl 1 none], .one (.bool r0.2.2.2)] [.row (.int .i64) r0.2.1 .own, .row (.int .i64) r0.2.2.1 .own] ∧
           Br r0.2.2.2 (
            Ret r lh [.agg [.int .i64 r0.1, .sl 0 none, .sl 1 none], .one (.bool true)] [.row (.int .i64) r0.2.1 .own, .row (.int .i64) r0.2.2.1 .own]) (
            FL E H120 Try.f120 0 r lh 0 (S120_L0 kind0 lost1 there2 x3 many5 (IntKind.wrap .i64 (i14 + 1)) b0_0))))))))) (
    Ret r lh [.agg [.int .i64 0, .sl 0 none, .sl 1 none], .one (.bool false)] [.row (.int .i64) [] .own, .row (.int .i64) [] .own])) := by kernel_rfl
def SeH (lost : Int) (there : List Bool) (set : List Int) (i n : Nat) : Prop := ∀ T : List Int, T.Sublist (remF lost there i n) → (set ++ T).Sublist (othersF lost there)
theorem l120 (kind : Int) (lost : Int) (there : List Bool) (h8 : there.length = 8) (many : Nat) (set : List Int) (hl : set.length + (many + 1) ≤ 4)
    (IH : ∀ (set : List Int) (i n : Nat), i + n = 8 → SeH lost there set i n → 1 ≤ set.length + many → set.length + many ≤ 4 → SC P 120 [.one (.int .i64 kind), .one (.int .i64 lost), .one (.ro .bool there), .one (.ro (.int .i64) set), .one (.int .i64 (i : Int)), .one (.int .i64 (many : Int))] [] [.agg [.int .i64 (resP lost (findE (planT kind lost) (set.length + many) (remF lost there i n) set)).1, .sl 0 none, .sl 1 none], .one (.bool (resP lost (findE (planT kind lost) (set.length + many) (remF lost there i n) set)).2.2.2)] [.row (.int .i64) (resP lost (findE (planT kind lost) (set.length + many) (remF lost there i n) set)).2.1 .own, .row (.int .i64) (resP lost (findE (planT kind lost) (set.length + many) (remF lost there i n) set)).2.2.1 .own]) :
    ∀ (n i : Nat), i + n = 8 → SeH lost there set i n → FL E H120 Try.f120 0 [.agg [.int .i64 (resP lost (findL (planT kind lost) (set.length + (many + 1)) (remF lost there i n) set)).1, .sl 0 none, .sl 1 none], .one (.bool (resP lost (findL (planT kind lost) (set.length + (many + 1)) (remF lost there i n) set)).2.2.2)] [.row (.int .i64) (resP lost (findL (planT kind lost) (set.length + (many + 1)) (remF lost there i n) set)).2.1 .own, .row (.int .i64) (resP lost (findL (planT kind lost) (set.length + (many + 1)) (remF lost there i n) set)).2.2.1 .own] 0 (S120_L0 kind lost there set ((many + 1 : Nat) : Int) (i : Int) 0)
  | 0, i, h, hS => by
    refine FL_of1 ?_
    rw [eq120_L0]
    exact Br_f (by omega) ⟨rfl, rfl⟩
  | n + 1, i, h, hS => by
    refine FL_of1 ?_
    rw [eq120_L0, wS (i := i) (by omega)]
    simp only [Int.toNat_natCast, List.nil_append]
    refine Br_t (by omega) (Ck_d (by omega) (Ck_d (by omega) (Br_nb (fun e => ?_) (fun e => Br_d (fun e2 => ?_) (fun e2 => ?_)))))
    · have hr := remF_skip (lost := lost) (n := n) (show (there.getD i false && !decide ((i : Int) = lost)) = false by rw [e, Bool.false_and])
      rw [hr]
      exact l120 kind lost there h8 many set hl IH n (i + 1) (by omega) (fun T hT => hS T (by rw [hr]; exact hT))
    · have hr := remF_skip (there := there) (n := n) (show (there.getD i false && !decide ((i : Int) = lost)) = false by rw [decide_eq_true e2]; simp)
      rw [hr]
      exact l120 kind lost there h8 many set hl IH n (i + 1) (by omega) (fun T hT => hS T (by rw [hr]; exact hT))
    · have hr := remF_cons (n := n) e e2
      have hw : IntKind.wrap .i64 (((many + 1 : Nat) : Int) - 1) = (many : Int) := by rw [wrap64 (by omega) (by omega)]; omega
      have sc := IH (set ++ [(i : Int)]) (i + 1) n (by omega) (fun T hT => by
        have := hS ((i : Int) :: T) (by rw [hr]; exact hT.cons_cons _)
        rw [List.append_assoc]; exact this) (by simp; omega) (by simp; omega)
      have ih := l120 kind lost there h8 many set hl IH n (i + 1) (by omega) (fun T hT => hS T (by rw [hr]; exact hT.cons _))
      rw [show (set ++ [(i : Int)]).length + many = set.length + (many + 1) by rw [List.length_append, List.length_singleton]; omega] at sc
      rw [hr, findL_cons, hw]
      refine Ck_room (by omega) (Ck_room (by omega) ?_)
      cases hq : findE (planT kind lost) (set.length + (many + 1)) (remF lost there (i + 1) n) (set ++ [(i : Int)]) with
      | none =>
        rw [hq] at sc
        rw [Option.none_or]
        exact ⟨(0, [], [], false), sc, ih⟩
      | some q =>
        rw [hq] at sc
        exact ⟨(lost, q.1, q.2, true), sc, ⟨rfl, rfl⟩⟩
theorem c120 (kind : Int) (hk : inB kind 1 2 = true) (lost : Int) (h0 : 0 ≤ lost) (h1 : lost ≤ 7) (there : List Bool) (h8 : there.length = 8) : ∀ (many : Nat) (set : List Int) (i n : Nat), i + n = 8 → SeH lost there set i n → 1 ≤ set.length + many → set.length + many ≤ 4 → SC P 120 [.one (.int .i64 kind), .one (.int .i64 lost), .one (.ro .bool there), .one (.ro (.int .i64) set), .one (.int .i64 (i : Int)), .one (.int .i64 (many : Int))] [] [.agg [.int .i64 (resP lost (findE (planT kind lost) (set.length + many) (remF lost there i n) set)).1, .sl 0 none, .sl 1 none], .one (.bool (resP lost (findE (planT kind lost) (set.length + many) (remF lost there i n) set)).2.2.2)] [.row (.int .i64) (resP lost (findE (planT kind lost) (set.length + many) (remF lost there i n) set)).2.1 .own, .row (.int .i64) (resP lost (findE (planT kind lost) (set.length + many) (remF lost there i n) set)).2.2.1 .own]
  | 0, set, i, n, h, hS, m1, m4 => by
    have hsub := hS [] (List.nil_sublist _)
    rw [List.append_nil] at hsub
    obtain ⟨g1, g2⟩ := others_sub h8 hsub
    obtain ⟨g3, g4⟩ := sub_sh g1
    rw [show findE (planT kind lost) (set.length + 0) (remF lost there i n) set = planT kind lost set by rw [findE, decide_eq_true (Nat.add_zero _).symm]; rfl]
    refine SC_of_FB (H := H120) E_ok Try.func120 (by kernel_rfl) ?_
    rw [eq120]
    exact Br_t rfl ⟨_, c135 kind hk lost h0 h1 set g3 g4 (plan_at hk h0 h1 g1 g2 (by omega) (by omega)).well, rfl, rfl⟩
  | many + 1, set, i, n, h, hS, m1, m4 => by
    rw [show findE (planT kind lost) (set.length + (many + 1)) (remF lost there i n) set = findL (planT kind lost) (set.length + (many + 1)) (remF lost there i n) set by rw [findE, decide_eq_false (by omega)]; rfl]
    refine SC_of_FB (H := H120) E_ok Try.func120 (by kernel_rfl) ?_
    rw [eq120]
    exact Br_f (by omega) (l120 kind lost there h8 many set m4 (c120 kind hk lost h0 h1 there h8 many) n i h hS)
/-! loop.example/keelson/spec.l11Of -/
def H102 : Hint := ⟨[[(0, 0, .bool), (1, 0, .bool), (2, 0, .bool), (6, 0, .bool), (8, 0, .bool)]], [], [], [], [.agg [.c (.int .i64), .own (.int .i64), .own (.int .i64)], .one (.c .bool)], [], []⟩
def S102_L0 (kind0 : Int) (lost1 : Int) (there2 : List Bool) (many8 : Int) (b0_0 : Int) : St := ⟨[(0, .w (.one (.int .i64 kind0))), (1, .w (.one (.int .i64 lost1))), (2, .w (.one (.ro .bool there2))), (6, .w (.one (.ptr 0 0 0))), (8, .w (.one (.int .i64 many8)))], [.box [.int .i64 b0_0, .nil, .nil]]⟩
theorem eq102 (kind : Int) (lost : Int) (there : List Bool) (r : List W) (lh : Heap) : FB E H102 Try.f102 [.one (.int .i64 kind), .one (.int .i64 lost), .one (.ro .bool there)] [] r lh =
  (
   FL E H102 Try.f102 0 r lh 0 (S102_L0 kind lost there 1 0)) := by kernel_rfl
theorem eq102_L0 (kind0 : Int) (lost1 : Int) (there2 : List Bool) (many8 : Int) (b0_0 : Int) (r : List W) (lh : Heap) : FL1 E H102 Try.f102 0 r lh 0 (S102_L0 kind0 lost1 there2 many8 b0_0) =
  (
   Br (decide (many8 ≤ (4 : Int))) (
    ∃ r0 : Int × List Int × List Int × Bool, SC P 120 [.one (.int .i64 kind0), .one (.int .i64 lost1), .one (.ro .bool there2), .one (.ro (.int .i64) []), .one (.int .i64 0), .one (.int .i64 many8)] [] [.agg [.int .i64 r0.1, .sl 0 none, .sl 1 none], .one (.bool r0.2.2.2)] [.row (.int .i64) r0.2.1 .own, .row (.int .i64) r0.2.2.1 .own] ∧
     Br r0.2.2.2 (
      Ret r lh [.agg [.int .i64 r0.1, .sl 0 none, .sl 1 none], .one (.bool true)] [.row (.int .i64) r0.2.1 .own, .row (.int .i64) r0.2.2.1 .own]) (
      FL E H102 Try.f102 0 r lh 0 (S102_L0 kind0 lost1 there2 (IntKind.wrap .i64 (many8 + 1)) b0_0))) (
    Ret r lh [.agg [.int .i64 0, .sl 0 none, .sl 1 none], .one (.bool false)] [.row (.int .i64) [] .own, .row (.int .i64) [] .own])) := by kernel_rfl
def fewL {α : Type} (test : List Int → Option α) (others : List Int) : Nat → Nat → Option α
  | _, 0 => none
  | m, n + 1 => (findE test m others []).or (fewL test others (m + 1) n)
theorem fewL_fewest {α : Type} (test : List Int → Option α) (others : List Int) : fewL test others 1 4 = fewest test others := by
  simp only [fewL, fewest, Option.or_none]
theorem l102 (kind : Int) (hk : inB kind 1 2 = true) (lost : Int) (h0 : 0 ≤ lost) (h1 : lost ≤ 7) (there : List Bool) (h8 : there.length = 8) : ∀ (n m : Nat), m + n = 5 → 1 ≤ m → FL E H102 Try.f102 0 [.agg [.int .i64 (resP lost (fewL (planT kind lost) (othersF lost there) m n)).1, .sl 0 none, .sl 1 none], .one (.bool (resP lost (fewL (planT kind lost) (othersF lost there) m n)).2.2.2)] [.row (.int .i64) (resP lost (fewL (planT kind lost) (othersF lost there) m n)).2.1 .own, .row (.int .i64) (resP lost (fewL (planT kind lost) (othersF lost there) m n)).2.2.1 .own] 0 (S102_L0 kind lost there (m : Int) 0)
  | 0, m, h, hm => by
    refine FL_of1 ?_
    rw [eq102_L0]
    exact Br_f (by omega) ⟨rfl, rfl⟩
  | n + 1, m, h, hm => by
    have sc := c120 kind hk lost h0 h1 there h8 m [] 0 8 rfl (fun T hT => by rw [List.nil_append, ← remF_others h8]; exact hT) (by simp; omega) (by simp; omega)
    rw [List.length_nil, Nat.zero_add, remF_others h8] at sc
    refine FL_of1 ?_
    rw [eq102_L0, wS (i := m) (by omega), fewL]
    refine Br_t (by omega) ?_
    cases hq : findE (planT kind lost) m (othersF lost there) [] with
    | none =>
      rw [hq] at sc
      rw [Option.none_or]
      exact ⟨(0, [], [], false), sc, l102 kind hk lost h0 h1 there h8 n (m + 1) (by omega) (by omega)⟩
    | some q =>
      rw [hq] at sc
      exact ⟨(lost, q.1, q.2, true), sc, ⟨rfl, rfl⟩⟩
theorem c102 (kind : Int) (hk : inB kind 1 2 = true) (lost : Int) (h0 : 0 ≤ lost) (h1 : lost ≤ 7) (there : List Bool) (h8 : there.length = 8) : SC P 102 [.one (.int .i64 kind), .one (.int .i64 lost), .one (.ro .bool there)] [] [.agg [.int .i64 (resP lost (fewest (planT kind lost) (othersF lost there))).1, .sl 0 none, .sl 1 none], .one (.bool (resP lost (fewest (planT kind lost) (othersF lost there))).2.2.2)] [.row (.int .i64) (resP lost (fewest (planT kind lost) (othersF lost there))).2.1 .own, .row (.int .i64) (resP lost (fewest (planT kind lost) (othersF lost there))).2.2.1 .own] := by
  rw [← fewL_fewest]
  refine SC_of_FB (H := H102) E_ok Try.func102 (by kernel_rfl) ?_
  rw [eq102]
  exact l102 kind hk lost h0 h1 there h8 4 1 rfl (Nat.le_refl _)
/-! loop.example/keelson/spec.PlanOf -/
def H41 : Hint := ⟨[], [], [], [], [.agg [.c (.int .i64), .own (.int .i64), .own (.int .i64)], .one (.c .bool)], [], []⟩
theorem eq41 (kind : Int) (lost : Int) (there : List Bool) (r : List W) (lh : Heap) : FB E H41 Try.f41 [.one (.int .i64 kind), .one (.int .i64 lost), .one (.ro .bool there)] [] r lh =
  (
   ∃ r0 : Bool, SC P 85 [.one (.int .i64 kind)] [] [.one (.bool r0)] [] ∧
    Br (!r0) (
     Ret r lh [.agg [.int .i64 0, .sl 0 none, .sl 1 none], .one (.bool false)] [.row (.int .i64) [] .own, .row (.int .i64) [] .own]) (
     ∃ r1 : Bool, SC P 67 [.one (.int .i64 lost), .one (.int .i64 0), .one (.int .i64 7)] [] [.one (.bool r1)] [] ∧
      Br (!r1) (
       Ret r lh [.agg [.int .i64 0, .sl 0 none, .sl 1 none], .one (.bool false)] [.row (.int .i64) [] .own, .row (.int .i64) [] .own]) (
       Br (!(decide (((there.length : Nat) : Int) = (8 : Int)))) (
        Ret r lh [.agg [.int .i64 0, .sl 0 none, .sl 1 none], .one (.bool false)] [.row (.int .i64) [] .own, .row (.int .i64) [] .own]) (
        ∃ r2 : Int × List Int × List Int × Bool, SC P 102 [.one (.int .i64 kind), .one (.int .i64 lost), .one (.ro .bool there)] [] [.agg [.int .i64 r2.1, .sl 0 none, .sl 1 none], .one (.bool r2.2.2.2)] [.row (.int .i64) r2.2.1 .own, .row (.int .i64) r2.2.2.1 .own] ∧
         Ret r lh [.agg [.int .i64 r2.1, .sl 0 none, .sl 1 none], .one (.bool r2.2.2.2)] [.row (.int .i64) r2.2.1 .own, .row (.int .i64) r2.2.2.1 .own])))) := by kernel_rfl
/-- the least plan -/
def planOfF (kind lost : Int) (there : List Bool) : PlnR := bif inB kind 1 2 && (inB lost 0 7 && decide (there.length = 8)) then resP lost (fewest (planT kind lost) (othersF lost there)) else (0, [], [], false)
theorem c41 (kind lost : Int) (there : List Bool) : SC P 41 [.one (.int .i64 kind), .one (.int .i64 lost), .one (.ro .bool there)] [] [.agg [.int .i64 (planOfF kind lost there).1, .sl 0 none, .sl 1 none], .one (.bool (planOfF kind lost there).2.2.2)] [.row (.int .i64) (planOfF kind lost there).2.1 .own, .row (.int .i64) (planOfF kind lost there).2.2.1 .own] := by
  refine SC_of_FB (H := H41) E_ok Try.func41 (by kernel_rfl) ?_
  rw [eq41]
  refine ⟨_, c85 kind, Br_nb (fun e => by rw [planOfF, e]; exact ⟨rfl, rfl⟩) (fun e => ⟨_, c67 _ _ _, Br_nb (fun e2 => by rw [planOfF, e2, Bool.false_and, Bool.and_false]; exact ⟨rfl, rfl⟩) (fun e2 => ?_)⟩)⟩
  rw [dec8']
  obtain ⟨l0, l1⟩ := inB_iff.1 e2
  refine Br_nd (fun e3 => by rw [planOfF, decide_eq_false e3, Bool.and_false, Bool.and_false]; exact ⟨rfl, rfl⟩) (fun e3 => ⟨_, c102 kind e lost l0 l1 there e3, ?_⟩)
  rw [planOfF, e, e2, decide_eq_true e3]
  exact ⟨rfl, rfl⟩
theorem fewest_some {α : Type} {test : List Int → Option α} {others : List Int} {p : α} (h : fewest test others = some p) : ∃ m, 1 ≤ m ∧ m ≤ 4 ∧ findL test m others [] = some p ∧ ∀ k, 1 ≤ k → k < m → findL test k others [] = none := by
  rw [fewest, findE_nil (by omega), findE_nil (by omega), findE_nil (by omega), findE_nil (by omega)] at h
  cases e1 : findL test 1 others [] with
  | some q => rw [e1, Option.some_or] at h; cases h; exact ⟨1, by omega, by omega, e1, fun k a b => by omega⟩
  | none =>
  cases e2 : findL test 2 others [] with
  | some q => rw [e1, e2, Option.none_or, Option.some_or] at h; cases h; exact ⟨2, by omega, by omega, e2, fun k a b => by rcases (show k = 1 by omega) with rfl; exact e1⟩
  | none =>
  cases e3 : findL test 3 others [] with
  | some q => rw [e1, e2, e3, Option.none_or, Option.none_or, Option.some_or] at h; cases h; exact ⟨3, by omega, by omega, e3, fun k a b => by rcases (show k = 1 ∨ k = 2 by omega) with rfl | rfl <;> assumption⟩
  | none =>
    rw [e1, e2, e3, Option.none_or, Option.none_or, Option.none_or] at h
    exact ⟨4, by omega, by omega, h, fun k a b => by rcases (show k = 1 ∨ k = 2 ∨ k = 3 by omega) with rfl | rfl | rfl <;> assumption⟩
theorem planOfF_len {kind lost : Int} {there : List Bool} : (planOfF kind lost there).2.1.length ≤ 4 ∧ (planOfF kind lost there).2.2.1.length ≤ 8 := by
  rw [planOfF]
  cases h : inB kind 1 2 && (inB lost 0 7 && decide (there.length = 8)) with
  | false => exact ⟨Nat.zero_le _, Nat.zero_le _⟩
  | true =>
    rw [Bool.and_eq_true, Bool.and_eq_true, decide_eq_true_iff] at h
    obtain ⟨hk, h2, h8⟩ := h
    obtain ⟨h0, h1⟩ := inB_iff.1 h2
    rw [cond_true]
    cases hq : fewest (planT kind lost) (othersF lost there) with
    | none => exact ⟨Nat.zero_le _, Nat.zero_le _⟩
    | some q =>
      obtain ⟨m, m1, m4, hm, _⟩ := fewest_some hq
      obtain ⟨T, t1, t2, t3⟩ := findL_some hm
      rw [List.nil_append] at t2 t3
      obtain ⟨g1, g2⟩ := others_sub h8 t1
      have hp := plan_at hk h0 h1 g1 g2 (by omega) (by omega)
      rw [planT, planS] at t3
      cases c1 : decide ((firstL (rowsL kind T)).length < (rowsL kind T).length) with
      | true => rw [c1] at t3; cases t3
      | false =>
        cases c2 : byOk (rowsL kind T) (rowV kind lost).l with
        | false => rw [c1, c2] at t3; cases t3
        | true =>
          rw [c1, c2] at t3
          cases t3
          exact ⟨by show T.length ≤ 4; omega, hp.by8⟩
/-! loop.example/keelson/spec.l91Plan -/
def H69 : Hint := ⟨[], [], [(12, [0, 1, 2, 3])], [], [], [6, 11], [(6, .fork [0, 2, 3, 4, 5, 7] 1 (.lin [6, 8, 9, 10]) 6 (.fork [] 1 (.lin [8, 9, 10]) 8 (.lin [1, 9, 10]))), (11, .fork [0, 2, 3, 4, 5, 7] 1 (.lin [6, 8, 9, 10]) 6 (.fork [] 1 (.lin [8, 9, 10]) 8 (.lin [1, 9, 10])))]⟩
theorem eq69 (b : List Int) (p : Int) (r : List W) (lh : Heap) : FB E H69 Try.f69 [.one (.ptr 0 0 0)] [.box [.ro (.int .u8) b, .int .i64 p]] r lh =
  (
   ∃ r0 : List Int × Int × Int, SC P 64 [.one (.ptr 0 0 0), .one (.int .i64 2)] [.box [.ro (.int .u8) b, .int .i64 p]] [.one (.int .i64 r0.2.2)] [.box [.ro (.int .u8) r0.1, .int .i64 r0.2.1]] ∧
    ∃ r1 : List Int × Int × Int, SC P 64 [.one (.ptr 0 0 0), .one (.int .i64 8)] [.box [.ro (.int .u8) r0.1, .int .i64 r0.2.1]] [.one (.int .i64 r1.2.2)] [.box [.ro (.int .u8) r1.1, .int .i64 r1.2.1]] ∧
     ∃ r2 : List Int × Int × List Bool, SC P 108 [.one (.ptr 0 0 0)] [.box [.ro (.int .u8) r1.1, .int .i64 r1.2.1]] [.one (.ro .bool r2.2.2)] [.box [.ro (.int .u8) r2.1, .int .i64 r2.2.1]] ∧
      ∃ r3 : Int × List Int × List Int × Bool, SC P 41 [.one (.int .i64 (IntKind.wrap .i64 (1 + r0.2.2))), .one (.int .i64 r1.2.2), .one (.ro .bool r2.2.2)] [] [.agg [.int .i64 r3.1, .sl 0 none, .sl 1 none], .one (.bool r3.2.2.2)] [.row (.int .i64) r3.2.1 .own, .row (.int .i64) r3.2.2.1 .own] ∧
       ∃ r4 : List Int × Int × Int, SC P 64 [.one (.ptr 0 0 0), .one (.int .i64 8)] [.box [.ro (.int .u8) r2.1, .int .i64 r2.2.1]] [.one (.int .i64 r4.2.2)] [.box [.ro (.int .u8) r4.1, .int .i64 r4.2.1]] ∧
        Br (decide (r4.2.2 = (0 : Int))) (
         Br (decide ((0 : Int) < ((r3.2.2.1.length : Nat) : Int))) (
          (
           ∃ r5 : List Int × Int × Int, SC P 64 [.one (.ptr 0 0 0), .one (.int .i64 ((r3.2.2.1.length : Nat) : Int))] [.box [.ro (.int .u8) r4.1, .int .i64 r4.2.1]] [.one (.int .i64 r5.2.2)] [.box [.ro (.int .u8) r5.1, .int .i64 r5.2.1]] ∧
            ∃ r6 : List Int × Int × Int, SC P 64 [.one (.ptr 0 0 0), .one (.int .i64 32)] [.box [.ro (.int .u8) r5.1, .int .i64 r5.2.1]] [.one (.int .i64 r6.2.2)] [.box [.ro (.int .u8) r6.1, .int .i64 r6.2.1]] ∧
             Ck (decide ((0 : Int) ≤ r5.2.2)) (
              Ck (decide (r5.2.2 < ((r3.2.2.1.length : Nat) : Int))) (
               Ck (Nat.ble (r5.2.2.toNat + 1) r3.2.2.1.length) (
                Ret r lh [.one (.int .i64 (IntKind.wrap .i64 (1 + r0.2.2))), .agg [.int .i64 r3.1, .sl 1 none, .sl 2 none]] [.box [.ro (.int .u8) r6.1, .int .i64 r6.2.1], .row (.int .i64) r3.2.1 .own, .row (.int .i64) (r3.2.2.1.set r5.2.2.toNat r6.2.2) .own])))) ∧ (
           ∃ r7 : List Int × Int × Int, SC P 64 [.one (.ptr 0 0 0), .one (.int .i64 ((r3.2.2.1.length : Nat) : Int))] [.box [.ro (.int .u8) r4.1, .int .i64 r4.2.1]] [.one (.int .i64 r7.2.2)] [.box [.ro (.int .u8) r7.1, .int .i64 r7.2.1]] ∧
            (
             ∃ r8 : List Int × Int × Int, SC P 64 [.one (.ptr 0 0 0), .one (.int .i64 32)] [.box [.ro (.int .u8) r7.1, .int .i64 r7.2.1]] [.one (.int .i64 r8.2.2)] [.box [.ro (.int .u8) r8.1, .int .i64 r8.2.1]] ∧
              Ck (decide ((0 : Int) ≤ r7.2.2)) (
               Ck (decide (r7.2.2 < ((r3.2.2.1.length : Nat) : Int))) (
                Ck (Nat.ble (r7.2.2.toNat + 1) r3.2.2.1.length) (
                 Ret r lh [.one (.int .i64 (IntKind.wrap .i64 (1 + r0.2.2))), .agg [.int .i64 r3.1, .sl 1 none, .sl 2 none]] [.box [.ro (.int .u8) r8.1, .int .i64 r8.2.1], .row (.int .i64) r3.2.1 .own, .row (.int .i64) (r3.2.2.1.set r7.2.2.toNat r8.2.2) .own])))) ∧ (
             ∃ r9 : List Int × Int × Int, SC P 64 [.one (.ptr 0 0 0), .one (.int .i64 32)] [.box [.ro (.int .u8) r7.1, .int .i64 r7.2.1]] [.one (.int .i64 r9.2.2)] [.box [.ro (.int .u8) r9.1, .int .i64 r9.2.1]] ∧
              Ck (decide ((0 : Int) ≤ r7.2.2)) (
               Ck (decide (r7.2.2 < ((r3.2.2.1.length : Nat) : Int))) (
                Ck (Nat.ble (r7.2.2.toNat + 1) r3.2.2.1.length) (
                 Ret r lh [.one (.int .i64 (IntKind.wrap .i64 (1 + r0.2.2))), .agg [.int .i64 r3.1, .sl 1 none, .sl 2 none]] [.box [.ro (.int .u8) r9.1, .int .i64 r9.2.1], .row (.int .i64) r3.2.1 .own, .row (.int .i64) (r3.2.2.1.set r7.2.2.toNat r9.2.2) .own])))))) (
          Ret r lh [.one (.int .i64 (IntKind.wrap .i64 (1 + r0.2.2))), .agg [.int .i64 r3.1, .sl 1 none, .sl 2 none]] [.box [.ro (.int .u8) r4.1, .int .i64 r4.2.1], .row (.int .i64) r3.2.1 .own, .row (.int .i64) r3.2.2.1 .own])) (
         Br (decide (r4.2.2 = (1 : Int))) (
          ∃ r10 : List Int × Int × Int, SC P 64 [.one (.ptr 0 0 0), .one (.int .i64 10)] [.box [.ro (.int .u8) r4.1, .int .i64 r4.2.1]] [.one (.int .i64 r10.2.2)] [.box [.ro (.int .u8) r10.1, .int .i64 r10.2.1]] ∧
           Ret r lh [.one (.int .i64 (IntKind.wrap .i64 (1 + r0.2.2))), .agg [.int .i64 (IntKind.wrap .i64 (r10.2.2 - 1)), .sl 1 none, .sl 2 none]] [.box [.ro (.int .u8) r10.1, .int .i64 r10.2.1], .row (.int .i64) r3.2.1 .own, .row (.int .i64) r3.2.2.1 .own]) (
          Br (decide (r4.2.2 = (2 : Int))) (
           Br (decide ((0 : Int) < ((r3.2.1.length : Nat) : Int))) (
            (
             ∃ r11 : List Int × Int × Int, SC P 64 [.one (.ptr 0 0 0), .one (.int .i64 ((r3.2.1.length : Nat) : Int))] [.box [.ro (.int .u8) r4.1, .int .i64 r4.2.1]] [.one (.int .i64 r11.2.2)] [.box [.ro (.int .u8) r11.1, .int .i64 r11.2.1]] ∧
              ∃ r12 : List Int × Int × Int, SC P 64 [.one (.ptr 0 0 0), .one (.int .i64 8)] [.box [.ro (.int .u8) r11.1, .int .i64 r11.2.1]] [.one (.int .i64 r12.2.2)] [.box [.ro (.int .u8) r12.1, .int .i64 r12.2.1]] ∧
               Ck (decide ((0 : Int) ≤ r11.2.2)) (
                Ck (decide (r11.2.2 < ((r3.2.1.length : Nat) : Int))) (
                 Ck (Nat.ble (r11.2.2.toNat + 1) r3.2.1.length) (
                  Ret r lh [.one (.int .i64 (IntKind.wrap .i64 (1 + r0.2.2))), .agg [.int .i64 r3.1, .sl 1 none, .sl 2 none]] [.box [.ro (.int .u8) r12.1, .int .i64 r12.2.1], .row (.int .i64) (r3.2.1.set r11.2.2.toNat r12.2.2) .own, .row (.int .i64) r3.2.2.1 .own])))) ∧ (
             ∃ r13 : List Int × Int × Int, SC P 64 [.one (.ptr 0 0 0), .one (.int .i64 ((r3.2.1.length : Nat) : Int))] [.box [.ro (.int .u8) r4.1, .int .i64 r4.2.1]] [.one (.int .i64 r13.2.2)] [.box [.ro (.int .u8) r13.1, .int .i64 r13.2.1]] ∧
              (
               ∃ r14 : List Int × Int × Int, SC P 64 [.one (.ptr 0 0 0), .one (.int .i64 8)] [.box [.ro (.int .u8) r13.1, .int .i64 r13.2.1]] [.one (.int .i64 r14.2.2)] [.box [.ro (.int .u8) r14.1, .int .i64 r14.2.1]] ∧
                Ck (decide ((0 : Int) ≤ r13.2.2)) (
                 Ck (decide (r13.2.2 < ((r3.2.1.length : Nat) : Int))) (
                  Ck (Nat.ble (r13.2.2.toNat + 1) r3.2.1.length) (
                   Ret r lh [.one (.int .i64 (IntKind.wrap .i64 (1 + r0.2.2))), .agg [.int .i64 r3.1, .sl 1 none, .sl 2 none]] [.box [.ro (.int .u8) r14.1, .int .i64 r14.2.1], .row (.int .i64) (r3.2.1.set r13.2.2.toNat r14.2.2) .own, .row (.int .i64) r3.2.2.1 .own])))) ∧ (
               ∃ r15 : List Int × Int × Int, SC P 64 [.one (.ptr 0 0 0), .one (.int .i64 8)] [.box [.ro (.int .u8) r13.1, .int .i64 r13.2.1]] [.one (.int .i64 r15.2.2)] [.box [.ro (.int .u8) r15.1, .int .i64 r15.2.1]] ∧
                Ck (decide ((0 : Int) ≤ r13.2.2)) (
                 Ck (decide (r13.2.2 < ((r3.2.1.length : Nat) : Int))) (
                  Ck (Nat.ble (r13.2.2.toNat + 1) r3.2.1.length) (
                   Ret r lh [.one (.int .i64 (IntKind.wrap .i64 (1 + r0.2.2))), .agg [.int .i64 r3.1, .sl 1 none, .sl 2 none]] [.box [.ro (.int .u8) r15.1, .int .i64 r15.2.1], .row (.int .i64) (r3.2.1.set r13.2.2.toNat r15.2.2) .own, .row (.int .i64) r3.2.2.1 .own])))))) (
            Ret r lh [.one (.int .i64 (IntKind.wrap .i64 (1 + r0.2.2))), .agg [.int .i64 r3.1, .sl 1 none, .sl 2 none]] [.box [.ro (.int .u8) r4.1, .int .i64 r4.2.1], .row (.int .i64) r3.2.1 .own, .row (.int .i64) r3.2.2.1 .own])) (
           Ret r lh [.one (.int .i64 (IntKind.wrap .i64 (1 + r0.2.2))), .agg [.int .i64 r3.1, .sl 1 none, .sl 2 none]] [.box [.ro (.int .u8) r4.1, .int .i64 r4.2.1], .row (.int .i64) r3.2.1 .own, .row (.int .i64) r3.2.2.1 .own])))) := by kernel_rfl
theorem c69 (b : List Int) (p : Int) (hb : RdB b) (h0 : 0 ≤ p) (h1 : p ≤ 1000) : ∃ k L F B p', (F : List Int).length ≤ 8 ∧ (B : List Int).length ≤ 8 ∧ 0 ≤ p' ∧ p' ≤ p + 20 ∧ SC P 69 [.one (.ptr 0 0 0)] [.box [.ro (.int .u8) b, .int .i64 p]] [.one (.int .i64 k), .agg [.int .i64 L, .sl 1 none, .sl 2 none]] [.box [.ro (.int .u8) b, .int .i64 p'], .row (.int .i64) F .own, .row (.int .i64) B .own] := by
  obtain ⟨v0, a0, b0, s0⟩ := c64 b p 2 hb (by omega) (by omega) (by omega)
  obtain ⟨v1, a1, b1, s1⟩ := c64 b (p + 1) 8 hb (by omega) (by omega) (by omega)
  obtain ⟨t, q, ht, q0, q1, s2⟩ := c108 b (p + 1 + 1) hb (by omega) (by omega)
  have sP := c41 (IntKind.wrap .i64 (1 + v0)) v1 t
  obtain ⟨f4, f8⟩ := planOfF_len (kind := IntKind.wrap .i64 (1 + v0)) (lost := v1) (there := t)
  generalize planOfF (IntKind.wrap .i64 (1 + v0)) v1 t = R at sP f4 f8
  obtain ⟨v4, a4, b4, s4⟩ := c64 b q 8 hb (by omega) (by omega) (by omega)
  by_cases c0 : v4 = 0
  · by_cases d0 : (0 : Int) < (R.2.2.1.length : Int)
    · obtain ⟨v5, a5, b5, s5⟩ := c64 b (q + 1) (R.2.2.1.length : Int) hb (by omega) (by omega) (by omega)
      obtain ⟨v6, a6, b6, s6⟩ := c64 b (q + 1 + 1) 32 hb (by omega) (by omega) (by omega)
      refine ⟨IntKind.wrap .i64 (1 + v0), R.1, R.2.1, R.2.2.1.set v5.toNat v6, q + 1 + 1 + 1, by omega, by rw [List.length_set]; exact f8, by omega, by omega, ?_⟩
      refine SC_of_FB (H := H69) E_ok Try.func69 (by kernel_rfl) ?_
      rw [eq69]
      exact ⟨(b, p + 1, v0), s0, (b, p + 1 + 1, v1), s1, (b, q, t), s2, R, sP, (b, q + 1, v4), s4, Br_t c0 (Br_t d0 ⟨⟨(b, q + 1 + 1, v5), s5, (b, q + 1 + 1 + 1, v6), s6, Ck_d a5 (Ck_d b5 (Ck_le (by dsimp only; omega) ⟨rfl, rfl⟩))⟩, (b, q + 1 + 1, v5), s5, ⟨⟨(b, q + 1 + 1 + 1, v6), s6, Ck_d a5 (Ck_d b5 (Ck_le (by dsimp only; omega) ⟨rfl, rfl⟩))⟩, (b, q + 1 + 1 + 1, v6), s6, Ck_d a5 (Ck_d b5 (Ck_le (by dsimp only; omega) ⟨rfl, rfl⟩))⟩⟩)⟩
    · refine ⟨IntKind.wrap .i64 (1 + v0), R.1, R.2.1, R.2.2.1, q + 1, by omega, f8, by omega, by omega, ?_⟩
      refine SC_of_FB (H := H69) E_ok Try.func69 (by kernel_rfl) ?_
      rw [eq69]
      exact ⟨(b, p + 1, v0), s0, (b, p + 1 + 1, v1), s1, (b, q, t), s2, R, sP, (b, q + 1, v4), s4, Br_t c0 (Br_f d0 ⟨rfl, rfl⟩)⟩
  by_cases c1 : v4 = 1
  · obtain ⟨v5, a5, b5, s5⟩ := c64 b (q + 1) 10 hb (by omega) (by omega) (by omega)
    refine ⟨IntKind.wrap .i64 (1 + v0), IntKind.wrap .i64 (v5 - 1), R.2.1, R.2.2.1, q + 1 + 1, by omega, f8, by omega, by omega, ?_⟩
    refine SC_of_FB (H := H69) E_ok Try.func69 (by kernel_rfl) ?_
    rw [eq69]
    exact ⟨(b, p + 1, v0), s0, (b, p + 1 + 1, v1), s1, (b, q, t), s2, R, sP, (b, q + 1, v4), s4, Br_f c0 (Br_t c1 ⟨(b, q + 1 + 1, v5), s5, ⟨rfl, rfl⟩⟩)⟩
  by_cases c2 : v4 = 2
  · by_cases d0 : (0 : Int) < (R.2.1.length : Int)
    · obtain ⟨v5, a5, b5, s5⟩ := c64 b (q + 1) (R.2.1.length : Int) hb (by omega) (by omega) (by omega)
      obtain ⟨v6, a6, b6, s6⟩ := c64 b (q + 1 + 1) 8 hb (by omega) (by omega) (by omega)
      refine ⟨IntKind.wrap .i64 (1 + v0), R.1, R.2.1.set v5.toNat v6, R.2.2.1, q + 1 + 1 + 1, by rw [List.length_set]; omega, f8, by omega, by omega, ?_⟩
      refine SC_of_FB (H := H69) E_ok Try.func69 (by kernel_rfl) ?_
      rw [eq69]
      exact ⟨(b, p + 1, v0), s0, (b, p + 1 + 1, v1), s1, (b, q, t), s2, R, sP, (b, q + 1, v4), s4, Br_f c0 (Br_f c1 (Br_t c2 (Br_t d0 ⟨⟨(b, q + 1 + 1, v5), s5, (b, q + 1 + 1 + 1, v6), s6, Ck_d a5 (Ck_d b5 (Ck_le (by dsimp only; omega) ⟨rfl, rfl⟩))⟩, (b, q + 1 + 1, v5), s5, ⟨⟨(b, q + 1 + 1 + 1, v6), s6, Ck_d a5 (Ck_d b5 (Ck_le (by dsimp only; omega) ⟨rfl, rfl⟩))⟩, (b, q + 1 + 1 + 1, v6), s6, Ck_d a5 (Ck_d b5 (Ck_le (by dsimp only; omega) ⟨rfl, rfl⟩))⟩⟩)))⟩
    · refine ⟨IntKind.wrap .i64 (1 + v0), R.1, R.2.1, R.2.2.1, q + 1, by omega, f8, by omega, by omega, ?_⟩
      refine SC_of_FB (H := H69) E_ok Try.func69 (by kernel_rfl) ?_
      rw [eq69]
      exact ⟨(b, p + 1, v0), s0, (b, p + 1 + 1, v1), s1, (b, q, t), s2, R, sP, (b, q + 1, v4), s4, Br_f c0 (Br_f c1 (Br_t c2 (Br_f d0 ⟨rfl, rfl⟩)))⟩
  · refine ⟨IntKind.wrap .i64 (1 + v0), R.1, R.2.1, R.2.2.1, q + 1, by omega, f8, by omega, by omega, ?_⟩
    refine SC_of_FB (H := H69) E_ok Try.func69 (by kernel_rfl) ?_
    rw [eq69]
    exact ⟨(b, p + 1, v0), s0, (b, p + 1 + 1, v1), s1, (b, q, t), s2, R, sP, (b, q + 1, v4), s4, Br_f c0 (Br_f c1 (Br_f c2 ⟨rfl, rfl⟩))⟩
/-! loop.example/keelson/spec.l91Prog -/
def H63 : Hint := ⟨[[(0, 0, .bool), (3, 0, .bool), (8, 0, .bool)]], [], [], [], [], [], []⟩
def S63_L0 (n8 : Int) (b0_0 : List Int) (b0_1 : Int) (h1 : List (Int × (Int × Int))) : St := ⟨[(0, .w (.one (.ptr 0 0 0))), (3, .w (.one (.sl 1 none))), (8, .w (.one (.int .i64 n8)))], [.box [.ro (.int .u8) b0_0, .int .i64 b0_1], .row (.pair (.int .i64) (.pair (.int .i64) (.int .i64))) h1 .own]⟩
theorem eq63 (b : List Int) (p : Int) (r : List W) (lh : Heap) : FB E H63 Try.f63 [.one (.ptr 0 0 0)] [.box [.ro (.int .u8) b, .int .i64 p]] r lh =
  (
   ∃ r0 : List Int × Int × Int, SC P 64 [.one (.ptr 0 0 0), .one (.int .i64 8)] [.box [.ro (.int .u8) b, .int .i64 p]] [.one (.int .i64 r0.2.2)] [.box [.ro (.int .u8) r0.1, .int .i64 r0.2.1]] ∧
    ∃ r1 : List Int × Int × Int × Int × List Int × List Int, SC P 69 [.one (.ptr 0 0 0)] [.box [.ro (.int .u8) r0.1, .int .i64 r0.2.1]] [.one (.int .i64 r1.2.2.1), .agg [.int .i64 r1.2.2.2.1, .sl 1 none, .sl 2 none]] [.box [.ro (.int .u8) r1.1, .int .i64 r1.2.1], .row (.int .i64) r1.2.2.2.2.1 .own, .row (.int .i64) r1.2.2.2.2.2 .own] ∧
     ∃ r2 : List (Int × (Int × Int)) × Bool, SC P 22 [.agg [.int .i64 r1.2.2.2.1, .ro (.int .i64) r1.2.2.2.2.1, .ro (.int .i64) r1.2.2.2.2.2]] [] [.one (.sl 0 none), .one (.bool r2.2)] [.row (.pair (.int .i64) (.pair (.int .i64) (.int .i64))) r2.1 .own] ∧
      Br r2.2 (
       ∃ r3 : List Int × Int × Int, SC P 64 [.one (.ptr 0 0 0), .one (.int .i64 2)] [.box [.ro (.int .u8) r1.1, .int .i64 r1.2.1]] [.one (.int .i64 r3.2.2)] [.box [.ro (.int .u8) r3.1, .int .i64 r3.2.1]] ∧
        Br (decide (r3.2.2 = (0 : Int))) (
         ∃ r4 : List Int × Int × Int, SC P 64 [.one (.ptr 0 0 0), .one (.int .i64 16)] [.box [.ro (.int .u8) r3.1, .int .i64 r3.2.1]] [.one (.int .i64 r4.2.2)] [.box [.ro (.int .u8) r4.1, .int .i64 r4.2.1]] ∧
          Br (decide (r4.2.2 = (0 : Int))) (
           ∃ r5 : List Int × Int × Int, SC P 64 [.one (.ptr 0 0 0), .one (.int .i64 ((r2.1.length : Nat) : Int))] [.box [.ro (.int .u8) r4.1, .int .i64 r4.2.1]] [.one (.int .i64 r5.2.2)] [.box [.ro (.int .u8) r5.1, .int .i64 r5.2.1]] ∧
            ∃ r6 : List Int × Int × Int, SC P 64 [.one (.ptr 0 0 0), .one (.int .i64 20)] [.box [.ro (.int .u8) r5.1, .int .i64 r5.2.1]] [.one (.int .i64 r6.2.2)] [.box [.ro (.int .u8) r6.1, .int .i64 r6.2.1]] ∧
             Ck (decide ((0 : Int) ≤ r5.2.2)) (
              Ck (decide (r5.2.2 < ((r2.1.length : Nat) : Int))) (
               Ck (Nat.blt r5.2.2.toNat r2.1.length) (
                Ret r lh [.one (.sl 1 none)] [.box [.ro (.int .u8) r6.1, .int .i64 r6.2.1], .row (.pair (.int .i64) (.pair (.int .i64) (.int .i64))) (r2.1.set r5.2.2.toNat ((r2.1.getD r5.2.2.toNat (0, (0, 0))).1, ((IntKind.wrap .i64 (r6.2.2 - 1)), ((r2.1.getD r5.2.2.toNat (0, (0, 0))).2).2))) .own])))) (
           Br (decide (r4.2.2 = (1 : Int))) (
            ∃ r7 : List Int × Int × Int, SC P 64 [.one (.ptr 0 0 0), .one (.int .i64 ((r2.1.length : Nat) : Int))] [.box [.ro (.int .u8) r4.1, .int .i64 r4.2.1]] [.one (.int .i64 r7.2.2)] [.box [.ro (.int .u8) r7.1, .int .i64 r7.2.1]] ∧
             ∃ r8 : List Int × Int × Int, SC P 64 [.one (.ptr 0 0 0), .one (.int .i64 5)] [.box [.ro (.int .u8) r7.1, .int .i64 r7.2.1]] [.one (.int .i64 r8.2.2)] [.box [.ro (.int .u8) r8.1, .int .i64 r8.2.1]] ∧
              Ck (decide ((0 : Int) ≤ r7.2.2)) (
               Ck (decide (r7.2.2 < ((r2.1.length : Nat) : Int))) (
                Ck (Nat.blt r7.2.2.toNat r2.1.length) (
                 Ret r lh [.one (.sl 1 none)] [.box [.ro (.int .u8) r8.1, .int .i64 r8.2.1], .row (.pair (.int .i64) (.pair (.int .i64) (.int .i64))) (r2.1.set r7.2.2.toNat (r8.2.2, (((r2.1.getD r7.2.2.toNat (0, (0, 0))).2).1, ((r2.1.getD r7.2.2.toNat (0, (0, 0))).2).2))) .own])))) (
            Ret r lh [.one (.sl 1 none)] [.box [.ro (.int .u8) r4.1, .int .i64 r4.2.1], .row (.pair (.int .i64) (.pair (.int .i64) (.int .i64))) r2.1 .own]))) (
         ∃ r9 : List Int × Int × Int, SC P 64 [.one (.ptr 0 0 0), .one (.int .i64 8)] [.box [.ro (.int .u8) r3.1, .int .i64 r3.2.1]] [.one (.int .i64 r9.2.2)] [.box [.ro (.int .u8) r9.1, .int .i64 r9.2.1]] ∧
          FL E H63 Try.f63 1 r lh 0 (S63_L0 r9.2.2 r9.1 r9.2.1 [(1, (r0.2.2, 0))]))) (
       ∃ r10 : List Int × Int × Int, SC P 64 [.one (.ptr 0 0 0), .one (.int .i64 8)] [.box [.ro (.int .u8) r1.1, .int .i64 r1.2.1]] [.one (.int .i64 r10.2.2)] [.box [.ro (.int .u8) r10.1, .int .i64 r10.2.1]] ∧
        FL E H63 Try.f63 1 r lh 0 (S63_L0 r10.2.2 r10.1 r10.2.1 [(1, (r0.2.2, 0))]))) := by kernel_rfl
theorem eq63_L0 (n8 : Int) (b0_0 : List Int) (b0_1 : Int) (h1 : List (Int × (Int × Int))) (r : List W) (lh : Heap) : FL1 E H63 Try.f63 1 r lh 0 (S63_L0 n8 b0_0 b0_1 h1) =
  (
   Br (decide ((0 : Int) < n8)) (
    ∃ r0 : List Int × Int × Int, SC P 64 [.one (.ptr 0 0 0), .one (.int .i64 8)] [.box [.ro (.int .u8) b0_0, .int .i64 b0_1]] [.one (.int .i64 r0.2.2)] [.box [.ro (.int .u8) r0.1, .int .i64 r0.2.1]] ∧
     ∃ r1 : List Int × Int × Int, SC P 64 [.one (.ptr 0 0 0), .one (.int .i64 ((h1.length : Nat) : Int))] [.box [.ro (.int .u8) r0.1, .int .i64 r0.2.1]] [.one (.int .i64 r1.2.2)] [.box [.ro (.int .u8) r1.1, .int .i64 r1.2.1]] ∧
      ∃ r2 : List Int × Int × Int, SC P 64 [.one (.ptr 0 0 0), .one (.int .i64 31)] [.box [.ro (.int .u8) r1.1, .int .i64 r1.2.1]] [.one (.int .i64 r2.2.2)] [.box [.ro (.int .u8) r2.1, .int .i64 r2.2.1]] ∧
       ∃ r3 : List Int × Int × Int, SC P 64 [.one (.ptr 0 0 0), .one (.int .i64 ((h1.length : Nat) : Int))] [.box [.ro (.int .u8) r2.1, .int .i64 r2.2.1]] [.one (.int .i64 r3.2.2)] [.box [.ro (.int .u8) r3.1, .int .i64 r3.2.1]] ∧
        ∃ r4 : List Int × Int × Int, SC P 64 [.one (.ptr 0 0 0), .one (.int .i64 ((h1.length : Nat) : Int))] [.box [.ro (.int .u8) r3.1, .int .i64 r3.2.1]] [.one (.int .i64 r4.2.2)] [.box [.ro (.int .u8) r4.1, .int .i64 r4.2.1]] ∧
         ∃ r5 : List Int × Int × Int, SC P 64 [.one (.ptr 0 0 0), .one (.int .i64 3)] [.box [.ro (.int .u8) r4.1, .int .i64 r4.2.1]] [.one (.int .i64 r5.2.2)] [.box [.ro (.int .u8) r5.1, .int .i64 r5.2.1]] ∧
          Ck (decide ((0 : Int) ≤ r5.2.2)) (
           Ck (decide (r5.2.2 < (3 : Int))) (
            Ck (Nat.blt r5.2.2.toNat 3) (
             Ck (Nat.ble ((h1.length + 1) * 24) roomy) (
              FL E H63 Try.f63 1 r lh 0 (S63_L0 (IntKind.wrap .i64 (n8 - 1)) r5.1 r5.2.1 (h1 ++ ([((([(1, (r0.2.2, 0)), (2, (r1.2.2, r2.2.2)), (3, (r3.2.2, r4.2.2))] : List (Int × (Int × Int))).getD r5.2.2.toNat (0, (0, 0))).1, (((([(1, (r0.2.2, 0)), (2, (r1.2.2, r2.2.2)), (3, (r3.2.2, r4.2.2))] : List (Int × (Int × Int))).getD r5.2.2.toNat (0, (0, 0))).2).1, ((([(1, (r0.2.2, 0)), (2, (r1.2.2, r2.2.2)), (3, (r3.2.2, r4.2.2))] : List (Int × (Int × Int))).getD r5.2.2.toNat (0, (0, 0))).2).2))] : List (Int × (Int × Int)))))))))) (
    ∃ r6 : List Int × Int × Int, SC P 64 [.one (.ptr 0 0 0), .one (.int .i64 16)] [.box [.ro (.int .u8) b0_0, .int .i64 b0_1]] [.one (.int .i64 r6.2.2)] [.box [.ro (.int .u8) r6.1, .int .i64 r6.2.1]] ∧
     Br (decide (r6.2.2 = (0 : Int))) (
      ∃ r7 : List Int × Int × Int, SC P 64 [.one (.ptr 0 0 0), .one (.int .i64 ((h1.length : Nat) : Int))] [.box [.ro (.int .u8) r6.1, .int .i64 r6.2.1]] [.one (.int .i64 r7.2.2)] [.box [.ro (.int .u8) r7.1, .int .i64 r7.2.1]] ∧
       ∃ r8 : List Int × Int × Int, SC P 64 [.one (.ptr 0 0 0), .one (.int .i64 20)] [.box [.ro (.int .u8) r7.1, .int .i64 r7.2.1]] [.one (.int .i64 r8.2.2)] [.box [.ro (.int .u8) r8.1, .int .i64 r8.2.1]] ∧
        Ck (decide ((0 : Int) ≤ r7.2.2)) (
         Ck (decide (r7.2.2 < ((h1.length : Nat) : Int))) (
          Ck (Nat.blt r7.2.2.toNat h1.length) (
           Ret r lh [.one (.sl 1 none)] [.box [.ro (.int .u8) r8.1, .int .i64 r8.2.1], .row (.pair (.int .i64) (.pair (.int .i64) (.int .i64))) (h1.set r7.2.2.toNat ((h1.getD r7.2.2.toNat (0, (0, 0))).1, ((IntKind.wrap .i64 (r8.2.2 - 1)), ((h1.getD r7.2.2.toNat (0, (0, 0))).2).2))) .own])))) (
      Br (decide (r6.2.2 = (1 : Int))) (
       ∃ r9 : List Int × Int × Int, SC P 64 [.one (.ptr 0 0 0), .one (.int .i64 ((h1.length : Nat) : Int))] [.box [.ro (.int .u8) r6.1, .int .i64 r6.2.1]] [.one (.int .i64 r9.2.2)] [.box [.ro (.int .u8) r9.1, .int .i64 r9.2.1]] ∧
        ∃ r10 : List Int × Int × Int, SC P 64 [.one (.ptr 0 0 0), .one (.int .i64 5)] [.box [.ro (.int .u8) r9.1, .int .i64 r9.2.1]] [.one (.int .i64 r10.2.2)] [.box [.ro (.int .u8) r10.1, .int .i64 r10.2.1]] ∧
         Ck (decide ((0 : Int) ≤ r9.2.2)) (
          Ck (decide (r9.2.2 < ((h1.length : Nat) : Int))) (
           Ck (Nat.blt r9.2.2.toNat h1.length) (
            Ret r lh [.one (.sl 1 none)] [.box [.ro (.int .u8) r10.1, .int .i64 r10.2.1], .row (.pair (.int .i64) (.pair (.int .i64) (.int .i64))) (h1.set r9.2.2.toNat (r10.2.2, (((h1.getD r9.2.2.toNat (0, (0, 0))).2).1, ((h1.getD r9.2.2.toNat (0, (0, 0))).2).2))) .own])))) (
       Ret r lh [.one (.sl 1 none)] [.box [.ro (.int .u8) r6.1, .int .i64 r6.2.1], .row (.pair (.int .i64) (.pair (.int .i64) (.int .i64))) h1 .own])))) := by kernel_rfl
theorem l63 (b : List Int) (hb : RdB b) : ∀ (n : Nat) (p : Int) (l : List Step), 0 ≤ p → p + 6 * n ≤ 2000 → 1 ≤ l.length → l.length + n ≤ 20 → ∃ (l' : List Step) (p' : Int), 1 ≤ l'.length ∧ l'.length ≤ 20 ∧ 0 ≤ p' ∧ p' ≤ p + 6 * n + 3 ∧
    FL E H63 Try.f63 1 [.one (.sl 1 none)] [.box [.ro (.int .u8) b, .int .i64 p'], .row (.pair (.int .i64) (.pair (.int .i64) (.int .i64))) l' .own] 0 (S63_L0 (n : Int) b p l)
  | 0, p, l, h0, h1, hl, hn => by
    obtain ⟨v4, a4, b4, s4⟩ := c64 b p 16 hb (by omega) (by omega) (by omega)
    by_cases c0 : v4 = 0
    · obtain ⟨v5, a5, b5, s5⟩ := c64 b (p + 1) (l.length : Int) hb (by omega) (by omega) (by omega)
      obtain ⟨v6, a6, b6, s6⟩ := c64 b (p + 1 + 1) 20 hb (by omega) (by omega) (by omega)
      refine ⟨l.set v5.toNat ((l.getD v5.toNat (0, (0, 0))).1, (IntKind.wrap .i64 (v6 - 1), (l.getD v5.toNat (0, (0, 0))).2.2)), p + 1 + 1 + 1, by rw [List.length_set]; omega, by rw [List.length_set]; omega, by omega, by omega, ?_⟩
      · refine FL_of1 ?_
        rw [eq63_L0]
        exact Br_f (by omega) ⟨(b, p + 1, v4), s4, Br_t c0 ⟨(b, p + 1 + 1, v5), s5, (b, p + 1 + 1 + 1, v6), s6, Ck_d a5 (Ck_d b5 (Ck_lt (by dsimp only; omega) ⟨rfl, rfl⟩))⟩⟩
    by_cases c1 : v4 = 1
    · obtain ⟨v5, a5, b5, s5⟩ := c64 b (p + 1) (l.length : Int) hb (by omega) (by omega) (by omega)
      obtain ⟨v6, a6, b6, s6⟩ := c64 b (p + 1 + 1) 5 hb (by omega) (by omega) (by omega)
      refine ⟨l.set v5.toNat (v6, ((l.getD v5.toNat (0, (0, 0))).2.1, (l.getD v5.toNat (0, (0, 0))).2.2)), p + 1 + 1 + 1, by rw [List.length_set]; omega, by rw [List.length_set]; omega, by omega, by omega, ?_⟩
      · refine FL_of1 ?_
        rw [eq63_L0]
        exact Br_f (by omega) ⟨(b, p + 1, v4), s4, Br_f c0 (Br_t c1 ⟨(b, p + 1 + 1, v5), s5, (b, p + 1 + 1 + 1, v6), s6, Ck_d a5 (Ck_d b5 (Ck_lt (by dsimp only; omega) ⟨rfl, rfl⟩))⟩)⟩
    · refine ⟨l, p + 1, by omega, by omega, by omega, by omega, FL_of1 ?_⟩
      rw [eq63_L0]
      exact Br_f (by omega) ⟨(b, p + 1, v4), s4, Br_f c0 (Br_f c1 ⟨rfl, rfl⟩)⟩
  | n + 1, p, l, h0, h1, hl, hn => by
    obtain ⟨v0, a0, b0, s0⟩ := c64 b p 8 hb (by omega) (by omega) (by omega)
    obtain ⟨v1, a1, b1, s1⟩ := c64 b (p + 1) (l.length : Int) hb (by omega) (by omega) (by omega)
    obtain ⟨v2, a2, b2, s2⟩ := c64 b (p + 1 + 1) 31 hb (by omega) (by omega) (by omega)
    obtain ⟨v3, a3, b3, s3⟩ := c64 b (p + 1 + 1 + 1) (l.length : Int) hb (by omega) (by omega) (by omega)
    obtain ⟨v4, a4, b4, s4⟩ := c64 b (p + 1 + 1 + 1 + 1) (l.length : Int) hb (by omega) (by omega) (by omega)
    obtain ⟨v5, a5, b5, s5⟩ := c64 b (p + 1 + 1 + 1 + 1 + 1) 3 hb (by omega) (by omega) (by omega)
    have hw : IntKind.wrap .i64 (((n + 1 : Nat) : Int) - 1) = (n : Int) := by rw [wrap64 (by omega) (by omega)]; omega
    have step : ∀ s : Step, ∃ (l' : List Step) (p' : Int), 1 ≤ l'.length ∧ l'.length ≤ 20 ∧ 0 ≤ p' ∧ p' ≤ p + 6 * ((n + 1 : Nat) : Int) + 3 ∧ FL E H63 Try.f63 1 [.one (.sl 1 none)] [.box [.ro (.int .u8) b, .int .i64 p'], .row (.pair (.int .i64) (.pair (.int .i64) (.int .i64))) l' .own] 0 (S63_L0 (n : Int) b (p + 1 + 1 + 1 + 1 + 1 + 1) (l ++ [s])) := by
      intro s
      obtain ⟨l', p', g1, g2, g3, g4, hF⟩ := l63 b hb n (p + 1 + 1 + 1 + 1 + 1 + 1) (l ++ [s]) (by omega) (by omega) (by simp) (by simp; omega)
      exact ⟨l', p', g1, g2, g3, by omega, hF⟩
    obtain ⟨l', p', g1, g2, g3, g4, hF⟩ := step (([(1, (v0, 0)), (2, (v1, v2)), (3, (v3, v4))] : List Step).getD v5.toNat (0, (0, 0)))
    refine ⟨l', p', g1, g2, g3, g4, FL_of1 ?_⟩
    rw [eq63_L0, hw]
    exact Br_t (by omega) ⟨(b, p + 1, v0), s0, (b, p + 1 + 1, v1), s1, (b, p + 1 + 1 + 1, v2), s2, (b, p + 1 + 1 + 1 + 1, v3), s3, (b, p + 1 + 1 + 1 + 1 + 1, v4), s4, (b, p + 1 + 1 + 1 + 1 + 1 + 1, v5), s5, Ck_d a5 (Ck_d b5 (Ck_lt (by dsimp only; omega) (Ck_room (by omega) hF)))⟩
theorem c63 (b : List Int) (p : Int) (hb : RdB b) (h0 : 0 ≤ p) (h1 : p ≤ 500) : ∃ (l : List Step) (p' : Int), 1 ≤ l.length ∧ l.length ≤ 20 ∧ 0 ≤ p' ∧ p' ≤ p + 90 ∧ SC P 63 [.one (.ptr 0 0 0)] [.box [.ro (.int .u8) b, .int .i64 p]] [.one (.sl 1 none)] [.box [.ro (.int .u8) b, .int .i64 p'], .row (.pair (.int .i64) (.pair (.int .i64) (.int .i64))) l .own] := by
  obtain ⟨v0, a0, b0, s0⟩ := c64 b p 8 hb (by omega) (by omega) (by omega)
  obtain ⟨k, L, F, B, q, hF8, hB8, q0, q1, s1⟩ := c69 b (p + 1) hb (by omega) (by omega)
  have s2 := c22 (L, F, B) (by dsimp only; omega) (by dsimp only; omega)
  have hpl := progOfF_len (p := (L, F, B))
  have hpos : formed (L, F, B) = true → 1 ≤ (progOfF (L, F, B)).length := by
    intro h
    have hf := formed_iff h
    rw [progOfF, h, cond_true]
    have : ∀ (n i : Nat) (sum : Int) (out : List Step), out.length + n ≤ (progOfR F B i n sum out).length := by
      intro n
      induction n with
      | zero => intro i sum out; exact Nat.le_refl _
      | succ n ih =>
        intro i sum out
        rw [progOfR]
        have := ih (i + 1) (((progStep F B sum out i).length : Int) - 1) (progStep F B sum out i)
        have h2 := (progStep_len (f := F) (b := B) (sum := sum) (out := out) (i := i)).1
        omega
    have := this F.length 0 0 []
    dsimp only at hf ⊢
    omega
  generalize progOfF (L, F, B) = X at s2 hpl hpos
  generalize hfo : formed (L, F, B) = ok at s2 hpos
  have els : ∀ (q' : Int), 0 ≤ q' → q' ≤ p + 30 → ∃ (v : Int) (l : List Step) (p' : Int), 1 ≤ l.length ∧ l.length ≤ 20 ∧ 0 ≤ p' ∧ p' ≤ p + 90 ∧ SC P 64 [.one (.ptr 0 0 0), .one (.int .i64 8)] [.box [.ro (.int .u8) b, .int .i64 q']] [.one (.int .i64 v)] [.box [.ro (.int .u8) b, .int .i64 (q' + 1)]] ∧ FL E H63 Try.f63 1 [.one (.sl 1 none)] [.box [.ro (.int .u8) b, .int .i64 p'], .row (.pair (.int .i64) (.pair (.int .i64) (.int .i64))) l .own] 0 (S63_L0 v b (q' + 1) [(1, (v0, 0))]) := by
    intro q' g0 g1
    obtain ⟨v9, a9, b9, s9⟩ := c64 b q' 8 hb (by omega) (by omega) (by omega)
    obtain ⟨l', p', e1, e2, e3, e4, hF⟩ := l63 b hb v9.toNat (q' + 1) [(1, (v0, 0))] (by omega) (by omega) (by simp) (by simp; omega)
    rw [show ((v9.toNat : Nat) : Int) = v9 by omega] at hF
    exact ⟨v9, l', p', e1, e2, e3, by omega, s9, hF⟩
  cases ok with
  | false =>
    obtain ⟨v9, l', p', e1, e2, e3, e4, s9, hF⟩ := els q q0 (by omega)
    refine ⟨l', p', e1, e2, e3, e4, ?_⟩
    refine SC_of_FB (H := H63) E_ok Try.func63 (by kernel_rfl) ?_
    rw [eq63]
    exact ⟨(b, p + 1, v0), s0, (b, q, k, L, F, B), s1, (X, false), s2, ⟨(b, q + 1, v9), s9, hF⟩⟩
  | true =>
    have hX := hpos rfl
    obtain ⟨v3, a3, b3, s3⟩ := c64 b q 2 hb (by omega) (by omega) (by omega)
    by_cases c3 : v3 = 0
    · obtain ⟨v4, a4, b4, s4⟩ := c64 b (q + 1) 16 hb (by omega) (by omega) (by omega)
      by_cases c0 : v4 = 0
      · obtain ⟨v5, a5, b5, s5⟩ := c64 b (q + 1 + 1) (X.length : Int) hb (by omega) (by omega) (by omega)
        obtain ⟨v6, a6, b6, s6⟩ := c64 b (q + 1 + 1 + 1) 20 hb (by omega) (by omega) (by omega)
        refine ⟨X.set v5.toNat ((X.getD v5.toNat (0, (0, 0))).1, (IntKind.wrap .i64 (v6 - 1), (X.getD v5.toNat (0, (0, 0))).2.2)), q + 1 + 1 + 1 + 1, by rw [List.length_set]; omega, by rw [List.length_set]; omega, by omega, by omega, ?_⟩
        · refine SC_of_FB (H := H63) E_ok Try.func63 (by kernel_rfl) ?_
          rw [eq63]
          exact ⟨(b, p + 1, v0), s0, (b, q, k, L, F, B), s1, (X, true), s2, ⟨(b, q + 1, v3), s3, Br_t c3 ⟨(b, q + 1 + 1, v4), s4, Br_t c0 ⟨(b, q + 1 + 1 + 1, v5), s5, (b, q + 1 + 1 + 1 + 1, v6), s6, Ck_d a5 (Ck_d b5 (Ck_lt (by dsimp only; omega) ⟨rfl, rfl⟩))⟩⟩⟩⟩
      by_cases c1 : v4 = 1
      · obtain ⟨v5, a5, b5, s5⟩ := c64 b (q + 1 + 1) (X.length : Int) hb (by omega) (by omega) (by omega)
        obtain ⟨v6, a6, b6, s6⟩ := c64 b (q + 1 + 1 + 1) 5 hb (by omega) (by omega) (by omega)
        refine ⟨X.set v5.toNat (v6, ((X.getD v5.toNat (0, (0, 0))).2.1, (X.getD v5.toNat (0, (0, 0))).2.2)), q + 1 + 1 + 1 + 1, by rw [List.length_set]; omega, by rw [List.length_set]; omega, by omega, by omega, ?_⟩
        · refine SC_of_FB (H := H63) E_ok Try.func63 (by kernel_rfl) ?_
          rw [eq63]
          exact ⟨(b, p + 1, v0), s0, (b, q, k, L, F, B), s1, (X, true), s2, ⟨(b, q + 1, v3), s3, Br_t c3 ⟨(b, q + 1 + 1, v4), s4, Br_f c0 (Br_t c1 ⟨(b, q + 1 + 1 + 1, v5), s5, (b, q + 1 + 1 + 1 + 1, v6), s6, Ck_d a5 (Ck_d b5 (Ck_lt (by dsimp only; omega) ⟨rfl, rfl⟩))⟩)⟩⟩⟩
      · refine ⟨X, q + 1 + 1, by omega, by omega, by omega, by omega, ?_⟩
        refine SC_of_FB (H := H63) E_ok Try.func63 (by kernel_rfl) ?_
        rw [eq63]
        exact ⟨(b, p + 1, v0), s0, (b, q, k, L, F, B), s1, (X, true), s2, ⟨(b, q + 1, v3), s3, Br_t c3 ⟨(b, q + 1 + 1, v4), s4, Br_f c0 (Br_f c1 ⟨rfl, rfl⟩)⟩⟩⟩
    · obtain ⟨v9, l', p', e1, e2, e3, e4, s9, hF⟩ := els (q + 1) (by omega) (by omega)
      refine ⟨l', p', e1, e2, e3, e4, ?_⟩
      refine SC_of_FB (H := H63) E_ok Try.func63 (by kernel_rfl) ?_
      rw [eq63]
      exact ⟨(b, p + 1, v0), s0, (b, q, k, L, F, B), s1, (X, true), s2, ⟨(b, q + 1, v3), s3, Br_f c3 ⟨(b, q + 1 + 1, v9), s9, hF⟩⟩⟩
/-! loop.example/keelson/spec.DrawProgMany -/
def H17 : Hint := ⟨[], [], [], [], [], [], []⟩
theorem eq17 (code : List Int) (r : List W) (lh : Heap) : FB E H17 Try.f17 [.one (.ro (.int .u8) code)] [] r lh =
  (
   ∃ r0 : (List Int × Int), SC P 62 [.one (.ro (.int .u8) code)] [] [.one (.ptr 0 0 0)] [.box [.ro (.int .u8) r0.1, .int .i64 r0.2]] ∧
    ∃ r1 : List Int × Int × List (Int × (Int × Int)), SC P 63 [.one (.ptr 0 0 0)] [.box [.ro (.int .u8) r0.1, .int .i64 r0.2]] [.one (.sl 1 none)] [.box [.ro (.int .u8) r1.1, .int .i64 r1.2.1], .row (.pair (.int .i64) (.pair (.int .i64) (.int .i64))) r1.2.2 .own] ∧
     ∃ r2 : List Int × Int × Int, SC P 64 [.one (.ptr 0 0 0), .one (.int .i64 4)] [.box [.ro (.int .u8) r1.1, .int .i64 r1.2.1]] [.one (.int .i64 r2.2.2)] [.box [.ro (.int .u8) r2.1, .int .i64 r2.2.1]] ∧
      Ret r lh [.one (.sl 0 none), .one (.int .i64 (IntKind.wrap .i64 (1 + r2.2.2)))] [.row (.pair (.int .i64) (.pair (.int .i64) (.int .i64))) r1.2.2 .own]) := by kernel_rfl
theorem c17 (code : List Int) (hc : Bytes code) : ∃ (l : List Step) (o : Int), 1 ≤ l.length ∧ l.length ≤ 20 ∧ SC P 17 [.one (.ro (.int .u8) code)] [] [.one (.sl 0 none), .one (.int .i64 o)] [.row (.pair (.int .i64) (.pair (.int .i64) (.int .i64))) l .own] := by
  obtain ⟨b, hb, s0⟩ := c62 code hc
  obtain ⟨l, p, l1, l2, p0, p1, s1⟩ := c63 b 0 hb (by omega) (by omega)
  obtain ⟨v, a, bb, s2⟩ := c64 b p 4 hb p0 (by omega) (by omega)
  refine ⟨l, IntKind.wrap .i64 (1 + v), l1, l2, ?_⟩
  refine SC_of_FB (H := H17) E_ok Try.func17 (by kernel_rfl) ?_
  rw [eq17]
  exact ⟨(b, 0), s0, (b, p, l), s1, (b, p + 1, v), s2, rfl, rfl⟩
/-! loop.example/keelson/spec.DrawProgOk -/
def H14 : Hint := ⟨[], [], [], [], [.one (.c (.sl (.pair (.int .i64) (.pair (.int .i64) (.int .i64)))))], [], []⟩
theorem eq14 (code : List Int) (r : List W) (lh : Heap) : FB E H14 Try.f14 [.one (.ro (.int .u8) code)] [] r lh =
  (
   ∃ r0 : (List Int × Int), SC P 62 [.one (.ro (.int .u8) code)] [] [.one (.ptr 0 0 0)] [.box [.ro (.int .u8) r0.1, .int .i64 r0.2]] ∧
    ∃ r1 : List Int × Int × List (Int × (Int × Int)), SC P 63 [.one (.ptr 0 0 0)] [.box [.ro (.int .u8) r0.1, .int .i64 r0.2]] [.one (.sl 1 none)] [.box [.ro (.int .u8) r1.1, .int .i64 r1.2.1], .row (.pair (.int .i64) (.pair (.int .i64) (.int .i64))) r1.2.2 .own] ∧
     ∃ r2 : List Int × Int × Int, SC P 64 [.one (.ptr 0 0 0), .one (.int .i64 6)] [.box [.ro (.int .u8) r1.1, .int .i64 r1.2.1]] [.one (.int .i64 r2.2.2)] [.box [.ro (.int .u8) r2.1, .int .i64 r2.2.1]] ∧
      Br (decide (r2.2.2 = (0 : Int))) (
       Ck (decide ((1 : Int) ≤ ((r1.2.2.length : Nat) : Int))) (
        Ck (decide (((r1.2.2.length : Nat) : Int) ≤ ((r1.2.2.length : Nat) : Int))) (
         Ck (decide (((r1.2.2.length : Nat) : Int) ≤ ((r1.2.2.length : Nat) : Int))) (
          Ret r lh [.one (.ro (.pair (.int .i64) (.pair (.int .i64) (.int .i64))) ((r1.2.2.drop 1).take (((r1.2.2.length : Nat) : Int).toNat - 1)))] [])))) (
       Ret r lh [.one (.ro (.pair (.int .i64) (.pair (.int .i64) (.int .i64))) r1.2.2)] [])) := by kernel_rfl
theorem c14 (code : List Int) (hc : Bytes code) : ∃ (l : List Step), l.length ≤ 20 ∧ SC P 14 [.one (.ro (.int .u8) code)] [] [.one (.ro (.pair (.int .i64) (.pair (.int .i64) (.int .i64))) l)] [] := by
  obtain ⟨b, hb, s0⟩ := c62 code hc
  obtain ⟨l, p, l1, l2, p0, p1, s1⟩ := c63 b 0 hb (by omega) (by omega)
  obtain ⟨v, a, bb, s2⟩ := c64 b p 6 hb p0 (by omega) (by omega)
  by_cases c0 : v = 0
  · refine ⟨(l.drop 1).take ((l.length : Int).toNat - 1), by simp; omega, ?_⟩
    refine SC_of_FB (H := H14) E_ok Try.func14 (by kernel_rfl) ?_
    rw [eq14]
    exact ⟨(b, 0), s0, (b, p, l), s1, (b, p + 1, v), s2, Br_t c0 (Ck_d (by dsimp only; omega) (Ck_d (by omega) (Ck_d (by omega) ⟨rfl, rfl⟩)))⟩
  · refine ⟨l, l2, ?_⟩
    refine SC_of_FB (H := H14) E_ok Try.func14 (by kernel_rfl) ?_
    rw [eq14]
    exact ⟨(b, 0), s0, (b, p, l), s1, (b, p + 1, v), s2, Br_f c0 ⟨rfl, rfl⟩⟩
end Go.Proofs.Ytnbdhclkmcfdfaa.Sh
