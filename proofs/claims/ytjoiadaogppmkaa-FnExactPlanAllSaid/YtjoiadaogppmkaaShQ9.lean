/- The least plan that the program finds: contracts. -/
import Derived.Test.YtjoiadaogppmkaaShQ2
import Derived.Test.YtjoiadaogppmkaaShQ8
namespace Go.Proofs.Ytjoiadaogppmkaa.Sh
open Go
set_option linter.unusedVariables false
set_option linter.unusedSimpArgs false
/-! loop.example/keelson/impl.chosen -/
def H82 : Hint := ⟨[], [], [], [], [], [], []⟩
theorem eq82 (shards : List Int) (many : Int) (kind : Int) (lost : Int) (r : List W) (lh : Heap) : FB E H82 Try.f82 [.one (.ro (.int .i64) shards), .one (.int .i64 many), .one (.fn 83 [0, 1, 2])] [.row (.int .i64) [kind] .var, .row (.int .i64) [lost] .var, .box [.int .i64 0, .nil, .nil]] r lh =
  (
   Ck (decide ((0 : Int) ≤ many)) (
    Ck (decide (many * (8 : Nat) ≤ (roomy : Int))) (
     ∃ r0 : Nat × List Int × Int × List Int × List Int × List Int × List Int × Bool, SC P 104 [.one (.int .i64 0), .one (.ptr 0 0 0), .one (.ptr 2 0 0), .one (.ptr 3 0 0), .one (.ptr 7 0 0), .one (.ptr 8 0 0)] [.box [.sl 1 none], .row (.int .i64) [] .own, .row (.int .i64) [many] .var, .box [.fn 83 [4, 5, 6]], .row (.int .i64) [kind] .var, .row (.int .i64) [lost] .var, .box [.int .i64 0, .nil, .nil], .box [.ro (.int .i64) shards], .box [.fn 104 [0, 2, 3, 7, 8]]] [.one (.bool r0.2.2.2.2.2.2.2)] [.box [.sl 1 (some (0, r0.1))], .row (.int .i64) r0.2.1 .moved, .row (.int .i64) [many] .var, .box [.fn 83 [4, 5, 6]], .row (.int .i64) [kind] .var, .row (.int .i64) [lost] .var, .box [.int .i64 r0.2.2.1, .sl 9 none, .sl 10 none], .box [.ro (.int .i64) shards], .box [.fn 104 [0, 2, 3, 7, 8]], .row (.int .i64) r0.2.2.2.1 .own, .row (.int .i64) r0.2.2.2.2.1 .own] ∧
      Ret r lh [.one (.bool r0.2.2.2.2.2.2.2)] [.row (.int .i64) [kind] .var, .row (.int .i64) [lost] .var, .box [.int .i64 r0.2.2.1, .sl 3 none, .sl 4 none], .row (.int .i64) r0.2.2.2.1 .own, .row (.int .i64) r0.2.2.2.2.1 .own]))) := by kernel_rfl
theorem c82 (kind lost : Int) (h0 : 0 ≤ lost) (h1 : lost ≤ 7) (many : Nat) (hm : many ≤ 8) (shards : List Int) (hs : ShOk shards) (h8 : shards.length ≤ 8) : SC P 82 [.one (.ro (.int .i64) shards), .one (.int .i64 (many : Int)), .one (.fn 83 [0, 1, 2])] [.row (.int .i64) [kind] .var, .row (.int .i64) [lost] .var, .box [.int .i64 0, .nil, .nil]] [.one (.bool (resP lost (findE (planIT kind lost) many shards [])).2.2.2)] [.row (.int .i64) [kind] .var, .row (.int .i64) [lost] .var, .box [.int .i64 (resP lost (findE (planIT kind lost) many shards [])).1, .sl 3 none, .sl 4 none], .row (.int .i64) (resP lost (findE (planIT kind lost) many shards [])).2.1 .own, .row (.int .i64) (resP lost (findE (planIT kind lost) many shards [])).2.2.1 .own] := by
  obtain ⟨y, l', _, sc⟩ := c104 kind lost h0 h1 many shards hs h8 (shards.length + 1) 0 (by omega) (Nat.zero_le _) [] (fun x hx => by cases hx) (Nat.le_refl _)
  rw [List.drop_zero] at sc
  refine SC_of_FB (H := H82) E_ok Try.func82 (by kernel_rfl) ?_
  rw [eq82]
  exact Ck_d (by omega) (Ck_roomI (by omega) ⟨(y, l', (resP lost (findE (planIT kind lost) many shards [])).1, (resP lost (findE (planIT kind lost) many shards [])).2.1, (resP lost (findE (planIT kind lost) many shards [])).2.2.1, [], [], (resP lost (findE (planIT kind lost) many shards [])).2.2.2), sc, rfl, rfl⟩)
/-! loop.example/keelson/impl.chosen -/
def H82o : Hint := ⟨[], [], [], [], [], [], []⟩
theorem eq82o (shards : List Int) (many : Int) (kind : Int) (lost : Int) (r : List W) (lh : Heap) : FB E H82o Try.f82 [.one (.ro (.int .i64) shards), .one (.int .i64 many), .one (.fn 83 [0, 1, 2])] [.row (.int .i64) [kind] .var, .row (.int .i64) [lost] .var, .box [.int .i64 0, .sl 3 none, .sl 4 none], .row (.int .i64) [] .own, .row (.int .i64) [] .own] r lh =
  (
   Ck (decide ((0 : Int) ≤ many)) (
    Ck (decide (many * (8 : Nat) ≤ (roomy : Int))) (
     ∃ r0 : Nat × List Int × Int × List Int × List Int × List Int × List Int × Bool, SC P 104 [.one (.int .i64 0), .one (.ptr 0 0 0), .one (.ptr 2 0 0), .one (.ptr 3 0 0), .one (.ptr 9 0 0), .one (.ptr 10 0 0)] [.box [.sl 1 none], .row (.int .i64) [] .own, .row (.int .i64) [many] .var, .box [.fn 83 [4, 5, 6]], .row (.int .i64) [kind] .var, .row (.int .i64) [lost] .var, .box [.int .i64 0, .sl 7 none, .sl 8 none], .row (.int .i64) [] .own, .row (.int .i64) [] .own, .box [.ro (.int .i64) shards], .box [.fn 104 [0, 2, 3, 9, 10]]] [.one (.bool r0.2.2.2.2.2.2.2)] [.box [.sl 1 (some (0, r0.1))], .row (.int .i64) r0.2.1 .moved, .row (.int .i64) [many] .var, .box [.fn 83 [4, 5, 6]], .row (.int .i64) [kind] .var, .row (.int .i64) [lost] .var, .box [.int .i64 r0.2.2.1, .sl 7 none, .sl 8 none], .row (.int .i64) r0.2.2.2.2.2.1 .moved, .row (.int .i64) r0.2.2.2.2.2.2.1 .moved, .box [.ro (.int .i64) shards], .box [.fn 104 [0, 2, 3, 9, 10]], .row (.int .i64) r0.2.2.2.1 .own, .row (.int .i64) r0.2.2.2.2.1 .own] ∧
      Ret r lh [.one (.bool r0.2.2.2.2.2.2.2)] [.row (.int .i64) [kind] .var, .row (.int .i64) [lost] .var, .box [.int .i64 r0.2.2.1, .sl 3 none, .sl 4 none], .row (.int .i64) r0.2.2.2.2.2.1 .moved, .row (.int .i64) r0.2.2.2.2.2.2.1 .moved]))) := by kernel_rfl
theorem c82o (kind lost : Int) (h0 : 0 ≤ lost) (h1 : lost ≤ 7) (many : Nat) (hm : many ≤ 8) (shards : List Int) (hs : ShOk shards) (h8 : shards.length ≤ 8) : SC P 82 [.one (.ro (.int .i64) shards), .one (.int .i64 (many : Int)), .one (.fn 83 [0, 1, 2])] [.row (.int .i64) [kind] .var, .row (.int .i64) [lost] .var, .box [.int .i64 0, .sl 3 none, .sl 4 none], .row (.int .i64) [] .own, .row (.int .i64) [] .own] [.one (.bool (resP lost (findE (planIT kind lost) many shards [])).2.2.2)] [.row (.int .i64) [kind] .var, .row (.int .i64) [lost] .var, .box [.int .i64 (resP lost (findE (planIT kind lost) many shards [])).1, .sl 3 none, .sl 4 none], .row (.int .i64) (resP lost (findE (planIT kind lost) many shards [])).2.1 .moved, .row (.int .i64) (resP lost (findE (planIT kind lost) many shards [])).2.2.1 .moved, .row (.int .i64) [] .own, .row (.int .i64) [] .own] := by
  obtain ⟨y, l', _, sc⟩ := c104o kind lost h0 h1 many shards hs h8 (shards.length + 1) 0 (by omega) (Nat.zero_le _) [] (fun x hx => by cases hx) (Nat.le_refl _)
  rw [List.drop_zero] at sc
  refine SC.more2 [.row (.int .i64) [kind] .var, .row (.int .i64) [lost] .var, .box [.int .i64 (resP lost (findE (planIT kind lost) many shards [])).1, .sl 3 none, .sl 4 none], .row (.int .i64) (resP lost (findE (planIT kind lost) many shards [])).2.1 .moved, .row (.int .i64) (resP lost (findE (planIT kind lost) many shards [])).2.2.1 .moved] rfl rfl rfl rfl ?_
  refine SC_of_FB (H := H82o) E_ok Try.func82 (by kernel_rfl) ?_
  rw [eq82o]
  exact Ck_d (by omega) (Ck_roomI (by omega) ⟨(y, l', (resP lost (findE (planIT kind lost) many shards [])).1, [], [], (resP lost (findE (planIT kind lost) many shards [])).2.1, (resP lost (findE (planIT kind lost) many shards [])).2.2.1, (resP lost (findE (planIT kind lost) many shards [])).2.2.2), sc, rfl, rfl⟩)
/-! loop.example/keelson/impl.planOf -/
def H40 : Hint := ⟨[[(3, 0, .bool), (4, 0, .bool), (6, 0, .bool), (8, 0, .bool), (9, 0, .bool), (10, 0, .bool)]], [], [], [], [.agg [.c (.int .i64), .own (.int .i64), .own (.int .i64)], .one (.c .bool)], [], []⟩
def S40_L0 (others8n : Nat) (many10 : Int) (h0 : List Int) (h1 : List Int) (b2_0 : Int) (h3 : List Int) (b4_0 : Int) : St := ⟨[(3, .w (.one (.ptr 0 0 0))), (4, .w (.one (.ptr 1 0 0))), (6, .w (.one (.ptr 2 0 0))), (8, .w (.one (.sl 3 (some (0, others8n))))), (9, .w (.one (.ptr 4 0 0))), (10, .w (.one (.int .i64 many10)))], [.row (.int .i64) h0 .var, .row (.int .i64) h1 .var, .box [.int .i64 b2_0, .nil, .nil], .row (.int .i64) h3 .own, .box [.int .i64 b4_0, .nil, .nil]]⟩
def S40_L0b (others8n : Nat) (many10 : Int) (h0 : List Int) (h1 : List Int) (b2_0 : Int) (h3 : List Int) (b4_0 : Int) (h5 : List Int) (h6 : List Int) : St := ⟨[(3, .w (.one (.ptr 0 0 0))), (4, .w (.one (.ptr 1 0 0))), (6, .w (.one (.ptr 2 0 0))), (8, .w (.one (.sl 3 (some (0, others8n))))), (9, .w (.one (.ptr 4 0 0))), (10, .w (.one (.int .i64 many10)))], [.row (.int .i64) h0 .var, .row (.int .i64) h1 .var, .box [.int .i64 b2_0, .nil, .nil], .row (.int .i64) h3 .own, .box [.int .i64 b4_0, .sl 5 none, .sl 6 none], .row (.int .i64) h5 .own, .row (.int .i64) h6 .own]⟩
theorem eq40 (kind : Int) (lost : Int) (shards : List Int) (r : List W) (lh : Heap) : FB E H40 Try.f40 [.one (.int .i64 kind), .one (.int .i64 lost), .one (.ro (.int .i64) shards)] [] r lh =
  (
   ∃ r0 : List Int, SC P 80 [.one (.ro (.int .i64) shards)] [] [.one (.sl 0 none)] [.row (.int .i64) r0 .own] ∧
    ∃ r1 : List Int × Nat, SC P 79 [.one (.sl 0 none), .one (.fn 81 [1])] [.row (.int .i64) r0 .own, .row (.int .i64) [lost] .var] [.one (.sl 0 (some (0, r1.2)))] [.row (.int .i64) r1.1 .own, .row (.int .i64) [lost] .var] ∧
     FL E H40 Try.f40 0 r lh 0 (S40_L0 r1.2 1 [kind] [lost] 0 r1.1 0)) := by kernel_rfl
theorem eq40_L0 (others8n : Nat) (many10 : Int) (h0 : List Int) (h1 : List Int) (b2_0 : Int) (h3 : List Int) (b4_0 : Int) (r : List W) (lh : Heap) : FL1 E H40 Try.f40 0 r lh 0 (S40_L0 others8n many10 h0 h1 b2_0 h3 b4_0) =
  (
   Br (decide (many10 ≤ (4 : Int))) (
    ∃ r0 : Int × List Int × List Int × List Int × List Int × Bool, SC P 82 [.one (.ro (.int .i64) ((h3.drop 0).take others8n)), .one (.int .i64 many10), .one (.fn 83 [0, 1, 2])] [.row (.int .i64) h0 .var, .row (.int .i64) h1 .var, .box [.int .i64 b4_0, .nil, .nil]] [.one (.bool r0.2.2.2.2.2)] [.row (.int .i64) h0 .var, .row (.int .i64) h1 .var, .box [.int .i64 r0.1, .sl 3 none, .sl 4 none], .row (.int .i64) r0.2.1 .own, .row (.int .i64) r0.2.2.1 .own] ∧
     Br r0.2.2.2.2.2 (
      Ret r lh [.agg [.int .i64 r0.1, .sl 0 none, .sl 1 none], .one (.bool true)] [.row (.int .i64) r0.2.1 .own, .row (.int .i64) r0.2.2.1 .own]) (
      FL E H40 Try.f40 0 r lh 0 (S40_L0b others8n (IntKind.wrap .i64 (many10 + 1)) h0 h1 b2_0 h3 r0.1 r0.2.1 r0.2.2.1))) (
    Ret r lh [.agg [.int .i64 0, .sl 0 none, .sl 1 none], .one (.bool false)] [.row (.int .i64) [] .own, .row (.int .i64) [] .own])) := by kernel_rfl
theorem eq40_L0b (others8n : Nat) (many10 : Int) (h0 : List Int) (h1 : List Int) (b2_0 : Int) (h3 : List Int) (b4_0 : Int) (h5 : List Int) (h6 : List Int) (r : List W) (lh : Heap) : FL1 E H40 Try.f40 0 r lh 0 (S40_L0b others8n many10 h0 h1 b2_0 h3 b4_0 h5 h6) =
  (
   Br (decide (many10 ≤ (4 : Int))) (
    ∃ r0 : Int × List Int × List Int × List Int × List Int × Bool, SC P 82 [.one (.ro (.int .i64) ((h3.drop 0).take others8n)), .one (.int .i64 many10), .one (.fn 83 [0, 1, 2])] [.row (.int .i64) h0 .var, .row (.int .i64) h1 .var, .box [.int .i64 b4_0, .sl 3 none, .sl 4 none], .row (.int .i64) h5 .own, .row (.int .i64) h6 .own] [.one (.bool r0.2.2.2.2.2)] [.row (.int .i64) h0 .var, .row (.int .i64) h1 .var, .box [.int .i64 r0.1, .sl 3 none, .sl 4 none], .row (.int .i64) r0.2.2.2.1 .moved, .row (.int .i64) r0.2.2.2.2.1 .moved, .row (.int .i64) r0.2.1 .own, .row (.int .i64) r0.2.2.1 .own] ∧
     Br r0.2.2.2.2.2 (
      Ret r lh [.agg [.int .i64 r0.1, .sl 0 none, .sl 1 none], .one (.bool true)] [.row (.int .i64) r0.2.2.2.1 .own, .row (.int .i64) r0.2.2.2.2.1 .own]) (
      FL E H40 Try.f40 0 r lh 0 (S40_L0b others8n (IntKind.wrap .i64 (many10 + 1)) h0 h1 b2_0 h3 r0.1 r0.2.2.2.1 r0.2.2.2.2.1))) (
    Ret r lh [.agg [.int .i64 0, .sl 0 none, .sl 1 none], .one (.bool false)] [.row (.int .i64) [] .own, .row (.int .i64) [] .own])) := by kernel_rfl
theorem l40b (kind lost : Int) (h0 : 0 ≤ lost) (h1 : lost ≤ 7) (others h3 : List Int) (k : Nat) (hk : h3.take k = others) (hs : ShOk others) (h8 : others.length ≤ 8) : ∀ (n m : Nat), m + n = 5 → FL E H40 Try.f40 0 [.agg [.int .i64 (resP lost (fewL (planIT kind lost) others m n)).1, .sl 0 none, .sl 1 none], .one (.bool (resP lost (fewL (planIT kind lost) others m n)).2.2.2)] [.row (.int .i64) (resP lost (fewL (planIT kind lost) others m n)).2.1 .own, .row (.int .i64) (resP lost (fewL (planIT kind lost) others m n)).2.2.1 .own] 0 (S40_L0b k (m : Int) [kind] [lost] 0 h3 0 [] [])
  | 0, m, h => by
    refine FL_of1 ?_
    rw [eq40_L0b]
    exact Br_f (by omega) ⟨rfl, rfl⟩
  | n + 1, m, h => by
    have sc := c82o kind lost h0 h1 m (by omega) others hs h8
    refine FL_of1 ?_
    rw [eq40_L0b, wS (i := m) (by omega), fewL]
    simp only [List.drop_zero]
    rw [hk]
    refine Br_t (by omega) ?_
    cases hq : findE (planIT kind lost) m others [] with
    | none =>
      rw [hq] at sc
      rw [Option.none_or]
      exact ⟨(0, [], [], [], [], false), sc, l40b kind lost h0 h1 others h3 k hk hs h8 n (m + 1) (by omega)⟩
    | some q =>
      rw [hq] at sc
      exact ⟨(lost, [], [], q.1, q.2, true), sc, ⟨rfl, rfl⟩⟩
theorem c40 (kind lost : Int) (h0 : 0 ≤ lost) (h1 : lost ≤ 7) (shards : List Int) (hs : ShOk shards) (h8 : shards.length ≤ 8) : SC P 40 [.one (.int .i64 kind), .one (.int .i64 lost), .one (.ro (.int .i64) shards)] [] [.agg [.int .i64 (resP lost (fewest (planIT kind lost) (shards.filter fun x => !decide (x = lost)))).1, .sl 0 none, .sl 1 none], .one (.bool (resP lost (fewest (planIT kind lost) (shards.filter fun x => !decide (x = lost)))).2.2.2)] [.row (.int .i64) (resP lost (fewest (planIT kind lost) (shards.filter fun x => !decide (x = lost)))).2.1 .own, .row (.int .i64) (resP lost (fewest (planIT kind lost) (shards.filter fun x => !decide (x = lost)))).2.2.1 .own] := by
  have s1 := c80 shards (by omega)
  obtain ⟨h3, k, e1, e2, e3, s2⟩ := c79 shards lost (by omega)
  have hso : ShOk (shards.filter fun x => !decide (x = lost)) := fun x hx => hs x (List.mem_filter.1 hx).1
  have h8o : (shards.filter fun x => !decide (x = lost)).length ≤ 8 := Nat.le_trans (List.length_filter_le _ _) h8
  generalize (shards.filter fun x => !decide (x = lost)) = others at e1 hso h8o
  have sc := c82 kind lost h0 h1 1 (by omega) others hso h8o
  rw [← fewL_fewest, fewL]
  refine SC_of_FB (H := H40) E_ok Try.func40 (by kernel_rfl) ?_
  rw [eq40]
  refine ⟨_, s1, (h3, k), s2, FL_of1 ?_⟩
  rw [eq40_L0]
  simp only [List.drop_zero]
  rw [e1]
  refine Br_t (by omega) ?_
  cases hq : findE (planIT kind lost) 1 others [] with
  | none =>
    rw [hq] at sc
    rw [Option.none_or]
    exact ⟨(0, [], [], [], [], false), sc, l40b kind lost h0 h1 others h3 k e1 hso h8o 3 2 rfl⟩
  | some q =>
    rw [hq] at sc
    exact ⟨(lost, q.1, q.2, [], [], true), sc, ⟨rfl, rfl⟩⟩
theorem every_pair : every8L.Pairwise (· < ·) := by decide
theorem getD_take {l : List Int} {n i : Nat} : (mapR (fun j => l.getD j 0) 0 n).getD i 0 = if i < n then l.getD i 0 else 0 := by
  by_cases h : i < n
  · rw [if_pos h, mapR_get h, Nat.zero_add]
  · rw [if_neg h, List.getD, List.getElem?_eq_none (by rw [mapR_len]; omega)]; rfl
theorem formed_by {kind lost : Int} (h0 : 0 ≤ lost) (h1 : lost ≤ 7) {S : List Int} (hS : S.Sublist every8L) (hn : lost ∉ S) (s1 : 1 ≤ S.length) (s4 : S.length ≤ 4) : formed (lost, S, byI kind lost S) = (byI kind lost S).all fun c => decide (1 ≤ c) && decide (c ≤ 30) := by
  have hp := every_pair.sublist hS
  obtain ⟨g1, _⟩ := sub_sh hS
  have hbl := byI_len (kind := kind) (lost := lost) (S := S)
  have hat : ∀ i, i < S.length → formedAt (lost, S, byI kind lost S) i = true := by
    intro i hi
    obtain ⟨a, b⟩ := shok_get g1 hi
    have hne : ¬ S.getD i 0 = lost := fun e => hn (by rw [← e, getD_eq hi]; exact List.getElem_mem hi)
    show ((inB (S.getD i 0) 0 7 && !decide (S.getD i 0 = lost)) && (decide (i = 0) || decide (S.getD (i - 1) 0 < S.getD i 0))) = true
    rw [inB_iff.2 ⟨a, b⟩, decide_eq_false hne]
    by_cases e : i = 0
    · rw [decide_eq_true e]; rfl
    · have := List.pairwise_iff_getElem.1 hp (i - 1) i (by omega) hi (by omega)
      rw [decide_eq_true (show S.getD (i - 1) 0 < S.getD i 0 by rw [getD_eq (show i - 1 < S.length by omega), getD_eq hi]; exact this), Bool.or_true]; rfl
  rw [formed]
  show ((inB lost 0 7 && inB (S.length : Int) 1 4 && decide ((byI kind lost S).length = S.length)) && allR (fun i => formedAt (lost, S, byI kind lost S) i && byAt (lost, S, byI kind lost S) i) 0 S.length) = _
  rw [inB_iff.2 ⟨h0, h1⟩, inB_iff.2 ⟨by omega, by omega⟩, decide_eq_true hbl, Bool.true_and, Bool.true_and, Bool.true_and]
  rw [Bool.eq_iff_iff, allR_iff, List.all_eq_true]
  constructor
  · intro H c hc
    obtain ⟨i, hi, rfl⟩ := List.getElem_of_mem hc
    have := H i (Nat.zero_le _) (by omega)
    rw [Bool.and_eq_true] at this
    have := inB_iff.1 this.2
    have e : (byI kind lost S).getD i 0 = (byI kind lost S)[i] := getD_eq hi
    dsimp only at this
    rw [e] at this
    rw [decide_eq_true this.1, decide_eq_true this.2]; rfl
  · intro H i _ hi
    rw [Nat.zero_add] at hi
    rw [hat i hi, Bool.true_and]
    have hi' : i < (byI kind lost S).length := by omega
    have := H _ (List.getElem_mem hi')
    rw [Bool.and_eq_true, decide_eq_true_iff, decide_eq_true_iff] at this
    show inB ((byI kind lost S).getD i 0) 1 30 = true
    rw [getD_eq hi']
    exact inB_iff.2 this
theorem planIT_eq {kind lost : Int} (h0 : 0 ≤ lost) (h1 : lost ≤ 7) {S : List Int} (hS : S.Sublist every8L) (hn : lost ∉ S) (s1 : 1 ≤ S.length) (s4 : S.length ≤ 4) : planIT kind lost S = (planI kind lost S).map fun b => (S, b) := by
  rw [planIT, planI, formed_by h0 h1 hS hn s1 s4]
  cases (byK (spanF (rowsF kind S)).1 (rowV kind lost)).2 && (byI kind lost S).all fun c => decide (1 ≤ c) && decide (c ≤ 30) <;> rfl
theorem fewest_T {kind lost : Int} (hk : inB kind 1 2 = true) (h0 : 0 ≤ lost) (h1 : lost ≤ 7) {there : List Bool} (h8 : there.length = 8) : fewest (planIT kind lost) (othersF lost there) = fewest (planT kind lost) (othersF lost there) := by
  refine fewest_congr fun S hS s1 s4 => ?_
  obtain ⟨g1, g2⟩ := others_sub h8 hS
  rw [planIT_eq h0 h1 g1 g2 s1 s4]
  rcases (plan_at hk h0 h1 g1 g2 s1 s4).same with e | ⟨k, k1, k2, k3⟩
  · exact .inl (by rw [e]; rfl)
  · refine .inr ⟨k, k1, k2, fun e => k3 ?_⟩
    rw [planT, Option.map_eq_none_iff] at e
    exact e
/-! loop.example/keelson/impl.PlanOf -/
def H12 : Hint := ⟨[], [], [], [], [.agg [.c (.int .i64), .own (.int .i64), .own (.int .i64)], .one (.c .bool)], [], []⟩
theorem eq12 (kind : Int) (lost : Int) (there : List Bool) (r : List W) (lh : Heap) : FB E H12 Try.f12 [.one (.int .i64 kind), .one (.int .i64 lost), .one (.ro .bool there)] [] r lh =
  (
   ∃ r0 : Bool, SC P 39 [.one (.int .i64 kind)] [] [.one (.bool r0)] [] ∧
    Br (!r0) (
     Ret r lh [.agg [.int .i64 0, .sl 0 none, .sl 1 none], .one (.bool false)] [.row (.int .i64) [] .own, .row (.int .i64) [] .own]) (
     ∃ r1 : Bool, SC P 44 [.one (.int .i64 lost)] [] [.one (.bool r1)] [] ∧
      Br (!r1) (
       Ret r lh [.agg [.int .i64 0, .sl 0 none, .sl 1 none], .one (.bool false)] [.row (.int .i64) [] .own, .row (.int .i64) [] .own]) (
       Br (!(decide (((there.length : Nat) : Int) = (8 : Int)))) (
        Ret r lh [.agg [.int .i64 0, .sl 0 none, .sl 1 none], .one (.bool false)] [.row (.int .i64) [] .own, .row (.int .i64) [] .own]) (
        ∃ r2 : List Int, SC P 41 [.one (.ro .bool there)] [] [.one (.sl 0 none)] [.row (.int .i64) r2 .own] ∧
         ∃ r3 : Int × List Int × List Int × Bool, SC P 40 [.one (.int .i64 kind), .one (.int .i64 lost), .one (.ro (.int .i64) r2)] [] [.agg [.int .i64 r3.1, .sl 0 none, .sl 1 none], .one (.bool r3.2.2.2)] [.row (.int .i64) r3.2.1 .own, .row (.int .i64) r3.2.2.1 .own] ∧
          Ret r lh [.agg [.int .i64 r3.1, .sl 0 none, .sl 1 none], .one (.bool r3.2.2.2)] [.row (.int .i64) r3.2.1 .own, .row (.int .i64) r3.2.2.1 .own])))) := by kernel_rfl
theorem c12 (kind lost : Int) (there : List Bool) (hl : there.length ≤ 1048576) : SC P 12 [.one (.int .i64 kind), .one (.int .i64 lost), .one (.ro .bool there)] [] [.agg [.int .i64 (planOfF kind lost there).1, .sl 0 none, .sl 1 none], .one (.bool (planOfF kind lost there).2.2.2)] [.row (.int .i64) (planOfF kind lost there).2.1 .own, .row (.int .i64) (planOfF kind lost there).2.2.1 .own] := by
  refine SC_of_FB (H := H12) E_ok Try.func12 (by kernel_rfl) ?_
  rw [eq12]
  refine ⟨_, c39 kind, Br_nb (fun e => by rw [planOfF, e]; exact ⟨rfl, rfl⟩) (fun e => ⟨_, c44 lost, Br_nb (fun e2 => by rw [planOfF, e2, Bool.false_and, Bool.and_false]; exact ⟨rfl, rfl⟩) (fun e2 => ?_)⟩)⟩
  rw [dec8']
  obtain ⟨l0, l1⟩ := inB_iff.1 e2
  refine Br_nd (fun e3 => by rw [planOfF, decide_eq_false e3, Bool.and_false, Bool.and_false]; exact ⟨rfl, rfl⟩) (fun e3 => ?_)
  have hfs := sub_sh (flag_sub e3)
  have sp := c40 kind lost l0 l1 (flagF there) hfs.1 hfs.2
  rw [show (flagF there).filter (fun x => !decide (x = lost)) = othersF lost there from rfl, fewest_T e l0 l1 e3] at sp
  rw [planOfF, e, e2, decide_eq_true e3]
  exact ⟨_, c41 there hl, resP lost (fewest (planT kind lost) (othersF lost there)), sp, rfl, rfl⟩
/-! ## ShQa -/

/-! loop.example/keelson/laws.lkPlan -/
def H13 : Hint := ⟨[], [], [], [], [], [], []⟩
theorem eq13 (a : (Int × (List Int × List Int))) (b : (Int × (List Int × List Int))) (r : List W) (lh : Heap) : FB E H13 Try.f13 [.agg [.int .i64 a.1, .ro (.int .i64) a.2.1, .ro (.int .i64) a.2.2], .agg [.int .i64 b.1, .ro (.int .i64) b.2.1, .ro (.int .i64) b.2.2]] [] r lh =
  (
   Br (decide (a.1 = b.1)) (
    ∃ r0 : Bool, SC P 26 [.one (.ro (.int .i64) a.2.1), .one (.ro (.int .i64) b.2.1)] [] [.one (.bool r0)] [] ∧
     Br r0 (
      ∃ r1 : Bool, SC P 26 [.one (.ro (.int .i64) a.2.2), .one (.ro (.int .i64) b.2.2)] [] [.one (.bool r1)] [] ∧
       Ret r lh [.one (.bool r1)] []) (
      Ret r lh [.one (.bool false)] [])) (
    Ret r lh [.one (.bool false)] [])) := by kernel_rfl
theorem c13 (a : Pln) (h1 : a.2.1.length ≤ 1048576) (h2 : a.2.2.length ≤ 1048576) : SC P 13 [.agg [.int .i64 a.1, .ro (.int .i64) a.2.1, .ro (.int .i64) a.2.2], .agg [.int .i64 a.1, .ro (.int .i64) a.2.1, .ro (.int .i64) a.2.2]] [] [.one (.bool true)] [] := by
  have s1 := c26 a.2.1 a.2.1 h1
  have s2 := c26 a.2.2 a.2.2 h2
  rw [decide_eq_true rfl] at s1 s2
  refine SC_of_FB (H := H13) E_ok Try.func13 (by kernel_rfl) ?_
  rw [eq13]
  exact Br_t rfl ⟨true, s1, Br_b (fun _ => ⟨true, s2, rfl, rfl⟩) (fun e => by cases e)⟩
theorem codeRow_le {kind i : Int} : (codeRow kind i).length ≤ 4 := by
  rw [codeRow]
  cases inB kind 1 2 && inB i 0 7
  · exact Nat.zero_le _
  · exact Nat.le_refl _

theorem findL_some_congr {α β : Type} {t1 : List Int → Option α} {t2 : List Int → Option β} (h : ∀ S, (t1 S).isSome = (t2 S).isSome) {many : Nat} : ∀ {rem set : List Int}, (findL t1 many rem set).isSome = (findL t2 many rem set).isSome
  | [], _ => rfl
  | x :: rem, set => by
    rw [findL_cons, findL_cons, Option.isSome_or, Option.isSome_or, findL_some_congr h (rem := rem) (set := set), findE, findE]
    congr 1
    cases decide ((set ++ [x]).length = many)
    · exact findL_some_congr h
    · exact h _
theorem findE_some_congr {α β : Type} {t1 : List Int → Option α} {t2 : List Int → Option β} (h : ∀ S, (t1 S).isSome = (t2 S).isSome) {many : Nat} {rem set : List Int} : (findE t1 many rem set).isSome = (findE t2 many rem set).isSome := by
  rw [findE, findE]
  cases decide (set.length = many)
  · exact findL_some_congr h
  · exact h _
theorem fewest_some_congr {α β : Type} {t1 : List Int → Option α} {t2 : List Int → Option β} (h : ∀ S, (t1 S).isSome = (t2 S).isSome) {others : List Int} : (fewest t1 others).isSome = (fewest t2 others).isSome := by
  rw [fewest, fewest, Option.isSome_or, Option.isSome_or, Option.isSome_or, Option.isSome_or, Option.isSome_or, Option.isSome_or, findE_some_congr h, findE_some_congr h, findE_some_congr h, findE_some_congr h]
theorem planT_some (kind lost : Int) (S : List Int) : (planT kind lost S).isSome = (planS kind lost S).isSome := by
  rw [planT]; cases planS kind lost S <;> rfl
theorem resP_ok (lost : Int) (o : Option (List Int × List Int)) : (resP lost o).2.2.2 = o.isSome := by cases o <;> rfl
theorem filterR_congr' {α : Type} {p q : Nat → Bool} {f : Nat → α} : ∀ {n i : Nat}, (∀ j, i ≤ j → j < i + n → p j = q j) → filterR p f i n = filterR q f i n
  | 0, _, _ => rfl
  | n + 1, i, h => by
    rw [filterR, filterR, h i (Nat.le_refl _) (by omega), filterR_congr' (n := n) (i := i + 1) fun j h1 h2 => h j (by omega) (by omega)]
theorem flag_less {lost : Int} (h0 : 0 ≤ lost) (h1 : lost ≤ 7) {there : List Bool} (h8 : there.length = 8) : flagF (there.set lost.toNat false) = othersF lost there := by
  rw [← remF_others h8, flagF, List.length_set, h8, remF]
  refine filterR_congr' fun j _ hj => ?_
  by_cases e : lost.toNat = j
  · subst e
    rw [List.getD, List.getElem?_set_self (by omega), decide_eq_true (show ((lost.toNat : Nat) : Int) = lost by omega), Bool.not_true, Bool.and_false]; rfl
  · rw [List.getD, List.getElem?_set_ne e, decide_eq_false (show ¬ (j : Int) = lost by omega), Bool.not_false, Bool.and_true]; rfl
theorem span_has {kind lost : Int} (hk : inB kind 1 2 = true) (h0 : 0 ≤ lost) (h1 : lost ≤ 7) {U : List Int} (hU : U.Sublist every8L) : okBy (U.map (codeRow kind)) (codeRow kind lost) = hasI kind lost U := by
  obtain ⟨g1, g2⟩ := sub_sh hU
  have hrow : ∀ i, 0 ≤ i → i ≤ 7 → codeRow kind i = (rowV kind i).l := fun i a b => by rw [codeRow, hk, inB_iff.2 ⟨a, b⟩]; rfl
  have hall : (U.map (codeRow kind)).all vecOk = true := List.all_eq_true.2 fun l hl => by
    obtain ⟨i, hi, rfl⟩ := List.mem_map.1 hl
    obtain ⟨a, b⟩ := g1 i hi
    rw [hrow i a b]; exact vecOk_l (rowV_ok _ _)
  have hmat : matF (U.map (codeRow kind)) = rowsF kind U := by
    rw [matF, hall, cond_true, List.map_map, rowsF]
    refine List.map_congr_left fun i hi => ?_
    obtain ⟨a, b⟩ := g1 i hi
    show vecF (codeRow kind i) = rowV kind i
    rw [hrow i a b, vecF_l (rowV_ok _ _)]
  rw [okBy, matOk, hall, List.length_map, decide_eq_true g2, hrow lost h0 h1, vecOk_l (rowV_ok _ _), vecF_l (rowV_ok _ _), hmat]
  rfl

end Go.Proofs.Ytjoiadaogppmkaa.Sh
