/- Sets that are tried, the first ones first: contracts. -/
import Derived.Test.YtjoiadaogppmkaaShQ7
namespace Go.Proofs.Ytjoiadaogppmkaa.Sh
open Go
set_option linter.unusedVariables false
set_option linter.unusedSimpArgs false
theorem SC.more2 {P : Program} {f : Nat} {args : List W} {lent : Heap} {x : W} (h : Heap) (hx : wIn (fun b => Nat.blt b h.length) x = true) (hin : h.all (blkIn fun b => Nat.blt b h.length) = true) (hx2 : wIn (fun b => Nat.blt b (h ++ [Blk.row (.int .i64) [] .own]).length) x = true) (hin2 : (h ++ [Blk.row (.int .i64) [] .own]).all (blkIn fun b => Nat.blt b (h ++ [Blk.row (.int .i64) [] .own]).length) = true) (hS : SC P f args lent [x] h) : SC P f args lent [x] ((h ++ [Blk.row (.int .i64) [] .own]) ++ [Blk.row (.int .i64) [] .own]) := SC.more (t := .int .i64) hx2 hin2 (SC.more (t := .int .i64) hx hin hS)
theorem Br_t' {A B : Prop} (h : A) : Br true A B := h
theorem Br_f' {A B : Prop} (h : B) : Br false A B := h
theorem drop_getD {l : List Int} {i : Nat} (h : i < l.length) : l.drop i = l.getD i 0 :: l.drop (i + 1) := by rw [getD_eq h]; exact drop_cons h
theorem sh_snoc {set shards : List Int} (h : ShOk set) (hs : ShOk shards) {i : Nat} (hi : i < shards.length) : ShOk (set ++ [shards.getD i 0]) := by
  intro x hx
  rcases List.mem_append.1 hx with g | g
  · exact h x g
  · rw [List.mem_singleton] at g; subst g; exact shok_get hs hi
theorem take_snoc {l set : List Int} {a : Int} (h : l.take (set.length + 1) = set ++ [a]) : l.take set.length = set := by
  have := congrArg (List.take set.length) h
  rw [List.take_take, Nat.min_eq_left (Nat.le_succ _), List.take_left' rfl] at this
  exact this
def ChCn (kind lost : Int) (many : Nat) (shards : List Int) (next : Nat) : Prop := ∀ set : List Int, ShOk set → set.length ≤ next → ∃ (y : Nat) (l' : List Int),
  ((findE (planIT kind lost) many (shards.drop next) set) = none → y = set.length ∧ l'.take y = set) ∧ SC P 104 [.one (.int .i64 (next : Int)), .one (.ptr 0 0 0), .one (.ptr 2 0 0), .one (.ptr 3 0 0), .one (.ptr 7 0 0), .one (.ptr 8 0 0)] [.box [.sl 1 none], .row (.int .i64) set .own, .row (.int .i64) [(many : Int)] .var, .box [.fn 83 [4, 5, 6]], .row (.int .i64) [kind] .var, .row (.int .i64) [lost] .var, .box [.int .i64 0, .nil, .nil], .box [.ro (.int .i64) shards], .box [.fn 104 [0, 2, 3, 7, 8]]] [.one (.bool (resP lost (findE (planIT kind lost) many (shards.drop next) set)).2.2.2)] [.box [.sl 1 (some (0, y))], .row (.int .i64) l' .moved, .row (.int .i64) [(many : Int)] .var, .box [.fn 83 [4, 5, 6]], .row (.int .i64) [kind] .var, .row (.int .i64) [lost] .var, .box [.int .i64 (resP lost (findE (planIT kind lost) many (shards.drop next) set)).1, .sl 9 none, .sl 10 none], .box [.ro (.int .i64) shards], .box [.fn 104 [0, 2, 3, 7, 8]], .row (.int .i64) (resP lost (findE (planIT kind lost) many (shards.drop next) set)).2.1 .own, .row (.int .i64) (resP lost (findE (planIT kind lost) many (shards.drop next) set)).2.2.1 .own]
def ChCo (kind lost : Int) (many : Nat) (shards : List Int) (next : Nat) : Prop := ∀ set : List Int, ShOk set → set.length ≤ next → ∃ (y : Nat) (l' : List Int),
  ((findE (planIT kind lost) many (shards.drop next) set) = none → y = set.length ∧ l'.take y = set) ∧ SC P 104 [.one (.int .i64 (next : Int)), .one (.ptr 0 0 0), .one (.ptr 2 0 0), .one (.ptr 3 0 0), .one (.ptr 9 0 0), .one (.ptr 10 0 0)] [.box [.sl 1 none], .row (.int .i64) set .own, .row (.int .i64) [(many : Int)] .var, .box [.fn 83 [4, 5, 6]], .row (.int .i64) [kind] .var, .row (.int .i64) [lost] .var, .box [.int .i64 0, .sl 7 none, .sl 8 none], .row (.int .i64) [] .own, .row (.int .i64) [] .own, .box [.ro (.int .i64) shards], .box [.fn 104 [0, 2, 3, 9, 10]]] [.one (.bool (resP lost (findE (planIT kind lost) many (shards.drop next) set)).2.2.2)] [.box [.sl 1 (some (0, y))], .row (.int .i64) l' .moved, .row (.int .i64) [(many : Int)] .var, .box [.fn 83 [4, 5, 6]], .row (.int .i64) [kind] .var, .row (.int .i64) [lost] .var, .box [.int .i64 (resP lost (findE (planIT kind lost) many (shards.drop next) set)).1, .sl 7 none, .sl 8 none], .row (.int .i64) (resP lost (findE (planIT kind lost) many (shards.drop next) set)).2.1 .moved, .row (.int .i64) (resP lost (findE (planIT kind lost) many (shards.drop next) set)).2.2.1 .moved, .box [.ro (.int .i64) shards], .box [.fn 104 [0, 2, 3, 9, 10]], .row (.int .i64) [] .own, .row (.int .i64) [] .own]
/-! loop.example/keelson/impl.chosen$1 -/
def H104o : Hint := ⟨[[(1, 0, .bool), (4, 0, .bool), (5, 0, .bool), (8, 0, .bool)]], [], [(6, [0, 1, 2, 3, 4, 5, 6, 7])], [], [], [], []⟩
def S104o_L0 (i8 : Int) (h1 : List Int) (h2 : List Int) (h4 : List Int) (h5 : List Int) (b6_0 : Int) (h7 : List Int) (h8 : List Int) (b9_0 : List Int) : St := ⟨[(1, .w (.one (.ptr 0 0 0))), (4, .w (.one (.ptr 9 0 0))), (5, .w (.one (.ptr 10 0 0))), (8, .w (.one (.int .i64 i8)))], [.box [.sl 1 none], .row (.int .i64) h1 .own, .row (.int .i64) h2 .var, .box [.fn 83 [4, 5, 6]], .row (.int .i64) h4 .var, .row (.int .i64) h5 .var, .box [.int .i64 b6_0, .sl 7 none, .sl 8 none], .row (.int .i64) h7 .own, .row (.int .i64) h8 .own, .box [.ro (.int .i64) b9_0], .box [.fn 104 [0, 2, 3, 9, 10]]]⟩
def S104o_L0b (i8 : Int) (b0_0n : Nat) (h1 : List Int) (h2 : List Int) (h4 : List Int) (h5 : List Int) (b6_0 : Int) (h7 : List Int) (h8 : List Int) (b9_0 : List Int) : St := ⟨[(1, .w (.one (.ptr 0 0 0))), (4, .w (.one (.ptr 9 0 0))), (5, .w (.one (.ptr 10 0 0))), (8, .w (.one (.int .i64 i8)))], [.box [.sl 1 (some (0, b0_0n))], .row (.int .i64) h1 .moved, .row (.int .i64) h2 .var, .box [.fn 83 [4, 5, 6]], .row (.int .i64) h4 .var, .row (.int .i64) h5 .var, .box [.int .i64 b6_0, .sl 7 none, .sl 8 none], .row (.int .i64) h7 .moved, .row (.int .i64) h8 .moved, .box [.ro (.int .i64) b9_0], .box [.fn 104 [0, 2, 3, 9, 10]]]⟩
theorem eq104o (next : Int) (l : List Int) (many : Int) (kind : Int) (lost : Int) (shards : List Int) (r : List W) (lh : Heap) : FB E H104o Try.f104 [.one (.int .i64 next), .one (.ptr 0 0 0), .one (.ptr 2 0 0), .one (.ptr 3 0 0), .one (.ptr 9 0 0), .one (.ptr 10 0 0)] [.box [.sl 1 none], .row (.int .i64) l .own, .row (.int .i64) [many] .var, .box [.fn 83 [4, 5, 6]], .row (.int .i64) [kind] .var, .row (.int .i64) [lost] .var, .box [.int .i64 0, .sl 7 none, .sl 8 none], .row (.int .i64) [] .own, .row (.int .i64) [] .own, .box [.ro (.int .i64) shards], .box [.fn 104 [0, 2, 3, 9, 10]]] r lh =
  (
   Br (decide (((l.length : Nat) : Int) = many)) (
    ∃ r0 : Int × List Int × List Int × List Int × List Int × Bool, SC P 83 [.one (.ro (.int .i64) l), .one (.ptr 0 0 0), .one (.ptr 1 0 0), .one (.ptr 2 0 0)] [.row (.int .i64) [kind] .var, .row (.int .i64) [lost] .var, .box [.int .i64 0, .sl 3 none, .sl 4 none], .row (.int .i64) [] .own, .row (.int .i64) [] .own] [.one (.bool r0.2.2.2.2.2)] [.row (.int .i64) [kind] .var, .row (.int .i64) [lost] .var, .box [.int .i64 r0.1, .sl 3 none, .sl 4 none], .row (.int .i64) r0.2.2.2.1 .moved, .row (.int .i64) r0.2.2.2.2.1 .moved, .row (.int .i64) r0.2.1 .own, .row (.int .i64) r0.2.2.1 .own] ∧
     Ret r lh [.one (.bool r0.2.2.2.2.2)] [.box [.sl 1 none], .row (.int .i64) l .own, .row (.int .i64) [many] .var, .box [.fn 83 [4, 5, 6]], .row (.int .i64) [kind] .var, .row (.int .i64) [lost] .var, .box [.int .i64 r0.1, .sl 7 none, .sl 8 none], .row (.int .i64) r0.2.2.2.1 .moved, .row (.int .i64) r0.2.2.2.2.1 .moved, .box [.ro (.int .i64) shards], .box [.fn 104 [0, 2, 3, 9, 10]]]) (
    FL E H104o Try.f104 11 r lh 0 (S104o_L0 next l [many] [kind] [lost] 0 [] [] shards))) := by kernel_rfl
theorem eq104o_L0 (i8 : Int) (h1 : List Int) (h2 : List Int) (h4 : List Int) (h5 : List Int) (b6_0 : Int) (h7 : List Int) (h8 : List Int) (b9_0 : List Int) (r : List W) (lh : Heap) : FL1 E H104o Try.f104 11 r lh 0 (S104o_L0 i8 h1 h2 h4 h5 b6_0 h7 h8 b9_0) =
  (
   Br (decide (i8 < ((b9_0.length : Nat) : Int))) (
    Ck (decide ((0 : Int) ≤ i8)) (
     Ck (decide (i8 < ((b9_0.length : Nat) : Int))) (
      Ck (Nat.ble ((h1.length + 1) * 8) roomy) (
       ∃ r0 : Nat × List Int × Int × List Int × List Int × List Int × List Int × Bool, SC P 104 [.one (.int .i64 (IntKind.wrap .i64 (i8 + 1))), .one (.ptr 0 0 0), .one (.ptr 2 0 0), .one (.ptr 3 0 0), .one (.ptr 9 0 0), .one (.ptr 10 0 0)] [.box [.sl 1 none], .row (.int .i64) (h1 ++ [(b9_0.getD i8.toNat 0)]) .own, .row (.int .i64) h2 .var, .box [.fn 83 [4, 5, 6]], .row (.int .i64) h4 .var, .row (.int .i64) h5 .var, .box [.int .i64 b6_0, .sl 7 none, .sl 8 none], .row (.int .i64) h7 .own, .row (.int .i64) h8 .own, .box [.ro (.int .i64) b9_0], .box [.fn 104 [0, 2, 3, 9, 10]]] [.one (.bool r0.2.2.2.2.2.2.2)] [.box [.sl 1 (some (0, r0.1))], .row (.int .i64) r0.2.1 .moved, .row (.int .i64) h2 .var, .box [.fn 83 [4, 5, 6]], .row (.int .i64) h4 .var, .row (.int .i64) h5 .var, .box [.int .i64 r0.2.2.1, .sl 7 none, .sl 8 none], .row (.int .i64) r0.2.2.2.2.2.1 .moved, .row (.int .i64) r0.2.2.2.2.2.2.1 .moved, .box [.ro (.int .i64) b9_0], .box [.fn 104 [0, 2, 3, 9, 10]], .row (.int .i64) r0.2.2.2.1 .own, .row (.int .i64) r0.2.2.2.2.1 .own] ∧
        Br r0.2.2.2.2.2.2.2 (
         Ret r lh [.one (.bool true)] [.box [.sl 1 (some (0, r0.1))], .row (.int .i64) r0.2.1 .moved, .row (.int .i64) h2 .var, .box [.fn 83 [4, 5, 6]], .row (.int .i64) h4 .var, .row (.int .i64) h5 .var, .box [.int .i64 r0.2.2.1, .sl 7 none, .sl 8 none], .row (.int .i64) r0.2.2.2.2.2.1 .moved, .row (.int .i64) r0.2.2.2.2.2.2.1 .moved, .box [.ro (.int .i64) b9_0], .box [.fn 104 [0, 2, 3, 9, 10]]]) (
         Ck (decide ((0 : Int) ≤ (IntKind.wrap .i64 (((r0.1 : Nat) : Int) - 1)))) (
          Ck (decide ((IntKind.wrap .i64 (((r0.1 : Nat) : Int) - 1)) ≤ ((r0.1 : Nat) : Int))) (
           Ck (decide (((r0.1 : Nat) : Int) ≤ ((r0.1 : Nat) : Int))) (
            FL E H104o Try.f104 11 r lh 0 (S104o_L0b (IntKind.wrap .i64 (i8 + 1)) ((IntKind.wrap .i64 (((r0.1 : Nat) : Int) - 1)).toNat - 0) r0.2.1 h2 h4 h5 r0.2.2.1 r0.2.2.2.2.2.1 r0.2.2.2.2.2.2.1 b9_0))))))))) (
    Ret r lh [.one (.bool false)] [.box [.sl 1 none], .row (.int .i64) h1 .own, .row (.int .i64) h2 .var, .box [.fn 83 [4, 5, 6]], .row (.int .i64) h4 .var, .row (.int .i64) h5 .var, .box [.int .i64 b6_0, .sl 7 none, .sl 8 none], .row (.int .i64) h7 .own, .row (.int .i64) h8 .own, .box [.ro (.int .i64) b9_0], .box [.fn 104 [0, 2, 3, 9, 10]]])) := by kernel_rfl
theorem eq104o_L0b (i8 : Int) (b0_0n : Nat) (h1 : List Int) (h2 : List Int) (h4 : List Int) (h5 : List Int) (b6_0 : Int) (h7 : List Int) (h8 : List Int) (b9_0 : List Int) (r : List W) (lh : Heap) : FL1 E H104o Try.f104 11 r lh 0 (S104o_L0b i8 b0_0n h1 h2 h4 h5 b6_0 h7 h8 b9_0) =
  (
   Br (decide (i8 < ((b9_0.length : Nat) : Int))) (
    Ck (decide ((0 : Int) ≤ i8)) (
     Ck (decide (i8 < ((b9_0.length : Nat) : Int))) (
      Ck (Nat.ble ((((h1.drop 0).take b0_0n).length + 1) * 8) roomy) (
       ∃ r0 : Nat × List Int × Int × List Int × List Int × List Int × List Int × Bool, SC P 104 [.one (.int .i64 (IntKind.wrap .i64 (i8 + 1))), .one (.ptr 0 0 0), .one (.ptr 2 0 0), .one (.ptr 3 0 0), .one (.ptr 9 0 0), .one (.ptr 10 0 0)] [.box [.sl 1 none], .row (.int .i64) (((h1.drop 0).take b0_0n) ++ [(b9_0.getD i8.toNat 0)]) .own, .row (.int .i64) h2 .var, .box [.fn 83 [4, 5, 6]], .row (.int .i64) h4 .var, .row (.int .i64) h5 .var, .box [.int .i64 b6_0, .sl 7 none, .sl 8 none], .row (.int .i64) h7 .own, .row (.int .i64) h8 .own, .box [.ro (.int .i64) b9_0], .box [.fn 104 [0, 2, 3, 9, 10]]] [.one (.bool r0.2.2.2.2.2.2.2)] [.box [.sl 1 (some (0, r0.1))], .row (.int .i64) r0.2.1 .moved, .row (.int .i64) h2 .var, .box [.fn 83 [4, 5, 6]], .row (.int .i64) h4 .var, .row (.int .i64) h5 .var, .box [.int .i64 r0.2.2.1, .sl 7 none, .sl 8 none], .row (.int .i64) r0.2.2.2.2.2.1 .moved, .row (.int .i64) r0.2.2.2.2.2.2.1 .moved, .box [.ro (.int .i64) b9_0], .box [.fn 104 [0, 2, 3, 9, 10]], .row (.int .i64) r0.2.2.2.1 .own, .row (.int .i64) r0.2.2.2.2.1 .own] ∧
        Br r0.2.2.2.2.2.2.2 (
         Ret r lh [.one (.bool true)] [.box [.sl 1 (some (0, r0.1))], .row (.int .i64) r0.2.1 .moved, .row (.int .i64) h2 .var, .box [.fn 83 [4, 5, 6]], .row (.int .i64) h4 .var, .row (.int .i64) h5 .var, .box [.int .i64 r0.2.2.1, .sl 7 none, .sl 8 none], .row (.int .i64) r0.2.2.2.2.2.1 .moved, .row (.int .i64) r0.2.2.2.2.2.2.1 .moved, .box [.ro (.int .i64) b9_0], .box [.fn 104 [0, 2, 3, 9, 10]]]) (
         Ck (decide ((0 : Int) ≤ (IntKind.wrap .i64 (((r0.1 : Nat) : Int) - 1)))) (
          Ck (decide ((IntKind.wrap .i64 (((r0.1 : Nat) : Int) - 1)) ≤ ((r0.1 : Nat) : Int))) (
           Ck (decide (((r0.1 : Nat) : Int) ≤ ((r0.1 : Nat) : Int))) (
            FL E H104o Try.f104 11 r lh 0 (S104o_L0b (IntKind.wrap .i64 (i8 + 1)) ((IntKind.wrap .i64 (((r0.1 : Nat) : Int) - 1)).toNat - 0) r0.2.1 h2 h4 h5 r0.2.2.1 r0.2.2.2.2.2.1 r0.2.2.2.2.2.2.1 b9_0))))))))) (
    Ret r lh [.one (.bool false)] [.box [.sl 1 (some (0, b0_0n))], .row (.int .i64) h1 .moved, .row (.int .i64) h2 .var, .box [.fn 83 [4, 5, 6]], .row (.int .i64) h4 .var, .row (.int .i64) h5 .var, .box [.int .i64 b6_0, .sl 7 none, .sl 8 none], .row (.int .i64) h7 .moved, .row (.int .i64) h8 .moved, .box [.ro (.int .i64) b9_0], .box [.fn 104 [0, 2, 3, 9, 10]]])) := by kernel_rfl
theorem l104ob (kind lost : Int) (many : Nat) (shards : List Int) (hs : ShOk shards) (h8 : shards.length ≤ 8) (next : Nat) (IH : ∀ k, next < k → k ≤ shards.length → ChCo kind lost many shards k) : ∀ (n i : Nat) (l set : List Int), i + n = shards.length → next ≤ i → l.take set.length = set → ShOk set → set.length ≤ i →
    ∃ (y : Nat) (l' : List Int), (findL (planIT kind lost) many (shards.drop i) set = none → y = set.length ∧ l'.take y = set) ∧
    FL E H104o Try.f104 11 [.one (.bool (resP lost (findL (planIT kind lost) many (shards.drop i) set)).2.2.2)] [.box [.sl 1 (some (0, y))], .row (.int .i64) l' .moved, .row (.int .i64) [(many : Int)] .var, .box [.fn 83 [4, 5, 6]], .row (.int .i64) [kind] .var, .row (.int .i64) [lost] .var, .box [.int .i64 (resP lost (findL (planIT kind lost) many (shards.drop i) set)).1, .sl 7 none, .sl 8 none], .row (.int .i64) (resP lost (findL (planIT kind lost) many (shards.drop i) set)).2.1 .moved, .row (.int .i64) (resP lost (findL (planIT kind lost) many (shards.drop i) set)).2.2.1 .moved, .box [.ro (.int .i64) shards], .box [.fn 104 [0, 2, 3, 9, 10]]] 0 (S104o_L0b (i : Int) set.length l [(many : Int)] [kind] [lost] 0 [] [] shards)
  | 0, i, l, set, h, hi, ht, hset, hl => by
    rw [List.drop_eq_nil_of_le (show shards.length ≤ i by omega)]
    refine ⟨set.length, l, fun _ => ⟨rfl, ht⟩, FL_of1 ?_⟩
    rw [eq104o_L0b]
    exact Br_f (by omega) ⟨rfl, rfl⟩
  | n + 1, i, l, set, h, hi, ht, hset, hl => by
    have hlt : i < shards.length := by omega
    obtain ⟨y, l', h1, sc⟩ := IH (i + 1) (by omega) (by omega) (set ++ [shards.getD i 0]) (sh_snoc hset hs hlt) (by simp; omega)
    rw [drop_getD hlt, findL_cons]
    cases hb : findE (planIT kind lost) many (shards.drop (i + 1)) (set ++ [shards.getD i 0]) with
    | some q =>
      rw [hb] at sc
      rw [Option.some_or]
      refine ⟨y, l', (fun h => by cases h), FL_of1 ?_⟩
      rw [eq104o_L0b, wS (i := i) (by omega)]
      simp only [Int.toNat_natCast, List.drop_zero]
      rw [ht]
      exact Br_t (by omega) (Ck_d (by omega) (Ck_d (by omega) (Ck_room (by omega) ⟨(y, l', (lost, q.1, q.2, true).1, [], [], (lost, q.1, q.2, true).2.1, (lost, q.1, q.2, true).2.2.1, (lost, q.1, q.2, true).2.2.2), sc, Br_t' ⟨rfl, rfl⟩⟩)))
    | none =>
      rw [hb] at sc
      obtain ⟨e1, e2⟩ := h1 hb
      rw [List.length_append, List.length_singleton] at e1
      subst e1
      rw [Option.none_or]
      obtain ⟨y2, l2, g1, hF⟩ := l104ob kind lost many shards hs h8 next IH n (i + 1) l' set (by omega) (by omega) (take_snoc e2) hset (by omega)
      refine ⟨y2, l2, g1, FL_of1 ?_⟩
      rw [eq104o_L0b, wS (i := i) (by omega)]
      simp only [Int.toNat_natCast, List.drop_zero]
      rw [ht]
      have hw : IntKind.wrap .i64 (((set.length + 1 : Nat) : Int) - 1) = (set.length : Int) := by rw [wrap64 (by omega) (by omega)]; omega
      refine Br_t (by omega) (Ck_d (by omega) (Ck_d (by omega) (Ck_room (by omega) ⟨(set.length + 1, l', (0, ([] : List Int), ([] : List Int), false).1, [], [], (0, ([] : List Int), ([] : List Int), false).2.1, (0, ([] : List Int), ([] : List Int), false).2.2.1, (0, ([] : List Int), ([] : List Int), false).2.2.2), sc, Br_f' ?_⟩)))
      rw [hw]
      exact Ck_d (by omega) (Ck_d (by omega) (Ck_d (by omega) hF))
theorem c104o (kind lost : Int) (h0 : 0 ≤ lost) (h1' : lost ≤ 7) (many : Nat) (shards : List Int) (hs : ShOk shards) (h8 : shards.length ≤ 8) : ∀ (N next : Nat), shards.length < next + N → next ≤ shards.length → ChCo kind lost many shards next
  | 0, next, h, h' => by omega
  | N + 1, next, h, h' => by
    have IH : ∀ k, next < k → k ≤ shards.length → ChCo kind lost many shards k := fun k h1 h2 => c104o kind lost h0 h1' many shards hs h8 N k (by omega) h2
    intro set hset hl
    by_cases e : set.length = many
    · refine ⟨set.length, set, fun _ => ⟨rfl, List.take_length⟩, ?_⟩
      rw [findE, decide_eq_true e, cond_true]
      have sp := c83o kind lost h0 h1' set hset (by omega)
      generalize planIT kind lost set = o at sp
      refine SC.more2 [.box [.sl 1 (some (0, set.length))], .row (.int .i64) set .moved, .row (.int .i64) [(many : Int)] .var, .box [.fn 83 [4, 5, 6]], .row (.int .i64) [kind] .var, .row (.int .i64) [lost] .var, .box [.int .i64 (resP lost o).1, .sl 7 none, .sl 8 none], .row (.int .i64) (resP lost o).2.1 .moved, .row (.int .i64) (resP lost o).2.2.1 .moved, .box [.ro (.int .i64) shards], .box [.fn 104 [0, 2, 3, 9, 10]]] rfl rfl rfl rfl ?_
      refine SC.seen (t := .int .i64) (l := set) ?_
      refine SC_of_FB (H := H104o) E_ok Try.func104 (by kernel_rfl) ?_
      rw [eq104o]
      exact Br_t (by omega) ⟨((resP lost o).1, [], [], (resP lost o).2.1, (resP lost o).2.2.1, (resP lost o).2.2.2), sp, rfl, rfl⟩
    · by_cases e2 : next = shards.length
      · refine ⟨set.length, set, fun _ => ⟨rfl, List.take_length⟩, ?_⟩
        rw [findE, decide_eq_false e, cond_false, List.drop_eq_nil_of_le (by omega)]
        have s0 : SC P 104 [.one (.int .i64 (next : Int)), .one (.ptr 0 0 0), .one (.ptr 2 0 0), .one (.ptr 3 0 0), .one (.ptr 9 0 0), .one (.ptr 10 0 0)] [.box [.sl 1 none], .row (.int .i64) set .own, .row (.int .i64) [(many : Int)] .var, .box [.fn 83 [4, 5, 6]], .row (.int .i64) [kind] .var, .row (.int .i64) [lost] .var, .box [.int .i64 0, .sl 7 none, .sl 8 none], .row (.int .i64) [] .own, .row (.int .i64) [] .own, .box [.ro (.int .i64) shards], .box [.fn 104 [0, 2, 3, 9, 10]]] [.one (.bool false)] [.box [.sl 1 none], .row (.int .i64) set .own, .row (.int .i64) [(many : Int)] .var, .box [.fn 83 [4, 5, 6]], .row (.int .i64) [kind] .var, .row (.int .i64) [lost] .var, .box [.int .i64 0, .sl 7 none, .sl 8 none], .row (.int .i64) [] .own, .row (.int .i64) [] .own, .box [.ro (.int .i64) shards], .box [.fn 104 [0, 2, 3, 9, 10]]] := by
          refine SC_of_FB (H := H104o) E_ok Try.func104 (by kernel_rfl) ?_
          rw [eq104o]
          refine Br_f (by omega) (FL_of1 ?_)
          rw [eq104o_L0]
          exact Br_f (by omega) ⟨rfl, rfl⟩
        have s1 := SC.seen (t := .int .i64) (l := set) s0
        have s2 := SC.movedRow 7 (t := .int .i64) (l := []) rfl s1
        have s3 := SC.movedRow 8 (t := .int .i64) (l := []) rfl s2
        have s4 := SC.more (t := .int .i64) rfl rfl s3
        have s5 := SC.more (t := .int .i64) rfl rfl s4
        exact s5
      · have hlt : next < shards.length := by omega
        obtain ⟨y, l', h1, sc⟩ := IH (next + 1) (by omega) (by omega) (set ++ [shards.getD next 0]) (sh_snoc hset hs hlt) (by simp; omega)
        rw [findE, decide_eq_false e, cond_false, drop_getD hlt, findL_cons]
        cases hb : findE (planIT kind lost) many (shards.drop (next + 1)) (set ++ [shards.getD next 0]) with
        | some q =>
          rw [hb] at sc
          rw [Option.some_or]
          refine ⟨y, l', (fun h => by cases h), ?_⟩
          refine SC.more2 [.box [.sl 1 (some (0, y))], .row (.int .i64) l' .moved, .row (.int .i64) [(many : Int)] .var, .box [.fn 83 [4, 5, 6]], .row (.int .i64) [kind] .var, .row (.int .i64) [lost] .var, .box [.int .i64 (resP lost (some q)).1, .sl 7 none, .sl 8 none], .row (.int .i64) (resP lost (some q)).2.1 .moved, .row (.int .i64) (resP lost (some q)).2.2.1 .moved, .box [.ro (.int .i64) shards], .box [.fn 104 [0, 2, 3, 9, 10]]] rfl rfl rfl rfl ?_
          refine SC_of_FB (H := H104o) E_ok Try.func104 (by kernel_rfl) ?_
          rw [eq104o]
          refine Br_f (by omega) (FL_of1 ?_)
          rw [eq104o_L0, wS (i := next) (by omega)]
          simp only [Int.toNat_natCast]
          exact Br_t (by omega) (Ck_d (by omega) (Ck_d (by omega) (Ck_room (by omega) ⟨(y, l', (lost, q.1, q.2, true).1, [], [], (lost, q.1, q.2, true).2.1, (lost, q.1, q.2, true).2.2.1, (lost, q.1, q.2, true).2.2.2), sc, Br_t' ⟨rfl, rfl⟩⟩)))
        | none =>
          rw [hb] at sc
          obtain ⟨e3, e4⟩ := h1 hb
          rw [List.length_append, List.length_singleton] at e3
          subst e3
          rw [Option.none_or]
          obtain ⟨y2, l2, g1, hF⟩ := l104ob kind lost many shards hs h8 next IH (shards.length - (next + 1)) (next + 1) l' set (by omega) (by omega) (take_snoc e4) hset (by omega)
          refine ⟨y2, l2, g1, ?_⟩
          refine SC.more2 [.box [.sl 1 (some (0, y2))], .row (.int .i64) l2 .moved, .row (.int .i64) [(many : Int)] .var, .box [.fn 83 [4, 5, 6]], .row (.int .i64) [kind] .var, .row (.int .i64) [lost] .var, .box [.int .i64 (resP lost (findL (planIT kind lost) many (shards.drop (next + 1)) set)).1, .sl 7 none, .sl 8 none], .row (.int .i64) (resP lost (findL (planIT kind lost) many (shards.drop (next + 1)) set)).2.1 .moved, .row (.int .i64) (resP lost (findL (planIT kind lost) many (shards.drop (next + 1)) set)).2.2.1 .moved, .box [.ro (.int .i64) shards], .box [.fn 104 [0, 2, 3, 9, 10]]] rfl rfl rfl rfl ?_
          refine SC_of_FB (H := H104o) E_ok Try.func104 (by kernel_rfl) ?_
          rw [eq104o]
          refine Br_f (by omega) (FL_of1 ?_)
          rw [eq104o_L0, wS (i := next) (by omega)]
          simp only [Int.toNat_natCast]
          have hw : IntKind.wrap .i64 (((set.length + 1 : Nat) : Int) - 1) = (set.length : Int) := by rw [wrap64 (by omega) (by omega)]; omega
          refine Br_t (by omega) (Ck_d (by omega) (Ck_d (by omega) (Ck_room (by omega) ⟨(set.length + 1, l', (0, ([] : List Int), ([] : List Int), false).1, [], [], (0, ([] : List Int), ([] : List Int), false).2.1, (0, ([] : List Int), ([] : List Int), false).2.2.1, (0, ([] : List Int), ([] : List Int), false).2.2.2), sc, Br_f' ?_⟩)))
          rw [hw]
          exact Ck_d (by omega) (Ck_d (by omega) (Ck_d (by omega) hF))
/-! loop.example/keelson/impl.chosen$1 -/
def H104 : Hint := ⟨[[(1, 0, .bool), (4, 0, .bool), (5, 0, .bool), (8, 0, .bool)]], [], [(6, [0, 1, 2, 3, 4, 5, 6, 7])], [], [], [], []⟩
def S104_L0 (i8 : Int) (h1 : List Int) (h2 : List Int) (h4 : List Int) (h5 : List Int) (b6_0 : Int) (b7_0 : List Int) : St := ⟨[(1, .w (.one (.ptr 0 0 0))), (4, .w (.one (.ptr 7 0 0))), (5, .w (.one (.ptr 8 0 0))), (8, .w (.one (.int .i64 i8)))], [.box [.sl 1 none], .row (.int .i64) h1 .own, .row (.int .i64) h2 .var, .box [.fn 83 [4, 5, 6]], .row (.int .i64) h4 .var, .row (.int .i64) h5 .var, .box [.int .i64 b6_0, .nil, .nil], .box [.ro (.int .i64) b7_0], .box [.fn 104 [0, 2, 3, 7, 8]]]⟩
def S104_L0b (i8 : Int) (b0_0n : Nat) (h1 : List Int) (h2 : List Int) (h4 : List Int) (h5 : List Int) (b6_0 : Int) (b7_0 : List Int) (h9 : List Int) (h10 : List Int) : St := ⟨[(1, .w (.one (.ptr 0 0 0))), (4, .w (.one (.ptr 7 0 0))), (5, .w (.one (.ptr 8 0 0))), (8, .w (.one (.int .i64 i8)))], [.box [.sl 1 (some (0, b0_0n))], .row (.int .i64) h1 .moved, .row (.int .i64) h2 .var, .box [.fn 83 [4, 5, 6]], .row (.int .i64) h4 .var, .row (.int .i64) h5 .var, .box [.int .i64 b6_0, .sl 9 none, .sl 10 none], .box [.ro (.int .i64) b7_0], .box [.fn 104 [0, 2, 3, 7, 8]], .row (.int .i64) h9 .own, .row (.int .i64) h10 .own]⟩
theorem eq104 (next : Int) (l : List Int) (many : Int) (kind : Int) (lost : Int) (shards : List Int) (r : List W) (lh : Heap) : FB E H104 Try.f104 [.one (.int .i64 next), .one (.ptr 0 0 0), .one (.ptr 2 0 0), .one (.ptr 3 0 0), .one (.ptr 7 0 0), .one (.ptr 8 0 0)] [.box [.sl 1 none], .row (.int .i64) l .own, .row (.int .i64) [many] .var, .box [.fn 83 [4, 5, 6]], .row (.int .i64) [kind] .var, .row (.int .i64) [lost] .var, .box [.int .i64 0, .nil, .nil], .box [.ro (.int .i64) shards], .box [.fn 104 [0, 2, 3, 7, 8]]] r lh =
  (
   Br (decide (((l.length : Nat) : Int) = many)) (
    ∃ r0 : Int × List Int × List Int × List Int × List Int × Bool, SC P 83 [.one (.ro (.int .i64) l), .one (.ptr 0 0 0), .one (.ptr 1 0 0), .one (.ptr 2 0 0)] [.row (.int .i64) [kind] .var, .row (.int .i64) [lost] .var, .box [.int .i64 0, .nil, .nil]] [.one (.bool r0.2.2.2.2.2)] [.row (.int .i64) [kind] .var, .row (.int .i64) [lost] .var, .box [.int .i64 r0.1, .sl 3 none, .sl 4 none], .row (.int .i64) r0.2.1 .own, .row (.int .i64) r0.2.2.1 .own] ∧
     Ret r lh [.one (.bool r0.2.2.2.2.2)] [.box [.sl 1 none], .row (.int .i64) l .own, .row (.int .i64) [many] .var, .box [.fn 83 [4, 5, 6]], .row (.int .i64) [kind] .var, .row (.int .i64) [lost] .var, .box [.int .i64 r0.1, .sl 9 none, .sl 10 none], .box [.ro (.int .i64) shards], .box [.fn 104 [0, 2, 3, 7, 8]], .row (.int .i64) r0.2.1 .own, .row (.int .i64) r0.2.2.1 .own]) (
    FL E H104 Try.f104 9 r lh 0 (S104_L0 next l [many] [kind] [lost] 0 shards))) := by kernel_rfl
theorem eq104_L0 (i8 : Int) (h1 : List Int) (h2 : List Int) (h4 : List Int) (h5 : List Int) (b6_0 : Int) (b7_0 : List Int) (r : List W) (lh : Heap) : FL1 E H104 Try.f104 9 r lh 0 (S104_L0 i8 h1 h2 h4 h5 b6_0 b7_0) =
  (
   Br (decide (i8 < ((b7_0.length : Nat) : Int))) (
    Ck (decide ((0 : Int) ≤ i8)) (
     Ck (decide (i8 < ((b7_0.length : Nat) : Int))) (
      Ck (Nat.ble ((h1.length + 1) * 8) roomy) (
       ∃ r0 : Nat × List Int × Int × List Int × List Int × List Int × List Int × Bool, SC P 104 [.one (.int .i64 (IntKind.wrap .i64 (i8 + 1))), .one (.ptr 0 0 0), .one (.ptr 2 0 0), .one (.ptr 3 0 0), .one (.ptr 7 0 0), .one (.ptr 8 0 0)] [.box [.sl 1 none], .row (.int .i64) (h1 ++ [(b7_0.getD i8.toNat 0)]) .own, .row (.int .i64) h2 .var, .box [.fn 83 [4, 5, 6]], .row (.int .i64) h4 .var, .row (.int .i64) h5 .var, .box [.int .i64 b6_0, .nil, .nil], .box [.ro (.int .i64) b7_0], .box [.fn 104 [0, 2, 3, 7, 8]]] [.one (.bool r0.2.2.2.2.2.2.2)] [.box [.sl 1 (some (0, r0.1))], .row (.int .i64) r0.2.1 .moved, .row (.int .i64) h2 .var, .box [.fn 83 [4, 5, 6]], .row (.int .i64) h4 .var, .row (.int .i64) h5 .var, .box [.int .i64 r0.2.2.1, .sl 9 none, .sl 10 none], .box [.ro (.int .i64) b7_0], .box [.fn 104 [0, 2, 3, 7, 8]], .row (.int .i64) r0.2.2.2.1 .own, .row (.int .i64) r0.2.2.2.2.1 .own] ∧
        Br r0.2.2.2.2.2.2.2 (
         Ret r lh [.one (.bool true)] [.box [.sl 1 (some (0, r0.1))], .row (.int .i64) r0.2.1 .moved, .row (.int .i64) h2 .var, .box [.fn 83 [4, 5, 6]], .row (.int .i64) h4 .var, .row (.int .i64) h5 .var, .box [.int .i64 r0.2.2.1, .sl 9 none, .sl 10 none], .box [.ro (.int .i64) b7_0], .box [.fn 104 [0, 2, 3, 7, 8]], .row (.int .i64) r0.2.2.2.1 .own, .row (.int .i64) r0.2.2.2.2.1 .own]) (
         Ck (decide ((0 : Int) ≤ (IntKind.wrap .i64 (((r0.1 : Nat) : Int) - 1)))) (
          Ck (decide ((IntKind.wrap .i64 (((r0.1 : Nat) : Int) - 1)) ≤ ((r0.1 : Nat) : Int))) (
           Ck (decide (((r0.1 : Nat) : Int) ≤ ((r0.1 : Nat) : Int))) (
            FL E H104 Try.f104 9 r lh 0 (S104_L0b (IntKind.wrap .i64 (i8 + 1)) ((IntKind.wrap .i64 (((r0.1 : Nat) : Int) - 1)).toNat - 0) r0.2.1 h2 h4 h5 r0.2.2.1 b7_0 r0.2.2.2.1 r0.2.2.2.2.1))))))))) (
    Ret r lh [.one (.bool false)] [.box [.sl 1 none], .row (.int .i64) h1 .own, .row (.int .i64) h2 .var, .box [.fn 83 [4, 5, 6]], .row (.int .i64) h4 .var, .row (.int .i64) h5 .var, .box [.int .i64 b6_0, .nil, .nil], .box [.ro (.int .i64) b7_0], .box [.fn 104 [0, 2, 3, 7, 8]]])) := by kernel_rfl
theorem eq104_L0b (i8 : Int) (b0_0n : Nat) (h1 : List Int) (h2 : List Int) (h4 : List Int) (h5 : List Int) (b6_0 : Int) (b7_0 : List Int) (h9 : List Int) (h10 : List Int) (r : List W) (lh : Heap) : FL1 E H104 Try.f104 9 r lh 0 (S104_L0b i8 b0_0n h1 h2 h4 h5 b6_0 b7_0 h9 h10) =
  (
   Br (decide (i8 < ((b7_0.length : Nat) : Int))) (
    Ck (decide ((0 : Int) ≤ i8)) (
     Ck (decide (i8 < ((b7_0.length : Nat) : Int))) (
      Ck (Nat.ble ((((h1.drop 0).take b0_0n).length + 1) * 8) roomy) (
       ∃ r0 : Nat × List Int × Int × List Int × List Int × List Int × List Int × Bool, SC P 104 [.one (.int .i64 (IntKind.wrap .i64 (i8 + 1))), .one (.ptr 0 0 0), .one (.ptr 2 0 0), .one (.ptr 3 0 0), .one (.ptr 9 0 0), .one (.ptr 10 0 0)] [.box [.sl 1 none], .row (.int .i64) (((h1.drop 0).take b0_0n) ++ [(b7_0.getD i8.toNat 0)]) .own, .row (.int .i64) h2 .var, .box [.fn 83 [4, 5, 6]], .row (.int .i64) h4 .var, .row (.int .i64) h5 .var, .box [.int .i64 b6_0, .sl 7 none, .sl 8 none], .row (.int .i64) h9 .own, .row (.int .i64) h10 .own, .box [.ro (.int .i64) b7_0], .box [.fn 104 [0, 2, 3, 9, 10]]] [.one (.bool r0.2.2.2.2.2.2.2)] [.box [.sl 1 (some (0, r0.1))], .row (.int .i64) r0.2.1 .moved, .row (.int .i64) h2 .var, .box [.fn 83 [4, 5, 6]], .row (.int .i64) h4 .var, .row (.int .i64) h5 .var, .box [.int .i64 r0.2.2.1, .sl 7 none, .sl 8 none], .row (.int .i64) r0.2.2.2.2.2.1 .moved, .row (.int .i64) r0.2.2.2.2.2.2.1 .moved, .box [.ro (.int .i64) b7_0], .box [.fn 104 [0, 2, 3, 9, 10]], .row (.int .i64) r0.2.2.2.1 .own, .row (.int .i64) r0.2.2.2.2.1 .own] ∧
        Br r0.2.2.2.2.2.2.2 (
         Ret r lh [.one (.bool true)] [.box [.sl 1 (some (0, r0.1))], .row (.int .i64) r0.2.1 .moved, .row (.int .i64) h2 .var, .box [.fn 83 [4, 5, 6]], .row (.int .i64) h4 .var, .row (.int .i64) h5 .var, .box [.int .i64 r0.2.2.1, .sl 9 none, .sl 10 none], .box [.ro (.int .i64) b7_0], .box [.fn 104 [0, 2, 3, 7, 8]], .row (.int .i64) r0.2.2.2.2.2.1 .own, .row (.int .i64) r0.2.2.2.2.2.2.1 .own]) (
         Ck (decide ((0 : Int) ≤ (IntKind.wrap .i64 (((r0.1 : Nat) : Int) - 1)))) (
          Ck (decide ((IntKind.wrap .i64 (((r0.1 : Nat) : Int) - 1)) ≤ ((r0.1 : Nat) : Int))) (
           Ck (decide (((r0.1 : Nat) : Int) ≤ ((r0.1 : Nat) : Int))) (
            FL E H104 Try.f104 9 r lh 0 (S104_L0b (IntKind.wrap .i64 (i8 + 1)) ((IntKind.wrap .i64 (((r0.1 : Nat) : Int) - 1)).toNat - 0) r0.2.1 h2 h4 h5 r0.2.2.1 b7_0 r0.2.2.2.2.2.1 r0.2.2.2.2.2.2.1))))))))) (
    Ret r lh [.one (.bool false)] [.box [.sl 1 (some (0, b0_0n))], .row (.int .i64) h1 .moved, .row (.int .i64) h2 .var, .box [.fn 83 [4, 5, 6]], .row (.int .i64) h4 .var, .row (.int .i64) h5 .var, .box [.int .i64 b6_0, .sl 9 none, .sl 10 none], .box [.ro (.int .i64) b7_0], .box [.fn 104 [0, 2, 3, 7, 8]], .row (.int .i64) h9 .own, .row (.int .i64) h10 .own])) := by kernel_rfl
theorem l104b (kind lost : Int) (many : Nat) (shards : List Int) (hs : ShOk shards) (h8 : shards.length ≤ 8) (next : Nat) (IH : ∀ k, next < k → k ≤ shards.length → ChCo kind lost many shards k) : ∀ (n i : Nat) (l set : List Int), i + n = shards.length → next ≤ i → l.take set.length = set → ShOk set → set.length ≤ i →
    ∃ (y : Nat) (l' : List Int), (findL (planIT kind lost) many (shards.drop i) set = none → y = set.length ∧ l'.take y = set) ∧
    FL E H104 Try.f104 9 [.one (.bool (resP lost (findL (planIT kind lost) many (shards.drop i) set)).2.2.2)] [.box [.sl 1 (some (0, y))], .row (.int .i64) l' .moved, .row (.int .i64) [(many : Int)] .var, .box [.fn 83 [4, 5, 6]], .row (.int .i64) [kind] .var, .row (.int .i64) [lost] .var, .box [.int .i64 (resP lost (findL (planIT kind lost) many (shards.drop i) set)).1, .sl 9 none, .sl 10 none], .box [.ro (.int .i64) shards], .box [.fn 104 [0, 2, 3, 7, 8]], .row (.int .i64) (resP lost (findL (planIT kind lost) many (shards.drop i) set)).2.1 .own, .row (.int .i64) (resP lost (findL (planIT kind lost) many (shards.drop i) set)).2.2.1 .own] 0 (S104_L0b (i : Int) set.length l [(many : Int)] [kind] [lost] 0 shards [] [])
  | 0, i, l, set, h, hi, ht, hset, hl => by
    rw [List.drop_eq_nil_of_le (show shards.length ≤ i by omega)]
    refine ⟨set.length, l, fun _ => ⟨rfl, ht⟩, FL_of1 ?_⟩
    rw [eq104_L0b]
    exact Br_f (by omega) ⟨rfl, rfl⟩
  | n + 1, i, l, set, h, hi, ht, hset, hl => by
    have hlt : i < shards.length := by omega
    obtain ⟨y, l', h1, sc⟩ := IH (i + 1) (by omega) (by omega) (set ++ [shards.getD i 0]) (sh_snoc hset hs hlt) (by simp; omega)
    rw [drop_getD hlt, findL_cons]
    cases hb : findE (planIT kind lost) many (shards.drop (i + 1)) (set ++ [shards.getD i 0]) with
    | some q =>
      rw [hb] at sc
      rw [Option.some_or]
      refine ⟨y, l', (fun h => by cases h), FL_of1 ?_⟩
      rw [eq104_L0b, wS (i := i) (by omega)]
      simp only [Int.toNat_natCast, List.drop_zero]
      rw [ht]
      exact Br_t (by omega) (Ck_d (by omega) (Ck_d (by omega) (Ck_room (by omega) ⟨(y, l', (lost, q.1, q.2, true).1, [], [], (lost, q.1, q.2, true).2.1, (lost, q.1, q.2, true).2.2.1, (lost, q.1, q.2, true).2.2.2), sc, Br_t' ⟨rfl, rfl⟩⟩)))
    | none =>
      rw [hb] at sc
      obtain ⟨e1, e2⟩ := h1 hb
      rw [List.length_append, List.length_singleton] at e1
      subst e1
      rw [Option.none_or]
      obtain ⟨y2, l2, g1, hF⟩ := l104b kind lost many shards hs h8 next IH n (i + 1) l' set (by omega) (by omega) (take_snoc e2) hset (by omega)
      refine ⟨y2, l2, g1, FL_of1 ?_⟩
      rw [eq104_L0b, wS (i := i) (by omega)]
      simp only [Int.toNat_natCast, List.drop_zero]
      rw [ht]
      have hw : IntKind.wrap .i64 (((set.length + 1 : Nat) : Int) - 1) = (set.length : Int) := by rw [wrap64 (by omega) (by omega)]; omega
      refine Br_t (by omega) (Ck_d (by omega) (Ck_d (by omega) (Ck_room (by omega) ⟨(set.length + 1, l', (0, ([] : List Int), ([] : List Int), false).1, [], [], (0, ([] : List Int), ([] : List Int), false).2.1, (0, ([] : List Int), ([] : List Int), false).2.2.1, (0, ([] : List Int), ([] : List Int), false).2.2.2), sc, Br_f' ?_⟩)))
      rw [hw]
      exact Ck_d (by omega) (Ck_d (by omega) (Ck_d (by omega) hF))
theorem c104 (kind lost : Int) (h0 : 0 ≤ lost) (h1' : lost ≤ 7) (many : Nat) (shards : List Int) (hs : ShOk shards) (h8 : shards.length ≤ 8) : ∀ (N next : Nat), shards.length < next + N → next ≤ shards.length → ChCn kind lost many shards next
  | 0, next, h, h' => by omega
  | N + 1, next, h, h' => by
    have IH : ∀ k, next < k → k ≤ shards.length → ChCo kind lost many shards k := fun k h1 h2 => c104o kind lost h0 h1' many shards hs h8 (shards.length + 1) k (by omega) h2
    have IHn : ∀ k, next < k → k ≤ shards.length → ChCn kind lost many shards k := fun k h1 h2 => c104 kind lost h0 h1' many shards hs h8 N k (by omega) h2
    intro set hset hl
    by_cases e : set.length = many
    · refine ⟨set.length, set, fun _ => ⟨rfl, List.take_length⟩, ?_⟩
      rw [findE, decide_eq_true e, cond_true]
      have sp := c83 kind lost h0 h1' set hset (by omega)
      generalize planIT kind lost set = o at sp
      skip
      refine SC.seen (t := .int .i64) (l := set) ?_
      refine SC_of_FB (H := H104) E_ok Try.func104 (by kernel_rfl) ?_
      rw [eq104]
      exact Br_t (by omega) ⟨((resP lost o).1, (resP lost o).2.1, (resP lost o).2.2.1, [], [], (resP lost o).2.2.2), sp, rfl, rfl⟩
    · by_cases e2 : next = shards.length
      · refine ⟨set.length, set, fun _ => ⟨rfl, List.take_length⟩, ?_⟩
        rw [findE, decide_eq_false e, cond_false, List.drop_eq_nil_of_le (by omega)]
        have s0 : SC P 104 [.one (.int .i64 (next : Int)), .one (.ptr 0 0 0), .one (.ptr 2 0 0), .one (.ptr 3 0 0), .one (.ptr 7 0 0), .one (.ptr 8 0 0)] [.box [.sl 1 none], .row (.int .i64) set .own, .row (.int .i64) [(many : Int)] .var, .box [.fn 83 [4, 5, 6]], .row (.int .i64) [kind] .var, .row (.int .i64) [lost] .var, .box [.int .i64 0, .nil, .nil], .box [.ro (.int .i64) shards], .box [.fn 104 [0, 2, 3, 7, 8]]] [.one (.bool false)] [.box [.sl 1 none], .row (.int .i64) set .own, .row (.int .i64) [(many : Int)] .var, .box [.fn 83 [4, 5, 6]], .row (.int .i64) [kind] .var, .row (.int .i64) [lost] .var, .box [.int .i64 0, .nil, .nil], .box [.ro (.int .i64) shards], .box [.fn 104 [0, 2, 3, 7, 8]]] := by
          refine SC_of_FB (H := H104) E_ok Try.func104 (by kernel_rfl) ?_
          rw [eq104]
          refine Br_f (by omega) (FL_of1 ?_)
          rw [eq104_L0]
          exact Br_f (by omega) ⟨rfl, rfl⟩
        have s1 := SC.seen (t := .int .i64) (l := set) s0
        have s2 := SC.nilRow (t := .int .i64) 6 1 rfl rfl rfl rfl s1
        have s3 := SC.nilRow (t := .int .i64) 6 2 rfl rfl rfl rfl s2
        exact s3
      · have hlt : next < shards.length := by omega
        obtain ⟨y, l', h1, sc⟩ := IHn (next + 1) (by omega) (by omega) (set ++ [shards.getD next 0]) (sh_snoc hset hs hlt) (by simp; omega)
        rw [findE, decide_eq_false e, cond_false, drop_getD hlt, findL_cons]
        cases hb : findE (planIT kind lost) many (shards.drop (next + 1)) (set ++ [shards.getD next 0]) with
        | some q =>
          rw [hb] at sc
          rw [Option.some_or]
          refine ⟨y, l', (fun h => by cases h), ?_⟩
          skip
          refine SC_of_FB (H := H104) E_ok Try.func104 (by kernel_rfl) ?_
          rw [eq104]
          refine Br_f (by omega) (FL_of1 ?_)
          rw [eq104_L0, wS (i := next) (by omega)]
          simp only [Int.toNat_natCast]
          exact Br_t (by omega) (Ck_d (by omega) (Ck_d (by omega) (Ck_room (by omega) ⟨(y, l', (lost, q.1, q.2, true).1, (lost, q.1, q.2, true).2.1, (lost, q.1, q.2, true).2.2.1, [], [], (lost, q.1, q.2, true).2.2.2), sc, Br_t' ⟨rfl, rfl⟩⟩)))
        | none =>
          rw [hb] at sc
          obtain ⟨e3, e4⟩ := h1 hb
          rw [List.length_append, List.length_singleton] at e3
          subst e3
          rw [Option.none_or]
          obtain ⟨y2, l2, g1, hF⟩ := l104b kind lost many shards hs h8 next IH (shards.length - (next + 1)) (next + 1) l' set (by omega) (by omega) (take_snoc e4) hset (by omega)
          refine ⟨y2, l2, g1, ?_⟩
          skip
          refine SC_of_FB (H := H104) E_ok Try.func104 (by kernel_rfl) ?_
          rw [eq104]
          refine Br_f (by omega) (FL_of1 ?_)
          rw [eq104_L0, wS (i := next) (by omega)]
          simp only [Int.toNat_natCast]
          have hw : IntKind.wrap .i64 (((set.length + 1 : Nat) : Int) - 1) = (set.length : Int) := by rw [wrap64 (by omega) (by omega)]; omega
          refine Br_t (by omega) (Ck_d (by omega) (Ck_d (by omega) (Ck_room (by omega) ⟨(set.length + 1, l', (0, ([] : List Int), ([] : List Int), false).1, (0, ([] : List Int), ([] : List Int), false).2.1, (0, ([] : List Int), ([] : List Int), false).2.2.1, [], [], (0, ([] : List Int), ([] : List Int), false).2.2.2), sc, Br_f' ?_⟩)))
          rw [hw]
          exact Ck_d (by omega) (Ck_d (by omega) (Ck_d (by omega) hF))
end Go.Proofs.Ytjoiadaogppmkaa.Sh
