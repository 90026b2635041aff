/- Sets of shards, the first ones first: contracts. -/
import Derived.Test.YtlebgbcoljnejaaShR3
import Derived.Test.YtlebgbcoljnejaaShUse
namespace Go.Proofs.Ytlebgbcoljnejaa.Sh
open Go
set_option linter.unusedVariables false
set_option linter.unusedSimpArgs false
/-! loop.example/keelson/impl.everyShard -/
def H89 : Hint := ⟨[[(1, 0, .bool), (4, 0, .bool)]], [], [], [], [], [], []⟩
def S89_L0 (x4 : Int) (h0 : List Int) : St := ⟨[(1, .w (.one (.sl 0 none))), (4, .w (.one (.int .i64 x4)))], [.row (.int .i64) h0 .own]⟩
theorem eq89 (r : List W) (lh : Heap) : FB E H89 Try.f89 [] [] r lh =
  (
   FL E H89 Try.f89 0 r lh 0 (S89_L0 0 [])) := by kernel_rfl
theorem eq89_L0 (x4 : Int) (h0 : List Int) (r : List W) (lh : Heap) : FL1 E H89 Try.f89 0 r lh 0 (S89_L0 x4 h0) =
  (
   Br (decide (x4 < (8 : Int))) (
    Ck (Nat.ble ((h0.length + 1) * 8) roomy) (
     FL E H89 Try.f89 0 r lh 0 (S89_L0 (IntKind.wrap .i64 (x4 + 1)) (h0 ++ [x4])))) (
    Ret r lh [.one (.sl 0 none)] [.row (.int .i64) h0 .own])) := by kernel_rfl
def every8 : List Int := [0, 1, 2, 3, 4, 5, 6, 7]
theorem l89 : ∀ (n i : Nat) (out : List Int), i + n = 8 → out.length = i → FL E H89 Try.f89 0 [.one (.sl 0 none)] [.row (.int .i64) (out ++ mapR (fun j => (j : Int)) i n) .own] 0 (S89_L0 (i : Int) out)
  | 0, i, out, h, ho => by
    refine FL_of1 ?_
    rw [eq89_L0]
    exact Br_f (by omega) ⟨rfl, by rw [mapR, List.append_nil]⟩
  | n + 1, i, out, h, ho => by
    refine FL_of1 ?_
    rw [eq89_L0, wS (by omega), mapR]
    refine Br_t (by omega) (Ck_room (by omega) ?_)
    have := l89 n (i + 1) (out ++ [(i : Int)]) (by omega) (by simp; omega)
    rw [List.append_assoc] at this
    exact this
theorem c89 : SC P 89 [] [] [.one (.sl 0 none)] [.row (.int .i64) every8 .own] := by
  refine SC_of_FB (H := H89) E_ok Try.func89 (by kernel_rfl) ?_
  rw [eq89]
  exact l89 8 0 [] rfl rfl
/-! loop.example/keelson/impl.CodeMost$1 -/
def H90 : Hint := ⟨[], [], [], [], [], [], []⟩
theorem eq90 (set : List Int) (kind : Int) (r : List W) (lh : Heap) : FB E H90 Try.f90 [.one (.ro (.int .i64) set), .one (.ptr 0 0 0)] [.row (.int .i64) [kind] .var] r lh =
  (
   ∃ r0 : Bool, SC P 66 [.one (.int .i64 kind), .one (.ro (.int .i64) set)] [] [.one (.bool r0)] [] ∧
    Ret r lh [.one (.bool (!r0))] [.row (.int .i64) [kind] .var]) := by kernel_rfl
theorem c90 (set : List Int) (kind : Int) (hs : ShOk set) (h8 : set.length ≤ 8) : SC P 90 [.one (.ro (.int .i64) set), .one (.ptr 0 0 0)] [.row (.int .i64) [kind] .var] [.one (.bool (!bearsI kind set))] [.row (.int .i64) [kind] .var] := by
  refine SC_of_FB (H := H90) E_ok Try.func90 (by kernel_rfl) ?_
  rw [eq90]
  exact ⟨_, c66 kind set hs h8, rfl, rfl⟩
/-! loop.example/keelson/impl.chosen$1 -/
def H126 : Hint := ⟨[[(1, 0, .bool), (4, 0, .bool), (5, 0, .bool), (8, 0, .bool)]], [], [(6, [0, 1, 2, 3, 4, 5, 6, 7])], [], [], [], []⟩
def S126_L0 (i8 : Int) (h1 : List Int) (h2 : List Int) (h4 : List Int) (b5_0 : List Int) : St := ⟨[(1, .w (.one (.ptr 0 0 0))), (4, .w (.one (.ptr 5 0 0))), (5, .w (.one (.ptr 6 0 0))), (8, .w (.one (.int .i64 i8)))], [.box [.sl 1 none], .row (.int .i64) h1 .own, .row (.int .i64) h2 .var, .box [.fn 90 [4]], .row (.int .i64) h4 .var, .box [.ro (.int .i64) b5_0], .box [.fn 126 [0, 2, 3, 5, 6]]]⟩
def S126_L0b (i8 : Int) (b0_0n : Nat) (h1 : List Int) (h2 : List Int) (h4 : List Int) (b5_0 : List Int) : St := ⟨[(1, .w (.one (.ptr 0 0 0))), (4, .w (.one (.ptr 5 0 0))), (5, .w (.one (.ptr 6 0 0))), (8, .w (.one (.int .i64 i8)))], [.box [.sl 1 (some (0, b0_0n))], .row (.int .i64) h1 .moved, .row (.int .i64) h2 .var, .box [.fn 90 [4]], .row (.int .i64) h4 .var, .box [.ro (.int .i64) b5_0], .box [.fn 126 [0, 2, 3, 5, 6]]]⟩
theorem eq126 (next : Int) (l : List Int) (many : Int) (kind : Int) (shards : List Int) (r : List W) (lh : Heap) : FB E H126 Try.f126 [.one (.int .i64 next), .one (.ptr 0 0 0), .one (.ptr 2 0 0), .one (.ptr 3 0 0), .one (.ptr 5 0 0), .one (.ptr 6 0 0)] [.box [.sl 1 none], .row (.int .i64) l .own, .row (.int .i64) [many] .var, .box [.fn 90 [4]], .row (.int .i64) [kind] .var, .box [.ro (.int .i64) shards], .box [.fn 126 [0, 2, 3, 5, 6]]] r lh =
  (
   Br (decide (((l.length : Nat) : Int) = many)) (
    ∃ r0 : Bool, SC P 90 [.one (.ro (.int .i64) l), .one (.ptr 0 0 0)] [.row (.int .i64) [kind] .var] [.one (.bool r0)] [.row (.int .i64) [kind] .var] ∧
     Ret r lh [.one (.bool r0)] [.box [.sl 1 none], .row (.int .i64) l .own, .row (.int .i64) [many] .var, .box [.fn 90 [4]], .row (.int .i64) [kind] .var, .box [.ro (.int .i64) shards], .box [.fn 126 [0, 2, 3, 5, 6]]]) (
    FL E H126 Try.f126 7 r lh 0 (S126_L0 next l [many] [kind] shards))) := by kernel_rfl
theorem eq126_L0 (i8 : Int) (h1 : List Int) (h2 : List Int) (h4 : List Int) (b5_0 : List Int) (r : List W) (lh : Heap) : FL1 E H126 Try.f126 7 r lh 0 (S126_L0 i8 h1 h2 h4 b5_0) =
  (
   Br (decide (i8 < ((b5_0.length : Nat) : Int))) (
    Ck (decide ((0 : Int) ≤ i8)) (
     Ck (decide (i8 < ((b5_0.length : Nat) : Int))) (
      Ck (Nat.ble ((h1.length + 1) * 8) roomy) (
       ∃ r0 : Nat × List Int × Bool, SC P 126 [.one (.int .i64 (IntKind.wrap .i64 (i8 + 1))), .one (.ptr 0 0 0), .one (.ptr 2 0 0), .one (.ptr 3 0 0), .one (.ptr 5 0 0), .one (.ptr 6 0 0)] [.box [.sl 1 none], .row (.int .i64) (h1 ++ [(b5_0.getD i8.toNat 0)]) .own, .row (.int .i64) h2 .var, .box [.fn 90 [4]], .row (.int .i64) h4 .var, .box [.ro (.int .i64) b5_0], .box [.fn 126 [0, 2, 3, 5, 6]]] [.one (.bool r0.2.2)] [.box [.sl 1 (some (0, r0.1))], .row (.int .i64) r0.2.1 .moved, .row (.int .i64) h2 .var, .box [.fn 90 [4]], .row (.int .i64) h4 .var, .box [.ro (.int .i64) b5_0], .box [.fn 126 [0, 2, 3, 5, 6]]] ∧
        Br r0.2.2 (
         Ret r lh [.one (.bool true)] [.box [.sl 1 (some (0, r0.1))], .row (.int .i64) r0.2.1 .moved, .row (.int .i64) h2 .var, .box [.fn 90 [4]], .row (.int .i64) h4 .var, .box [.ro (.int .i64) b5_0], .box [.fn 126 [0, 2, 3, 5, 6]]]) (
         Ck (decide ((0 : Int) ≤ (IntKind.wrap .i64 (((r0.1 : Nat) : Int) - 1)))) (
          Ck (decide ((IntKind.wrap .i64 (((r0.1 : Nat) : Int) - 1)) ≤ ((r0.1 : Nat) : Int))) (
           Ck (decide (((r0.1 : Nat) : Int) ≤ ((r0.1 : Nat) : Int))) (
            FL E H126 Try.f126 7 r lh 0 (S126_L0b (IntKind.wrap .i64 (i8 + 1)) ((IntKind.wrap .i64 (((r0.1 : Nat) : Int) - 1)).toNat - 0) r0.2.1 h2 h4 b5_0))))))))) (
    Ret r lh [.one (.bool false)] [.box [.sl 1 none], .row (.int .i64) h1 .own, .row (.int .i64) h2 .var, .box [.fn 90 [4]], .row (.int .i64) h4 .var, .box [.ro (.int .i64) b5_0], .box [.fn 126 [0, 2, 3, 5, 6]]])) := by kernel_rfl
theorem eq126_L0b (i8 : Int) (b0_0n : Nat) (h1 : List Int) (h2 : List Int) (h4 : List Int) (b5_0 : List Int) (r : List W) (lh : Heap) : FL1 E H126 Try.f126 7 r lh 0 (S126_L0b i8 b0_0n h1 h2 h4 b5_0) =
  (
   Br (decide (i8 < ((b5_0.length : Nat) : Int))) (
    Ck (decide ((0 : Int) ≤ i8)) (
     Ck (decide (i8 < ((b5_0.length : Nat) : Int))) (
      Ck (Nat.ble ((((h1.drop 0).take b0_0n).length + 1) * 8) roomy) (
       ∃ r0 : Nat × List Int × Bool, SC P 126 [.one (.int .i64 (IntKind.wrap .i64 (i8 + 1))), .one (.ptr 0 0 0), .one (.ptr 2 0 0), .one (.ptr 3 0 0), .one (.ptr 5 0 0), .one (.ptr 6 0 0)] [.box [.sl 1 none], .row (.int .i64) (((h1.drop 0).take b0_0n) ++ [(b5_0.getD i8.toNat 0)]) .own, .row (.int .i64) h2 .var, .box [.fn 90 [4]], .row (.int .i64) h4 .var, .box [.ro (.int .i64) b5_0], .box [.fn 126 [0, 2, 3, 5, 6]]] [.one (.bool r0.2.2)] [.box [.sl 1 (some (0, r0.1))], .row (.int .i64) r0.2.1 .moved, .row (.int .i64) h2 .var, .box [.fn 90 [4]], .row (.int .i64) h4 .var, .box [.ro (.int .i64) b5_0], .box [.fn 126 [0, 2, 3, 5, 6]]] ∧
        Br r0.2.2 (
         Ret r lh [.one (.bool true)] [.box [.sl 1 (some (0, r0.1))], .row (.int .i64) r0.2.1 .moved, .row (.int .i64) h2 .var, .box [.fn 90 [4]], .row (.int .i64) h4 .var, .box [.ro (.int .i64) b5_0], .box [.fn 126 [0, 2, 3, 5, 6]]]) (
         Ck (decide ((0 : Int) ≤ (IntKind.wrap .i64 (((r0.1 : Nat) : Int) - 1)))) (
          Ck (decide ((IntKind.wrap .i64 (((r0.1 : Nat) : Int) - 1)) ≤ ((r0.1 : Nat) : Int))) (
           Ck (decide (((r0.1 : Nat) : Int) ≤ ((r0.1 : Nat) : Int))) (
            FL E H126 Try.f126 7 r lh 0 (S126_L0b (IntKind.wrap .i64 (i8 + 1)) ((IntKind.wrap .i64 (((r0.1 : Nat) : Int) - 1)).toNat - 0) r0.2.1 h2 h4 b5_0))))))))) (
    Ret r lh [.one (.bool false)] [.box [.sl 1 (some (0, b0_0n))], .row (.int .i64) h1 .moved, .row (.int .i64) h2 .var, .box [.fn 90 [4]], .row (.int .i64) h4 .var, .box [.ro (.int .i64) b5_0], .box [.fn 126 [0, 2, 3, 5, 6]]])) := by kernel_rfl
/-- the sets of so many, the first ones first, until one is found: what is left, and what is taken -/
def chL (test : List Int → Bool) (many : Nat) : List Int → List Int → Bool
  | [], _ => false
  | x :: rem, set => (bif decide ((set ++ [x]).length = many) then test (set ++ [x]) else chL test many rem (set ++ [x])) || chL test many rem set
def chE (test : List Int → Bool) (many : Nat) (rem set : List Int) : Bool := bif decide (set.length = many) then test set else chL test many rem set
theorem chL_cons {test : List Int → Bool} {many : Nat} {x : Int} {rem set : List Int} : chL test many (x :: rem) set = (chE test many rem (set ++ [x]) || chL test many rem set) := rfl
def ChC (kind : Int) (many : Nat) (shards : List Int) (next : Nat) : Prop := ∀ set : List Int, ShOk set → set.length ≤ next → ∃ (y : Nat) (l' : List Int),
  (chE (fun p => !bearsI kind p) many (shards.drop next) set = false → y = set.length ∧ l'.take y = set) ∧
  SC P 126 [.one (.int .i64 (next : Int)), .one (.ptr 0 0 0), .one (.ptr 2 0 0), .one (.ptr 3 0 0), .one (.ptr 5 0 0), .one (.ptr 6 0 0)] [.box [.sl 1 none], .row (.int .i64) set .own, .row (.int .i64) [(many : Int)] .var, .box [.fn 90 [4]], .row (.int .i64) [kind] .var, .box [.ro (.int .i64) shards], .box [.fn 126 [0, 2, 3, 5, 6]]] [.one (.bool (chE (fun p => !bearsI kind p) many (shards.drop next) set))] [.box [.sl 1 (some (0, y))], .row (.int .i64) l' .moved, .row (.int .i64) [(many : Int)] .var, .box [.fn 90 [4]], .row (.int .i64) [kind] .var, .box [.ro (.int .i64) shards], .box [.fn 126 [0, 2, 3, 5, 6]]]
theorem sh_snoc {set shards : List Int} (h : ShOk set) (hs : ShOk shards) {i : Nat} (hi : i < shards.length) : ShOk (set ++ [shards.getD i 0]) := by
  intro x hx
  rcases List.mem_append.1 hx with g | g
  · exact h x g
  · rw [List.mem_singleton] at g; subst g; exact shok_get hs hi
theorem take_snoc {l set : List Int} {a : Int} (h : l.take (set.length + 1) = set ++ [a]) : l.take set.length = set := by
  have := congrArg (List.take set.length) h
  rw [List.take_take, Nat.min_eq_left (Nat.le_succ _), List.take_left' rfl] at this
  exact this
theorem Br_t' {A B : Prop} (h : A) : Br true A B := h
theorem Br_f' {A B : Prop} (h : B) : Br false A B := h
theorem l126b (kind : Int) (many : Nat) (shards : List Int) (hs : ShOk shards) (h8 : shards.length ≤ 8) (next : Nat) (IH : ∀ k, next < k → k ≤ shards.length → ChC kind many shards k) : ∀ (n i : Nat) (l set : List Int), i + n = shards.length → next ≤ i → l.take set.length = set → ShOk set → set.length ≤ i → set.length ≠ many →
    ∃ (y : Nat) (l' : List Int), (chL (fun p => !bearsI kind p) many (shards.drop i) set = false → y = set.length ∧ l'.take y = set) ∧
    FL E H126 Try.f126 7 [.one (.bool (chL (fun p => !bearsI kind p) many (shards.drop i) set))] [.box [.sl 1 (some (0, y))], .row (.int .i64) l' .moved, .row (.int .i64) [(many : Int)] .var, .box [.fn 90 [4]], .row (.int .i64) [kind] .var, .box [.ro (.int .i64) shards], .box [.fn 126 [0, 2, 3, 5, 6]]] 0 (S126_L0b (i : Int) set.length l [(many : Int)] [kind] shards)
  | 0, i, l, set, h, hi, ht, hset, hl, hne => by
    refine ⟨set.length, l, fun _ => ⟨rfl, ht⟩, FL_of1 ?_⟩
    rw [eq126_L0b, List.drop_eq_nil_of_le (show shards.length ≤ i by omega)]
    exact Br_f (by omega) ⟨rfl, rfl⟩
  | n + 1, i, l, set, h, hi, ht, hset, hl, hne => by
    have hlt : i < shards.length := by omega
    obtain ⟨y, l', h1, sc⟩ := IH (i + 1) (by omega) (by omega) (set ++ [shards.getD i 0]) (sh_snoc hset hs hlt) (by simp; omega)
    rw [drop_getD hlt, chL_cons]
    cases hb : chE (fun p => !bearsI kind p) many (shards.drop (i + 1)) (set ++ [shards.getD i 0]) with
    | true =>
      rw [hb] at sc
      refine ⟨y, l', (fun h => by cases h), FL_of1 ?_⟩
      rw [eq126_L0b, wS (i := i) (by omega)]
      simp only [Int.toNat_natCast, List.drop_zero]
      rw [ht]
      exact Br_t (by omega) (Ck_d (by omega) (Ck_d (by omega) (Ck_room (by omega) ⟨(y, l', true), sc, Br_t' ⟨rfl, rfl⟩⟩)))
    | false =>
      rw [hb] at sc
      obtain ⟨e1, e2⟩ := h1 hb
      rw [List.length_append, List.length_singleton] at e1
      subst e1
      obtain ⟨y2, l2, g1, hF⟩ := l126b kind many shards hs h8 next IH n (i + 1) l' set (by omega) (by omega) (take_snoc e2) hset (by omega) hne
      refine ⟨y2, l2, fun h => g1 (by rw [Bool.false_or] at h; exact h), FL_of1 ?_⟩
      rw [Bool.false_or]
      rw [eq126_L0b, wS (i := i) (by omega)]
      simp only [Int.toNat_natCast, List.drop_zero]
      rw [ht]
      have hw : IntKind.wrap .i64 (((set.length + 1 : Nat) : Int) - 1) = (set.length : Int) := by rw [wrap64 (by omega) (by omega)]; omega
      refine Br_t (by omega) (Ck_d (by omega) (Ck_d (by omega) (Ck_room (by omega) ⟨(set.length + 1, l', false), sc, Br_f' ?_⟩)))
      rw [hw]
      exact Ck_d (by omega) (Ck_d (by omega) (Ck_d (by omega) hF))
theorem c126 (kind : Int) (many : Nat) (shards : List Int) (hs : ShOk shards) (h8 : shards.length ≤ 8) : ∀ (N next : Nat), shards.length < next + N → next ≤ shards.length → ChC kind many shards next
  | 0, next, h, h' => by omega
  | N + 1, next, h, h' => by
    have IH : ∀ k, next < k → k ≤ shards.length → ChC kind many shards k := fun k h1 h2 => c126 kind many shards hs h8 N k (by omega) h2
    intro set hset hl
    by_cases e : set.length = many
    · refine ⟨set.length, set, fun _ => ⟨rfl, List.take_length⟩, SC.seen (t := .int .i64) (l := set) ?_⟩
      rw [chE, decide_eq_true e, cond_true]
      refine SC_of_FB (H := H126) E_ok Try.func126 (by kernel_rfl) ?_
      rw [eq126]
      exact Br_t (by omega) ⟨_, c90 set kind hset (by omega), rfl, rfl⟩
    · by_cases e2 : next = shards.length
      · refine ⟨set.length, set, fun _ => ⟨rfl, List.take_length⟩, SC.seen (t := .int .i64) (l := set) ?_⟩
        rw [chE, decide_eq_false e, cond_false, List.drop_eq_nil_of_le (by omega)]
        refine SC_of_FB (H := H126) E_ok Try.func126 (by kernel_rfl) ?_
        rw [eq126]
        refine Br_f (by omega) (FL_of1 ?_)
        rw [eq126_L0]
        exact Br_f (by omega) ⟨rfl, rfl⟩
      · have hlt : next < shards.length := by omega
        obtain ⟨y, l', h1, sc⟩ := IH (next + 1) (by omega) (by omega) (set ++ [shards.getD next 0]) (sh_snoc hset hs hlt) (by simp; omega)
        rw [chE, decide_eq_false e, cond_false, drop_getD hlt, chL_cons]
        cases hb : chE (fun p => !bearsI kind p) many (shards.drop (next + 1)) (set ++ [shards.getD next 0]) with
        | true =>
          rw [hb] at sc
          refine ⟨y, l', (fun h => by cases h), ?_⟩
          refine SC_of_FB (H := H126) E_ok Try.func126 (by kernel_rfl) ?_
          rw [eq126]
          refine Br_f (by omega) (FL_of1 ?_)
          rw [eq126_L0, wS (i := next) (by omega)]
          simp only [Int.toNat_natCast]
          exact Br_t (by omega) (Ck_d (by omega) (Ck_d (by omega) (Ck_room (by omega) ⟨(y, l', true), sc, Br_t' ⟨rfl, rfl⟩⟩)))
        | false =>
          rw [hb] at sc
          obtain ⟨e3, e4⟩ := h1 hb
          rw [List.length_append, List.length_singleton] at e3
          subst e3
          obtain ⟨y2, l2, g1, hF⟩ := l126b kind many shards hs h8 next IH (shards.length - (next + 1)) (next + 1) l' set (by omega) (by omega) (take_snoc e4) hset (by omega) e
          refine ⟨y2, l2, fun h => g1 (by rw [Bool.false_or] at h; exact h), ?_⟩
          rw [Bool.false_or]
          refine SC_of_FB (H := H126) E_ok Try.func126 (by kernel_rfl) ?_
          rw [eq126]
          refine Br_f (by omega) (FL_of1 ?_)
          rw [eq126_L0, wS (i := next) (by omega)]
          simp only [Int.toNat_natCast]
          have hw : IntKind.wrap .i64 (((set.length + 1 : Nat) : Int) - 1) = (set.length : Int) := by rw [wrap64 (by omega) (by omega)]; omega
          refine Br_t (by omega) (Ck_d (by omega) (Ck_d (by omega) (Ck_room (by omega) ⟨(set.length + 1, l', false), sc, Br_f' ?_⟩)))
          rw [hw]
          exact Ck_d (by omega) (Ck_d (by omega) (Ck_d (by omega) hF))
/-! loop.example/keelson/impl.chosen -/
def H88 : Hint := ⟨[], [], [], [], [], [], []⟩
theorem eq88 (shards : List Int) (many : Int) (kind : Int) (r : List W) (lh : Heap) : FB E H88 Try.f88 [.one (.ro (.int .i64) shards), .one (.int .i64 many), .one (.fn 90 [0])] [.row (.int .i64) [kind] .var] r lh =
  (
   Ck (decide ((0 : Int) ≤ many)) (
    Ck (decide (many * (8 : Nat) ≤ (roomy : Int))) (
     ∃ r0 : Nat × List Int × Bool, SC P 126 [.one (.int .i64 0), .one (.ptr 0 0 0), .one (.ptr 2 0 0), .one (.ptr 3 0 0), .one (.ptr 5 0 0), .one (.ptr 6 0 0)] [.box [.sl 1 none], .row (.int .i64) [] .own, .row (.int .i64) [many] .var, .box [.fn 90 [4]], .row (.int .i64) [kind] .var, .box [.ro (.int .i64) shards], .box [.fn 126 [0, 2, 3, 5, 6]]] [.one (.bool r0.2.2)] [.box [.sl 1 (some (0, r0.1))], .row (.int .i64) r0.2.1 .moved, .row (.int .i64) [many] .var, .box [.fn 90 [4]], .row (.int .i64) [kind] .var, .box [.ro (.int .i64) shards], .box [.fn 126 [0, 2, 3, 5, 6]]] ∧
      Ret r lh [.one (.bool r0.2.2)] [.row (.int .i64) [kind] .var]))) := by kernel_rfl
theorem c88 (kind : Int) (many : Nat) (hm : many ≤ 8) (shards : List Int) (hs : ShOk shards) (h8 : shards.length ≤ 8) : SC P 88 [.one (.ro (.int .i64) shards), .one (.int .i64 (many : Int)), .one (.fn 90 [0])] [.row (.int .i64) [kind] .var] [.one (.bool (chE (fun p => !bearsI kind p) many shards []))] [.row (.int .i64) [kind] .var] := by
  obtain ⟨y, l', _, sc⟩ := c126 kind many shards hs h8 (shards.length + 1) 0 (by omega) (Nat.zero_le _) [] (fun x hx => by cases hx) (Nat.le_refl _)
  rw [List.drop_zero] at sc
  refine SC_of_FB (H := H88) E_ok Try.func88 (by kernel_rfl) ?_
  rw [eq88]
  exact Ck_d (by omega) (Ck_roomI (by omega) ⟨(y, l', _), sc, rfl, rfl⟩)
/-! loop.example/keelson/impl.CodeMost -/
def H39 : Hint := ⟨[[(1, 0, .bool), (3, 0, .bool)]], [], [], [], [], [], []⟩
def S39_L0 (left3 : Int) (h0 : List Int) : St := ⟨[(1, .w (.one (.ptr 0 0 0))), (3, .w (.one (.int .i64 left3)))], [.row (.int .i64) h0 .var]⟩
theorem eq39 (kind : Int) (r : List W) (lh : Heap) : FB E H39 Try.f39 [.one (.int .i64 kind)] [] r lh =
  (
   ∃ r0 : Bool, SC P 65 [.one (.int .i64 kind)] [] [.one (.bool r0)] [] ∧
    Br (!r0) (
     Ret r lh [.one (.int .i64 (-1))] []) (
     FL E H39 Try.f39 0 r lh 0 (S39_L0 8 [kind]))) := by kernel_rfl
theorem eq39_L0 (left3 : Int) (h0 : List Int) (r : List W) (lh : Heap) : FL1 E H39 Try.f39 0 r lh 0 (S39_L0 left3 h0) =
  (
   Br (decide ((0 : Int) < left3)) (
    ∃ r0 : List Int, SC P 89 [] [] [.one (.sl 0 none)] [.row (.int .i64) r0 .own] ∧
     ∃ r1 : Bool, SC P 88 [.one (.ro (.int .i64) r0), .one (.int .i64 (IntKind.wrap .i64 (left3 - 1))), .one (.fn 90 [0])] [.row (.int .i64) h0 .var] [.one (.bool r1)] [.row (.int .i64) h0 .var] ∧
      Br (!r1) (
       FL E H39 Try.f39 0 r lh 0 (S39_L0 (IntKind.wrap .i64 (left3 - 1)) h0)) (
       Ret r lh [.one (.int .i64 (IntKind.wrap .i64 (8 - left3)))] [])) (
    Ret r lh [.one (.int .i64 (IntKind.wrap .i64 (8 - left3)))] [])) := by kernel_rfl
def mostR (kind : Int) : Nat → Int
  | 0 => 8
  | n + 1 => bif chE (fun p => !bearsI kind p) n every8 [] then 8 - ((n + 1 : Nat) : Int) else mostR kind n
/-- how many may be lost -/
def codeMost (kind : Int) : Int := bif inB kind 1 2 then mostR kind 8 else -1
theorem every_ok : ShOk every8 := by
  intro i hi
  simp only [every8, List.mem_cons, List.not_mem_nil, or_false] at hi
  omega
theorem l39 (kind : Int) : ∀ n : Nat, n ≤ 8 → FL E H39 Try.f39 0 [.one (.int .i64 (mostR kind n))] [] 0 (S39_L0 (n : Int) [kind])
  | 0, h => by
    refine FL_of1 ?_
    rw [eq39_L0]
    exact Br_f (by omega) ⟨rfl, rfl⟩
  | n + 1, h => by
    have hw : IntKind.wrap .i64 (((n + 1 : Nat) : Int) - 1) = (n : Int) := by rw [wrap64 (by omega) (by omega)]; omega
    have sc := c88 kind n (by omega) every8 every_ok (Nat.le_refl _)
    refine FL_of1 ?_
    rw [eq39_L0, hw, wrap64 (n := 8 - ((n + 1 : Nat) : Int)) (by omega) (by omega), mostR]
    cases hb : chE (fun p => !bearsI kind p) n every8 [] with
    | true => rw [hb] at sc; exact Br_t (by omega) ⟨_, c89, true, sc, rfl, rfl⟩
    | false => rw [hb] at sc; exact Br_t (by omega) ⟨_, c89, false, sc, l39 kind n (by omega)⟩
theorem c39 (kind : Int) : SC P 39 [.one (.int .i64 kind)] [] [.one (.int .i64 (codeMost kind))] [] := by
  refine SC_of_FB (H := H39) E_ok Try.func39 (by kernel_rfl) ?_
  rw [eq39]
  refine ⟨_, c65 kind, Br_nb (fun e => ⟨by rw [codeMost, e]; rfl, rfl⟩) (fun e => ?_)⟩
  rw [codeMost, e, cond_true]
  exact l39 kind 8 (Nat.le_refl _)
set_option maxRecDepth 100000 in
theorem most_key : codeMost 1 = 3 ∧ codeMost 2 = 4 := by decide +kernel
end Go.Proofs.Ytlebgbcoljnejaa.Sh
