/- Shards that come one behind the other: the contract of the program's function. -/
import Derived.Test.YtlebgbcoljnejaaShS2
import Derived.Test.YtlebgbcoljnejaaShR3
import Derived.Test.YtlebgbcoljnejaaMaSoon
namespace Go.Proofs.Ytlebgbcoljnejaa.Sh
open Go
set_option linter.unusedVariables false
set_option linter.unusedSimpArgs false
/-! loop.example/keelson/impl.ReadSoon -/
def H46 : Hint := ⟨[[(0, 0, .bool), (1, 0, .bool), (2, 0, .bool), (22, 0, .bool), (23, 0, .bool), (24, 0, .bool)]], [], [], [], [.one (.own (.int .i64)), .one (.c (.int .i64)), .one (.c .bool)], [], []⟩
def S46_L0 (kind0 : Int) (vals1 : List Int) (order2 : List Int) (x22 : List Int) (x23 : Int) (x24 : Int) : St := ⟨[(0, .w (.one (.int .i64 kind0))), (1, .w (.one (.ro (.int .i64) vals1))), (2, .w (.one (.ro (.int .i64) order2))), (22, .w (.one (.ro (.int .i64) x22))), (23, .w (.one (.int .i64 x23))), (24, .w (.one (.int .i64 x24)))], []⟩
theorem eq46 (kind : Int) (vals : List Int) (order : List Int) (r : List W) (lh : Heap) : FB E H46 Try.f46 [.one (.int .i64 kind), .one (.ro (.int .i64) vals), .one (.ro (.int .i64) order)] [] r lh =
  (
   ∃ r0 : Bool, SC P 65 [.one (.int .i64 kind)] [] [.one (.bool r0)] [] ∧
    Br (!r0) (
     Ret r lh [.one (.sl 0 none), .one (.int .i64 0), .one (.bool false)] [.row (.int .i64) [] .own]) (
     ∃ r1 : Bool, SC P 100 [.one (.ro (.int .i64) vals)] [] [.one (.bool r1)] [] ∧
      Br (!r1) (
       Ret r lh [.one (.sl 0 none), .one (.int .i64 0), .one (.bool false)] [.row (.int .i64) [] .own]) (
       FL E H46 Try.f46 0 r lh 0 (S46_L0 kind vals order order ((order.length : Nat) : Int) 0)))) := by kernel_rfl
theorem eq46_L0 (kind0 : Int) (vals1 : List Int) (order2 : List Int) (x22 : List Int) (x23 : Int) (x24 : Int) (r : List W) (lh : Heap) : FL1 E H46 Try.f46 0 r lh 0 (S46_L0 kind0 vals1 order2 x22 x23 x24) =
  (
   Br (decide (x24 < x23)) (
    Ck (decide ((0 : Int) ≤ x24)) (
     Ck (decide (x24 < ((x22.length : Nat) : Int))) (
      ∃ r0 : Bool, SC P 92 [.one (.int .i64 (x22.getD x24.toNat 0))] [] [.one (.bool r0)] [] ∧
       Br (!r0) (
        Ret r lh [.one (.sl 0 none), .one (.int .i64 0), .one (.bool false)] [.row (.int .i64) [] .own]) (
        Ck (decide ((0 : Int) ≤ x24)) (
         Ck (decide (x24 ≤ ((order2.length : Nat) : Int))) (
          Ck (decide (((order2.length : Nat) : Int) ≤ ((order2.length : Nat) : Int))) (
           ∃ r1 : Bool, SC P 101 [.one (.ro (.int .i64) ((order2.drop 0).take (x24.toNat - 0))), .one (.int .i64 (x22.getD x24.toNat 0))] [] [.one (.bool r1)] [] ∧
            Br r1 (
             Ret r lh [.one (.sl 0 none), .one (.int .i64 0), .one (.bool false)] [.row (.int .i64) [] .own]) (
             Ck (decide ((0 : Int) ≤ (IntKind.wrap .i64 (x24 + 1)))) (
              Ck (decide ((IntKind.wrap .i64 (x24 + 1)) ≤ ((order2.length : Nat) : Int))) (
               Ck (decide (((order2.length : Nat) : Int) ≤ ((order2.length : Nat) : Int))) (
                ∃ r2 : Bool, SC P 66 [.one (.int .i64 kind0), .one (.ro (.int .i64) ((order2.drop 0).take ((IntKind.wrap .i64 (x24 + 1)).toNat - 0)))] [] [.one (.bool r2)] [] ∧
                 Br r2 (
                  ∃ r3 : List Int × Bool, SC P 102 [.one (.int .i64 kind0), .one (.ro (.int .i64) vals1), .one (.ro (.int .i64) ((order2.drop 0).take ((IntKind.wrap .i64 (x24 + 1)).toNat - 0)))] [] [.one (.sl 0 none), .one (.bool r3.2)] [.row (.int .i64) r3.1 .own] ∧
                   Ret r lh [.one (.sl 0 none), .one (.int .i64 (IntKind.wrap .i64 (x24 + 1))), .one (.bool r3.2)] [.row (.int .i64) r3.1 .own]) (
                  FL E H46 Try.f46 0 r lh 0 (S46_L0 kind0 vals1 order2 x22 x23 (IntKind.wrap .i64 (x24 + 1))))))))))))))) (
    Ret r lh [.one (.sl 0 none), .one (.int .i64 0), .one (.bool false)] [.row (.int .i64) [] .own])) := by kernel_rfl
def soonR (kind : Int) (vals order : List Int) : Nat → Nat → List Int × Int × Bool
  | _, 0 => ([], 0, false)
  | i, n + 1 => bif !inB (order.getD i 0) 0 7 || has (order.take i) (order.getD i 0) then ([], 0, false) else
    bif bearsI kind (order.take (i + 1)) then (readL kind vals (order.take (i + 1)), ((i + 1 : Nat) : Int), readOk kind vals (order.take (i + 1))) else soonR kind vals order (i + 1) n
def readSoon (kind : Int) (vals order : List Int) : List Int × Int × Bool := bif inB kind 1 2 && valsOk vals then soonR kind vals order 0 order.length else ([], 0, false)
theorem l46 (kind : Int) (vals order : List Int) (hv : ValsP vals) (hl : order.length ≤ 1048576) : ∀ (n i k : Nat), i + n = order.length → i + k = 6 → (∀ x ∈ order.take i, 0 ≤ x ∧ x ≤ 7) → soonK kind k (spanV (rowsF kind (order.take i))) (order.take i) = true →
    FL E H46 Try.f46 0 [.one (.sl 0 none), .one (.int .i64 (soonR kind vals order i n).2.1), .one (.bool (soonR kind vals order i n).2.2)] [.row (.int .i64) (soonR kind vals order i n).1 .own] 0 (S46_L0 kind vals order order (order.length : Int) (i : Int))
  | 0, i, k, h, hik, hr, hs => by
    refine FL_of1 ?_
    rw [eq46_L0]
    exact Br_f (by omega) ⟨rfl, rfl⟩
  | n + 1, i, k, h, hik, hr, hs => by
    have hi : i < order.length := by omega
    refine FL_of1 ?_
    rw [eq46_L0, wS (i := i) (by omega), soonR]
    simp only [Int.toNat_natCast, List.drop_zero, Nat.sub_zero]
    refine Br_t (by omega) (Ck_d (by omega) (Ck_d (by omega) ⟨_, c92 _, Br_nb (fun e => ⟨by rw [e]; rfl, by rw [e]; rfl⟩) (fun e => ?_)⟩))
    refine Ck_d (by omega) (Ck_d (by omega) (Ck_d (by omega) ⟨_, c101 (order.take i) _ (by simp; omega), Br_b (fun e2 => ⟨by rw [e2, Bool.or_true]; rfl, by rw [e2, Bool.or_true]; rfl⟩) (fun e2 => ?_)⟩))
    rw [e, e2]
    have ha := inB_iff.1 e
    have hnm : order.getD i 0 ∉ order.take i := of_decide_eq_false e2
    obtain ⟨k', rfl, hb1, hb2⟩ := soon_next hs ha.1 ha.2 hnm
    have htk : order.take (i + 1) = order.take i ++ [order.getD i 0] := by rw [take_succ' hi, getD_eq hi]
    rw [← htk] at hb1 hb2
    have hr' : ∀ x ∈ order.take (i + 1), 0 ≤ x ∧ x ≤ 7 := by
      rw [htk]
      intro x hx
      rcases List.mem_append.1 hx with hx | hx
      · exact hr x hx
      · rw [List.mem_singleton] at hx; rw [hx]; exact ha
    refine Ck_d (by omega) (Ck_d (by omega) (Ck_d (by omega) ⟨_, c66 kind _ hr' (by simp; omega), Br_b (fun e3 => ?_) (fun e3 => ?_)⟩))
    · rw [e3]
      have hok := (hb1 e3).1
      rw [setOk, rowsOkU, Bool.and_eq_true] at hok
      exact ⟨(_, _), c102 kind vals _ hv hr' (by simp; omega) (fun _ => by rw [solveOk_U]; exact hok.1), rfl, rfl⟩
    · rw [e3]
      exact l46 kind vals order hv hl n (i + 1) k' (by omega) (by omega) hr' (hb2 e3).2
theorem c46 (kind : Int) (vals order : List Int) (hv : vals.length ≤ 1048576) (hl : order.length ≤ 1048576) : SC P 46 [.one (.int .i64 kind), .one (.ro (.int .i64) vals), .one (.ro (.int .i64) order)] [] [.one (.sl 0 none), .one (.int .i64 (readSoon kind vals order).2.1), .one (.bool (readSoon kind vals order).2.2)] [.row (.int .i64) (readSoon kind vals order).1 .own] := by
  refine SC_of_FB (H := H46) E_ok Try.func46 (by kernel_rfl) ?_
  rw [eq46]
  refine ⟨_, c65 kind, Br_nb (fun e => ⟨by rw [readSoon, e]; rfl, by rw [readSoon, e]; rfl⟩) (fun e => ⟨_, c100 vals hv, Br_nb (fun e2 => ⟨by rw [readSoon, e, e2]; rfl, by rw [readSoon, e, e2]; rfl⟩) (fun e2 => ?_)⟩)⟩
  rw [readSoon, e, e2]
  exact l46 kind vals order (vals_p e2) hl order.length 0 6 (Nat.zero_add _) rfl (fun x hx => by cases hx) (soon_start e)
/-! ## ShS4 -/
/-! loop.example/keelson/spec.ReadSoon -/
def H56 : Hint := ⟨[[(0, 0, .bool), (1, 0, .bool), (2, 0, .bool), (9, 0, .bool), (10, 0, .bool)]], [], [], [], [], [], []⟩
def S56_L0 (kind0 : Int) (vals1 : List Int) (order2 : List Int) (i10 : Int) (h0 : List Bool) : St := ⟨[(0, .w (.one (.int .i64 kind0))), (1, .w (.one (.ro (.int .i64) vals1))), (2, .w (.one (.ro (.int .i64) order2))), (9, .w (.one (.sl 0 none))), (10, .w (.one (.int .i64 i10)))], [.row .bool h0 .own]⟩
theorem eq56 (kind : Int) (vals : List Int) (order : List Int) (r : List W) (lh : Heap) : FB E H56 Try.f56 [.one (.int .i64 kind), .one (.ro (.int .i64) vals), .one (.ro (.int .i64) order)] [] r lh =
  (
   ∃ r0 : Bool, SC P 78 [.one (.int .i64 kind)] [] [.one (.bool r0)] [] ∧
    Br (!r0) (
     Ret r lh [.one (.sl 0 none), .one (.int .i64 0), .one (.bool false)] [.row (.int .i64) [] .own]) (
     ∃ r1 : Bool, SC P 103 [.one (.ro (.int .i64) vals), .one (.ro .bool [false, false, false, false, false, false, false, false])] [] [.one (.bool r1)] [] ∧
      Br (!r1) (
       Ret r lh [.one (.sl 0 none), .one (.int .i64 0), .one (.bool false)] [.row (.int .i64) [] .own]) (
       FL E H56 Try.f56 0 r lh 0 (S56_L0 kind vals order 0 [false, false, false, false, false, false, false, false])))) := by kernel_rfl
theorem eq56_L0 (kind0 : Int) (vals1 : List Int) (order2 : List Int) (i10 : Int) (h0 : List Bool) (r : List W) (lh : Heap) : FL1 E H56 Try.f56 0 r lh 0 (S56_L0 kind0 vals1 order2 i10 h0) =
  (
   Br (decide (i10 < ((order2.length : Nat) : Int))) (
    Ck (decide ((0 : Int) ≤ i10)) (
     Ck (decide (i10 < ((order2.length : Nat) : Int))) (
      ∃ r0 : Bool, SC P 109 [.one (.int .i64 (order2.getD i10.toNat 0)), .one (.int .i64 0), .one (.int .i64 7)] [] [.one (.bool r0)] [] ∧
       Br (!r0) (
        Ret r lh [.one (.sl 0 none), .one (.int .i64 0), .one (.bool false)] [.row (.int .i64) [] .own]) (
        Ck (decide ((0 : Int) ≤ i10)) (
         Ck (decide (i10 < ((order2.length : Nat) : Int))) (
          Ck (decide ((0 : Int) ≤ (order2.getD i10.toNat 0))) (
           Ck (decide ((order2.getD i10.toNat 0) < ((h0.length : Nat) : Int))) (
            Ck (Nat.ble ((order2.getD i10.toNat 0).toNat + 1) h0.length) (
             Br (h0.getD (order2.getD i10.toNat 0).toNat false) (
              Ret r lh [.one (.sl 0 none), .one (.int .i64 0), .one (.bool false)] [.row (.int .i64) [] .own]) (
              Ck (decide ((0 : Int) ≤ i10)) (
               Ck (decide (i10 < ((order2.length : Nat) : Int))) (
                Ck (decide ((0 : Int) ≤ (order2.getD i10.toNat 0))) (
                 Ck (decide ((order2.getD i10.toNat 0) < ((h0.length : Nat) : Int))) (
                  Ck (Nat.ble ((order2.getD i10.toNat 0).toNat + 1) h0.length) (
                   ∃ r1 : Bool, SC P 68 [.one (.int .i64 kind0), .one (.ro .bool (h0.set ((order2.getD i10.toNat 0).toNat) true))] [] [.one (.bool r1)] [] ∧
                    Br r1 (
                     ∃ r2 : List Int × Bool, SC P 104 [.one (.int .i64 kind0), .one (.ro (.int .i64) vals1), .one (.ro .bool (h0.set ((order2.getD i10.toNat 0).toNat) true))] [] [.one (.sl 0 none), .one (.bool r2.2)] [.row (.int .i64) r2.1 .own] ∧
                      Ret r lh [.one (.sl 0 none), .one (.int .i64 (IntKind.wrap .i64 (i10 + 1))), .one (.bool r2.2)] [.row (.int .i64) r2.1 .own]) (
                     FL E H56 Try.f56 0 r lh 0 (S56_L0 kind0 vals1 order2 (IntKind.wrap .i64 (i10 + 1)) (h0.set ((order2.getD i10.toNat 0).toNat) true)))))))))))))))))) (
    Ret r lh [.one (.sl 0 none), .one (.int .i64 0), .one (.bool false)] [.row (.int .i64) [] .own])) := by kernel_rfl
theorem setOf_len (p : List Int) : (setOf p).length = 8 := by rw [setOf, List.length_map, List.length_range]
theorem setOf_get (p : List Int) {i : Nat} (h : i < 8) : (setOf p).getD i false = p.any fun x => decide (x = (i : Int)) := by
  rw [getD_eq (by rw [setOf_len]; exact h)]
  simp [setOf]
theorem mem_any {p : List Int} {a : Int} : (p.any fun x => decide (x = a)) = true ↔ a ∈ p := by
  rw [List.any_eq_true]
  constructor
  · rintro ⟨x, hx, e⟩; rw [← of_decide_eq_true e]; exact hx
  · intro h; exact ⟨a, h, decide_eq_true rfl⟩
theorem setOf_snoc (p : List Int) {a : Int} (h0 : 0 ≤ a) (h7 : a ≤ 7) : setOf (p ++ [a]) = (setOf p).set a.toNat true := by
  apply List.ext_getElem
  · rw [List.length_set, setOf_len, setOf_len]
  · intro i h1 h2
    rw [setOf_len] at h1
    have e1 := setOf_get (p ++ [a]) h1
    have e2 := setOf_get p h1
    rw [getD_eq (by rw [setOf_len]; exact h1)] at e1 e2
    rw [e1, List.getElem_set, List.any_append]
    split
    · rename_i h
      rw [show a = (i : Int) by omega]
      simp
    · rename_i h
      rw [e2]
      simp only [List.any_cons, List.any_nil, Bool.or_false]
      rw [decide_eq_false (show ¬ a = (i : Int) by omega), Bool.or_false]
theorem mem_setOf {p : List Int} (hp : ∀ x ∈ p, 0 ≤ x ∧ x ≤ 7) (x : Int) : x ∈ flagF (setOf p) ↔ x ∈ p := by
  have hf := flag_ok (setOf_len p)
  constructor
  · intro h
    obtain ⟨h0, h7⟩ := hf.range x h
    have h' : ((x.toNat : Nat) : Int) ∈ flagF (setOf p) := by rw [show ((x.toNat : Nat) : Int) = x by omega]; exact h
    have := (hf.mem x.toNat (by omega)).1 h'
    rw [setOf_get p (by omega), show ((x.toNat : Nat) : Int) = x by omega, mem_any] at this
    exact this
  · intro h
    obtain ⟨h0, h7⟩ := hp x h
    have := (hf.mem x.toNat (by omega)).2 (by rw [setOf_get p (by omega), show ((x.toNat : Nat) : Int) = x by omega, mem_any]; exact h)
    rw [show ((x.toNat : Nat) : Int) = x by omega] at this
    exact this
/-- the same shards, in another order: the same is read -/
theorem same_elems {kind : Int} {p q vals : List Int} (h8p : p.length ≤ 8) (h8q : q.length ≤ 8) (hp : idOk kind p = true) (hq : idOk kind q = true) (hpq : ∀ i, i ∈ p ↔ i ∈ q) : fitsI kind vals p = fitsI kind vals q ∧ (fitsI kind vals p = true → solveI kind vals p = solveI kind vals q) := by
  refine ⟨?_, fun h => (fits_sub h (fun i hi => (hpq i).2 hi) h8q hq).2.symm⟩
  cases h1 : fitsI kind vals p with
  | true => exact (fits_sub h1 (fun i hi => (hpq i).2 hi) h8q hq).1.symm
  | false =>
    cases h2 : fitsI kind vals q with
    | false => rfl
    | true =>
      have := (fits_sub h2 (fun i hi => (hpq i).1 hi) h8p hp).1
      rw [h1] at this; cases this
theorem set_idOk {kind : Int} {p : List Int} (h : setOk kind p = true) (hb : bearsI kind p = true) : idOk kind p = true := by
  rw [setOk, rowsOkU, Bool.and_eq_true, ← bearsI_eq, hb] at h
  have h2 := h.2
  rw [Bool.not_true, Bool.false_or] at h2
  exact h2
theorem same_read {kind : Int} (hk : inB kind 1 2 = true) {p vals : List Int} (h8 : p.length ≤ 8) (hp : ∀ x ∈ p, 0 ≤ x ∧ x ≤ 7) (hs : setOk kind p = true) (hb : bearsI kind p = true) (hb2 : bearsI kind (flagF (setOf p)) = true) : readOk kind vals (flagF (setOf p)) = readOk kind vals p ∧ readL kind vals (flagF (setOf p)) = readL kind vals p := by
  obtain ⟨e1, e2⟩ := same_elems (vals := vals) h8 (flag_ok (setOf_len p)).len (set_idOk hs hb) (set_id hk (setOf_len p) hb2) (fun i => (mem_setOf hp i).symm)
  have h1 : readOk kind vals (flagF (setOf p)) = readOk kind vals p := by rw [readOk, readOk, hb, hb2, e1]
  refine ⟨h1, ?_⟩
  rw [readL, readL, h1]
  cases hr : readOk kind vals p with
  | false => rfl
  | true =>
    rw [readOk, Bool.and_eq_true] at hr
    rw [e2 hr.2]
theorem l56 (kind : Int) (hk : inB kind 1 2 = true) (vals order : List Int) (hv : ValsP vals) (hl : order.length ≤ 1048576) : ∀ (n i k : Nat), i + n = order.length → i + k = 6 → (∀ x ∈ order.take i, 0 ≤ x ∧ x ≤ 7) → soonK kind k (spanV (rowsF kind (order.take i))) (order.take i) = true →
    FL E H56 Try.f56 0 [.one (.sl 0 none), .one (.int .i64 (soonR kind vals order i n).2.1), .one (.bool (soonR kind vals order i n).2.2)] [.row (.int .i64) (soonR kind vals order i n).1 .own] 0 (S56_L0 kind vals order (i : Int) (setOf (order.take i)))
  | 0, i, k, h, hik, hr, hs => by
    refine FL_of1 ?_
    rw [eq56_L0]
    exact Br_f (by omega) ⟨rfl, rfl⟩
  | n + 1, i, k, h, hik, hr, hs => by
    have hi : i < order.length := by omega
    have hsl := setOf_len (order.take i)
    refine FL_of1 ?_
    rw [eq56_L0, wS (i := i) (by omega), soonR]
    simp only [Int.toNat_natCast]
    refine Br_t (by omega) (Ck_d (by omega) (Ck_d (by omega) ⟨_, c109 _ _ _, Br_nb (fun e => ⟨by rw [e]; rfl, by rw [e]; rfl⟩) (fun e => ?_)⟩))
    have ha := inB_iff.1 e
    have hget := setOf_get (order.take i) (i := (order.getD i 0).toNat) (by omega)
    rw [show (((order.getD i 0).toNat : Nat) : Int) = order.getD i 0 by omega] at hget
    have hhas : has (order.take i) (order.getD i 0) = (setOf (order.take i)).getD (order.getD i 0).toNat false := by
      rw [hget]
      exact bool_eq (by rw [mem_any, has, decide_eq_true_iff])
    refine Ck_d (by omega) (Ck_d (by omega) (Ck_d (by omega) (Ck_d (by omega) (Ck_le (by omega) (Br_b (fun e2 => ?_) (fun e2 => ?_))))))
    · rw [hhas, e2, Bool.or_true]; exact ⟨rfl, rfl⟩
    · rw [hhas, e2, e]
      have hnm : order.getD i 0 ∉ order.take i := by
        rw [hhas.symm] at e2
        exact of_decide_eq_false e2
      obtain ⟨k', rfl, hb1, hb2⟩ := soon_next hs ha.1 ha.2 hnm
      have htk : order.take (i + 1) = order.take i ++ [order.getD i 0] := by rw [take_succ' hi, getD_eq hi]
      have hset : (setOf (order.take i)).set (order.getD i 0).toNat true = setOf (order.take (i + 1)) := by rw [htk, setOf_snoc _ ha.1 ha.2]
      rw [← htk] at hb1 hb2
      rw [hset]
      have hsl' := setOf_len (order.take (i + 1))
      have hr' : ∀ x ∈ order.take (i + 1), 0 ≤ x ∧ x ≤ 7 := by
        rw [htk]
        intro x hx
        rcases List.mem_append.1 hx with hx | hx
        · exact hr x hx
        · rw [List.mem_singleton] at hx; rw [hx]; exact ha
      have hcb : codeBears kind (setOf (order.take (i + 1))) = bearsI kind (flagF (setOf (order.take (i + 1)))) := by rw [codeBears, hk, decide_eq_true hsl']; rfl
      refine Ck_d (by omega) (Ck_d (by omega) (Ck_d (by omega) (Ck_d (by omega) (Ck_le (by omega) ⟨_, c68 kind _, ?_⟩))))
      rw [hcb]
      cases hb : bearsI kind (order.take (i + 1)) with
      | true =>
        obtain ⟨q1, q2⟩ := hb1 hb
        obtain ⟨r1, r2⟩ := same_read hk (vals := vals) (by simp; omega) hr' q1 hb q2
        rw [q2]
        have s := c104 kind hk vals hv _ hsl'
        rw [r1, r2] at s
        exact Br_b (fun _ => ⟨(_, _), s, rfl, rfl⟩) (fun e => by cases e)
      | false =>
        obtain ⟨q1, q2⟩ := hb2 hb
        rw [q1]
        exact Br_b (fun e => by cases e) (fun _ => l56 kind hk vals order hv hl n (i + 1) k' (by omega) (by omega) hr' q2)
theorem c56 (kind : Int) (vals order : List Int) (hv : vals.length ≤ 1048576) (hl : order.length ≤ 1048576) : SC P 56 [.one (.int .i64 kind), .one (.ro (.int .i64) vals), .one (.ro (.int .i64) order)] [] [.one (.sl 0 none), .one (.int .i64 (readSoon kind vals order).2.1), .one (.bool (readSoon kind vals order).2.2)] [.row (.int .i64) (readSoon kind vals order).1 .own] := by
  refine SC_of_FB (H := H56) E_ok Try.func56 (by kernel_rfl) ?_
  rw [eq56]
  refine ⟨_, c78 kind, Br_nb (fun e => ⟨by rw [readSoon, e]; rfl, by rw [readSoon, e]; rfl⟩) (fun e => ⟨_, c103 vals _ hv, ?_⟩)⟩
  rw [decide_eq_true (show ([false, false, false, false, false, false, false, false] : List Bool).length = 8 from rfl), Bool.and_true]
  refine Br_nb (fun e2 => ⟨by rw [readSoon, e, e2]; rfl, by rw [readSoon, e, e2]; rfl⟩) (fun e2 => ?_)
  rw [readSoon, e, e2]
  exact l56 kind e vals order (vals_p e2) hl order.length 0 6 (Nat.zero_add _) rfl (fun x hx => by cases hx) (soon_start e)
end Go.Proofs.Ytlebgbcoljnejaa.Sh
