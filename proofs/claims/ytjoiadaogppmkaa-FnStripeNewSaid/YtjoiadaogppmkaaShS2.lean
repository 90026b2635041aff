/- What is read of shards: contracts of the reference's functions. -/
import Derived.Test.YtjoiadaogppmkaaShS1
import Derived.Test.YtjoiadaogppmkaaShR3
import Derived.Test.YtjoiadaogppmkaaMaSame
namespace Go.Proofs.Ytjoiadaogppmkaa.Sh
open Go
set_option linter.unusedVariables false
set_option linter.unusedSimpArgs false
theorem rowsL_p {kind : Int} {p : List Int} : RowsP 4 (rowsL kind p) := by
  intro l hl
  obtain ⟨i, _, rfl⟩ := List.mem_map.1 hl
  exact rowP_v (rowV_ok _ _)
theorem filterR_map {α β : Type} {q : Nat → Bool} {f : Nat → α} {g : α → β} : ∀ {n i : Nat}, filterR q (fun j => g (f j)) i n = (filterR q f i n).map g
  | 0, _ => rfl
  | n + 1, i => by
    rw [filterR, filterR, filterR_map (n := n)]
    cases q i <;> rfl
/-! loop.example/keelson/spec.l4Vals -/
def H70 : Hint := ⟨[[(0, 0, .bool), (1, 0, .bool), (5, 0, .bool)]], [], [], [], [], [], []⟩
def S70_L0 (vals0 : List Int) (there1 : List Bool) (i5 : Int) : St := ⟨[(0, .w (.one (.ro (.int .i64) vals0))), (1, .w (.one (.ro .bool there1))), (5, .w (.one (.int .i64 i5)))], []⟩
theorem eq70 (vals : List Int) (there : List Bool) (r : List W) (lh : Heap) : FB E H70 Try.f70 [.one (.ro (.int .i64) vals), .one (.ro .bool there)] [] r lh =
  (
   FL E H70 Try.f70 0 r lh 0 (S70_L0 vals there 0)) := by kernel_rfl
theorem eq70_L0 (vals0 : List Int) (there1 : List Bool) (i5 : Int) (r : List W) (lh : Heap) : FL1 E H70 Try.f70 0 r lh 0 (S70_L0 vals0 there1 i5) =
  (
   Br (decide (i5 < ((vals0.length : Nat) : Int))) (
    Ck (decide ((0 : Int) ≤ i5)) (
     Ck (decide (i5 < ((vals0.length : Nat) : Int))) (
      ∃ r0 : Bool, SC P 87 [.one (.int .i64 (vals0.getD i5.toNat 0))] [] [.one (.bool r0)] [] ∧
       Br (!r0) (
        Ret r lh [.one (.bool false)] []) (
        FL E H70 Try.f70 0 r lh 0 (S70_L0 vals0 there1 (IntKind.wrap .i64 (i5 + 1))))))) (
    Br (decide (((vals0.length : Nat) : Int) = (8 : Int))) (
     Ret r lh [.one (.bool (decide (((there1.length : Nat) : Int) = (8 : Int))))] []) (
     Ret r lh [.one (.bool false)] []))) := by kernel_rfl
theorem l70 (l : List Int) (t : List Bool) (hl : l.length ≤ 1048576) : ∀ (n i : Nat), i + n = l.length → FL E H70 Try.f70 0 [.one (.bool ((decide (l.length = 8) && allR (fun j => inB (l.getD j 0) 0 30) i n) && decide (t.length = 8)))] [] 0 (S70_L0 l t (i : Int))
  | 0, i, h => by
    refine FL_of1 ?_
    rw [eq70_L0, allR, Bool.and_true]
    refine Br_f (by omega) (Br_d (fun c => ⟨?_, rfl⟩) (fun c => ⟨?_, rfl⟩))
    · rw [decide_eq_true (show l.length = 8 by omega), Bool.true_and]
      congr 3
      exact decide_eq_decide.2 (by omega)
    · rw [decide_eq_false (show ¬ l.length = 8 by omega), Bool.false_and]
  | n + 1, i, h => by
    refine FL_of1 ?_
    rw [eq70_L0, wS (by omega)]
    simp only [Int.toNat_natCast]
    refine Br_t (by omega) (Ck_d (by omega) (Ck_d (by omega) ⟨_, c87 _, Br_nb (fun h1 => ?_) (fun h1 => ?_)⟩))
    · exact ⟨by rw [allR_f h1, Bool.and_false, Bool.false_and], rfl⟩
    · rw [allR_t h1]
      exact l70 l t hl n (i + 1) (by omega)
theorem c70 (l : List Int) (t : List Bool) (hl : l.length ≤ 1048576) : SC P 70 [.one (.ro (.int .i64) l), .one (.ro .bool t)] [] [.one (.bool (valsOk l && decide (t.length = 8)))] [] := by
  refine SC_of_FB (H := H70) E_ok Try.func70 (by kernel_rfl) ?_
  rw [eq70]
  have := l70 l t hl l.length 0 (by omega)
  rw [allR_all (fun n => inB n 0 30) l 0] at this
  exact this

theorem rowsL_len {kind : Int} {there : List Bool} (h8 : there.length = 8) : (rowsL kind (flagF there)).length ≤ 8 := by rw [rowsL, List.length_map]; exact (flag_ok h8).len

/-! loop.example/keelson/spec.l4Fits -/
def H71 : Hint := ⟨[[(0, 0, .bool), (1, 0, .bool), (2, 0, .bool), (7, 0, .bool), (8, 0, .bool), (9, 0, .bool)], [(0, 0, .bool), (1, 0, .bool), (2, 0, .bool), (7, 0, .bool), (8, 0, .bool), (9, 0, .bool), (11, 0, .bool), (13, 0, .bool), (14, 0, .bool)]], [], [(14, [0, 1, 2, 3, 4, 5, 6, 7, 8, 9, 10, 11, 12])], [], [], [], []⟩
def S71_L0 (kind0 : Int) (vals1 : List Int) (there2 : List Bool) (x9 : Int) (h0 : List (List Int)) (h1 : List Int) : St := ⟨[(0, .w (.one (.int .i64 kind0))), (1, .w (.one (.ro (.int .i64) vals1))), (2, .w (.one (.ro .bool there2))), (7, .w (.one (.sl 0 none))), (8, .w (.one (.sl 1 none))), (9, .w (.one (.int .i64 x9)))], [.row (.sl (.int .i64)) h0 .own, .row (.int .i64) h1 .own]⟩
def S71_L1 (kind0 : Int) (vals1 : List Int) (there2 : List Bool) (x9 : Int) (n13 : Int) (i14 : Int) (h0 : List (List Int)) (h1 : List Int) (h2 : List Int) : St := ⟨[(0, .w (.one (.int .i64 kind0))), (1, .w (.one (.ro (.int .i64) vals1))), (2, .w (.one (.ro .bool there2))), (7, .w (.one (.sl 0 none))), (8, .w (.one (.sl 1 none))), (9, .w (.one (.int .i64 x9))), (11, .w (.one (.sl 2 none))), (13, .w (.one (.int .i64 n13))), (14, .w (.one (.int .i64 i14)))], [.row (.sl (.int .i64)) h0 .own, .row (.int .i64) h1 .own, .row (.int .i64) h2 .own]⟩
theorem eq71 (kind : Int) (vals : List Int) (there : List Bool) (r : List W) (lh : Heap) : FB E H71 Try.f71 [.one (.int .i64 kind), .one (.ro (.int .i64) vals), .one (.ro .bool there)] [] r lh =
  (
   FL E H71 Try.f71 0 r lh 0 (S71_L0 kind vals there 0 [] [])) := by kernel_rfl
theorem eq71_L0 (kind0 : Int) (vals1 : List Int) (there2 : List Bool) (x9 : Int) (h0 : List (List Int)) (h1 : List Int) (r : List W) (lh : Heap) : FL1 E H71 Try.f71 0 r lh 0 (S71_L0 kind0 vals1 there2 x9 h0 h1) =
  (
   Br (decide (x9 < (8 : Int))) (
    Ck (decide ((0 : Int) ≤ x9)) (
     Ck (decide (x9 < ((there2.length : Nat) : Int))) (
      Br (!(there2.getD x9.toNat false)) (
       FL E H71 Try.f71 0 r lh 0 (S71_L0 kind0 vals1 there2 (IntKind.wrap .i64 (x9 + 1)) h0 h1)) (
       ∃ r0 : List Int, SC P 100 [.one (.int .i64 kind0), .one (.int .i64 x9)] [] [.one (.ro (.int .i64) r0)] [] ∧
        ∃ r1 : Bool, SC P 101 [.one (.ro (.sl (.int .i64)) h0), .one (.ro (.int .i64) r0)] [] [.one (.bool r1)] [] ∧
         Br r1 (
          ∃ r2 : List Int × Bool, SC P 102 [.one (.ro (.sl (.int .i64)) h0), .one (.ro (.int .i64) r0)] [] [.one (.sl 0 none), .one (.bool r2.2)] [.row (.int .i64) r2.1 .own] ∧
           FL E H71 Try.f71 0 r lh 1 (S71_L1 kind0 vals1 there2 x9 0 0 h0 h1 r2.1)) (
          Ck (Nat.ble ((h0.length + 1) * 24) roomy) (
           Ck (decide ((0 : Int) ≤ x9)) (
            Ck (decide (x9 < ((vals1.length : Nat) : Int))) (
             Ck (Nat.ble ((h1.length + 1) * 8) roomy) (
              FL E H71 Try.f71 0 r lh 0 (S71_L0 kind0 vals1 there2 (IntKind.wrap .i64 (x9 + 1)) (h0 ++ [r0]) (h1 ++ [(vals1.getD x9.toNat 0)]))))))))))) (
    Ret r lh [.one (.bool true)] [])) := by kernel_rfl
theorem eq71_L1 (kind0 : Int) (vals1 : List Int) (there2 : List Bool) (x9 : Int) (n13 : Int) (i14 : Int) (h0 : List (List Int)) (h1 : List Int) (h2 : List Int) (r : List W) (lh : Heap) : FL1 E H71 Try.f71 0 r lh 1 (S71_L1 kind0 vals1 there2 x9 n13 i14 h0 h1 h2) =
  (
   Br (decide (i14 < ((h2.length : Nat) : Int))) (
    Ck (decide ((0 : Int) ≤ i14)) (
     Ck (decide (i14 < ((h2.length : Nat) : Int))) (
      Ck (Nat.ble (i14.toNat + 1) h2.length) (
       Ck (decide ((0 : Int) ≤ i14)) (
        Ck (decide (i14 < ((h1.length : Nat) : Int))) (
         Ck (Nat.ble (i14.toNat + 1) h1.length) (
          FL E H71 Try.f71 0 r lh 1 (S71_L1 kind0 vals1 there2 x9 (Int.tmod (IntKind.wrap .i64 (n13 + (IntKind.wrap .i64 ((h2.getD i14.toNat 0) * (h1.getD i14.toNat 0))))) 31) (IntKind.wrap .i64 (i14 + 1)) h0 h1 h2)))))))) (
    Ck (decide ((0 : Int) ≤ x9)) (
     Ck (decide (x9 < ((vals1.length : Nat) : Int))) (
      Br (!(decide (n13 = (vals1.getD x9.toNat 0)))) (
       Ret r lh [.one (.bool false)] []) (
       FL E H71 Try.f71 0 r lh 0 (S71_L0 kind0 vals1 there2 (IntKind.wrap .i64 (x9 + 1)) h0 h1)))))) := by kernel_rfl
theorem l71_1 (kind : Int) (vals : List Int) (hv : ValsP vals) (there : List Bool) (a : Nat) (ha : a < 8) (rows : List (List Int)) (got b : List Int) {m : Nat} (hb : RowP m b) (hbg : b.length ≤ got.length) (hg : ∀ i, FOk (got.getD i 0)) (hm : m ≤ 100) (res : Bool) : ∀ (n i : Nat) (acc : Int), i + n = b.length → FOk acc →
    (Br (!decide (qR (fun i => b.getD i 0 * got.getD i 0) i n acc = vals.getD a 0)) (Ret [.one (.bool res)] [] [.one (.bool false)] []) (FL E H71 Try.f71 0 [.one (.bool res)] [] 0 (S71_L0 kind vals there ((a + 1 : Nat) : Int) rows got))) →
    FL E H71 Try.f71 0 [.one (.bool res)] [] 1 (S71_L1 kind vals there (a : Int) acc (i : Int) rows got b)
  | 0, i, acc, h, hacc, hF => by
    have := hv.1
    refine FL_of1 ?_
    rw [eq71_L1, wS (i := a) (by omega)]
    simp only [Int.toNat_natCast]
    exact Br_f (by omega) (Ck_d (by omega) (Ck_d (by omega) hF))
  | n + 1, i, acc, h, hacc, hF => by
    have h1 := fok_mul (hb.ok i) (hg i)
    have := hacc.1; have := hacc.2; have := hb.len
    refine FL_of1 ?_
    rw [eq71_L1, wS (i := i) (by omega)]
    simp only [Int.toNat_natCast]
    rw [wrap64 (n := b.getD i 0 * got.getD i 0) (by omega) (by omega), wrap64 (n := acc + _) (by omega) (by omega), Int.tmod_eq_emod_of_nonneg (by omega)]
    exact Br_t (by omega) (Ck_d (by omega) (Ck_d (by omega) (Ck_le (by omega) (Ck_d (by omega) (Ck_d (by omega) (Ck_le (by omega) (l71_1 kind vals hv there a ha rows got b hb hbg hg hm res n (i + 1) _ (by omega) (fok_mod _) hF)))))))
theorem byL_p {m : List (List Int)} {v : List Int} (hm : RowsP 4 m) (hv : RowP 4 v) (h8 : m.length ≤ 8) : ∃ k, k ≤ 8 ∧ RowP k (byL m v) := by
  rw [byL]
  cases byOk m v
  · exact ⟨0, by omega, rfl, fun j => by rw [cond_false, getD_out (by simp)]; exact fok0⟩
  · refine ⟨((byR m v).drop 4).length, ?_, ?_⟩
    · have h1 : RowsP (4 + m.length) (byStart m v).1 ∧ RowP (4 + m.length) (byStart m v).2 := by
        constructor
        · intro l hl
          obtain ⟨i, hi, rfl⟩ : ∃ i, i < m.length ∧ l = m.getD i [] ++ (List.replicate m.length 0).set i 1 := by
            have key : ∀ (n i : Nat), i + n = m.length → l ∈ mapR (fun i => m.getD i [] ++ (List.replicate m.length 0).set i 1) i n → ∃ i, i < m.length ∧ l = m.getD i [] ++ (List.replicate m.length 0).set i 1 := by
              intro n
              induction n with
              | zero => intro i _ h; cases h
              | succ n ih =>
                intro i hi h
                rw [mapR] at h
                rcases List.mem_cons.1 h with h | h
                · exact ⟨i, by omega, h⟩
                · exact ih (i + 1) (by omega) h
            exact key _ _ (Nat.zero_add _) hl
          exact rowP_app (rowsP_get hm hi) ⟨by rw [List.length_set, List.length_replicate], fun j => rep_set _ _ _⟩
        · exact rowP_app hv ⟨List.length_replicate, fun j => by
            rw [List.getD, List.getElem?_replicate]
            split <;> exact fok0⟩
      have h2 : ∀ (n a : Nat) (s : List (List Int) × List Int), RowsP (4 + m.length) s.1 → RowP (4 + m.length) s.2 → RowP (4 + m.length) (byAL m.length a n s).2 := by
        intro n
        induction n with
        | zero => intro a s _ h; exact h
        | succ n ih =>
          intro a s g1 g2
          rw [byAL]
          obtain ⟨q1, q2, _⟩ := byIL_ok (lead := a) (m := m.length) (n := m.length) (i := 0) g1 g2
          exact ih _ _ q1 q2
      have := (h2 4 0 _ h1.1 h1.2).len
      rw [List.length_drop, byR]
      omega
    · rw [cond_true, scaleL]
      exact mapR_ok fun j => fok_mod _
theorem getD_snocI {l : List Int} {x : Int} (h : ∀ i, FOk (l.getD i 0)) (hx : FOk x) (i : Nat) : FOk ((l ++ [x]).getD i 0) := by
  rw [List.getD, List.getElem?_append]
  split
  · exact h i
  · cases hi : i - l.length with
    | zero => exact hx
    | succ k => exact fok0
theorem l71 (kind : Int) (hk : inB kind 1 2 = true) (vals : List Int) (hv : ValsP vals) (there : List Bool) (h8 : there.length = 8) : ∀ (n a : Nat) (rows : List (List Int)) (got : List Int), a + n = 8 → rows.length ≤ a → rows.length = got.length → RowsP 4 rows → (∀ i, FOk (got.getD i 0)) → fitsW kind there a n rows = true →
    FL E H71 Try.f71 0 [.one (.bool (fitsQ kind vals there a n rows got))] [] 0 (S71_L0 kind vals there (a : Int) rows got)
  | 0, a, rows, got, h, hl, hg, hr, hgo, hw => by
    refine FL_of1 ?_
    rw [eq71_L0]
    exact Br_f (by omega) ⟨rfl, rfl⟩
  | n + 1, a, rows, got, h, hl, hg, hr, hgo, hw => by
    have hvl := hv.1
    have hrow : RowP 4 (rowV kind (a : Int)).l := rowP_v (rowV_ok _ _)
    refine FL_of1 ?_
    rw [eq71_L0, wS (i := a) (by omega), fitsQ]
    simp only [Int.toNat_natCast]
    rw [fitsW] at hw
    refine Br_t (by omega) (Ck_d (by omega) (Ck_d (by omega) (Br_nb (fun e => ?_) (fun e => ?_))))
    · rw [e, Bool.not_false, cond_true] at hw
      rw [e, Bool.not_false, cond_true]
      exact l71 kind hk vals hv there h8 n (a + 1) rows got (by omega) (by omega) hg hr hgo hw
    · rw [e, Bool.not_true, cond_false, Bool.and_eq_true, Bool.and_eq_true, decide_eq_true_iff] at hw
      rw [e, Bool.not_true, cond_false]
      refine ⟨_, c100 kind (a : Int) hk (by omega) (by omega), _, c101 rows _ hr hrow (by omega) hw.1, Br_b (fun e2 => ?_) (fun e2 => ?_)⟩
      · rw [e2, cond_true] at hw
        rw [e2, cond_true]
        obtain ⟨k, hk8, hb⟩ := byL_p hr hrow (by omega)
        refine ⟨(_, _), c102 rows _ hr hrow (by omega), ?_⟩
        refine l71_1 kind vals hv there a (by omega) rows got _ hb (by omega) hgo (by omega) _ _ 0 0 (Nat.zero_add _) fok0 ?_
        refine Br_nd (fun e3 => ?_) (fun e3 => ?_)
        · rw [accQ, decide_eq_false e3]; exact ⟨rfl, rfl⟩
        · rw [accQ, decide_eq_true e3, cond_true]
          exact l71 kind hk vals hv there h8 n (a + 1) rows got (by omega) (by omega) hg hr hgo hw.2.2
      · rw [e2, cond_false] at hw
        rw [e2, cond_false]
        refine Ck_room (by omega) (Ck_d (by omega) (Ck_d (by omega) (Ck_room (by omega) ?_)))
        refine l71 kind hk vals hv there h8 n (a + 1) _ _ (by omega) (by simp; omega) (by simp [hg]) ?_ (getD_snocI hgo (hv.2 _)) hw.2.2
        intro l hl'
        rcases List.mem_append.1 hl' with hl' | hl'
        · exact hr l hl'
        · rw [List.mem_singleton] at hl'; rw [hl']; exact hrow
theorem c71 (kind : Int) (hk : inB kind 1 2 = true) (vals : List Int) (hv : ValsP vals) (there : List Bool) (h8 : there.length = 8) : SC P 71 [.one (.int .i64 kind), .one (.ro (.int .i64) vals), .one (.ro .bool there)] [] [.one (.bool (fitsI kind vals (flagF there)))] [] := by
  refine SC_of_FB (H := H71) E_ok Try.func71 (by kernel_rfl) ?_
  rw [eq71]
  rw [← same_fits hk h8 hv.2]
  exact l71 kind hk vals hv there h8 8 0 [] [] rfl (Nat.le_refl _) rfl (fun l h => by cases h) (fun i => by rw [getD_out (by simp)]; exact fok0) (spec_s hk h8).fw




theorem from_sh {kind : Int} {there : List Bool} (h8 : there.length = 8) : ShOk (fromI kind (flagF there)) := by
  intro x hx
  obtain ⟨i, hi, rfl⟩ := List.mem_map.1 hx
  have h1 := span_piv' _ i hi
  have hrl : (rowsF kind (flagF there)).length = (flagF there).length := List.length_map _
  exact shok_get (flag_ok h8).range (by omega)


/-! ## ShS3 -/
def findQ (kind : Int) (vals : List Int) (there : List Bool) : Nat → Nat → Int → Int
  | _, 0, found => found
  | a, n + 1, found => bif there.getD a false && fitsI kind vals (flagF (there.set a false)) then (bif decide (0 ≤ found) then -2 else findQ kind vals there (a + 1) n (a : Int)) else findQ kind vals there (a + 1) n found
theorem find_same {kind : Int} {vals : List Int} {there : List Bool} (h8 : there.length = 8) : ∀ (n a idx : Nat) (found : Int), (flagF there).drop idx = filterR (fun j => there.getD j false) (fun j => (j : Int)) a n → idx ≤ (flagF there).length →
    findQ kind vals there a n found = findS kind vals (flagF there) idx ((flagF there).length - idx) found
  | 0, a, idx, found, hd, hi => by
    rw [filterR] at hd
    have : (flagF there).length - idx = 0 := by
      have := congrArg List.length hd
      rw [List.length_drop, List.length_nil] at this
      exact this
    rw [this, findQ, findS]
  | n + 1, a, idx, found, hd, hi => by
    rw [filterR] at hd
    rw [findQ]
    cases ht : there.getD a false with
    | false =>
      rw [ht, cond_false] at hd
      rw [Bool.false_and, cond_false]
      exact find_same h8 n (a + 1) idx found hd hi
    | true =>
      rw [ht, cond_true] at hd
      have hlt : idx < (flagF there).length := by
        rcases Nat.lt_or_ge idx (flagF there).length with h | h
        · exact h
        · rw [List.drop_eq_nil_of_le h] at hd; cases hd
      rw [drop_cons hlt] at hd
      obtain ⟨e1, e2⟩ := List.cons.inj hd
      have hpa : (flagF there).getD idx 0 = (a : Int) := by rw [getD_eq hlt]; exact e1
      have hls := (flag_ok h8).less idx hlt
      rw [hpa, Int.toNat_natCast] at hls
      rw [Bool.true_and, show (flagF there).length - idx = ((flagF there).length - (idx + 1)) + 1 by omega, findS, hls, hpa]
      cases fitsI kind vals (flagF (there.set a false))
      · rw [cond_false, Bool.not_false, cond_true]
        exact find_same h8 n (a + 1) (idx + 1) found e2 (by omega)
      · rw [cond_true, Bool.not_true, cond_false]
        cases decide (0 ≤ found)
        · exact find_same h8 n (a + 1) (idx + 1) (a : Int) e2 (by omega)
        · rfl

end Go.Proofs.Ytjoiadaogppmkaa.Sh
