/- What is read of shards: contracts of the reference's functions. -/
import Derived.Test.YtjoiadaogppmkaaGreatShS1
import Derived.Test.YtjoiadaogppmkaaGreatShR3
import Derived.Test.YtjoiadaogppmkaaGreatMaSame
namespace Go.Proofs.YtjoiadaogppmkaaGreat.Sh
open Go
set_option linter.unusedVariables false
set_option linter.unusedSimpArgs false
theorem rowsL_p {kind : Int} {p : List Int} : RowsP 4 (rowsL kind p) := by
  intro l hl
  obtain ⟨i, _, rfl⟩ := List.mem_map.1 hl
  exact rowP_v (rowV_ok _ _)
theorem filterR_map {α β : Type} {q : Nat → Bool} {f : Nat → α} {g : α → β} : ∀ {n i : Nat}, filterR q (fun j => g (f j)) i n = (filterR q f i n).map g
  | 0, _ => rfl
  | n + 1, i => by
    rw [filterR, filterR, filterR_map (n := n)]
    cases q i <;> rfl
/-! loop.example/keelson/spec.l4Vals -/
def H34 : Hint := ⟨[[(0, 0, .bool), (1, 0, .bool), (5, 0, .bool)]], [], [], [], [], [], []⟩
def S34_L0 (vals0 : List Int) (there1 : List Bool) (i5 : Int) : St := ⟨[(0, .w (.one (.ro (.int .i64) vals0))), (1, .w (.one (.ro .bool there1))), (5, .w (.one (.int .i64 i5)))], []⟩
theorem eq34 (vals : List Int) (there : List Bool) (r : List W) (lh : Heap) : FB E H34 Tryz.f34 [.one (.ro (.int .i64) vals), .one (.ro .bool there)] [] r lh =
  (
   FL E H34 Tryz.f34 0 r lh 0 (S34_L0 vals there 0)) := by kernel_rfl
theorem eq34_L0 (vals0 : List Int) (there1 : List Bool) (i5 : Int) (r : List W) (lh : Heap) : FL1 E H34 Tryz.f34 0 r lh 0 (S34_L0 vals0 there1 i5) =
  (
   Br (decide (i5 < ((vals0.length : Nat) : Int))) (
    Ck (decide ((0 : Int) ≤ i5)) (
     Ck (decide (i5 < ((vals0.length : Nat) : Int))) (
      ∃ r0 : Bool, SC P 63 [.one (.int .i64 (vals0.getD i5.toNat 0))] [] [.one (.bool r0)] [] ∧
       Br (!r0) (
        Ret r lh [.one (.bool false)] []) (
        FL E H34 Tryz.f34 0 r lh 0 (S34_L0 vals0 there1 (IntKind.wrap .i64 (i5 + 1))))))) (
    Br (decide (((vals0.length : Nat) : Int) = (8 : Int))) (
     Ret r lh [.one (.bool (decide (((there1.length : Nat) : Int) = (8 : Int))))] []) (
     Ret r lh [.one (.bool false)] []))) := by kernel_rfl
theorem l34 (l : List Int) (t : List Bool) (hl : l.length ≤ 1048576) : ∀ (n i : Nat), i + n = l.length → FL E H34 Tryz.f34 0 [.one (.bool ((decide (l.length = 8) && allR (fun j => inB (l.getD j 0) 0 30) i n) && decide (t.length = 8)))] [] 0 (S34_L0 l t (i : Int))
  | 0, i, h => by
    refine FL_of1 ?_
    rw [eq34_L0, allR, Bool.and_true]
    refine Br_f (by omega) (Br_d (fun c => ⟨?_, rfl⟩) (fun c => ⟨?_, rfl⟩))
    · rw [decide_eq_true (show l.length = 8 by omega), Bool.true_and]
      congr 3
      exact decide_eq_decide.2 (by omega)
    · rw [decide_eq_false (show ¬ l.length = 8 by omega), Bool.false_and]
  | n + 1, i, h => by
    refine FL_of1 ?_
    rw [eq34_L0, wS (by omega)]
    simp only [Int.toNat_natCast]
    refine Br_t (by omega) (Ck_d (by omega) (Ck_d (by omega) ⟨_, c63 _, Br_nb (fun h1 => ?_) (fun h1 => ?_)⟩))
    · exact ⟨by rw [allR_f h1, Bool.and_false, Bool.false_and], rfl⟩
    · rw [allR_t h1]
      exact l34 l t hl n (i + 1) (by omega)
theorem c34 (l : List Int) (t : List Bool) (hl : l.length ≤ 1048576) : SC P 34 [.one (.ro (.int .i64) l), .one (.ro .bool t)] [] [.one (.bool (valsOk l && decide (t.length = 8)))] [] := by
  refine SC_of_FB (H := H34) E_ok Tryz.func34 (by kernel_rfl) ?_
  rw [eq34]
  have := l34 l t hl l.length 0 (by omega)
  rw [allR_all (fun n => inB n 0 30) l 0] at this
  exact this
/-! loop.example/keelson/spec.l4Rows -/
def H74 : Hint := ⟨[[(0, 0, .bool), (1, 0, .bool), (5, 0, .bool), (6, 0, .bool)]], [], [], [], [.one (.c (.sl (.sl (.int .i64))))], [], []⟩
def S74_L0 (kind0 : Int) (there1 : List Bool) (x6 : Int) (h0 : List (List Int)) : St := ⟨[(0, .w (.one (.int .i64 kind0))), (1, .w (.one (.ro .bool there1))), (5, .w (.one (.sl 0 none))), (6, .w (.one (.int .i64 x6)))], [.row (.sl (.int .i64)) h0 .own]⟩
theorem eq74 (kind : Int) (there : List Bool) (r : List W) (lh : Heap) : FB E H74 Tryz.f74 [.one (.int .i64 kind), .one (.ro .bool there)] [] r lh =
  (
   FL E H74 Tryz.f74 0 r lh 0 (S74_L0 kind there 0 [])) := by kernel_rfl
theorem eq74_L0 (kind0 : Int) (there1 : List Bool) (x6 : Int) (h0 : List (List Int)) (r : List W) (lh : Heap) : FL1 E H74 Tryz.f74 0 r lh 0 (S74_L0 kind0 there1 x6 h0) =
  (
   Br (decide (x6 < (8 : Int))) (
    Ck (decide ((0 : Int) ≤ x6)) (
     Ck (decide (x6 < ((there1.length : Nat) : Int))) (
      Br (there1.getD x6.toNat false) (
       ∃ r0 : List Int, SC P 64 [.one (.int .i64 kind0), .one (.int .i64 x6)] [] [.one (.ro (.int .i64) r0)] [] ∧
        Ck (Nat.ble ((h0.length + 1) * 24) roomy) (
         FL E H74 Tryz.f74 0 r lh 0 (S74_L0 kind0 there1 (IntKind.wrap .i64 (x6 + 1)) (h0 ++ [r0])))) (
       FL E H74 Tryz.f74 0 r lh 0 (S74_L0 kind0 there1 (IntKind.wrap .i64 (x6 + 1)) h0))))) (
    Ret r lh [.one (.ro (.sl (.int .i64)) h0)] [])) := by kernel_rfl
theorem l74 (kind : Int) (hk : inB kind 1 2 = true) (there : List Bool) (h8 : there.length = 8) : ∀ (n i : Nat) (out : List (List Int)), i + n = 8 → out.length ≤ i →
    FL E H74 Tryz.f74 0 [.one (.ro (.sl (.int .i64)) (out ++ filterR (fun j => there.getD j false) (fun j => (rowV kind (j : Int)).l) i n))] [] 0 (S74_L0 kind there (i : Int) out)
  | 0, i, out, h, ho => by
    refine FL_of1 ?_
    rw [eq74_L0]
    exact Br_f (by omega) ⟨by rw [filterR, List.append_nil], rfl⟩
  | n + 1, i, out, h, ho => by
    refine FL_of1 ?_
    rw [eq74_L0, wS (i := i) (by omega), filterR]
    simp only [Int.toNat_natCast]
    refine Br_t (by omega) (Ck_d (by omega) (Ck_d (by omega) (Br_b (fun e => ?_) (fun e => ?_))))
    · rw [e, cond_true]
      have := l74 kind hk there h8 n (i + 1) (out ++ [(rowV kind (i : Int)).l]) (by omega) (by simp; omega)
      rw [List.append_assoc] at this
      exact ⟨_, c64 kind (i : Int) hk (by omega) (by omega), Ck_room (by omega) this⟩
    · rw [e, cond_false]
      exact l74 kind hk there h8 n (i + 1) out (by omega) (by omega)
theorem c74 (kind : Int) (hk : inB kind 1 2 = true) (there : List Bool) (h8 : there.length = 8) : SC P 74 [.one (.int .i64 kind), .one (.ro .bool there)] [] [.one (.ro (.sl (.int .i64)) (rowsL kind (flagF there)))] [] := by
  refine SC_of_FB (H := H74) E_ok Tryz.func74 (by kernel_rfl) ?_
  rw [eq74]
  have := l74 kind hk there h8 8 0 [] rfl (Nat.le_refl _)
  rw [List.nil_append, filterR_map (g := fun x : Int => (rowV kind x).l)] at this
  rw [rowsL, flagF, h8]
  exact this
theorem rowsL_len {kind : Int} {there : List Bool} (h8 : there.length = 8) : (rowsL kind (flagF there)).length ≤ 8 := by rw [rowsL, List.length_map]; exact (flag_ok h8).len
/-! loop.example/keelson/spec.CodeBears -/
def H45 : Hint := ⟨[], [], [], [], [], [], []⟩
theorem eq45 (kind : Int) (there : List Bool) (r : List W) (lh : Heap) : FB E H45 Tryz.f45 [.one (.int .i64 kind), .one (.ro .bool there)] [] r lh =
  (
   ∃ r0 : Bool, SC P 33 [.one (.int .i64 kind)] [] [.one (.bool r0)] [] ∧
    Br r0 (
     Br (decide (((there.length : Nat) : Int) = (8 : Int))) (
      ∃ r1 : List (List Int), SC P 74 [.one (.int .i64 kind), .one (.ro .bool there)] [] [.one (.ro (.sl (.int .i64)) r1)] [] ∧
       ∃ r2 : List (List Int), SC P 73 [.one (.ro (.sl (.int .i64)) r1)] [] [.one (.ro (.sl (.int .i64)) r2)] [] ∧
        Ret r lh [.one (.bool (decide (((r2.length : Nat) : Int) = (4 : Int))))] []) (
      Ret r lh [.one (.bool false)] [])) (
     Ret r lh [.one (.bool false)] [])) := by kernel_rfl
theorem c45 (kind : Int) (there : List Bool) : SC P 45 [.one (.int .i64 kind), .one (.ro .bool there)] [] [.one (.bool (codeBears kind there))] [] := by
  refine SC_of_FB (H := H45) E_ok Tryz.func45 (by kernel_rfl) ?_
  rw [eq45]
  refine ⟨_, c33 kind, Br_b (fun e => ?_) (fun e => ⟨by rw [codeBears, e]; rfl, rfl⟩)⟩
  rw [dec8, codeBears, e, Bool.true_and]
  refine Br_d (fun e2 => ?_) (fun e2 => ⟨by rw [decide_eq_false e2]; rfl, rfl⟩)
  have h8 := rowsL_len (kind := kind) e2
  refine ⟨_, c74 kind e there e2, _, c73 _ rowsL_p (by omega) (spec_s e e2).well, ?_, rfl⟩
  rw [decide_eq_true e2, Bool.true_and, ← same_bears e e2]
  congr 3
  exact decide_eq_decide.2 (by omega)
/-! loop.example/keelson/spec.l4Fits -/
def H36 : Hint := ⟨[[(0, 0, .bool), (1, 0, .bool), (2, 0, .bool), (7, 0, .bool), (8, 0, .bool), (9, 0, .bool)], [(0, 0, .bool), (1, 0, .bool), (2, 0, .bool), (7, 0, .bool), (8, 0, .bool), (9, 0, .bool), (11, 0, .bool), (13, 0, .bool), (14, 0, .bool)]], [], [(14, [0, 1, 2, 3, 4, 5, 6, 7, 8, 9, 10, 11, 12])], [], [], [], []⟩
def S36_L0 (kind0 : Int) (vals1 : List Int) (there2 : List Bool) (x9 : Int) (h0 : List (List Int)) (h1 : List Int) : St := ⟨[(0, .w (.one (.int .i64 kind0))), (1, .w (.one (.ro (.int .i64) vals1))), (2, .w (.one (.ro .bool there2))), (7, .w (.one (.sl 0 none))), (8, .w (.one (.sl 1 none))), (9, .w (.one (.int .i64 x9)))], [.row (.sl (.int .i64)) h0 .own, .row (.int .i64) h1 .own]⟩
def S36_L1 (kind0 : Int) (vals1 : List Int) (there2 : List Bool) (x9 : Int) (n13 : Int) (i14 : Int) (h0 : List (List Int)) (h1 : List Int) (h2 : List Int) : St := ⟨[(0, .w (.one (.int .i64 kind0))), (1, .w (.one (.ro (.int .i64) vals1))), (2, .w (.one (.ro .bool there2))), (7, .w (.one (.sl 0 none))), (8, .w (.one (.sl 1 none))), (9, .w (.one (.int .i64 x9))), (11, .w (.one (.sl 2 none))), (13, .w (.one (.int .i64 n13))), (14, .w (.one (.int .i64 i14)))], [.row (.sl (.int .i64)) h0 .own, .row (.int .i64) h1 .own, .row (.int .i64) h2 .own]⟩
theorem eq36 (kind : Int) (vals : List Int) (there : List Bool) (r : List W) (lh : Heap) : FB E H36 Tryz.f36 [.one (.int .i64 kind), .one (.ro (.int .i64) vals), .one (.ro .bool there)] [] r lh =
  (
   FL E H36 Tryz.f36 0 r lh 0 (S36_L0 kind vals there 0 [] [])) := by kernel_rfl
theorem eq36_L0 (kind0 : Int) (vals1 : List Int) (there2 : List Bool) (x9 : Int) (h0 : List (List Int)) (h1 : List Int) (r : List W) (lh : Heap) : FL1 E H36 Tryz.f36 0 r lh 0 (S36_L0 kind0 vals1 there2 x9 h0 h1) =
  (
   Br (decide (x9 < (8 : Int))) (
    Ck (decide ((0 : Int) ≤ x9)) (
     Ck (decide (x9 < ((there2.length : Nat) : Int))) (
      Br (!(there2.getD x9.toNat false)) (
       FL E H36 Tryz.f36 0 r lh 0 (S36_L0 kind0 vals1 there2 (IntKind.wrap .i64 (x9 + 1)) h0 h1)) (
       ∃ r0 : List Int, SC P 64 [.one (.int .i64 kind0), .one (.int .i64 x9)] [] [.one (.ro (.int .i64) r0)] [] ∧
        ∃ r1 : Bool, SC P 65 [.one (.ro (.sl (.int .i64)) h0), .one (.ro (.int .i64) r0)] [] [.one (.bool r1)] [] ∧
         Br r1 (
          ∃ r2 : List Int × Bool, SC P 66 [.one (.ro (.sl (.int .i64)) h0), .one (.ro (.int .i64) r0)] [] [.one (.sl 0 none), .one (.bool r2.2)] [.row (.int .i64) r2.1 .own] ∧
           FL E H36 Tryz.f36 0 r lh 1 (S36_L1 kind0 vals1 there2 x9 0 0 h0 h1 r2.1)) (
          Ck (Nat.ble ((h0.length + 1) * 24) roomy) (
           Ck (decide ((0 : Int) ≤ x9)) (
            Ck (decide (x9 < ((vals1.length : Nat) : Int))) (
             Ck (Nat.ble ((h1.length + 1) * 8) roomy) (
              FL E H36 Tryz.f36 0 r lh 0 (S36_L0 kind0 vals1 there2 (IntKind.wrap .i64 (x9 + 1)) (h0 ++ [r0]) (h1 ++ [(vals1.getD x9.toNat 0)]))))))))))) (
    Ret r lh [.one (.bool true)] [])) := by kernel_rfl
theorem eq36_L1 (kind0 : Int) (vals1 : List Int) (there2 : List Bool) (x9 : Int) (n13 : Int) (i14 : Int) (h0 : List (List Int)) (h1 : List Int) (h2 : List Int) (r : List W) (lh : Heap) : FL1 E H36 Tryz.f36 0 r lh 1 (S36_L1 kind0 vals1 there2 x9 n13 i14 h0 h1 h2) =
  (
   Br (decide (i14 < ((h2.length : Nat) : Int))) (
    Ck (decide ((0 : Int) ≤ i14)) (
     Ck (decide (i14 < ((h2.length : Nat) : Int))) (
      Ck (Nat.ble (i14.toNat + 1) h2.length) (
       Ck (decide ((0 : Int) ≤ i14)) (
        Ck (decide (i14 < ((h1.length : Nat) : Int))) (
         Ck (Nat.ble (i14.toNat + 1) h1.length) (
          FL E H36 Tryz.f36 0 r lh 1 (S36_L1 kind0 vals1 there2 x9 (Int.tmod (IntKind.wrap .i64 (n13 + (IntKind.wrap .i64 ((h2.getD i14.toNat 0) * (h1.getD i14.toNat 0))))) 31) (IntKind.wrap .i64 (i14 + 1)) h0 h1 h2)))))))) (
    Ck (decide ((0 : Int) ≤ x9)) (
     Ck (decide (x9 < ((vals1.length : Nat) : Int))) (
      Br (!(decide (n13 = (vals1.getD x9.toNat 0)))) (
       Ret r lh [.one (.bool false)] []) (
       FL E H36 Tryz.f36 0 r lh 0 (S36_L0 kind0 vals1 there2 (IntKind.wrap .i64 (x9 + 1)) h0 h1)))))) := by kernel_rfl
theorem l36_1 (kind : Int) (vals : List Int) (hv : ValsP vals) (there : List Bool) (a : Nat) (ha : a < 8) (rows : List (List Int)) (got b : List Int) {m : Nat} (hb : RowP m b) (hbg : b.length ≤ got.length) (hg : ∀ i, FOk (got.getD i 0)) (hm : m ≤ 100) (res : Bool) : ∀ (n i : Nat) (acc : Int), i + n = b.length → FOk acc →
    (Br (!decide (qR (fun i => b.getD i 0 * got.getD i 0) i n acc = vals.getD a 0)) (Ret [.one (.bool res)] [] [.one (.bool false)] []) (FL E H36 Tryz.f36 0 [.one (.bool res)] [] 0 (S36_L0 kind vals there ((a + 1 : Nat) : Int) rows got))) →
    FL E H36 Tryz.f36 0 [.one (.bool res)] [] 1 (S36_L1 kind vals there (a : Int) acc (i : Int) rows got b)
  | 0, i, acc, h, hacc, hF => by
    have := hv.1
    refine FL_of1 ?_
    rw [eq36_L1, wS (i := a) (by omega)]
    simp only [Int.toNat_natCast]
    exact Br_f (by omega) (Ck_d (by omega) (Ck_d (by omega) hF))
  | n + 1, i, acc, h, hacc, hF => by
    have h1 := fok_mul (hb.ok i) (hg i)
    have := hacc.1; have := hacc.2; have := hb.len
    refine FL_of1 ?_
    rw [eq36_L1, wS (i := i) (by omega)]
    simp only [Int.toNat_natCast]
    rw [wrap64 (n := b.getD i 0 * got.getD i 0) (by omega) (by omega), wrap64 (n := acc + _) (by omega) (by omega), Int.tmod_eq_emod_of_nonneg (by omega)]
    exact Br_t (by omega) (Ck_d (by omega) (Ck_d (by omega) (Ck_le (by omega) (Ck_d (by omega) (Ck_d (by omega) (Ck_le (by omega) (l36_1 kind vals hv there a ha rows got b hb hbg hg hm res n (i + 1) _ (by omega) (fok_mod _) hF)))))))
theorem byL_p {m : List (List Int)} {v : List Int} (hm : RowsP 4 m) (hv : RowP 4 v) (h8 : m.length ≤ 8) : ∃ k, k ≤ 8 ∧ RowP k (byL m v) := by
  rw [byL]
  cases byOk m v
  · exact ⟨0, by omega, rfl, fun j => by rw [cond_false, getD_out (by simp)]; exact fok0⟩
  · refine ⟨((byR m v).drop 4).length, ?_, ?_⟩
    · have h1 : RowsP (4 + m.length) (byStart m v).1 ∧ RowP (4 + m.length) (byStart m v).2 := by
        constructor
        · intro l hl
          obtain ⟨i, hi, rfl⟩ : ∃ i, i < m.length ∧ l = m.getD i [] ++ (List.replicate m.length 0).set i 1 := by
            have key : ∀ (n i : Nat), i + n = m.length → l ∈ mapR (fun i => m.getD i [] ++ (List.replicate m.length 0).set i 1) i n → ∃ i, i < m.length ∧ l = m.getD i [] ++ (List.replicate m.length 0).set i 1 := by
              intro n
              induction n with
              | zero => intro i _ h; cases h
              | succ n ih =>
                intro i hi h
                rw [mapR] at h
                rcases List.mem_cons.1 h with h | h
                · exact ⟨i, by omega, h⟩
                · exact ih (i + 1) (by omega) h
            exact key _ _ (Nat.zero_add _) hl
          exact rowP_app (rowsP_get hm hi) ⟨by rw [List.length_set, List.length_replicate], fun j => rep_set _ _ _⟩
        · exact rowP_app hv ⟨List.length_replicate, fun j => by
            rw [List.getD, List.getElem?_replicate]
            split <;> exact fok0⟩
      have h2 : ∀ (n a : Nat) (s : List (List Int) × List Int), RowsP (4 + m.length) s.1 → RowP (4 + m.length) s.2 → RowP (4 + m.length) (byAL m.length a n s).2 := by
        intro n
        induction n with
        | zero => intro a s _ h; exact h
        | succ n ih =>
          intro a s g1 g2
          rw [byAL]
          obtain ⟨q1, q2, _⟩ := byIL_ok (lead := a) (m := m.length) (n := m.length) (i := 0) g1 g2
          exact ih _ _ q1 q2
      have := (h2 4 0 _ h1.1 h1.2).len
      rw [List.length_drop, byR]
      omega
    · rw [cond_true, scaleL]
      exact mapR_ok fun j => fok_mod _
theorem getD_snocI {l : List Int} {x : Int} (h : ∀ i, FOk (l.getD i 0)) (hx : FOk x) (i : Nat) : FOk ((l ++ [x]).getD i 0) := by
  rw [List.getD, List.getElem?_append]
  split
  · exact h i
  · cases hi : i - l.length with
    | zero => exact hx
    | succ k => exact fok0
theorem l36 (kind : Int) (hk : inB kind 1 2 = true) (vals : List Int) (hv : ValsP vals) (there : List Bool) (h8 : there.length = 8) : ∀ (n a : Nat) (rows : List (List Int)) (got : List Int), a + n = 8 → rows.length ≤ a → rows.length = got.length → RowsP 4 rows → (∀ i, FOk (got.getD i 0)) → fitsW kind there a n rows = true →
    FL E H36 Tryz.f36 0 [.one (.bool (fitsQ kind vals there a n rows got))] [] 0 (S36_L0 kind vals there (a : Int) rows got)
  | 0, a, rows, got, h, hl, hg, hr, hgo, hw => by
    refine FL_of1 ?_
    rw [eq36_L0]
    exact Br_f (by omega) ⟨rfl, rfl⟩
  | n + 1, a, rows, got, h, hl, hg, hr, hgo, hw => by
    have hvl := hv.1
    have hrow : RowP 4 (rowV kind (a : Int)).l := rowP_v (rowV_ok _ _)
    refine FL_of1 ?_
    rw [eq36_L0, wS (i := a) (by omega), fitsQ]
    simp only [Int.toNat_natCast]
    rw [fitsW] at hw
    refine Br_t (by omega) (Ck_d (by omega) (Ck_d (by omega) (Br_nb (fun e => ?_) (fun e => ?_))))
    · rw [e, Bool.not_false, cond_true] at hw
      rw [e, Bool.not_false, cond_true]
      exact l36 kind hk vals hv there h8 n (a + 1) rows got (by omega) (by omega) hg hr hgo hw
    · rw [e, Bool.not_true, cond_false, Bool.and_eq_true, Bool.and_eq_true, decide_eq_true_iff] at hw
      rw [e, Bool.not_true, cond_false]
      refine ⟨_, c64 kind (a : Int) hk (by omega) (by omega), _, c65 rows _ hr hrow (by omega) hw.1, Br_b (fun e2 => ?_) (fun e2 => ?_)⟩
      · rw [e2, cond_true] at hw
        rw [e2, cond_true]
        obtain ⟨k, hk8, hb⟩ := byL_p hr hrow (by omega)
        refine ⟨(_, _), c66 rows _ hr hrow (by omega), ?_⟩
        refine l36_1 kind vals hv there a (by omega) rows got _ hb (by omega) hgo (by omega) _ _ 0 0 (Nat.zero_add _) fok0 ?_
        refine Br_nd (fun e3 => ?_) (fun e3 => ?_)
        · rw [accQ, decide_eq_false e3]; exact ⟨rfl, rfl⟩
        · rw [accQ, decide_eq_true e3, cond_true]
          exact l36 kind hk vals hv there h8 n (a + 1) rows got (by omega) (by omega) hg hr hgo hw.2.2
      · rw [e2, cond_false] at hw
        rw [e2, cond_false]
        refine Ck_room (by omega) (Ck_d (by omega) (Ck_d (by omega) (Ck_room (by omega) ?_)))
        refine l36 kind hk vals hv there h8 n (a + 1) _ _ (by omega) (by simp; omega) (by simp [hg]) ?_ (getD_snocI hgo (hv.2 _)) hw.2.2
        intro l hl'
        rcases List.mem_append.1 hl' with hl' | hl'
        · exact hr l hl'
        · rw [List.mem_singleton] at hl'; rw [hl']; exact hrow
theorem c36 (kind : Int) (hk : inB kind 1 2 = true) (vals : List Int) (hv : ValsP vals) (there : List Bool) (h8 : there.length = 8) : SC P 36 [.one (.int .i64 kind), .one (.ro (.int .i64) vals), .one (.ro .bool there)] [] [.one (.bool (fitsI kind vals (flagF there)))] [] := by
  refine SC_of_FB (H := H36) E_ok Tryz.func36 (by kernel_rfl) ?_
  rw [eq36]
  rw [← same_fits hk h8 hv.2]
  exact l36 kind hk vals hv there h8 8 0 [] [] rfl (Nat.le_refl _) rfl (fun l h => by cases h) (fun i => by rw [getD_out (by simp)]; exact fok0) (spec_s hk h8).fw
/-! loop.example/keelson/spec.l13From -/
def H76 : Hint := ⟨[[(0, 0, .bool), (1, 0, .bool), (5, 0, .bool), (6, 0, .bool)], [(5, 0, .bool), (7, 0, .bool), (8, 0, .bool), (9, 0, .bool)]], [], [], [], [], [], []⟩
def S76_L0 (kind0 : Int) (there1 : List Bool) (i6 : Int) (h0 : List Int) : St := ⟨[(0, .w (.one (.int .i64 kind0))), (1, .w (.one (.ro .bool there1))), (5, .w (.one (.sl 0 none))), (6, .w (.one (.int .i64 i6)))], [.row (.int .i64) h0 .own]⟩
def S76_L1 (i9 : Int) (h0 : List Int) (h1 : List Int) (h2 : List Int) : St := ⟨[(5, .w (.one (.sl 0 none))), (7, .w (.one (.sl 1 none))), (8, .w (.one (.sl 2 none))), (9, .w (.one (.int .i64 i9)))], [.row (.int .i64) h0 .own, .row (.int .i64) h1 .own, .row (.int .i64) h2 .own]⟩
theorem eq76 (kind : Int) (there : List Bool) (r : List W) (lh : Heap) : FB E H76 Tryz.f76 [.one (.int .i64 kind), .one (.ro .bool there)] [] r lh =
  (
   FL E H76 Tryz.f76 0 r lh 0 (S76_L0 kind there 0 [])) := by kernel_rfl
theorem eq76_L0 (kind0 : Int) (there1 : List Bool) (i6 : Int) (h0 : List Int) (r : List W) (lh : Heap) : FL1 E H76 Tryz.f76 0 r lh 0 (S76_L0 kind0 there1 i6 h0) =
  (
   Br (decide (i6 < (8 : Int))) (
    Ck (decide ((0 : Int) ≤ i6)) (
     Ck (decide (i6 < ((there1.length : Nat) : Int))) (
      Br (there1.getD i6.toNat false) (
       Ck (Nat.ble ((h0.length + 1) * 8) roomy) (
        FL E H76 Tryz.f76 0 r lh 0 (S76_L0 kind0 there1 (IntKind.wrap .i64 (i6 + 1)) (h0 ++ [i6])))) (
       FL E H76 Tryz.f76 0 r lh 0 (S76_L0 kind0 there1 (IntKind.wrap .i64 (i6 + 1)) h0))))) (
    ∃ r0 : List (List Int), SC P 74 [.one (.int .i64 kind0), .one (.ro .bool there1)] [] [.one (.ro (.sl (.int .i64)) r0)] [] ∧
     ∃ r1 : List Int, SC P 103 [.one (.ro (.sl (.int .i64)) r0)] [] [.one (.sl 0 none)] [.row (.int .i64) r1 .own] ∧
      FL E H76 Tryz.f76 0 r lh 1 (S76_L1 0 h0 r1 []))) := by kernel_rfl
theorem eq76_L1 (i9 : Int) (h0 : List Int) (h1 : List Int) (h2 : List Int) (r : List W) (lh : Heap) : FL1 E H76 Tryz.f76 0 r lh 1 (S76_L1 i9 h0 h1 h2) =
  (
   Br (decide (i9 < ((h1.length : Nat) : Int))) (
    Ck (decide ((0 : Int) ≤ i9)) (
     Ck (decide (i9 < ((h1.length : Nat) : Int))) (
      Ck (Nat.ble (i9.toNat + 1) h1.length) (
       Ck (decide ((0 : Int) ≤ (h1.getD i9.toNat 0))) (
        Ck (decide ((h1.getD i9.toNat 0) < ((h0.length : Nat) : Int))) (
         Ck (Nat.ble ((h1.getD i9.toNat 0).toNat + 1) h0.length) (
          Ck (Nat.ble ((h2.length + 1) * 8) roomy) (
           FL E H76 Tryz.f76 0 r lh 1 (S76_L1 (IntKind.wrap .i64 (i9 + 1)) h0 h1 (h2 ++ [(h0.getD (h1.getD i9.toNat 0).toNat 0)])))))))))) (
    Ret r lh [.one (.sl 0 none)] [.row (.int .i64) h2 .own])) := by kernel_rfl
theorem l76_1 (piv p : List Int) (hp : ∀ x ∈ piv, 0 ≤ x ∧ x < (p.length : Int)) (h8 : piv.length ≤ 1000) : ∀ (n i : Nat) (out : List Int), i + n = piv.length → out.length = i →
    FL E H76 Tryz.f76 0 [.one (.sl 0 none)] [.row (.int .i64) (out ++ (piv.drop i).map (fun i => p.getD i.toNat 0)) .own] 1 (S76_L1 (i : Int) p piv out)
  | 0, i, out, h, ho => by
    refine FL_of1 ?_
    rw [eq76_L1, List.drop_eq_nil_of_le (by omega)]
    exact Br_f (by omega) ⟨rfl, by rw [List.map_nil, List.append_nil]⟩
  | n + 1, i, out, h, ho => by
    have hi : i < piv.length := by omega
    obtain ⟨g0, g1⟩ : 0 ≤ piv.getD i 0 ∧ piv.getD i 0 < (p.length : Int) := by rw [getD_eq hi]; exact hp _ (List.getElem_mem hi)
    have hdr : piv.drop i = piv.getD i 0 :: piv.drop (i + 1) := by rw [getD_eq hi]; exact drop_cons hi
    refine FL_of1 ?_
    rw [eq76_L1, wS (i := i) (by omega), hdr, List.map_cons]
    simp only [Int.toNat_natCast]
    refine Br_t (by omega) (Ck_d (by omega) (Ck_d (by omega) (Ck_le (by omega) (Ck_d (by omega) (Ck_d (by omega) (Ck_le (by omega) (Ck_room (by omega) ?_)))))))
    have := l76_1 piv p hp h8 n (i + 1) (out ++ [p.getD (piv.getD i 0).toNat 0]) (by omega) (by simp; omega)
    rw [List.append_assoc] at this
    exact this
theorem l76 (kind : Int) (hk : inB kind 1 2 = true) (there : List Bool) (h8 : there.length = 8) : ∀ (n i : Nat) (out : List Int), i + n = 8 → out.length ≤ i → out ++ filterR (fun j => there.getD j false) (fun j => (j : Int)) i n = flagF there →
    FL E H76 Tryz.f76 0 [.one (.sl 0 none)] [.row (.int .i64) (fromI kind (flagF there)) .own] 0 (S76_L0 kind there (i : Int) out)
  | 0, i, out, h, ho, e => by
    rw [filterR, List.append_nil] at e
    have hl := rowsL_len (kind := kind) h8
    have S := spec_s hk h8
    refine FL_of1 ?_
    rw [eq76_L0]
    refine Br_f (by omega) ⟨_, c74 kind hk there h8, _, c103 _ rowsL_p (by omega) S.well, ?_⟩
    rw [S.first, e]
    have hpl := spanF_len (rowsF kind (flagF there))
    have hrl : (rowsF kind (flagF there)).length = (flagF there).length := List.length_map _
    have hf8 := (flag_ok h8).len
    have := l76_1 (spanF (rowsF kind (flagF there))).2 (flagF there) (fun x hx => by have := span_piv' _ x hx; rw [hrl] at this; exact this) (by omega) _ 0 [] (Nat.zero_add _) rfl
    exact this
  | n + 1, i, out, h, ho, e => by
    refine FL_of1 ?_
    rw [eq76_L0, wS (i := i) (by omega)]
    simp only [Int.toNat_natCast]
    rw [filterR] at e
    refine Br_t (by omega) (Ck_d (by omega) (Ck_d (by omega) (Br_b (fun e2 => ?_) (fun e2 => ?_))))
    · rw [e2, cond_true] at e
      exact Ck_room (by omega) (l76 kind hk there h8 n (i + 1) (out ++ [(i : Int)]) (by omega) (by simp; omega) (by rw [List.append_assoc]; exact e))
    · rw [e2, cond_false] at e
      exact l76 kind hk there h8 n (i + 1) out (by omega) (by omega) e
theorem c76 (kind : Int) (hk : inB kind 1 2 = true) (there : List Bool) (h8 : there.length = 8) : SC P 76 [.one (.int .i64 kind), .one (.ro .bool there)] [] [.one (.sl 0 none)] [.row (.int .i64) (fromI kind (flagF there)) .own] := by
  refine SC_of_FB (H := H76) E_ok Tryz.func76 (by kernel_rfl) ?_
  rw [eq76]
  exact l76 kind hk there h8 8 0 [] rfl (Nat.le_refl _) (by rw [flagF, h8]; rfl)

/-! loop.example/keelson/spec.VecUnit -/
def H102 : Hint := ⟨[], [], [], [], [], [], []⟩
theorem eq102 (at0 : Int) (r : List W) (lh : Heap) : FB E H102 Tryz.f102 [.one (.int .i64 at0)] [] r lh =
  (
   ∃ r0 : Bool, SC P 35 [.one (.int .i64 at0), .one (.int .i64 0), .one (.int .i64 3)] [] [.one (.bool r0)] [] ∧
    Br (!r0) (
     Ret r lh [.one (.sl 0 none), .one (.bool false)] [.row (.int .i64) [] .own]) (
     Ck (decide ((0 : Int) ≤ at0)) (
      Ck (decide (at0 < (4 : Int))) (
       Ck (Nat.ble (at0.toNat + 1) 4) (
        Ret r lh [.one (.sl 0 none), .one (.bool true)] [.row (.int .i64) ([0, 0, 0, 0].set at0.toNat 1) .own]))))) := by kernel_rfl
theorem c102 (i : Nat) (h : i < 4) : SC P 102 [.one (.int .i64 (i : Int))] [] [.one (.sl 0 none), .one (.bool true)] [.row (.int .i64) (unitF (i : Int)).l .own] := by
  refine SC_of_FB (H := H102) E_ok Tryz.func102 (by kernel_rfl) ?_
  rw [eq102]
  have hb : inB (i : Int) 0 3 = true := inB_iff.2 ⟨by omega, by omega⟩
  refine ⟨_, c35 _ _ _, ?_⟩
  rw [hb]
  simp only [Int.toNat_natCast]
  refine Br_nb (fun e => by cases e) (fun _ => Ck_d (by omega) (Ck_d (by omega) (Ck_le (by omega) ⟨rfl, ?_⟩)))
  have : i = 0 ∨ i = 1 ∨ i = 2 ∨ i = 3 := by omega
  rcases this with rfl | rfl | rfl | rfl <;> rfl
/-! loop.example/keelson/spec.l13Data -/
def H75 : Hint := ⟨[[(0, 0, .bool), (1, 0, .bool), (2, 0, .bool), (7, 0, .bool), (8, 0, .bool)], [(1, 0, .bool), (2, 0, .bool), (7, 0, .bool), (9, 0, .bool), (10, 0, .bool)], [(1, 0, .bool), (2, 0, .bool), (7, 0, .bool), (9, 0, .bool), (10, 0, .bool), (13, 0, .bool), (15, 0, .bool), (16, 0, .bool)]], [], [(16, [0, 1, 2, 3, 4, 5, 6, 7, 8, 9, 10, 11, 12, 13, 14, 15])], [], [], [], []⟩
def S75_L0 (kind0 : Int) (vals1 : List Int) (x2 : List Int) (i8 : Int) (h0 : List (List Int)) : St := ⟨[(0, .w (.one (.int .i64 kind0))), (1, .w (.one (.ro (.int .i64) vals1))), (2, .w (.one (.ro (.int .i64) x2))), (7, .w (.one (.sl 0 none))), (8, .w (.one (.int .i64 i8)))], [.row (.sl (.int .i64)) h0 .own]⟩
def S75_L1 (vals1 : List Int) (x2 : List Int) (i10 : Int) (h0 : List (List Int)) (h1 : List Int) : St := ⟨[(1, .w (.one (.ro (.int .i64) vals1))), (2, .w (.one (.ro (.int .i64) x2))), (7, .w (.one (.sl 0 none))), (9, .w (.one (.sl 1 none))), (10, .w (.one (.int .i64 i10)))], [.row (.sl (.int .i64)) h0 .own, .row (.int .i64) h1 .own]⟩
def S75_L2 (vals1 : List Int) (x2 : List Int) (i10 : Int) (n15 : Int) (k16 : Int) (h0 : List (List Int)) (h1 : List Int) (h2 : List Int) : St := ⟨[(1, .w (.one (.ro (.int .i64) vals1))), (2, .w (.one (.ro (.int .i64) x2))), (7, .w (.one (.sl 0 none))), (9, .w (.one (.sl 1 none))), (10, .w (.one (.int .i64 i10))), (13, .w (.one (.sl 2 none))), (15, .w (.one (.int .i64 n15))), (16, .w (.one (.int .i64 k16)))], [.row (.sl (.int .i64)) h0 .own, .row (.int .i64) h1 .own, .row (.int .i64) h2 .own]⟩
theorem eq75 (kind : Int) (vals : List Int) (from0 : List Int) (r : List W) (lh : Heap) : FB E H75 Tryz.f75 [.one (.int .i64 kind), .one (.ro (.int .i64) vals), .one (.ro (.int .i64) from0)] [] r lh =
  (
   FL E H75 Tryz.f75 0 r lh 0 (S75_L0 kind vals from0 0 [])) := by kernel_rfl
theorem eq75_L0 (kind0 : Int) (vals1 : List Int) (x2 : List Int) (i8 : Int) (h0 : List (List Int)) (r : List W) (lh : Heap) : FL1 E H75 Tryz.f75 0 r lh 0 (S75_L0 kind0 vals1 x2 i8 h0) =
  (
   Br (decide (i8 < ((x2.length : Nat) : Int))) (
    Ck (decide ((0 : Int) ≤ i8)) (
     Ck (decide (i8 < ((x2.length : Nat) : Int))) (
      ∃ r0 : List Int, SC P 64 [.one (.int .i64 kind0), .one (.int .i64 (x2.getD i8.toNat 0))] [] [.one (.ro (.int .i64) r0)] [] ∧
       Ck (Nat.ble ((h0.length + 1) * 24) roomy) (
        FL E H75 Tryz.f75 0 r lh 0 (S75_L0 kind0 vals1 x2 (IntKind.wrap .i64 (i8 + 1)) (h0 ++ [r0])))))) (
    FL E H75 Tryz.f75 0 r lh 1 (S75_L1 vals1 x2 0 h0 []))) := by kernel_rfl
theorem eq75_L1 (vals1 : List Int) (x2 : List Int) (i10 : Int) (h0 : List (List Int)) (h1 : List Int) (r : List W) (lh : Heap) : FL1 E H75 Tryz.f75 0 r lh 1 (S75_L1 vals1 x2 i10 h0 h1) =
  (
   Br (decide (i10 < (4 : Int))) (
    ∃ r0 : List Int × Bool, SC P 102 [.one (.int .i64 i10)] [] [.one (.sl 0 none), .one (.bool r0.2)] [.row (.int .i64) r0.1 .own] ∧
     ∃ r1 : List Int × Bool, SC P 66 [.one (.ro (.sl (.int .i64)) h0), .one (.ro (.int .i64) r0.1)] [] [.one (.sl 0 none), .one (.bool r1.2)] [.row (.int .i64) r1.1 .own] ∧
      FL E H75 Tryz.f75 0 r lh 2 (S75_L2 vals1 x2 i10 0 0 h0 h1 r1.1)) (
    Ret r lh [.one (.sl 0 none)] [.row (.int .i64) h1 .own])) := by kernel_rfl
theorem eq75_L2 (vals1 : List Int) (x2 : List Int) (i10 : Int) (n15 : Int) (k16 : Int) (h0 : List (List Int)) (h1 : List Int) (h2 : List Int) (r : List W) (lh : Heap) : FL1 E H75 Tryz.f75 0 r lh 2 (S75_L2 vals1 x2 i10 n15 k16 h0 h1 h2) =
  (
   Br (decide (k16 < ((x2.length : Nat) : Int))) (
    Ck (decide ((0 : Int) ≤ k16)) (
     Ck (decide (k16 < ((h2.length : Nat) : Int))) (
      Ck (Nat.ble (k16.toNat + 1) h2.length) (
       Ck (decide ((0 : Int) ≤ k16)) (
        Ck (decide (k16 < ((x2.length : Nat) : Int))) (
         Ck (decide ((0 : Int) ≤ (x2.getD k16.toNat 0))) (
          Ck (decide ((x2.getD k16.toNat 0) < ((vals1.length : Nat) : Int))) (
           FL E H75 Tryz.f75 0 r lh 2 (S75_L2 vals1 x2 i10 (Int.tmod (IntKind.wrap .i64 (n15 + (IntKind.wrap .i64 ((h2.getD k16.toNat 0) * (vals1.getD (x2.getD k16.toNat 0).toNat 0))))) 31) (IntKind.wrap .i64 (k16 + 1)) h0 h1 h2))))))))) (
    Ck (Nat.ble ((h1.length + 1) * 8) roomy) (
     FL E H75 Tryz.f75 0 r lh 1 (S75_L1 vals1 x2 (IntKind.wrap .i64 (i10 + 1)) h0 (h1 ++ [n15]))))) := by kernel_rfl
theorem l75_2 (R : List W) (hp : Heap) (vals p : List Int) (hv : ValsP vals) (hs : ShOk p) (hl : p.length ≤ 8) (rows : List (List Int)) (b : List Int) {m : Nat} (hb : RowP m b) (hm : m ≤ 100) (hbl : b.length = p.length) (l : Nat) (hl4 : l < 4) (out : List Int) (ho : out.length ≤ 8) : ∀ (n k : Nat) (acc : Int), k + n = p.length → FOk acc →
    FL E H75 Tryz.f75 0 R hp 1 (S75_L1 vals p ((l + 1 : Nat) : Int) rows (out ++ [qR (fun k => b.getD k 0 * vals.getD (p.getD k 0).toNat 0) k n acc])) → FL E H75 Tryz.f75 0 R hp 2 (S75_L2 vals p (l : Int) acc (k : Int) rows out b)
  | 0, k, acc, h, hacc, hF => by
    refine FL_of1 ?_
    rw [eq75_L2, wS (i := l) (by omega)]
    exact Br_f (by omega) (Ck_room (by omega) hF)
  | n + 1, k, acc, h, hacc, hF => by
    obtain ⟨g0, g1⟩ := shok_get hs (show k < p.length by omega)
    have h1 := fok_mul (hb.ok k) (hv.2 (p.getD k 0).toNat)
    have := hacc.1; have := hacc.2; have := hv.1
    refine FL_of1 ?_
    rw [eq75_L2, wS (i := k) (by omega)]
    simp only [Int.toNat_natCast]
    rw [wrap64 (n := b.getD k 0 * _) (by omega) (by omega), wrap64 (n := acc + _) (by omega) (by omega), Int.tmod_eq_emod_of_nonneg (by omega)]
    exact Br_t (by omega) (Ck_d (by omega) (Ck_d (by omega) (Ck_le (by omega) (Ck_d (by omega) (Ck_d (by omega) (Ck_d (by omega) (Ck_d (by omega) (l75_2 R hp vals p hv hs hl rows b hb hm hbl l hl4 out ho n (k + 1) _ (by omega) (fok_mod _) hF))))))))
theorem l75_1 (vals p : List Int) (hv : ValsP vals) (hs : ShOk p) (hl : p.length ≤ 8) (rows : List (List Int)) (hr : RowsP 4 rows) (hrl : rows.length = p.length) (hby : ∀ l : Nat, l < 4 → (byL rows (unitF (l : Int)).l).length = p.length) : ∀ (n l : Nat) (out : List Int), l + n = 4 → out.length = l →
    FL E H75 Tryz.f75 0 [.one (.sl 0 none)] [.row (.int .i64) (out ++ mapR (fun l => qR (fun k => (byL rows (unitF (l : Int)).l).getD k 0 * vals.getD (p.getD k 0).toNat 0) 0 p.length 0) l n) .own] 1 (S75_L1 vals p (l : Int) rows out)
  | 0, l, out, h, ho => by
    refine FL_of1 ?_
    rw [eq75_L1]
    exact Br_f (by omega) ⟨rfl, by rw [mapR, List.append_nil]⟩
  | n + 1, l, out, h, ho => by
    obtain ⟨k, hk8, hb⟩ := byL_p hr (rowP_v (unitF_ok (l : Int))) (by omega)
    refine FL_of1 ?_
    rw [eq75_L1, mapR]
    refine Br_t (by omega) ⟨(_, _), c102 l (by omega), (_, _), c66 rows _ hr (rowP_v (unitF_ok _)) (by omega), ?_⟩
    have := l75_1 vals p hv hs hl rows hr hrl hby n (l + 1) (out ++ [qR (fun k => (byL rows (unitF (l : Int)).l).getD k 0 * vals.getD (p.getD k 0).toNat 0) 0 p.length 0]) (by omega) (by simp; omega)
    rw [List.append_assoc] at this
    exact l75_2 _ _ vals p hv hs hl rows _ hb (by omega) (hby l (by omega)) l (by omega) out (by omega) p.length 0 0 (Nat.zero_add _) fok0 this
theorem l75 (kind : Int) (hk : inB kind 1 2 = true) (vals p : List Int) (hv : ValsP vals) (hs : ShOk p) (hl : p.length ≤ 8) (hby : ∀ l : Nat, l < 4 → (byL (rowsL kind p) (unitF (l : Int)).l).length = p.length) : ∀ (n i : Nat) (out : List (List Int)), i + n = p.length → out.length = i → out ++ (p.drop i).map (fun i => (rowV kind i).l) = rowsL kind p →
    FL E H75 Tryz.f75 0 [.one (.sl 0 none)] [.row (.int .i64) (dataS kind vals p) .own] 0 (S75_L0 kind vals p (i : Int) out)
  | 0, i, out, h, ho, e => by
    rw [List.drop_eq_nil_of_le (by omega), List.map_nil, List.append_nil] at e
    refine FL_of1 ?_
    rw [eq75_L0, e]
    exact Br_f (by omega) (l75_1 vals p hv hs hl _ rowsL_p (List.length_map _) hby 4 0 [] rfl rfl)
  | n + 1, i, out, h, ho, e => by
    have hi : i < p.length := by omega
    obtain ⟨g0, g1⟩ := shok_get hs hi
    have hdr : p.drop i = p.getD i 0 :: p.drop (i + 1) := by rw [getD_eq hi]; exact drop_cons hi
    rw [hdr, List.map_cons] at e
    refine FL_of1 ?_
    rw [eq75_L0, wS (i := i) (by omega)]
    simp only [Int.toNat_natCast]
    exact Br_t (by omega) (Ck_d (by omega) (Ck_d (by omega) ⟨_, c64 kind _ hk g0 g1, Ck_room (by omega) (l75 kind hk vals p hv hs hl hby n (i + 1) _ (by omega) (by simp; omega) (by rw [List.append_assoc]; exact e))⟩))
theorem c75 (kind : Int) (hk : inB kind 1 2 = true) (vals p : List Int) (hv : ValsP vals) (hs : ShOk p) (hl : p.length ≤ 8) (hby : ∀ l : Nat, l < 4 → (byL (rowsL kind p) (unitF (l : Int)).l).length = p.length) : SC P 75 [.one (.int .i64 kind), .one (.ro (.int .i64) vals), .one (.ro (.int .i64) p)] [] [.one (.sl 0 none)] [.row (.int .i64) (dataS kind vals p) .own] := by
  refine SC_of_FB (H := H75) E_ok Tryz.func75 (by kernel_rfl) ?_
  rw [eq75]
  exact l75 kind hk vals p hv hs hl hby p.length 0 [] (by omega) rfl rfl
/-! loop.example/keelson/spec.l13Read -/
def H46 : Hint := ⟨[], [], [], [], [], [], []⟩
theorem eq46 (kind : Int) (vals : List Int) (there : List Bool) (r : List W) (lh : Heap) : FB E H46 Tryz.f46 [.one (.int .i64 kind), .one (.ro (.int .i64) vals), .one (.ro .bool there)] [] r lh =
  (
   ∃ r0 : Bool, SC P 45 [.one (.int .i64 kind), .one (.ro .bool there)] [] [.one (.bool r0)] [] ∧
    Br (!r0) (
     Ret r lh [.one (.sl 0 none), .one (.bool false)] [.row (.int .i64) [] .own]) (
     ∃ r1 : Bool, SC P 36 [.one (.int .i64 kind), .one (.ro (.int .i64) vals), .one (.ro .bool there)] [] [.one (.bool r1)] [] ∧
      Br (!r1) (
       Ret r lh [.one (.sl 0 none), .one (.bool false)] [.row (.int .i64) [] .own]) (
       ∃ r2 : List Int, SC P 76 [.one (.int .i64 kind), .one (.ro .bool there)] [] [.one (.sl 0 none)] [.row (.int .i64) r2 .own] ∧
        ∃ r3 : List Int, SC P 75 [.one (.int .i64 kind), .one (.ro (.int .i64) vals), .one (.ro (.int .i64) r2)] [] [.one (.sl 0 none)] [.row (.int .i64) r3 .own] ∧
         Ret r lh [.one (.sl 0 none), .one (.bool true)] [.row (.int .i64) r3 .own]))) := by kernel_rfl
theorem from_sh {kind : Int} {there : List Bool} (h8 : there.length = 8) : ShOk (fromI kind (flagF there)) := by
  intro x hx
  obtain ⟨i, hi, rfl⟩ := List.mem_map.1 hx
  have h1 := span_piv' _ i hi
  have hrl : (rowsF kind (flagF there)).length = (flagF there).length := List.length_map _
  exact shok_get (flag_ok h8).range (by omega)
theorem c46 (kind : Int) (hk : inB kind 1 2 = true) (vals : List Int) (hv : ValsP vals) (there : List Bool) (h8 : there.length = 8) : SC P 46 [.one (.int .i64 kind), .one (.ro (.int .i64) vals), .one (.ro .bool there)] [] [.one (.sl 0 none), .one (.bool (readOk kind vals (flagF there)))] [.row (.int .i64) (readL kind vals (flagF there)) .own] := by
  refine SC_of_FB (H := H46) E_ok Tryz.func46 (by kernel_rfl) ?_
  rw [eq46]
  have hcb : codeBears kind there = bearsI kind (flagF there) := by rw [codeBears, hk, decide_eq_true h8]; rfl
  refine ⟨_, c45 kind there, ?_⟩
  rw [hcb]
  refine Br_nb (fun e => ⟨by rw [readOk, e]; rfl, by rw [readL, readOk, e]; rfl⟩) (fun e => ⟨_, c36 kind hk vals hv there h8, Br_nb (fun e2 => ⟨by rw [readOk, e, e2]; rfl, by rw [readL, readOk, e, e2]; rfl⟩) (fun e2 => ?_)⟩)
  obtain ⟨d1, d2⟩ := (spec_s hk h8).data e
  refine ⟨_, c76 kind hk there h8, _, c75 kind hk vals _ hv (from_sh h8) (by omega) (fun l hl => by rw [(d2 l hl).1, d1]), by rw [readOk, e, e2]; rfl, ?_⟩
  rw [same_data hk h8 e, readL, readOk, e, e2]
  rfl

/-! ## ShS3 -/
def findQ (kind : Int) (vals : List Int) (there : List Bool) : Nat → Nat → Int → Int
  | _, 0, found => found
  | a, n + 1, found => bif there.getD a false && fitsI kind vals (flagF (there.set a false)) then (bif decide (0 ≤ found) then -2 else findQ kind vals there (a + 1) n (a : Int)) else findQ kind vals there (a + 1) n found
theorem find_same {kind : Int} {vals : List Int} {there : List Bool} (h8 : there.length = 8) : ∀ (n a idx : Nat) (found : Int), (flagF there).drop idx = filterR (fun j => there.getD j false) (fun j => (j : Int)) a n → idx ≤ (flagF there).length →
    findQ kind vals there a n found = findS kind vals (flagF there) idx ((flagF there).length - idx) found
  | 0, a, idx, found, hd, hi => by
    rw [filterR] at hd
    have : (flagF there).length - idx = 0 := by
      have := congrArg List.length hd
      rw [List.length_drop, List.length_nil] at this
      exact this
    rw [this, findQ, findS]
  | n + 1, a, idx, found, hd, hi => by
    rw [filterR] at hd
    rw [findQ]
    cases ht : there.getD a false with
    | false =>
      rw [ht, cond_false] at hd
      rw [Bool.false_and, cond_false]
      exact find_same h8 n (a + 1) idx found hd hi
    | true =>
      rw [ht, cond_true] at hd
      have hlt : idx < (flagF there).length := by
        rcases Nat.lt_or_ge idx (flagF there).length with h | h
        · exact h
        · rw [List.drop_eq_nil_of_le h] at hd; cases hd
      rw [drop_cons hlt] at hd
      obtain ⟨e1, e2⟩ := List.cons.inj hd
      have hpa : (flagF there).getD idx 0 = (a : Int) := by rw [getD_eq hlt]; exact e1
      have hls := (flag_ok h8).less idx hlt
      rw [hpa, Int.toNat_natCast] at hls
      rw [Bool.true_and, show (flagF there).length - idx = ((flagF there).length - (idx + 1)) + 1 by omega, findS, hls, hpa]
      cases fitsI kind vals (flagF (there.set a false))
      · rw [cond_false, Bool.not_false, cond_true]
        exact find_same h8 n (a + 1) (idx + 1) found e2 (by omega)
      · rw [cond_true, Bool.not_true, cond_false]
        cases decide (0 ≤ found)
        · exact find_same h8 n (a + 1) (idx + 1) (a : Int) e2 (by omega)
        · rfl

end Go.Proofs.YtjoiadaogppmkaaGreat.Sh
