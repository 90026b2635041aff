/- The one that does not fit: laws. -/
import Derived.Test.YtlebgbcoljnejaaShL1
import Derived.Test.YtlebgbcoljnejaaShS2
namespace Go.Proofs.Ytlebgbcoljnejaa.Sh
open Go
set_option linter.unusedVariables false
set_option linter.unusedSimpArgs false
/-! loop.example/keelson/laws.FnExactReadFind -/
def H13 : Hint := ⟨[], [], [], [], [], [], []⟩
theorem eq13 (aKind : Int) (aVals : List Int) (aThere : List Bool) (r : List W) (lh : Heap) : FB E H13 Try.f13 [.one (.int .i64 aKind), .one (.ro (.int .i64) aVals), .one (.ro .bool aThere)] [] r lh =
  (
   Br (decide ((1048576 : Int) < ((aVals.length : Nat) : Int))) (
    Ret r lh [.one (.bool true)] []) (
    Br (decide ((1048576 : Int) < ((aThere.length : Nat) : Int))) (
     Ret r lh [.one (.bool true)] []) (
     ∃ r0 : List Int, SC P 50 [.one (.ro (.int .i64) aVals)] [] [.one (.sl 0 none)] [.row (.int .i64) r0 .own] ∧
      ∃ r1 : List Bool, SC P 24 [.one (.ro .bool aThere)] [] [.one (.sl 0 none)] [.row .bool r1 .own] ∧
       ∃ r2 : Int, SC P 54 [.one (.int .i64 aKind), .one (.ro (.int .i64) r0), .one (.ro .bool r1)] [] [.one (.int .i64 r2)] [] ∧
        ∃ r3 : List Int, SC P 50 [.one (.ro (.int .i64) aVals)] [] [.one (.sl 0 none)] [.row (.int .i64) r3 .own] ∧
         ∃ r4 : List Bool, SC P 24 [.one (.ro .bool aThere)] [] [.one (.sl 0 none)] [.row .bool r4 .own] ∧
          ∃ r5 : Int, SC P 53 [.one (.int .i64 aKind), .one (.ro (.int .i64) r3), .one (.ro .bool r4)] [] [.one (.int .i64 r5)] [] ∧
           Br (!(decide (r5 = r2))) (
            Ret r lh [.one (.bool false)] []) (
            ∃ r6 : List Int, SC P 50 [.one (.ro (.int .i64) aVals)] [] [.one (.sl 0 none)] [.row (.int .i64) r6 .own] ∧
             ∃ r7 : Bool, SC P 26 [.one (.ro (.int .i64) r3), .one (.ro (.int .i64) r6)] [] [.one (.bool r7)] [] ∧
              Br (!r7) (
               Ret r lh [.one (.bool false)] []) (
               ∃ r8 : List Bool, SC P 24 [.one (.ro .bool aThere)] [] [.one (.sl 0 none)] [.row .bool r8 .own] ∧
                ∃ r9 : Bool, SC P 27 [.one (.ro .bool r4), .one (.ro .bool r8)] [] [.one (.bool r9)] [] ∧
                 Br (!r9) (
                  Ret r lh [.one (.bool false)] []) (
                  Ret r lh [.one (.bool true)] [])))))) := by kernel_rfl
theorem c13 (kind : Int) (vals : List Int) (there : List Bool) : SC P 13 [.one (.int .i64 kind), .one (.ro (.int .i64) vals), .one (.ro .bool there)] [] [.one (.bool true)] [] := by
  refine SC_of_FB (H := H13) E_ok Try.func13 (by kernel_rfl) ?_
  rw [eq13]
  refine Br_d (fun _ => ⟨rfl, rfl⟩) (fun h => Br_d (fun _ => ⟨rfl, rfl⟩) (fun h' => ?_))
  have hv : vals.length ≤ 1048576 := by omega
  have ht : there.length ≤ 1048576 := by omega
  exact ⟨_, c50 vals hv, _, c24 there ht, _, c54 kind vals there hv, _, c50 vals hv, _, c24 there ht, _, c53 kind vals there hv ht, Br_nd (fun e => absurd rfl e) (fun _ => ⟨_, c50 vals hv, _, c26 _ _ hv, Br_nb (fun e => by simp at e) (fun _ => ⟨_, c24 there ht, _, c27 _ _ ht, Br_nb (fun e => by simp at e) (fun _ => ⟨rfl, rfl⟩)⟩)⟩)⟩
theorem findS_found {kind : Int} {vals p : List Int} : ∀ (n i : Nat) (found : Int), 0 ≤ found → (∀ j, i ≤ j → j < i + n → fitsI kind vals (p.take j ++ p.drop (j + 1)) = false) → findS kind vals p i n found = found
  | 0, _, _, _, _ => rfl
  | n + 1, i, found, h0, h => by
    rw [findS, h i (Nat.le_refl _) (by omega), Bool.not_false, cond_true]
    exact findS_found n (i + 1) found h0 fun j h1 h2 => h j (by omega) (by omega)
theorem findS_one {kind : Int} {vals p : List Int} (hp : ∀ j, 0 ≤ p.getD j 0) : ∀ (n i idx : Nat) (found : Int), found < 0 → i ≤ idx → idx < i + n → fitsI kind vals (p.take idx ++ p.drop (idx + 1)) = true → (∀ j, i ≤ j → j < i + n → j ≠ idx → fitsI kind vals (p.take j ++ p.drop (j + 1)) = false) → findS kind vals p i n found = p.getD idx 0
  | 0, i, idx, found, _, h1, h2, _, _ => by omega
  | n + 1, i, idx, found, hf, h1, h2, hy, hn => by
    rw [findS]
    by_cases e : i = idx
    · subst e
      rw [hy, Bool.not_true, cond_false, decide_eq_false (show ¬ (0 ≤ found) by omega), cond_false]
      exact findS_found n (i + 1) _ (hp i) fun j g1 g2 => hn j (by omega) (by omega) (by omega)
    · rw [hn i (Nat.le_refl _) (by omega) e, Bool.not_false, cond_true]
      exact findS_one hp n (i + 1) idx found hf (by omega) (by omega) hy fun j g1 g2 g3 => hn j (by omega) (by omega) g3
theorem findS_inv0 {kind : Int} {vals p : List Int} : ∀ (n i : Nat) (found : Int), 0 ≤ found → 0 ≤ findS kind vals p i n found → findS kind vals p i n found = found ∧ ∀ j, i ≤ j → j < i + n → fitsI kind vals (p.take j ++ p.drop (j + 1)) = false
  | 0, _, _, _, _ => ⟨rfl, fun j h1 h2 => by omega⟩
  | n + 1, i, found, h0, h => by
    rw [findS] at h ⊢
    cases hy : fitsI kind vals (p.take i ++ p.drop (i + 1)) with
    | true =>
      rw [hy, Bool.not_true, cond_false, decide_eq_true h0, cond_true] at h
      omega
    | false =>
      rw [hy, Bool.not_false, cond_true] at h
      rw [Bool.not_false, cond_true]
      obtain ⟨g1, g2⟩ := findS_inv0 n (i + 1) found h0 h
      refine ⟨g1, fun j h1 h2 => ?_⟩
      by_cases e : j = i
      · rw [e]; exact hy
      · exact g2 j (by omega) (by omega)
theorem findS_inv {kind : Int} {vals p : List Int} (hp : ∀ j, 0 ≤ p.getD j 0) : ∀ (n i : Nat) (found : Int), found < 0 → 0 ≤ findS kind vals p i n found → ∃ idx, i ≤ idx ∧ idx < i + n ∧ findS kind vals p i n found = p.getD idx 0 ∧ fitsI kind vals (p.take idx ++ p.drop (idx + 1)) = true ∧ ∀ j, i ≤ j → j < i + n → j ≠ idx → fitsI kind vals (p.take j ++ p.drop (j + 1)) = false
  | 0, i, found, hf, h => by rw [findS] at h; omega
  | n + 1, i, found, hf, h => by
    rw [findS] at h ⊢
    cases hy : fitsI kind vals (p.take i ++ p.drop (i + 1)) with
    | true =>
      rw [hy, Bool.not_true, cond_false, decide_eq_false (show ¬ (0 ≤ found) by omega), cond_false] at h
      rw [Bool.not_true, cond_false, decide_eq_false (show ¬ (0 ≤ found) by omega), cond_false]
      obtain ⟨g1, g2⟩ := findS_inv0 n (i + 1) _ (hp i) h
      exact ⟨i, Nat.le_refl _, by omega, g1, hy, fun j h1 h2 h3 => g2 j (by omega) (by omega)⟩
    | false =>
      rw [hy, Bool.not_false, cond_true] at h
      rw [Bool.not_false, cond_true]
      obtain ⟨idx, g1, g2, g3, g4, g5⟩ := findS_inv hp n (i + 1) found hf h
      refine ⟨idx, by omega, by omega, g3, g4, fun j h1 h2 h3 => ?_⟩
      by_cases e : j = i
      · rw [e]; exact hy
      · exact g5 j (by omega) (by omega) h3
theorem flag_nn {there : List Bool} (h8 : there.length = 8) (j : Nat) : 0 ≤ (flagF there).getD j 0 := by
  by_cases h : j < (flagF there).length
  · exact (shok_get (flag_ok h8).range h).1
  · rw [getD_out (by omega)]; exact Int.le_refl _
theorem readFind_neg {kind : Int} {vals : List Int} {there : List Bool} : readFind kind vals there = -1 ↔ codeFits kind vals there = true := by
  have key : ∀ (n i : Nat) (found : Int), found ≠ -1 → (∀ j, 0 ≤ (flagF there).getD j 0) → findS kind vals (flagF there) i n found ≠ -1 := by
    intro n
    induction n with
    | zero => intro i found h _; exact h
    | succ n ih =>
      intro i found h hp
      rw [findS]
      cases fitsI kind vals ((flagF there).take i ++ (flagF there).drop (i + 1))
      · exact ih _ _ h hp
      · rw [Bool.not_true, cond_false]
        cases decide (0 ≤ found)
        · exact ih _ _ (by have := hp i; omega) hp
        · rw [cond_true]; omega
  rw [readFind, codeFits]
  cases h1 : inB kind 1 2
  · simp
  cases h2 : valsOk vals
  · simp
  by_cases h3 : there.length = 8
  · rw [decide_eq_true h3]
    cases h4 : fitsI kind vals (flagF there)
    · simp only [Bool.and_self, cond_true, cond_false, Bool.true_and, Bool.false_eq_true, iff_false]
      exact key _ _ _ (by omega) (flag_nn h3)
    · simp
  · rw [decide_eq_false h3]; simp
/-! loop.example/keelson/laws.FnFindFits -/
def H14 : Hint := ⟨[[(3, 0, .bool), (4, 0, .bool), (5, 0, .bool), (6, 0, .bool), (8, 0, .bool)]], [], [], [], [], [], []⟩
def S14_L0 (kind3 : Int) (there5 : List Bool) (x6 : Int) (i8 : Int) (h0 : List Int) : St := ⟨[(3, .w (.one (.int .i64 kind3))), (4, .w (.one (.sl 0 none))), (5, .w (.one (.ro .bool there5))), (6, .w (.one (.int .i64 x6))), (8, .w (.one (.int .i64 i8)))], [.row (.int .i64) h0 .own]⟩
theorem eq14 (code : List Int) (r : List W) (lh : Heap) : FB E H14 Try.f14 [.one (.ro (.int .u8) code)] [] r lh =
  (
   Br (decide ((1048576 : Int) < ((code.length : Nat) : Int))) (
    Ret r lh [.one (.bool true)] []) (
    ∃ r0 : Int × List Int × List Bool, SC P 55 [.one (.ro (.int .u8) code)] [] [.one (.int .i64 r0.1), .one (.sl 0 none), .one (.ro .bool r0.2.2)] [.row (.int .i64) r0.2.1 .own] ∧
     ∃ r1 : Int, SC P 53 [.one (.int .i64 r0.1), .one (.ro (.int .i64) r0.2.1), .one (.ro .bool r0.2.2)] [] [.one (.int .i64 r1)] [] ∧
      ∃ r2 : Int, SC P 54 [.one (.int .i64 r0.1), .one (.ro (.int .i64) r0.2.1), .one (.ro .bool r0.2.2)] [] [.one (.int .i64 r2)] [] ∧
       Br (!(decide (r1 = r2))) (
        ∃ r3 : Int, SC P 54 [.one (.int .i64 r0.1), .one (.ro (.int .i64) r0.2.1), .one (.ro .bool r0.2.2)] [] [.one (.int .i64 r3)] [] ∧
         Ret r lh [.one (.bool (decide (r1 = r3)))] []) (
        Br (!(decide (((r0.2.2.length : Nat) : Int) = (8 : Int)))) (
         ∃ r4 : Int, SC P 54 [.one (.int .i64 r0.1), .one (.ro (.int .i64) r0.2.1), .one (.ro .bool r0.2.2)] [] [.one (.int .i64 r4)] [] ∧
          Ret r lh [.one (.bool (decide (r1 = r4)))] []) (
         ∃ r5 : Bool, SC P 52 [.one (.int .i64 r0.1), .one (.ro (.int .i64) r0.2.1), .one (.ro .bool r0.2.2)] [] [.one (.bool r5)] [] ∧
          Br ((decide (r1 = ((-1) : Int))) != r5) (
           Ret r lh [.one (.bool ((decide (r1 = ((-1) : Int))) == r5))] []) (
           Br (decide (r1 < (0 : Int))) (
            Ret r lh [.one (.bool ((decide (r1 = ((-1) : Int))) == r5))] []) (
            FL E H14 Try.f14 0 r lh 0 (S14_L0 r0.1 r0.2.2 r1 0 r0.2.1))))))) := by kernel_rfl
theorem eq14_L0 (kind3 : Int) (there5 : List Bool) (x6 : Int) (i8 : Int) (h0 : List Int) (r : List W) (lh : Heap) : FL1 E H14 Try.f14 0 r lh 0 (S14_L0 kind3 there5 x6 i8 h0) =
  (
   Br (decide (i8 < (8 : Int))) (
    Ck (Nat.ble ((0 + there5.length) * 1) roomy) (
     Ck (decide ((0 : Int) ≤ i8)) (
      Ck (decide (i8 < ((([] ++ there5).length : Nat) : Int))) (
       Ck (Nat.ble (i8.toNat + 1) (([] ++ there5).length)) (
        Ck (decide ((0 : Int) ≤ i8)) (
         Ck (decide (i8 < ((there5.length : Nat) : Int))) (
          Br (there5.getD i8.toNat false) (
           ∃ r0 : Bool, SC P 52 [.one (.int .i64 kind3), .one (.ro (.int .i64) h0), .one (.ro .bool (([] ++ there5).set i8.toNat false))] [] [.one (.bool r0)] [] ∧
            Br (r0 != (decide (i8 = x6))) (
             Ret r lh [.one (.bool false)] []) (
             FL E H14 Try.f14 0 r lh 0 (S14_L0 kind3 there5 x6 (IntKind.wrap .i64 (i8 + 1)) h0))) (
           FL E H14 Try.f14 0 r lh 0 (S14_L0 kind3 there5 x6 (IntKind.wrap .i64 (i8 + 1)) h0))))))))) (
    Ck (decide ((0 : Int) ≤ x6)) (
     Ck (decide (x6 < ((there5.length : Nat) : Int))) (
      Ret r lh [.one (.bool (there5.getD x6.toNat false))] [])))) := by kernel_rfl
theorem l14 (kind : Int) (vals : List Int) (hv : vals.length = 8) (there : List Bool) (h8 : there.length = 8) (x : Int) (hx0 : 0 ≤ x) (hx7 : x ≤ 7) (hx : there.getD x.toNat false = true) (hF : ∀ i : Nat, i < 8 → there.getD i false = true → codeFits kind vals (there.set i false) = decide ((i : Int) = x)) : ∀ (n i : Nat), i + n = 8 →
    FL E H14 Try.f14 0 [.one (.bool true)] [] 0 (S14_L0 kind there x (i : Int) vals)
  | 0, i, h => by
    refine FL_of1 ?_
    rw [eq14_L0]
    exact Br_f (by omega) (Ck_d (by omega) (Ck_d (by omega) ⟨by rw [hx], rfl⟩))
  | n + 1, i, h => by
    refine FL_of1 ?_
    rw [eq14_L0, wS (i := i) (by omega)]
    simp only [Int.toNat_natCast, List.nil_append]
    refine Br_t (by omega) (Ck_room (by omega) (Ck_d (by omega) (Ck_d (by omega) (Ck_le (by omega) (Ck_d (by omega) (Ck_d (by omega) (Br_b (fun e => ?_) (fun e => l14 kind vals hv there h8 x hx0 hx7 hx hF n (i + 1) (by omega)))))))))
    exact ⟨_, c52 kind vals _ (by omega) (by rw [List.length_set]; omega), Br_bne (hF i (by omega) e) (l14 kind vals hv there h8 x hx0 hx7 hx hF n (i + 1) (by omega))⟩
theorem c14 (code : List Int) (hc : Bytes code) : SC P 14 [.one (.ro (.int .u8) code)] [] [.one (.bool true)] [] := by
  refine SC_of_FB (H := H14) E_ok Try.func14 (by kernel_rfl) ?_
  rw [eq14]
  refine Br_d (fun _ => ⟨rfl, rfl⟩) (fun hcl => ?_)
  obtain ⟨kind, vals, there, hv, ht, s0⟩ := c55 code hc
  have s1 := c53 kind vals there (by omega) (by omega)
  have s2 := c54 kind vals there (by omega)
  have hneg := readFind_neg (kind := kind) (vals := vals) (there := there)
  refine ⟨(kind, vals, there), s0, _, s1, _, s2, Br_nd (fun e => absurd rfl e) (fun _ => ?_)⟩
  rw [dec8]
  refine Br_nd (fun e => ⟨_, s2, by rw [decide_eq_true rfl], rfl⟩) (fun h8 => ⟨_, c52 kind vals there (by omega) (by omega), ?_⟩)
  have h8 : there.length = 8 := h8
  have hd : decide (readFind kind vals there = -1) = codeFits kind vals there := bool_eq (by rw [decide_eq_true_iff]; exact hneg)
  refine Br_bne hd (Br_d (fun e => ⟨by rw [hd]; simp, rfl⟩) (fun e => ?_))
  have hge : 0 ≤ readFind kind vals there := by omega
  rw [readFind, decide_eq_true h8, Bool.and_true] at hge
  cases hk : inB kind 1 2 && valsOk vals with
  | false => rw [hk] at hge; exact absurd hge (by simp)
  | true =>
    rw [hk, cond_true] at hge
    cases hf : fitsI kind vals (flagF there) with
    | true => rw [hf] at hge; exact absurd hge (by simp)
    | false =>
      rw [hf, cond_false] at hge
      obtain ⟨idx, i1, i2, i3, i4, i5⟩ := findS_inv (flag_nn h8) _ _ _ (by omega) hge
      have hval : readFind kind vals there = (flagF there).getD idx 0 := by rw [readFind, hk, decide_eq_true h8, hf, ← i3]; rfl
      obtain ⟨x0, x7⟩ := shok_get (flag_ok h8).range (show idx < (flagF there).length by omega)
      have hmem : ∀ j, j < (flagF there).length → there.getD ((flagF there).getD j 0).toNat false = true := by
        intro j hj
        obtain ⟨y0, y7⟩ := shok_get (flag_ok h8).range hj
        refine ((flag_ok h8).mem _ (by omega)).1 ?_
        rw [show ((((flagF there).getD j 0).toNat : Nat) : Int) = (flagF there).getD j 0 by omega, getD_eq hj]
        exact List.getElem_mem hj
      rw [hval]
      rw [Bool.and_eq_true] at hk
      refine l14 kind vals hv there h8 _ x0 x7 (hmem idx (by omega)) (fun i hi hti => ?_) 8 0 rfl
      have him := ((flag_ok h8).mem i hi).2 hti
      obtain ⟨j, hj, ej⟩ := List.getElem_of_mem him
      have hls := (flag_ok h8).less j hj
      rw [getD_eq hj, ej, Int.toNat_natCast] at hls
      have hcf : codeFits kind vals (there.set i false) = fitsI kind vals ((flagF there).take j ++ (flagF there).drop (j + 1)) := by
        rw [hls, codeFits, hk.1, hk.2, decide_eq_true (show (there.set i false).length = 8 by rw [List.length_set]; exact h8)]; rfl
      rw [hcf]
      by_cases e2 : (i : Int) = (flagF there).getD idx 0
      · rw [decide_eq_true e2]
        have hls2 := (flag_ok h8).less idx (by omega)
        rw [← e2, Int.toNat_natCast, ← hls] at hls2
        rw [← hls2]; exact i4
      · rw [decide_eq_false e2]
        refine i5 j (Nat.zero_le _) (by omega) (fun e3 => e2 ?_)
        subst e3
        rw [getD_eq hj, ej]
abbrev full8 : List Bool := [true, true, true, true, true, true, true, true]
theorem full_key : (∀ k : Nat, k < 8 → bearsI 1 (flagF (full8.set k false)) = true) ∧ (∀ k : Nat, k < 8 → bearsI 2 (flagF (full8.set k false)) = true) ∧ (∀ k : Nat, k < 8 → ∀ j : Nat, j < 8 → bearsI 2 (flagF ((full8.set j false).set k false)) = true) ∧ bearsI 1 (flagF full8) = true ∧ bearsI 2 (flagF full8) = true ∧ flagF full8 = [0, 1, 2, 3, 4, 5, 6, 7] ∧ thereB 8 255 = full8 := by decide +kernel
theorem full_bears {kind : Int} (hk : inB kind 1 2 = true) : bearsI kind (flagF full8) = true ∧ ∀ k : Nat, k < 8 → bearsI kind (flagF (full8.set k false)) = true := by
  rcases kind_cases hk with rfl | rfl
  · exact ⟨full_key.2.2.2.1, full_key.1⟩
  · exact ⟨full_key.2.2.2.2.1, full_key.2.1⟩
/-- a number that is wrong shows, as long as the others are enough -/
theorem wrong_shows {kind : Int} (hk : inB kind 1 2 = true) {v : V4} (hv : VOk v) {bad : List Int} {k : Nat} (hk8 : k < 8) {e : Int} (he : bad = (allF kind v).set k e) (hne : e ≠ (allF kind v).getD k 0) {t : List Bool} (ht : t.length = 8) (hkt : t.getD k false = true) (hb : bearsI kind (flagF (t.set k false)) = true) : fitsI kind bad (flagF t) = false := by
  cases hf : fitsI kind bad (flagF t) with
  | false => rfl
  | true =>
    exfalso
    have hts : (t.set k false).length = 8 := by rw [List.length_set]; exact ht
    obtain ⟨s1, s2⟩ := flag_sh hts
    have hsub : ∀ x ∈ flagF (t.set k false), x ∈ flagF t ∧ x ≠ (k : Int) := by
      intro x hx
      obtain ⟨x0, x7⟩ := s1 x hx
      have hx' : ((x.toNat : Nat) : Int) ∈ flagF (t.set k false) := by rw [show ((x.toNat : Nat) : Int) = x by omega]; exact hx
      have h1 := ((flag_ok hts).mem x.toNat (by omega)).1 hx'
      rw [setB_get (by omega)] at h1
      by_cases e2 : k = x.toNat
      · rw [if_pos e2] at h1; cases h1
      · rw [if_neg e2] at h1
        have := ((flag_ok ht).mem x.toNat (by omega)).2 h1
        rw [show ((x.toNat : Nat) : Int) = x by omega] at this
        exact ⟨this, by omega⟩
    have hid := set_id hk hts hb
    obtain ⟨_, g2⟩ := fits_sub hf (fun i hi => (hsub i hi).1) s2 hid
    have g3 : solveI kind bad (flagF (t.set k false)) = v := by
      refine id_solve s2 hid hv fun i hi => ?_
      obtain ⟨i0, i7⟩ := s1 i hi
      have := (hsub i hi).2
      rw [he, List.getD, List.getElem?_set_ne (by omega)]
      exact allF_get kind v i0 i7
    have hm := fits_mem hf (k : Int) (((flag_ok ht).mem k hk8).2 hkt)
    rw [← g2, g3, Int.toNat_natCast] at hm
    have ha := allF_get kind v (i := (k : Int)) (by omega) (by omega)
    rw [Int.toNat_natCast] at ha
    rw [← ha, he, get_set_self (by rw [allF_length]; exact hk8)] at hm
    exact hne hm
theorem sum_ne {a c : Int} (ha : FOk a) (h1 : 1 ≤ c) (h2 : c ≤ 30) : (a + c) % 31 ≠ a := by
  have := ha.1; have := ha.2
  omega
/-! loop.example/keelson/impl.FieldSum -/
def H38 : Hint := ⟨[], [], [], [], [], [], []⟩
theorem eq38 (a : Int) (b : Int) (r : List W) (lh : Heap) : FB E H38 Try.f38 [.one (.int .i64 a), .one (.int .i64 b)] [] r lh =
  (
   ∃ r0 : Bool, SC P 87 [.one (.int .i64 a)] [] [.one (.bool r0)] [] ∧
    Br (!r0) (
     Ret r lh [.one (.int .i64 0)] []) (
     ∃ r1 : Bool, SC P 87 [.one (.int .i64 b)] [] [.one (.bool r1)] [] ∧
      Br (!r1) (
       Ret r lh [.one (.int .i64 0)] []) (
       ∃ r2 : Int, SC P 85 [.one (.int .i64 a), .one (.int .i64 b)] [] [.one (.int .i64 r2)] [] ∧
        Ret r lh [.one (.int .i64 r2)] []))) := by kernel_rfl
theorem c38 (a b : Int) (ha : FOk a) (hb : FOk b) : SC P 38 [.one (.int .i64 a), .one (.int .i64 b)] [] [.one (.int .i64 ((a + b) % 31))] [] := by
  refine SC_of_FB (H := H38) E_ok Try.func38 (by kernel_rfl) ?_
  rw [eq38]
  have h1 : inB a 0 30 = true := inB_iff.2 ha
  have h2 : inB b 0 30 = true := inB_iff.2 hb
  refine ⟨_, c87 a, ?_⟩
  rw [h1]
  refine Br_nb (fun e => by cases e) (fun _ => ⟨_, c87 b, ?_⟩)
  rw [h2]
  exact Br_nb (fun e => by cases e) (fun _ => ⟨_, c85 a b ha hb, rfl, rfl⟩)
/-! loop.example/keelson/laws.FnReadFind -/
def H12 : Hint := ⟨[], [], [], [], [], [], []⟩
theorem eq12 (code : List Int) (more : List Int) (r : List W) (lh : Heap) : FB E H12 Try.f12 [.one (.ro (.int .u8) code), .one (.ro (.int .u8) more)] [] r lh =
  (
   Br (decide ((1048576 : Int) < ((code.length : Nat) : Int))) (
    Ret r lh [.one (.bool true)] []) (
    Br (decide ((1048576 : Int) < ((more.length : Nat) : Int))) (
     Ret r lh [.one (.bool true)] []) (
     ∃ r0 : Int × List Int, SC P 44 [.one (.ro (.int .u8) code)] [] [.one (.int .i64 r0.1), .one (.ro (.int .i64) r0.2)] [] ∧
      ∃ r1 : List Int, SC P 36 [.one (.int .i64 r0.1), .one (.ro (.int .i64) r0.2)] [] [.one (.sl 0 none)] [.row (.int .i64) r1 .own] ∧
       ∃ r2 : List Int, SC P 45 [.one (.int .i64 r0.1), .one (.ro (.int .i64) r0.2)] [] [.one (.sl 0 none)] [.row (.int .i64) r2 .own] ∧
        ∃ r3 : Bool, SC P 33 [.one (.ro (.int .i64) r1), .one (.ro (.int .i64) r2)] [] [.one (.bool r3)] [] ∧
         Br (!r3) (
          ∃ r4 : List Int, SC P 45 [.one (.int .i64 r0.1), .one (.ro (.int .i64) r0.2)] [] [.one (.sl 0 none)] [.row (.int .i64) r4 .own] ∧
           ∃ r5 : Bool, SC P 33 [.one (.ro (.int .i64) r1), .one (.ro (.int .i64) r4)] [] [.one (.bool r5)] [] ∧
            Ret r lh [.one (.bool r5)] []) (
          Br (decide (((r1.length : Nat) : Int) = (0 : Int))) (
           ∃ r6 : List Int, SC P 45 [.one (.int .i64 r0.1), .one (.ro (.int .i64) r0.2)] [] [.one (.sl 0 none)] [.row (.int .i64) r6 .own] ∧
            ∃ r7 : Bool, SC P 33 [.one (.ro (.int .i64) r1), .one (.ro (.int .i64) r6)] [] [.one (.bool r7)] [] ∧
             Ret r lh [.one (.bool r7)] []) (
           Ck (Nat.ble ((0 + r1.length) * 8) roomy) (
            Ck (decide ((0 : Int) ≤ (Int.tmod ((more.length : Nat) : Int) 8))) (
             Ck (decide ((Int.tmod ((more.length : Nat) : Int) 8) < ((r1.length : Nat) : Int))) (
              Ck (Nat.ble ((Int.tmod ((more.length : Nat) : Int) 8).toNat + 1) r1.length) (
               ∃ r8 : Int, SC P 38 [.one (.int .i64 (r1.getD (Int.tmod ((more.length : Nat) : Int) 8).toNat 0)), .one (.int .i64 (IntKind.wrap .i64 (1 + (Int.tmod ((more.length : Nat) : Int) 30))))] [] [.one (.int .i64 r8)] [] ∧
                Ck (decide ((0 : Int) ≤ (Int.tmod ((more.length : Nat) : Int) 8))) (
                 Ck (decide ((Int.tmod ((more.length : Nat) : Int) 8) < ((([] ++ r1).length : Nat) : Int))) (
                  Ck (Nat.ble ((Int.tmod ((more.length : Nat) : Int) 8).toNat + 1) (([] ++ r1).length)) (
                   ∃ r9 : List Bool, SC P 47 [.one (.int .i64 255)] [] [.one (.sl 0 none)] [.row .bool r9 .own] ∧
                    ∃ r10 : Int, SC P 53 [.one (.int .i64 r0.1), .one (.ro (.int .i64) (([] ++ r1).set ((Int.tmod ((more.length : Nat) : Int) 8).toNat) r8)), .one (.ro .bool r9)] [] [.one (.int .i64 r10)] [] ∧
                     ∃ r11 : List Bool, SC P 47 [.one (.int .i64 255)] [] [.one (.sl 0 none)] [.row .bool r11 .own] ∧
                      ∃ r12 : Int, SC P 53 [.one (.int .i64 r0.1), .one (.ro (.int .i64) r1), .one (.ro .bool r11)] [] [.one (.int .i64 r12)] [] ∧
                       Br (decide (r12 = ((-1) : Int))) (
                        Br (!(decide (r10 = ((-1) : Int)))) (
                         Br (!(decide (r0.1 = (2 : Int)))) (
                          Ret r lh [.one (.bool true)] []) (
                          Ret r lh [.one (.bool (decide (r10 = (Int.tmod ((more.length : Nat) : Int) 8))))] [])) (
                         Ret r lh [.one (.bool false)] [])) (
                        Ret r lh [.one (.bool false)] []))))))))))))) := by kernel_rfl
theorem c12 (code more : List Int) (hc : Bytes code) : SC P 12 [.one (.ro (.int .u8) code), .one (.ro (.int .u8) more)] [] [.one (.bool true)] [] := by
  refine SC_of_FB (H := H12) E_ok Try.func12 (by kernel_rfl) ?_
  rw [eq12]
  refine Br_d (fun _ => ⟨rfl, rfl⟩) (fun hcl => ?_)
  refine Br_d (fun _ => ⟨rfl, rfl⟩) (fun hml => ?_)
  obtain ⟨kind, d, hd, s0⟩ := c44 code hc
  have hal := codeAll_len (kind := kind) (d := d)
  have sE := c33 (codeAll kind d) (codeAll kind d) (by omega)
  rw [decide_eq_true rfl] at sE
  refine ⟨(kind, d), s0, _, c36 kind d (by omega), _, c45 kind d (by omega), _, sE, Br_nb (fun e => by cases e) (fun _ => Br_d (fun e => ⟨_, c45 kind d (by omega), _, sE, rfl, rfl⟩) (fun e => ?_))⟩
  rcases codeAll_cases kind d with h | ⟨hk, v, hv, rfl, h⟩
  · rw [h] at e; exact absurd rfl e
  rw [h]
  have hl8 := allF_length kind v
  have hm8 : Int.tmod (more.length : Int) 8 = (((more.length % 8 : Nat)) : Int) := by rw [Int.tmod_eq_emod_of_nonneg (by omega)]; omega
  have hm30 : Int.tmod (more.length : Int) 30 = (((more.length % 30 : Nat)) : Int) := by rw [Int.tmod_eq_emod_of_nonneg (by omega)]; omega
  have hk8 : more.length % 8 < 8 := Nat.mod_lt _ (by omega)
  have hk30 : more.length % 30 < 30 := Nat.mod_lt _ (by omega)
  simp only [hm8, hm30, Int.toNat_natCast, List.nil_append]
  generalize more.length % 8 = k at hk8
  generalize more.length % 30 = c at hk30
  rw [wrap64 (n := 1 + (c : Int)) (by omega) (by omega)]
  have hfo := (allF_p kind v).2 k
  have hne := sum_ne hfo (c := 1 + (c : Int)) (by omega) (by omega)
  refine Ck_room (by omega) (Ck_d (by omega) (Ck_d (by omega) (Ck_le (by omega) ⟨_, c38 _ _ hfo ⟨by omega, by omega⟩, Ck_d (by omega) (Ck_d (by omega) (Ck_le (by omega) ⟨_, c47 255 (by omega) (by omega), ?_⟩))⟩)))
  have hbl : ((allF kind v).set k (((allF kind v).getD k 0 + (1 + (c : Int))) % 31)).length = 8 := by rw [List.length_set]; exact hl8
  have hfull : thereB 8 (255 : Int).toNat = full8 := full_key.2.2.2.2.2.2
  rw [hfull]
  refine ⟨_, c53 kind _ full8 (by omega) (by simp), _, c47 255 (by omega) (by omega), ?_⟩
  rw [hfull]
  refine ⟨_, c53 kind (allF kind v) full8 (by omega) (by simp), ?_⟩
  have hfb := full_bears hk
  obtain ⟨t1, t2⟩ := flag_sh (there := full8) rfl
  have hgood : readFind kind (allF kind v) full8 = -1 := readFind_neg.2 (by
    rw [codeFits, hk, p_vals (allF_p kind v), (all_read hv t1 t2 (set_id hk rfl hfb.1)).1]; rfl)
  have hget : ∀ j : Nat, j < 8 → full8.getD j false = true := by
    intro j hj
    have : j = 0 ∨ j = 1 ∨ j = 2 ∨ j = 3 ∨ j = 4 ∨ j = 5 ∨ j = 6 ∨ j = 7 := by omega
    rcases this with rfl | rfl | rfl | rfl | rfl | rfl | rfl | rfl <;> rfl
  generalize hbad : (allF kind v).set k (((allF kind v).getD k 0 + (1 + (c : Int))) % 31) = bad at hbl
  have hall : fitsI kind bad (flagF full8) = false := wrong_shows hk hv hk8 hbad.symm hne rfl (hget k hk8) (hfb.2 k hk8)
  have hbadP : valsOk bad = true := p_vals ⟨hbl, fun i => by
    rw [← hbad]
    by_cases ei : i = k
    · subst ei; rw [get_set_self (by omega)]; exact fok_mod _
    · rw [List.getD, List.getElem?_set_ne (fun h => ei h.symm)]; exact (allF_p kind v).2 i⟩
  have hnb : readFind kind bad full8 ≠ -1 := fun h => by
    have := readFind_neg.1 h
    rw [codeFits, hk, hbadP, hall] at this
    cases this
  rw [hgood]
  refine Br_t rfl (Br_nd (fun _ => Br_nd (fun _ => ⟨rfl, rfl⟩) (fun h2 => ⟨?_, rfl⟩)) (fun h => absurd h hnb))
  subst h2
  have hp : flagF full8 = [0, 1, 2, 3, 4, 5, 6, 7] := full_key.2.2.2.2.2.1
  have hpg : ∀ j : Nat, j < 8 → (flagF full8).getD j 0 = (j : Int) := by
    intro j hj
    rw [hp]
    have : j = 0 ∨ j = 1 ∨ j = 2 ∨ j = 3 ∨ j = 4 ∨ j = 5 ∨ j = 6 ∨ j = 7 := by omega
    rcases this with rfl | rfl | rfl | rfl | rfl | rfl | rfl | rfl <;> rfl
  have hpl : (flagF full8).length = 8 := by rw [hp]; rfl
  have hls : ∀ j : Nat, j < 8 → (flagF full8).take j ++ (flagF full8).drop (j + 1) = flagF (full8.set j false) := by
    intro j hj
    have := (flag_ok (there := full8) rfl).less j (by omega)
    rw [hpg j hj, Int.toNat_natCast] at this
    exact this
  have hval : readFind 2 bad full8 = (k : Int) := by
    rw [readFind, hk, hbadP, hall, hpl, show decide (full8.length = 8) = true from rfl, Bool.and_true, Bool.and_true, cond_true, cond_false]
    rw [findS_one (flag_nn (there := full8) rfl) 8 0 k (-2) (by omega) (Nat.zero_le _) (by omega), hpg k hk8]
    · rw [hls k hk8]
      have hst : (full8.set k false).length = 8 := by rw [List.length_set]; rfl
      obtain ⟨s1, s2⟩ := flag_sh hst
      refine id_fits s2 (set_id hk hst (full_key.2.1 k hk8)) hv fun i hi => ?_
      obtain ⟨i0, i7⟩ := s1 i hi
      have hi' : ((i.toNat : Nat) : Int) ∈ flagF (full8.set k false) := by rw [show ((i.toNat : Nat) : Int) = i by omega]; exact hi
      have h1 := ((flag_ok hst).mem i.toNat (by omega)).1 hi'
      rw [setB_get (by simp; omega)] at h1
      have hne2 : k ≠ i.toNat := fun h => by rw [if_pos h] at h1; cases h1
      rw [← hbad, List.getD, List.getElem?_set_ne hne2]
      exact allF_get 2 v i0 i7
    · intro j h1 h2 h3
      rw [hls j (by omega)]
      refine wrong_shows hk hv hk8 hbad.symm hne (by rw [List.length_set]; rfl) ?_ (full_key.2.2.1 k hk8 j (by omega))
      rw [setB_get (by simp; omega), if_neg h3]
      exact hget k hk8
  rw [hval, decide_eq_true rfl]
end Go.Proofs.Ytlebgbcoljnejaa.Sh
