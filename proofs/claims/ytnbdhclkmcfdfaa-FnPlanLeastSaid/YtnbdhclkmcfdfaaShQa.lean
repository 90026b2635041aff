/- Plans: there is one, if the row is made of others. -/
import Derived.Test.YtnbdhclkmcfdfaaShQ9
import Derived.Test.YtnbdhclkmcfdfaaShQ2
namespace Go.Proofs.Ytnbdhclkmcfdfaa.Sh
open Go
set_option linter.unusedVariables false
set_option linter.unusedSimpArgs false
/-! loop.example/keelson/spec.DrawPlanOf -/
def H57 : Hint := ⟨[], [], [], [], [], [], []⟩
theorem eq57 (code : List Int) (r : List W) (lh : Heap) : FB E H57 Try.f57 [.one (.ro (.int .u8) code)] [] r lh =
  (
   ∃ r0 : (List Int × Int), SC P 62 [.one (.ro (.int .u8) code)] [] [.one (.ptr 0 0 0)] [.box [.ro (.int .u8) r0.1, .int .i64 r0.2]] ∧
    ∃ r1 : List Int × Int × Int, SC P 84 [.one (.ptr 0 0 0)] [.box [.ro (.int .u8) r0.1, .int .i64 r0.2]] [.one (.int .i64 r1.2.2)] [.box [.ro (.int .u8) r1.1, .int .i64 r1.2.1]] ∧
     ∃ r2 : List Int × Int × Int, SC P 64 [.one (.ptr 0 0 0), .one (.int .i64 8)] [.box [.ro (.int .u8) r1.1, .int .i64 r1.2.1]] [.one (.int .i64 r2.2.2)] [.box [.ro (.int .u8) r2.1, .int .i64 r2.2.1]] ∧
      ∃ r3 : List Int × Int × Int, SC P 64 [.one (.ptr 0 0 0), .one (.int .i64 24)] [.box [.ro (.int .u8) r2.1, .int .i64 r2.2.1]] [.one (.int .i64 r3.2.2)] [.box [.ro (.int .u8) r3.1, .int .i64 r3.2.1]] ∧
       ∃ r4 : List Int × Int × List Bool, SC P 108 [.one (.ptr 0 0 0)] [.box [.ro (.int .u8) r3.1, .int .i64 r3.2.1]] [.one (.ro .bool r4.2.2)] [.box [.ro (.int .u8) r4.1, .int .i64 r4.2.1]] ∧
        Ret r lh [.one (.int .i64 r1.2.2), .one (.int .i64 (IntKind.wrap .i64 (r2.2.2 + (IntKind.wrap .i64 ((IntKind.wrap .i64 (Int.tdiv r3.2.2 23)) * 8))))), .one (.ro .bool r4.2.2)] []) := by kernel_rfl
theorem c57 (code : List Int) (hc : Bytes code) : ∃ (k lost : Int) (t : List Bool), t.length ≤ 8 ∧ SC P 57 [.one (.ro (.int .u8) code)] [] [.one (.int .i64 k), .one (.int .i64 lost), .one (.ro .bool t)] [] := by
  obtain ⟨b, hb, s0⟩ := c62 code hc
  obtain ⟨k, p, p0, p1, s1⟩ := c84 b 0 hb (by omega) (by omega)
  obtain ⟨v1, a1, b1, s2⟩ := c64 b p 8 hb (by omega) (by omega) (by omega)
  obtain ⟨v2, a2, b2, s3⟩ := c64 b (p + 1) 24 hb (by omega) (by omega) (by omega)
  obtain ⟨t, q, ht, q0, q1, s4⟩ := c108 b (p + 1 + 1) hb (by omega) (by omega)
  refine ⟨k, IntKind.wrap .i64 (v1 + IntKind.wrap .i64 (IntKind.wrap .i64 (Int.tdiv v2 23) * 8)), t, ht, ?_⟩
  refine SC_of_FB (H := H57) E_ok Try.func57 (by kernel_rfl) ?_
  rw [eq57]
  exact ⟨(b, 0), s0, (b, p, k), s1, (b, p + 1, v1), s2, (b, p + 1 + 1, v2), s3, (b, q, t), s4, rfl, rfl⟩
/-! loop.example/keelson/laws.lkPlan -/
def H53 : Hint := ⟨[], [], [], [], [], [], []⟩
theorem eq53 (a : (Int × (List Int × List Int))) (b : (Int × (List Int × List Int))) (r : List W) (lh : Heap) : FB E H53 Try.f53 [.agg [.int .i64 a.1, .ro (.int .i64) a.2.1, .ro (.int .i64) a.2.2], .agg [.int .i64 b.1, .ro (.int .i64) b.2.1, .ro (.int .i64) b.2.2]] [] r lh =
  (
   Br (decide (a.1 = b.1)) (
    ∃ r0 : Bool, SC P 32 [.one (.ro (.int .i64) a.2.1), .one (.ro (.int .i64) b.2.1)] [] [.one (.bool r0)] [] ∧
     Br r0 (
      ∃ r1 : Bool, SC P 32 [.one (.ro (.int .i64) a.2.2), .one (.ro (.int .i64) b.2.2)] [] [.one (.bool r1)] [] ∧
       Ret r lh [.one (.bool r1)] []) (
      Ret r lh [.one (.bool false)] [])) (
    Ret r lh [.one (.bool false)] [])) := by kernel_rfl
theorem c53 (a : Pln) (h1 : a.2.1.length ≤ 1048576) (h2 : a.2.2.length ≤ 1048576) : SC P 53 [.agg [.int .i64 a.1, .ro (.int .i64) a.2.1, .ro (.int .i64) a.2.2], .agg [.int .i64 a.1, .ro (.int .i64) a.2.1, .ro (.int .i64) a.2.2]] [] [.one (.bool true)] [] := by
  have s1 := c32 a.2.1 a.2.1 h1
  have s2 := c32 a.2.2 a.2.2 h2
  rw [decide_eq_true rfl] at s1 s2
  refine SC_of_FB (H := H53) E_ok Try.func53 (by kernel_rfl) ?_
  rw [eq53]
  exact Br_t rfl ⟨true, s1, Br_b (fun _ => ⟨true, s2, rfl, rfl⟩) (fun e => by cases e)⟩
/-! loop.example/keelson/laws.lkTheir -/
def H59 : Hint := ⟨[[(0, 0, .bool), (1, 0, .bool), (5, 0, .bool), (6, 0, .bool)]], [], [], [], [], [], []⟩
def S59_L0 (kind0 : Int) (there1 : List Bool) (i6 : Int) (h0 : List (List Int)) : St := ⟨[(0, .w (.one (.int .i64 kind0))), (1, .w (.one (.ro .bool there1))), (5, .w (.one (.sl 0 none))), (6, .w (.one (.int .i64 i6)))], [.row (.sl (.int .i64)) h0 .own]⟩
theorem eq59 (kind : Int) (there : List Bool) (r : List W) (lh : Heap) : FB E H59 Try.f59 [.one (.int .i64 kind), .one (.ro .bool there)] [] r lh =
  (
   FL E H59 Try.f59 0 r lh 0 (S59_L0 kind there 0 [])) := by kernel_rfl
theorem eq59_L0 (kind0 : Int) (there1 : List Bool) (i6 : Int) (h0 : List (List Int)) (r : List W) (lh : Heap) : FL1 E H59 Try.f59 0 r lh 0 (S59_L0 kind0 there1 i6 h0) =
  (
   Br (decide (i6 < ((there1.length : Nat) : Int))) (
    Ck (decide ((0 : Int) ≤ i6)) (
     Ck (decide (i6 < ((there1.length : Nat) : Int))) (
      Br (there1.getD i6.toNat false) (
       ∃ r0 : List Int × Bool, SC P 40 [.one (.int .i64 kind0), .one (.int .i64 i6)] [] [.one (.sl 0 none), .one (.bool r0.2)] [.row (.int .i64) r0.1 .own] ∧
        Ck (Nat.ble ((h0.length + 1) * 24) roomy) (
         FL E H59 Try.f59 0 r lh 0 (S59_L0 kind0 there1 (IntKind.wrap .i64 (i6 + 1)) (h0 ++ [r0.1])))) (
       FL E H59 Try.f59 0 r lh 0 (S59_L0 kind0 there1 (IntKind.wrap .i64 (i6 + 1)) h0))))) (
    Ret r lh [.one (.sl 0 none)] [.row (.sl (.int .i64)) h0 .own])) := by kernel_rfl
theorem codeRow_le {kind i : Int} : (codeRow kind i).length ≤ 4 := by
  rw [codeRow]
  cases inB kind 1 2 && inB i 0 7
  · exact Nat.zero_le _
  · exact Nat.le_refl _
theorem l59 (kind : Int) (there : List Bool) (hl : there.length ≤ 1000) : ∀ (n i : Nat) (out : List (List Int)), i + n = there.length → out.length ≤ i → FL E H59 Try.f59 0 [.one (.sl 0 none)] [.row (.sl (.int .i64)) (out ++ (filterR (fun j => there.getD j false) (fun j => (j : Int)) i n).map (codeRow kind)) .own] 0 (S59_L0 kind there (i : Int) out)
  | 0, i, out, h, ho => by
    refine FL_of1 ?_
    rw [eq59_L0]
    exact Br_f (by omega) ⟨rfl, by rw [filterR, List.map_nil, List.append_nil]⟩
  | n + 1, i, out, h, ho => by
    refine FL_of1 ?_
    rw [eq59_L0, wS (i := i) (by omega), filterR]
    simp only [Int.toNat_natCast]
    refine Br_t (by omega) (Ck_d (by omega) (Ck_d (by omega) (Br_b (fun e => ⟨(codeRow kind (i : Int), _), c40 kind (i : Int), Ck_room (by omega) ?_⟩) (fun e => ?_))))
    · rw [e, cond_true, List.map_cons]
      have := l59 kind there hl n (i + 1) (out ++ [codeRow kind (i : Int)]) (by omega) (by simp; omega)
      rw [List.append_assoc] at this
      exact this
    · rw [e, cond_false]
      exact l59 kind there hl n (i + 1) out (by omega) (by omega)
theorem c59 (kind : Int) (there : List Bool) (hl : there.length ≤ 1000) : SC P 59 [.one (.int .i64 kind), .one (.ro .bool there)] [] [.one (.sl 0 none)] [.row (.sl (.int .i64)) ((flagF there).map (codeRow kind)) .own] := by
  refine SC_of_FB (H := H59) E_ok Try.func59 (by kernel_rfl) ?_
  rw [eq59]
  exact l59 kind there hl there.length 0 [] (Nat.zero_add _) (Nat.le_refl _)
theorem findL_some_congr {α β : Type} {t1 : List Int → Option α} {t2 : List Int → Option β} (h : ∀ S, (t1 S).isSome = (t2 S).isSome) {many : Nat} : ∀ {rem set : List Int}, (findL t1 many rem set).isSome = (findL t2 many rem set).isSome
  | [], _ => rfl
  | x :: rem, set => by
    rw [findL_cons, findL_cons, Option.isSome_or, Option.isSome_or, findL_some_congr h (rem := rem) (set := set), findE, findE]
    congr 1
    cases decide ((set ++ [x]).length = many)
    · exact findL_some_congr h
    · exact h _
theorem findE_some_congr {α β : Type} {t1 : List Int → Option α} {t2 : List Int → Option β} (h : ∀ S, (t1 S).isSome = (t2 S).isSome) {many : Nat} {rem set : List Int} : (findE t1 many rem set).isSome = (findE t2 many rem set).isSome := by
  rw [findE, findE]
  cases decide (set.length = many)
  · exact findL_some_congr h
  · exact h _
theorem fewest_some_congr {α β : Type} {t1 : List Int → Option α} {t2 : List Int → Option β} (h : ∀ S, (t1 S).isSome = (t2 S).isSome) {others : List Int} : (fewest t1 others).isSome = (fewest t2 others).isSome := by
  rw [fewest, fewest, Option.isSome_or, Option.isSome_or, Option.isSome_or, Option.isSome_or, Option.isSome_or, Option.isSome_or, findE_some_congr h, findE_some_congr h, findE_some_congr h, findE_some_congr h]
theorem planT_some (kind lost : Int) (S : List Int) : (planT kind lost S).isSome = (planS kind lost S).isSome := by
  rw [planT]; cases planS kind lost S <;> rfl
theorem resP_ok (lost : Int) (o : Option (List Int × List Int)) : (resP lost o).2.2.2 = o.isSome := by cases o <;> rfl
theorem filterR_congr' {α : Type} {p q : Nat → Bool} {f : Nat → α} : ∀ {n i : Nat}, (∀ j, i ≤ j → j < i + n → p j = q j) → filterR p f i n = filterR q f i n
  | 0, _, _ => rfl
  | n + 1, i, h => by
    rw [filterR, filterR, h i (Nat.le_refl _) (by omega), filterR_congr' (n := n) (i := i + 1) fun j h1 h2 => h j (by omega) (by omega)]
theorem flag_less {lost : Int} (h0 : 0 ≤ lost) (h1 : lost ≤ 7) {there : List Bool} (h8 : there.length = 8) : flagF (there.set lost.toNat false) = othersF lost there := by
  rw [← remF_others h8, flagF, List.length_set, h8, remF]
  refine filterR_congr' fun j _ hj => ?_
  by_cases e : lost.toNat = j
  · subst e
    rw [List.getD, List.getElem?_set_self (by omega), decide_eq_true (show ((lost.toNat : Nat) : Int) = lost by omega), Bool.not_true, Bool.and_false]; rfl
  · rw [List.getD, List.getElem?_set_ne e, decide_eq_false (show ¬ (j : Int) = lost by omega), Bool.not_false, Bool.and_true]; rfl
theorem span_has {kind lost : Int} (hk : inB kind 1 2 = true) (h0 : 0 ≤ lost) (h1 : lost ≤ 7) {U : List Int} (hU : U.Sublist every8L) : okBy (U.map (codeRow kind)) (codeRow kind lost) = hasI kind lost U := by
  obtain ⟨g1, g2⟩ := sub_sh hU
  have hrow : ∀ i, 0 ≤ i → i ≤ 7 → codeRow kind i = (rowV kind i).l := fun i a b => by rw [codeRow, hk, inB_iff.2 ⟨a, b⟩]; rfl
  have hall : (U.map (codeRow kind)).all vecOk = true := List.all_eq_true.2 fun l hl => by
    obtain ⟨i, hi, rfl⟩ := List.mem_map.1 hl
    obtain ⟨a, b⟩ := g1 i hi
    rw [hrow i a b]; exact vecOk_l (rowV_ok _ _)
  have hmat : matF (U.map (codeRow kind)) = rowsF kind U := by
    rw [matF, hall, cond_true, List.map_map, rowsF]
    refine List.map_congr_left fun i hi => ?_
    obtain ⟨a, b⟩ := g1 i hi
    show vecF (codeRow kind i) = rowV kind i
    rw [hrow i a b, vecF_l (rowV_ok _ _)]
  rw [okBy, matOk, hall, List.length_map, decide_eq_true g2, hrow lost h0 h1, vecOk_l (rowV_ok _ _), vecF_l (rowV_ok _ _), hmat]
  rfl
/-! loop.example/keelson/laws.FnPlanFalse -/
def H12 : Hint := ⟨[], [], [], [], [], [], []⟩
theorem eq12 (code : List Int) (r : List W) (lh : Heap) : FB E H12 Try.f12 [.one (.ro (.int .u8) code)] [] r lh =
  (
   Br (decide ((1048576 : Int) < ((code.length : Nat) : Int))) (
    Ret r lh [.one (.bool true)] []) (
    ∃ r0 : Int × Int × List Bool, SC P 57 [.one (.ro (.int .u8) code)] [] [.one (.int .i64 r0.1), .one (.int .i64 r0.2.1), .one (.ro .bool r0.2.2)] [] ∧
     ∃ r1 : Int × List Int × List Int × Bool, SC P 41 [.one (.int .i64 r0.1), .one (.int .i64 r0.2.1), .one (.ro .bool r0.2.2)] [] [.agg [.int .i64 r1.1, .sl 0 none, .sl 1 none], .one (.bool r1.2.2.2)] [.row (.int .i64) r1.2.1 .own, .row (.int .i64) r1.2.2.1 .own] ∧
      ∃ r2 : Int × List Int × List Int × Bool, SC P 43 [.one (.int .i64 r0.1), .one (.int .i64 r0.2.1), .one (.ro .bool r0.2.2)] [] [.agg [.int .i64 r2.1, .sl 0 none, .sl 1 none], .one (.bool r2.2.2.2)] [.row (.int .i64) r2.2.1 .own, .row (.int .i64) r2.2.2.1 .own] ∧
       Br (r2.2.2.2 != r1.2.2.2) (
        Ret r lh [.one (.bool false)] []) (
        ∃ r3 : Bool, SC P 53 [.agg [.int .i64 r2.1, .ro (.int .i64) r2.2.1, .ro (.int .i64) r2.2.2.1], .agg [.int .i64 r1.1, .ro (.int .i64) r1.2.1, .ro (.int .i64) r1.2.2.1]] [] [.one (.bool r3)] [] ∧
         Br (!r3) (
          Ret r lh [.one (.bool false)] []) (
          Br (decide (r0.1 < (1 : Int))) (
           Ret r lh [.one (.bool (!r2.2.2.2))] []) (
           Br (decide ((2 : Int) < r0.1)) (
            Ret r lh [.one (.bool (!r2.2.2.2))] []) (
            Br (decide (r0.2.1 < (0 : Int))) (
             Ret r lh [.one (.bool (!r2.2.2.2))] []) (
             Br (decide ((8 : Int) ≤ r0.2.1)) (
              Ret r lh [.one (.bool (!r2.2.2.2))] []) (
              Br (!(decide (((r0.2.2.length : Nat) : Int) = (8 : Int)))) (
               Ret r lh [.one (.bool (!r2.2.2.2))] []) (
               Ck (Nat.ble ((0 + r0.2.2.length) * 1) roomy) (
                Ck (decide ((0 : Int) ≤ r0.2.1)) (
                 Ck (decide (r0.2.1 < ((([] ++ r0.2.2).length : Nat) : Int))) (
                  Ck (Nat.ble (r0.2.1.toNat + 1) (([] ++ r0.2.2).length)) (
                   ∃ r4 : List Int × Bool, SC P 40 [.one (.int .i64 r0.1), .one (.int .i64 r0.2.1)] [] [.one (.sl 0 none), .one (.bool r4.2)] [.row (.int .i64) r4.1 .own] ∧
                    ∃ r5 : List (List Int), SC P 59 [.one (.int .i64 r0.1), .one (.ro .bool (([] ++ r0.2.2).set r0.2.1.toNat false))] [] [.one (.sl 0 none)] [.row (.sl (.int .i64)) r5 .own] ∧
                     ∃ r6 : Bool, SC P 58 [.one (.ro (.sl (.int .i64)) r5), .one (.ro (.int .i64) r4.1)] [] [.one (.bool r6)] [] ∧
                      Ret r lh [.one (.bool (r2.2.2.2 == r6))] []))))))))))))) := by kernel_rfl
theorem c12 (code : List Int) (hc : Bytes code) : SC P 12 [.one (.ro (.int .u8) code)] [] [.one (.bool true)] [] := by
  refine SC_of_FB (H := H12) E_ok Try.func12 (by kernel_rfl) ?_
  rw [eq12]
  refine Br_d (fun _ => ⟨rfl, rfl⟩) (fun hcl => ?_)
  obtain ⟨k, lost, t, ht, s0⟩ := c57 code hc
  have s1 := c41 k lost t
  have s2 := c43 k lost t (by omega)
  obtain ⟨f4, f8⟩ := planOfF_len (kind := k) (lost := lost) (there := t)
  have hdef : planOfF k lost t = bif inB k 1 2 && (inB lost 0 7 && decide (t.length = 8)) then resP lost (fewest (planT k lost) (othersF lost t)) else (0, [], [], false) := rfl
  generalize planOfF k lost t = R at s1 s2 f4 f8 hdef
  have s3 := c53 (R.1, R.2.1, R.2.2.1) (by dsimp only; omega) (by dsimp only; omega)
  have no : (inB k 1 2 && (inB lost 0 7 && decide (t.length = 8))) = false → R.2.2.2 = false := fun h => by rw [hdef, h]; rfl
  refine ⟨(k, lost, t), s0, R, s1, R, s2, Br_bne rfl ⟨true, s3, Br_nb (fun e => by cases e) (fun _ => Br_d (fun e => ⟨?_, rfl⟩) (fun e1 => Br_d (fun e => ⟨?_, rfl⟩) (fun e2 => Br_d (fun e => ⟨?_, rfl⟩) (fun e3 => Br_d (fun e => ⟨?_, rfl⟩) (fun e4 => ?_)))))⟩⟩
  · have e : k < 1 := e
    rw [no (by rw [show inB k 1 2 = false from Bool.eq_false_iff.2 fun h => by have := inB_iff.1 h; omega]; rfl)]; rfl
  · have e : 2 < k := e
    rw [no (by rw [show inB k 1 2 = false from Bool.eq_false_iff.2 fun h => by have := inB_iff.1 h; omega]; rfl)]; rfl
  · have e : lost < 0 := e
    rw [no (by rw [show inB lost 0 7 = false from Bool.eq_false_iff.2 fun h => by have := inB_iff.1 h; omega, Bool.false_and, Bool.and_false])]; rfl
  · have e : 8 ≤ lost := e
    rw [no (by rw [show inB lost 0 7 = false from Bool.eq_false_iff.2 fun h => by have := inB_iff.1 h; omega, Bool.false_and, Bool.and_false])]; rfl
  have e1 : ¬ k < 1 := e1
  have e2 : ¬ 2 < k := e2
  have e3 : ¬ lost < 0 := e3
  have e4 : ¬ 8 ≤ lost := e4
  refine Br_nd (fun e => ⟨?_, rfl⟩) (fun e5 => ?_)
  · have e : ¬ ((t.length : Int) = 8) := e
    rw [no (by rw [decide_eq_false (show ¬ t.length = 8 by omega), Bool.and_false, Bool.and_false])]; rfl
  have e5 : (t.length : Int) = 8 := e5
  have h8 : t.length = 8 := by omega
  have hk : inB k 1 2 = true := inB_iff.2 ⟨by omega, by omega⟩
  have hL : inB lost 0 7 = true := inB_iff.2 ⟨by omega, by omega⟩
  have hok : R.2.2.2 = hasI k lost (othersF lost t) := by
    rw [hdef, hk, hL, decide_eq_true h8, Bool.and_self, Bool.and_self, cond_true, resP_ok, fewest_some_congr (planT_some k lost), fewest_has hk (by omega) (by omega) h8]
  have s4 := c40 k lost
  have hset : (t.set lost.toNat false).length = 8 := by rw [List.length_set]; exact h8
  have s5 := c59 k (t.set lost.toNat false) (by omega)
  rw [flag_less (by omega) (by omega) h8] at s5
  obtain ⟨hU, _⟩ := others_sub (lost := lost) h8 (List.Sublist.refl _)
  have hUl := (sub_sh hU).2
  have s6 := c58 ((othersF lost t).map (codeRow k)) (codeRow k lost) (by rw [List.length_map]; omega) (fun l hl => by obtain ⟨i, _, rfl⟩ := List.mem_map.1 hl; have := codeRow_le (kind := k) (i := i); omega) (by have := codeRow_le (kind := k) (i := lost); omega)
  rw [span_has hk (by omega) (by omega) hU] at s6
  simp only [List.nil_append]
  refine Ck_room (by omega) (Ck_d (by omega) (Ck_d (by omega) (Ck_le (by omega) ⟨(codeRow k lost, _), s4, _, s5, _, s6, ?_, rfl⟩)))
  rw [hok]
  cases hasI k lost (othersF lost t) <;> rfl
end Go.Proofs.Ytnbdhclkmcfdfaa.Sh
