/- What is read of shards: contracts of the program's functions. -/
import Derived.Test.YtlebgbcoljnejaaShR2
import Derived.Test.YtlebgbcoljnejaaMaRead
namespace Go.Proofs.Ytlebgbcoljnejaa.Sh
open Go
set_option linter.unusedVariables false
set_option linter.unusedSimpArgs false
/-! loop.example/keelson/impl.fits -/
def H106 : Hint := ⟨[[(0, 0, .bool), (1, 0, .bool), (7, 0, .bool), (14, 0, .bool), (15, 0, .bool), (16, 0, .bool)]], [], [(5, [0, 1, 3, 5, 6, 7, 8, 2, 4, 9])], [], [], [], []⟩
def S106_L0 (kind0 : Int) (vals1 : List Int) (x14 : List Int) (x15 : Int) (x16 : Int) (h0 : List Int) : St := ⟨[(0, .w (.one (.int .i64 kind0))), (1, .w (.one (.ro (.int .i64) vals1))), (7, .w (.one (.ptr 0 0 0))), (14, .w (.one (.ro (.int .i64) x14))), (15, .w (.one (.int .i64 x15))), (16, .w (.one (.int .i64 x16)))], [.row (.int .i64) h0 .var]⟩
theorem eq106 (kind : Int) (vals : List Int) (shards : List Int) (r : List W) (lh : Heap) : FB E H106 Try.f106 [.one (.int .i64 kind), .one (.ro (.int .i64) vals), .one (.ro (.int .i64) shards)] [] r lh =
  (
   ∃ r0 : Int × Int × Int × Int, SC P 135 [.one (.int .i64 kind), .one (.ro (.int .i64) vals), .one (.ro (.int .i64) shards)] [] [.agg [.int .i64 r0.1, .int .i64 r0.2.1, .int .i64 r0.2.2.1, .int .i64 r0.2.2.2]] [] ∧
    FL E H106 Try.f106 0 r lh 0 (S106_L0 kind vals shards ((shards.length : Nat) : Int) 0 [r0.1, r0.2.1, r0.2.2.1, r0.2.2.2])) := by kernel_rfl
theorem eq106_L0 (kind0 : Int) (vals1 : List Int) (x14 : List Int) (x15 : Int) (x16 : Int) (h0 : List Int) (r : List W) (lh : Heap) : FL1 E H106 Try.f106 0 r lh 0 (S106_L0 kind0 vals1 x14 x15 x16 h0) =
  (
   Br (decide (x16 < x15)) (
    Ck (decide ((0 : Int) ≤ x16)) (
     Ck (decide (x16 < ((x14.length : Nat) : Int))) (
      Ck (Nat.ble 4 h0.length) (
       Ck (decide ((0 : Int) ≤ (x14.getD x16.toNat 0))) (
        Ck (decide ((x14.getD x16.toNat 0) < ((vals1.length : Nat) : Int))) (
         ∃ r0 : Int × Int × Int × Int, SC P 93 [.one (.int .i64 kind0), .one (.int .i64 (x14.getD x16.toNat 0))] [] [.agg [.int .i64 r0.1, .int .i64 r0.2.1, .int .i64 r0.2.2.1, .int .i64 r0.2.2.2]] [] ∧
          ∃ r1 : Int, SC P 122 [.agg [.int .i64 r0.1, .int .i64 r0.2.1, .int .i64 r0.2.2.1, .int .i64 r0.2.2.2], .agg [.int .i64 (h0.getD 0 0), .int .i64 (h0.getD 1 0), .int .i64 (h0.getD 2 0), .int .i64 (h0.getD 3 0)]] [] [.one (.int .i64 r1)] [] ∧
           Br (!(decide (r1 = (vals1.getD (x14.getD x16.toNat 0).toNat 0)))) (
            Ret r lh [.one (.bool false)] []) (
            FL E H106 Try.f106 0 r lh 0 (S106_L0 kind0 vals1 x14 x15 (IntKind.wrap .i64 (x16 + 1)) h0)))))))) (
    Ret r lh [.one (.bool true)] [])) := by kernel_rfl
theorem drop_getD {l : List Int} {i : Nat} (h : i < l.length) : l.drop i = l.getD i 0 :: l.drop (i + 1) := by rw [getD_eq h]; exact drop_cons h
theorem l106 (kind : Int) (vals shards : List Int) (hv : ValsP vals) (hs : ShOk shards) (h8 : shards.length ≤ 8) (d : V4) (hd : VOk d) : ∀ (n i : Nat), i + n = shards.length →
    FL E H106 Try.f106 0 [.one (.bool ((shards.drop i).all fun i => decide (dotF (rowV kind i) d = vals.getD i.toNat 0)))] [] 0 (S106_L0 kind vals shards (shards.length : Int) (i : Int) d.l)
  | 0, i, h => by
    refine FL_of1 ?_
    rw [eq106_L0, List.drop_eq_nil_of_le (by omega)]
    exact Br_f (by omega) ⟨rfl, rfl⟩
  | n + 1, i, h => by
    have hi : i < shards.length := by omega
    obtain ⟨g0, g1⟩ := shok_get hs hi
    have hvl := hv.1
    refine FL_of1 ?_
    rw [eq106_L0, wS (i := i) (by omega), drop_getD hi, List.all_cons]
    simp only [Int.toNat_natCast]
    refine Br_t (by omega) (Ck_d (by omega) (Ck_d (by omega) (Ck_le (by simp [V4.l]) (Ck_d (by omega) (Ck_d (by omega) ⟨rowV kind (shards.getD i 0), c93 kind _ g0 g1, dotF (rowV kind (shards.getD i 0)) d, c122 _ d (rowV_ok _ _) hd, Br_nd (fun e => ?_) (fun e => ?_)⟩)))))
    · rw [decide_eq_false e]; exact ⟨rfl, rfl⟩
    · rw [decide_eq_true e, Bool.true_and]
      exact l106 kind vals shards hv hs h8 d hd n (i + 1) (by omega)
theorem c106 (kind : Int) (vals shards : List Int) (hv : ValsP vals) (hs : ShOk shards) (h8 : shards.length ≤ 8) (ho : solveOk kind vals shards = true) : SC P 106 [.one (.int .i64 kind), .one (.ro (.int .i64) vals), .one (.ro (.int .i64) shards)] [] [.one (.bool (fitsI kind vals shards))] [] := by
  refine SC_of_FB (H := H106) E_ok Try.func106 (by kernel_rfl) ?_
  rw [eq106]
  refine ⟨solveI kind vals shards, c135 kind vals shards hv hs h8 ho, ?_⟩
  have := l106 kind vals shards hv hs h8 _ (solve_ok kind vals shards) shards.length 0 (by omega)
  rw [List.drop_zero] at this
  exact this
theorem flag_sh {there : List Bool} (h : there.length = 8) : ShOk (flagF there) ∧ (flagF there).length ≤ 8 := ⟨(flag_ok h).range, (flag_ok h).len⟩
def codeBears (kind : Int) (there : List Bool) : Bool := inB kind 1 2 && (decide (there.length = 8) && bearsI kind (flagF there))
def codeFits (kind : Int) (vals : List Int) (there : List Bool) : Bool := inB kind 1 2 && (valsOk vals && (decide (there.length = 8) && fitsI kind vals (flagF there)))
theorem dec8 {α : Type} (l : List α) : decide ((l.length : Int) = 8) = decide (l.length = 8) := decide_eq_decide.2 (by omega)
/-! loop.example/keelson/impl.CodeBears -/
def H21 : Hint := ⟨[], [], [], [], [], [], []⟩
theorem eq21 (kind : Int) (there : List Bool) (r : List W) (lh : Heap) : FB E H21 Try.f21 [.one (.int .i64 kind), .one (.ro .bool there)] [] r lh =
  (
   ∃ r0 : Bool, SC P 65 [.one (.int .i64 kind)] [] [.one (.bool r0)] [] ∧
    Br r0 (
     Br (decide (((there.length : Nat) : Int) = (8 : Int))) (
      ∃ r1 : List Int, SC P 67 [.one (.ro .bool there)] [] [.one (.sl 0 none)] [.row (.int .i64) r1 .own] ∧
       ∃ r2 : Bool, SC P 66 [.one (.int .i64 kind), .one (.ro (.int .i64) r1)] [] [.one (.bool r2)] [] ∧
        Ret r lh [.one (.bool r2)] []) (
      Ret r lh [.one (.bool false)] [])) (
     Ret r lh [.one (.bool false)] [])) := by kernel_rfl
theorem c21 (kind : Int) (there : List Bool) (hl : there.length ≤ 1048576) : SC P 21 [.one (.int .i64 kind), .one (.ro .bool there)] [] [.one (.bool (codeBears kind there))] [] := by
  refine SC_of_FB (H := H21) E_ok Try.func21 (by kernel_rfl) ?_
  rw [eq21]
  refine ⟨_, c65 kind, Br_b (fun e => ?_) (fun e => ⟨by rw [codeBears, e]; rfl, rfl⟩)⟩
  rw [dec8, codeBears, e, Bool.true_and]
  refine Br_d (fun e2 => ?_) (fun e2 => ⟨by rw [decide_eq_false e2]; rfl, rfl⟩)
  obtain ⟨s1, s2⟩ := flag_sh e2
  exact ⟨_, c67 there hl, _, c66 kind _ s1 s2, by rw [decide_eq_true e2]; rfl, rfl⟩
/-! loop.example/keelson/impl.CodeFits -/
def H52 : Hint := ⟨[], [], [], [], [], [], []⟩
theorem eq52 (kind : Int) (vals : List Int) (there : List Bool) (r : List W) (lh : Heap) : FB E H52 Try.f52 [.one (.int .i64 kind), .one (.ro (.int .i64) vals), .one (.ro .bool there)] [] r lh =
  (
   ∃ r0 : Bool, SC P 65 [.one (.int .i64 kind)] [] [.one (.bool r0)] [] ∧
    Br r0 (
     ∃ r1 : Bool, SC P 100 [.one (.ro (.int .i64) vals)] [] [.one (.bool r1)] [] ∧
      Br r1 (
       Br (decide (((there.length : Nat) : Int) = (8 : Int))) (
        ∃ r2 : List Int, SC P 67 [.one (.ro .bool there)] [] [.one (.sl 0 none)] [.row (.int .i64) r2 .own] ∧
         ∃ r3 : Bool, SC P 106 [.one (.int .i64 kind), .one (.ro (.int .i64) vals), .one (.ro (.int .i64) r2)] [] [.one (.bool r3)] [] ∧
          Ret r lh [.one (.bool r3)] []) (
        Ret r lh [.one (.bool false)] [])) (
       Ret r lh [.one (.bool false)] [])) (
     Ret r lh [.one (.bool false)] [])) := by kernel_rfl
theorem c52 (kind : Int) (vals : List Int) (there : List Bool) (hv : vals.length ≤ 1048576) (hl : there.length ≤ 1048576) : SC P 52 [.one (.int .i64 kind), .one (.ro (.int .i64) vals), .one (.ro .bool there)] [] [.one (.bool (codeFits kind vals there))] [] := by
  refine SC_of_FB (H := H52) E_ok Try.func52 (by kernel_rfl) ?_
  rw [eq52]
  refine ⟨_, c65 kind, Br_b (fun e => ⟨_, c100 vals hv, Br_b (fun e3 => ?_) (fun e3 => ⟨by rw [codeFits, e, e3]; rfl, rfl⟩)⟩) (fun e => ⟨by rw [codeFits, e]; rfl, rfl⟩)⟩
  rw [dec8, codeFits, e, e3, Bool.true_and, Bool.true_and]
  refine Br_d (fun e2 => ?_) (fun e2 => ⟨by rw [decide_eq_false e2]; rfl, rfl⟩)
  obtain ⟨s1, s2⟩ := flag_sh e2
  exact ⟨_, c67 there hl, _, c106 kind vals _ (vals_p e3) s1 s2 (set_solve e e2 vals), by rw [decide_eq_true e2]; rfl, rfl⟩
/-! loop.example/keelson/impl.ReadFrom -/
def H25 : Hint := ⟨[[(5, 0, .bool), (6, 0, .bool), (22, 0, .bool), (23, 0, .bool), (24, 0, .bool)]], [], [], [], [.one (.own (.int .i64))], [], []⟩
def S25_L0 (x22 : List Int) (x23 : Int) (x24 : Int) (h0 : List Int) (h1 : List Int) : St := ⟨[(5, .w (.one (.sl 0 none))), (6, .w (.one (.sl 1 none))), (22, .w (.one (.ro (.int .i64) x22))), (23, .w (.one (.int .i64 x23))), (24, .w (.one (.int .i64 x24)))], [.row (.int .i64) h0 .own, .row (.int .i64) h1 .own]⟩
theorem eq25 (kind : Int) (there : List Bool) (r : List W) (lh : Heap) : FB E H25 Try.f25 [.one (.int .i64 kind), .one (.ro .bool there)] [] r lh =
  (
   ∃ r0 : Bool, SC P 21 [.one (.int .i64 kind), .one (.ro .bool there)] [] [.one (.bool r0)] [] ∧
    Br (!r0) (
     Ret r lh [.one (.sl 0 none)] [.row (.int .i64) [] .own]) (
     ∃ r1 : List Int, SC P 67 [.one (.ro .bool there)] [] [.one (.sl 0 none)] [.row (.int .i64) r1 .own] ∧
      ∃ r2 : List (Int × (Int × (Int × Int))), SC P 71 [.one (.int .i64 kind), .one (.ro (.int .i64) r1)] [] [.one (.sl 0 none)] [.row (.pair (.int .i64) (.pair (.int .i64) (.pair (.int .i64) (.int .i64)))) r2 .own] ∧
       ∃ r3 : (List ((Int × (Int × (Int × Int))) × (Int × (Int × (Int × (Int × (Int × (Int × (Int × Int)))))))) × List Int), SC P 70 [.one (.ro (.pair (.int .i64) (.pair (.int .i64) (.pair (.int .i64) (.int .i64)))) r2)] [] [.one (.ptr 0 0 0)] [.box [.ro (.pair (.pair (.int .i64) (.pair (.int .i64) (.pair (.int .i64) (.int .i64)))) (.pair (.int .i64) (.pair (.int .i64) (.pair (.int .i64) (.pair (.int .i64) (.pair (.int .i64) (.pair (.int .i64) (.pair (.int .i64) (.int .i64))))))))) r3.1, .ro (.int .i64) r3.2]] ∧
        FL E H25 Try.f25 0 r lh 0 (S25_L0 r3.2 ((r3.2.length : Nat) : Int) 0 r1 []))) := by kernel_rfl
theorem eq25_L0 (x22 : List Int) (x23 : Int) (x24 : Int) (h0 : List Int) (h1 : List Int) (r : List W) (lh : Heap) : FL1 E H25 Try.f25 0 r lh 0 (S25_L0 x22 x23 x24 h0 h1) =
  (
   Br (decide (x24 < x23)) (
    Ck (decide ((0 : Int) ≤ x24)) (
     Ck (decide (x24 < ((x22.length : Nat) : Int))) (
      Ck (decide ((0 : Int) ≤ (x22.getD x24.toNat 0))) (
       Ck (decide ((x22.getD x24.toNat 0) < ((h0.length : Nat) : Int))) (
        Ck (Nat.ble ((x22.getD x24.toNat 0).toNat + 1) h0.length) (
         Ck (Nat.ble ((h1.length + 1) * 8) roomy) (
          FL E H25 Try.f25 0 r lh 0 (S25_L0 x22 x23 (IntKind.wrap .i64 (x24 + 1)) h0 (h1 ++ [(h0.getD (x22.getD x24.toNat 0).toNat 0)]))))))))) (
    Ret r lh [.one (.sl 0 none)] [.row (.int .i64) h1 .own])) := by kernel_rfl
def readFromF (kind : Int) (there : List Bool) : List Int := bif codeBears kind there then (spanF (rowsF kind (flagF there))).2.map (fun i => (flagF there).getD i.toNat 0) else []
theorem l25 (piv p : List Int) (hp : ∀ x ∈ piv, 0 ≤ x ∧ x < (p.length : Int)) (h8 : piv.length ≤ 1048576) : ∀ (n i : Nat) (out : List Int), i + n = piv.length → out.length = i →
    FL E H25 Try.f25 0 [.one (.sl 0 none)] [.row (.int .i64) (out ++ (piv.drop i).map (fun i => p.getD i.toNat 0)) .own] 0 (S25_L0 piv (piv.length : Int) (i : Int) p out)
  | 0, i, out, h, ho => by
    refine FL_of1 ?_
    rw [eq25_L0, List.drop_eq_nil_of_le (by omega)]
    exact Br_f (by omega) ⟨rfl, by rw [List.map_nil, List.append_nil]⟩
  | n + 1, i, out, h, ho => by
    have hi : i < piv.length := by omega
    obtain ⟨g0, g1⟩ : 0 ≤ piv.getD i 0 ∧ piv.getD i 0 < (p.length : Int) := by rw [getD_eq hi]; exact hp _ (List.getElem_mem hi)
    refine FL_of1 ?_
    rw [eq25_L0, wS (by omega), drop_getD hi, List.map_cons]
    simp only [Int.toNat_natCast]
    refine Br_t (by omega) (Ck_d (by omega) (Ck_d (by omega) (Ck_d (by omega) (Ck_d (by omega) (Ck_le (by omega) (Ck_room (by omega) ?_))))))
    have := l25 piv p hp h8 n (i + 1) (out ++ [p.getD (piv.getD i 0).toNat 0]) (by omega) (by simp; omega)
    rw [List.append_assoc] at this
    exact this
theorem c25 (kind : Int) (there : List Bool) (hl : there.length ≤ 1048576) : SC P 25 [.one (.int .i64 kind), .one (.ro .bool there)] [] [.one (.sl 0 none)] [.row (.int .i64) (readFromF kind there) .own] := by
  refine SC_of_FB (H := H25) E_ok Try.func25 (by kernel_rfl) ?_
  rw [eq25]
  refine ⟨_, c21 kind there hl, Br_nb (fun e => ⟨rfl, by rw [readFromF, e]; rfl⟩) (fun e => ?_)⟩
  have e' := e
  rw [codeBears, Bool.and_eq_true, Bool.and_eq_true, decide_eq_true_iff] at e'
  obtain ⟨s1, s2⟩ := flag_sh e'.2.1
  have hrl : (rowsF kind (flagF there)).length = (flagF there).length := List.length_map _
  refine ⟨_, c67 there hl, _, c71 kind _ s1 (by omega), (_, _), c70 _ (rows_ok kind _) (by omega), ?_⟩
  rw [readFromF, e, cond_true]
  have hpl := spanF_len (rowsF kind (flagF there))
  have := l25 (spanF (rowsF kind (flagF there))).2 (flagF there) (fun x hx => by have := span_piv' _ x hx; rw [hrl] at this; exact this) (by omega) _ 0 [] (Nat.zero_add _) rfl
  exact this
/-! loop.example/keelson/impl.readData -/
def H102 : Hint := ⟨[], [], [], [], [.one (.own (.int .i64)), .one (.c .bool)], [], []⟩
theorem eq102 (kind : Int) (vals : List Int) (shards : List Int) (r : List W) (lh : Heap) : FB E H102 Try.f102 [.one (.int .i64 kind), .one (.ro (.int .i64) vals), .one (.ro (.int .i64) shards)] [] r lh =
  (
   ∃ r0 : Bool, SC P 66 [.one (.int .i64 kind), .one (.ro (.int .i64) shards)] [] [.one (.bool r0)] [] ∧
    Br (!r0) (
     Ret r lh [.one (.sl 0 none), .one (.bool false)] [.row (.int .i64) [] .own]) (
     ∃ r1 : Bool, SC P 106 [.one (.int .i64 kind), .one (.ro (.int .i64) vals), .one (.ro (.int .i64) shards)] [] [.one (.bool r1)] [] ∧
      Br (!r1) (
       Ret r lh [.one (.sl 0 none), .one (.bool false)] [.row (.int .i64) [] .own]) (
       ∃ r2 : Int × Int × Int × Int, SC P 135 [.one (.int .i64 kind), .one (.ro (.int .i64) vals), .one (.ro (.int .i64) shards)] [] [.agg [.int .i64 r2.1, .int .i64 r2.2.1, .int .i64 r2.2.2.1, .int .i64 r2.2.2.2]] [] ∧
        ∃ r3 : List Int, SC P 86 [.agg [.int .i64 r2.1, .int .i64 r2.2.1, .int .i64 r2.2.2.1, .int .i64 r2.2.2.2]] [] [.one (.sl 0 none)] [.row (.int .i64) r3 .own] ∧
         Ret r lh [.one (.sl 0 none), .one (.bool true)] [.row (.int .i64) r3 .own]))) := by kernel_rfl
def readOk (kind : Int) (vals shards : List Int) : Bool := bearsI kind shards && fitsI kind vals shards
def readL (kind : Int) (vals shards : List Int) : List Int := bif readOk kind vals shards then (solveI kind vals shards).l else []
theorem readL_len {kind : Int} {vals shards : List Int} : (readL kind vals shards).length ≤ 4 := by
  rw [readL]
  cases readOk kind vals shards
  · exact Nat.zero_le _
  · exact Nat.le_refl _
theorem c102 (kind : Int) (vals shards : List Int) (hv : ValsP vals) (hs : ShOk shards) (h8 : shards.length ≤ 8) (ho : bearsI kind shards = true → solveOk kind vals shards = true) : SC P 102 [.one (.int .i64 kind), .one (.ro (.int .i64) vals), .one (.ro (.int .i64) shards)] [] [.one (.sl 0 none), .one (.bool (readOk kind vals shards))] [.row (.int .i64) (readL kind vals shards) .own] := by
  refine SC_of_FB (H := H102) E_ok Try.func102 (by kernel_rfl) ?_
  rw [eq102]
  refine ⟨_, c66 kind shards hs h8, Br_nb (fun e => ⟨by rw [readOk, e]; rfl, by rw [readL, readOk, e]; rfl⟩) (fun e => ⟨_, c106 kind vals shards hv hs h8 (ho e), Br_nb (fun e2 => ⟨by rw [readOk, e, e2]; rfl, by rw [readL, readOk, e, e2]; rfl⟩) (fun e2 => ?_)⟩)⟩
  rw [readL, readOk, e, e2]
  exact ⟨_, c135 kind vals shards hv hs h8 (ho e), _, c86 _, rfl, rfl⟩
/-! loop.example/keelson/impl.ReadData -/
def H48 : Hint := ⟨[], [], [], [], [.one (.own (.int .i64)), .one (.c .bool)], [], []⟩
theorem eq48 (kind : Int) (vals : List Int) (there : List Bool) (r : List W) (lh : Heap) : FB E H48 Try.f48 [.one (.int .i64 kind), .one (.ro (.int .i64) vals), .one (.ro .bool there)] [] r lh =
  (
   ∃ r0 : Bool, SC P 65 [.one (.int .i64 kind)] [] [.one (.bool r0)] [] ∧
    Br (!r0) (
     Ret r lh [.one (.sl 0 none), .one (.bool false)] [.row (.int .i64) [] .own]) (
     ∃ r1 : Bool, SC P 100 [.one (.ro (.int .i64) vals)] [] [.one (.bool r1)] [] ∧
      Br (!r1) (
       Ret r lh [.one (.sl 0 none), .one (.bool false)] [.row (.int .i64) [] .own]) (
       Br (!(decide (((there.length : Nat) : Int) = (8 : Int)))) (
        Ret r lh [.one (.sl 0 none), .one (.bool false)] [.row (.int .i64) [] .own]) (
        ∃ r2 : List Int, SC P 67 [.one (.ro .bool there)] [] [.one (.sl 0 none)] [.row (.int .i64) r2 .own] ∧
         ∃ r3 : List Int × Bool, SC P 102 [.one (.int .i64 kind), .one (.ro (.int .i64) vals), .one (.ro (.int .i64) r2)] [] [.one (.sl 0 none), .one (.bool r3.2)] [.row (.int .i64) r3.1 .own] ∧
          Ret r lh [.one (.sl 0 none), .one (.bool r3.2)] [.row (.int .i64) r3.1 .own])))) := by kernel_rfl
def readDataOk (kind : Int) (vals : List Int) (there : List Bool) : Bool := (inB kind 1 2 && valsOk vals) && (decide (there.length = 8) && readOk kind vals (flagF there))
def readDataL (kind : Int) (vals : List Int) (there : List Bool) : List Int := bif readDataOk kind vals there then (solveI kind vals (flagF there)).l else []
theorem readDataL_len {kind : Int} {vals : List Int} {there : List Bool} : (readDataL kind vals there).length ≤ 4 := by
  rw [readDataL]
  cases readDataOk kind vals there
  · exact Nat.zero_le _
  · exact Nat.le_refl _
theorem c48 (kind : Int) (vals : List Int) (there : List Bool) (hv : vals.length ≤ 1048576) (hl : there.length ≤ 1048576) : SC P 48 [.one (.int .i64 kind), .one (.ro (.int .i64) vals), .one (.ro .bool there)] [] [.one (.sl 0 none), .one (.bool (readDataOk kind vals there))] [.row (.int .i64) (readDataL kind vals there) .own] := by
  refine SC_of_FB (H := H48) E_ok Try.func48 (by kernel_rfl) ?_
  rw [eq48]
  refine ⟨_, c65 kind, Br_nb (fun e => ⟨by rw [readDataOk, e]; rfl, by rw [readDataL, readDataOk, e]; rfl⟩) (fun e => ⟨_, c100 vals hv, Br_nb (fun e2 => ⟨by rw [readDataOk, e, e2]; rfl, by rw [readDataL, readDataOk, e, e2]; rfl⟩) (fun e2 => ?_)⟩)⟩
  rw [dec8]
  refine Br_nd (fun e3 => ⟨by rw [readDataOk, decide_eq_false e3, Bool.false_and, Bool.and_false], by rw [readDataL, readDataOk, decide_eq_false e3, Bool.false_and, Bool.and_false]; rfl⟩) (fun e3 => ?_)
  obtain ⟨s1, s2⟩ := flag_sh e3
  rw [readDataL, readDataOk, e, e2, decide_eq_true e3, Bool.true_and, Bool.true_and]
  exact ⟨_, c67 there hl, (_, _), c102 kind vals _ (vals_p e2) s1 s2 (fun _ => set_solve e e3 vals), rfl, rfl⟩
/-! slices.Index[[]int,int] -/
def H134 : Hint := ⟨[[(0, 0, .bool), (1, 0, .bool), (7, 0, .bool), (8, 0, .bool)]], [], [], [], [], [], []⟩
def S134_L0 (s0 : List Int) (v1 : Int) (x7 : Int) (x8 : Int) : St := ⟨[(0, .w (.one (.ro (.int .i64) s0))), (1, .w (.one (.int .i64 v1))), (7, .w (.one (.int .i64 x7))), (8, .w (.one (.int .i64 x8)))], []⟩
theorem eq134 (s : List Int) (v : Int) (r : List W) (lh : Heap) : FB E H134 Try.f134 [.one (.ro (.int .i64) s), .one (.int .i64 v)] [] r lh =
  (
   FL E H134 Try.f134 0 r lh 0 (S134_L0 s v ((s.length : Nat) : Int) 0)) := by kernel_rfl
theorem eq134_L0 (s0 : List Int) (v1 : Int) (x7 : Int) (x8 : Int) (r : List W) (lh : Heap) : FL1 E H134 Try.f134 0 r lh 0 (S134_L0 s0 v1 x7 x8) =
  (
   Br (decide (x8 < x7)) (
    Ck (decide ((0 : Int) ≤ x8)) (
     Ck (decide (x8 < ((s0.length : Nat) : Int))) (
      Br (decide (v1 = (s0.getD x8.toNat 0))) (
       Ret r lh [.one (.int .i64 x8)] []) (
       FL E H134 Try.f134 0 r lh 0 (S134_L0 s0 v1 x7 (IntKind.wrap .i64 (x8 + 1))))))) (
    Ret r lh [.one (.int .i64 (-1))] [])) := by kernel_rfl
theorem l134 (l : List Int) (x : Int) (hl : l.length ≤ 1048576) : ∀ (n i : Nat), i + n = l.length → FL E H134 Try.f134 0 [.one (.int .i64 (findR (fun j => decide (x = l.getD j 0)) (fun j => (j : Int)) (-1) i n))] [] 0 (S134_L0 l x (l.length : Int) (i : Int))
  | 0, i, h => by
    refine FL_of1 ?_
    rw [eq134_L0]
    exact Br_f (by omega) ⟨rfl, rfl⟩
  | n + 1, i, h => by
    refine FL_of1 ?_
    rw [eq134_L0, wS (by omega), findR]
    simp only [Int.toNat_natCast]
    refine Br_t (by omega) (Ck_d (by omega) (Ck_d (by omega) (Br_d (fun h1 => ?_) (fun h1 => ?_))))
    · exact ⟨by rw [decide_eq_true h1, cond_true], rfl⟩
    · rw [decide_eq_false h1, cond_false]
      exact l134 l x hl n (i + 1) (by omega)
theorem c134 (l : List Int) (x : Int) (hl : l.length ≤ 1048576) : SC P 134 [.one (.ro (.int .i64) l), .one (.int .i64 x)] [] [.one (.int .i64 (findR (fun j => decide (x = l.getD j 0)) (fun j => (j : Int)) (-1) 0 l.length))] [] := by
  refine SC_of_FB (H := H134) E_ok Try.func134 (by kernel_rfl) ?_
  rw [eq134]
  exact l134 l x hl l.length 0 (by omega)
/-! slices.Contains[[]int,int] -/
def H101 : Hint := ⟨[], [], [], [], [], [], []⟩
theorem eq101 (s : List Int) (v : Int) (r : List W) (lh : Heap) : FB E H101 Try.f101 [.one (.ro (.int .i64) s), .one (.int .i64 v)] [] r lh =
  (
   ∃ r0 : Int, SC P 134 [.one (.ro (.int .i64) s), .one (.int .i64 v)] [] [.one (.int .i64 r0)] [] ∧
    Ret r lh [.one (.bool (decide ((0 : Int) ≤ r0)))] []) := by kernel_rfl
theorem c101 (l : List Int) (x : Int) (hl : l.length ≤ 1048576) : SC P 101 [.one (.ro (.int .i64) l), .one (.int .i64 x)] [] [.one (.bool (has l x))] [] := by
  refine SC_of_FB (H := H101) E_ok Try.func101 (by kernel_rfl) ?_
  rw [eq101]
  exact ⟨_, c134 l x hl, by rw [hasI_findR], rfl⟩
/-! slices.Grow[[]int,int] -/
def H138 : Hint := ⟨[], [], [], [], [.one (.own (.int .i64))], [], []⟩
theorem eq138 (n : Int) (r : List W) (lh : Heap) : FB E H138 Try.f138 [.one (.nil), .one (.int .i64 n)] [] r lh =
  (
   Br (decide (n < (0 : Int))) (
    False) (
    Br (decide ((0 : Int) < (IntKind.wrap .i64 (n - 0)))) (
     Ck (decide ((0 : Int) ≤ (IntKind.wrap .i64 (n - 0)))) (
      Ck (Nat.ble ((List.replicate ((IntKind.wrap .i64 (n - 0)).toNat) (0 : Int)).length * 8) roomy) (
       Ck (decide ((0 : Int) ≤ (((List.replicate ((IntKind.wrap .i64 (n - 0)).toNat) (0 : Int)).length : Nat) : Int))) (
        Ck (decide ((((List.replicate ((IntKind.wrap .i64 (n - 0)).toNat) (0 : Int)).length : Nat) : Int) ≤ (((List.replicate ((IntKind.wrap .i64 (n - 0)).toNat) (0 : Int)).length : Nat) : Int))) (
         Ret r lh [.one (.sl 0 none)] [.row (.int .i64) ((List.replicate ((IntKind.wrap .i64 (n - 0)).toNat) (0 : Int)).take 0) .own]))))) (
     Ret r lh [.one (.sl 0 none)] [.row (.int .i64) [] .own]))) := by kernel_rfl
theorem c138 (n : Int) (h0 : 0 ≤ n) (h1 : n ≤ 1048576) : SC P 138 [.one (.nil), .one (.int .i64 n)] [] [.one (.sl 0 none)] [.row (.int .i64) [] .own] := by
  refine SC_of_FB (H := H138) E_ok Try.func138 (by kernel_rfl) ?_
  rw [eq138]
  have hw := wrap64 (n := n - 0) (by omega) (by omega)
  simp only [hw, List.length_replicate]
  exact Br_f (by omega) (Br_d (fun h => Ck_d (by omega) (Ck_room (by omega) (Ck_d (by omega) (Ck_d (by omega) ⟨rfl, by rw [List.take_zero]⟩)))) (fun h => ⟨rfl, rfl⟩))
/-! slices.Concat[[]int,int] -/
def H107 : Hint := ⟨[[(0, 0, .bool), (3, 0, .bool), (9, 0, .bool), (10, 0, .bool), (11, 0, .bool)], [(6, 0, .bool), (25, 0, .bool), (26, 0, .bool), (27, 0, .bool)]], [], [], [], [], [], []⟩
def S107_L0 (slices0 : List (List Int)) (size3 : Int) (x9 : List (List Int)) (x10 : Int) (x11 : Int) : St := ⟨[(0, .w (.one (.ro (.sl (.int .i64)) slices0))), (3, .w (.one (.int .i64 size3))), (9, .w (.one (.ro (.sl (.int .i64)) x9))), (10, .w (.one (.int .i64 x10))), (11, .w (.one (.int .i64 x11)))], []⟩
def S107_L1 (x25 : List (List Int)) (x26 : Int) (x27 : Int) (h0 : List Int) : St := ⟨[(6, .w (.one (.sl 0 none))), (25, .w (.one (.ro (.sl (.int .i64)) x25))), (26, .w (.one (.int .i64 x26))), (27, .w (.one (.int .i64 x27)))], [.row (.int .i64) h0 .own]⟩
theorem eq107 (slices : List (List Int)) (r : List W) (lh : Heap) : FB E H107 Try.f107 [.one (.ro (.sl (.int .i64)) slices)] [] r lh =
  (
   FL E H107 Try.f107 0 r lh 0 (S107_L0 slices 0 slices ((slices.length : Nat) : Int) 0)) := by kernel_rfl
theorem eq107_L0 (slices0 : List (List Int)) (size3 : Int) (x9 : List (List Int)) (x10 : Int) (x11 : Int) (r : List W) (lh : Heap) : FL1 E H107 Try.f107 0 r lh 0 (S107_L0 slices0 size3 x9 x10 x11) =
  (
   Br (decide (x11 < x10)) (
    Ck (decide ((0 : Int) ≤ x11)) (
     Ck (decide (x11 < ((x9.length : Nat) : Int))) (
      Br (decide ((IntKind.wrap .i64 (size3 + (((x9.getD x11.toNat []).length : Nat) : Int))) < (0 : Int))) (
       False) (
       FL E H107 Try.f107 0 r lh 0 (S107_L0 slices0 (IntKind.wrap .i64 (size3 + (((x9.getD x11.toNat []).length : Nat) : Int))) x9 x10 (IntKind.wrap .i64 (x11 + 1))))))) (
    ∃ r0 : List Int, SC P 138 [.one (.nil), .one (.int .i64 size3)] [] [.one (.sl 0 none)] [.row (.int .i64) r0 .own] ∧
     FL E H107 Try.f107 0 r lh 1 (S107_L1 slices0 ((slices0.length : Nat) : Int) 0 r0))) := by kernel_rfl
theorem eq107_L1 (x25 : List (List Int)) (x26 : Int) (x27 : Int) (h0 : List Int) (r : List W) (lh : Heap) : FL1 E H107 Try.f107 0 r lh 1 (S107_L1 x25 x26 x27 h0) =
  (
   Br (decide (x27 < x26)) (
    Ck (decide ((0 : Int) ≤ x27)) (
     Ck (decide (x27 < ((x25.length : Nat) : Int))) (
      Ck (Nat.ble ((h0.length + (x25.getD x27.toNat []).length) * 8) roomy) (
       FL E H107 Try.f107 0 r lh 1 (S107_L1 x25 x26 (IntKind.wrap .i64 (x27 + 1)) (h0 ++ (x25.getD x27.toNat []))))))) (
    Ret r lh [.one (.sl 0 none)] [.row (.int .i64) h0 .own])) := by kernel_rfl
theorem c107 (a b : List Int) (ha : a.length ≤ 1000) (hb : b.length ≤ 1000) : SC P 107 [.one (.ro (.sl (.int .i64)) [a, b])] [] [.one (.sl 0 none)] [.row (.int .i64) (a ++ b) .own] := by
  refine SC_of_FB (H := H107) E_ok Try.func107 (by kernel_rfl) ?_
  rw [eq107]
  have s0 : ∀ (i : Nat) (z z' : Int), i < 2 → z + (([a, b] : List (List Int)).getD i []).length = z' → 0 ≤ z → z ≤ 5000 → FL E H107 Try.f107 0 [.one (.sl 0 none)] [.row (.int .i64) (a ++ b) .own] 0 (S107_L0 [a, b] z' [a, b] 2 ((i + 1 : Nat) : Int)) → FL E H107 Try.f107 0 [.one (.sl 0 none)] [.row (.int .i64) (a ++ b) .own] 0 (S107_L0 [a, b] z [a, b] 2 (i : Int)) := by
    intro i z z' hi hz h0 h1 hF
    have hg : (([a, b] : List (List Int)).getD i []).length ≤ 1000 := by
      have : i = 0 ∨ i = 1 := by omega
      rcases this with rfl | rfl
      · exact ha
      · exact hb
    refine FL_of1 ?_
    rw [eq107_L0, wS (i := i) (by omega)]
    simp only [Int.toNat_natCast]
    have hw := wrap64 (n := z + ((([a, b] : List (List Int)).getD i []).length : Int)) (by omega) (by omega)
    rw [hz] at hw
    simp only [hz, hw]
    exact Br_t (by omega) (Ck_d (by omega) (Ck_d (by simp; omega) (Br_f (by omega) hF)))
  have s1 : ∀ (i : Nat) (h : List Int), i < 2 → h.length ≤ 5000 → FL E H107 Try.f107 0 [.one (.sl 0 none)] [.row (.int .i64) (a ++ b) .own] 1 (S107_L1 [a, b] 2 ((i + 1 : Nat) : Int) (h ++ (([a, b] : List (List Int)).getD i []))) → FL E H107 Try.f107 0 [.one (.sl 0 none)] [.row (.int .i64) (a ++ b) .own] 1 (S107_L1 [a, b] 2 (i : Int) h) := by
    intro i h hi hl hF
    have hg : (([a, b] : List (List Int)).getD i []).length ≤ 1000 := by
      have : i = 0 ∨ i = 1 := by omega
      rcases this with rfl | rfl
      · exact ha
      · exact hb
    refine FL_of1 ?_
    rw [eq107_L1, wS (i := i) (by omega)]
    simp only [Int.toNat_natCast]
    exact Br_t (by omega) (Ck_d (by omega) (Ck_d (by simp; omega) (Ck_room (by omega) hF)))
  refine s0 0 0 (a.length : Int) (by omega) (by simp) (by omega) (by omega) (s0 1 _ ((a.length : Int) + b.length) (by omega) rfl (by omega) (by omega) ?_)
  refine FL_of1 ?_
  rw [eq107_L0]
  refine Br_f (by simp) ⟨[], c138 _ (by omega) (by omega), s1 0 [] (by omega) (by simp) (s1 1 _ (by omega) (by simp; omega) ?_)⟩
  refine FL_of1 ?_
  rw [eq107_L1]
  exact Br_f (by simp) ⟨rfl, rfl⟩
/-! loop.example/keelson/impl.ReadFind -/
def H53 : Hint := ⟨[[(0, 0, .bool), (1, 0, .bool), (7, 1, .bool), (8, 0, .bool), (30, 1, .bool), (31, 0, .bool), (32, 0, .bool)]], [], [(10, [0, 1, 2, 3, 4, 5, 6, 7, 8, 9, 10, 11, 12])], [], [], [], []⟩
def S53_L0 (kind0 : Int) (vals1 : List Int) (shards7 : List Int) (found8 : Int) (x30 : List Int) (x31 : Int) (x32 : Int) : St := ⟨[(0, .w (.one (.int .i64 kind0))), (1, .w (.one (.ro (.int .i64) vals1))), (7, .w (.one (.ro (.int .i64) shards7))), (8, .w (.one (.int .i64 found8))), (30, .w (.one (.ro (.int .i64) x30))), (31, .w (.one (.int .i64 x31))), (32, .w (.one (.int .i64 x32)))], []⟩
theorem eq53 (kind : Int) (vals : List Int) (there : List Bool) (r : List W) (lh : Heap) : FB E H53 Try.f53 [.one (.int .i64 kind), .one (.ro (.int .i64) vals), .one (.ro .bool there)] [] r lh =
  (
   ∃ r0 : Bool, SC P 65 [.one (.int .i64 kind)] [] [.one (.bool r0)] [] ∧
    Br (!r0) (
     Ret r lh [.one (.int .i64 (-2))] []) (
     ∃ r1 : Bool, SC P 100 [.one (.ro (.int .i64) vals)] [] [.one (.bool r1)] [] ∧
      Br (!r1) (
       Ret r lh [.one (.int .i64 (-2))] []) (
       Br (!(decide (((there.length : Nat) : Int) = (8 : Int)))) (
        Ret r lh [.one (.int .i64 (-2))] []) (
        ∃ r2 : List Int, SC P 67 [.one (.ro .bool there)] [] [.one (.sl 0 none)] [.row (.int .i64) r2 .own] ∧
         ∃ r3 : Bool, SC P 106 [.one (.int .i64 kind), .one (.ro (.int .i64) vals), .one (.ro (.int .i64) r2)] [] [.one (.bool r3)] [] ∧
          Br r3 (
           Ret r lh [.one (.int .i64 (-1))] []) (
           FL E H53 Try.f53 0 r lh 0 (S53_L0 kind vals r2 (-2) r2 ((r2.length : Nat) : Int) 0)))))) := by kernel_rfl
theorem eq53_L0 (kind0 : Int) (vals1 : List Int) (shards7 : List Int) (found8 : Int) (x30 : List Int) (x31 : Int) (x32 : Int) (r : List W) (lh : Heap) : FL1 E H53 Try.f53 0 r lh 0 (S53_L0 kind0 vals1 shards7 found8 x30 x31 x32) =
  (
   Br (decide (x32 < x31)) (
    Ck (decide ((0 : Int) ≤ x32)) (
     Ck (decide (x32 < ((x30.length : Nat) : Int))) (
      Ck (decide ((0 : Int) ≤ x32)) (
       Ck (decide (x32 ≤ ((shards7.length : Nat) : Int))) (
        Ck (decide (((shards7.length : Nat) : Int) ≤ ((shards7.length : Nat) : Int))) (
         Ck (decide ((0 : Int) ≤ (IntKind.wrap .i64 (x32 + 1)))) (
          Ck (decide ((IntKind.wrap .i64 (x32 + 1)) ≤ ((shards7.length : Nat) : Int))) (
           Ck (decide (((shards7.length : Nat) : Int) ≤ ((shards7.length : Nat) : Int))) (
            Ck (decide (((shards7.length : Nat) : Int) ≤ ((shards7.length : Nat) : Int))) (
             ∃ r0 : List Int, SC P 107 [.one (.ro (.sl (.int .i64)) [((shards7.drop 0).take (x32.toNat - 0)), ((shards7.drop (IntKind.wrap .i64 (x32 + 1)).toNat).take (((shards7.length : Nat) : Int).toNat - (IntKind.wrap .i64 (x32 + 1)).toNat))])] [] [.one (.sl 0 none)] [.row (.int .i64) r0 .own] ∧
              ∃ r1 : Bool, SC P 106 [.one (.int .i64 kind0), .one (.ro (.int .i64) vals1), .one (.ro (.int .i64) r0)] [] [.one (.bool r1)] [] ∧
               Br (!r1) (
                FL E H53 Try.f53 0 r lh 0 (S53_L0 kind0 vals1 shards7 found8 x30 x31 (IntKind.wrap .i64 (x32 + 1)))) (
                Br (decide ((0 : Int) ≤ found8)) (
                 Ret r lh [.one (.int .i64 (-2))] []) (
                 FL E H53 Try.f53 0 r lh 0 (S53_L0 kind0 vals1 shards7 (x30.getD x32.toNat 0) x30 x31 (IntKind.wrap .i64 (x32 + 1))))))))))))))) (
    Ret r lh [.one (.int .i64 found8)] [])) := by kernel_rfl
def findS (kind : Int) (vals p : List Int) : Nat → Nat → Int → Int
  | _, 0, found => found
  | i, n + 1, found => bif !fitsI kind vals (p.take i ++ p.drop (i + 1)) then findS kind vals p (i + 1) n found else bif decide (0 ≤ found) then -2 else findS kind vals p (i + 1) n (p.getD i 0)
def readFind (kind : Int) (vals : List Int) (there : List Bool) : Int :=
  bif (inB kind 1 2 && valsOk vals) && decide (there.length = 8) then (bif fitsI kind vals (flagF there) then -1 else findS kind vals (flagF there) 0 (flagF there).length (-2)) else -2
theorem l53 (kind : Int) (hk : inB kind 1 2 = true) (vals : List Int) (hv : ValsP vals) (there : List Bool) (h8 : there.length = 8) : ∀ (n i : Nat) (found : Int), i + n = (flagF there).length → FL E H53 Try.f53 0 [.one (.int .i64 (findS kind vals (flagF there) i n found))] [] 0 (S53_L0 kind vals (flagF there) found (flagF there) ((flagF there).length : Int) (i : Int))
  | 0, i, found, h => by
    refine FL_of1 ?_
    rw [eq53_L0]
    exact Br_f (by omega) ⟨rfl, rfl⟩
  | n + 1, i, found, h => by
    have hfo := flag_ok h8
    have hl := hfo.len
    have hls := hfo.less i (by omega)
    have hset : (there.set ((flagF there).getD i 0).toNat false).length = 8 := by rw [List.length_set]; exact h8
    obtain ⟨s1, s2⟩ := flag_sh hset
    have hso := set_solve hk hset vals
    rw [← hls] at s1 s2 hso
    refine FL_of1 ?_
    rw [eq53_L0, wS (i := i) (by omega), findS]
    simp only [Int.toNat_natCast, List.drop_zero, Nat.sub_zero]
    have e : ((flagF there).drop (i + 1)).take ((flagF there).length - (i + 1)) = (flagF there).drop (i + 1) := List.take_of_length_le (by simp)
    rw [e]
    refine Br_t (by omega) (Ck_d (by omega) (Ck_d (by omega) (Ck_d (by omega) (Ck_d (by omega) (Ck_d (by omega) (Ck_d (by omega) (Ck_d (by omega) (Ck_d (by omega) (Ck_d (by omega)
      ⟨_, c107 _ _ (by simp; omega) (by simp; omega), _, c106 kind vals _ hv s1 s2 hso, Br_nb (fun e => ?_) (fun e => Br_d (fun e2 => ?_) (fun e2 => ?_))⟩)))))))))
    · rw [e, Bool.not_false, cond_true]
      exact l53 kind hk vals hv there h8 n (i + 1) found (by omega)
    · rw [e, decide_eq_true e2]
      exact ⟨rfl, rfl⟩
    · rw [e, decide_eq_false e2]
      exact l53 kind hk vals hv there h8 n (i + 1) _ (by omega)
theorem c53 (kind : Int) (vals : List Int) (there : List Bool) (hv : vals.length ≤ 1048576) (hl : there.length ≤ 1048576) : SC P 53 [.one (.int .i64 kind), .one (.ro (.int .i64) vals), .one (.ro .bool there)] [] [.one (.int .i64 (readFind kind vals there))] [] := by
  refine SC_of_FB (H := H53) E_ok Try.func53 (by kernel_rfl) ?_
  rw [eq53]
  refine ⟨_, c65 kind, Br_nb (fun e => ⟨by rw [readFind, e]; rfl, rfl⟩) (fun e => ⟨_, c100 vals hv, Br_nb (fun e2 => ⟨by rw [readFind, e, e2]; rfl, rfl⟩) (fun e2 => ?_)⟩)⟩
  rw [dec8]
  refine Br_nd (fun e3 => ⟨by rw [readFind, decide_eq_false e3, Bool.and_false]; rfl, rfl⟩) (fun e3 => ?_)
  obtain ⟨s1, s2⟩ := flag_sh e3
  rw [readFind, e, e2, decide_eq_true e3]
  refine ⟨_, c67 there hl, _, c106 kind vals _ (vals_p e2) s1 s2 (set_solve e e3 vals), Br_b (fun e4 => ⟨by rw [e4]; rfl, rfl⟩) (fun e4 => ?_)⟩
  rw [e4]
  exact l53 kind e vals (vals_p e2) there e3 _ 0 (-2) (Nat.zero_add _)
end Go.Proofs.Ytlebgbcoljnejaa.Sh
