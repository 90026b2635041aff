/- What is read of shards: contracts of the program's functions. -/
import Derived.Test.YtjoiadaogppmkaaShR2
import Derived.Test.YtjoiadaogppmkaaMaRead
namespace Go.Proofs.Ytjoiadaogppmkaa.Sh
open Go
set_option linter.unusedVariables false
set_option linter.unusedSimpArgs false
/-! loop.example/keelson/impl.fits -/
def H65 : Hint := ⟨[[(0, 0, .bool), (1, 0, .bool), (7, 0, .bool), (14, 0, .bool), (15, 0, .bool), (16, 0, .bool)]], [], [(5, [0, 1, 3, 5, 6, 7, 8, 2, 4, 9])], [], [], [], []⟩
def S65_L0 (kind0 : Int) (vals1 : List Int) (x14 : List Int) (x15 : Int) (x16 : Int) (h0 : List Int) : St := ⟨[(0, .w (.one (.int .i64 kind0))), (1, .w (.one (.ro (.int .i64) vals1))), (7, .w (.one (.ptr 0 0 0))), (14, .w (.one (.ro (.int .i64) x14))), (15, .w (.one (.int .i64 x15))), (16, .w (.one (.int .i64 x16)))], [.row (.int .i64) h0 .var]⟩
theorem eq65 (kind : Int) (vals : List Int) (shards : List Int) (r : List W) (lh : Heap) : FB E H65 Try.f65 [.one (.int .i64 kind), .one (.ro (.int .i64) vals), .one (.ro (.int .i64) shards)] [] r lh =
  (
   ∃ r0 : Int × Int × Int × Int, SC P 98 [.one (.int .i64 kind), .one (.ro (.int .i64) vals), .one (.ro (.int .i64) shards)] [] [.agg [.int .i64 r0.1, .int .i64 r0.2.1, .int .i64 r0.2.2.1, .int .i64 r0.2.2.2]] [] ∧
    FL E H65 Try.f65 0 r lh 0 (S65_L0 kind vals shards ((shards.length : Nat) : Int) 0 [r0.1, r0.2.1, r0.2.2.1, r0.2.2.2])) := by kernel_rfl
theorem eq65_L0 (kind0 : Int) (vals1 : List Int) (x14 : List Int) (x15 : Int) (x16 : Int) (h0 : List Int) (r : List W) (lh : Heap) : FL1 E H65 Try.f65 0 r lh 0 (S65_L0 kind0 vals1 x14 x15 x16 h0) =
  (
   Br (decide (x16 < x15)) (
    Ck (decide ((0 : Int) ≤ x16)) (
     Ck (decide (x16 < ((x14.length : Nat) : Int))) (
      Ck (Nat.ble 4 h0.length) (
       Ck (decide ((0 : Int) ≤ (x14.getD x16.toNat 0))) (
        Ck (decide ((x14.getD x16.toNat 0) < ((vals1.length : Nat) : Int))) (
         ∃ r0 : Int × Int × Int × Int, SC P 90 [.one (.int .i64 kind0), .one (.int .i64 (x14.getD x16.toNat 0))] [] [.agg [.int .i64 r0.1, .int .i64 r0.2.1, .int .i64 r0.2.2.1, .int .i64 r0.2.2.2]] [] ∧
          ∃ r1 : Int, SC P 91 [.agg [.int .i64 r0.1, .int .i64 r0.2.1, .int .i64 r0.2.2.1, .int .i64 r0.2.2.2], .agg [.int .i64 (h0.getD 0 0), .int .i64 (h0.getD 1 0), .int .i64 (h0.getD 2 0), .int .i64 (h0.getD 3 0)]] [] [.one (.int .i64 r1)] [] ∧
           Br (!(decide (r1 = (vals1.getD (x14.getD x16.toNat 0).toNat 0)))) (
            Ret r lh [.one (.bool false)] []) (
            FL E H65 Try.f65 0 r lh 0 (S65_L0 kind0 vals1 x14 x15 (IntKind.wrap .i64 (x16 + 1)) h0)))))))) (
    Ret r lh [.one (.bool true)] [])) := by kernel_rfl
theorem drop_getD {l : List Int} {i : Nat} (h : i < l.length) : l.drop i = l.getD i 0 :: l.drop (i + 1) := by rw [getD_eq h]; exact drop_cons h
theorem l65 (kind : Int) (vals shards : List Int) (hv : ValsP vals) (hs : ShOk shards) (h8 : shards.length ≤ 8) (d : V4) (hd : VOk d) : ∀ (n i : Nat), i + n = shards.length →
    FL E H65 Try.f65 0 [.one (.bool ((shards.drop i).all fun i => decide (dotF (rowV kind i) d = vals.getD i.toNat 0)))] [] 0 (S65_L0 kind vals shards (shards.length : Int) (i : Int) d.l)
  | 0, i, h => by
    refine FL_of1 ?_
    rw [eq65_L0, List.drop_eq_nil_of_le (by omega)]
    exact Br_f (by omega) ⟨rfl, rfl⟩
  | n + 1, i, h => by
    have hi : i < shards.length := by omega
    obtain ⟨g0, g1⟩ := shok_get hs hi
    have hvl := hv.1
    refine FL_of1 ?_
    rw [eq65_L0, wS (i := i) (by omega), drop_getD hi, List.all_cons]
    simp only [Int.toNat_natCast]
    refine Br_t (by omega) (Ck_d (by omega) (Ck_d (by omega) (Ck_le (by simp [V4.l]) (Ck_d (by omega) (Ck_d (by omega) ⟨rowV kind (shards.getD i 0), c90 kind _ g0 g1, dotF (rowV kind (shards.getD i 0)) d, c91 _ d (rowV_ok _ _) hd, Br_nd (fun e => ?_) (fun e => ?_)⟩)))))
    · rw [decide_eq_false e]; exact ⟨rfl, rfl⟩
    · rw [decide_eq_true e, Bool.true_and]
      exact l65 kind vals shards hv hs h8 d hd n (i + 1) (by omega)
theorem c65 (kind : Int) (vals shards : List Int) (hv : ValsP vals) (hs : ShOk shards) (h8 : shards.length ≤ 8) (ho : solveOk kind vals shards = true) : SC P 65 [.one (.int .i64 kind), .one (.ro (.int .i64) vals), .one (.ro (.int .i64) shards)] [] [.one (.bool (fitsI kind vals shards))] [] := by
  refine SC_of_FB (H := H65) E_ok Try.func65 (by kernel_rfl) ?_
  rw [eq65]
  refine ⟨solveI kind vals shards, c98 kind vals shards hv hs h8 ho, ?_⟩
  have := l65 kind vals shards hv hs h8 _ (solve_ok kind vals shards) shards.length 0 (by omega)
  rw [List.drop_zero] at this
  exact this
theorem flag_sh {there : List Bool} (h : there.length = 8) : ShOk (flagF there) ∧ (flagF there).length ≤ 8 := ⟨(flag_ok h).range, (flag_ok h).len⟩
def codeBears (kind : Int) (there : List Bool) : Bool := inB kind 1 2 && (decide (there.length = 8) && bearsI kind (flagF there))
def codeFits (kind : Int) (vals : List Int) (there : List Bool) : Bool := inB kind 1 2 && (valsOk vals && (decide (there.length = 8) && fitsI kind vals (flagF there)))
theorem dec8 {α : Type} (l : List α) : decide ((l.length : Int) = 8) = decide (l.length = 8) := decide_eq_decide.2 (by omega)
/-! loop.example/keelson/impl.CodeBears -/
def H11 : Hint := ⟨[], [], [], [], [], [], []⟩
theorem eq11 (kind : Int) (there : List Bool) (r : List W) (lh : Heap) : FB E H11 Try.f11 [.one (.int .i64 kind), .one (.ro .bool there)] [] r lh =
  (
   ∃ r0 : Bool, SC P 39 [.one (.int .i64 kind)] [] [.one (.bool r0)] [] ∧
    Br r0 (
     Br (decide (((there.length : Nat) : Int) = (8 : Int))) (
      ∃ r1 : List Int, SC P 41 [.one (.ro .bool there)] [] [.one (.sl 0 none)] [.row (.int .i64) r1 .own] ∧
       ∃ r2 : Bool, SC P 43 [.one (.int .i64 kind), .one (.ro (.int .i64) r1)] [] [.one (.bool r2)] [] ∧
        Ret r lh [.one (.bool r2)] []) (
      Ret r lh [.one (.bool false)] [])) (
     Ret r lh [.one (.bool false)] [])) := by kernel_rfl
theorem c11 (kind : Int) (there : List Bool) (hl : there.length ≤ 1048576) : SC P 11 [.one (.int .i64 kind), .one (.ro .bool there)] [] [.one (.bool (codeBears kind there))] [] := by
  refine SC_of_FB (H := H11) E_ok Try.func11 (by kernel_rfl) ?_
  rw [eq11]
  refine ⟨_, c39 kind, Br_b (fun e => ?_) (fun e => ⟨by rw [codeBears, e]; rfl, rfl⟩)⟩
  rw [dec8, codeBears, e, Bool.true_and]
  refine Br_d (fun e2 => ?_) (fun e2 => ⟨by rw [decide_eq_false e2]; rfl, rfl⟩)
  obtain ⟨s1, s2⟩ := flag_sh e2
  exact ⟨_, c41 there hl, _, c43 kind _ s1 s2, by rw [decide_eq_true e2]; rfl, rfl⟩

def readFromF (kind : Int) (there : List Bool) : List Int := bif codeBears kind there then (spanF (rowsF kind (flagF there))).2.map (fun i => (flagF there).getD i.toNat 0) else []

/-! loop.example/keelson/impl.readData -/
def H93 : Hint := ⟨[], [], [], [], [.one (.own (.int .i64)), .one (.c .bool)], [], []⟩
theorem eq93 (kind : Int) (vals : List Int) (shards : List Int) (r : List W) (lh : Heap) : FB E H93 Try.f93 [.one (.int .i64 kind), .one (.ro (.int .i64) vals), .one (.ro (.int .i64) shards)] [] r lh =
  (
   ∃ r0 : Bool, SC P 43 [.one (.int .i64 kind), .one (.ro (.int .i64) shards)] [] [.one (.bool r0)] [] ∧
    Br (!r0) (
     Ret r lh [.one (.sl 0 none), .one (.bool false)] [.row (.int .i64) [] .own]) (
     ∃ r1 : Bool, SC P 65 [.one (.int .i64 kind), .one (.ro (.int .i64) vals), .one (.ro (.int .i64) shards)] [] [.one (.bool r1)] [] ∧
      Br (!r1) (
       Ret r lh [.one (.sl 0 none), .one (.bool false)] [.row (.int .i64) [] .own]) (
       ∃ r2 : Int × Int × Int × Int, SC P 98 [.one (.int .i64 kind), .one (.ro (.int .i64) vals), .one (.ro (.int .i64) shards)] [] [.agg [.int .i64 r2.1, .int .i64 r2.2.1, .int .i64 r2.2.2.1, .int .i64 r2.2.2.2]] [] ∧
        ∃ r3 : List Int, SC P 118 [.agg [.int .i64 r2.1, .int .i64 r2.2.1, .int .i64 r2.2.2.1, .int .i64 r2.2.2.2]] [] [.one (.sl 0 none)] [.row (.int .i64) r3 .own] ∧
         Ret r lh [.one (.sl 0 none), .one (.bool true)] [.row (.int .i64) r3 .own]))) := by kernel_rfl
def readOk (kind : Int) (vals shards : List Int) : Bool := bearsI kind shards && fitsI kind vals shards
def readL (kind : Int) (vals shards : List Int) : List Int := bif readOk kind vals shards then (solveI kind vals shards).l else []
theorem readL_len {kind : Int} {vals shards : List Int} : (readL kind vals shards).length ≤ 4 := by
  rw [readL]
  cases readOk kind vals shards
  · exact Nat.zero_le _
  · exact Nat.le_refl _
theorem c93 (kind : Int) (vals shards : List Int) (hv : ValsP vals) (hs : ShOk shards) (h8 : shards.length ≤ 8) (ho : bearsI kind shards = true → solveOk kind vals shards = true) : SC P 93 [.one (.int .i64 kind), .one (.ro (.int .i64) vals), .one (.ro (.int .i64) shards)] [] [.one (.sl 0 none), .one (.bool (readOk kind vals shards))] [.row (.int .i64) (readL kind vals shards) .own] := by
  refine SC_of_FB (H := H93) E_ok Try.func93 (by kernel_rfl) ?_
  rw [eq93]
  refine ⟨_, c43 kind shards hs h8, Br_nb (fun e => ⟨by rw [readOk, e]; rfl, by rw [readL, readOk, e]; rfl⟩) (fun e => ⟨_, c65 kind vals shards hv hs h8 (ho e), Br_nb (fun e2 => ⟨by rw [readOk, e, e2]; rfl, by rw [readL, readOk, e, e2]; rfl⟩) (fun e2 => ?_)⟩)⟩
  rw [readL, readOk, e, e2]
  exact ⟨_, c98 kind vals shards hv hs h8 (ho e), _, c118 _, rfl, rfl⟩
def readDataOk (kind : Int) (vals : List Int) (there : List Bool) : Bool := (inB kind 1 2 && valsOk vals) && (decide (there.length = 8) && readOk kind vals (flagF there))
def readDataL (kind : Int) (vals : List Int) (there : List Bool) : List Int := bif readDataOk kind vals there then (solveI kind vals (flagF there)).l else []
theorem readDataL_len {kind : Int} {vals : List Int} {there : List Bool} : (readDataL kind vals there).length ≤ 4 := by
  rw [readDataL]
  cases readDataOk kind vals there
  · exact Nat.zero_le _
  · exact Nat.le_refl _





def findS (kind : Int) (vals p : List Int) : Nat → Nat → Int → Int
  | _, 0, found => found
  | i, n + 1, found => bif !fitsI kind vals (p.take i ++ p.drop (i + 1)) then findS kind vals p (i + 1) n found else bif decide (0 ≤ found) then -2 else findS kind vals p (i + 1) n (p.getD i 0)
def readFind (kind : Int) (vals : List Int) (there : List Bool) : Int :=
  bif (inB kind 1 2 && valsOk vals) && decide (there.length = 8) then (bif fitsI kind vals (flagF there) then -1 else findS kind vals (flagF there) 0 (flagF there).length (-2)) else -2

end Go.Proofs.Ytjoiadaogppmkaa.Sh
