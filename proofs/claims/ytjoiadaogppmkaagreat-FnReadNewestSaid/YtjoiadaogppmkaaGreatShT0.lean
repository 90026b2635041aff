/- Contracts, poured together. -/
import Derived.Test.YtjoiadaogppmkaaGreatShD1
import Derived.Test.YtjoiadaogppmkaaGreatShT1
namespace Go.Proofs.YtjoiadaogppmkaaGreat.Sh
open Go
set_option linter.unusedVariables false
set_option linter.unusedSimpArgs false
/-! loop.example/keelson/laws.eqBoolS -/
def H29 : Hint := ⟨[[(0, 0, .bool), (1, 0, .bool), (5, 0, .bool)]], [], [(6, [0, 1, 2, 3, 4, 5, 6, 7, 8])], [], [], [], []⟩
def S29_L0 (a0 : List Bool) (b1 : List Bool) (i5 : Int) : St := ⟨[(0, .w (.one (.ro .bool a0))), (1, .w (.one (.ro .bool b1))), (5, .w (.one (.int .i64 i5)))], []⟩
theorem eq29 (a : List Bool) (b : List Bool) (r : List W) (lh : Heap) : FB E H29 Tryz.f29 [.one (.ro .bool a), .one (.ro .bool b)] [] r lh =
  (
   Br (!(decide (((a.length : Nat) : Int) = ((b.length : Nat) : Int)))) (
    Ret r lh [.one (.bool false)] []) (
    FL E H29 Tryz.f29 0 r lh 0 (S29_L0 a b 0))) := by kernel_rfl
theorem eq29_L0 (a0 : List Bool) (b1 : List Bool) (i5 : Int) (r : List W) (lh : Heap) : FL1 E H29 Tryz.f29 0 r lh 0 (S29_L0 a0 b1 i5) =
  (
   Br (decide (i5 < ((a0.length : Nat) : Int))) (
    Ck (decide ((0 : Int) ≤ i5)) (
     Ck (decide (i5 < ((a0.length : Nat) : Int))) (
      Ck (decide ((0 : Int) ≤ i5)) (
       Ck (decide (i5 < ((b1.length : Nat) : Int))) (
        Br ((a0.getD i5.toNat false) != (b1.getD i5.toNat false)) (
         Ret r lh [.one (.bool false)] []) (
         FL E H29 Tryz.f29 0 r lh 0 (S29_L0 a0 b1 (IntKind.wrap .i64 (i5 + 1))))))))) (
    Ret r lh [.one (.bool true)] [])) := by kernel_rfl
theorem l29 (a b : List Bool) (hl : a.length ≤ 1048576) (hb : a.length = b.length) : ∀ (n i : Nat), i + n = a.length → FL E H29 Tryz.f29 0 [.one (.bool (allR (fun j => decide (a.getD j false = b.getD j false)) i n))] [] 0 (S29_L0 a b (i : Int))
  | 0, i, h => by
    refine FL_of1 ?_
    rw [eq29_L0]
    exact Br_f (by omega) ⟨rfl, rfl⟩
  | n + 1, i, h => by
    refine FL_of1 ?_
    rw [eq29_L0, wS (by omega)]
    simp only [Int.toNat_natCast]
    refine Br_t (by omega) (Ck_d (by omega) (Ck_d (by omega) (Ck_d (by omega) (Ck_d (by omega) (Br_b (fun h1 => ?_) (fun h1 => ?_))))))
    · exact ⟨by rw [allR_f (by simpa using h1)], rfl⟩
    · rw [allR_t (by simpa using h1)]
      exact l29 a b hl hb n (i + 1) (by omega)
theorem c29 (a b : List Bool) (hl : a.length ≤ 1048576) : SC P 29 [.one (.ro (.bool) a), .one (.ro (.bool) b)] [] [.one (.bool (decide (a = b)))] [] := by
  refine SC_of_FB (H := H29) E_ok Tryz.func29 (by kernel_rfl) ?_
  rw [eq29]
  refine Br_nd (fun h => ⟨?_, rfl⟩) (fun h => ?_)
  · rw [decide_eq_false (by rintro rfl; exact h rfl)]
  · have h : a.length = b.length := by omega
    rw [← eqR (z := false) h]
    exact l29 a b hl h a.length 0 (by omega)

/-! loop.example/keelson/laws.markBoolS -/
def H30 : Hint := ⟨[[(0, 0, .bool), (1, 0, .bool), (5, 0, .bool)]], [], [], [], [], [], []⟩
def S30_L0 (k1 : Int) (i5 : Int) (h0 : List Bool) : St := ⟨[(0, .w (.one (.sl 0 none))), (1, .w (.one (.int .i64 k1))), (5, .w (.one (.int .i64 i5)))], [.row .bool h0 .own]⟩
theorem eq30 (l : List Bool) (k : Int) (r : List W) (lh : Heap) : FB E H30 Tryz.f30 [.one (.sl 0 none), .one (.int .i64 k)] [.row .bool l .own] r lh =
  (
   FL E H30 Tryz.f30 1 r lh 0 (S30_L0 k 0 l)) := by kernel_rfl
theorem eq30_L0 (k1 : Int) (i5 : Int) (h0 : List Bool) (r : List W) (lh : Heap) : FL1 E H30 Tryz.f30 1 r lh 0 (S30_L0 k1 i5 h0) =
  (
   Br (decide (i5 < ((h0.length : Nat) : Int))) (
    Ck (decide ((0 : Int) ≤ i5)) (
     Ck (decide (i5 < ((h0.length : Nat) : Int))) (
      Ck (Nat.ble (i5.toNat + 1) h0.length) (
       FL E H30 Tryz.f30 1 r lh 0 (S30_L0 (IntKind.wrap .i64 (k1 + 1)) (IntKind.wrap .i64 (i5 + 1)) (h0.set i5.toNat (decide ((Int.tmod k1 3) = (0 : Int))))))))) (
    Ret r lh [.one (.int .i64 k1)] [.row .bool h0 .own])) := by kernel_rfl
theorem l30 (k : Int) (m : Nat) (hm : m ≤ 1048576) (k0 : 0 ≤ k) (k1 : k ≤ 1073741824) : ∀ (n i : Nat) (out : List Bool), i + n = m → out.length = m → (∀ j, j < i → out[j]? = (marks (fun k : Int => decide (Int.tmod k 3 = 0)) k m)[j]?) →
    FL E H30 Tryz.f30 1 [.one (.int .i64 (k + m))] [.row (.bool) (marks (fun k : Int => decide (Int.tmod k 3 = 0)) k m) .own] 0 (S30_L0 (k + (i : Int)) (i : Int) out)
  | 0, i, out, h, ho, H => by
    refine FL_of1 ?_
    rw [eq30_L0]
    obtain rfl : out = marks (fun k : Int => decide (Int.tmod k 3 = 0)) k m := fill_done (by rw [marks_length]; exact ho) fun j hj => H j (by rw [marks_length] at hj; omega)
    refine Br_f (by omega) ⟨?_, rfl⟩
    rw [show (i : Int) = m by omega]
  | n + 1, i, out, h, ho, H => by
    refine FL_of1 ?_
    rw [eq30_L0, wS (by omega), wrap64 (n := k + (i : Int) + 1) (by omega) (by omega), show k + (i : Int) + 1 = k + ((i + 1 : Nat) : Int) by omega]
    simp only [Int.toNat_natCast]
    refine Br_t (by omega) (Ck_d (by omega) (Ck_d (by omega) (Ck_lt (by omega) ?_)))
    exact l30 k m hm k0 k1 n (i + 1) _ (by omega) (by simp [ho]) (fill_step (by rw [marks_length]; exact ho) (by rw [marks_get (by omega)]) H)
theorem c30 (l : List Bool) (k : Int) (hl : l.length ≤ 1048576) (k0 : 0 ≤ k) (k1 : k ≤ 1073741824) : SC P 30 [.one (.sl 0 none), .one (.int .i64 k)] [.row (.bool) l .own] [.one (.int .i64 (k + l.length))] [.row (.bool) (marks (fun k : Int => decide (Int.tmod k 3 = 0)) k l.length) .own] := by
  refine SC_of_FB (H := H30) E_ok Tryz.func30 (by kernel_rfl) ?_
  rw [eq30]
  have := l30 k l.length hl k0 k1 l.length 0 l (by omega) rfl (fun j hj => absurd hj (by omega))
  rw [show k + ((0 : Nat) : Int) = k by omega] at this
  exact this

abbrev Str := Int × List Int × List Int × List Bool
def stripeOk (kind : Int) (d : List Int) (vers : Int) : Bool := (inB kind 1 2 && vecOk d) && inB vers 1 99
def stripeF (kind : Int) (d : List Int) (vers : Int) : Str := bif stripeOk kind d vers then (kind, allF kind (vecF d), [vers, vers, vers, vers, vers, vers, vers, vers], [true, true, true, true, true, true, true, true]) else (0, [], [], [])
theorem stripeF_len {kind : Int} {d : List Int} {vers : Int} : (stripeF kind d vers).2.1.length ≤ 8 ∧ (stripeF kind d vers).2.2.1.length ≤ 8 ∧ (stripeF kind d vers).2.2.2.length ≤ 8 := by
  rw [stripeF]
  cases stripeOk kind d vers
  · exact ⟨Nat.zero_le _, Nat.zero_le _, Nat.zero_le _⟩
  · exact ⟨Nat.le_of_eq (allF_length _ _), Nat.le_refl _, Nat.le_refl _⟩
theorem Br_ne' {b : Bool} {A B : Prop} (h : B) : Br (b != b) A B := by cases b <;> exact h

/-! loop.example/keelson/spec.l21New -/
def H55 : Hint := ⟨[[(2, 0, .bool), (6, 0, .bool), (7, 0, .bool), (8, 0, .bool)]], [], [], [], [], [], []⟩
def S55_L0 (vers2 : Int) (i8 : Int) (b0_0 : Int) (b1_0 : Int) (h2 : List Int) (h3 : List Bool) : St := ⟨[(2, .w (.one (.int .i64 vers2))), (6, .w (.one (.ptr 0 0 0))), (7, .w (.one (.ptr 1 0 0))), (8, .w (.one (.int .i64 i8)))], [.box [.int .i64 b0_0, .nil, .nil, .nil], .box [.int .i64 b1_0, .sl 2 none, .nil, .sl 3 none], .row (.int .i64) h2 .own, .row .bool h3 .own]⟩
def S55_L0b (vers2 : Int) (i8 : Int) (b0_0 : Int) (b1_0 : Int) (h2 : List Int) (h3 : List Int) (h4 : List Bool) : St := ⟨[(2, .w (.one (.int .i64 vers2))), (6, .w (.one (.ptr 0 0 0))), (7, .w (.one (.ptr 1 0 0))), (8, .w (.one (.int .i64 i8)))], [.box [.int .i64 b0_0, .nil, .nil, .nil], .box [.int .i64 b1_0, .sl 2 none, .sl 3 none, .sl 4 none], .row (.int .i64) h2 .own, .row (.int .i64) h3 .own, .row .bool h4 .own]⟩
theorem eq55 (kind : Int) (data : List Int) (vers : Int) (r : List W) (lh : Heap) : FB E H55 Tryz.f55 [.one (.int .i64 kind), .one (.ro (.int .i64) data), .one (.int .i64 vers)] [] r lh =
  (
   ∃ r0 : List Int, SC P 85 [.one (.int .i64 kind), .one (.ro (.int .i64) data)] [] [.one (.sl 0 none)] [.row (.int .i64) r0 .own] ∧
    ∃ r1 : List Bool, SC P 86 [.one (.int .i64 255)] [] [.one (.sl 0 none)] [.row .bool r1 .own] ∧
     FL E H55 Tryz.f55 0 r lh 0 (S55_L0 vers 0 0 kind r0 r1)) := by kernel_rfl
theorem eq55_L0 (vers2 : Int) (i8 : Int) (b0_0 : Int) (b1_0 : Int) (h2 : List Int) (h3 : List Bool) (r : List W) (lh : Heap) : FL1 E H55 Tryz.f55 0 r lh 0 (S55_L0 vers2 i8 b0_0 b1_0 h2 h3) =
  (
   Br (decide (i8 < (8 : Int))) (
    FL E H55 Tryz.f55 0 r lh 0 (S55_L0b vers2 (IntKind.wrap .i64 (i8 + 1)) b0_0 b1_0 h2 [vers2] h3)) (
    Ret r lh [.agg [.int .i64 b1_0, .sl 0 none, .nil, .sl 1 none]] [.row (.int .i64) h2 .own, .row .bool h3 .own])) := by kernel_rfl
theorem eq55_L0b (vers2 : Int) (i8 : Int) (b0_0 : Int) (b1_0 : Int) (h2 : List Int) (h3 : List Int) (h4 : List Bool) (r : List W) (lh : Heap) : FL1 E H55 Tryz.f55 0 r lh 0 (S55_L0b vers2 i8 b0_0 b1_0 h2 h3 h4) =
  (
   Br (decide (i8 < (8 : Int))) (
    Ck (Nat.ble ((h3.length + 1) * 8) roomy) (
     FL E H55 Tryz.f55 0 r lh 0 (S55_L0b vers2 (IntKind.wrap .i64 (i8 + 1)) b0_0 b1_0 h2 (h3 ++ [vers2]) h4))) (
    Ret r lh [.agg [.int .i64 b1_0, .sl 0 none, .sl 1 none, .sl 2 none]] [.row (.int .i64) h2 .own, .row (.int .i64) h3 .own, .row .bool h4 .own])) := by kernel_rfl
theorem l55b (kind vers z : Int) (vals : List Int) (th : List Bool) : ∀ (n i : Nat) (vs : List Int), i + n = 8 → vs = List.replicate i vers → FL E H55 Tryz.f55 0 [.agg [.int .i64 kind, .sl 0 none, .sl 1 none, .sl 2 none]] [.row (.int .i64) vals .own, .row (.int .i64) [vers, vers, vers, vers, vers, vers, vers, vers] .own, .row .bool th .own] 0 (S55_L0b vers (i : Int) z kind vals vs th)
  | 0, i, vs, h, hv => by
    obtain rfl : i = 8 := by omega
    refine FL_of1 ?_
    rw [eq55_L0b, hv]
    exact Br_f (by omega) ⟨rfl, rfl⟩
  | n + 1, i, vs, h, hv => by
    have hl : vs.length = i := by rw [hv, List.length_replicate]
    refine FL_of1 ?_
    rw [eq55_L0b, wS (by omega)]
    exact Br_t (by omega) (Ck_room (by omega) (l55b kind vers z vals th n (i + 1) (vs ++ [vers]) (by omega) (by rw [hv, List.replicate_succ'])))
theorem c55 (kind : Int) (hk : inB kind 1 2 = true) (d : V4) (hd : VOk d) (vers : Int) : SC P 55 [.one (.int .i64 kind), .one (.ro (.int .i64) d.l), .one (.int .i64 vers)] [] [.agg [.int .i64 kind, .sl 0 none, .sl 1 none, .sl 2 none]] [.row (.int .i64) (allF kind d) .own, .row (.int .i64) [vers, vers, vers, vers, vers, vers, vers, vers] .own, .row .bool [true, true, true, true, true, true, true, true] .own] := by
  refine SC_of_FB (H := H55) E_ok Tryz.func55 (by kernel_rfl) ?_
  rw [eq55]
  refine ⟨_, c85 kind hk d hd, _, c86, ?_⟩
  refine FL_of1 ?_
  rw [eq55_L0]
  exact Br_t (by omega) (l55b kind vers 0 _ _ 7 1 [vers] (by omega) rfl)

/-! loop.example/keelson/impl.versOk -/
def H49 : Hint := ⟨[], [], [], [], [], [], []⟩
theorem eq49 (n : Int) (r : List W) (lh : Heap) : FB E H49 Tryz.f49 [.one (.int .i64 n)] [] r lh =
  (
   ∃ r0 : Bool, SC P 67 [.one (.int .i64 n), .one (.int .i64 1), .one (.int .i64 99)] [] [.one (.bool r0)] [] ∧
    Ret r lh [.one (.bool r0)] []) := by kernel_rfl
theorem c49 (n : Int) : SC P 49 [.one (.int .i64 n)] [] [.one (.bool (inB n 1 99))] [] := by
  refine SC_of_FB (H := H49) E_ok Tryz.func49 (by kernel_rfl) ?_
  rw [eq49]
  exact ⟨_, c67 _ _ _, rfl, rfl⟩

/-! loop.example/keelson/laws.eqStripe -/
def H11 : Hint := ⟨[], [], [], [], [], [], []⟩
theorem eq11 (a : (Int × (List Int × (List Int × List Bool)))) (b : (Int × (List Int × (List Int × List Bool)))) (r : List W) (lh : Heap) : FB E H11 Tryz.f11 [.agg [.int .i64 a.1, .ro (.int .i64) a.2.1, .ro (.int .i64) a.2.2.1, .ro .bool a.2.2.2], .agg [.int .i64 b.1, .ro (.int .i64) b.2.1, .ro (.int .i64) b.2.2.1, .ro .bool b.2.2.2]] [] r lh =
  (
   Br (!(decide (a.1 = b.1))) (
    Ret r lh [.one (.bool false)] []) (
    ∃ r0 : Bool, SC P 10 [.one (.ro (.int .i64) a.2.1), .one (.ro (.int .i64) b.2.1)] [] [.one (.bool r0)] [] ∧
     Br (!r0) (
      Ret r lh [.one (.bool false)] []) (
      ∃ r1 : Bool, SC P 10 [.one (.ro (.int .i64) a.2.2.1), .one (.ro (.int .i64) b.2.2.1)] [] [.one (.bool r1)] [] ∧
       Br (!r1) (
        Ret r lh [.one (.bool false)] []) (
        ∃ r2 : Bool, SC P 29 [.one (.ro .bool a.2.2.2), .one (.ro .bool b.2.2.2)] [] [.one (.bool r2)] [] ∧
         Br (!r2) (
          Ret r lh [.one (.bool false)] []) (
          Ret r lh [.one (.bool true)] []))))) := by kernel_rfl
theorem c11 (a b : Str) (h1 : a.2.1.length ≤ 1048576) (h2 : a.2.2.1.length ≤ 1048576) (h3 : a.2.2.2.length ≤ 1048576) : SC P 11 [.agg [.int .i64 a.1, .ro (.int .i64) a.2.1, .ro (.int .i64) a.2.2.1, .ro .bool a.2.2.2], .agg [.int .i64 b.1, .ro (.int .i64) b.2.1, .ro (.int .i64) b.2.2.1, .ro .bool b.2.2.2]] [] [.one (.bool (decide (a = b)))] [] := by
  refine SC_of_FB (H := H11) E_ok Tryz.func11 (by kernel_rfl) ?_
  rw [eq11]
  have no : a ≠ b → [W.one (.bool false)] = [W.one (.bool (decide (a = b)))] := fun h => by rw [decide_eq_false h]
  refine Br_nd (fun h => ⟨no (fun e => h (by rw [e])), rfl⟩) (fun g1 => ⟨_, c10 _ _ h1, Br_nb (fun e => ⟨no (fun e' => of_decide_eq_false e (by rw [e'])), rfl⟩) (fun g2 => ⟨_, c10 _ _ h2, Br_nb (fun e => ⟨no (fun e' => of_decide_eq_false e (by rw [e'])), rfl⟩) (fun g3 => ⟨_, c29 _ _ h3, Br_nb (fun e => ⟨no (fun e' => of_decide_eq_false e (by rw [e'])), rfl⟩) (fun g4 => ⟨?_, rfl⟩)⟩)⟩)⟩)
  rw [decide_eq_true (Prod.ext g1 (Prod.ext (of_decide_eq_true g2) (Prod.ext (of_decide_eq_true g3) (of_decide_eq_true g4))))]

/-! loop.example/keelson/laws.markStripe -/
def H12 : Hint := ⟨[], [], [], [], [], [], []⟩
theorem eq12 (s : Int) (a : List Int) (b : List Int) (c : List Bool) (k : Int) (r : List W) (lh : Heap) : FB E H12 Tryz.f12 [.agg [.int .i64 s, .sl 0 none, .sl 1 none, .sl 2 none], .one (.int .i64 k)] [.row (.int .i64) a .own, .row (.int .i64) b .own, .row .bool c .own] r lh =
  (
   ∃ r0 : List Int × Int, SC P 13 [.one (.sl 0 none), .one (.int .i64 k)] [.row (.int .i64) a .own] [.one (.int .i64 r0.2)] [.row (.int .i64) r0.1 .own] ∧
    ∃ r1 : List Int × Int, SC P 13 [.one (.sl 0 none), .one (.int .i64 r0.2)] [.row (.int .i64) b .own] [.one (.int .i64 r1.2)] [.row (.int .i64) r1.1 .own] ∧
     ∃ r2 : List Bool × Int, SC P 30 [.one (.sl 0 none), .one (.int .i64 r1.2)] [.row .bool c .own] [.one (.int .i64 r2.2)] [.row .bool r2.1 .own] ∧
      Ret r lh [.one (.int .i64 r2.2)] [.row (.int .i64) r0.1 .own, .row (.int .i64) r1.1 .own, .row .bool r2.1 .own]) := by kernel_rfl
theorem c12 (s : Int) (a b : List Int) (c : List Bool) (k : Int) (h1 : a.length ≤ 8) (h2 : b.length ≤ 8) (h3 : c.length ≤ 8) (k0 : 0 ≤ k) (k1 : k ≤ 1000) : SC P 12 [.agg [.int .i64 s, .sl 0 none, .sl 1 none, .sl 2 none], .one (.int .i64 k)] [.row (.int .i64) a .own, .row (.int .i64) b .own, .row .bool c .own]
    [.one (.int .i64 (k + a.length + b.length + c.length))] [.row (.int .i64) (marks (fun k : Int => k) k a.length) .own, .row (.int .i64) (marks (fun k : Int => k) (k + a.length) b.length) .own, .row .bool (marks (fun k : Int => decide (Int.tmod k 3 = 0)) (k + a.length + b.length) c.length) .own] := by
  refine SC_of_FB (H := H12) E_ok Tryz.func12 (by kernel_rfl) ?_
  rw [eq12]
  exact ⟨(_, _), c13 a k (by omega) k0 (by omega), (_, _), c13 b (k + a.length) (by omega) (by omega) (by omega), (_, _), c30 c (k + a.length + b.length) (by omega) (by omega) (by omega), rfl, rfl⟩

abbrev Kee := Str × Bool × Int × List Int × Int

end Go.Proofs.YtjoiadaogppmkaaGreat.Sh
