/- Stripes that are drawn: the laws on them. -/
import Derived.Test.YtjoiadaogppmkaaGreatShT3
namespace Go.Proofs.YtjoiadaogppmkaaGreat.Sh
open Go
set_option linter.unusedVariables false
set_option linter.unusedSimpArgs false
def Len8 (s : StrT) : Prop := s.2.1.length = 8 ∧ s.2.2.1.length = 8 ∧ s.2.2.2.length = 8
theorem len8_pair {k : Int} {a b : List Int} {c : List Bool} (h1 : a.length = 8) (h2 : b.length = 8) (h3 : c.length = 8) : Len8 (k, a, b, c) := ⟨h1, h2, h3⟩
theorem all_new (kind : Int) (v : V4) (vers : Int) : Len8 (kind, allF kind v, [vers, vers, vers, vers, vers, vers, vers, vers], [true, true, true, true, true, true, true, true]) := ⟨allF_length _ _, rfl, rfl⟩
/-! loop.example/keelson/spec.l92Data -/
def H57 : Hint := ⟨[], [], [], [], [.one (.c (.sl (.int .i64)))], [], []⟩
theorem eq57 (b : List Int) (p : Int) (r : List W) (lh : Heap) : FB E H57 Tryz.f57 [.one (.ptr 0 0 0)] [.box [.ro (.int .u8) b, .int .i64 p]] r lh =
  (
   ∃ r0 : List Int × Int × Int, SC P 56 [.one (.ptr 0 0 0), .one (.int .i64 31)] [.box [.ro (.int .u8) b, .int .i64 p]] [.one (.int .i64 r0.2.2)] [.box [.ro (.int .u8) r0.1, .int .i64 r0.2.1]] ∧
    ∃ r1 : List Int × Int × Int, SC P 56 [.one (.ptr 0 0 0), .one (.int .i64 4)] [.box [.ro (.int .u8) r0.1, .int .i64 r0.2.1]] [.one (.int .i64 r1.2.2)] [.box [.ro (.int .u8) r1.1, .int .i64 r1.2.1]] ∧
     ∃ r2 : List Int × Int × Int, SC P 56 [.one (.ptr 0 0 0), .one (.int .i64 31)] [.box [.ro (.int .u8) r1.1, .int .i64 r1.2.1]] [.one (.int .i64 r2.2.2)] [.box [.ro (.int .u8) r2.1, .int .i64 r2.2.1]] ∧
      ∃ r3 : List Int × Int × Int, SC P 56 [.one (.ptr 0 0 0), .one (.int .i64 27)] [.box [.ro (.int .u8) r2.1, .int .i64 r2.2.1]] [.one (.int .i64 r3.2.2)] [.box [.ro (.int .u8) r3.1, .int .i64 r3.2.1]] ∧
       Ret r lh [.one (.ro (.int .i64) [r0.2.2, r1.2.2, r2.2.2, r3.2.2])] [.box [.ro (.int .u8) r3.1, .int .i64 r3.2.1]]) := by kernel_rfl
theorem c57 (b : List Int) (p : Int) (hb : RdB b) (h0 : 0 ≤ p) (h1 : p ≤ 10000) : ∃ v : V4, VOk v ∧ SC P 57 [.one (.ptr 0 0 0)] [.box [.ro (.int .u8) b, .int .i64 p]] [.one (.ro (.int .i64) v.l)] [.box [.ro (.int .u8) b, .int .i64 (p + 1 + 1 + 1 + 1)]] := by
  obtain ⟨v0, a0, b0, s0⟩ := c56 b p 31 hb (by omega) (by omega) (by omega)
  obtain ⟨v1, a1, b1, s1⟩ := c56 b (p + 1) 4 hb (by omega) (by omega) (by omega)
  obtain ⟨v2, a2, b2, s2⟩ := c56 b (p + 1 + 1) 31 hb (by omega) (by omega) (by omega)
  obtain ⟨v3, a3, b3, s3⟩ := c56 b (p + 1 + 1 + 1) 27 hb (by omega) (by omega) (by omega)
  refine ⟨(v0, v1, v2, v3), ⟨show FOk v0 from ⟨a0, by omega⟩, show FOk v1 from ⟨a1, by omega⟩, show FOk v2 from ⟨a2, by omega⟩, show FOk v3 from ⟨a3, by omega⟩⟩, ?_⟩
  refine SC_of_FB (H := H57) E_ok Tryz.func57 (by kernel_rfl) ?_
  rw [eq57]
  exact ⟨(b, p + 1, v0), s0, (b, _, v1), s1, (b, _, v2), s2, (b, _, v3), s3, rfl, rfl⟩
/-! loop.example/keelson/spec.l4Set -/
def H86w : Hint := ⟨[[(0, 0, .bool), (3, 0, .bool), (4, 0, .bool)]], [], [], [], [], [], []⟩
def S86w_L0 (bits0 : Int) (i4 : Int) (h0 : List Bool) : St := ⟨[(0, .w (.one (.int .i64 bits0))), (3, .w (.one (.sl 0 none))), (4, .w (.one (.int .i64 i4)))], [.row .bool h0 .own]⟩
theorem eq86w (bits : Int) (r : List W) (lh : Heap) : FB E H86w Tryz.f86 [.one (.int .i64 bits)] [] r lh =
  (
   FL E H86w Tryz.f86 0 r lh 0 (S86w_L0 bits 0 [false, false, false, false, false, false, false, false])) := by kernel_rfl
theorem eq86w_L0 (bits0 : Int) (i4 : Int) (h0 : List Bool) (r : List W) (lh : Heap) : FL1 E H86w Tryz.f86 0 r lh 0 (S86w_L0 bits0 i4 h0) =
  (
   Br (decide (i4 < ((h0.length : Nat) : Int))) (
    Ck (decide ((0 : Int) ≤ i4)) (
     Ck (decide (i4 < ((h0.length : Nat) : Int))) (
      Ck (Nat.ble (i4.toNat + 1) h0.length) (
       FL E H86w Tryz.f86 0 r lh 0 (S86w_L0 (IntKind.wrap .i64 (Int.tdiv bits0 2)) (IntKind.wrap .i64 (i4 + 1)) (h0.set i4.toNat (decide ((Int.tmod bits0 2) = (1 : Int))))))))) (
    Ret r lh [.one (.sl 0 none)] [.row .bool h0 .own])) := by kernel_rfl
theorem l86_g : ∀ (n i : Nat) (bits : Int) (h : List Bool), i + n = 8 → h.length = 8 → ∃ t : List Bool, t.length = 8 ∧ FL E H86w Tryz.f86 0 [.one (.sl 0 none)] [.row .bool t .own] 0 (S86w_L0 bits (i : Int) h)
  | 0, i, bits, h, hi, hl => by
    refine ⟨h, hl, FL_of1 ?_⟩
    rw [eq86w_L0]
    exact Br_f (by omega) ⟨rfl, rfl⟩
  | n + 1, i, bits, h, hi, hl => by
    obtain ⟨t, ht, hF⟩ := l86_g n (i + 1) (IntKind.wrap .i64 (bits.tdiv 2)) (h.set i (decide (bits.tmod 2 = 1))) (by omega) (by rw [List.length_set]; exact hl)
    refine ⟨t, ht, FL_of1 ?_⟩
    rw [eq86w_L0, wS (by omega)]
    simp only [Int.toNat_natCast]
    exact Br_t (by omega) (Ck_d (by omega) (Ck_d (by omega) (Ck_le (by omega) hF)))
theorem c86w (bits : Int) : ∃ t : List Bool, t.length = 8 ∧ SC P 86 [.one (.int .i64 bits)] [] [.one (.sl 0 none)] [.row .bool t .own] := by
  obtain ⟨t, ht, hF⟩ := l86_g 8 0 bits [false, false, false, false, false, false, false, false] rfl rfl
  refine ⟨t, ht, ?_⟩
  refine SC_of_FB (H := H86w) E_ok Tryz.func86 (by kernel_rfl) ?_
  rw [eq86w]
  exact hF
/-! loop.example/keelson/spec.l92Which -/
def H59 : Hint := ⟨[], [], [], [], [.one (.c (.sl .bool))], [], []⟩
theorem eq59 (b : List Int) (p : Int) (r : List W) (lh : Heap) : FB E H59 Tryz.f59 [.one (.ptr 0 0 0)] [.box [.ro (.int .u8) b, .int .i64 p]] r lh =
  (
   ∃ r0 : List Int × Int × Int, SC P 56 [.one (.ptr 0 0 0), .one (.int .i64 3)] [.box [.ro (.int .u8) b, .int .i64 p]] [.one (.int .i64 r0.2.2)] [.box [.ro (.int .u8) r0.1, .int .i64 r0.2.1]] ∧
    Br (decide (r0.2.2 = (0 : Int))) (
     ∃ r1 : List Bool, SC P 86 [.one (.int .i64 255)] [] [.one (.sl 0 none)] [.row .bool r1 .own] ∧
      Ret r lh [.one (.ro .bool r1)] [.box [.ro (.int .u8) r0.1, .int .i64 r0.2.1]]) (
     ∃ r2 : List Int × Int × Int, SC P 56 [.one (.ptr 0 0 0), .one (.int .i64 256)] [.box [.ro (.int .u8) r0.1, .int .i64 r0.2.1]] [.one (.int .i64 r2.2.2)] [.box [.ro (.int .u8) r2.1, .int .i64 r2.2.1]] ∧
      ∃ r3 : List Bool, SC P 86 [.one (.int .i64 r2.2.2)] [] [.one (.sl 0 none)] [.row .bool r3 .own] ∧
       Ret r lh [.one (.ro .bool r3)] [.box [.ro (.int .u8) r2.1, .int .i64 r2.2.1]])) := by kernel_rfl
theorem c59 (b : List Int) (p : Int) (hb : RdB b) (h0 : 0 ≤ p) (h1 : p ≤ 10000) : ∃ (t : List Bool) (p' : Int), t.length = 8 ∧ 0 ≤ p' ∧ p' ≤ p + 2 ∧ SC P 59 [.one (.ptr 0 0 0)] [.box [.ro (.int .u8) b, .int .i64 p]] [.one (.ro .bool t)] [.box [.ro (.int .u8) b, .int .i64 p']] := by
  obtain ⟨v0, a0, b0, s0⟩ := c56 b p 3 hb (by omega) (by omega) (by omega)
  by_cases e : v0 = 0
  · obtain ⟨t, ht, st⟩ := c86w 255
    refine ⟨t, p + 1, ht, by omega, by omega, ?_⟩
    refine SC_of_FB (H := H59) E_ok Tryz.func59 (by kernel_rfl) ?_
    rw [eq59]
    exact ⟨(b, p + 1, v0), s0, Br_t e ⟨_, st, rfl, rfl⟩⟩
  · obtain ⟨v1, a1, b1, s1⟩ := c56 b (p + 1) 256 hb (by omega) (by omega) (by omega)
    obtain ⟨t, ht, st⟩ := c86w v1
    refine ⟨t, p + 1 + 1, ht, by omega, by omega, ?_⟩
    refine SC_of_FB (H := H59) E_ok Tryz.func59 (by kernel_rfl) ?_
    rw [eq59]
    exact ⟨(b, p + 1, v0), s0, Br_f e ⟨(b, p + 1 + 1, v1), s1, _, st, rfl, rfl⟩⟩
/-! loop.example/keelson/spec.l21Copy -/
def H88 : Hint := ⟨[], [], [], [(4, 0), (7, 0), (11, 0), (15, 0)], [], [], [(1, .fork3 [0, 1, 3, 4, 7, 8, 11, 12] 2 (.fork3 [] 5 (.fork [] 6 (.fork [] 9 (.lin [10, 13, 14, 15]) 10 (.lin [9, 13, 14, 15])) 10 (.lin [6, 9, 13, 14, 15])) 6 (.fork [] 5 (.fork [] 9 (.lin [10, 13, 14, 15]) 10 (.lin [9, 13, 14, 15])) 10 (.lin [5, 9, 13, 14, 15])) 10 (.fork [] 5 (.lin [6, 9, 13, 14, 15]) 6 (.lin [5, 9, 13, 14, 15]))) 6 (.fork [] 2 (.fork [] 5 (.fork [] 9 (.lin [10, 13, 14, 15]) 10 (.lin [9, 13, 14, 15])) 10 (.lin [5, 9, 13, 14, 15])) 10 (.lin [2, 5, 9, 13, 14, 15])) 10 (.fork [] 2 (.fork [] 5 (.lin [6, 9, 13, 14, 15]) 6 (.lin [5, 9, 13, 14, 15])) 6 (.lin [2, 5, 9, 13, 14, 15])))]⟩
theorem eq88 (s : (Int × (List Int × (List Int × List Bool)))) (r : List W) (lh : Heap) : FB E H88 Tryz.f88 [.agg [.int .i64 s.1, .ro (.int .i64) s.2.1, .ro (.int .i64) s.2.2.1, .ro .bool s.2.2.2]] [] r lh =
  (
   (
    (
     Ck (Nat.ble ((0 + s.2.1.length) * 8) roomy) (
      (
       (
        Ck (Nat.ble ((0 + s.2.2.1.length) * 8) roomy) (
         Ck (Nat.ble ((0 + s.2.2.2.length) * 1) roomy) (
          Ret r lh [.agg [.int .i64 s.1, .sl 0 none, .sl 1 none, .sl 2 none]] [.row (.int .i64) ([] ++ s.2.1) .own, .row (.int .i64) ([] ++ s.2.2.1) .own, .row .bool ([] ++ s.2.2.2) .own]))) ∧ (
        Ck (Nat.ble ((0 + s.2.2.1.length) * 8) roomy) (
         Ck (Nat.ble ((0 + s.2.2.2.length) * 1) roomy) (
          Ret r lh [.agg [.int .i64 s.1, .sl 0 none, .sl 1 none, .sl 2 none]] [.row (.int .i64) ([] ++ s.2.1) .own, .row (.int .i64) ([] ++ s.2.2.1) .own, .row .bool ([] ++ s.2.2.2) .own])))) ∧ (
       Ck (Nat.ble ((0 + s.2.2.1.length) * 8) roomy) (
        Ck (Nat.ble ((0 + s.2.2.2.length) * 1) roomy) (
         Ret r lh [.agg [.int .i64 s.1, .sl 0 none, .sl 1 none, .sl 2 none]] [.row (.int .i64) ([] ++ s.2.1) .own, .row (.int .i64) ([] ++ s.2.2.1) .own, .row .bool ([] ++ s.2.2.2) .own]))))) ∧ (
     (
      (
       Ck (Nat.ble ((0 + s.2.1.length) * 8) roomy) (
        (
         Ck (Nat.ble ((0 + s.2.2.1.length) * 8) roomy) (
          Ck (Nat.ble ((0 + s.2.2.2.length) * 1) roomy) (
           Ret r lh [.agg [.int .i64 s.1, .sl 0 none, .sl 1 none, .sl 2 none]] [.row (.int .i64) ([] ++ s.2.1) .own, .row (.int .i64) ([] ++ s.2.2.1) .own, .row .bool ([] ++ s.2.2.2) .own]))) ∧ (
         Ck (Nat.ble ((0 + s.2.2.1.length) * 8) roomy) (
          Ck (Nat.ble ((0 + s.2.2.2.length) * 1) roomy) (
           Ret r lh [.agg [.int .i64 s.1, .sl 0 none, .sl 1 none, .sl 2 none]] [.row (.int .i64) ([] ++ s.2.1) .own, .row (.int .i64) ([] ++ s.2.2.1) .own, .row .bool ([] ++ s.2.2.2) .own]))))) ∧ (
       Ck (Nat.ble ((0 + s.2.1.length) * 8) roomy) (
        Ck (Nat.ble ((0 + s.2.2.1.length) * 8) roomy) (
         Ck (Nat.ble ((0 + s.2.2.2.length) * 1) roomy) (
          Ret r lh [.agg [.int .i64 s.1, .sl 0 none, .sl 1 none, .sl 2 none]] [.row (.int .i64) ([] ++ s.2.1) .own, .row (.int .i64) ([] ++ s.2.2.1) .own, .row .bool ([] ++ s.2.2.2) .own]))))) ∧ (
      (
       Ck (Nat.ble ((0 + s.2.1.length) * 8) roomy) (
        Ck (Nat.ble ((0 + s.2.2.1.length) * 8) roomy) (
         Ck (Nat.ble ((0 + s.2.2.2.length) * 1) roomy) (
          Ret r lh [.agg [.int .i64 s.1, .sl 0 none, .sl 1 none, .sl 2 none]] [.row (.int .i64) ([] ++ s.2.1) .own, .row (.int .i64) ([] ++ s.2.2.1) .own, .row .bool ([] ++ s.2.2.2) .own])))) ∧ (
       Ck (Nat.ble ((0 + s.2.1.length) * 8) roomy) (
        Ck (Nat.ble ((0 + s.2.2.1.length) * 8) roomy) (
         Ck (Nat.ble ((0 + s.2.2.2.length) * 1) roomy) (
          Ret r lh [.agg [.int .i64 s.1, .sl 0 none, .sl 1 none, .sl 2 none]] [.row (.int .i64) ([] ++ s.2.1) .own, .row (.int .i64) ([] ++ s.2.2.1) .own, .row .bool ([] ++ s.2.2.2) .own]))))))) ∧ (
    (
     (
      (
       Ck (Nat.ble ((0 + s.2.1.length) * 8) roomy) (
        (
         Ck (Nat.ble ((0 + s.2.2.1.length) * 8) roomy) (
          Ck (Nat.ble ((0 + s.2.2.2.length) * 1) roomy) (
           Ret r lh [.agg [.int .i64 s.1, .sl 0 none, .sl 1 none, .sl 2 none]] [.row (.int .i64) ([] ++ s.2.1) .own, .row (.int .i64) ([] ++ s.2.2.1) .own, .row .bool ([] ++ s.2.2.2) .own]))) ∧ (
         Ck (Nat.ble ((0 + s.2.2.1.length) * 8) roomy) (
          Ck (Nat.ble ((0 + s.2.2.2.length) * 1) roomy) (
           Ret r lh [.agg [.int .i64 s.1, .sl 0 none, .sl 1 none, .sl 2 none]] [.row (.int .i64) ([] ++ s.2.1) .own, .row (.int .i64) ([] ++ s.2.2.1) .own, .row .bool ([] ++ s.2.2.2) .own]))))) ∧ (
       Ck (Nat.ble ((0 + s.2.1.length) * 8) roomy) (
        Ck (Nat.ble ((0 + s.2.2.1.length) * 8) roomy) (
         Ck (Nat.ble ((0 + s.2.2.2.length) * 1) roomy) (
          Ret r lh [.agg [.int .i64 s.1, .sl 0 none, .sl 1 none, .sl 2 none]] [.row (.int .i64) ([] ++ s.2.1) .own, .row (.int .i64) ([] ++ s.2.2.1) .own, .row .bool ([] ++ s.2.2.2) .own]))))) ∧ (
      Ck (Nat.ble ((0 + s.2.1.length) * 8) roomy) (
       Ck (Nat.ble ((0 + s.2.2.1.length) * 8) roomy) (
        Ck (Nat.ble ((0 + s.2.2.2.length) * 1) roomy) (
         Ret r lh [.agg [.int .i64 s.1, .sl 0 none, .sl 1 none, .sl 2 none]] [.row (.int .i64) ([] ++ s.2.1) .own, .row (.int .i64) ([] ++ s.2.2.1) .own, .row .bool ([] ++ s.2.2.2) .own]))))) ∧ (
     (
      (
       Ck (Nat.ble ((0 + s.2.1.length) * 8) roomy) (
        Ck (Nat.ble ((0 + s.2.2.1.length) * 8) roomy) (
         Ck (Nat.ble ((0 + s.2.2.2.length) * 1) roomy) (
          Ret r lh [.agg [.int .i64 s.1, .sl 0 none, .sl 1 none, .sl 2 none]] [.row (.int .i64) ([] ++ s.2.1) .own, .row (.int .i64) ([] ++ s.2.2.1) .own, .row .bool ([] ++ s.2.2.2) .own])))) ∧ (
       Ck (Nat.ble ((0 + s.2.1.length) * 8) roomy) (
        Ck (Nat.ble ((0 + s.2.2.1.length) * 8) roomy) (
         Ck (Nat.ble ((0 + s.2.2.2.length) * 1) roomy) (
          Ret r lh [.agg [.int .i64 s.1, .sl 0 none, .sl 1 none, .sl 2 none]] [.row (.int .i64) ([] ++ s.2.1) .own, .row (.int .i64) ([] ++ s.2.2.1) .own, .row .bool ([] ++ s.2.2.2) .own]))))) ∧ (
      Ck (Nat.ble ((0 + s.2.1.length) * 8) roomy) (
       Ck (Nat.ble ((0 + s.2.2.1.length) * 8) roomy) (
        Ck (Nat.ble ((0 + s.2.2.2.length) * 1) roomy) (
         Ret r lh [.agg [.int .i64 s.1, .sl 0 none, .sl 1 none, .sl 2 none]] [.row (.int .i64) ([] ++ s.2.1) .own, .row (.int .i64) ([] ++ s.2.2.1) .own, .row .bool ([] ++ s.2.2.2) .own]))))))) := by kernel_rfl
theorem c88 (s : StrT) (hs : Len8 s) : SC P 88 [.agg [.int .i64 s.1, .ro (.int .i64) s.2.1, .ro (.int .i64) s.2.2.1, .ro .bool s.2.2.2]] [] [.agg [.int .i64 s.1, .sl 0 none, .sl 1 none, .sl 2 none]] [.row (.int .i64) s.2.1 .own, .row (.int .i64) s.2.2.1 .own, .row .bool s.2.2.2 .own] := by
  obtain ⟨h1, h2, h3⟩ := hs
  refine SC_of_FB (H := H88) E_ok Tryz.func88 (by kernel_rfl) ?_
  rw [eq88]
  simp only [List.nil_append]
  repeat' first
    | exact ⟨rfl, rfl⟩
    | refine Ck_room (by omega) ?_
    | refine And.intro ?_ ?_
/-! loop.example/keelson/spec.l21Put -/
def H89 : Hint := ⟨[], [], [(2, [0, 1, 2, 3, 4, 5, 7, 6, 8, 9, 10, 11])], [], [], [], []⟩
theorem eq89 (s : (Int × (List Int × (List Int × List Bool)))) (data : List Int) (at0 : Int) (vers : Int) (r : List W) (lh : Heap) : FB E H89 Tryz.f89 [.agg [.int .i64 s.1, .ro (.int .i64) s.2.1, .ro (.int .i64) s.2.2.1, .ro .bool s.2.2.2], .one (.ro (.int .i64) data), .one (.int .i64 at0), .one (.int .i64 vers)] [] r lh =
  (
   ∃ r0 : Int × List Int × List Int × List Bool, SC P 88 [.agg [.int .i64 s.1, .ro (.int .i64) s.2.1, .ro (.int .i64) s.2.2.1, .ro .bool s.2.2.2]] [] [.agg [.int .i64 r0.1, .sl 0 none, .sl 1 none, .sl 2 none]] [.row (.int .i64) r0.2.1 .own, .row (.int .i64) r0.2.2.1 .own, .row .bool r0.2.2.2 .own] ∧
    ∃ r1 : List Int, SC P 85 [.one (.int .i64 s.1), .one (.ro (.int .i64) data)] [] [.one (.sl 0 none)] [.row (.int .i64) r1 .own] ∧
     Ck (decide ((0 : Int) ≤ at0)) (
      Ck (decide (at0 < ((r1.length : Nat) : Int))) (
       Ck (Nat.ble (at0.toNat + 1) r1.length) (
        Ck (decide ((0 : Int) ≤ at0)) (
         Ck (decide (at0 < ((r0.2.1.length : Nat) : Int))) (
          Ck (Nat.ble (at0.toNat + 1) r0.2.1.length) (
           Ck (decide ((0 : Int) ≤ at0)) (
            Ck (decide (at0 < ((r0.2.2.1.length : Nat) : Int))) (
             Ck (Nat.ble (at0.toNat + 1) r0.2.2.1.length) (
              Ck (decide ((0 : Int) ≤ at0)) (
               Ck (decide (at0 < ((r0.2.2.2.length : Nat) : Int))) (
                Ck (Nat.ble (at0.toNat + 1) r0.2.2.2.length) (
                 Ret r lh [.agg [.int .i64 r0.1, .sl 0 none, .sl 1 none, .sl 2 none]] [.row (.int .i64) (r0.2.1.set at0.toNat (r1.getD at0.toNat 0)) .own, .row (.int .i64) (r0.2.2.1.set at0.toNat vers) .own, .row .bool (r0.2.2.2.set at0.toNat true) .own]))))))))))))) := by kernel_rfl
theorem c89 (s : StrT) (hs : Len8 s) (hk : inB s.1 1 2 = true) (v : V4) (hv : VOk v) (a : Nat) (ha : a < 8) (vers : Int) : ∃ q : StrT, Len8 q ∧ q.1 = s.1 ∧ SC P 89 [.agg [.int .i64 s.1, .ro (.int .i64) s.2.1, .ro (.int .i64) s.2.2.1, .ro .bool s.2.2.2], .one (.ro (.int .i64) v.l), .one (.int .i64 (a : Int)), .one (.int .i64 vers)] [] [.agg [.int .i64 q.1, .sl 0 none, .sl 1 none, .sl 2 none]] [.row (.int .i64) q.2.1 .own, .row (.int .i64) q.2.2.1 .own, .row .bool q.2.2.2 .own] := by
  have s1 := c88 s hs
  obtain ⟨h1, h2, h3⟩ := hs
  have s2 := c85 s.1 hk v hv
  have hl := allF_length s.1 v
  refine ⟨(s.1, s.2.1.set a ((allF s.1 v).getD a 0), s.2.2.1.set a vers, s.2.2.2.set a true), ⟨by rw [List.length_set]; exact h1, by rw [List.length_set]; exact h2, by rw [List.length_set]; exact h3⟩, rfl, ?_⟩
  refine SC_of_FB (H := H89) E_ok Tryz.func89 (by kernel_rfl) ?_
  rw [eq89]
  refine ⟨s, s1, _, s2, ?_⟩
  simp only [Int.toNat_natCast]
  exact Ck_d (by omega) (Ck_d (by omega) (Ck_le (by omega) (Ck_d (by omega) (Ck_d (by omega) (Ck_le (by omega) (Ck_d (by omega) (Ck_d (by omega) (Ck_le (by omega) (Ck_d (by omega) (Ck_d (by omega) (Ck_le (by omega) ⟨rfl, rfl⟩)))))))))))
/-! loop.example/keelson/spec.l21Lose -/
def H60 : Hint := ⟨[], [], [], [], [], [], []⟩
theorem eq60 (s : (Int × (List Int × (List Int × List Bool)))) (at0 : Int) (r : List W) (lh : Heap) : FB E H60 Tryz.f60 [.agg [.int .i64 s.1, .ro (.int .i64) s.2.1, .ro (.int .i64) s.2.2.1, .ro .bool s.2.2.2], .one (.int .i64 at0)] [] r lh =
  (
   ∃ r0 : Int × List Int × List Int × List Bool, SC P 88 [.agg [.int .i64 s.1, .ro (.int .i64) s.2.1, .ro (.int .i64) s.2.2.1, .ro .bool s.2.2.2]] [] [.agg [.int .i64 r0.1, .sl 0 none, .sl 1 none, .sl 2 none]] [.row (.int .i64) r0.2.1 .own, .row (.int .i64) r0.2.2.1 .own, .row .bool r0.2.2.2 .own] ∧
    Ck (decide ((0 : Int) ≤ at0)) (
     Ck (decide (at0 < ((r0.2.1.length : Nat) : Int))) (
      Ck (Nat.ble (at0.toNat + 1) r0.2.1.length) (
       Ck (decide ((0 : Int) ≤ at0)) (
        Ck (decide (at0 < ((r0.2.2.1.length : Nat) : Int))) (
         Ck (Nat.ble (at0.toNat + 1) r0.2.2.1.length) (
          Ck (decide ((0 : Int) ≤ at0)) (
           Ck (decide (at0 < ((r0.2.2.2.length : Nat) : Int))) (
            Ck (Nat.ble (at0.toNat + 1) r0.2.2.2.length) (
             Ret r lh [.agg [.int .i64 r0.1, .sl 0 none, .sl 1 none, .sl 2 none]] [.row (.int .i64) (r0.2.1.set at0.toNat 0) .own, .row (.int .i64) (r0.2.2.1.set at0.toNat 0) .own, .row .bool (r0.2.2.2.set at0.toNat false) .own])))))))))) := by kernel_rfl
theorem c60 (s : StrT) (hs : Len8 s) (a : Int) (h0 : 0 ≤ a) (h8 : a < 8) : ∃ q : StrT, Len8 q ∧ SC P 60 [.agg [.int .i64 s.1, .ro (.int .i64) s.2.1, .ro (.int .i64) s.2.2.1, .ro .bool s.2.2.2], .one (.int .i64 a)] [] [.agg [.int .i64 q.1, .sl 0 none, .sl 1 none, .sl 2 none]] [.row (.int .i64) q.2.1 .own, .row (.int .i64) q.2.2.1 .own, .row .bool q.2.2.2 .own] := by
  have s1 := c88 s hs
  obtain ⟨h1, h2, h3⟩ := hs
  refine ⟨(s.1, s.2.1.set a.toNat 0, s.2.2.1.set a.toNat 0, s.2.2.2.set a.toNat false), ⟨by rw [List.length_set]; exact h1, by rw [List.length_set]; exact h2, by rw [List.length_set]; exact h3⟩, ?_⟩
  refine SC_of_FB (H := H60) E_ok Tryz.func60 (by kernel_rfl) ?_
  rw [eq60]
  refine ⟨s, s1, ?_⟩
  exact Ck_d (by omega) (Ck_d (by omega) (Ck_le (by omega) (Ck_d (by omega) (Ck_d (by omega) (Ck_le (by omega) (Ck_d (by omega) (Ck_d (by omega) (Ck_le (by omega) ⟨rfl, rfl⟩))))))))
/-! loop.example/keelson/spec.StripeWrite -/
def H58 : Hint := ⟨[[(1, 0, .bool), (2, 0, .bool), (3, 0, .bool), (6, 0, .bool), (8, 0, .bool), (9, 0, .bool)]], [], [(10, [0, 1, 2, 3, 4, 5, 6, 7])], [], [.agg [.c (.int .i64), .own (.int .i64), .own (.int .i64), .own .bool], .one (.c .bool)], [], []⟩
def S58_L0 (data1 : List Int) (which2 : List Bool) (x9 : Int) (b0_0 : Int) (b0_1 : List Int) (b0_2 : List Int) (b0_3 : List Bool) (b1_0 : Int) (b2_0 : Int) (h3 : List Int) (h4 : List Int) (h5 : List Bool) : St := ⟨[(1, .w (.one (.ro (.int .i64) data1))), (2, .w (.one (.ro .bool which2))), (3, .w (.one (.ptr 0 0 0))), (6, .w (.one (.ptr 1 0 0))), (8, .w (.one (.ptr 2 0 0))), (9, .w (.one (.int .i64 x9)))], [.box [.int .i64 b0_0, .ro (.int .i64) b0_1, .ro (.int .i64) b0_2, .ro .bool b0_3], .box [.int .i64 b1_0, .nil, .nil, .nil], .box [.int .i64 b2_0, .sl 3 none, .sl 4 none, .sl 5 none], .row (.int .i64) h3 .own, .row (.int .i64) h4 .own, .row .bool h5 .own]⟩
theorem eq58 (s : (Int × (List Int × (List Int × List Bool)))) (data : List Int) (which : List Bool) (r : List W) (lh : Heap) : FB E H58 Tryz.f58 [.agg [.int .i64 s.1, .ro (.int .i64) s.2.1, .ro (.int .i64) s.2.2.1, .ro .bool s.2.2.2], .one (.ro (.int .i64) data), .one (.ro .bool which)] [] r lh =
  (
   ∃ r0 : Bool, SC P 17 [.agg [.int .i64 s.1, .ro (.int .i64) s.2.1, .ro (.int .i64) s.2.2.1, .ro .bool s.2.2.2]] [] [.one (.bool r0)] [] ∧
    Br (!r0) (
     Ret r lh [.agg [.int .i64 0, .sl 0 none, .sl 1 none, .sl 2 none], .one (.bool false)] [.row (.int .i64) [] .own, .row (.int .i64) [] .own, .row .bool [] .own]) (
     ∃ r1 : Bool, SC P 87 [.one (.ro (.int .i64) data)] [] [.one (.bool r1)] [] ∧
      Br (!r1) (
       Ret r lh [.agg [.int .i64 0, .sl 0 none, .sl 1 none, .sl 2 none], .one (.bool false)] [.row (.int .i64) [] .own, .row (.int .i64) [] .own, .row .bool [] .own]) (
       Br (!(decide (((which.length : Nat) : Int) = (8 : Int)))) (
        Ret r lh [.agg [.int .i64 0, .sl 0 none, .sl 1 none, .sl 2 none], .one (.bool false)] [.row (.int .i64) [] .own, .row (.int .i64) [] .own, .row .bool [] .own]) (
        ∃ r2 : Int × List Int × List Int × List Bool, SC P 88 [.agg [.int .i64 s.1, .ro (.int .i64) s.2.1, .ro (.int .i64) s.2.2.1, .ro .bool s.2.2.2]] [] [.agg [.int .i64 r2.1, .sl 0 none, .sl 1 none, .sl 2 none]] [.row (.int .i64) r2.2.1 .own, .row (.int .i64) r2.2.2.1 .own, .row .bool r2.2.2.2 .own] ∧
         ∃ r3 : Int, SC P 44 [.agg [.int .i64 s.1, .ro (.int .i64) s.2.1, .ro (.int .i64) s.2.2.1, .ro .bool s.2.2.2]] [] [.one (.int .i64 r3)] [] ∧
          Br (decide ((99 : Int) ≤ r3)) (
           Ret r lh [.agg [.int .i64 r2.1, .sl 0 none, .sl 1 none, .sl 2 none], .one (.bool false)] [.row (.int .i64) r2.2.1 .own, .row (.int .i64) r2.2.2.1 .own, .row .bool r2.2.2.2 .own]) (
           FL E H58 Tryz.f58 0 r lh 0 (S58_L0 data which 0 s.1 s.2.1 s.2.2.1 s.2.2.2 0 r2.1 r2.2.1 r2.2.2.1 r2.2.2.2)))))) := by kernel_rfl
theorem eq58_L0 (data1 : List Int) (which2 : List Bool) (x9 : Int) (b0_0 : Int) (b0_1 : List Int) (b0_2 : List Int) (b0_3 : List Bool) (b1_0 : Int) (b2_0 : Int) (h3 : List Int) (h4 : List Int) (h5 : List Bool) (r : List W) (lh : Heap) : FL1 E H58 Tryz.f58 0 r lh 0 (S58_L0 data1 which2 x9 b0_0 b0_1 b0_2 b0_3 b1_0 b2_0 h3 h4 h5) =
  (
   Br (decide (x9 < (8 : Int))) (
    Ck (decide ((0 : Int) ≤ x9)) (
     Ck (decide (x9 < ((which2.length : Nat) : Int))) (
      Br (which2.getD x9.toNat false) (
       ∃ r0 : Int, SC P 44 [.agg [.int .i64 b0_0, .ro (.int .i64) b0_1, .ro (.int .i64) b0_2, .ro .bool b0_3]] [] [.one (.int .i64 r0)] [] ∧
        ∃ r1 : Int × List Int × List Int × List Bool, SC P 89 [.agg [.int .i64 b2_0, .ro (.int .i64) h3, .ro (.int .i64) h4, .ro .bool h5], .one (.ro (.int .i64) data1), .one (.int .i64 x9), .one (.int .i64 (IntKind.wrap .i64 (r0 + 1)))] [] [.agg [.int .i64 r1.1, .sl 0 none, .sl 1 none, .sl 2 none]] [.row (.int .i64) r1.2.1 .own, .row (.int .i64) r1.2.2.1 .own, .row .bool r1.2.2.2 .own] ∧
         FL E H58 Tryz.f58 0 r lh 0 (S58_L0 data1 which2 (IntKind.wrap .i64 (x9 + 1)) b0_0 b0_1 b0_2 b0_3 b1_0 r1.1 r1.2.1 r1.2.2.1 r1.2.2.2)) (
       FL E H58 Tryz.f58 0 r lh 0 (S58_L0 data1 which2 (IntKind.wrap .i64 (x9 + 1)) b0_0 b0_1 b0_2 b0_3 b1_0 b2_0 h3 h4 h5))))) (
    Ret r lh [.agg [.int .i64 b2_0, .sl 0 none, .sl 1 none, .sl 2 none], .one (.bool true)] [.row (.int .i64) h3 .own, .row (.int .i64) h4 .own, .row .bool h5 .own])) := by kernel_rfl
theorem l58 (s : StrT) (hs : Len8 s) (v : V4) (hv : VOk v) (which : List Bool) (hw : which.length = 8) (z : Int) : ∀ (n i : Nat) (o : StrT), i + n = 8 → Len8 o → inB o.1 1 2 = true → ∃ q : StrT, Len8 q ∧ FL E H58 Tryz.f58 0 [.agg [.int .i64 q.1, .sl 0 none, .sl 1 none, .sl 2 none], .one (.bool true)] [.row (.int .i64) q.2.1 .own, .row (.int .i64) q.2.2.1 .own, .row .bool q.2.2.2 .own] 0 (S58_L0 v.l which (i : Int) s.1 s.2.1 s.2.2.1 s.2.2.2 z o.1 o.2.1 o.2.2.1 o.2.2.2)
  | 0, i, o, h, ho, hk => by
    refine ⟨o, ho, FL_of1 ?_⟩
    rw [eq58_L0]
    exact Br_f (by omega) ⟨rfl, rfl⟩
  | n + 1, i, o, h, ho, hk => by
    cases e : which.getD i false with
    | true =>
      obtain ⟨o', ho', ek, sp⟩ := c89 o ho hk v hv i (by omega) (IntKind.wrap .i64 (topF s.2.2.1 + 1))
      obtain ⟨q, hq, hF⟩ := l58 s hs v hv which hw z n (i + 1) o' (by omega) ho' (by rw [ek]; exact hk)
      refine ⟨q, hq, FL_of1 ?_⟩
      rw [eq58_L0, wS (i := i) (by omega)]
      simp only [Int.toNat_natCast]
      refine Br_t (by omega) (Ck_d (by omega) (Ck_d (by omega) ?_))
      rw [e]
      exact BrT ⟨_, c44 s (by rw [hs.2.1]; omega), o', sp, hF⟩
    | false =>
      obtain ⟨q, hq, hF⟩ := l58 s hs v hv which hw z n (i + 1) o (by omega) ho hk
      refine ⟨q, hq, FL_of1 ?_⟩
      rw [eq58_L0, wS (i := i) (by omega)]
      simp only [Int.toNat_natCast]
      refine Br_t (by omega) (Ck_d (by omega) (Ck_d (by omega) ?_))
      rw [e]
      exact BrF hF
theorem c58 (s : StrT) (hs : Len8 s) (v : V4) (hv : VOk v) (which : List Bool) (hw : which.length = 8) : ∃ (q : StrT) (ok : Bool), (ok = true → Len8 q) ∧ SC P 58 [.agg [.int .i64 s.1, .ro (.int .i64) s.2.1, .ro (.int .i64) s.2.2.1, .ro .bool s.2.2.2], .one (.ro (.int .i64) v.l), .one (.ro .bool which)] [] [.agg [.int .i64 q.1, .sl 0 none, .sl 1 none, .sl 2 none], .one (.bool ok)] [.row (.int .i64) q.2.1 .own, .row (.int .i64) q.2.2.1 .own, .row .bool q.2.2.2 .own] := by
  have s1 := c17 s (by rw [hs.1]; omega)
  cases e : stripeOkF s with
  | false =>
    rw [e] at s1
    refine ⟨(0, [], [], []), false, (fun h => by cases h), ?_⟩
    refine SC_of_FB (H := H58) E_ok Tryz.func58 (by kernel_rfl) ?_
    rw [eq58]
    exact ⟨false, s1, Br_nb (fun _ => ⟨rfl, rfl⟩) (fun h => by cases h)⟩
  | true =>
    rw [e] at s1
    have so := str_ok e
    have s2 := c87 v.l (show 4 ≤ 1048576 by decide)
    rw [vecOk_l hv] at s2
    have s3 := c88 s hs
    have s4 := c44 s (by rw [hs.2.1]; omega)
    by_cases e9 : 99 ≤ topF s.2.2.1
    · refine ⟨s, false, (fun h => by cases h), ?_⟩
      refine SC_of_FB (H := H58) E_ok Tryz.func58 (by kernel_rfl) ?_
      rw [eq58]
      exact ⟨true, s1, Br_nb (fun h => by cases h) (fun _ => ⟨true, s2, Br_nb (fun h => by cases h) (fun _ => Br_nd (fun h => absurd (by omega) h) (fun _ => ⟨s, s3, _, s4, Br_t e9 ⟨rfl, rfl⟩⟩))⟩)⟩
    · obtain ⟨q, hq, hF⟩ := l58 s hs v hv which hw 0 8 0 s rfl hs so.kind
      refine ⟨q, true, fun _ => hq, ?_⟩
      refine SC_of_FB (H := H58) E_ok Tryz.func58 (by kernel_rfl) ?_
      rw [eq58]
      exact ⟨true, s1, Br_nb (fun h => by cases h) (fun _ => ⟨true, s2, Br_nb (fun h => by cases h) (fun _ => Br_nd (fun h => absurd (by omega) h) (fun _ => ⟨s, s3, _, s4, Br_f e9 hF⟩))⟩)⟩
/-! loop.example/keelson/spec.l92Stripe -/
def H31 : Hint := ⟨[[(0, 0, .bool), (2, 0, .bool), (3, 0, .bool), (4, 0, .bool)], [(2, 0, .bool), (3, 0, .bool), (7, 0, .bool)]], [], [(26, [0, 1, 2, 3, 4, 5, 6, 7, 8, 9, 10, 11, 12, 13])], [], [], [6, 8, 13, 15, 17], [(8, .fork3 [1, 3] 0 (.fork [] 2 (.fork [] 4 (.fork [] 5 (.lin [6, 7, 8, 9, 10, 11]) 9 (.lin [5, 6, 7, 8, 10, 11])) 9 (.lin [4, 5, 6, 7, 8, 10, 11])) 9 (.lin [2, 4, 5, 6, 7, 8, 10, 11])) 2 (.fork3 [] 0 (.fork [] 4 (.fork [] 5 (.lin [6, 7, 8, 9, 10, 11]) 9 (.lin [5, 6, 7, 8, 10, 11])) 9 (.lin [4, 5, 6, 7, 8, 10, 11])) 4 (.fork [0] 5 (.lin [6, 7, 8, 9, 10, 11]) 9 (.lin [5, 6, 7, 8, 10, 11])) 9 (.fork [] 0 (.lin [4, 5, 6, 7, 8, 10, 11]) 4 (.lin [0, 5, 6, 7, 8, 10, 11]))) 9 (.fork [] 0 (.lin [2, 4, 5, 6, 7, 8, 10, 11]) 2 (.fork [] 0 (.lin [4, 5, 6, 7, 8, 10, 11]) 4 (.lin [0, 5, 6, 7, 8, 10, 11])))), (6, .fork [1] 0 (.lin [2, 3, 4]) 2 (.lin [0, 3, 4])), (13, .fork [0, 2, 4] 1 (.lin [3, 5, 6, 7]) 3 (.fork [] 1 (.lin [5, 6, 7]) 5 (.lin [1, 6, 7]))), (15, .fork [0, 2, 4] 1 (.lin [3, 5, 6, 7]) 3 (.fork [] 1 (.lin [5, 6, 7]) 5 (.lin [1, 6, 7]))), (17, .fork [0, 2] 1 (.lin [3, 4, 5]) 3 (.lin [1, 4, 5]))]⟩
def S31_L0 (n4 : Int) (b0_0 : List Int) (b0_1 : Int) (b1_0 : Int) (b2_0 : Int) (h3 : List Int) (h4 : List Int) (h5 : List Bool) : St := ⟨[(0, .w (.one (.ptr 0 0 0))), (2, .w (.one (.ptr 1 0 0))), (3, .w (.one (.ptr 2 0 0))), (4, .w (.one (.int .i64 n4)))], [.box [.ro (.int .u8) b0_0, .int .i64 b0_1], .box [.int .i64 b1_0, .nil, .nil, .nil], .box [.int .i64 b2_0, .sl 3 none, .sl 4 none, .sl 5 none], .row (.int .i64) h3 .own, .row (.int .i64) h4 .own, .row .bool h5 .own]⟩
def S31_L1 (i7 : Int) (b0_0 : List Int) (b0_1 : Int) (b1_0 : Int) (b2_0 : Int) (h3 : List Int) (h4 : List Int) (h5 : List Bool) : St := ⟨[(2, .w (.one (.ptr 1 0 0))), (3, .w (.one (.ptr 2 0 0))), (7, .w (.one (.int .i64 i7)))], [.box [.ro (.int .u8) b0_0, .int .i64 b0_1], .box [.int .i64 b1_0, .nil, .nil, .nil], .box [.int .i64 b2_0, .sl 3 none, .sl 4 none, .sl 5 none], .row (.int .i64) h3 .own, .row (.int .i64) h4 .own, .row .bool h5 .own]⟩
theorem eq31 (b : List Int) (p : Int) (r : List W) (lh : Heap) : FB E H31 Tryz.f31 [.one (.ptr 0 0 0)] [.box [.ro (.int .u8) b, .int .i64 p]] r lh =
  (
   ∃ r0 : List Int × Int × Int, SC P 56 [.one (.ptr 0 0 0), .one (.int .i64 2)] [.box [.ro (.int .u8) b, .int .i64 p]] [.one (.int .i64 r0.2.2)] [.box [.ro (.int .u8) r0.1, .int .i64 r0.2.1]] ∧
    ∃ r1 : List Int × Int × List Int, SC P 57 [.one (.ptr 0 0 0)] [.box [.ro (.int .u8) r0.1, .int .i64 r0.2.1]] [.one (.ro (.int .i64) r1.2.2)] [.box [.ro (.int .u8) r1.1, .int .i64 r1.2.1]] ∧
     ∃ r2 : List Int × Int × Int, SC P 56 [.one (.ptr 0 0 0), .one (.int .i64 3)] [.box [.ro (.int .u8) r1.1, .int .i64 r1.2.1]] [.one (.int .i64 r2.2.2)] [.box [.ro (.int .u8) r2.1, .int .i64 r2.2.1]] ∧
      ∃ r3 : Int × List Int × List Int × List Bool, SC P 55 [.one (.int .i64 (IntKind.wrap .i64 (1 + r0.2.2))), .one (.ro (.int .i64) r1.2.2), .one (.int .i64 (IntKind.wrap .i64 (1 + r2.2.2)))] [] [.agg [.int .i64 r3.1, .sl 0 none, .sl 1 none, .sl 2 none]] [.row (.int .i64) r3.2.1 .own, .row (.int .i64) r3.2.2.1 .own, .row .bool r3.2.2.2 .own] ∧
       ∃ r4 : List Int × Int × Int, SC P 56 [.one (.ptr 0 0 0), .one (.int .i64 4)] [.box [.ro (.int .u8) r2.1, .int .i64 r2.2.1]] [.one (.int .i64 r4.2.2)] [.box [.ro (.int .u8) r4.1, .int .i64 r4.2.1]] ∧
        FL E H31 Tryz.f31 1 r lh 0 (S31_L0 r4.2.2 r4.1 r4.2.1 0 r3.1 r3.2.1 r3.2.2.1 r3.2.2.2)) := by kernel_rfl
theorem eq31_L0 (n4 : Int) (b0_0 : List Int) (b0_1 : Int) (b1_0 : Int) (b2_0 : Int) (h3 : List Int) (h4 : List Int) (h5 : List Bool) (r : List W) (lh : Heap) : FL1 E H31 Tryz.f31 1 r lh 0 (S31_L0 n4 b0_0 b0_1 b1_0 b2_0 h3 h4 h5) =
  (
   Br (decide ((0 : Int) < n4)) (
    ∃ r0 : List Int × Int × Int, SC P 56 [.one (.ptr 0 0 0), .one (.int .i64 3)] [.box [.ro (.int .u8) b0_0, .int .i64 b0_1]] [.one (.int .i64 r0.2.2)] [.box [.ro (.int .u8) r0.1, .int .i64 r0.2.1]] ∧
     Br (decide (r0.2.2 = (0 : Int))) (
      (
       (
        ∃ r1 : List Int × Int × List Int, SC P 57 [.one (.ptr 0 0 0)] [.box [.ro (.int .u8) r0.1, .int .i64 r0.2.1]] [.one (.ro (.int .i64) r1.2.2)] [.box [.ro (.int .u8) r1.1, .int .i64 r1.2.1]] ∧
         (
          ∃ r2 : List Int × Int × List Bool, SC P 59 [.one (.ptr 0 0 0)] [.box [.ro (.int .u8) r1.1, .int .i64 r1.2.1]] [.one (.ro .bool r2.2.2)] [.box [.ro (.int .u8) r2.1, .int .i64 r2.2.1]] ∧
           (
            ∃ r3 : Int × List Int × List Int × List Bool × Bool, SC P 58 [.agg [.int .i64 b2_0, .ro (.int .i64) h3, .ro (.int .i64) h4, .ro .bool h5], .one (.ro (.int .i64) r1.2.2), .one (.ro .bool r2.2.2)] [] [.agg [.int .i64 r3.1, .sl 0 none, .sl 1 none, .sl 2 none], .one (.bool r3.2.2.2.2)] [.row (.int .i64) r3.2.1 .own, .row (.int .i64) r3.2.2.1 .own, .row .bool r3.2.2.2.1 .own] ∧
             Br r3.2.2.2.2 (
              FL E H31 Tryz.f31 1 r lh 0 (S31_L0 (IntKind.wrap .i64 (n4 - 1)) r2.1 r2.2.1 b1_0 r3.1 r3.2.1 r3.2.2.1 r3.2.2.2.1)) (
              FL E H31 Tryz.f31 1 r lh 0 (S31_L0 (IntKind.wrap .i64 (n4 - 1)) r2.1 r2.2.1 b1_0 b2_0 h3 h4 h5))) ∧ (
            ∃ r4 : Int × List Int × List Int × List Bool × Bool, SC P 58 [.agg [.int .i64 b2_0, .ro (.int .i64) h3, .ro (.int .i64) h4, .ro .bool h5], .one (.ro (.int .i64) r1.2.2), .one (.ro .bool r2.2.2)] [] [.agg [.int .i64 r4.1, .sl 0 none, .sl 1 none, .sl 2 none], .one (.bool r4.2.2.2.2)] [.row (.int .i64) r4.2.1 .own, .row (.int .i64) r4.2.2.1 .own, .row .bool r4.2.2.2.1 .own] ∧
             Br r4.2.2.2.2 (
              FL E H31 Tryz.f31 1 r lh 0 (S31_L0 (IntKind.wrap .i64 (n4 - 1)) r2.1 r2.2.1 b1_0 r4.1 r4.2.1 r4.2.2.1 r4.2.2.2.1)) (
              FL E H31 Tryz.f31 1 r lh 0 (S31_L0 (IntKind.wrap .i64 (n4 - 1)) r2.1 r2.2.1 b1_0 b2_0 h3 h4 h5)))) ∧ (
          ∃ r5 : List Int × Int × List Bool, SC P 59 [.one (.ptr 0 0 0)] [.box [.ro (.int .u8) r1.1, .int .i64 r1.2.1]] [.one (.ro .bool r5.2.2)] [.box [.ro (.int .u8) r5.1, .int .i64 r5.2.1]] ∧
           ∃ r6 : Int × List Int × List Int × List Bool × Bool, SC P 58 [.agg [.int .i64 b2_0, .ro (.int .i64) h3, .ro (.int .i64) h4, .ro .bool h5], .one (.ro (.int .i64) r1.2.2), .one (.ro .bool r5.2.2)] [] [.agg [.int .i64 r6.1, .sl 0 none, .sl 1 none, .sl 2 none], .one (.bool r6.2.2.2.2)] [.row (.int .i64) r6.2.1 .own, .row (.int .i64) r6.2.2.1 .own, .row .bool r6.2.2.2.1 .own] ∧
            Br r6.2.2.2.2 (
             FL E H31 Tryz.f31 1 r lh 0 (S31_L0 (IntKind.wrap .i64 (n4 - 1)) r5.1 r5.2.1 b1_0 r6.1 r6.2.1 r6.2.2.1 r6.2.2.2.1)) (
             FL E H31 Tryz.f31 1 r lh 0 (S31_L0 (IntKind.wrap .i64 (n4 - 1)) r5.1 r5.2.1 b1_0 b2_0 h3 h4 h5)))) ∧ (
        ∃ r7 : List Int × Int × List Int, SC P 57 [.one (.ptr 0 0 0)] [.box [.ro (.int .u8) r0.1, .int .i64 r0.2.1]] [.one (.ro (.int .i64) r7.2.2)] [.box [.ro (.int .u8) r7.1, .int .i64 r7.2.1]] ∧
         ∃ r8 : List Int × Int × List Bool, SC P 59 [.one (.ptr 0 0 0)] [.box [.ro (.int .u8) r7.1, .int .i64 r7.2.1]] [.one (.ro .bool r8.2.2)] [.box [.ro (.int .u8) r8.1, .int .i64 r8.2.1]] ∧
          ∃ r9 : Int × List Int × List Int × List Bool × Bool, SC P 58 [.agg [.int .i64 b2_0, .ro (.int .i64) h3, .ro (.int .i64) h4, .ro .bool h5], .one (.ro (.int .i64) r7.2.2), .one (.ro .bool r8.2.2)] [] [.agg [.int .i64 r9.1, .sl 0 none, .sl 1 none, .sl 2 none], .one (.bool r9.2.2.2.2)] [.row (.int .i64) r9.2.1 .own, .row (.int .i64) r9.2.2.1 .own, .row .bool r9.2.2.2.1 .own] ∧
           Br r9.2.2.2.2 (
            FL E H31 Tryz.f31 1 r lh 0 (S31_L0 (IntKind.wrap .i64 (n4 - 1)) r8.1 r8.2.1 b1_0 r9.1 r9.2.1 r9.2.2.1 r9.2.2.2.1)) (
            FL E H31 Tryz.f31 1 r lh 0 (S31_L0 (IntKind.wrap .i64 (n4 - 1)) r8.1 r8.2.1 b1_0 b2_0 h3 h4 h5)))) ∧ (
       (
        ∃ r10 : List Int × Int × List Int, SC P 57 [.one (.ptr 0 0 0)] [.box [.ro (.int .u8) r0.1, .int .i64 r0.2.1]] [.one (.ro (.int .i64) r10.2.2)] [.box [.ro (.int .u8) r10.1, .int .i64 r10.2.1]] ∧
         (
          (
           ∃ r11 : List Int × Int × List Bool, SC P 59 [.one (.ptr 0 0 0)] [.box [.ro (.int .u8) r10.1, .int .i64 r10.2.1]] [.one (.ro .bool r11.2.2)] [.box [.ro (.int .u8) r11.1, .int .i64 r11.2.1]] ∧
            (
             ∃ r12 : Int × List Int × List Int × List Bool × Bool, SC P 58 [.agg [.int .i64 b2_0, .ro (.int .i64) h3, .ro (.int .i64) h4, .ro .bool h5], .one (.ro (.int .i64) r10.2.2), .one (.ro .bool r11.2.2)] [] [.agg [.int .i64 r12.1, .sl 0 none, .sl 1 none, .sl 2 none], .one (.bool r12.2.2.2.2)] [.row (.int .i64) r12.2.1 .own, .row (.int .i64) r12.2.2.1 .own, .row .bool r12.2.2.2.1 .own] ∧
              Br r12.2.2.2.2 (
               FL E H31 Tryz.f31 1 r lh 0 (S31_L0 (IntKind.wrap .i64 (n4 - 1)) r11.1 r11.2.1 b1_0 r12.1 r12.2.1 r12.2.2.1 r12.2.2.2.1)) (
               FL E H31 Tryz.f31 1 r lh 0 (S31_L0 (IntKind.wrap .i64 (n4 - 1)) r11.1 r11.2.1 b1_0 b2_0 h3 h4 h5))) ∧ (
             ∃ r13 : Int × List Int × List Int × List Bool × Bool, SC P 58 [.agg [.int .i64 b2_0, .ro (.int .i64) h3, .ro (.int .i64) h4, .ro .bool h5], .one (.ro (.int .i64) r10.2.2), .one (.ro .bool r11.2.2)] [] [.agg [.int .i64 r13.1, .sl 0 none, .sl 1 none, .sl 2 none], .one (.bool r13.2.2.2.2)] [.row (.int .i64) r13.2.1 .own, .row (.int .i64) r13.2.2.1 .own, .row .bool r13.2.2.2.1 .own] ∧
              Br r13.2.2.2.2 (
               FL E H31 Tryz.f31 1 r lh 0 (S31_L0 (IntKind.wrap .i64 (n4 - 1)) r11.1 r11.2.1 b1_0 r13.1 r13.2.1 r13.2.2.1 r13.2.2.2.1)) (
               FL E H31 Tryz.f31 1 r lh 0 (S31_L0 (IntKind.wrap .i64 (n4 - 1)) r11.1 r11.2.1 b1_0 b2_0 h3 h4 h5)))) ∧ (
           ∃ r14 : List Int × Int × List Bool, SC P 59 [.one (.ptr 0 0 0)] [.box [.ro (.int .u8) r10.1, .int .i64 r10.2.1]] [.one (.ro .bool r14.2.2)] [.box [.ro (.int .u8) r14.1, .int .i64 r14.2.1]] ∧
            ∃ r15 : Int × List Int × List Int × List Bool × Bool, SC P 58 [.agg [.int .i64 b2_0, .ro (.int .i64) h3, .ro (.int .i64) h4, .ro .bool h5], .one (.ro (.int .i64) r10.2.2), .one (.ro .bool r14.2.2)] [] [.agg [.int .i64 r15.1, .sl 0 none, .sl 1 none, .sl 2 none], .one (.bool r15.2.2.2.2)] [.row (.int .i64) r15.2.1 .own, .row (.int .i64) r15.2.2.1 .own, .row .bool r15.2.2.2.1 .own] ∧
             Br r15.2.2.2.2 (
              FL E H31 Tryz.f31 1 r lh 0 (S31_L0 (IntKind.wrap .i64 (n4 - 1)) r14.1 r14.2.1 b1_0 r15.1 r15.2.1 r15.2.2.1 r15.2.2.2.1)) (
              FL E H31 Tryz.f31 1 r lh 0 (S31_L0 (IntKind.wrap .i64 (n4 - 1)) r14.1 r14.2.1 b1_0 b2_0 h3 h4 h5)))) ∧ (
          (
           ∃ r16 : List Int × Int × List Bool, SC P 59 [.one (.ptr 0 0 0)] [.box [.ro (.int .u8) r10.1, .int .i64 r10.2.1]] [.one (.ro .bool r16.2.2)] [.box [.ro (.int .u8) r16.1, .int .i64 r16.2.1]] ∧
            (
             ∃ r17 : Int × List Int × List Int × List Bool × Bool, SC P 58 [.agg [.int .i64 b2_0, .ro (.int .i64) h3, .ro (.int .i64) h4, .ro .bool h5], .one (.ro (.int .i64) r10.2.2), .one (.ro .bool r16.2.2)] [] [.agg [.int .i64 r17.1, .sl 0 none, .sl 1 none, .sl 2 none], .one (.bool r17.2.2.2.2)] [.row (.int .i64) r17.2.1 .own, .row (.int .i64) r17.2.2.1 .own, .row .bool r17.2.2.2.1 .own] ∧
              Br r17.2.2.2.2 (
               FL E H31 Tryz.f31 1 r lh 0 (S31_L0 (IntKind.wrap .i64 (n4 - 1)) r16.1 r16.2.1 b1_0 r17.1 r17.2.1 r17.2.2.1 r17.2.2.2.1)) (
               FL E H31 Tryz.f31 1 r lh 0 (S31_L0 (IntKind.wrap .i64 (n4 - 1)) r16.1 r16.2.1 b1_0 b2_0 h3 h4 h5))) ∧ (
             ∃ r18 : Int × List Int × List Int × List Bool × Bool, SC P 58 [.agg [.int .i64 b2_0, .ro (.int .i64) h3, .ro (.int .i64) h4, .ro .bool h5], .one (.ro (.int .i64) r10.2.2), .one (.ro .bool r16.2.2)] [] [.agg [.int .i64 r18.1, .sl 0 none, .sl 1 none, .sl 2 none], .one (.bool r18.2.2.2.2)] [.row (.int .i64) r18.2.1 .own, .row (.int .i64) r18.2.2.1 .own, .row .bool r18.2.2.2.1 .own] ∧
              Br r18.2.2.2.2 (
               FL E H31 Tryz.f31 1 r lh 0 (S31_L0 (IntKind.wrap .i64 (n4 - 1)) r16.1 r16.2.1 b1_0 r18.1 r18.2.1 r18.2.2.1 r18.2.2.2.1)) (
               FL E H31 Tryz.f31 1 r lh 0 (S31_L0 (IntKind.wrap .i64 (n4 - 1)) r16.1 r16.2.1 b1_0 b2_0 h3 h4 h5)))) ∧ (
           (
            ∃ r19 : List Int × Int × List Bool, SC P 59 [.one (.ptr 0 0 0)] [.box [.ro (.int .u8) r10.1, .int .i64 r10.2.1]] [.one (.ro .bool r19.2.2)] [.box [.ro (.int .u8) r19.1, .int .i64 r19.2.1]] ∧
             ∃ r20 : Int × List Int × List Int × List Bool × Bool, SC P 58 [.agg [.int .i64 b2_0, .ro (.int .i64) h3, .ro (.int .i64) h4, .ro .bool h5], .one (.ro (.int .i64) r10.2.2), .one (.ro .bool r19.2.2)] [] [.agg [.int .i64 r20.1, .sl 0 none, .sl 1 none, .sl 2 none], .one (.bool r20.2.2.2.2)] [.row (.int .i64) r20.2.1 .own, .row (.int .i64) r20.2.2.1 .own, .row .bool r20.2.2.2.1 .own] ∧
              Br r20.2.2.2.2 (
               FL E H31 Tryz.f31 1 r lh 0 (S31_L0 (IntKind.wrap .i64 (n4 - 1)) r19.1 r19.2.1 b1_0 r20.1 r20.2.1 r20.2.2.1 r20.2.2.2.1)) (
               FL E H31 Tryz.f31 1 r lh 0 (S31_L0 (IntKind.wrap .i64 (n4 - 1)) r19.1 r19.2.1 b1_0 b2_0 h3 h4 h5))) ∧ (
            ∃ r21 : List Int × Int × List Bool, SC P 59 [.one (.ptr 0 0 0)] [.box [.ro (.int .u8) r10.1, .int .i64 r10.2.1]] [.one (.ro .bool r21.2.2)] [.box [.ro (.int .u8) r21.1, .int .i64 r21.2.1]] ∧
             ∃ r22 : Int × List Int × List Int × List Bool × Bool, SC P 58 [.agg [.int .i64 b2_0, .ro (.int .i64) h3, .ro (.int .i64) h4, .ro .bool h5], .one (.ro (.int .i64) r10.2.2), .one (.ro .bool r21.2.2)] [] [.agg [.int .i64 r22.1, .sl 0 none, .sl 1 none, .sl 2 none], .one (.bool r22.2.2.2.2)] [.row (.int .i64) r22.2.1 .own, .row (.int .i64) r22.2.2.1 .own, .row .bool r22.2.2.2.1 .own] ∧
              Br r22.2.2.2.2 (
               FL E H31 Tryz.f31 1 r lh 0 (S31_L0 (IntKind.wrap .i64 (n4 - 1)) r21.1 r21.2.1 b1_0 r22.1 r22.2.1 r22.2.2.1 r22.2.2.2.1)) (
               FL E H31 Tryz.f31 1 r lh 0 (S31_L0 (IntKind.wrap .i64 (n4 - 1)) r21.1 r21.2.1 b1_0 b2_0 h3 h4 h5)))))) ∧ (
        (
         ∃ r23 : List Int × Int × List Int, SC P 57 [.one (.ptr 0 0 0)] [.box [.ro (.int .u8) r0.1, .int .i64 r0.2.1]] [.one (.ro (.int .i64) r23.2.2)] [.box [.ro (.int .u8) r23.1, .int .i64 r23.2.1]] ∧
          ∃ r24 : List Int × Int × List Bool, SC P 59 [.one (.ptr 0 0 0)] [.box [.ro (.int .u8) r23.1, .int .i64 r23.2.1]] [.one (.ro .bool r24.2.2)] [.box [.ro (.int .u8) r24.1, .int .i64 r24.2.1]] ∧
           ∃ r25 : Int × List Int × List Int × List Bool × Bool, SC P 58 [.agg [.int .i64 b2_0, .ro (.int .i64) h3, .ro (.int .i64) h4, .ro .bool h5], .one (.ro (.int .i64) r23.2.2), .one (.ro .bool r24.2.2)] [] [.agg [.int .i64 r25.1, .sl 0 none, .sl 1 none, .sl 2 none], .one (.bool r25.2.2.2.2)] [.row (.int .i64) r25.2.1 .own, .row (.int .i64) r25.2.2.1 .own, .row .bool r25.2.2.2.1 .own] ∧
            Br r25.2.2.2.2 (
             FL E H31 Tryz.f31 1 r lh 0 (S31_L0 (IntKind.wrap .i64 (n4 - 1)) r24.1 r24.2.1 b1_0 r25.1 r25.2.1 r25.2.2.1 r25.2.2.2.1)) (
             FL E H31 Tryz.f31 1 r lh 0 (S31_L0 (IntKind.wrap .i64 (n4 - 1)) r24.1 r24.2.1 b1_0 b2_0 h3 h4 h5))) ∧ (
         ∃ r26 : List Int × Int × List Int, SC P 57 [.one (.ptr 0 0 0)] [.box [.ro (.int .u8) r0.1, .int .i64 r0.2.1]] [.one (.ro (.int .i64) r26.2.2)] [.box [.ro (.int .u8) r26.1, .int .i64 r26.2.1]] ∧
          (
           ∃ r27 : List Int × Int × List Bool, SC P 59 [.one (.ptr 0 0 0)] [.box [.ro (.int .u8) r26.1, .int .i64 r26.2.1]] [.one (.ro .bool r27.2.2)] [.box [.ro (.int .u8) r27.1, .int .i64 r27.2.1]] ∧
            ∃ r28 : Int × List Int × List Int × List Bool × Bool, SC P 58 [.agg [.int .i64 b2_0, .ro (.int .i64) h3, .ro (.int .i64) h4, .ro .bool h5], .one (.ro (.int .i64) r26.2.2), .one (.ro .bool r27.2.2)] [] [.agg [.int .i64 r28.1, .sl 0 none, .sl 1 none, .sl 2 none], .one (.bool r28.2.2.2.2)] [.row (.int .i64) r28.2.1 .own, .row (.int .i64) r28.2.2.1 .own, .row .bool r28.2.2.2.1 .own] ∧
             Br r28.2.2.2.2 (
              FL E H31 Tryz.f31 1 r lh 0 (S31_L0 (IntKind.wrap .i64 (n4 - 1)) r27.1 r27.2.1 b1_0 r28.1 r28.2.1 r28.2.2.1 r28.2.2.2.1)) (
              FL E H31 Tryz.f31 1 r lh 0 (S31_L0 (IntKind.wrap .i64 (n4 - 1)) r27.1 r27.2.1 b1_0 b2_0 h3 h4 h5))) ∧ (
           ∃ r29 : List Int × Int × List Bool, SC P 59 [.one (.ptr 0 0 0)] [.box [.ro (.int .u8) r26.1, .int .i64 r26.2.1]] [.one (.ro .bool r29.2.2)] [.box [.ro (.int .u8) r29.1, .int .i64 r29.2.1]] ∧
            ∃ r30 : Int × List Int × List Int × List Bool × Bool, SC P 58 [.agg [.int .i64 b2_0, .ro (.int .i64) h3, .ro (.int .i64) h4, .ro .bool h5], .one (.ro (.int .i64) r26.2.2), .one (.ro .bool r29.2.2)] [] [.agg [.int .i64 r30.1, .sl 0 none, .sl 1 none, .sl 2 none], .one (.bool r30.2.2.2.2)] [.row (.int .i64) r30.2.1 .own, .row (.int .i64) r30.2.2.1 .own, .row .bool r30.2.2.2.1 .own] ∧
             Br r30.2.2.2.2 (
              FL E H31 Tryz.f31 1 r lh 0 (S31_L0 (IntKind.wrap .i64 (n4 - 1)) r29.1 r29.2.1 b1_0 r30.1 r30.2.1 r30.2.2.1 r30.2.2.2.1)) (
              FL E H31 Tryz.f31 1 r lh 0 (S31_L0 (IntKind.wrap .i64 (n4 - 1)) r29.1 r29.2.1 b1_0 b2_0 h3 h4 h5))))))) (
      (
       ∃ r31 : List Int × Int × Int, SC P 56 [.one (.ptr 0 0 0), .one (.int .i64 8)] [.box [.ro (.int .u8) r0.1, .int .i64 r0.2.1]] [.one (.int .i64 r31.2.2)] [.box [.ro (.int .u8) r31.1, .int .i64 r31.2.1]] ∧
        ∃ r32 : Int × List Int × List Int × List Bool, SC P 60 [.agg [.int .i64 b2_0, .ro (.int .i64) h3, .ro (.int .i64) h4, .ro .bool h5], .one (.int .i64 r31.2.2)] [] [.agg [.int .i64 r32.1, .sl 0 none, .sl 1 none, .sl 2 none]] [.row (.int .i64) r32.2.1 .own, .row (.int .i64) r32.2.2.1 .own, .row .bool r32.2.2.2 .own] ∧
         FL E H31 Tryz.f31 1 r lh 0 (S31_L0 (IntKind.wrap .i64 (n4 - 1)) r31.1 r31.2.1 b1_0 r32.1 r32.2.1 r32.2.2.1 r32.2.2.2)) ∧ (
       ∃ r33 : List Int × Int × Int, SC P 56 [.one (.ptr 0 0 0), .one (.int .i64 8)] [.box [.ro (.int .u8) r0.1, .int .i64 r0.2.1]] [.one (.int .i64 r33.2.2)] [.box [.ro (.int .u8) r33.1, .int .i64 r33.2.1]] ∧
        ∃ r34 : Int × List Int × List Int × List Bool, SC P 60 [.agg [.int .i64 b2_0, .ro (.int .i64) h3, .ro (.int .i64) h4, .ro .bool h5], .one (.int .i64 r33.2.2)] [] [.agg [.int .i64 r34.1, .sl 0 none, .sl 1 none, .sl 2 none]] [.row (.int .i64) r34.2.1 .own, .row (.int .i64) r34.2.2.1 .own, .row .bool r34.2.2.2 .own] ∧
         FL E H31 Tryz.f31 1 r lh 0 (S31_L0 (IntKind.wrap .i64 (n4 - 1)) r33.1 r33.2.1 b1_0 r34.1 r34.2.1 r34.2.2.1 r34.2.2.2)))) (
    ∃ r35 : List Int × Int × Int, SC P 56 [.one (.ptr 0 0 0), .one (.int .i64 30)] [.box [.ro (.int .u8) b0_0, .int .i64 b0_1]] [.one (.int .i64 r35.2.2)] [.box [.ro (.int .u8) r35.1, .int .i64 r35.2.1]] ∧
     Br (decide (r35.2.2 = (0 : Int))) (
      (
       ∃ r36 : List Int × Int × Int, SC P 56 [.one (.ptr 0 0 0), .one (.int .i64 8)] [.box [.ro (.int .u8) r35.1, .int .i64 r35.2.1]] [.one (.int .i64 r36.2.2)] [.box [.ro (.int .u8) r36.1, .int .i64 r36.2.1]] ∧
        ∃ r37 : List Int × Int × Int, SC P 61 [.one (.ptr 0 0 0)] [.box [.ro (.int .u8) r36.1, .int .i64 r36.2.1]] [.one (.int .i64 r37.2.2)] [.box [.ro (.int .u8) r37.1, .int .i64 r37.2.1]] ∧
         Ck (decide ((0 : Int) ≤ r36.2.2)) (
          Ck (decide (r36.2.2 < ((h3.length : Nat) : Int))) (
           Ck (Nat.ble (r36.2.2.toNat + 1) h3.length) (
            Ret r lh [.agg [.int .i64 b2_0, .sl 1 none, .sl 2 none, .sl 3 none]] [.box [.ro (.int .u8) r37.1, .int .i64 r37.2.1], .row (.int .i64) (h3.set r36.2.2.toNat r37.2.2) .own, .row (.int .i64) h4 .own, .row .bool h5 .own])))) ∧ (
       ∃ r38 : List Int × Int × Int, SC P 56 [.one (.ptr 0 0 0), .one (.int .i64 8)] [.box [.ro (.int .u8) r35.1, .int .i64 r35.2.1]] [.one (.int .i64 r38.2.2)] [.box [.ro (.int .u8) r38.1, .int .i64 r38.2.1]] ∧
        (
         ∃ r39 : List Int × Int × Int, SC P 61 [.one (.ptr 0 0 0)] [.box [.ro (.int .u8) r38.1, .int .i64 r38.2.1]] [.one (.int .i64 r39.2.2)] [.box [.ro (.int .u8) r39.1, .int .i64 r39.2.1]] ∧
          Ck (decide ((0 : Int) ≤ r38.2.2)) (
           Ck (decide (r38.2.2 < ((h3.length : Nat) : Int))) (
            Ck (Nat.ble (r38.2.2.toNat + 1) h3.length) (
             Ret r lh [.agg [.int .i64 b2_0, .sl 1 none, .sl 2 none, .sl 3 none]] [.box [.ro (.int .u8) r39.1, .int .i64 r39.2.1], .row (.int .i64) (h3.set r38.2.2.toNat r39.2.2) .own, .row (.int .i64) h4 .own, .row .bool h5 .own])))) ∧ (
         ∃ r40 : List Int × Int × Int, SC P 61 [.one (.ptr 0 0 0)] [.box [.ro (.int .u8) r38.1, .int .i64 r38.2.1]] [.one (.int .i64 r40.2.2)] [.box [.ro (.int .u8) r40.1, .int .i64 r40.2.1]] ∧
          Ck (decide ((0 : Int) ≤ r38.2.2)) (
           Ck (decide (r38.2.2 < ((h3.length : Nat) : Int))) (
            Ck (Nat.ble (r38.2.2.toNat + 1) h3.length) (
             Ret r lh [.agg [.int .i64 b2_0, .sl 1 none, .sl 2 none, .sl 3 none]] [.box [.ro (.int .u8) r40.1, .int .i64 r40.2.1], .row (.int .i64) (h3.set r38.2.2.toNat r40.2.2) .own, .row (.int .i64) h4 .own, .row .bool h5 .own])))))) (
      Br (decide (r35.2.2 = (1 : Int))) (
       (
        ∃ r41 : List Int × Int × Int, SC P 56 [.one (.ptr 0 0 0), .one (.int .i64 8)] [.box [.ro (.int .u8) r35.1, .int .i64 r35.2.1]] [.one (.int .i64 r41.2.2)] [.box [.ro (.int .u8) r41.1, .int .i64 r41.2.1]] ∧
         ∃ r42 : List Int × Int × Int, SC P 56 [.one (.ptr 0 0 0), .one (.int .i64 5)] [.box [.ro (.int .u8) r41.1, .int .i64 r41.2.1]] [.one (.int .i64 r42.2.2)] [.box [.ro (.int .u8) r42.1, .int .i64 r42.2.1]] ∧
          Ck (decide ((0 : Int) ≤ r41.2.2)) (
           Ck (decide (r41.2.2 < ((h4.length : Nat) : Int))) (
            Ck (Nat.ble (r41.2.2.toNat + 1) h4.length) (
             Ret r lh [.agg [.int .i64 b2_0, .sl 1 none, .sl 2 none, .sl 3 none]] [.box [.ro (.int .u8) r42.1, .int .i64 r42.2.1], .row (.int .i64) h3 .own, .row (.int .i64) (h4.set r41.2.2.toNat r42.2.2) .own, .row .bool h5 .own])))) ∧ (
        ∃ r43 : List Int × Int × Int, SC P 56 [.one (.ptr 0 0 0), .one (.int .i64 8)] [.box [.ro (.int .u8) r35.1, .int .i64 r35.2.1]] [.one (.int .i64 r43.2.2)] [.box [.ro (.int .u8) r43.1, .int .i64 r43.2.1]] ∧
         (
          ∃ r44 : List Int × Int × Int, SC P 56 [.one (.ptr 0 0 0), .one (.int .i64 5)] [.box [.ro (.int .u8) r43.1, .int .i64 r43.2.1]] [.one (.int .i64 r44.2.2)] [.box [.ro (.int .u8) r44.1, .int .i64 r44.2.1]] ∧
           Ck (decide ((0 : Int) ≤ r43.2.2)) (
            Ck (decide (r43.2.2 < ((h4.length : Nat) : Int))) (
             Ck (Nat.ble (r43.2.2.toNat + 1) h4.length) (
              Ret r lh [.agg [.int .i64 b2_0, .sl 1 none, .sl 2 none, .sl 3 none]] [.box [.ro (.int .u8) r44.1, .int .i64 r44.2.1], .row (.int .i64) h3 .own, .row (.int .i64) (h4.set r43.2.2.toNat r44.2.2) .own, .row .bool h5 .own])))) ∧ (
          ∃ r45 : List Int × Int × Int, SC P 56 [.one (.ptr 0 0 0), .one (.int .i64 5)] [.box [.ro (.int .u8) r43.1, .int .i64 r43.2.1]] [.one (.int .i64 r45.2.2)] [.box [.ro (.int .u8) r45.1, .int .i64 r45.2.1]] ∧
           Ck (decide ((0 : Int) ≤ r43.2.2)) (
            Ck (decide (r43.2.2 < ((h4.length : Nat) : Int))) (
             Ck (Nat.ble (r43.2.2.toNat + 1) h4.length) (
              Ret r lh [.agg [.int .i64 b2_0, .sl 1 none, .sl 2 none, .sl 3 none]] [.box [.ro (.int .u8) r45.1, .int .i64 r45.2.1], .row (.int .i64) h3 .own, .row (.int .i64) (h4.set r43.2.2.toNat r45.2.2) .own, .row .bool h5 .own])))))) (
       Br (decide (r35.2.2 = (2 : Int))) (
        (
         ∃ r46 : List Int × Int × Int, SC P 56 [.one (.ptr 0 0 0), .one (.int .i64 8)] [.box [.ro (.int .u8) r35.1, .int .i64 r35.2.1]] [.one (.int .i64 r46.2.2)] [.box [.ro (.int .u8) r46.1, .int .i64 r46.2.1]] ∧
          Ck (decide ((0 : Int) ≤ r46.2.2)) (
           Ck (decide (r46.2.2 < ((h5.length : Nat) : Int))) (
            Ck (Nat.ble (r46.2.2.toNat + 1) h5.length) (
             Ret r lh [.agg [.int .i64 b2_0, .sl 1 none, .sl 2 none, .sl 3 none]] [.box [.ro (.int .u8) r46.1, .int .i64 r46.2.1], .row (.int .i64) h3 .own, .row (.int .i64) h4 .own, .row .bool (h5.set r46.2.2.toNat false) .own])))) ∧ (
         ∃ r47 : List Int × Int × Int, SC P 56 [.one (.ptr 0 0 0), .one (.int .i64 8)] [.box [.ro (.int .u8) r35.1, .int .i64 r35.2.1]] [.one (.int .i64 r47.2.2)] [.box [.ro (.int .u8) r47.1, .int .i64 r47.2.1]] ∧
          Ck (decide ((0 : Int) ≤ r47.2.2)) (
           Ck (decide (r47.2.2 < ((h5.length : Nat) : Int))) (
            Ck (Nat.ble (r47.2.2.toNat + 1) h5.length) (
             Ret r lh [.agg [.int .i64 b2_0, .sl 1 none, .sl 2 none, .sl 3 none]] [.box [.ro (.int .u8) r47.1, .int .i64 r47.2.1], .row (.int .i64) h3 .own, .row (.int .i64) h4 .own, .row .bool (h5.set r47.2.2.toNat false) .own]))))) (
        Br (decide (r35.2.2 = (3 : Int))) (
         ∃ r48 : List Int × Int × Int, SC P 62 [.one (.ptr 0 0 0)] [.box [.ro (.int .u8) r35.1, .int .i64 r35.2.1]] [.one (.int .i64 r48.2.2)] [.box [.ro (.int .u8) r48.1, .int .i64 r48.2.1]] ∧
          Ret r lh [.agg [.int .i64 r48.2.2, .sl 1 none, .sl 2 none, .sl 3 none]] [.box [.ro (.int .u8) r48.1, .int .i64 r48.2.1], .row (.int .i64) h3 .own, .row (.int .i64) h4 .own, .row .bool h5 .own]) (
         Br (decide (r35.2.2 = (4 : Int))) (
          ∃ r49 : Bool, SC P 17 [.agg [.int .i64 b2_0, .ro (.int .i64) h3, .ro (.int .i64) h4, .ro .bool h5]] [] [.one (.bool r49)] [] ∧
           Br r49 (
            FL E H31 Tryz.f31 1 r lh 1 (S31_L1 0 r35.1 r35.2.1 b1_0 b2_0 h3 h4 h5)) (
            Ret r lh [.agg [.int .i64 b2_0, .sl 1 none, .sl 2 none, .sl 3 none]] [.box [.ro (.int .u8) r35.1, .int .i64 r35.2.1], .row (.int .i64) h3 .own, .row (.int .i64) h4 .own, .row .bool h5 .own])) (
          Ret r lh [.agg [.int .i64 b2_0, .sl 1 none, .sl 2 none, .sl 3 none]] [.box [.ro (.int .u8) r35.1, .int .i64 r35.2.1], .row (.int .i64) h3 .own, .row (.int .i64) h4 .own, .row .bool h5 .own]))))))) := by kernel_rfl
theorem eq31_L1 (i7 : Int) (b0_0 : List Int) (b0_1 : Int) (b1_0 : Int) (b2_0 : Int) (h3 : List Int) (h4 : List Int) (h5 : List Bool) (r : List W) (lh : Heap) : FL1 E H31 Tryz.f31 1 r lh 1 (S31_L1 i7 b0_0 b0_1 b1_0 b2_0 h3 h4 h5) =
  (
   Br (decide (i7 < ((h4.length : Nat) : Int))) (
    Ck (decide ((0 : Int) ≤ i7)) (
     Ck (decide (i7 < ((h5.length : Nat) : Int))) (
      Ck (Nat.ble (i7.toNat + 1) h5.length) (
       Br (h5.getD i7.toNat false) (
        Ck (decide ((0 : Int) ≤ i7)) (
         Ck (decide (i7 < ((h4.length : Nat) : Int))) (
          Ck (Nat.ble (i7.toNat + 1) h4.length) (
           ∃ r0 : Int, SC P 44 [.agg [.int .i64 b2_0, .ro (.int .i64) h3, .ro (.int .i64) h4, .ro .bool h5]] [] [.one (.int .i64 r0)] [] ∧
            Ck (decide ((0 : Int) ≤ i7)) (
             Ck (decide (i7 < ((h4.length : Nat) : Int))) (
              Ck (Nat.ble (i7.toNat + 1) h4.length) (
               FL E H31 Tryz.f31 1 r lh 1 (S31_L1 (IntKind.wrap .i64 (i7 + 1)) b0_0 b0_1 b1_0 b2_0 h3 (h4.set i7.toNat (IntKind.wrap .i64 ((IntKind.wrap .i64 ((h4.getD i7.toNat 0) + 99)) - r0))) h5)))))))) (
        FL E H31 Tryz.f31 1 r lh 1 (S31_L1 (IntKind.wrap .i64 (i7 + 1)) b0_0 b0_1 b1_0 b2_0 h3 h4 h5)))))) (
    Ret r lh [.agg [.int .i64 b2_0, .sl 1 none, .sl 2 none, .sl 3 none]] [.box [.ro (.int .u8) b0_0, .int .i64 b0_1], .row (.int .i64) h3 .own, .row (.int .i64) h4 .own, .row .bool h5 .own])) := by kernel_rfl
theorem l31_1 (b : List Int) (p z : Int) : ∀ (n i : Nat) (s : StrT), i + n = 8 → Len8 s → ∃ (q : StrT) (p' : Int), Len8 q ∧ FL E H31 Tryz.f31 1 [.agg [.int .i64 q.1, .sl 1 none, .sl 2 none, .sl 3 none]] [.box [.ro (.int .u8) b, .int .i64 p'], .row (.int .i64) q.2.1 .own, .row (.int .i64) q.2.2.1 .own, .row .bool q.2.2.2 .own] 1 (S31_L1 (i : Int) b p z s.1 s.2.1 s.2.2.1 s.2.2.2)
  | 0, i, s, h, hs => by
    refine ⟨s, p, hs, FL_of1 ?_⟩
    obtain ⟨h1, h2, h3⟩ := hs
    rw [eq31_L1]
    exact Br_f (by omega) ⟨rfl, rfl⟩
  | n + 1, i, s, h, hs => by
    have hs' := hs
    obtain ⟨h1, h2, h3⟩ := hs'
    cases e : s.2.2.2.getD i false with
    | true =>
      obtain ⟨q, p', hq, hF⟩ := l31_1 b p z n (i + 1) (s.1, s.2.1, s.2.2.1.set i (IntKind.wrap .i64 (IntKind.wrap .i64 (s.2.2.1.getD i 0 + 99) - topF s.2.2.1)), s.2.2.2) (by omega) ⟨h1, by rw [List.length_set]; exact h2, h3⟩
      refine ⟨q, p', hq, FL_of1 ?_⟩
      rw [eq31_L1, wS (i := i) (by omega)]
      simp only [Int.toNat_natCast]
      refine Br_t (by omega) (Ck_d (by omega) (Ck_d (by omega) (Ck_le (by omega) ?_)))
      rw [e]
      exact BrT (Ck_d (by omega) (Ck_d (by omega) (Ck_le (by omega) ⟨_, c44 s (by omega), Ck_d (by omega) (Ck_d (by omega) (Ck_le (by omega) hF))⟩)))
    | false =>
      obtain ⟨q, p', hq, hF⟩ := l31_1 b p z n (i + 1) s (by omega) hs
      refine ⟨q, p', hq, FL_of1 ?_⟩
      rw [eq31_L1, wS (i := i) (by omega)]
      simp only [Int.toNat_natCast]
      refine Br_t (by omega) (Ck_d (by omega) (Ck_d (by omega) (Ck_le (by omega) ?_)))
      rw [e]
      exact BrF hF
theorem l31 (b : List Int) (hb : RdB b) (z : Int) : ∀ (n : Nat) (p : Int) (s : StrT), 0 ≤ p → p + 10 * n ≤ 1000 → Len8 s → ∃ (q : StrT) (p' : Int), Len8 q ∧ FL E H31 Tryz.f31 1 [.agg [.int .i64 q.1, .sl 1 none, .sl 2 none, .sl 3 none]] [.box [.ro (.int .u8) b, .int .i64 p'], .row (.int .i64) q.2.1 .own, .row (.int .i64) q.2.2.1 .own, .row .bool q.2.2.2 .own] 0 (S31_L0 (n : Int) b p z s.1 s.2.1 s.2.2.1 s.2.2.2)
  | 0, p, s, h0, h1, hs => by
    have hs' := hs
    obtain ⟨l1, l2, l3⟩ := hs'
    obtain ⟨v, a, b', sv⟩ := c56 b p 30 hb (by omega) (by omega) (by omega)
    by_cases e0 : v = 0
    · obtain ⟨v1, a1, b1, s1⟩ := c56 b (p + 1) 8 hb (by omega) (by omega) (by omega)
      obtain ⟨v2, p2, q0, q1, s2⟩ := c61 b (p + 1 + 1) hb (by omega) (by omega)
      refine ⟨(s.1, s.2.1.set v1.toNat v2, s.2.2.1, s.2.2.2), p2, ⟨by rw [List.length_set]; exact l1, l2, l3⟩, FL_of1 ?_⟩
      rw [eq31_L0]
      refine Br_f (by omega) ⟨(b, p + 1, v), sv, Br_t e0 ?_⟩
      repeat' first
        | exact ⟨rfl, rfl⟩
        | refine ⟨(b, p + 1 + 1, v1), s1, ?_⟩
        | refine ⟨(b, p2, v2), s2, ?_⟩
        | refine Ck_d (by dsimp only; omega) ?_
        | refine Ck_le (by dsimp only; omega) ?_
        | refine And.intro ?_ ?_
    by_cases e1 : v = 1
    · obtain ⟨v1, a1, b1, s1⟩ := c56 b (p + 1) 8 hb (by omega) (by omega) (by omega)
      obtain ⟨v2, a2, b2, s2⟩ := c56 b (p + 1 + 1) 5 hb (by omega) (by omega) (by omega)
      refine ⟨(s.1, s.2.1, s.2.2.1.set v1.toNat v2, s.2.2.2), p + 1 + 1 + 1, ⟨l1, by rw [List.length_set]; exact l2, l3⟩, FL_of1 ?_⟩
      rw [eq31_L0]
      refine Br_f (by omega) ⟨(b, p + 1, v), sv, Br_f e0 (Br_t e1 ?_)⟩
      repeat' first
        | exact ⟨rfl, rfl⟩
        | refine ⟨(b, p + 1 + 1, v1), s1, ?_⟩
        | refine ⟨(b, p + 1 + 1 + 1, v2), s2, ?_⟩
        | refine Ck_d (by dsimp only; omega) ?_
        | refine Ck_le (by dsimp only; omega) ?_
        | refine And.intro ?_ ?_
    by_cases e2 : v = 2
    · obtain ⟨v1, a1, b1, s1⟩ := c56 b (p + 1) 8 hb (by omega) (by omega) (by omega)
      refine ⟨(s.1, s.2.1, s.2.2.1, s.2.2.2.set v1.toNat false), p + 1 + 1, ⟨l1, l2, by rw [List.length_set]; exact l3⟩, FL_of1 ?_⟩
      rw [eq31_L0]
      refine Br_f (by omega) ⟨(b, p + 1, v), sv, Br_f e0 (Br_f e1 (Br_t e2 ?_))⟩
      repeat' first
        | exact ⟨rfl, rfl⟩
        | refine ⟨(b, p + 1 + 1, v1), s1, ?_⟩
        | refine Ck_d (by dsimp only; omega) ?_
        | refine Ck_le (by dsimp only; omega) ?_
        | refine And.intro ?_ ?_
    by_cases e3 : v = 3
    · obtain ⟨k, p2, q0, q1, s1⟩ := c62 b (p + 1) hb (by omega) (by omega)
      refine ⟨(k, s.2.1, s.2.2.1, s.2.2.2), p2, ⟨l1, l2, l3⟩, FL_of1 ?_⟩
      rw [eq31_L0]
      exact Br_f (by omega) ⟨(b, p + 1, v), sv, Br_f e0 (Br_f e1 (Br_f e2 (Br_t e3 ⟨(b, p2, k), s1, rfl, rfl⟩)))⟩
    by_cases e4 : v = 4
    · have s1 := c17 s (by omega)
      cases e : stripeOkF s with
      | false =>
        rw [e] at s1
        refine ⟨s, p + 1, hs, FL_of1 ?_⟩
        rw [eq31_L0]
        exact Br_f (by omega) ⟨(b, p + 1, v), sv, Br_f e0 (Br_f e1 (Br_f e2 (Br_f e3 (Br_t e4 ⟨false, s1, BrF ⟨rfl, rfl⟩⟩))))⟩
      | true =>
        rw [e] at s1
        obtain ⟨q, p', hq, hF⟩ := l31_1 b (p + 1) z 8 0 s rfl hs
        refine ⟨q, p', hq, FL_of1 ?_⟩
        rw [eq31_L0]
        exact Br_f (by omega) ⟨(b, p + 1, v), sv, Br_f e0 (Br_f e1 (Br_f e2 (Br_f e3 (Br_t e4 ⟨true, s1, BrT hF⟩))))⟩
    · refine ⟨s, p + 1, hs, FL_of1 ?_⟩
      rw [eq31_L0]
      exact Br_f (by omega) ⟨(b, p + 1, v), sv, Br_f e0 (Br_f e1 (Br_f e2 (Br_f e3 (Br_f e4 ⟨rfl, rfl⟩))))⟩
  | n + 1, p, s, h0, h1, hs => by
    have hw : IntKind.wrap .i64 (((n + 1 : Nat) : Int) - 1) = (n : Int) := wP (i := n) (by omega)
    obtain ⟨v, a, b', sv⟩ := c56 b p 3 hb (by omega) (by omega) (by omega)
    by_cases e0 : v = 0
    · obtain ⟨d, hd, s1⟩ := c57 b (p + 1) hb (by omega) (by omega)
      obtain ⟨t, p2, ht, q0, q1, s2⟩ := c59 b (p + 1 + 1 + 1 + 1 + 1) hb (by omega) (by omega)
      obtain ⟨o, ok, ho, s3⟩ := c58 s hs d hd t ht
      cases ok with
      | true =>
        obtain ⟨q, p', hq, hF⟩ := l31 b hb z n p2 o (by omega) (by omega) (ho rfl)
        refine ⟨q, p', hq, FL_of1 ?_⟩
        rw [eq31_L0, hw]
        refine Br_t (by omega) ⟨(b, p + 1, v), sv, Br_t e0 ?_⟩
        repeat' first
          | exact hF
          | refine ⟨(b, p + 1 + 1 + 1 + 1 + 1, d.l), s1, ?_⟩
          | refine ⟨(b, p2, t), s2, ?_⟩
          | refine ⟨(o.1, o.2.1, o.2.2.1, o.2.2.2, true), s3, BrT ?_⟩
          | refine And.intro ?_ ?_
      | false =>
        obtain ⟨q, p', hq, hF⟩ := l31 b hb z n p2 s (by omega) (by omega) hs
        refine ⟨q, p', hq, FL_of1 ?_⟩
        rw [eq31_L0, hw]
        refine Br_t (by omega) ⟨(b, p + 1, v), sv, Br_t e0 ?_⟩
        repeat' first
          | exact hF
          | refine ⟨(b, p + 1 + 1 + 1 + 1 + 1, d.l), s1, ?_⟩
          | refine ⟨(b, p2, t), s2, ?_⟩
          | refine ⟨(o.1, o.2.1, o.2.2.1, o.2.2.2, false), s3, BrF ?_⟩
          | refine And.intro ?_ ?_
    · obtain ⟨v1, a1, b1, s1⟩ := c56 b (p + 1) 8 hb (by omega) (by omega) (by omega)
      obtain ⟨o, ho, s2⟩ := c60 s hs v1 (by omega) (by omega)
      obtain ⟨q, p', hq, hF⟩ := l31 b hb z n (p + 1 + 1) o (by omega) (by omega) ho
      refine ⟨q, p', hq, FL_of1 ?_⟩
      rw [eq31_L0, hw]
      refine Br_t (by omega) ⟨(b, p + 1, v), sv, Br_f e0 ?_⟩
      repeat' first
        | exact hF
        | refine ⟨(b, p + 1 + 1, v1), s1, ?_⟩
        | refine ⟨o, s2, ?_⟩
        | refine And.intro ?_ ?_
theorem c31 (b : List Int) (hb : RdB b) : ∃ (q : StrT) (p' : Int), Len8 q ∧ SC P 31 [.one (.ptr 0 0 0)] [.box [.ro (.int .u8) b, .int .i64 0]] [.agg [.int .i64 q.1, .sl 1 none, .sl 2 none, .sl 3 none]] [.box [.ro (.int .u8) b, .int .i64 p'], .row (.int .i64) q.2.1 .own, .row (.int .i64) q.2.2.1 .own, .row .bool q.2.2.2 .own] := by
  obtain ⟨v0, a0, b0, s0⟩ := c56 b 0 2 hb (by omega) (by omega) (by omega)
  obtain ⟨d, hd, s1⟩ := c57 b (0 + 1) hb (by omega) (by omega)
  obtain ⟨v2, a2, b2, s2⟩ := c56 b (0 + 1 + 1 + 1 + 1 + 1) 3 hb (by omega) (by omega) (by omega)
  obtain ⟨v3, a3, b3, s3⟩ := c56 b (0 + 1 + 1 + 1 + 1 + 1 + 1) 4 hb (by omega) (by omega) (by omega)
  have hw := wrap64 (n := 1 + v0) (by omega) (by omega)
  have hk : inB (IntKind.wrap .i64 (1 + v0)) 1 2 = true := by rw [hw]; exact inB_iff.2 ⟨by omega, by omega⟩
  have sN := c55 (IntKind.wrap .i64 (1 + v0)) hk d hd (IntKind.wrap .i64 (1 + v2))
  have h8 := all_new (IntKind.wrap .i64 (1 + v0)) d (IntKind.wrap .i64 (1 + v2))
  obtain ⟨q, p', hq, hF⟩ := l31 b hb 0 v3.toNat (0 + 1 + 1 + 1 + 1 + 1 + 1 + 1) _ (by omega) (by omega) h8
  rw [show ((v3.toNat : Nat) : Int) = v3 by omega] at hF
  refine ⟨q, p', hq, ?_⟩
  refine SC_of_FB (H := H31) E_ok Tryz.func31 (by kernel_rfl) ?_
  rw [eq31]
  exact ⟨(b, 0 + 1, v0), s0, (b, 0 + 1 + 1 + 1 + 1 + 1, d.l), s1, (b, 0 + 1 + 1 + 1 + 1 + 1 + 1, v2), s2, (_, _, _, _), sN, (b, 0 + 1 + 1 + 1 + 1 + 1 + 1 + 1, v3), s3, hF⟩
/-! loop.example/keelson/spec.DrawStripeRead -/
def H15 : Hint := ⟨[], [], [], [], [], [], []⟩
theorem eq15 (code : List Int) (r : List W) (lh : Heap) : FB E H15 Tryz.f15 [.one (.ro (.int .u8) code)] [] r lh =
  (
   ∃ r0 : (List Int × Int), SC P 32 [.one (.ro (.int .u8) code)] [] [.one (.ptr 0 0 0)] [.box [.ro (.int .u8) r0.1, .int .i64 r0.2]] ∧
    ∃ r1 : List Int × Int × Int × List Int × List Int × List Bool, SC P 31 [.one (.ptr 0 0 0)] [.box [.ro (.int .u8) r0.1, .int .i64 r0.2]] [.agg [.int .i64 r1.2.2.1, .sl 1 none, .sl 2 none, .sl 3 none]] [.box [.ro (.int .u8) r1.1, .int .i64 r1.2.1], .row (.int .i64) r1.2.2.2.1 .own, .row (.int .i64) r1.2.2.2.2.1 .own, .row .bool r1.2.2.2.2.2 .own] ∧
     Ret r lh [.agg [.int .i64 r1.2.2.1, .sl 0 none, .sl 1 none, .sl 2 none]] [.row (.int .i64) r1.2.2.2.1 .own, .row (.int .i64) r1.2.2.2.2.1 .own, .row .bool r1.2.2.2.2.2 .own]) := by kernel_rfl
theorem c15 (code : List Int) (hc : Bytes code) : ∃ q : StrT, Len8 q ∧ SC P 15 [.one (.ro (.int .u8) code)] [] [.agg [.int .i64 q.1, .sl 0 none, .sl 1 none, .sl 2 none]] [.row (.int .i64) q.2.1 .own, .row (.int .i64) q.2.2.1 .own, .row .bool q.2.2.2 .own] := by
  obtain ⟨b, hb, s0⟩ := c32 code hc
  obtain ⟨q, p', hq, s1⟩ := c31 b hb
  refine ⟨q, hq, ?_⟩
  refine SC_of_FB (H := H15) E_ok Tryz.func15 (by kernel_rfl) ?_
  rw [eq15]
  exact ⟨(b, 0), s0, (b, p', q.1, q.2.1, q.2.2.1, q.2.2.2), s1, rfl, rfl⟩
/-! loop.example/keelson/laws.lkOf -/
def H18 : Hint := ⟨[[(1, 0, .bool), (2, 0, .bool), (5, 0, .bool), (6, 0, .bool)]], [], [], [], [], [], []⟩
def S18_L0 (vers1 : Int) (i6 : Int) (b0_0 : Int) (b0_1 : List Int) (b0_2 : List Int) (b0_3 : List Bool) (h1 : List Bool) : St := ⟨[(1, .w (.one (.int .i64 vers1))), (2, .w (.one (.ptr 0 0 0))), (5, .w (.one (.sl 1 none))), (6, .w (.one (.int .i64 i6)))], [.box [.int .i64 b0_0, .ro (.int .i64) b0_1, .ro (.int .i64) b0_2, .ro .bool b0_3], .row .bool h1 .own]⟩
theorem eq18 (s : (Int × (List Int × (List Int × List Bool)))) (vers : Int) (r : List W) (lh : Heap) : FB E H18 Tryz.f18 [.agg [.int .i64 s.1, .ro (.int .i64) s.2.1, .ro (.int .i64) s.2.2.1, .ro .bool s.2.2.2], .one (.int .i64 vers)] [] r lh =
  (
   FL E H18 Tryz.f18 0 r lh 0 (S18_L0 vers 0 s.1 s.2.1 s.2.2.1 s.2.2.2 [])) := by kernel_rfl
theorem eq18_L0 (vers1 : Int) (i6 : Int) (b0_0 : Int) (b0_1 : List Int) (b0_2 : List Int) (b0_3 : List Bool) (h1 : List Bool) (r : List W) (lh : Heap) : FL1 E H18 Tryz.f18 0 r lh 0 (S18_L0 vers1 i6 b0_0 b0_1 b0_2 b0_3 h1) =
  (
   Br (decide (i6 < ((b0_3.length : Nat) : Int))) (
    Ck (decide ((0 : Int) ≤ i6)) (
     Ck (decide (i6 < ((b0_3.length : Nat) : Int))) (
      Br (b0_3.getD i6.toNat false) (
       Ck (decide ((0 : Int) ≤ i6)) (
        Ck (decide (i6 < ((b0_2.length : Nat) : Int))) (
         Ck (Nat.ble ((h1.length + 1) * 1) roomy) (
          FL E H18 Tryz.f18 0 r lh 0 (S18_L0 vers1 (IntKind.wrap .i64 (i6 + 1)) b0_0 b0_1 b0_2 b0_3 (h1 ++ [(decide ((b0_2.getD i6.toNat 0) = vers1))])))))) (
       Ck (Nat.ble ((h1.length + 1) * 1) roomy) (
        FL E H18 Tryz.f18 0 r lh 0 (S18_L0 vers1 (IntKind.wrap .i64 (i6 + 1)) b0_0 b0_1 b0_2 b0_3 (h1 ++ [false]))))))) (
    Ret r lh [.one (.sl 0 none)] [.row .bool h1 .own])) := by kernel_rfl
theorem l18 (s : StrT) (v : Int) (h2 : s.2.2.1.length = 8) (h3 : s.2.2.2.length = 8) : ∀ (n i : Nat) (out : List Bool), i + n = 8 → out.length = i → out ++ mapR (fun i => s.2.2.2.getD i false && decide (s.2.2.1.getD i 0 = v)) i n = ofF s.2.2.1 s.2.2.2 v →
    FL E H18 Tryz.f18 0 [.one (.sl 0 none)] [.row .bool (ofF s.2.2.1 s.2.2.2 v) .own] 0 (S18_L0 v (i : Int) s.1 s.2.1 s.2.2.1 s.2.2.2 out)
  | 0, i, out, h, ho, e => by
    rw [mapR, List.append_nil] at e
    subst e
    refine FL_of1 ?_
    rw [eq18_L0]
    exact Br_f (by omega) ⟨rfl, rfl⟩
  | n + 1, i, out, h, ho, e => by
    rw [mapR] at e
    refine FL_of1 ?_
    rw [eq18_L0, wS (i := i) (by omega)]
    simp only [Int.toNat_natCast]
    refine Br_t (by omega) (Ck_d (by omega) (Ck_d (by omega) (Br_b (fun e2 => ?_) (fun e2 => ?_))))
    · refine Ck_d (by omega) (Ck_d (by omega) (Ck_room (by omega) (l18 s v h2 h3 n (i + 1) _ (by omega) (by simp; omega) ?_)))
      rw [e2, Bool.true_and] at e
      rw [List.append_assoc]; exact e
    · refine Ck_room (by omega) (l18 s v h2 h3 n (i + 1) _ (by omega) (by simp; omega) ?_)
      rw [e2, Bool.false_and] at e
      rw [List.append_assoc]; exact e
theorem c18 (s : StrT) (v : Int) (h2 : s.2.2.1.length = 8) (h3 : s.2.2.2.length = 8) : SC P 18 [.agg [.int .i64 s.1, .ro (.int .i64) s.2.1, .ro (.int .i64) s.2.2.1, .ro .bool s.2.2.2], .one (.int .i64 v)] [] [.one (.sl 0 none)] [.row .bool (ofF s.2.2.1 s.2.2.2 v) .own] := by
  refine SC_of_FB (H := H18) E_ok Tryz.func18 (by kernel_rfl) ?_
  rw [eq18]
  exact l18 s v h2 h3 8 0 [] rfl rfl rfl
theorem readV_le {s : StrT} : 0 ≤ readV s ∧ readV s ≤ topF s.2.2.1 := by
  have h0 := topF_nonneg s.2.2.1
  have h := downF_le (f := bearV s) (n := (topF s.2.2.1).toNat)
  rw [← readV] at h
  omega
theorem StrOk.top_le {s : StrT} (h : StrOk s) : topF s.2.2.1 ≤ 99 := by
  rcases topF_at s.2.2.1 with e | ⟨i, hi, e⟩
  · omega
  · rw [← e]
    have := h.l2
    cases ht : s.2.2.2.getD i false
    · have := (h.no i (by omega) ht).2; omega
    · exact (h.yes i (by omega) ht).2
theorem code_bear {s : StrT} (h : StrOk s) (v : Int) : codeBears s.1 (ofF s.2.2.1 s.2.2.2 v) = bearV s v := by rw [codeBears, h.kind, ofF_len]; rfl
theorem data_read {s : StrT} (h : StrOk s) (hv : readV s ≠ 0) : bearV s (readV s) = true ∧ readDataOk s.1 s.2.1 (ofF s.2.2.1 s.2.2.2 (readV s)) = true ∧ readDataL s.1 s.2.1 (ofF s.2.2.1 s.2.2.2 (readV s)) = readU s (readV s) := by
  have hb : bearV s (readV s) = true := downF_t hv
  have hf := h.fits _ (of_bears h.l3 hb)
  rw [fitV] at hf
  have hb' : bearsI s.1 (flagF (ofF s.2.2.1 s.2.2.2 (readV s))) = true := hb
  have ho : readDataOk s.1 s.2.1 (ofF s.2.2.1 s.2.2.2 (readV s)) = true := by
    rw [readDataOk, h.kind, p_vals h.vals, ofF_len, readOk, hb', hf]; rfl
  refine ⟨hb, ho, ?_⟩
  rw [readDataL, ho, readU, decide_eq_false hv]; rfl
theorem Br_eqU {b : Bool} {A B : Prop} (h : A) : Br (b == b) A B := by cases b <;> exact h
/-! loop.example/keelson/laws.FnReadOne -/
def H4 : Hint := ⟨[], [], [], [], [], [], []⟩
theorem eq4 (code : List Int) (r : List W) (lh : Heap) : FB E H4 Tryz.f4 [.one (.ro (.int .u8) code)] [] r lh =
  (
   Br (decide ((1048576 : Int) < ((code.length : Nat) : Int))) (
    Ret r lh [.one (.bool true)] []) (
    ∃ r0 : Int × List Int × List Int × List Bool, SC P 15 [.one (.ro (.int .u8) code)] [] [.agg [.int .i64 r0.1, .sl 0 none, .sl 1 none, .sl 2 none]] [.row (.int .i64) r0.2.1 .own, .row (.int .i64) r0.2.2.1 .own, .row .bool r0.2.2.2 .own] ∧
     ∃ r1 : List Int × Int × Bool, SC P 7 [.agg [.int .i64 r0.1, .ro (.int .i64) r0.2.1, .ro (.int .i64) r0.2.2.1, .ro .bool r0.2.2.2]] [] [.one (.sl 0 none), .one (.int .i64 r1.2.1), .one (.bool r1.2.2)] [.row (.int .i64) r1.1 .own] ∧
      ∃ r2 : List Int × Int × Bool, SC P 9 [.agg [.int .i64 r0.1, .ro (.int .i64) r0.2.1, .ro (.int .i64) r0.2.2.1, .ro .bool r0.2.2.2]] [] [.one (.sl 0 none), .one (.int .i64 r2.2.1), .one (.bool r2.2.2)] [.row (.int .i64) r2.1 .own] ∧
       Br (r2.2.2 != r1.2.2) (
        Br (r2.2.2 == r1.2.2) (
         Br (decide (r2.2.1 = r1.2.1)) (
          ∃ r3 : Bool, SC P 16 [.one (.ro (.int .i64) r2.1), .one (.ro (.int .i64) r1.1)] [] [.one (.bool r3)] [] ∧
           Ret r lh [.one (.bool r3)] []) (
          Ret r lh [.one (.bool false)] [])) (
         Ret r lh [.one (.bool false)] [])) (
        Br (!(decide (r2.2.1 = r1.2.1))) (
         Br (r2.2.2 == r1.2.2) (
          Br (decide (r2.2.1 = r1.2.1)) (
           ∃ r4 : Bool, SC P 16 [.one (.ro (.int .i64) r2.1), .one (.ro (.int .i64) r1.1)] [] [.one (.bool r4)] [] ∧
            Ret r lh [.one (.bool r4)] []) (
           Ret r lh [.one (.bool false)] [])) (
          Ret r lh [.one (.bool false)] [])) (
         ∃ r5 : Bool, SC P 16 [.one (.ro (.int .i64) r2.1), .one (.ro (.int .i64) r1.1)] [] [.one (.bool r5)] [] ∧
          Br (!r5) (
           Br (r2.2.2 == r1.2.2) (
            Br (decide (r2.2.1 = r1.2.1)) (
             ∃ r6 : Bool, SC P 16 [.one (.ro (.int .i64) r2.1), .one (.ro (.int .i64) r1.1)] [] [.one (.bool r6)] [] ∧
              Ret r lh [.one (.bool r6)] []) (
             Ret r lh [.one (.bool false)] [])) (
            Ret r lh [.one (.bool false)] [])) (
           ∃ r7 : Bool, SC P 17 [.agg [.int .i64 r0.1, .ro (.int .i64) r0.2.1, .ro (.int .i64) r0.2.2.1, .ro .bool r0.2.2.2]] [] [.one (.bool r7)] [] ∧
            Br (!r7) (
             Br (r2.2.2 == r1.2.2) (
              Br (decide (r2.2.1 = r1.2.1)) (
               ∃ r8 : Bool, SC P 16 [.one (.ro (.int .i64) r2.1), .one (.ro (.int .i64) r1.1)] [] [.one (.bool r8)] [] ∧
                Ret r lh [.one (.bool r8)] []) (
               Ret r lh [.one (.bool false)] [])) (
              Ret r lh [.one (.bool false)] [])) (
             Br (!r2.2.2) (
              Ret r lh [.one (.bool (decide (r2.2.1 = (0 : Int))))] []) (
              ∃ r9 : List Bool, SC P 18 [.agg [.int .i64 r0.1, .ro (.int .i64) r0.2.1, .ro (.int .i64) r0.2.2.1, .ro .bool r0.2.2.2], .one (.int .i64 r2.2.1)] [] [.one (.sl 0 none)] [.row .bool r9 .own] ∧
               ∃ r10 : List Int × Bool, SC P 19 [.one (.int .i64 r0.1), .one (.ro (.int .i64) r0.2.1), .one (.ro .bool r9)] [] [.one (.sl 0 none), .one (.bool r10.2)] [.row (.int .i64) r10.1 .own] ∧
                Br r10.2 (
                 ∃ r11 : Bool, SC P 16 [.one (.ro (.int .i64) r10.1), .one (.ro (.int .i64) r2.1)] [] [.one (.bool r11)] [] ∧
                  Br r11 (
                   ∃ r12 : Bool, SC P 20 [.one (.int .i64 r0.1), .one (.ro .bool r9)] [] [.one (.bool r12)] [] ∧
                    Ret r lh [.one (.bool r12)] []) (
                   Ret r lh [.one (.bool false)] [])) (
                 Ret r lh [.one (.bool false)] [])))))))) := by kernel_rfl
theorem c4 (code : List Int) (hc : Bytes code) : SC P 4 [.one (.ro (.int .u8) code)] [] [.one (.bool true)] [] := by
  refine SC_of_FB (H := H4) E_ok Tryz.func4 (by kernel_rfl) ?_
  rw [eq4]
  refine Br_d (fun _ => ⟨rfl, rfl⟩) (fun hcl => ?_)
  obtain ⟨s, hs, s0⟩ := c15 code hc
  have s1 := c7 s (by rw [hs.1]; omega)
  have s2 := c9 s
  have s4 := c17 s (by rw [hs.1]; omega)
  have hl := readR_len (s := s)
  have si := c16 (readR s).1 (readR s).1 (by omega)
  rw [decide_eq_true rfl] at si
  cases ho : stripeOkF s with
  | false =>
    rw [ho] at s4
    generalize readR s = R at s1 s2 si
    exact ⟨s, s0, R, s1, R, s2, Br_neT (Br_nd (fun e => absurd rfl e) (fun _ => ⟨true, si, Br_nb (fun e => by cases e) (fun _ => ⟨false, s4, Br_nb (fun _ => Br_eqU (Br_t rfl ⟨true, si, rfl, rfl⟩)) (fun e => by cases e)⟩)⟩))⟩
  | true =>
    rw [ho] at s4
    have so := str_ok ho
    have eR : readR s = (readU s (readV s), readV s, !decide (readV s = 0)) := by rw [readR, ho]; rfl
    rw [eR] at s1 s2 si
    by_cases hv : readV s = 0
    · rw [decide_eq_true hv] at s1 s2
      exact ⟨s, s0, (readU s (readV s), readV s, false), s1, (readU s (readV s), readV s, false), s2, Br_neT (Br_nd (fun e => absurd rfl e) (fun _ => ⟨true, si, Br_nb (fun e => by cases e) (fun _ => ⟨true, s4, Br_nb (fun e => by cases e) (fun _ => Br_nb (fun _ => ⟨by rw [decide_eq_true hv], rfl⟩) (fun e => by cases e))⟩)⟩))⟩
    · rw [decide_eq_false hv] at s1 s2
      obtain ⟨d1, d2, d3⟩ := data_read so hv
      have s5 := c18 s (readV s) so.l2 so.l3
      have s6 := c19 s.1 s.2.1 (ofF s.2.2.1 s.2.2.2 (readV s)) (by rw [so.l1]; omega) (by rw [ofF_len]; omega)
      rw [d2, d3] at s6
      have s7 := c20 s.1 (ofF s.2.2.1 s.2.2.2 (readV s)) (by rw [ofF_len]; omega)
      rw [code_bear so, d1] at s7
      exact ⟨s, s0, (readU s (readV s), readV s, true), s1, (readU s (readV s), readV s, true), s2, Br_neT (Br_nd (fun e => absurd rfl e) (fun _ => ⟨true, si, Br_nb (fun e => by cases e) (fun _ => ⟨true, s4, Br_nb (fun e => by cases e) (fun _ => Br_nb (fun e => by cases e) (fun _ => ⟨_, s5, (_, _), s6, BrT ⟨true, si, BrT ⟨true, s7, rfl, rfl⟩⟩⟩))⟩)⟩))⟩
/-! loop.example/keelson/laws.FnReadNewest -/
def H5 : Hint := ⟨[[(3, 0, .bool), (8, 0, .bool), (9, 0, .bool), (10, 0, .bool)]], [], [(11, [0, 1, 2, 3, 4, 5])], [], [], [], []⟩
def S5_L0 (vers8 : Int) (ok9 : Bool) (v10 : Int) (b0_0 : Int) (h1 : List Int) (h2 : List Int) (h3 : List Bool) : St := ⟨[(3, .w (.one (.ptr 0 0 0))), (8, .w (.one (.int .i64 vers8))), (9, .w (.one (.bool ok9))), (10, .w (.one (.int .i64 v10)))], [.box [.int .i64 b0_0, .sl 1 none, .sl 2 none, .sl 3 none], .row (.int .i64) h1 .own, .row (.int .i64) h2 .own, .row .bool h3 .own]⟩
theorem eq5 (code : List Int) (r : List W) (lh : Heap) : FB E H5 Tryz.f5 [.one (.ro (.int .u8) code)] [] r lh =
  (
   Br (decide ((1048576 : Int) < ((code.length : Nat) : Int))) (
    Ret r lh [.one (.bool true)] []) (
    ∃ r0 : Int × List Int × List Int × List Bool, SC P 15 [.one (.ro (.int .u8) code)] [] [.agg [.int .i64 r0.1, .sl 0 none, .sl 1 none, .sl 2 none]] [.row (.int .i64) r0.2.1 .own, .row (.int .i64) r0.2.2.1 .own, .row .bool r0.2.2.2 .own] ∧
     ∃ r1 : List Int × Int × Bool, SC P 7 [.agg [.int .i64 r0.1, .ro (.int .i64) r0.2.1, .ro (.int .i64) r0.2.2.1, .ro .bool r0.2.2.2]] [] [.one (.sl 0 none), .one (.int .i64 r1.2.1), .one (.bool r1.2.2)] [.row (.int .i64) r1.1 .own] ∧
      ∃ r2 : List Int × Int × Bool, SC P 9 [.agg [.int .i64 r0.1, .ro (.int .i64) r0.2.1, .ro (.int .i64) r0.2.2.1, .ro .bool r0.2.2.2]] [] [.one (.sl 0 none), .one (.int .i64 r2.2.1), .one (.bool r2.2.2)] [.row (.int .i64) r2.1 .own] ∧
       Br (r2.2.2 != r1.2.2) (
        Br (r2.2.2 == r1.2.2) (
         Br (decide (r2.2.1 = r1.2.1)) (
          ∃ r3 : Bool, SC P 16 [.one (.ro (.int .i64) r2.1), .one (.ro (.int .i64) r1.1)] [] [.one (.bool r3)] [] ∧
           Ret r lh [.one (.bool r3)] []) (
          Ret r lh [.one (.bool false)] [])) (
         Ret r lh [.one (.bool false)] [])) (
        Br (!(decide (r2.2.1 = r1.2.1))) (
         Br (r2.2.2 == r1.2.2) (
          Br (decide (r2.2.1 = r1.2.1)) (
           ∃ r4 : Bool, SC P 16 [.one (.ro (.int .i64) r2.1), .one (.ro (.int .i64) r1.1)] [] [.one (.bool r4)] [] ∧
            Ret r lh [.one (.bool r4)] []) (
           Ret r lh [.one (.bool false)] [])) (
          Ret r lh [.one (.bool false)] [])) (
         ∃ r5 : Bool, SC P 16 [.one (.ro (.int .i64) r2.1), .one (.ro (.int .i64) r1.1)] [] [.one (.bool r5)] [] ∧
          Br (!r5) (
           Br (r2.2.2 == r1.2.2) (
            Br (decide (r2.2.1 = r1.2.1)) (
             ∃ r6 : Bool, SC P 16 [.one (.ro (.int .i64) r2.1), .one (.ro (.int .i64) r1.1)] [] [.one (.bool r6)] [] ∧
              Ret r lh [.one (.bool r6)] []) (
             Ret r lh [.one (.bool false)] [])) (
            Ret r lh [.one (.bool false)] [])) (
           ∃ r7 : Bool, SC P 17 [.agg [.int .i64 r0.1, .ro (.int .i64) r0.2.1, .ro (.int .i64) r0.2.2.1, .ro .bool r0.2.2.2]] [] [.one (.bool r7)] [] ∧
            Br (!r7) (
             Br (r2.2.2 == r1.2.2) (
              Br (decide (r2.2.1 = r1.2.1)) (
               ∃ r8 : Bool, SC P 16 [.one (.ro (.int .i64) r2.1), .one (.ro (.int .i64) r1.1)] [] [.one (.bool r8)] [] ∧
                Ret r lh [.one (.bool r8)] []) (
               Ret r lh [.one (.bool false)] [])) (
              Ret r lh [.one (.bool false)] [])) (
             FL E H5 Tryz.f5 0 r lh 0 (S5_L0 r2.2.1 r2.2.2 (IntKind.wrap .i64 (r2.2.1 + 1)) r0.1 r0.2.1 r0.2.2.1 r0.2.2.2))))))) := by kernel_rfl
theorem eq5_L0 (vers8 : Int) (ok9 : Bool) (v10 : Int) (b0_0 : Int) (h1 : List Int) (h2 : List Int) (h3 : List Bool) (r : List W) (lh : Heap) : FL1 E H5 Tryz.f5 0 r lh 0 (S5_L0 vers8 ok9 v10 b0_0 h1 h2 h3) =
  (
   ∃ r0 : Int, SC P 21 [.agg [.int .i64 b0_0, .ro (.int .i64) h1, .ro (.int .i64) h2, .ro .bool h3]] [] [.one (.int .i64 r0)] [] ∧
    Br (decide (v10 ≤ r0)) (
     ∃ r1 : List Bool, SC P 18 [.agg [.int .i64 b0_0, .ro (.int .i64) h1, .ro (.int .i64) h2, .ro .bool h3], .one (.int .i64 v10)] [] [.one (.sl 0 none)] [.row .bool r1 .own] ∧
      ∃ r2 : Bool, SC P 20 [.one (.int .i64 b0_0), .one (.ro .bool r1)] [] [.one (.bool r2)] [] ∧
       Br r2 (
        Ret r lh [.one (.bool false)] []) (
        FL E H5 Tryz.f5 0 r lh 0 (S5_L0 vers8 ok9 (IntKind.wrap .i64 (v10 + 1)) b0_0 h1 h2 h3))) (
     Ret r lh [.one (.bool (ok9 == (decide ((0 : Int) < vers8))))] [])) := by kernel_rfl
theorem l5 (s : StrT) (ho : stripeOkF s = true) (so : StrOk s) : ∀ (n : Nat) (v : Int), readV s < v → v + n = topF s.2.2.1 + 1 → FL E H5 Tryz.f5 0 [.one (.bool true)] [] 0 (S5_L0 (readV s) (!decide (readV s = 0)) v s.1 s.2.1 s.2.2.1 s.2.2.2)
  | n, v, hv, h => by
    have h99 := so.top_le
    have hr := readV_le (s := s)
    have s1 := c21 s
    rw [topV, ho, cond_true] at s1
    refine FL_of1 ?_
    rw [eq5_L0]
    refine ⟨_, s1, ?_⟩
    cases n with
    | zero =>
      refine Br_f (by omega) ⟨?_, rfl⟩
      by_cases e : readV s = 0
      · rw [decide_eq_true e, decide_eq_false (show ¬ (0 : Int) < readV s by omega)]; rfl
      · rw [decide_eq_false e, decide_eq_true (show (0 : Int) < readV s by omega)]; rfl
    | succ n =>
      have nx := l5 s ho so n (v + 1) (by omega) (by omega)
      have s2 := c18 s v so.l2 so.l3
      have s3 := c20 s.1 (ofF s.2.2.1 s.2.2.2 v) (by rw [ofF_len]; omega)
      have hb : bearV s v = false := downF_gt (n := (topF s.2.2.1).toNat) hv (by omega)
      rw [code_bear so, hb] at s3
      rw [wrap64 (n := v + 1) (by omega) (by omega)]
      exact Br_t (by omega) ⟨_, s2, false, s3, BrF nx⟩
theorem c5 (code : List Int) (hc : Bytes code) : SC P 5 [.one (.ro (.int .u8) code)] [] [.one (.bool true)] [] := by
  refine SC_of_FB (H := H5) E_ok Tryz.func5 (by kernel_rfl) ?_
  rw [eq5]
  refine Br_d (fun _ => ⟨rfl, rfl⟩) (fun hcl => ?_)
  obtain ⟨s, hs, s0⟩ := c15 code hc
  have s1 := c7 s (by rw [hs.1]; omega)
  have s2 := c9 s
  have s4 := c17 s (by rw [hs.1]; omega)
  have hl := readR_len (s := s)
  have si := c16 (readR s).1 (readR s).1 (by omega)
  rw [decide_eq_true rfl] at si
  cases ho : stripeOkF s with
  | false =>
    rw [ho] at s4
    generalize readR s = R at s1 s2 si
    exact ⟨s, s0, R, s1, R, s2, Br_neT (Br_nd (fun e => absurd rfl e) (fun _ => ⟨true, si, Br_nb (fun e => by cases e) (fun _ => ⟨false, s4, Br_nb (fun _ => Br_eqU (Br_t rfl ⟨true, si, rfl, rfl⟩)) (fun e => by cases e)⟩)⟩))⟩
  | true =>
    rw [ho] at s4
    have so := str_ok ho
    have eR : readR s = (readU s (readV s), readV s, !decide (readV s = 0)) := by rw [readR, ho]; rfl
    rw [eR] at s1 s2 si
    have h99 := so.top_le
    have hr := readV_le (s := s)
    have hF := l5 s ho so (topF s.2.2.1 - readV s).toNat (readV s + 1) (by omega) (by omega)
    have hw := wrap64 (n := readV s + 1) (by omega) (by omega)
    refine ⟨s, s0, (readU s (readV s), readV s, !decide (readV s = 0)), s1, (readU s (readV s), readV s, !decide (readV s = 0)), s2, Br_neT (Br_nd (fun e => absurd rfl e) (fun _ => ⟨true, si, Br_nb (fun e => by cases e) (fun _ => ⟨true, s4, Br_nb (fun e => by cases e) (fun _ => ?_)⟩)⟩))⟩
    rw [hw]
    exact hF
end Go.Proofs.YtjoiadaogppmkaaGreat.Sh
