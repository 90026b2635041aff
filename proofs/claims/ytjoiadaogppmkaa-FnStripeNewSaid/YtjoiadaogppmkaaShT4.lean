/- A new stripe: the law on drawn ones. -/
import Derived.Test.YtjoiadaogppmkaaShT3
import Derived.Test.YtjoiadaogppmkaaShD1
namespace Go.Proofs.Ytjoiadaogppmkaa.Sh
open Go
set_option linter.unusedVariables false
set_option linter.unusedSimpArgs false
/-! loop.example/keelson/laws.lkBools -/
def H58 : Hint := ⟨[[(0, 0, .bool), (1, 0, .bool), (5, 0, .bool)]], [], [(6, [0, 1, 2, 3, 4, 5, 6, 7, 8])], [], [], [], []⟩
def S58_L0 (a0 : List Bool) (b1 : List Bool) (i5 : Int) : St := ⟨[(0, .w (.one (.ro .bool a0))), (1, .w (.one (.ro .bool b1))), (5, .w (.one (.int .i64 i5)))], []⟩
theorem eq58 (a : List Bool) (b : List Bool) (r : List W) (lh : Heap) : FB E H58 Try.f58 [.one (.ro .bool a), .one (.ro .bool b)] [] r lh =
  (
   Br (!(decide (((a.length : Nat) : Int) = ((b.length : Nat) : Int)))) (
    Ret r lh [.one (.bool false)] []) (
    FL E H58 Try.f58 0 r lh 0 (S58_L0 a b 0))) := by kernel_rfl
theorem eq58_L0 (a0 : List Bool) (b1 : List Bool) (i5 : Int) (r : List W) (lh : Heap) : FL1 E H58 Try.f58 0 r lh 0 (S58_L0 a0 b1 i5) =
  (
   Br (decide (i5 < ((a0.length : Nat) : Int))) (
    Ck (decide ((0 : Int) ≤ i5)) (
     Ck (decide (i5 < ((a0.length : Nat) : Int))) (
      Ck (decide ((0 : Int) ≤ i5)) (
       Ck (decide (i5 < ((b1.length : Nat) : Int))) (
        Br ((a0.getD i5.toNat false) != (b1.getD i5.toNat false)) (
         Ret r lh [.one (.bool false)] []) (
         FL E H58 Try.f58 0 r lh 0 (S58_L0 a0 b1 (IntKind.wrap .i64 (i5 + 1))))))))) (
    Ret r lh [.one (.bool true)] [])) := by kernel_rfl
theorem l58 (a b : List Bool) (hl : a.length ≤ 1048576) (hb : a.length = b.length) : ∀ (n i : Nat), i + n = a.length → FL E H58 Try.f58 0 [.one (.bool (allR (fun j => decide (a.getD j false = b.getD j false)) i n))] [] 0 (S58_L0 a b (i : Int))
  | 0, i, h => by
    refine FL_of1 ?_
    rw [eq58_L0]
    exact Br_f (by omega) ⟨rfl, rfl⟩
  | n + 1, i, h => by
    refine FL_of1 ?_
    rw [eq58_L0, wS (by omega)]
    simp only [Int.toNat_natCast]
    refine Br_t (by omega) (Ck_d (by omega) (Ck_d (by omega) (Ck_d (by omega) (Ck_d (by omega) (Br_b (fun h1 => ?_) (fun h1 => ?_))))))
    · exact ⟨by rw [allR_f (by simpa using h1)], rfl⟩
    · rw [allR_t (by simpa using h1)]
      exact l58 a b hl hb n (i + 1) (by omega)
theorem c58 (a b : List Bool) (hl : a.length ≤ 1048576) : SC P 58 [.one (.ro (.bool) a), .one (.ro (.bool) b)] [] [.one (.bool (decide (a = b)))] [] := by
  refine SC_of_FB (H := H58) E_ok Try.func58 (by kernel_rfl) ?_
  rw [eq58]
  refine Br_nd (fun h => ⟨?_, rfl⟩) (fun h => ?_)
  · rw [decide_eq_false (by rintro rfl; exact h rfl)]
  · have h : a.length = b.length := by omega
    rw [← eqR (z := false) h]
    exact l58 a b hl h a.length 0 (by omega)
/-! loop.example/keelson/laws.lkStripe -/
def H23 : Hint := ⟨[], [], [], [], [], [], []⟩
theorem eq23 (a : (Int × (List Int × (List Int × List Bool)))) (b : (Int × (List Int × (List Int × List Bool)))) (r : List W) (lh : Heap) : FB E H23 Try.f23 [.agg [.int .i64 a.1, .ro (.int .i64) a.2.1, .ro (.int .i64) a.2.2.1, .ro .bool a.2.2.2], .agg [.int .i64 b.1, .ro (.int .i64) b.2.1, .ro (.int .i64) b.2.2.1, .ro .bool b.2.2.2]] [] r lh =
  (
   Br (decide (a.1 = b.1)) (
    ∃ r0 : Bool, SC P 26 [.one (.ro (.int .i64) a.2.1), .one (.ro (.int .i64) b.2.1)] [] [.one (.bool r0)] [] ∧
     Br r0 (
      ∃ r1 : Bool, SC P 26 [.one (.ro (.int .i64) a.2.2.1), .one (.ro (.int .i64) b.2.2.1)] [] [.one (.bool r1)] [] ∧
       Br r1 (
        ∃ r2 : Bool, SC P 58 [.one (.ro .bool a.2.2.2), .one (.ro .bool b.2.2.2)] [] [.one (.bool r2)] [] ∧
         Ret r lh [.one (.bool r2)] []) (
        Ret r lh [.one (.bool false)] [])) (
      Ret r lh [.one (.bool false)] [])) (
    Ret r lh [.one (.bool false)] [])) := by kernel_rfl
theorem c23 (s : StrT) (h1 : s.2.1.length ≤ 1048576) (h2 : s.2.2.1.length ≤ 1048576) (h3 : s.2.2.2.length ≤ 1048576) : SC P 23 [.agg [.int .i64 s.1, .ro (.int .i64) s.2.1, .ro (.int .i64) s.2.2.1, .ro .bool s.2.2.2], .agg [.int .i64 s.1, .ro (.int .i64) s.2.1, .ro (.int .i64) s.2.2.1, .ro .bool s.2.2.2]] [] [.one (.bool true)] [] := by
  have e1 := c26 s.2.1 s.2.1 h1
  have e2 := c26 s.2.2.1 s.2.2.1 h2
  have e3 := c58 s.2.2.2 s.2.2.2 h3
  rw [decide_eq_true rfl] at e1 e2 e3
  refine SC_of_FB (H := H23) E_ok Try.func23 (by kernel_rfl) ?_
  rw [eq23]
  exact Br_t rfl ⟨true, e1, BrT ⟨true, e2, BrT ⟨true, e3, rfl, rfl⟩⟩⟩
/-! loop.example/keelson/spec.DrawStripeNew -/
def H20 : Hint := ⟨[], [], [], [], [], [], []⟩
theorem eq20 (code : List Int) (r : List W) (lh : Heap) : FB E H20 Try.f20 [.one (.ro (.int .u8) code)] [] r lh =
  (
   ∃ r0 : (List Int × Int), SC P 34 [.one (.ro (.int .u8) code)] [] [.one (.ptr 0 0 0)] [.box [.ro (.int .u8) r0.1, .int .i64 r0.2]] ∧
    ∃ r1 : List Int × Int × Int, SC P 35 [.one (.ptr 0 0 0)] [.box [.ro (.int .u8) r0.1, .int .i64 r0.2]] [.one (.int .i64 r1.2.2)] [.box [.ro (.int .u8) r1.1, .int .i64 r1.2.1]] ∧
     ∃ r2 : List Int × Int × List Int, SC P 48 [.one (.ptr 0 0 0)] [.box [.ro (.int .u8) r1.1, .int .i64 r1.2.1]] [.one (.ro (.int .i64) r2.2.2)] [.box [.ro (.int .u8) r2.1, .int .i64 r2.2.1]] ∧
      ∃ r3 : List Int × Int × Int, SC P 49 [.one (.ptr 0 0 0), .one (.int .i64 5)] [.box [.ro (.int .u8) r2.1, .int .i64 r2.2.1]] [.one (.int .i64 r3.2.2)] [.box [.ro (.int .u8) r3.1, .int .i64 r3.2.1]] ∧
       ∃ r4 : List Int × Int × Int, SC P 49 [.one (.ptr 0 0 0), .one (.int .i64 24)] [.box [.ro (.int .u8) r3.1, .int .i64 r3.2.1]] [.one (.int .i64 r4.2.2)] [.box [.ro (.int .u8) r4.1, .int .i64 r4.2.1]] ∧
        Ret r lh [.one (.int .i64 r1.2.2), .one (.ro (.int .i64) r2.2.2), .one (.int .i64 (IntKind.wrap .i64 ((IntKind.wrap .i64 (1 + r3.2.2)) - (IntKind.wrap .i64 ((IntKind.wrap .i64 (Int.tdiv r4.2.2 23)) * 6)))))] []) := by kernel_rfl
theorem c20 (code : List Int) (hc : Bytes code) : ∃ (k : Int) (d : List Int) (vers : Int), d.length ≤ 4 ∧ SC P 20 [.one (.ro (.int .u8) code)] [] [.one (.int .i64 k), .one (.ro (.int .i64) d), .one (.int .i64 vers)] [] := by
  obtain ⟨b, hb, s0⟩ := c34 code hc
  obtain ⟨k, p, p0, p1, s1⟩ := c35 b 0 hb (by omega) (by omega)
  obtain ⟨d, q, h3, h4, q0, q1, s2⟩ := c48 b p hb p0 (by omega)
  obtain ⟨v3, a3, b3, s3⟩ := c49 b q 5 hb (by omega) (by omega) (by omega)
  obtain ⟨v4, a4, b4, s4⟩ := c49 b (q + 1) 24 hb (by omega) (by omega) (by omega)
  refine ⟨k, d, IntKind.wrap .i64 (IntKind.wrap .i64 (1 + v3) - IntKind.wrap .i64 (IntKind.wrap .i64 (Int.tdiv v4 23) * 6)), h4, ?_⟩
  refine SC_of_FB (H := H20) E_ok Try.func20 (by kernel_rfl) ?_
  rw [eq20]
  exact ⟨(b, 0), s0, (b, p, k), s1, (b, q, d), s2, (b, q + 1, v3), s3, (b, q + 1 + 1, v4), s4, rfl, rfl⟩
theorem allF_getT (kind : Int) (v : V4) {i : Int} (h0 : 0 ≤ i) (h1 : i ≤ 7) : (allF kind v).getD i.toNat 0 = dotF (rowV kind i) v := by
  rw [allF, mapR_get (show i.toNat < 8 by omega)]
  rw [show ((0 + i.toNat : Nat) : Int) = i by omega]
theorem allF_pT (kind : Int) (v : V4) : ValsP (allF kind v) := ⟨allF_length _ _, (mapR_ok (n := 8) fun j => fok_mod _).ok⟩
def rep8 (v : Int) : List Int := [v, v, v, v, v, v, v, v]
def yes8 : List Bool := [true, true, true, true, true, true, true, true]
def newS (kind : Int) (v : V4) (vers : Int) : StrT := (kind, allF kind v, rep8 vers, yes8)
theorem rep8_get {v : Int} {i : Nat} (h : i < 8) : (rep8 v).getD i 0 = v := by
  rcases lt8 h with rfl | rfl | rfl | rfl | rfl | rfl | rfl | rfl <;> rfl
theorem yes8_get {i : Nat} (h : i < 8) : yes8.getD i false = true := by
  rcases lt8 h with rfl | rfl | rfl | rfl | rfl | rfl | rfl | rfl <;> rfl
theorem ofF_new {v : Int} : ofF (rep8 v) yes8 v = yes8 := by
  refine List.ext_getElem rfl fun i h1 h2 => ?_
  have hi : i < 8 := h2
  have := ofF_get (vers := rep8 v) (there := yes8) (v := v) hi
  rw [getD_eq h1, yes8_get hi, rep8_get hi, decide_eq_true rfl] at this
  rw [this]
  have h := yes8_get hi
  rw [getD_eq h2] at h
  exact h.symm
theorem bears8 {kind : Int} (hk : inB kind 1 2 = true) : bearsI kind (flagF yes8) = true := by
  rcases kind_cases hk with rfl | rfl <;> decide +kernel
theorem new_read {kind : Int} (hk : inB kind 1 2 = true) {v : V4} (hv : VOk v) : fitsI kind (allF kind v) (flagF yes8) = true ∧ solveI kind (allF kind v) (flagF yes8) = v := by
  obtain ⟨s1, s2⟩ := flag_sh (there := yes8) rfl
  have hid := set_id hk (there := yes8) rfl (bears8 hk)
  exact ⟨id_fits s2 hid hv fun i hi => allF_getT kind v (s1 i hi).1 (s1 i hi).2, id_solve s2 hid hv fun i hi => allF_getT kind v (s1 i hi).1 (s1 i hi).2⟩
theorem new_ok {kind : Int} (hk : inB kind 1 2 = true) {v : V4} (hv : VOk v) {vers : Int} (hr : inB vers 1 99 = true) : stripeOkF (newS kind v vers) = true := by
  rw [stripeOkF, Bool.and_eq_true, Bool.and_eq_true, Bool.and_eq_true, lens_iff, allR_iff, allR_iff]
  refine ⟨⟨hk, allF_length _ _, rfl, rfl⟩, fun j _ hj => ?_, fun j _ hj => ?_⟩
  · show (bif yes8.getD j false then inB ((allF kind v).getD j 0) 0 30 && inB ((rep8 vers).getD j 0) 1 99 else _) = true
    rw [yes8_get (by omega), rep8_get (by omega), cond_true, hr, Bool.and_true]
    exact inB_iff.2 ((allF_pT kind v).2 j)
  · show (!yes8.getD j false || fitsI kind (allF kind v) (flagF (ofF (rep8 vers) yes8 ((rep8 vers).getD j 0)))) = true
    rw [yes8_get (by omega), rep8_get (by omega), ofF_new, (new_read hk hv).1]; rfl
theorem new_top {vers : Int} (h : 1 ≤ vers) : topF (rep8 vers) = vers := by
  show max (max (max (max (max (max (max (max 0 vers) vers) vers) vers) vers) vers) vers) vers = vers
  omega
theorem new_readR {kind : Int} (hk : inB kind 1 2 = true) {v : V4} (hv : VOk v) {vers : Int} (hr : inB vers 1 99 = true) : readR (newS kind v vers) = (v.l, vers, true) := by
  have h1 := (inB_iff.1 hr).1
  have hb : bearV (newS kind v vers) vers = true := by
    show bearsI kind (flagF (ofF (rep8 vers) yes8 vers)) = true
    rw [ofF_new]; exact bears8 hk
  have e : readV (newS kind v vers) = vers := by
    show downF (bearV (newS kind v vers)) (topF (rep8 vers)).toNat = vers
    rw [new_top h1]
    have hn : ((vers.toNat : Nat) : Int) = vers := by omega
    have := downF_top (f := bearV (newS kind v vers)) (n := vers.toNat) (by rw [hn]; exact hb)
    rw [this, hn]
  rw [readR, new_ok hk hv hr, cond_true, e, readU, decide_eq_false (show ¬ vers = 0 by omega), cond_false]
  show ((solveI kind (allF kind v) (flagF (ofF (rep8 vers) yes8 vers))).l, vers, !false) = _
  rw [ofF_new, (new_read hk hv).2]; rfl
theorem new_topV {kind : Int} (hk : inB kind 1 2 = true) {v : V4} (hv : VOk v) {vers : Int} (hr : inB vers 1 99 = true) : topV (newS kind v vers) = vers := by
  rw [topV, new_ok hk hv hr, cond_true]
  exact new_top (inB_iff.1 hr).1
theorem Br_eqT {b : Bool} {A B : Prop} (h : A) : Br (b == b) A B := by cases b <;> exact h
/-! loop.example/keelson/laws.FnStripeNew -/
def H5 : Hint := ⟨[], [], [(9, [0, 1, 2, 3, 4, 5, 6, 7, 8, 9, 10, 11, 12, 13, 14, 15, 16, 17, 18, 19, 20, 21, 22, 23, 24, 26, 25, 27, 28, 29])], [], [], [], []⟩
theorem eq5 (code : List Int) (r : List W) (lh : Heap) : FB E H5 Try.f5 [.one (.ro (.int .u8) code)] [] r lh =
  (
   Br (decide ((1048576 : Int) < ((code.length : Nat) : Int))) (
    Ret r lh [.one (.bool true)] []) (
    ∃ r0 : Int × List Int × Int, SC P 20 [.one (.ro (.int .u8) code)] [] [.one (.int .i64 r0.1), .one (.ro (.int .i64) r0.2.1), .one (.int .i64 r0.2.2)] [] ∧
     ∃ r1 : Int × List Int × List Int × List Bool × Bool, SC P 21 [.one (.int .i64 r0.1), .one (.ro (.int .i64) r0.2.1), .one (.int .i64 r0.2.2)] [] [.agg [.int .i64 r1.1, .sl 0 none, .sl 1 none, .sl 2 none], .one (.bool r1.2.2.2.2)] [.row (.int .i64) r1.2.1 .own, .row (.int .i64) r1.2.2.1 .own, .row .bool r1.2.2.2.1 .own] ∧
      ∃ r2 : Int × List Int × List Int × List Bool × Bool, SC P 22 [.one (.int .i64 r0.1), .one (.ro (.int .i64) r0.2.1), .one (.int .i64 r0.2.2)] [] [.agg [.int .i64 r2.1, .sl 0 none, .sl 1 none, .sl 2 none], .one (.bool r2.2.2.2.2)] [.row (.int .i64) r2.2.1 .own, .row (.int .i64) r2.2.2.1 .own, .row .bool r2.2.2.2.1 .own] ∧
       Br (r2.2.2.2.2 != r1.2.2.2.2) (
        Br (r2.2.2.2.2 == r1.2.2.2.2) (
         ∃ r3 : Bool, SC P 23 [.agg [.int .i64 r2.1, .ro (.int .i64) r2.2.1, .ro (.int .i64) r2.2.2.1, .ro .bool r2.2.2.2.1], .agg [.int .i64 r1.1, .ro (.int .i64) r1.2.1, .ro (.int .i64) r1.2.2.1, .ro .bool r1.2.2.2.1]] [] [.one (.bool r3)] [] ∧
          Ret r lh [.one (.bool r3)] []) (
         Ret r lh [.one (.bool false)] [])) (
        ∃ r4 : Bool, SC P 23 [.agg [.int .i64 r2.1, .ro (.int .i64) r2.2.1, .ro (.int .i64) r2.2.2.1, .ro .bool r2.2.2.2.1], .agg [.int .i64 r1.1, .ro (.int .i64) r1.2.1, .ro (.int .i64) r1.2.2.1, .ro .bool r1.2.2.2.1]] [] [.one (.bool r4)] [] ∧
         Br (!r4) (
          Br (r2.2.2.2.2 == r1.2.2.2.2) (
           ∃ r5 : Bool, SC P 23 [.agg [.int .i64 r2.1, .ro (.int .i64) r2.2.1, .ro (.int .i64) r2.2.2.1, .ro .bool r2.2.2.2.1], .agg [.int .i64 r1.1, .ro (.int .i64) r1.2.1, .ro (.int .i64) r1.2.2.1, .ro .bool r1.2.2.2.1]] [] [.one (.bool r5)] [] ∧
            Ret r lh [.one (.bool r5)] []) (
           Ret r lh [.one (.bool false)] [])) (
          Br (!r2.2.2.2.2) (
           Br (r2.2.2.2.2 == r1.2.2.2.2) (
            ∃ r6 : Bool, SC P 23 [.agg [.int .i64 r2.1, .ro (.int .i64) r2.2.1, .ro (.int .i64) r2.2.2.1, .ro .bool r2.2.2.2.1], .agg [.int .i64 r1.1, .ro (.int .i64) r1.2.1, .ro (.int .i64) r1.2.2.1, .ro .bool r1.2.2.2.1]] [] [.one (.bool r6)] [] ∧
             Ret r lh [.one (.bool r6)] []) (
            Ret r lh [.one (.bool false)] [])) (
           ∃ r7 : List Int × Int × Bool, SC P 24 [.agg [.int .i64 r2.1, .ro (.int .i64) r2.2.1, .ro (.int .i64) r2.2.2.1, .ro .bool r2.2.2.2.1]] [] [.one (.sl 0 none), .one (.int .i64 r7.2.1), .one (.bool r7.2.2)] [.row (.int .i64) r7.1 .own] ∧
            ∃ r8 : Bool, SC P 25 [.agg [.int .i64 r2.1, .ro (.int .i64) r2.2.1, .ro (.int .i64) r2.2.2.1, .ro .bool r2.2.2.2.1]] [] [.one (.bool r8)] [] ∧
             Br r8 (
              ∃ r9 : List Int, SC P 27 [.one (.int .i64 r0.1), .one (.ro (.int .i64) r0.2.1)] [] [.one (.sl 0 none)] [.row (.int .i64) r9 .own] ∧
               ∃ r10 : Bool, SC P 26 [.one (.ro (.int .i64) r2.2.1), .one (.ro (.int .i64) r9)] [] [.one (.bool r10)] [] ∧
                Br r10 (
                 Br r7.2.2 (
                  Br (decide (r7.2.1 = r0.2.2)) (
                   ∃ r11 : Bool, SC P 26 [.one (.ro (.int .i64) r7.1), .one (.ro (.int .i64) r0.2.1)] [] [.one (.bool r11)] [] ∧
                    Br r11 (
                     ∃ r12 : Int, SC P 28 [.agg [.int .i64 r2.1, .ro (.int .i64) r2.2.1, .ro (.int .i64) r2.2.2.1, .ro .bool r2.2.2.2.1]] [] [.one (.int .i64 r12)] [] ∧
                      Ret r lh [.one (.bool (decide (r12 = r0.2.2)))] []) (
                     Ret r lh [.one (.bool false)] [])) (
                   Ret r lh [.one (.bool false)] [])) (
                  Ret r lh [.one (.bool false)] [])) (
                 Ret r lh [.one (.bool false)] [])) (
              Ret r lh [.one (.bool false)] [])))))) := by kernel_rfl
theorem c5 (code : List Int) (hc : Bytes code) : SC P 5 [.one (.ro (.int .u8) code)] [] [.one (.bool true)] [] := by
  refine SC_of_FB (H := H5) E_ok Try.func5 (by kernel_rfl) ?_
  rw [eq5]
  refine Br_d (fun _ => ⟨rfl, rfl⟩) (fun hcl => ?_)
  obtain ⟨kind, d, vers, hd, s0⟩ := c20 code hc
  have s1 := c21 kind d vers (by omega)
  have s2 := c22 kind d vers (by omega)
  cases o : stripeOk kind d vers with
  | false =>
    obtain ⟨h1, h2, h3⟩ := stripeF_len (kind := kind) (d := d) (vers := vers)
    rw [o] at s1 s2
    generalize stripeF kind d vers = S at s1 s2 h1 h2 h3
    have sk := c23 S (by omega) (by omega) (by omega)
    exact ⟨(kind, d, vers), s0, (S.1, S.2.1, S.2.2.1, S.2.2.2, false), s1, (S.1, S.2.1, S.2.2.1, S.2.2.2, false), s2, Br_neT ⟨true, sk, Br_nb (fun e => by cases e) (fun _ => BrT (Br_eqT ⟨true, sk, rfl, rfl⟩))⟩⟩
  | true =>
    have o' := o
    rw [stripeOk, Bool.and_eq_true, Bool.and_eq_true] at o'
    obtain ⟨⟨hk, hvo⟩, hr⟩ := o'
    obtain ⟨v, hv, rfl⟩ := vecOk_v hvo
    have eS : stripeF kind v.l vers = newS kind v vers := by rw [stripeF, o, vecF_l hv]; rfl
    have eC : codeAll kind v.l = allF kind v := by rw [codeAll, hk, hvo, vecF_l hv]; rfl
    have s3 := c24 (newS kind v vers)
    have s4 := c25 (newS kind v vers)
    have s5 := c27 kind v.l (by omega)
    have s6 := c28 (newS kind v vers)
    rw [new_readR hk hv hr] at s3
    rw [new_ok hk hv hr] at s4
    rw [eC] at s5
    rw [new_topV hk hv hr] at s6
    rw [o, eS] at s1 s2
    have h1 : (newS kind v vers).2.1.length = 8 := allF_length _ _
    have sk := c23 (newS kind v vers) (by omega) (by show 8 ≤ _; omega) (by show 8 ≤ _; omega)
    have si := c26 (allF kind v) (allF kind v) (by rw [allF_length]; omega)
    have sj := c26 v.l v.l (by omega)
    rw [decide_eq_true rfl] at si sj
    exact ⟨(kind, v.l, vers), s0, (kind, allF kind v, rep8 vers, yes8, true), s1, (kind, allF kind v, rep8 vers, yes8, true), s2, Br_neT ⟨true, sk, Br_nb (fun e => by cases e) (fun _ => BrF ⟨(v.l, vers, true), s3, true, s4, BrT ⟨_, s5, true, si, BrT (BrT (Br_t rfl ⟨true, sj, BrT ⟨vers, s6, by rw [decide_eq_true rfl], rfl⟩⟩))⟩⟩)⟩⟩
end Go.Proofs.Ytjoiadaogppmkaa.Sh
