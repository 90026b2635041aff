/- Rows of patches, and shards in an order: laws. -/
import Derived.Test.YtlebgbcoljnejaaShL3
import Derived.Test.YtlebgbcoljnejaaShR4
import Derived.Test.YtlebgbcoljnejaaShC1
namespace Go.Proofs.Ytlebgbcoljnejaa.Sh
open Go
set_option linter.unusedVariables false
set_option linter.unusedSimpArgs false
def addV (v : V4) (i : Int) (c : Int) : V4 := ((v.1 + bif decide (i = 0) then c else 0) % 31, (v.2.1 + bif decide (i = 1) then c else 0) % 31, (v.2.2.1 + bif decide (i = 2) then c else 0) % 31, (v.2.2.2 + bif decide (i = 3) then c else 0) % 31)
theorem addV_ok (v : V4) (i c : Int) : VOk (addV v i c) := ⟨fok_mod _, fok_mod _, fok_mod _, fok_mod _⟩
theorem fok_add0 {a : Int} (h : FOk a) : (a + 0) % 31 = a := by obtain ⟨h1, h2⟩ := h; omega
theorem addP_one {v : V4} (hv : VOk v) {q : Pat} (hq : patchOk q = true) : addP v.l q = (addV v q.1 q.2).l := by
  obtain ⟨i, c⟩ := q
  obtain ⟨⟨h0, h1⟩, h2, h3⟩ := patchOk_iff.1 hq
  obtain ⟨v0, v1, v2, v3⟩ := v
  obtain ⟨k0, k1, k2, k3⟩ := hv
  have k0 : FOk v0 := k0
  have k1 : FOk v1 := k1
  have k2 : FOk v2 := k2
  have k3 : FOk v3 := k3
  have : i = 0 ∨ i = 1 ∨ i = 2 ∨ i = 3 := by dsimp only at h0 h1; omega
  have e0 := fok_add0 k0
  have e1 := fok_add0 k1
  have e2 := fok_add0 k2
  have e3 := fok_add0 k3
  rcases this with rfl | rfl | rfl | rfl
  · show [(v0 + c) % 31, v1, v2, v3] = [(v0 + c) % 31, (v1 + 0) % 31, (v2 + 0) % 31, (v3 + 0) % 31]
    rw [e1, e2, e3]
  · show [v0, (v1 + c) % 31, v2, v3] = [(v0 + 0) % 31, (v1 + c) % 31, (v2 + 0) % 31, (v3 + 0) % 31]
    rw [e0, e2, e3]
  · show [v0, v1, (v2 + c) % 31, v3] = [(v0 + 0) % 31, (v1 + 0) % 31, (v2 + c) % 31, (v3 + 0) % 31]
    rw [e0, e1, e3]
  · show [v0, v1, v2, (v3 + c) % 31] = [(v0 + 0) % 31, (v1 + 0) % 31, (v2 + 0) % 31, (v3 + c) % 31]
    rw [e0, e1, e2]
theorem mul_mod31 (r a c : Int) : M31 (r * ((a + c) % 31)) (r * a + r * c) := (M31.mul rfl (M31.mod _)).trans (by rw [Int.mul_add]; exact rfl)
theorem dotF_addV (r v : V4) {i : Int} (h0 : 0 ≤ i) (h1 : i ≤ 3) (c : Int) : dotF r (addV v i c) = (dotF r v + dotF r (vtimes (unitF i) c)) % 31 := by
  obtain ⟨r0, r1, r2, r3⟩ := r
  obtain ⟨v0, v1, v2, v3⟩ := v
  have : i = 0 ∨ i = 1 ∨ i = 2 ∨ i = 3 := by omega
  refine fok_eq (fok_mod _) (fok_mod _) ((dotF_m _ _).trans (M31.symm ((M31.mod _).trans ((M31.add (dotF_m _ _) (dotF_m _ _)).trans ?_))))
  have hz : ∀ r a : Int, M31 (r * ((a + 0) % 31)) (r * a) := fun r a => (mul_mod31 r a 0).trans (by rw [Int.mul_zero, Int.add_zero]; exact rfl)
  have ho : ∀ r : Int, M31 (r * (1 * c % 31)) (r * c) := fun r => (M31.mul rfl (M31.mod _)).trans (by rw [Int.one_mul]; exact rfl)
  have hn : ∀ r : Int, M31 (r * (0 * c % 31)) 0 := fun r => by rw [Int.zero_mul, Int.zero_emod, Int.mul_zero]; exact rfl
  rcases this with rfl | rfl | rfl | rfl
  · have a0 := mul_mod31 r0 v0 c
    have a1 := hz r1 v1
    have a2 := hz r2 v2
    have a3 := hz r3 v3
    have b0 := ho r0
    have b1 := hn r1
    have b2 := hn r2
    have b3 := hn r3
    show M31 (r0 * v0 + r1 * v1 + r2 * v2 + r3 * v3 + (r0 * (1 * c % 31) + r1 * (0 * c % 31) + r2 * (0 * c % 31) + r3 * (0 * c % 31))) (r0 * ((v0 + c) % 31) + r1 * ((v1 + 0) % 31) + r2 * ((v2 + 0) % 31) + r3 * ((v3 + 0) % 31))
    refine (M31.add rfl (M31.add (M31.add (M31.add b0 b1) b2) b3)).trans (M31.symm ((M31.add (M31.add (M31.add a0 a1) a2) a3).trans ?_))
    rw [M31]; congr 1; omega
  · have a0 := hz r0 v0
    have a1 := mul_mod31 r1 v1 c
    have a2 := hz r2 v2
    have a3 := hz r3 v3
    have b0 := hn r0
    have b1 := ho r1
    have b2 := hn r2
    have b3 := hn r3
    show M31 (r0 * v0 + r1 * v1 + r2 * v2 + r3 * v3 + (r0 * (0 * c % 31) + r1 * (1 * c % 31) + r2 * (0 * c % 31) + r3 * (0 * c % 31))) (r0 * ((v0 + 0) % 31) + r1 * ((v1 + c) % 31) + r2 * ((v2 + 0) % 31) + r3 * ((v3 + 0) % 31))
    refine (M31.add rfl (M31.add (M31.add (M31.add b0 b1) b2) b3)).trans (M31.symm ((M31.add (M31.add (M31.add a0 a1) a2) a3).trans ?_))
    rw [M31]; congr 1; omega
  · have a0 := hz r0 v0
    have a1 := hz r1 v1
    have a2 := mul_mod31 r2 v2 c
    have a3 := hz r3 v3
    have b0 := hn r0
    have b1 := hn r1
    have b2 := ho r2
    have b3 := hn r3
    show M31 (r0 * v0 + r1 * v1 + r2 * v2 + r3 * v3 + (r0 * (0 * c % 31) + r1 * (0 * c % 31) + r2 * (1 * c % 31) + r3 * (0 * c % 31))) (r0 * ((v0 + 0) % 31) + r1 * ((v1 + 0) % 31) + r2 * ((v2 + c) % 31) + r3 * ((v3 + 0) % 31))
    refine (M31.add rfl (M31.add (M31.add (M31.add b0 b1) b2) b3)).trans (M31.symm ((M31.add (M31.add (M31.add a0 a1) a2) a3).trans ?_))
    rw [M31]; congr 1; omega
  · have a0 := hz r0 v0
    have a1 := hz r1 v1
    have a2 := hz r2 v2
    have a3 := mul_mod31 r3 v3 c
    have b0 := hn r0
    have b1 := hn r1
    have b2 := hn r2
    have b3 := ho r3
    show M31 (r0 * v0 + r1 * v1 + r2 * v2 + r3 * v3 + (r0 * (0 * c % 31) + r1 * (0 * c % 31) + r2 * (0 * c % 31) + r3 * (1 * c % 31))) (r0 * ((v0 + 0) % 31) + r1 * ((v1 + 0) % 31) + r2 * ((v2 + 0) % 31) + r3 * ((v3 + c) % 31))
    refine (M31.add rfl (M31.add (M31.add (M31.add b0 b1) b2) b3)).trans (M31.symm ((M31.add (M31.add (M31.add a0 a1) a2) a3).trans ?_))
    rw [M31]; congr 1; omega
def manyN (l : List Int) : Nat := countR (fun j => !decide (l.getD j 0 = 0)) 0 8
set_option maxRecDepth 100000 in
theorem row_key1 : ∀ i : Nat, i < 4 → ∀ c : Nat, c < 30 → 3 < manyN (patchRowF 1 ((i : Int), (c : Int) + 1)) := by decide +kernel
set_option maxRecDepth 100000 in
theorem row_key2 : ∀ i : Nat, i < 4 → ∀ c : Nat, c < 30 → 4 < manyN (patchRowF 2 ((i : Int), (c : Int) + 1)) := by decide +kernel
theorem most_cases {kind : Int} (hk : inB kind 1 2 = true) : (kind = 1 ∧ codeMost kind = 3) ∨ (kind = 2 ∧ codeMost kind = 4) := by
  rcases kind_cases hk with rfl | rfl
  · exact .inl ⟨rfl, most_key.1⟩
  · exact .inr ⟨rfl, most_key.2⟩
theorem row_most {kind : Int} (hk : inB kind 1 2 = true) {q : Pat} (hq : patchOk q = true) : codeMost kind < (manyN (patchRowF kind q) : Int) := by
  obtain ⟨i, c⟩ := q
  obtain ⟨⟨h0, h1⟩, h2, h3⟩ := patchOk_iff.1 hq
  dsimp only at h0 h1 h2 h3
  have e : (i, c) = ((i.toNat : Int), ((c - 1).toNat : Int) + 1) := by rw [Prod.mk.injEq]; omega
  rw [e]
  rcases most_cases hk with ⟨rfl, e2⟩ | ⟨rfl, e2⟩
  · have := row_key1 i.toNat (by omega) (c - 1).toNat (by omega); rw [e2]; omega
  · have := row_key2 i.toNat (by omega) (c - 1).toNat (by omega); rw [e2]; omega
/-! loop.example/keelson/laws.FnPatchRow -/
def H5 : Hint := ⟨[[(5, 0, .bool), (7, 0, .bool), (9, 0, .bool), (10, 0, .bool), (11, 0, .bool), (12, 0, .bool)]], [], [(14, [0, 1, 2, 3, 4, 5, 6, 7, 8, 9, 10, 11, 12, 13])], [], [], [], []⟩
def S5_L0 (kind5 : Int) (n11 : Int) (i12 : Int) (h0 : List Int) (h1 : List Int) (h2 : List Int) : St := ⟨[(5, .w (.one (.int .i64 kind5))), (7, .w (.one (.sl 0 none))), (9, .w (.one (.sl 1 none))), (10, .w (.one (.sl 2 none))), (11, .w (.one (.int .i64 n11))), (12, .w (.one (.int .i64 i12)))], [.row (.int .i64) h0 .own, .row (.int .i64) h1 .own, .row (.int .i64) h2 .own]⟩
theorem eq5 (code : List Int) (more : List Int) (r : List W) (lh : Heap) : FB E H5 Try.f5 [.one (.ro (.int .u8) code), .one (.ro (.int .u8) more)] [] r lh =
  (
   Br (decide ((1048576 : Int) < ((code.length : Nat) : Int))) (
    Ret r lh [.one (.bool true)] []) (
    Br (decide ((1048576 : Int) < ((more.length : Nat) : Int))) (
     Ret r lh [.one (.bool true)] []) (
     ∃ r0 : Int × Int × Int, SC P 31 [.one (.ro (.int .u8) code)] [] [.one (.int .i64 r0.1), .agg [.int .i64 r0.2.1, .int .i64 r0.2.2]] [] ∧
      ∃ r1 : List Int, SC P 32 [.one (.int .i64 r0.1), .agg [.int .i64 r0.2.1, .int .i64 r0.2.2]] [] [.one (.sl 0 none)] [.row (.int .i64) r1 .own] ∧
       ∃ r2 : List Int, SC P 34 [.one (.int .i64 r0.1), .agg [.int .i64 r0.2.1, .int .i64 r0.2.2]] [] [.one (.sl 0 none)] [.row (.int .i64) r2 .own] ∧
        ∃ r3 : Bool, SC P 33 [.one (.ro (.int .i64) r1), .one (.ro (.int .i64) r2)] [] [.one (.bool r3)] [] ∧
         Br (!r3) (
          ∃ r4 : List Int, SC P 34 [.one (.int .i64 r0.1), .agg [.int .i64 r0.2.1, .int .i64 r0.2.2]] [] [.one (.sl 0 none)] [.row (.int .i64) r4 .own] ∧
           ∃ r5 : Bool, SC P 33 [.one (.ro (.int .i64) r1), .one (.ro (.int .i64) r4)] [] [.one (.bool r5)] [] ∧
            Ret r lh [.one (.bool r5)] []) (
          Br (decide (((r1.length : Nat) : Int) = (0 : Int))) (
           ∃ r6 : List Int, SC P 34 [.one (.int .i64 r0.1), .agg [.int .i64 r0.2.1, .int .i64 r0.2.2]] [] [.one (.sl 0 none)] [.row (.int .i64) r6 .own] ∧
            ∃ r7 : Bool, SC P 33 [.one (.ro (.int .i64) r1), .one (.ro (.int .i64) r6)] [] [.one (.bool r7)] [] ∧
             Ret r lh [.one (.bool r7)] []) (
           ∃ r8 : List Int, SC P 35 [.one (.int .i64 ((more.length : Nat) : Int))] [] [.one (.sl 0 none)] [.row (.int .i64) r8 .own] ∧
            ∃ r9 : List Int, SC P 36 [.one (.int .i64 r0.1), .one (.ro (.int .i64) r8)] [] [.one (.sl 0 none)] [.row (.int .i64) r9 .own] ∧
             ∃ r10 : List Int, SC P 37 [.one (.ro (.int .i64) r8), .one (.ro (.pair (.int .i64) (.int .i64)) [(r0.2.1, r0.2.2)])] [] [.one (.sl 0 none)] [.row (.int .i64) r10 .own] ∧
              ∃ r11 : List Int, SC P 36 [.one (.int .i64 r0.1), .one (.ro (.int .i64) r10)] [] [.one (.sl 0 none)] [.row (.int .i64) r11 .own] ∧
               FL E H5 Try.f5 0 r lh 0 (S5_L0 r0.1 0 0 r1 r9 r11)))))) := by kernel_rfl
theorem eq5_L0 (kind5 : Int) (n11 : Int) (i12 : Int) (h0 : List Int) (h1 : List Int) (h2 : List Int) (r : List W) (lh : Heap) : FL1 E H5 Try.f5 0 r lh 0 (S5_L0 kind5 n11 i12 h0 h1 h2) =
  (
   Br (decide (i12 < ((h0.length : Nat) : Int))) (
    Ck (decide ((0 : Int) ≤ i12)) (
     Ck (decide (i12 < ((h2.length : Nat) : Int))) (
      Ck (Nat.ble (i12.toNat + 1) h2.length) (
       Ck (decide ((0 : Int) ≤ i12)) (
        Ck (decide (i12 < ((h1.length : Nat) : Int))) (
         Ck (Nat.ble (i12.toNat + 1) h1.length) (
          Ck (decide ((0 : Int) ≤ i12)) (
           Ck (decide (i12 < ((h0.length : Nat) : Int))) (
            Ck (Nat.ble (i12.toNat + 1) h0.length) (
             ∃ r0 : Int, SC P 38 [.one (.int .i64 (h1.getD i12.toNat 0)), .one (.int .i64 (h0.getD i12.toNat 0))] [] [.one (.int .i64 r0)] [] ∧
              Br (!(decide ((h2.getD i12.toNat 0) = r0))) (
               Ret r lh [.one (.bool false)] []) (
               Ck (decide ((0 : Int) ≤ i12)) (
                Ck (decide (i12 < ((h0.length : Nat) : Int))) (
                 Ck (Nat.ble (i12.toNat + 1) h0.length) (
                  Br (!(decide ((h0.getD i12.toNat 0) = (0 : Int)))) (
                   FL E H5 Try.f5 0 r lh 0 (S5_L0 kind5 (IntKind.wrap .i64 (n11 + 1)) (IntKind.wrap .i64 (i12 + 1)) h0 h1 h2)) (
                   FL E H5 Try.f5 0 r lh 0 (S5_L0 kind5 n11 (IntKind.wrap .i64 (i12 + 1)) h0 h1 h2)))))))))))))))) (
    ∃ r1 : Int, SC P 39 [.one (.int .i64 kind5)] [] [.one (.int .i64 r1)] [] ∧
     Ret r lh [.one (.bool (decide (r1 < n11)))] [])) := by kernel_rfl
theorem l5 (kind : Int) (row a b : List Int) (hr : row.length = 8) (ha : a.length = 8) (hb : b.length = 8) (fa : ∀ i, FOk (a.getD i 0)) (fr : ∀ i, FOk (row.getD i 0)) (hab : ∀ i, i < 8 → b.getD i 0 = (a.getD i 0 + row.getD i 0) % 31) (hmost : codeMost kind < (manyN row : Int)) :
    ∀ (n i m : Nat), i + n = 8 → m ≤ i → m + countR (fun j => !decide (row.getD j 0 = 0)) i n = manyN row → FL E H5 Try.f5 0 [.one (.bool true)] [] 0 (S5_L0 kind (m : Int) (i : Int) row a b)
  | 0, i, m, h, hm, hc => by
    rw [countR] at hc
    refine FL_of1 ?_
    rw [eq5_L0]
    exact Br_f (by omega) ⟨_, c39 kind, by rw [decide_eq_true (by omega)], rfl⟩
  | n + 1, i, m, h, hm, hc => by
    rw [countR] at hc
    have hi := hab i (by omega)
    refine FL_of1 ?_
    rw [eq5_L0, wS (i := i) (by omega), wS (i := m) (by omega)]
    simp only [Int.toNat_natCast]
    refine Br_t (by omega) (Ck_d (by omega) (Ck_d (by omega) (Ck_le (by omega) (Ck_d (by omega) (Ck_d (by omega) (Ck_le (by omega) (Ck_d (by omega) (Ck_d (by omega) (Ck_le (by omega) ⟨_, c38 _ _ (fa i) (fr i), Br_nd (fun e => absurd hi e) (fun _ => Ck_d (by omega) (Ck_d (by omega) (Ck_le (by omega) (Br_nd (fun e => ?_) (fun e => ?_)))))⟩)))))))))
    · rw [decide_eq_false e] at hc
      exact l5 kind row a b hr ha hb fa fr hab hmost n (i + 1) (m + 1) (by omega) (by omega) (by rw [← hc, show (bif !false then 1 else 0) = 1 from rfl]; omega)
    · rw [decide_eq_true e] at hc
      exact l5 kind row a b hr ha hb fa fr hab hmost n (i + 1) m (by omega) (by omega) (by rw [← hc, show (bif !true then 1 else 0) = 0 from rfl]; omega)
theorem c5 (code more : List Int) (hc : Bytes code) : SC P 5 [.one (.ro (.int .u8) code), .one (.ro (.int .u8) more)] [] [.one (.bool true)] [] := by
  refine SC_of_FB (H := H5) E_ok Try.func5 (by kernel_rfl) ?_
  rw [eq5]
  refine Br_d (fun _ => ⟨rfl, rfl⟩) (fun hcl => Br_d (fun _ => ⟨rfl, rfl⟩) (fun hml => ?_))
  obtain ⟨k, q, s0⟩ := c31 code hc
  have hx := patchRowF_len (kind := k) (p := q)
  have sE := c33 (patchRowF k q) (patchRowF k q) (by omega)
  rw [decide_eq_true rfl] at sE
  refine ⟨(k, q.1, q.2), s0, _, c32 k q, _, c34 k q, _, sE, Br_nb (fun e => by cases e) (fun _ => Br_d (fun e => ⟨_, c34 k q, _, sE, rfl, rfl⟩) (fun e => ?_))⟩
  cases hkq : inB k 1 2 && patchOk q with
  | false => rw [patchRowF, hkq] at e; exact absurd rfl e
  | true =>
    have hk := hkq
    rw [Bool.and_eq_true] at hk
    obtain ⟨hk, hq⟩ := hk
    have hrow : patchRowF k q = allF k (vtimes (unitF q.1) q.2) := by rw [patchRowF, hkq]; rfl
    obtain ⟨⟨q0, q1⟩, q2, q3⟩ := patchOk_iff.1 hq
    obtain ⟨v, hv, ev⟩ := vecOk_v (lkV_ok (more.length : Int))
    have hall : ∀ u : V4, VOk u → codeAll k u.l = allF k u := fun u hu => by rw [codeAll, hk, vecOk_l hu, vecF_l hu]; rfl
    have hpd : patchDataF v.l [q] = (addV v q.1 q.2).l := by
      rw [patchDataF, vecOk_l hv, List.all_cons, hq]
      exact addP_one hv hq
    have s1 := c35 (more.length : Int) (by omega) (by omega)
    rw [ev] at s1
    have s2 := c36 k v.l (by simp [V4.l])
    rw [hall v hv] at s2
    have s3 := c37 v.l [q] (by simp [V4.l]) (by simp)
    rw [hpd] at s3
    have s4 := c36 k (addV v q.1 q.2).l (by simp [V4.l])
    rw [hall _ (addV_ok v q.1 q.2)] at s4
    refine ⟨_, s1, _, s2, _, s3, _, s4, ?_⟩
    have hmost := row_most hk hq
    rw [hrow] at hmost ⊢
    refine l5 k _ _ _ (allF_length _ _) (allF_length _ _) (allF_length _ _) (allF_p k v).2 (allF_p k _).2 (fun i hi => ?_) hmost 8 0 0 rfl (Nat.le_refl _) (Nat.zero_add _)
    have g := fun u : V4 => allF_get k u (i := (i : Int)) (by omega) (by omega)
    simp only [Int.toNat_natCast] at g
    rw [g, g, g]
    exact dotF_addV _ v q0 q1 q.2
/-- the order that the law takes -/
def orderF (m : Nat) : List Int := mapR (fun i => ((((i : Nat) : Int) * (1 + ((m : Int) % 4) * 2) + (m : Int)) % 8)) 0 8
theorem orderF_mod (m : Nat) : orderF m = orderF (m % 8) := by
  have e : (((m % 8 : Nat) : Int)) % 4 = (m : Int) % 4 := by omega
  have e2 : ((m % 8 : Nat) : Int) = (m : Int) % 8 := by omega
  simp only [orderF, mapR, e]
  have h4 : (m : Int) % 4 = 0 ∨ (m : Int) % 4 = 1 ∨ (m : Int) % 4 = 2 ∨ (m : Int) % 4 = 3 := by omega
  rcases h4 with h | h | h | h <;> rw [h] <;> simp only [List.cons.injEq, and_true] <;> refine ⟨?_, ?_, ?_, ?_, ?_, ?_, ?_, ?_⟩ <;> omega
def firstB (kind : Int) (order : List Int) : Nat → Nat → Nat
  | _, 0 => 0
  | i, n + 1 => bif !inB (order.getD i 0) 0 7 || has (order.take i) (order.getD i 0) then 0 else
    bif bearsI kind (order.take (i + 1)) then i + 1 else firstB kind order (i + 1) n
theorem soonR_first {kind : Int} {vals order : List Int} : ∀ {n i : Nat}, 0 < firstB kind order i n → soonR kind vals order i n = (readL kind vals (order.take (firstB kind order i n)), ((firstB kind order i n : Nat) : Int), readOk kind vals (order.take (firstB kind order i n))) ∧ bearsI kind (order.take (firstB kind order i n)) = true
  | 0, i, h => absurd h (Nat.lt_irrefl 0)
  | n + 1, i, h => by
    rw [firstB] at h
    rw [soonR, firstB]
    cases h1 : !inB (order.getD i 0) 0 7 || has (order.take i) (order.getD i 0) with
    | true => rw [h1] at h; exact absurd h (Nat.lt_irrefl 0)
    | false =>
      rw [h1, cond_false] at h
      rw [cond_false, cond_false]
      cases h2 : bearsI kind (order.take (i + 1)) with
      | true => exact ⟨rfl, h2⟩
      | false =>
        rw [h2, cond_false] at h
        exact soonR_first h
def ordK (kind : Int) (top : Nat) (c : Nat) : Bool := decide (4 ≤ firstB kind (orderF c) 0 8) && decide (firstB kind (orderF c) 0 8 ≤ top) && idOk kind ((orderF c).take (firstB kind (orderF c) 0 8)) && (orderF c).all fun x => decide (0 ≤ x ∧ x ≤ 7)
set_option maxRecDepth 100000 in
theorem ord_key1 : ∀ c : Nat, c < 8 → ordK 1 5 c = true := by decide +kernel
set_option maxRecDepth 100000 in
theorem ord_key2 : ∀ c : Nat, c < 8 → ordK 2 4 c = true := by decide +kernel
theorem orderF_len (m : Nat) : (orderF m).length = 8 := rfl
/-- what is read of shards that come so -/
theorem order_soon {kind : Int} (hk : inB kind 1 2 = true) {v : V4} (hv : VOk v) (m : Nat) : ∃ y : Nat, readSoon kind (allF kind v) (orderF m) = (v.l, (y : Int), true) ∧ 4 ≤ y ∧ (y : Int) ≤ 8 - codeMost kind := by
  have hkey : ∃ top : Nat, ((top : Int) = 8 - codeMost kind) ∧ ordK kind top (m % 8) = true := by
    rcases most_cases hk with ⟨rfl, e⟩ | ⟨rfl, e⟩
    · exact ⟨5, by rw [e]; rfl, ord_key1 _ (Nat.mod_lt _ (by omega))⟩
    · exact ⟨4, by rw [e]; rfl, ord_key2 _ (Nat.mod_lt _ (by omega))⟩
  obtain ⟨top, htop, hkey⟩ := hkey
  rw [ordK, ← orderF_mod, Bool.and_eq_true, Bool.and_eq_true, Bool.and_eq_true, decide_eq_true_iff, decide_eq_true_iff, List.all_eq_true] at hkey
  obtain ⟨⟨⟨h1, h2⟩, h3⟩, h4⟩ := hkey
  obtain ⟨f1, f2⟩ := soonR_first (kind := kind) (vals := allF kind v) (order := orderF m) (n := 8) (i := 0) (by omega)
  refine ⟨firstB kind (orderF m) 0 8, ?_, h1, by omega⟩
  have hs : ShOk ((orderF m).take (firstB kind (orderF m) 0 8)) := fun x hx => of_decide_eq_true (h4 x (List.mem_of_mem_take hx))
  obtain ⟨r1, r2⟩ := all_read hv hs (by have := orderF_len m; rw [List.length_take]; omega) h3
  have hok : readOk kind (allF kind v) ((orderF m).take (firstB kind (orderF m) 0 8)) = true := by rw [readOk, f2, r1]; rfl
  rw [readSoon, hk, p_vals (allF_p kind v), Bool.and_self, cond_true, orderF_len, f1, readL, hok, r2]
  rfl
/-! loop.example/keelson/laws.FnReadOrder -/
def H7 : Hint := ⟨[[(1, 0, .bool), (5, 0, .bool), (6, 0, .bool), (7, 0, .bool), (8, 0, .bool), (9, 0, .bool)]], [], [], [], [], [], []⟩
def S7_L0 (more1 : List Int) (kind5 : Int) (d6 : List Int) (i9 : Int) (h0 : List Int) (h1 : List Int) : St := ⟨[(1, .w (.one (.ro (.int .u8) more1))), (5, .w (.one (.int .i64 kind5))), (6, .w (.one (.ro (.int .i64) d6))), (7, .w (.one (.sl 0 none))), (8, .w (.one (.sl 1 none))), (9, .w (.one (.int .i64 i9)))], [.row (.int .i64) h0 .own, .row (.int .i64) h1 .own]⟩
theorem eq7 (code : List Int) (more : List Int) (r : List W) (lh : Heap) : FB E H7 Try.f7 [.one (.ro (.int .u8) code), .one (.ro (.int .u8) more)] [] r lh =
  (
   Br (decide ((1048576 : Int) < ((code.length : Nat) : Int))) (
    Ret r lh [.one (.bool true)] []) (
    Br (decide ((1048576 : Int) < ((more.length : Nat) : Int))) (
     Ret r lh [.one (.bool true)] []) (
     ∃ r0 : Int × List Int, SC P 44 [.one (.ro (.int .u8) code)] [] [.one (.int .i64 r0.1), .one (.ro (.int .i64) r0.2)] [] ∧
      ∃ r1 : List Int, SC P 36 [.one (.int .i64 r0.1), .one (.ro (.int .i64) r0.2)] [] [.one (.sl 0 none)] [.row (.int .i64) r1 .own] ∧
       ∃ r2 : List Int, SC P 45 [.one (.int .i64 r0.1), .one (.ro (.int .i64) r0.2)] [] [.one (.sl 0 none)] [.row (.int .i64) r2 .own] ∧
        ∃ r3 : Bool, SC P 33 [.one (.ro (.int .i64) r1), .one (.ro (.int .i64) r2)] [] [.one (.bool r3)] [] ∧
         Br (!r3) (
          ∃ r4 : List Int, SC P 45 [.one (.int .i64 r0.1), .one (.ro (.int .i64) r0.2)] [] [.one (.sl 0 none)] [.row (.int .i64) r4 .own] ∧
           ∃ r5 : Bool, SC P 33 [.one (.ro (.int .i64) r1), .one (.ro (.int .i64) r4)] [] [.one (.bool r5)] [] ∧
            Ret r lh [.one (.bool r5)] []) (
          Br (decide (((r1.length : Nat) : Int) = (0 : Int))) (
           ∃ r6 : List Int, SC P 45 [.one (.int .i64 r0.1), .one (.ro (.int .i64) r0.2)] [] [.one (.sl 0 none)] [.row (.int .i64) r6 .own] ∧
            ∃ r7 : Bool, SC P 33 [.one (.ro (.int .i64) r1), .one (.ro (.int .i64) r6)] [] [.one (.bool r7)] [] ∧
             Ret r lh [.one (.bool r7)] []) (
           FL E H7 Try.f7 0 r lh 0 (S7_L0 more r0.1 r0.2 0 r1 [])))))) := by kernel_rfl
theorem eq7_L0 (more1 : List Int) (kind5 : Int) (d6 : List Int) (i9 : Int) (h0 : List Int) (h1 : List Int) (r : List W) (lh : Heap) : FL1 E H7 Try.f7 0 r lh 0 (S7_L0 more1 kind5 d6 i9 h0 h1) =
  (
   Br (decide (i9 < (8 : Int))) (
    Ck (Nat.ble ((h1.length + 1) * 8) roomy) (
     FL E H7 Try.f7 0 r lh 0 (S7_L0 more1 kind5 d6 (IntKind.wrap .i64 (i9 + 1)) h0 (h1 ++ [(Int.tmod (IntKind.wrap .i64 ((IntKind.wrap .i64 (i9 * (IntKind.wrap .i64 (1 + (IntKind.wrap .i64 ((Int.tmod ((more1.length : Nat) : Int) 4) * 2)))))) + ((more1.length : Nat) : Int))) 8)])))) (
    ∃ r0 : List Int × Int × Bool, SC P 46 [.one (.int .i64 kind5), .one (.ro (.int .i64) h0), .one (.ro (.int .i64) h1)] [] [.one (.sl 0 none), .one (.int .i64 r0.2.1), .one (.bool r0.2.2)] [.row (.int .i64) r0.1 .own] ∧
     Br r0.2.2 (
      ∃ r1 : Bool, SC P 33 [.one (.ro (.int .i64) r0.1), .one (.ro (.int .i64) d6)] [] [.one (.bool r1)] [] ∧
       Br r1 (
        Br (decide ((4 : Int) ≤ r0.2.1)) (
         ∃ r2 : Int, SC P 39 [.one (.int .i64 kind5)] [] [.one (.int .i64 r2)] [] ∧
          Ret r lh [.one (.bool (decide (r0.2.1 ≤ (IntKind.wrap .i64 (8 - r2)))))] []) (
         Ret r lh [.one (.bool false)] [])) (
        Ret r lh [.one (.bool false)] [])) (
      Ret r lh [.one (.bool false)] []))) := by kernel_rfl
theorem l7 (more : List Int) (hm : more.length ≤ 1048576) (kind : Int) (hk : inB kind 1 2 = true) (v : V4) (hv : VOk v) : ∀ (n i : Nat) (out : List Int), i + n = 8 → out.length = i → out ++ mapR (fun i => ((((i : Nat) : Int) * (1 + ((more.length : Int) % 4) * 2) + (more.length : Int)) % 8)) i n = orderF more.length →
    FL E H7 Try.f7 0 [.one (.bool true)] [] 0 (S7_L0 more kind v.l (i : Int) (allF kind v) out)
  | 0, i, out, h, ho, e => by
    rw [mapR, List.append_nil] at e
    subst e
    obtain ⟨y, e1, e2, e3⟩ := order_soon hk hv more.length
    have hal := allF_length kind v
    have hol := orderF_len more.length
    have s1 := c46 kind (allF kind v) (orderF more.length) (by omega) (by omega)
    rw [e1] at s1
    have s2 := c33 v.l v.l (by simp [V4.l])
    rw [decide_eq_true rfl] at s2
    have hcm : 3 ≤ codeMost kind ∧ codeMost kind ≤ 4 := by rcases most_cases hk with ⟨_, e⟩ | ⟨_, e⟩ <;> omega
    refine FL_of1 ?_
    rw [eq7_L0]
    refine Br_f (by omega) ⟨(v.l, (y : Int), true), s1, Br_b (fun _ => ⟨true, s2, Br_b (fun _ => Br_t (by dsimp only; omega) ⟨_, c39 kind, ?_, rfl⟩) (fun e => by cases e)⟩) (fun e => by cases e)⟩
    rw [wrap64 (by omega) (by omega), decide_eq_true e3]
  | n + 1, i, out, h, ho, e => by
    have h4 : Int.tmod (more.length : Int) 4 = (more.length : Int) % 4 := Int.tmod_eq_emod_of_nonneg (by omega)
    have hw : Int.tmod (IntKind.wrap .i64 ((IntKind.wrap .i64 ((i : Int) * (IntKind.wrap .i64 (1 + (IntKind.wrap .i64 ((Int.tmod (more.length : Int) 4) * 2)))))) + (more.length : Int))) 8 = ((i : Int) * (1 + ((more.length : Int) % 4) * 2) + (more.length : Int)) % 8 := by
      rw [h4]
      generalize hz : (more.length : Int) % 4 = z
      have hz0 : 0 ≤ z ∧ z < 4 := by omega
      rw [wrap64 (n := z * 2) (by omega) (by omega), wrap64 (n := 1 + z * 2) (by omega) (by omega)]
      have hi8 : i < 8 := by omega
      have hp : 0 ≤ (i : Int) * (1 + z * 2) ∧ (i : Int) * (1 + z * 2) ≤ 100 := by
        have : i = 0 ∨ i = 1 ∨ i = 2 ∨ i = 3 ∨ i = 4 ∨ i = 5 ∨ i = 6 ∨ i = 7 := by omega
        rcases this with rfl | rfl | rfl | rfl | rfl | rfl | rfl | rfl <;> omega
      generalize (i : Int) * (1 + z * 2) = p at hp
      rw [wrap64 (n := p) (by omega) (by omega), wrap64 (by omega) (by omega), Int.tmod_eq_emod_of_nonneg (by omega)]
    refine FL_of1 ?_
    rw [eq7_L0, wS (i := i) (by omega), hw]
    refine Br_t (by omega) (Ck_room (by omega) ?_)
    refine l7 more hm kind hk v hv n (i + 1) _ (by omega) (by simp; omega) ?_
    rw [List.append_assoc]
    rw [mapR] at e
    exact e
theorem c7 (code more : List Int) (hc : Bytes code) : SC P 7 [.one (.ro (.int .u8) code), .one (.ro (.int .u8) more)] [] [.one (.bool true)] [] := by
  refine SC_of_FB (H := H7) E_ok Try.func7 (by kernel_rfl) ?_
  rw [eq7]
  refine Br_d (fun _ => ⟨rfl, rfl⟩) (fun hcl => Br_d (fun _ => ⟨rfl, rfl⟩) (fun hml => ?_))
  obtain ⟨kind, d, hd, s0⟩ := c44 code hc
  have hal := codeAll_len (kind := kind) (d := d)
  have sE := c33 (codeAll kind d) (codeAll kind d) (by omega)
  rw [decide_eq_true rfl] at sE
  refine ⟨(kind, d), s0, _, c36 kind d (by omega), _, c45 kind d (by omega), _, sE, Br_nb (fun e => by cases e) (fun _ => Br_d (fun e => ⟨_, c45 kind d (by omega), _, sE, rfl, rfl⟩) (fun e => ?_))⟩
  rcases codeAll_cases kind d with h | ⟨hk, v, hv, rfl, h⟩
  · rw [h] at e; exact absurd rfl e
  · rw [h]
    exact l7 more (by omega) kind hk v hv 8 0 [] rfl rfl rfl
end Go.Proofs.Ytlebgbcoljnejaa.Sh
