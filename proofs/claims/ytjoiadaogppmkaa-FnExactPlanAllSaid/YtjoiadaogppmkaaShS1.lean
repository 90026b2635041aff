/- Rows reduced one by another: contracts of the reference's functions. -/
import Derived.Test.YtjoiadaogppmkaaShP2
import Derived.Test.YtjoiadaogppmkaaMaSpec
namespace Go.Proofs.Ytjoiadaogppmkaa.Sh
open Go
set_option linter.unusedVariables false
set_option linter.unusedSimpArgs false
structure RowP (n : Nat) (l : List Int) : Prop where
  len : l.length = n
  ok : ∀ j, FOk (l.getD j 0)
theorem rowP_v {v : V4} (h : VOk v) : RowP 4 v.l := ⟨rfl, vok_get h⟩
theorem mapR_len {α : Type} {f : Nat → α} : ∀ {n i : Nat}, (mapR f i n).length = n
  | 0, _ => rfl
  | n + 1, i => by rw [mapR, List.length_cons, mapR_len (n := n)]
theorem mapR_get {α : Type} {f : Nat → α} {z : α} : ∀ {n i j : Nat}, j < n → (mapR f i n).getD j z = f (i + j)
  | n + 1, i, 0, h => rfl
  | n + 1, i, j + 1, h => by
    rw [mapR]
    have := mapR_get (f := f) (z := z) (n := n) (i := i + 1) (j := j) (by omega)
    rw [show i + (j + 1) = i + 1 + j by omega, ← this]
    rfl
theorem getD_out {l : List Int} {j : Nat} (h : l.length ≤ j) : l.getD j 0 = 0 := by rw [List.getD, List.getElem?_eq_none h]; rfl
theorem mapR_ok {f : Nat → Int} {n : Nat} (h : ∀ j, FOk (f j)) : RowP n (mapR f 0 n) := by
  refine ⟨mapR_len, fun j => ?_⟩
  by_cases hj : j < n
  · rw [mapR_get hj]; exact h _
  · rw [getD_out (by rw [mapR_len]; omega)]; exact fok0
theorem sumL_ok {n : Nat} {a b : List Int} (h : RowP n a) : RowP n (sumL a b) := by rw [sumL, h.len]; exact mapR_ok fun j => fok_mod _
theorem scaleL_ok {n : Nat} {a : List Int} (h : RowP n a) (c : Int) : RowP n (scaleL a c) := by rw [scaleL, h.len]; exact mapR_ok fun j => fok_mod _
theorem lessL_ok {n : Nat} {a b : List Int} (h : RowP n a) : RowP n (lessL a b) := sumL_ok h
theorem leadL_le (v : List Int) : -1 ≤ leadL v ∧ leadL v < v.length := by
  rcases findI_spec (p := fun j => !decide (v.getD j 0 = 0)) (n := v.length) (i := 0) with ⟨h1, h2⟩ | ⟨j, h1, h2, h3, h4, h5⟩
  · rw [leadL, h1]; omega
  · rw [leadL, h3]; omega
/-! loop.example/keelson/spec.l1Inv -/
def H147 : Hint := ⟨[[(0, 0, .bool), (3, 0, .bool)]], [], [], [], [], [], []⟩
def S147_L0 (a0 : Int) (n3 : Int) : St := ⟨[(0, .w (.one (.int .i64 a0))), (3, .w (.one (.int .i64 n3)))], []⟩
theorem eq147 (a : Int) (r : List W) (lh : Heap) : FB E H147 Try.f147 [.one (.int .i64 a)] [] r lh =
  (
   FL E H147 Try.f147 0 r lh 0 (S147_L0 a 1)) := by kernel_rfl
theorem eq147_L0 (a0 : Int) (n3 : Int) (r : List W) (lh : Heap) : FL1 E H147 Try.f147 0 r lh 0 (S147_L0 a0 n3) =
  (
   Br (decide (n3 < (31 : Int))) (
    Br (decide ((Int.tmod (IntKind.wrap .i64 (a0 * n3)) 31) = (1 : Int))) (
     Ret r lh [.one (.int .i64 n3)] []) (
     FL E H147 Try.f147 0 r lh 0 (S147_L0 a0 (IntKind.wrap .i64 (n3 + 1))))) (
    Ret r lh [.one (.int .i64 0)] [])) := by kernel_rfl
theorem l147 (a : Int) (ha : FOk a) : ∀ (n i : Nat), i + n = 31 → FL E H147 Try.f147 0 [.one (.int .i64 (findR (fun j => decide (a * (j : Int) % 31 = 1)) (fun j => (j : Int)) 0 i n))] [] 0 (S147_L0 a (i : Int))
  | 0, i, h => by
    refine FL_of1 ?_
    rw [eq147_L0]
    exact Br_f (by omega) ⟨rfl, rfl⟩
  | n + 1, i, h => by
    have := fok_mul ha (b := (i : Int)) ⟨by omega, by omega⟩
    have hw := wrap64 (n := a * (i : Int)) (by omega) (by omega)
    refine FL_of1 ?_
    rw [eq147_L0, wS (i := i) (by omega), findR]
    simp only [hw]
    rw [Int.tmod_eq_emod_of_nonneg (by omega)]
    refine Br_t (by omega) (Br_d (fun h1 => ?_) (fun h1 => ?_))
    · rw [decide_eq_true h1]; exact ⟨rfl, rfl⟩
    · rw [decide_eq_false h1]; exact l147 a ha n (i + 1) (by omega)
theorem c147 (a : Int) (ha : FOk a) : SC P 147 [.one (.int .i64 a)] [] [.one (.int .i64 (invE a))] [] := by
  refine SC_of_FB (H := H147) E_ok Try.func147 (by kernel_rfl) ?_
  rw [eq147]
  exact l147 a ha 30 1 (by omega)
/-! loop.example/keelson/spec.l2Lead -/
def H127 : Hint := ⟨[[(0, 0, .bool), (3, 0, .bool)]], [], [], [], [], [], []⟩
def S127_L0 (v0 : List Int) (i3 : Int) : St := ⟨[(0, .w (.one (.ro (.int .i64) v0))), (3, .w (.one (.int .i64 i3)))], []⟩
theorem eq127 (v : List Int) (r : List W) (lh : Heap) : FB E H127 Try.f127 [.one (.ro (.int .i64) v)] [] r lh =
  (
   FL E H127 Try.f127 0 r lh 0 (S127_L0 v 0)) := by kernel_rfl
theorem eq127_L0 (v0 : List Int) (i3 : Int) (r : List W) (lh : Heap) : FL1 E H127 Try.f127 0 r lh 0 (S127_L0 v0 i3) =
  (
   Br (decide (i3 < ((v0.length : Nat) : Int))) (
    Ck (decide ((0 : Int) ≤ i3)) (
     Ck (decide (i3 < ((v0.length : Nat) : Int))) (
      Br (!(decide ((v0.getD i3.toNat 0) = (0 : Int)))) (
       Ret r lh [.one (.int .i64 i3)] []) (
       FL E H127 Try.f127 0 r lh 0 (S127_L0 v0 (IntKind.wrap .i64 (i3 + 1))))))) (
    Ret r lh [.one (.int .i64 (-1))] [])) := by kernel_rfl
theorem l127 (v : List Int) (hl : v.length ≤ 1048576) : ∀ (n i : Nat), i + n = v.length → FL E H127 Try.f127 0 [.one (.int .i64 (findR (fun j => !decide (v.getD j 0 = 0)) (fun j => (j : Int)) (-1) i n))] [] 0 (S127_L0 v (i : Int))
  | 0, i, h => by
    refine FL_of1 ?_
    rw [eq127_L0]
    exact Br_f (by omega) ⟨rfl, rfl⟩
  | n + 1, i, h => by
    refine FL_of1 ?_
    rw [eq127_L0, wS (i := i) (by omega), findR]
    simp only [Int.toNat_natCast]
    refine Br_t (by omega) (Ck_d (by omega) (Ck_d (by omega) (Br_nd (fun h1 => ?_) (fun h1 => ?_))))
    · rw [decide_eq_false h1]; exact ⟨rfl, rfl⟩
    · rw [decide_eq_true h1]; exact l127 v hl n (i + 1) (by omega)
theorem c127 (v : List Int) (hl : v.length ≤ 1048576) : SC P 127 [.one (.ro (.int .i64) v)] [] [.one (.int .i64 (leadL v))] [] := by
  refine SC_of_FB (H := H127) E_ok Try.func127 (by kernel_rfl) ?_
  rw [eq127]
  exact l127 v hl v.length 0 (by omega)
/-! loop.example/keelson/spec.l2Sum -/
def H148 : Hint := ⟨[[(0, 0, .bool), (1, 0, .bool), (5, 0, .bool), (6, 0, .bool)]], [], [(5, [0, 1, 2, 3, 4, 5, 6, 7, 8, 9, 10, 11, 12, 13])], [], [], [], []⟩
def S148_L0 (a0 : List Int) (b1 : List Int) (i6 : Int) (h0 : List Int) : St := ⟨[(0, .w (.one (.ro (.int .i64) a0))), (1, .w (.one (.ro (.int .i64) b1))), (5, .w (.one (.sl 0 none))), (6, .w (.one (.int .i64 i6)))], [.row (.int .i64) h0 .own]⟩
theorem eq148 (a : List Int) (b : List Int) (r : List W) (lh : Heap) : FB E H148 Try.f148 [.one (.ro (.int .i64) a), .one (.ro (.int .i64) b)] [] r lh =
  (
   FL E H148 Try.f148 0 r lh 0 (S148_L0 a b 0 [])) := by kernel_rfl
theorem eq148_L0 (a0 : List Int) (b1 : List Int) (i6 : Int) (h0 : List Int) (r : List W) (lh : Heap) : FL1 E H148 Try.f148 0 r lh 0 (S148_L0 a0 b1 i6 h0) =
  (
   Br (decide (i6 < ((a0.length : Nat) : Int))) (
    Ck (decide ((0 : Int) ≤ i6)) (
     Ck (decide (i6 < ((a0.length : Nat) : Int))) (
      Ck (decide ((0 : Int) ≤ i6)) (
       Ck (decide (i6 < ((b1.length : Nat) : Int))) (
        Ck (Nat.ble ((h0.length + 1) * 8) roomy) (
         FL E H148 Try.f148 0 r lh 0 (S148_L0 a0 b1 (IntKind.wrap .i64 (i6 + 1)) (h0 ++ [(Int.tmod (IntKind.wrap .i64 ((a0.getD i6.toNat 0) + (b1.getD i6.toNat 0))) 31)])))))))) (
    Ret r lh [.one (.sl 0 none)] [.row (.int .i64) h0 .own])) := by kernel_rfl
theorem l148 {m : Nat} (a b : List Int) (ha : RowP m a) (hb : RowP m b) (hm : m ≤ 1000) : ∀ (n i : Nat) (out : List Int), i + n = a.length → out.length = i → FL E H148 Try.f148 0 [.one (.sl 0 none)] [.row (.int .i64) (out ++ mapR (fun j => (a.getD j 0 + b.getD j 0) % 31) i n) .own] 0 (S148_L0 a b (i : Int) out)
  | 0, i, out, h, ho => by
    refine FL_of1 ?_
    rw [eq148_L0]
    exact Br_f (by omega) ⟨rfl, by rw [mapR, List.append_nil]⟩
  | n + 1, i, out, h, ho => by
    have h1 := ha.ok i; have h2 := hb.ok i
    have := h1.1; have := h1.2; have := h2.1; have := h2.2; have := ha.len; have := hb.len
    refine FL_of1 ?_
    rw [eq148_L0, wS (i := i) (by omega), mapR]
    simp only [Int.toNat_natCast]
    rw [wrap64 (n := a.getD i 0 + b.getD i 0) (by omega) (by omega), Int.tmod_eq_emod_of_nonneg (by omega)]
    refine Br_t (by omega) (Ck_d (by omega) (Ck_d (by omega) (Ck_d (by omega) (Ck_d (by omega) (Ck_room (by omega) ?_)))))
    have := l148 a b ha hb hm n (i + 1) (out ++ [(a.getD i 0 + b.getD i 0) % 31]) (by omega) (by simp; omega)
    rw [List.append_assoc] at this
    exact this
theorem c148 {m : Nat} (a b : List Int) (ha : RowP m a) (hb : RowP m b) (hm : m ≤ 1000) : SC P 148 [.one (.ro (.int .i64) a), .one (.ro (.int .i64) b)] [] [.one (.sl 0 none)] [.row (.int .i64) (sumL a b) .own] := by
  refine SC_of_FB (H := H148) E_ok Try.func148 (by kernel_rfl) ?_
  rw [eq148]
  exact l148 a b ha hb hm a.length 0 [] (by omega) rfl
/-! loop.example/keelson/spec.l2Scale -/
def H129 : Hint := ⟨[[(0, 0, .bool), (1, 0, .bool), (5, 0, .bool), (6, 0, .bool)]], [], [], [], [], [], []⟩
def S129_L0 (v0 : List Int) (c1 : Int) (i6 : Int) (h0 : List Int) : St := ⟨[(0, .w (.one (.ro (.int .i64) v0))), (1, .w (.one (.int .i64 c1))), (5, .w (.one (.sl 0 none))), (6, .w (.one (.int .i64 i6)))], [.row (.int .i64) h0 .own]⟩
theorem eq129 (v : List Int) (c : Int) (r : List W) (lh : Heap) : FB E H129 Try.f129 [.one (.ro (.int .i64) v), .one (.int .i64 c)] [] r lh =
  (
   FL E H129 Try.f129 0 r lh 0 (S129_L0 v c 0 [])) := by kernel_rfl
theorem eq129_L0 (v0 : List Int) (c1 : Int) (i6 : Int) (h0 : List Int) (r : List W) (lh : Heap) : FL1 E H129 Try.f129 0 r lh 0 (S129_L0 v0 c1 i6 h0) =
  (
   Br (decide (i6 < ((v0.length : Nat) : Int))) (
    Ck (decide ((0 : Int) ≤ i6)) (
     Ck (decide (i6 < ((v0.length : Nat) : Int))) (
      Ck (Nat.ble ((h0.length + 1) * 8) roomy) (
       FL E H129 Try.f129 0 r lh 0 (S129_L0 v0 c1 (IntKind.wrap .i64 (i6 + 1)) (h0 ++ [(Int.tmod (IntKind.wrap .i64 ((v0.getD i6.toNat 0) * c1)) 31)])))))) (
    Ret r lh [.one (.sl 0 none)] [.row (.int .i64) h0 .own])) := by kernel_rfl
theorem l129 {m : Nat} (v : List Int) (c : Int) (hv : RowP m v) (hc : FOk c) (hm : m ≤ 1000) : ∀ (n i : Nat) (out : List Int), i + n = v.length → out.length = i → FL E H129 Try.f129 0 [.one (.sl 0 none)] [.row (.int .i64) (out ++ mapR (fun j => v.getD j 0 * c % 31) i n) .own] 0 (S129_L0 v c (i : Int) out)
  | 0, i, out, h, ho => by
    refine FL_of1 ?_
    rw [eq129_L0]
    exact Br_f (by omega) ⟨rfl, by rw [mapR, List.append_nil]⟩
  | n + 1, i, out, h, ho => by
    have h1 := fok_mul (hv.ok i) hc
    have := hv.len
    refine FL_of1 ?_
    rw [eq129_L0, wS (i := i) (by omega), mapR]
    simp only [Int.toNat_natCast]
    rw [wrap64 (n := v.getD i 0 * c) (by omega) (by omega), Int.tmod_eq_emod_of_nonneg (by omega)]
    refine Br_t (by omega) (Ck_d (by omega) (Ck_d (by omega) (Ck_room (by omega) ?_)))
    have := l129 v c hv hc hm n (i + 1) (out ++ [v.getD i 0 * c % 31]) (by omega) (by simp; omega)
    rw [List.append_assoc] at this
    exact this
theorem c129 {m : Nat} (v : List Int) (c : Int) (hv : RowP m v) (hc : FOk c) (hm : m ≤ 1000) : SC P 129 [.one (.ro (.int .i64) v), .one (.int .i64 c)] [] [.one (.sl 0 none)] [.row (.int .i64) (scaleL v c) .own] := by
  refine SC_of_FB (H := H129) E_ok Try.func129 (by kernel_rfl) ?_
  rw [eq129]
  exact l129 v c hv hc hm v.length 0 [] (by omega) rfl
/-! loop.example/keelson/spec.l3Less -/
def H128 : Hint := ⟨[], [], [(2, [0, 1, 2, 3, 4, 5, 6, 7, 8, 9, 10, 11, 12, 13, 14, 15, 16, 17])], [], [.one (.c (.sl (.int .i64)))], [], []⟩
theorem eq128 (v : List Int) (w : List Int) (r : List W) (lh : Heap) : FB E H128 Try.f128 [.one (.ro (.int .i64) v), .one (.ro (.int .i64) w)] [] r lh =
  (
   ∃ r0 : Int, SC P 127 [.one (.ro (.int .i64) w)] [] [.one (.int .i64 r0)] [] ∧
    Ck (decide ((0 : Int) ≤ r0)) (
     Ck (decide (r0 < ((v.length : Nat) : Int))) (
      Ck (decide ((0 : Int) ≤ r0)) (
       Ck (decide (r0 < ((w.length : Nat) : Int))) (
        ∃ r1 : Int, SC P 147 [.one (.int .i64 (w.getD r0.toNat 0))] [] [.one (.int .i64 r1)] [] ∧
         ∃ r2 : List Int, SC P 129 [.one (.ro (.int .i64) w), .one (.int .i64 (Int.tmod (IntKind.wrap .i64 (31 - (Int.tmod (IntKind.wrap .i64 ((v.getD r0.toNat 0) * r1)) 31))) 31))] [] [.one (.sl 0 none)] [.row (.int .i64) r2 .own] ∧
          ∃ r3 : List Int, SC P 148 [.one (.ro (.int .i64) v), .one (.ro (.int .i64) r2)] [] [.one (.sl 0 none)] [.row (.int .i64) r3 .own] ∧
           Ret r lh [.one (.ro (.int .i64) r3)] []))))) := by kernel_rfl
theorem c128 {m : Nat} (v w : List Int) (hv : RowP m v) (hw : RowP m w) (hm : m ≤ 1000) (hl : 0 ≤ leadL w) : SC P 128 [.one (.ro (.int .i64) v), .one (.ro (.int .i64) w)] [] [.one (.ro (.int .i64) (lessL v w))] [] := by
  refine SC_of_FB (H := H128) E_ok Try.func128 (by kernel_rfl) ?_
  rw [eq128]
  have h1 := (leadL_le w).2
  have h2 := fok_mul (hv.ok (leadL w).toNat) (invE_ok (w.getD (leadL w).toNat 0))
  have h3 := fok_mod (v.getD (leadL w).toNat 0 * invE (w.getD (leadL w).toNat 0))
  have := h3.1; have := h3.2; have := hv.len; have := hw.len
  refine ⟨_, c127 w (by omega), Ck_d (by omega) (Ck_d (by omega) (Ck_d (by omega) (Ck_d (by omega) ⟨_, c147 _ (hw.ok _), ?_⟩)))⟩
  rw [wrap64 (n := v.getD (leadL w).toNat 0 * invE (w.getD (leadL w).toNat 0)) (by omega) (by omega), Int.tmod_eq_emod_of_nonneg (a := v.getD (leadL w).toNat 0 * invE (w.getD (leadL w).toNat 0)) (by omega), wrap64 (n := 31 - _) (by omega) (by omega), Int.tmod_eq_emod_of_nonneg (by omega)]
  exact ⟨_, c129 w _ hw (fok_mod _) hm, _, c148 v _ hv (scaleL_ok hw _) hm, rfl, rfl⟩
/-! loop.example/keelson/spec.l3Add -/
def H126 : Hint := ⟨[[(0, 0, .bool), (1, 0, .bool), (5, 0, .bool)], [(0, 0, .bool), (1, 1, .bool), (6, 0, .bool), (7, 0, .bool), (8, 0, .bool), (9, 0, .bool)]], [], [], [], [.one (.c (.sl (.sl (.int .i64))))], [], []⟩
def S126_L0 (tidy0 : List (List Int)) (v1 : List Int) (i5 : Int) : St := ⟨[(0, .w (.one (.ro (.sl (.int .i64)) tidy0))), (1, .w (.one (.ro (.int .i64) v1))), (5, .w (.one (.int .i64 i5)))], []⟩
def S126_L1 (tidy0 : List (List Int)) (v1 : List Int) (lead6 : Int) (put8 : Bool) (i9 : Int) (h0 : List (List Int)) : St := ⟨[(0, .w (.one (.ro (.sl (.int .i64)) tidy0))), (1, .w (.one (.ro (.int .i64) v1))), (6, .w (.one (.int .i64 lead6))), (7, .w (.one (.sl 0 none))), (8, .w (.one (.bool put8))), (9, .w (.one (.int .i64 i9)))], [.row (.sl (.int .i64)) h0 .own]⟩
theorem eq126 (tidy : List (List Int)) (v : List Int) (r : List W) (lh : Heap) : FB E H126 Try.f126 [.one (.ro (.sl (.int .i64)) tidy), .one (.ro (.int .i64) v)] [] r lh =
  (
   FL E H126 Try.f126 0 r lh 0 (S126_L0 tidy v 0)) := by kernel_rfl
theorem eq126_L0 (tidy0 : List (List Int)) (v1 : List Int) (i5 : Int) (r : List W) (lh : Heap) : FL1 E H126 Try.f126 0 r lh 0 (S126_L0 tidy0 v1 i5) =
  (
   Br (decide (i5 < ((tidy0.length : Nat) : Int))) (
    Ck (decide ((0 : Int) ≤ i5)) (
     Ck (decide (i5 < ((tidy0.length : Nat) : Int))) (
      ∃ r0 : List Int, SC P 128 [.one (.ro (.int .i64) v1), .one (.ro (.int .i64) (tidy0.getD i5.toNat []))] [] [.one (.ro (.int .i64) r0)] [] ∧
       FL E H126 Try.f126 0 r lh 0 (S126_L0 tidy0 r0 (IntKind.wrap .i64 (i5 + 1)))))) (
    ∃ r1 : Int, SC P 127 [.one (.ro (.int .i64) v1)] [] [.one (.int .i64 r1)] [] ∧
     Br (decide (r1 < (0 : Int))) (
      Ret r lh [.one (.ro (.sl (.int .i64)) tidy0)] []) (
      Ck (decide ((0 : Int) ≤ r1)) (
       Ck (decide (r1 < ((v1.length : Nat) : Int))) (
        ∃ r2 : Int, SC P 147 [.one (.int .i64 (v1.getD r1.toNat 0))] [] [.one (.int .i64 r2)] [] ∧
         ∃ r3 : List Int, SC P 129 [.one (.ro (.int .i64) v1), .one (.int .i64 r2)] [] [.one (.sl 0 none)] [.row (.int .i64) r3 .own] ∧
          FL E H126 Try.f126 0 r lh 1 (S126_L1 tidy0 r3 r1 false 0 [])))))) := by kernel_rfl
theorem eq126_L1 (tidy0 : List (List Int)) (v1 : List Int) (lead6 : Int) (put8 : Bool) (i9 : Int) (h0 : List (List Int)) (r : List W) (lh : Heap) : FL1 E H126 Try.f126 0 r lh 1 (S126_L1 tidy0 v1 lead6 put8 i9 h0) =
  (
   Br (decide (i9 < ((tidy0.length : Nat) : Int))) (
    Br (!put8) (
     Ck (decide ((0 : Int) ≤ i9)) (
      Ck (decide (i9 < ((tidy0.length : Nat) : Int))) (
       ∃ r0 : Int, SC P 127 [.one (.ro (.int .i64) (tidy0.getD i9.toNat []))] [] [.one (.int .i64 r0)] [] ∧
        Br (decide (lead6 < r0)) (
         Ck (Nat.ble ((h0.length + 1) * 24) roomy) (
          Ck (decide ((0 : Int) ≤ i9)) (
           Ck (decide (i9 < ((tidy0.length : Nat) : Int))) (
            ∃ r1 : List Int, SC P 128 [.one (.ro (.int .i64) (tidy0.getD i9.toNat [])), .one (.ro (.int .i64) v1)] [] [.one (.ro (.int .i64) r1)] [] ∧
             Ck (Nat.ble (((h0 ++ [v1]).length + 1) * 24) roomy) (
              FL E H126 Try.f126 0 r lh 1 (S126_L1 tidy0 v1 lead6 true (IntKind.wrap .i64 (i9 + 1)) ((h0 ++ [v1]) ++ [r1]))))))) (
         Ck (decide ((0 : Int) ≤ i9)) (
          Ck (decide (i9 < ((tidy0.length : Nat) : Int))) (
           ∃ r2 : List Int, SC P 128 [.one (.ro (.int .i64) (tidy0.getD i9.toNat [])), .one (.ro (.int .i64) v1)] [] [.one (.ro (.int .i64) r2)] [] ∧
            Ck (Nat.ble ((h0.length + 1) * 24) roomy) (
             FL E H126 Try.f126 0 r lh 1 (S126_L1 tidy0 v1 lead6 put8 (IntKind.wrap .i64 (i9 + 1)) (h0 ++ [r2]))))))))) (
     Ck (decide ((0 : Int) ≤ i9)) (
      Ck (decide (i9 < ((tidy0.length : Nat) : Int))) (
       ∃ r3 : List Int, SC P 128 [.one (.ro (.int .i64) (tidy0.getD i9.toNat [])), .one (.ro (.int .i64) v1)] [] [.one (.ro (.int .i64) r3)] [] ∧
        Ck (Nat.ble ((h0.length + 1) * 24) roomy) (
         FL E H126 Try.f126 0 r lh 1 (S126_L1 tidy0 v1 lead6 put8 (IntKind.wrap .i64 (i9 + 1)) (h0 ++ [r3]))))))) (
    Br (!put8) (
     Ck (Nat.ble ((h0.length + 1) * 24) roomy) (
      Ret r lh [.one (.ro (.sl (.int .i64)) (h0 ++ [v1]))] [])) (
     Ret r lh [.one (.ro (.sl (.int .i64)) h0)] []))) := by kernel_rfl
def RowsP (n : Nat) (m : List (List Int)) : Prop := ∀ l ∈ m, RowP n l
theorem rowsP_get {n : Nat} {m : List (List Int)} (h : RowsP n m) {i : Nat} (hi : i < m.length) : RowP n (m.getD i []) := by rw [getD_eq hi]; exact h _ (List.getElem_mem hi)
theorem restL_ok {n : Nat} : ∀ {t : List (List Int)} {v : List Int}, RowP n v → RowP n (restL t v)
  | [], _, h => h
  | w :: t, v, h => restL_ok (t := t) (lessL_ok h)
theorem insL_ok {n : Nat} {v : List Int} {lead : Int} (hv : RowP n v) : ∀ {t : List (List Int)} {put : Bool}, RowsP n t → RowsP n (insL v lead t put)
  | [], put, h => by
    rw [insL]
    cases put
    · intro l hl; rw [cond_false, List.mem_singleton] at hl; rw [hl]; exact hv
    · intro l hl; cases hl
  | w :: t, put, h => by
    have h1 := lessL_ok (b := v) (h w (List.mem_cons_self ..))
    have h2 : RowsP n t := fun l hl => h l (List.mem_cons_of_mem _ hl)
    rw [insL]
    cases !put && decide (lead < leadL w)
    · intro l hl
      rcases List.mem_cons.1 hl with rfl | hl
      · exact h1
      · exact insL_ok hv h2 l hl
    · intro l hl
      rcases List.mem_cons.1 hl with rfl | hl
      · exact hv
      · rcases List.mem_cons.1 hl with rfl | hl
        · exact h1
        · exact insL_ok hv h2 l hl
theorem addL_ok {n : Nat} {t : List (List Int)} {v : List Int} (ht : RowsP n t) (hv : RowP n v) : RowsP n (addL t v) := by
  rw [addL]
  cases decide (leadL (restL t v) < 0)
  · exact insL_ok (scaleL_ok (restL_ok hv) _) ht
  · exact ht
theorem insL_len {v : List Int} {lead : Int} : ∀ {t : List (List Int)} {put : Bool}, (insL v lead t put).length = t.length + (bif put then 0 else 1)
  | [], put => by rw [insL]; cases put <;> rfl
  | w :: t, put => by
    rw [insL]
    cases put
    · cases decide (lead < leadL w)
      · rw [Bool.not_false, Bool.and_false, cond_false, List.length_cons, insL_len (t := t)]; simp
      · rw [Bool.not_false, Bool.and_true, cond_true, List.length_cons, List.length_cons, insL_len (t := t)]; simp
    · rw [Bool.not_true, Bool.false_and, cond_false, List.length_cons, insL_len (t := t)]; simp
theorem addL_len {t : List (List Int)} {v : List Int} : (addL t v).length ≤ t.length + 1 := by
  rw [addL]
  cases decide (leadL (restL t v) < 0)
  · rw [cond_false, insL_len]; simp
  · rw [cond_true]; omega
theorem l126_1 (t0 : List (List Int)) (ht : RowsP 4 t0) (hl : t0.length ≤ 1000) (v : List Int) (lead : Int) (hv : RowP 4 v) (hld : 0 ≤ leadL v) : ∀ (n i : Nat) (put : Bool) (out : List (List Int)), i + n = t0.length → out.length ≤ 2 * i →
    FL E H126 Try.f126 0 [.one (.ro (.sl (.int .i64)) (out ++ insL v lead (t0.drop i) put))] [] 1 (S126_L1 t0 v lead put (i : Int) out)
  | 0, i, put, out, h, ho => by
    refine FL_of1 ?_
    rw [eq126_L1, List.drop_eq_nil_of_le (by omega), insL]
    refine Br_f (by omega) (Br_nb (fun e => ?_) (fun e => ?_))
    · rw [e]; exact Ck_room (by omega) ⟨rfl, rfl⟩
    · rw [e]; exact ⟨by rw [cond_true, List.append_nil], rfl⟩
  | n + 1, i, put, out, h, ho => by
    have hi : i < t0.length := by omega
    have hti := rowsP_get ht hi
    have hdr : t0.drop i = t0.getD i [] :: t0.drop (i + 1) := by rw [getD_eq hi]; exact drop_cons hi
    have app : ∀ (x : List Int) (r : List (List Int)), out ++ x :: r = (out ++ [x]) ++ r := by intro x r; rw [List.append_assoc]; rfl
    have app2 : ∀ (x y : List Int) (r : List (List Int)), out ++ x :: y :: r = ((out ++ [x]) ++ [y]) ++ r := by intro x y r; rw [List.append_assoc, List.append_assoc]; rfl
    have hlen := hti.len
    refine FL_of1 ?_
    rw [eq126_L1, wS (i := i) (by omega), hdr, insL]
    simp only [Int.toNat_natCast]
    refine Br_t (by omega) (Br_nb (fun e => Ck_d (by omega) (Ck_d (by omega) ⟨_, c127 _ (by omega), Br_d (fun e2 => ?_) (fun e2 => ?_)⟩)) (fun e => ?_))
    · rw [e, decide_eq_true e2, Bool.not_false, Bool.true_and, cond_true, app2]
      exact Ck_room (by omega) (Ck_d (by omega) (Ck_d (by omega) ⟨_, c128 _ v hti hv (by omega) hld, Ck_room (by simp; omega) (l126_1 t0 ht hl v lead hv hld n (i + 1) true _ (by omega) (by simp; omega))⟩))
    · rw [e, decide_eq_false e2, Bool.and_false, cond_false, app]
      exact Ck_d (by omega) (Ck_d (by omega) ⟨_, c128 _ v hti hv (by omega) hld, Ck_room (by omega) (l126_1 t0 ht hl v lead hv hld n (i + 1) false _ (by omega) (by simp; omega))⟩)
    · rw [e, Bool.not_true, Bool.false_and, cond_false, app]
      exact Ck_d (by omega) (Ck_d (by omega) ⟨_, c128 _ v hti hv (by omega) hld, Ck_room (by omega) (l126_1 t0 ht hl v lead hv hld n (i + 1) true _ (by omega) (by simp; omega))⟩)
theorem l126 (t0 : List (List Int)) (ht : RowsP 4 t0) (hl : t0.length ≤ 1000) (v0 : List Int) (hok : addOk t0 v0 = true) : ∀ (n i : Nat) (v : List Int), i + n = t0.length → RowP 4 v → restL (t0.drop i) v = restL t0 v0 →
    FL E H126 Try.f126 0 [.one (.ro (.sl (.int .i64)) (addL t0 v0))] [] 0 (S126_L0 t0 v (i : Int))
  | 0, i, v, h, hv, e => by
    rw [List.drop_eq_nil_of_le (by omega)] at e
    have e : v = restL t0 v0 := e
    have h1 := leadL_le v
    have hlen := hv.len
    refine FL_of1 ?_
    rw [eq126_L0, addL, ← e]
    rw [addOk, ← e, Bool.and_eq_true, Bool.or_eq_true, decide_eq_true_iff, decide_eq_true_iff] at hok
    refine Br_f (by omega) ⟨_, c127 v (by omega), Br_d (fun e2 => ?_) (fun e2 => ?_)⟩
    · rw [decide_eq_true e2]; exact ⟨rfl, rfl⟩
    · rw [decide_eq_false e2, cond_false]
      have hld : 0 ≤ leadL (unitL v) := by
        rcases hok.2 with h | h
        · exact absurd h e2
        · exact h
      refine Ck_d (by omega) (Ck_d (by omega) ⟨_, c147 _ (hv.ok _), _, c129 v _ hv (invE_ok _) (by omega), ?_⟩)
      have := l126_1 t0 ht hl (unitL v) (leadL v) (scaleL_ok hv _) hld t0.length 0 false [] (by omega) (by simp)
      exact this
  | n + 1, i, v, h, hv, e => by
    have hi : i < t0.length := by omega
    have hdr : t0.drop i = t0.getD i [] :: t0.drop (i + 1) := by rw [getD_eq hi]; exact drop_cons hi
    have hld : 0 ≤ leadL (t0.getD i []) := by
      rw [addOk, Bool.and_eq_true] at hok
      rw [getD_eq hi]
      exact of_decide_eq_true (List.all_eq_true.1 hok.1 _ (List.getElem_mem hi))
    rw [hdr] at e
    refine FL_of1 ?_
    rw [eq126_L0, wS (i := i) (by omega)]
    simp only [Int.toNat_natCast]
    exact Br_t (by omega) (Ck_d (by omega) (Ck_d (by omega) ⟨_, c128 v _ hv (rowsP_get ht hi) (by omega) hld, l126 t0 ht hl v0 hok n (i + 1) _ (by omega) (lessL_ok hv) e⟩))
theorem c126 (t0 : List (List Int)) (ht : RowsP 4 t0) (hl : t0.length ≤ 1000) (v : List Int) (hv : RowP 4 v) (hok : addOk t0 v = true) : SC P 126 [.one (.ro (.sl (.int .i64)) t0), .one (.ro (.int .i64) v)] [] [.one (.ro (.sl (.int .i64)) (addL t0 v))] [] := by
  refine SC_of_FB (H := H126) E_ok Try.func126 (by kernel_rfl) ?_
  rw [eq126]
  exact l126 t0 ht hl v hok t0.length 0 v (by omega) hv rfl
/-! loop.example/keelson/spec.l3Tidy -/
def H125 : Hint := ⟨[[(0, 0, .bool), (3, 1, .bool), (4, 0, .bool)]], [], [], [], [.one (.c (.sl (.sl (.int .i64))))], [], []⟩
def S125_L0 (m0 : List (List Int)) (out3 : List (List Int)) (i4 : Int) : St := ⟨[(0, .w (.one (.ro (.sl (.int .i64)) m0))), (3, .w (.one (.ro (.sl (.int .i64)) out3))), (4, .w (.one (.int .i64 i4)))], []⟩
theorem eq125 (m : List (List Int)) (r : List W) (lh : Heap) : FB E H125 Try.f125 [.one (.ro (.sl (.int .i64)) m)] [] r lh =
  (
   FL E H125 Try.f125 0 r lh 0 (S125_L0 m [] 0)) := by kernel_rfl
theorem eq125_L0 (m0 : List (List Int)) (out3 : List (List Int)) (i4 : Int) (r : List W) (lh : Heap) : FL1 E H125 Try.f125 0 r lh 0 (S125_L0 m0 out3 i4) =
  (
   Br (decide (i4 < ((m0.length : Nat) : Int))) (
    Ck (decide ((0 : Int) ≤ i4)) (
     Ck (decide (i4 < ((m0.length : Nat) : Int))) (
      ∃ r0 : List (List Int), SC P 126 [.one (.ro (.sl (.int .i64)) out3), .one (.ro (.int .i64) (m0.getD i4.toNat []))] [] [.one (.ro (.sl (.int .i64)) r0)] [] ∧
       FL E H125 Try.f125 0 r lh 0 (S125_L0 m0 r0 (IntKind.wrap .i64 (i4 + 1)))))) (
    Ret r lh [.one (.ro (.sl (.int .i64)) out3)] [])) := by kernel_rfl
theorem foldl_rowsP {m t : List (List Int)} (hm : RowsP 4 m) (ht : RowsP 4 t) : RowsP 4 (m.foldl addL t) := by
  induction m generalizing t with
  | nil => exact ht
  | cons v m ih => exact ih (fun l hl => hm l (List.mem_cons_of_mem _ hl)) (addL_ok ht (hm v (List.mem_cons_self ..)))
theorem foldl_lenL (m : List (List Int)) : ∀ (t : List (List Int)), (m.foldl addL t).length ≤ t.length + m.length := by
  induction m with
  | nil => intro t; simp
  | cons v m ih =>
    intro t
    have := ih (addL t v)
    have := addL_len (t := t) (v := v)
    rw [List.foldl_cons, List.length_cons]
    omega
theorem wellL_append : ∀ (m : List (List Int)) (t : List (List Int)) (m' : List (List Int)), wellL t (m ++ m') = (wellL t m && wellL (m.foldl addL t) m')
  | [], t, m' => by rw [List.nil_append, wellL, Bool.true_and]; rfl
  | v :: m, t, m' => by rw [List.cons_append, wellL, wellL, wellL_append m, Bool.and_assoc]; rfl
theorem l125 (m : List (List Int)) (hm : RowsP 4 m) (hl : m.length ≤ 100) : ∀ (n i : Nat) (t : List (List Int)), i + n = m.length → t.length ≤ i → RowsP 4 t → wellL t (m.drop i) = true →
    FL E H125 Try.f125 0 [.one (.ro (.sl (.int .i64)) ((m.drop i).foldl addL t))] [] 0 (S125_L0 m t (i : Int))
  | 0, i, t, h, htl, ht, hw => by
    refine FL_of1 ?_
    rw [eq125_L0, List.drop_eq_nil_of_le (by omega)]
    exact Br_f (by omega) ⟨rfl, rfl⟩
  | n + 1, i, t, h, htl, ht, hw => by
    have hi : i < m.length := by omega
    have hdr : m.drop i = m.getD i [] :: m.drop (i + 1) := by rw [getD_eq hi]; exact drop_cons hi
    have hal := addL_len (t := t) (v := m.getD i [])
    rw [hdr, wellL, Bool.and_eq_true] at hw
    refine FL_of1 ?_
    rw [eq125_L0, wS (i := i) (by omega), hdr, List.foldl_cons]
    simp only [Int.toNat_natCast]
    exact Br_t (by omega) (Ck_d (by omega) (Ck_d (by omega) ⟨_, c126 t ht (by omega) _ (rowsP_get hm hi) hw.1, l125 m hm hl n (i + 1) _ (by omega) (by omega) (addL_ok ht (rowsP_get hm hi)) hw.2⟩))
theorem c125 (m : List (List Int)) (hm : RowsP 4 m) (hl : m.length ≤ 100) (hw : wellL [] m = true) : SC P 125 [.one (.ro (.sl (.int .i64)) m)] [] [.one (.ro (.sl (.int .i64)) (tidyL m))] [] := by
  refine SC_of_FB (H := H125) E_ok Try.func125 (by kernel_rfl) ?_
  rw [eq125]
  have := l125 m hm hl m.length 0 [] (by omega) (Nat.le_refl _) (fun l h => by cases h) (by rw [List.drop_zero]; exact hw)
  rw [List.drop_zero] at this
  exact this
/-! loop.example/keelson/spec.l3Has -/
def H101 : Hint := ⟨[], [], [], [], [], [], []⟩
theorem eq101 (m : List (List Int)) (v : List Int) (r : List W) (lh : Heap) : FB E H101 Try.f101 [.one (.ro (.sl (.int .i64)) m), .one (.ro (.int .i64) v)] [] r lh =
  (
   ∃ r0 : List (List Int), SC P 125 [.one (.ro (.sl (.int .i64)) m)] [] [.one (.ro (.sl (.int .i64)) r0)] [] ∧
    ∃ r1 : List (List Int), SC P 126 [.one (.ro (.sl (.int .i64)) r0), .one (.ro (.int .i64) v)] [] [.one (.ro (.sl (.int .i64)) r1)] [] ∧
     Ret r lh [.one (.bool (decide (((r1.length : Nat) : Int) = ((r0.length : Nat) : Int))))] []) := by kernel_rfl
theorem c101 (m : List (List Int)) (v : List Int) (hm : RowsP 4 m) (hv : RowP 4 v) (hl : m.length ≤ 100) (hw : wellL [] (m ++ [v]) = true) : SC P 101 [.one (.ro (.sl (.int .i64)) m), .one (.ro (.int .i64) v)] [] [.one (.bool (hasL m v))] [] := by
  refine SC_of_FB (H := H101) E_ok Try.func101 (by kernel_rfl) ?_
  rw [eq101]
  rw [wellL_append, wellL, wellL, Bool.and_true, Bool.and_eq_true] at hw
  have := foldl_lenL m []
  rw [List.length_nil] at this
  refine ⟨_, c125 m hm hl hw.1, _, c126 (tidyL m) (foldl_rowsP hm (fun l h => by cases h)) (by rw [tidyL]; omega) v hv hw.2, ?_, rfl⟩
  rw [hasL]
  congr 3
  exact decide_eq_decide.2 (by omega)
/-! loop.example/keelson/spec.l3First -/
def H130 : Hint := ⟨[[(0, 0, .bool), (3, 0, .bool), (4, 0, .bool)]], [], [(5, [0, 1, 2, 3, 4, 5, 6, 7, 8])], [], [], [], []⟩
def S130_L0 (m0 : List (List Int)) (i4 : Int) (h0 : List Int) : St := ⟨[(0, .w (.one (.ro (.sl (.int .i64)) m0))), (3, .w (.one (.sl 0 none))), (4, .w (.one (.int .i64 i4)))], [.row (.int .i64) h0 .own]⟩
theorem eq130 (m : List (List Int)) (r : List W) (lh : Heap) : FB E H130 Try.f130 [.one (.ro (.sl (.int .i64)) m)] [] r lh =
  (
   FL E H130 Try.f130 0 r lh 0 (S130_L0 m 0 [])) := by kernel_rfl
theorem eq130_L0 (m0 : List (List Int)) (i4 : Int) (h0 : List Int) (r : List W) (lh : Heap) : FL1 E H130 Try.f130 0 r lh 0 (S130_L0 m0 i4 h0) =
  (
   Br (decide (i4 < ((m0.length : Nat) : Int))) (
    Ck (decide ((0 : Int) ≤ i4)) (
     Ck (decide (i4 ≤ ((m0.length : Nat) : Int))) (
      Ck (decide (((m0.length : Nat) : Int) ≤ ((m0.length : Nat) : Int))) (
       Ck (decide ((0 : Int) ≤ i4)) (
        Ck (decide (i4 < ((m0.length : Nat) : Int))) (
         ∃ r0 : Bool, SC P 101 [.one (.ro (.sl (.int .i64)) ((m0.drop 0).take (i4.toNat - 0))), .one (.ro (.int .i64) (m0.getD i4.toNat []))] [] [.one (.bool r0)] [] ∧
          Br (!r0) (
           Ck (Nat.ble ((h0.length + 1) * 8) roomy) (
            FL E H130 Try.f130 0 r lh 0 (S130_L0 m0 (IntKind.wrap .i64 (i4 + 1)) (h0 ++ [i4])))) (
           FL E H130 Try.f130 0 r lh 0 (S130_L0 m0 (IntKind.wrap .i64 (i4 + 1)) h0)))))))) (
    Ret r lh [.one (.sl 0 none)] [.row (.int .i64) h0 .own])) := by kernel_rfl
theorem wellL_take {m : List (List Int)} (h : wellL [] m = true) (i : Nat) : wellL [] (m.take i) = true := by
  have := wellL_append (m.take i) [] (m.drop i)
  rw [List.take_append_drop, h] at this
  exact (Bool.and_eq_true _ _ ▸ this.symm : _ ∧ _).1
theorem l130 (m : List (List Int)) (hm : RowsP 4 m) (hl : m.length ≤ 100) (hw : wellL [] m = true) : ∀ (n i : Nat) (out : List Int), i + n = m.length → out.length ≤ i →
    FL E H130 Try.f130 0 [.one (.sl 0 none)] [.row (.int .i64) (out ++ filterR (fun i => !hasL (m.take i) (m.getD i [])) (fun i => (i : Int)) i n) .own] 0 (S130_L0 m (i : Int) out)
  | 0, i, out, h, ho => by
    refine FL_of1 ?_
    rw [eq130_L0]
    exact Br_f (by omega) ⟨rfl, by rw [filterR, List.append_nil]⟩
  | n + 1, i, out, h, ho => by
    have hi : i < m.length := by omega
    have hw' : wellL [] (m.take i ++ [m.getD i []]) = true := by
      rw [getD_eq hi, ← take_succ' hi]; exact wellL_take hw _
    refine FL_of1 ?_
    rw [eq130_L0, wS (i := i) (by omega), filterR]
    simp only [Int.toNat_natCast, List.drop_zero, Nat.sub_zero]
    refine Br_t (by omega) (Ck_d (by omega) (Ck_d (by omega) (Ck_d (by omega) (Ck_d (by omega) (Ck_d (by omega) ⟨_, c101 (m.take i) _ (fun l hl => hm l (List.mem_of_mem_take hl)) (rowsP_get hm hi) (by simp; omega) hw', Br_nb (fun e => ?_) (fun e => ?_)⟩)))))
    · rw [e, Bool.not_false, cond_true]
      have := l130 m hm hl hw n (i + 1) (out ++ [(i : Int)]) (by omega) (by simp; omega)
      rw [List.append_assoc] at this
      exact Ck_room (by omega) this
    · rw [e, Bool.not_true, cond_false]
      exact l130 m hm hl hw n (i + 1) out (by omega) (by omega)
theorem c130 (m : List (List Int)) (hm : RowsP 4 m) (hl : m.length ≤ 100) (hw : wellL [] m = true) : SC P 130 [.one (.ro (.sl (.int .i64)) m)] [] [.one (.sl 0 none)] [.row (.int .i64) (firstL m) .own] := by
  refine SC_of_FB (H := H130) E_ok Try.func130 (by kernel_rfl) ?_
  rw [eq130]
  exact l130 m hm hl hw m.length 0 [] (by omega) (Nat.le_refl _)
/-! loop.example/keelson/spec.l3By -/
def H102 : Hint := ⟨[[(0, 0, .bool), (1, 0, .bool), (6, 0, .bool), (7, 0, .bool)], [(6, 0, .bool), (9, 1, .bool), (10, 0, .bool)], [(6, 0, .bool), (9, 0, .bool), (10, 0, .bool), (11, 0, .bool)], [(6, 0, .bool), (9, 0, .bool), (10, 0, .bool), (11, 0, .bool), (12, 0, .bool)]], [], [(20, [0, 1, 2, 3, 4, 5, 6, 7, 8, 9, 10, 11, 12])], [], [], [], []⟩
def S102_L0 (m0 : List (List Int)) (v1 : List Int) (i7 : Int) (h0 : List (List Int)) : St := ⟨[(0, .w (.one (.ro (.sl (.int .i64)) m0))), (1, .w (.one (.ro (.int .i64) v1))), (6, .w (.one (.sl 0 none))), (7, .w (.one (.int .i64 i7)))], [.row (.sl (.int .i64)) h0 .own]⟩
def S102_L1 (rest9 : List Int) (x10 : Int) (h0 : List (List Int)) : St := ⟨[(6, .w (.one (.sl 0 none))), (9, .w (.one (.ro (.int .i64) rest9))), (10, .w (.one (.int .i64 x10)))], [.row (.sl (.int .i64)) h0 .own]⟩
def S102_L2 (rest9 : List Int) (x10 : Int) (i11 : Int) (h0 : List (List Int)) : St := ⟨[(6, .w (.one (.sl 0 none))), (9, .w (.one (.ro (.int .i64) rest9))), (10, .w (.one (.int .i64 x10))), (11, .w (.one (.int .i64 i11)))], [.row (.sl (.int .i64)) h0 .own]⟩
def S102_L3 (rest9 : List Int) (x10 : Int) (i11 : Int) (k12 : Int) (h0 : List (List Int)) : St := ⟨[(6, .w (.one (.sl 0 none))), (9, .w (.one (.ro (.int .i64) rest9))), (10, .w (.one (.int .i64 x10))), (11, .w (.one (.int .i64 i11))), (12, .w (.one (.int .i64 k12)))], [.row (.sl (.int .i64)) h0 .own]⟩
theorem eq102 (m : List (List Int)) (v : List Int) (r : List W) (lh : Heap) : FB E H102 Try.f102 [.one (.ro (.sl (.int .i64)) m), .one (.ro (.int .i64) v)] [] r lh =
  (
   FL E H102 Try.f102 0 r lh 0 (S102_L0 m v 0 [])) := by kernel_rfl
theorem eq102_L0 (m0 : List (List Int)) (v1 : List Int) (i7 : Int) (h0 : List (List Int)) (r : List W) (lh : Heap) : FL1 E H102 Try.f102 0 r lh 0 (S102_L0 m0 v1 i7 h0) =
  (
   Br (decide (i7 < ((m0.length : Nat) : Int))) (
    Ck (decide ((0 : Int) ≤ ((m0.length : Nat) : Int))) (
     Ck (decide (((m0.length : Nat) : Int) ≤ ((m0.length : Nat) : Int))) (
      Ck (decide (((m0.length : Nat) : Int) * (8 : Nat) ≤ (roomy : Int))) (
       Ck (decide ((0 : Int) ≤ i7)) (
        Ck (decide (i7 < (((List.replicate (((m0.length : Nat) : Int).toNat) (0 : Int)).length : Nat) : Int))) (
         Ck (Nat.ble (i7.toNat + 1) ((List.replicate (((m0.length : Nat) : Int).toNat) (0 : Int)).length)) (
          Ck (decide ((0 : Int) ≤ i7)) (
           Ck (decide (i7 < ((m0.length : Nat) : Int))) (
            Ck (Nat.ble ((0 + (m0.getD i7.toNat []).length) * 8) roomy) (
             Ck (Nat.ble ((([] ++ (m0.getD i7.toNat [])).length + ((List.replicate (((m0.length : Nat) : Int).toNat) (0 : Int)).set i7.toNat 1).length) * 8) roomy) (
              Ck (Nat.ble ((h0.length + 1) * 24) roomy) (
               FL E H102 Try.f102 0 r lh 0 (S102_L0 m0 v1 (IntKind.wrap .i64 (i7 + 1)) (h0 ++ [(([] ++ (m0.getD i7.toNat [])) ++ ((List.replicate (((m0.length : Nat) : Int).toNat) (0 : Int)).set i7.toNat 1))])))))))))))))) (
    Ck (Nat.ble ((0 + v1.length) * 8) roomy) (
     Ck (decide ((0 : Int) ≤ ((m0.length : Nat) : Int))) (
      Ck (Nat.ble ((([] ++ v1).length + (List.replicate (((m0.length : Nat) : Int).toNat) (0 : Int)).length) * 8) roomy) (
       FL E H102 Try.f102 0 r lh 1 (S102_L1 (([] ++ v1) ++ (List.replicate (((m0.length : Nat) : Int).toNat) (0 : Int))) 0 h0)))))) := by kernel_rfl
theorem eq102_L1 (rest9 : List Int) (x10 : Int) (h0 : List (List Int)) (r : List W) (lh : Heap) : FL1 E H102 Try.f102 0 r lh 1 (S102_L1 rest9 x10 h0) =
  (
   Br (decide (x10 < (4 : Int))) (
    FL E H102 Try.f102 0 r lh 2 (S102_L2 rest9 x10 0 h0)) (
    ∃ r0 : Int, SC P 127 [.one (.ro (.int .i64) rest9)] [] [.one (.int .i64 r0)] [] ∧
     ∃ r1 : Bool, SC P 51 [.one (.int .i64 r0), .one (.int .i64 0), .one (.int .i64 3)] [] [.one (.bool r1)] [] ∧
      Br r1 (
       Ret r lh [.one (.sl 0 none), .one (.bool false)] [.row (.int .i64) [] .own]) (
       Ck (decide ((4 : Int) ≤ ((rest9.length : Nat) : Int))) (
        Ck (decide (((rest9.length : Nat) : Int) ≤ ((rest9.length : Nat) : Int))) (
         Ck (decide (((rest9.length : Nat) : Int) ≤ ((rest9.length : Nat) : Int))) (
          ∃ r2 : List Int, SC P 129 [.one (.ro (.int .i64) ((rest9.drop 4).take (((rest9.length : Nat) : Int).toNat - 4))), .one (.int .i64 30)] [] [.one (.sl 0 none)] [.row (.int .i64) r2 .own] ∧
           Ret r lh [.one (.sl 0 none), .one (.bool true)] [.row (.int .i64) r2 .own])))))) := by kernel_rfl
theorem eq102_L2 (rest9 : List Int) (x10 : Int) (i11 : Int) (h0 : List (List Int)) (r : List W) (lh : Heap) : FL1 E H102 Try.f102 0 r lh 2 (S102_L2 rest9 x10 i11 h0) =
  (
   Br (decide (i11 < ((h0.length : Nat) : Int))) (
    Ck (decide ((0 : Int) ≤ i11)) (
     Ck (decide (i11 < ((h0.length : Nat) : Int))) (
      Ck (Nat.ble (i11.toNat + 1) h0.length) (
       ∃ r0 : Int, SC P 127 [.one (.ro (.int .i64) (h0.getD i11.toNat []))] [] [.one (.int .i64 r0)] [] ∧
        Br (decide (r0 = x10)) (
         FL E H102 Try.f102 0 r lh 3 (S102_L3 rest9 x10 i11 0 h0)) (
         FL E H102 Try.f102 0 r lh 2 (S102_L2 rest9 x10 (IntKind.wrap .i64 (i11 + 1)) h0)))))) (
    FL E H102 Try.f102 0 r lh 1 (S102_L1 rest9 (IntKind.wrap .i64 (x10 + 1)) h0))) := by kernel_rfl
theorem eq102_L3 (rest9 : List Int) (x10 : Int) (i11 : Int) (k12 : Int) (h0 : List (List Int)) (r : List W) (lh : Heap) : FL1 E H102 Try.f102 0 r lh 3 (S102_L3 rest9 x10 i11 k12 h0) =
  (
   Br (decide (k12 < ((h0.length : Nat) : Int))) (
    Br (!(decide (k12 = i11))) (
     Ck (decide ((0 : Int) ≤ k12)) (
      Ck (decide (k12 < ((h0.length : Nat) : Int))) (
       Ck (Nat.ble (k12.toNat + 1) h0.length) (
        Ck (decide ((0 : Int) ≤ x10)) (
         Ck (decide (x10 < (((h0.getD k12.toNat []).length : Nat) : Int))) (
          Br (!(decide (((h0.getD k12.toNat []).getD x10.toNat 0) = (0 : Int)))) (
           Ck (decide ((0 : Int) ≤ k12)) (
            Ck (decide (k12 < ((h0.length : Nat) : Int))) (
             Ck (Nat.ble (k12.toNat + 1) h0.length) (
              Ck (decide ((0 : Int) ≤ i11)) (
               Ck (decide (i11 < ((h0.length : Nat) : Int))) (
                Ck (Nat.ble (i11.toNat + 1) h0.length) (
                 ∃ r0 : List Int, SC P 128 [.one (.ro (.int .i64) (h0.getD k12.toNat [])), .one (.ro (.int .i64) (h0.getD i11.toNat []))] [] [.one (.ro (.int .i64) r0)] [] ∧
                  Ck (decide ((0 : Int) ≤ k12)) (
                   Ck (decide (k12 < ((h0.length : Nat) : Int))) (
                    Ck (Nat.ble (k12.toNat + 1) h0.length) (
                     FL E H102 Try.f102 0 r lh 3 (S102_L3 rest9 x10 i11 (IntKind.wrap .i64 (k12 + 1)) (h0.set k12.toNat r0)))))))))))) (
           FL E H102 Try.f102 0 r lh 3 (S102_L3 rest9 x10 i11 (IntKind.wrap .i64 (k12 + 1)) h0)))))))) (
     FL E H102 Try.f102 0 r lh 3 (S102_L3 rest9 x10 i11 (IntKind.wrap .i64 (k12 + 1)) h0))) (
    Ck (decide ((0 : Int) ≤ i11)) (
     Ck (decide (i11 < ((h0.length : Nat) : Int))) (
      Ck (Nat.ble (i11.toNat + 1) h0.length) (
       ∃ r1 : List Int, SC P 128 [.one (.ro (.int .i64) rest9), .one (.ro (.int .i64) (h0.getD i11.toNat []))] [] [.one (.ro (.int .i64) r1)] [] ∧
        FL E H102 Try.f102 0 r lh 1 (S102_L1 r1 (IntKind.wrap .i64 (x10 + 1)) h0)))))) := by kernel_rfl
theorem byKL_ok {N : Nat} {i lead : Nat} : ∀ {n k : Nat} {rows : List (List Int)}, RowsP N rows → RowsP N (byKL i lead k n rows)
  | 0, _, _, h => h
  | n + 1, k, rows, h => by
    rw [byKL]
    refine byKL_ok ?_
    by_cases hk : k < rows.length
    · cases !decide (k = i) && !decide ((rows.getD k []).getD lead 0 = 0)
      · exact h
      · intro l hl
        rcases List.mem_or_eq_of_mem_set hl with h' | rfl
        · exact h l h'
        · exact lessL_ok (rowsP_get h hk)
    · cases !decide (k = i) && !decide ((rows.getD k []).getD lead 0 = 0)
      · exact h
      · rw [cond_true, List.set_eq_of_length_le (by omega)]; exact h
theorem byKL_len {i lead : Nat} : ∀ {n k : Nat} {rows : List (List Int)}, (byKL i lead k n rows).length = rows.length
  | 0, _, _ => rfl
  | n + 1, k, rows => by
    rw [byKL, byKL_len]
    cases !decide (k = i) && !decide ((rows.getD k []).getD lead 0 = 0)
    · rfl
    · rw [cond_true, List.length_set]
theorem byIL_ok {N lead m : Nat} : ∀ {n i : Nat} {s : List (List Int) × List Int}, RowsP N s.1 → RowP N s.2 → RowsP N (byIL lead m i n s).1 ∧ RowP N (byIL lead m i n s).2 ∧ (byIL lead m i n s).1.length = s.1.length
  | 0, _, _, h1, h2 => ⟨h1, h2, rfl⟩
  | n + 1, i, s, h1, h2 => by
    rw [byIL]
    cases decide (leadL (s.1.getD i []) = (lead : Int))
    · exact byIL_ok h1 h2
    · exact ⟨byKL_ok h1, lessL_ok h2, byKL_len⟩
theorem l102_3 (R : List W) (hp : Heap) {N : Nat} (hN : 4 ≤ N ∧ N ≤ 100) (rest : List Int) (hrest : RowP N rest) (lead i m : Nat) (h4 : lead < 4) (hi : i < m) (hm : m ≤ 8) : ∀ (n k : Nat) (rows : List (List Int)), k + n = m → rows.length = m → RowsP N rows → leadL (rows.getD i []) = (lead : Int) →
    FL E H102 Try.f102 0 R hp 1 (S102_L1 (lessL rest ((byKL i lead k n rows).getD i [])) ((lead + 1 : Nat) : Int) (byKL i lead k n rows)) → FL E H102 Try.f102 0 R hp 3 (S102_L3 rest (lead : Int) (i : Int) (k : Int) rows)
  | 0, k, rows, h, hl, hr, hd, hF => by
    refine FL_of1 ?_
    rw [eq102_L3, wS (i := lead) (by omega)]
    simp only [Int.toNat_natCast]
    exact Br_f (by omega) (Ck_d (by omega) (Ck_d (by omega) (Ck_le (by omega) ⟨_, c128 rest _ hrest (rowsP_get hr (by omega)) (by omega) (by omega), hF⟩)))
  | n + 1, k, rows, h, hl, hr, hd, hF => by
    have hk : k < rows.length := by omega
    have hrk := rowsP_get hr hk
    have hlen := hrk.len
    refine FL_of1 ?_
    rw [eq102_L3, wS (i := k) (by omega)]
    simp only [Int.toNat_natCast]
    rw [byKL] at hF
    refine Br_t (by omega) (Br_nd (fun e => Ck_d (by omega) (Ck_d (by omega) (Ck_le (by omega) (Ck_d (by omega) (Ck_d (by omega) (Br_nd (fun e2 => ?_) (fun e2 => ?_))))))) (fun e => ?_))
    · have hki : k ≠ i := by omega
      rw [decide_eq_false hki, decide_eq_false e2, Bool.not_false, Bool.true_and, cond_true] at hF
      refine Ck_d (by omega) (Ck_d (by omega) (Ck_le (by omega) (Ck_d (by omega) (Ck_d (by omega) (Ck_le (by omega) ⟨_, c128 _ _ hrk (rowsP_get hr (by omega)) (by omega) (by omega), Ck_d (by omega) (Ck_d (by omega) (Ck_le (by omega) ?_))⟩)))))
      refine l102_3 R hp hN rest hrest lead i m h4 hi hm n (k + 1) _ (by omega) (by rw [List.length_set]; exact hl) ?_ ?_ hF
      · intro l hl'
        rcases List.mem_or_eq_of_mem_set hl' with h' | rfl
        · exact hr l h'
        · exact lessL_ok hrk
      · have : (rows.set k (lessL (rows.getD k []) (rows.getD i []))).getD i [] = rows.getD i [] := by rw [List.getD, List.getElem?_set_ne hki]; rfl
        rw [this]; exact hd
    · rw [decide_eq_true e2, Bool.not_true, Bool.and_false, cond_false] at hF
      exact l102_3 R hp hN rest hrest lead i m h4 hi hm n (k + 1) _ (by omega) hl hr hd hF
    · rw [decide_eq_true (show k = i by omega), Bool.not_true, Bool.false_and, cond_false] at hF
      exact l102_3 R hp hN rest hrest lead i m h4 hi hm n (k + 1) _ (by omega) hl hr hd hF
theorem l102_2 (R : List W) (hp : Heap) {N : Nat} (hN : 4 ≤ N ∧ N ≤ 100) (lead m : Nat) (h4 : lead < 4) (hm : m ≤ 8) : ∀ (n i : Nat) (rows : List (List Int)) (rest : List Int), i + n = m → rows.length = m → RowsP N rows → RowP N rest →
    FL E H102 Try.f102 0 R hp 1 (S102_L1 (byIL lead m i n (rows, rest)).2 ((lead + 1 : Nat) : Int) (byIL lead m i n (rows, rest)).1) → FL E H102 Try.f102 0 R hp 2 (S102_L2 rest (lead : Int) (i : Int) rows)
  | 0, i, rows, rest, h, hl, hr, hrest, hF => by
    refine FL_of1 ?_
    rw [eq102_L2, wS (i := lead) (by omega)]
    exact Br_f (by omega) hF
  | n + 1, i, rows, rest, h, hl, hr, hrest, hF => by
    have hi : i < rows.length := by omega
    have hri := rowsP_get hr hi
    have hlen := hri.len
    refine FL_of1 ?_
    rw [eq102_L2, wS (i := i) (by omega)]
    simp only [Int.toNat_natCast]
    rw [byIL] at hF
    refine Br_t (by omega) (Ck_d (by omega) (Ck_d (by omega) (Ck_le (by omega) ⟨_, c127 _ (by omega), Br_d (fun e => ?_) (fun e => ?_)⟩)))
    · rw [show decide (leadL ((rows, rest).1.getD i []) = (lead : Int)) = true from decide_eq_true e, cond_true] at hF
      exact l102_3 R hp hN rest hrest lead i m h4 (by omega) hm m 0 rows (Nat.zero_add _) hl hr e hF
    · rw [show decide (leadL ((rows, rest).1.getD i []) = (lead : Int)) = false from decide_eq_false e, cond_false] at hF
      exact l102_2 R hp hN lead m h4 hm n (i + 1) rows rest (by omega) hl hr hrest hF
theorem l102_1 {N : Nat} (m : Nat) (hN : N = 4 + m) (hm : m ≤ 8) : ∀ (n a : Nat) (rows : List (List Int)) (rest : List Int), a + n = 4 → rows.length = m → RowsP N rows → RowP N rest →
    FL E H102 Try.f102 0 [.one (.sl 0 none), .one (.bool (!inB (leadL (byAL m a n (rows, rest)).2) 0 3))] [.row (.int .i64) (bif !inB (leadL (byAL m a n (rows, rest)).2) 0 3 then scaleL ((byAL m a n (rows, rest)).2.drop 4) 30 else []) .own] 1 (S102_L1 rest (a : Int) rows)
  | 0, a, rows, rest, h, hl, hr, hrest => by
    have hlen := hrest.len
    refine FL_of1 ?_
    rw [eq102_L1, byAL]
    refine Br_f (by omega) ⟨_, c127 rest (by omega), _, c51 _ _ _, Br_b (fun e => ?_) (fun e => ?_)⟩
    · rw [show inB (leadL (rows, rest).2) 0 3 = true from e]; exact ⟨rfl, rfl⟩
    · rw [show inB (leadL (rows, rest).2) 0 3 = false from e]
      have e2 : (rest.drop 4).take ((rest.length : Int).toNat - 4) = rest.drop 4 := List.take_of_length_le (by simp)
      rw [e2]
      have hdr : RowP m (rest.drop 4) := by
        refine ⟨by rw [List.length_drop]; omega, fun j => ?_⟩
        rw [List.getD, List.getElem?_drop]
        exact hrest.ok (4 + j)
      exact Ck_d (by omega) (Ck_d (by omega) (Ck_d (by omega) ⟨_, c129 _ 30 hdr ⟨by omega, by omega⟩ (by omega), rfl, rfl⟩))
  | n + 1, a, rows, rest, h, hl, hr, hrest => by
    refine FL_of1 ?_
    rw [eq102_L1, byAL]
    refine Br_t (by omega) ?_
    obtain ⟨g1, g2, g3⟩ := byIL_ok (lead := a) (m := m) (n := m) (i := 0) (s := (rows, rest)) hr hrest
    exact l102_2 _ _ ⟨by omega, by omega⟩ a m (by omega) hm m 0 rows rest (Nat.zero_add _) hl hr hrest (l102_1 m hN hm n (a + 1) _ _ (by omega) (by rw [g3]; exact hl) g1 g2)
theorem rep_set (n i j : Nat) : FOk (((List.replicate n (0 : Int)).set i 1).getD j 0) := by
  rw [List.getD, List.getElem?_set]
  split
  · split
    · exact ⟨by decide, by decide⟩
    · exact fok0
  · rw [List.getElem?_replicate]
    split
    · exact fok0
    · exact fok0
theorem rowP_app {n m : Nat} {a b : List Int} (ha : RowP n a) (hb : RowP m b) : RowP (n + m) (a ++ b) := by
  refine ⟨by rw [List.length_append, ha.len, hb.len], fun j => ?_⟩
  rw [List.getD, List.getElem?_append]
  split
  · exact ha.ok j
  · exact hb.ok _
theorem l102 (m : List (List Int)) (v : List Int) (hm : RowsP 4 m) (hv : RowP 4 v) (h8 : m.length ≤ 8) : ∀ (n i : Nat) (out : List (List Int)), i + n = m.length → out.length = i → RowsP (4 + m.length) out → out ++ mapR (fun i => m.getD i [] ++ (List.replicate m.length 0).set i 1) i n = (byStart m v).1 →
    FL E H102 Try.f102 0 [.one (.sl 0 none), .one (.bool (byOk m v))] [.row (.int .i64) (byL m v) .own] 0 (S102_L0 m v (i : Int) out)
  | 0, i, out, h, ho, hr, e => by
    rw [mapR, List.append_nil] at e
    have hlen := hv.len
    refine FL_of1 ?_
    rw [eq102_L0]
    simp only [Int.toNat_natCast, List.length_replicate, List.nil_append]
    refine Br_f (by omega) (Ck_room (by omega) (Ck_d (by omega) (Ck_room (by omega) ?_)))
    have := l102_1 m.length rfl h8 4 0 out (v ++ List.replicate m.length 0) rfl (by omega) hr (rowP_app hv ⟨List.length_replicate, fun j => by
      rw [List.getD, List.getElem?_replicate]
      split <;> exact fok0⟩)
    rw [e] at this ⊢
    exact this
  | n + 1, i, out, h, ho, hr, e => by
    have hi : i < m.length := by omega
    have hmi := rowsP_get hm hi
    have hlen := hmi.len
    refine FL_of1 ?_
    rw [eq102_L0, wS (i := i) (by omega)]
    simp only [Int.toNat_natCast, List.length_replicate, List.nil_append, List.length_set]
    rw [mapR] at e
    refine Br_t (by omega) (Ck_d (by omega) (Ck_d (by omega) (Ck_roomI (by omega) (Ck_d (by omega) (Ck_d (by omega) (Ck_le (by omega) (Ck_d (by omega) (Ck_d (by omega) (Ck_room (by omega) (Ck_room (by omega) (Ck_room (by omega) ?_)))))))))))
    refine l102 m v hm hv h8 n (i + 1) _ (by omega) (by simp; omega) ?_ (by rw [List.append_assoc]; exact e)
    intro l hl
    rcases List.mem_append.1 hl with hl | hl
    · exact hr l hl
    · rw [List.mem_singleton] at hl
      rw [hl]
      exact rowP_app hmi ⟨by rw [List.length_set, List.length_replicate], fun j => rep_set _ _ _⟩
theorem c102 (m : List (List Int)) (v : List Int) (hm : RowsP 4 m) (hv : RowP 4 v) (h8 : m.length ≤ 8) : SC P 102 [.one (.ro (.sl (.int .i64)) m), .one (.ro (.int .i64) v)] [] [.one (.sl 0 none), .one (.bool (byOk m v))] [.row (.int .i64) (byL m v) .own] := by
  refine SC_of_FB (H := H102) E_ok Try.func102 (by kernel_rfl) ?_
  rw [eq102]
  exact l102 m v hm hv h8 m.length 0 [] (by omega) rfl (fun l h => by cases h) rfl
end Go.Proofs.Ytjoiadaogppmkaa.Sh
