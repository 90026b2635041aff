/- Patches: contracts, and the exact laws on them. -/
import Derived.Test.YthehpbbibfallaaShP1
namespace Go.Proofs.Ythehpbbibfallaa.Sh
open Go
set_option linter.unusedVariables false
set_option linter.unusedSimpArgs false
/-! loop.example/keelson/laws.toIntS -/
def H31 : Hint := ⟨[[(0, 0, .bool), (3, 0, .bool), (4, 0, .bool)]], [], [], [], [], []⟩
def S31_L0 (a0 : List Int) (i4 : Int) (h0 : List Int) : St := ⟨[(0, .w (.one (.ro (.int .i64) a0))), (3, .w (.one (.sl 0 none))), (4, .w (.one (.int .i64 i4)))], [.row (.int .i64) h0 .own]⟩
theorem eq31 (a : List Int) (r : List W) (lh : Heap) : FB E H31 Try.f31 [.one (.ro (.int .i64) a)] [] r lh =
  (
   Ck (decide ((0 : Int) ≤ ((a.length : Nat) : Int))) (
    Ck (decide (((a.length : Nat) : Int) ≤ ((a.length : Nat) : Int))) (
     Ck (decide (((a.length : Nat) : Int) * (8 : Nat) ≤ (roomy : Int))) (
      FL E H31 Try.f31 0 r lh 0 (S31_L0 a 0 (List.replicate (((a.length : Nat) : Int).toNat) (0 : Int))))))) := by kernel_rfl
theorem eq31_L0 (a0 : List Int) (i4 : Int) (h0 : List Int) (r : List W) (lh : Heap) : FL1 E H31 Try.f31 0 r lh 0 (S31_L0 a0 i4 h0) =
  (
   Br (decide (i4 < ((a0.length : Nat) : Int))) (
    Ck (decide ((0 : Int) ≤ i4)) (
     Ck (decide (i4 < ((a0.length : Nat) : Int))) (
      Ck (decide ((0 : Int) ≤ i4)) (
       Ck (decide (i4 < ((h0.length : Nat) : Int))) (
        Ck (Nat.ble (i4.toNat + 1) h0.length) (
         FL E H31 Try.f31 0 r lh 0 (S31_L0 a0 (IntKind.wrap .i64 (i4 + 1)) (h0.set i4.toNat (a0.getD i4.toNat 0))))))))) (
    Ret r lh [.one (.sl 0 none)] [.row (.int .i64) h0 .own])) := by kernel_rfl
theorem l31 (l : List Int) (hl : l.length ≤ 1048576) : ∀ (n i : Nat) (out : List Int), i + n = l.length → out.length = l.length → (∀ j, j < i → out[j]? = l[j]?) → FL E H31 Try.f31 0 [.one (.sl 0 none)] [.row (.int .i64) l .own] 0 (S31_L0 l (i : Int) out)
  | 0, i, out, h, ho, H => by
    refine FL_of1 ?_
    rw [eq31_L0]
    obtain rfl : out = l := fill_done ho fun j hj => H j (by omega)
    exact Br_f (by omega) ⟨rfl, rfl⟩
  | n + 1, i, out, h, ho, H => by
    refine FL_of1 ?_
    rw [eq31_L0, wS (by omega)]
    simp only [Int.toNat_natCast]
    refine Br_t (by omega) (Ck_d (by omega) (Ck_d (by omega) (Ck_d (by omega) (Ck_d (by omega) (Ck_le (by omega) ?_)))))
    refine l31 l hl n (i + 1) _ (by omega) (by simp [ho]) (fill_step ho ?_ H)
    rw [getD_eq (show i < l.length by omega)]
    exact List.getElem?_eq_getElem _
theorem c31 (l : List Int) (hl : l.length ≤ 1048576) : SC P 31 [.one (.ro (.int .i64) l)] [] [.one (.sl 0 none)] [.row (.int .i64) l .own] := by
  refine SC_of_FB (H := H31) E_ok Try.func31 (by kernel_rfl) ?_
  rw [eq31]
  refine Ck_d (by omega) (Ck_d (by omega) (Ck_roomI (by omega) ?_))
  exact l31 l hl l.length 0 _ (by omega) (by simp) (fun j hj => absurd hj (by omega))
/-! loop.example/keelson/laws.eqIntS -/
def H26 : Hint := ⟨[[(0, 0, .bool), (1, 0, .bool), (5, 0, .bool)]], [], [(6, [0, 1, 2, 3, 4, 5, 6, 7, 8])], [], [], []⟩
def S26_L0 (a0 : List Int) (b1 : List Int) (i5 : Int) : St := ⟨[(0, .w (.one (.ro (.int .i64) a0))), (1, .w (.one (.ro (.int .i64) b1))), (5, .w (.one (.int .i64 i5)))], []⟩
theorem eq26 (a : List Int) (b : List Int) (r : List W) (lh : Heap) : FB E H26 Try.f26 [.one (.ro (.int .i64) a), .one (.ro (.int .i64) b)] [] r lh =
  (
   Br (!(decide (((a.length : Nat) : Int) = ((b.length : Nat) : Int)))) (
    Ret r lh [.one (.bool false)] []) (
    FL E H26 Try.f26 0 r lh 0 (S26_L0 a b 0))) := by kernel_rfl
theorem eq26_L0 (a0 : List Int) (b1 : List Int) (i5 : Int) (r : List W) (lh : Heap) : FL1 E H26 Try.f26 0 r lh 0 (S26_L0 a0 b1 i5) =
  (
   Br (decide (i5 < ((a0.length : Nat) : Int))) (
    Ck (decide ((0 : Int) ≤ i5)) (
     Ck (decide (i5 < ((a0.length : Nat) : Int))) (
      Ck (decide ((0 : Int) ≤ i5)) (
       Ck (decide (i5 < ((b1.length : Nat) : Int))) (
        Br (!(decide ((a0.getD i5.toNat 0) = (b1.getD i5.toNat 0)))) (
         Ret r lh [.one (.bool false)] []) (
         FL E H26 Try.f26 0 r lh 0 (S26_L0 a0 b1 (IntKind.wrap .i64 (i5 + 1))))))))) (
    Ret r lh [.one (.bool true)] [])) := by kernel_rfl
theorem l26 (a b : List Int) (hl : a.length ≤ 1048576) (hb : a.length = b.length) : ∀ (n i : Nat), i + n = a.length → FL E H26 Try.f26 0 [.one (.bool (allR (fun j => decide (a.getD j 0 = b.getD j 0)) i n))] [] 0 (S26_L0 a b (i : Int))
  | 0, i, h => by
    refine FL_of1 ?_
    rw [eq26_L0]
    exact Br_f (by omega) ⟨rfl, rfl⟩
  | n + 1, i, h => by
    refine FL_of1 ?_
    rw [eq26_L0, wS (by omega)]
    simp only [Int.toNat_natCast]
    refine Br_t (by omega) (Ck_d (by omega) (Ck_d (by omega) (Ck_d (by omega) (Ck_d (by omega) (Br_nd (fun h1 => ?_) (fun h1 => ?_))))))
    · exact ⟨by rw [allR_f (by simpa using h1)], rfl⟩
    · rw [allR_t (by simpa using h1)]
      exact l26 a b hl hb n (i + 1) (by omega)
theorem c26 (a b : List Int) (hl : a.length ≤ 1048576) : SC P 26 [.one (.ro (.int .i64) a), .one (.ro (.int .i64) b)] [] [.one (.bool (decide (a = b)))] [] := by
  refine SC_of_FB (H := H26) E_ok Try.func26 (by kernel_rfl) ?_
  rw [eq26]
  refine Br_nd (fun h => ⟨?_, rfl⟩) (fun h => ?_)
  · rw [decide_eq_false (by rintro rfl; exact h rfl)]
  · have h : a.length = b.length := by omega
    rw [← eqR (z := 0) h]
    exact l26 a b hl h a.length 0 (by omega)
/-! loop.example/keelson/laws.markIntS -/
def H27 : Hint := ⟨[[(0, 0, .bool), (1, 0, .bool), (5, 0, .bool)]], [], [], [], [], []⟩
def S27_L0 (k1 : Int) (i5 : Int) (h0 : List Int) : St := ⟨[(0, .w (.one (.sl 0 none))), (1, .w (.one (.int .i64 k1))), (5, .w (.one (.int .i64 i5)))], [.row (.int .i64) h0 .own]⟩
theorem eq27 (l : List Int) (k : Int) (r : List W) (lh : Heap) : FB E H27 Try.f27 [.one (.sl 0 none), .one (.int .i64 k)] [.row (.int .i64) l .own] r lh =
  (
   FL E H27 Try.f27 1 r lh 0 (S27_L0 k 0 l)) := by kernel_rfl
theorem eq27_L0 (k1 : Int) (i5 : Int) (h0 : List Int) (r : List W) (lh : Heap) : FL1 E H27 Try.f27 1 r lh 0 (S27_L0 k1 i5 h0) =
  (
   Br (decide (i5 < ((h0.length : Nat) : Int))) (
    Ck (decide ((0 : Int) ≤ i5)) (
     Ck (decide (i5 < ((h0.length : Nat) : Int))) (
      Ck (Nat.ble (i5.toNat + 1) h0.length) (
       FL E H27 Try.f27 1 r lh 0 (S27_L0 (IntKind.wrap .i64 (k1 + 1)) (IntKind.wrap .i64 (i5 + 1)) (h0.set i5.toNat k1)))))) (
    Ret r lh [.one (.int .i64 k1)] [.row (.int .i64) h0 .own])) := by kernel_rfl
theorem l27 (k : Int) (m : Nat) (hm : m ≤ 1048576) (k0 : 0 ≤ k) (k1 : k ≤ 1073741824) : ∀ (n i : Nat) (out : List Int), i + n = m → out.length = m → (∀ j, j < i → out[j]? = (marks (fun k : Int => k) k m)[j]?) →
    FL E H27 Try.f27 1 [.one (.int .i64 (k + m))] [.row (.int .i64) (marks (fun k : Int => k) k m) .own] 0 (S27_L0 (k + (i : Int)) (i : Int) out)
  | 0, i, out, h, ho, H => by
    refine FL_of1 ?_
    rw [eq27_L0]
    obtain rfl : out = marks (fun k : Int => k) k m := fill_done (by rw [marks_length]; exact ho) fun j hj => H j (by rw [marks_length] at hj; omega)
    refine Br_f (by omega) ⟨?_, rfl⟩
    rw [show (i : Int) = m by omega]
  | n + 1, i, out, h, ho, H => by
    refine FL_of1 ?_
    rw [eq27_L0, wS (by omega), wrap64 (n := k + (i : Int) + 1) (by omega) (by omega), show k + (i : Int) + 1 = k + ((i + 1 : Nat) : Int) by omega]
    simp only [Int.toNat_natCast]
    refine Br_t (by omega) (Ck_d (by omega) (Ck_d (by omega) (Ck_le (by omega) ?_)))
    exact l27 k m hm k0 k1 n (i + 1) _ (by omega) (by simp [ho]) (fill_step (by rw [marks_length]; exact ho) (by rw [marks_get (by omega)]) H)
theorem c27 (l : List Int) (k : Int) (hl : l.length ≤ 1048576) (k0 : 0 ≤ k) (k1 : k ≤ 1073741824) : SC P 27 [.one (.sl 0 none), .one (.int .i64 k)] [.row (.int .i64) l .own] [.one (.int .i64 (k + l.length))] [.row (.int .i64) (marks (fun k : Int => k) k l.length) .own] := by
  refine SC_of_FB (H := H27) E_ok Try.func27 (by kernel_rfl) ?_
  rw [eq27]
  have := l27 k l.length hl k0 k1 l.length 0 l (by omega) rfl (fun j hj => absurd hj (by omega))
  rw [show k + ((0 : Nat) : Int) = k by omega] at this
  exact this
/-! loop.example/keelson/laws.heldIntS -/
def H28 : Hint := ⟨[[(0, 0, .bool), (1, 0, .bool), (5, 0, .bool)]], [], [], [], [], []⟩
def S28_L0 (a0 : List Int) (k1 : Int) (i5 : Int) : St := ⟨[(0, .w (.one (.ro (.int .i64) a0))), (1, .w (.one (.int .i64 k1))), (5, .w (.one (.int .i64 i5)))], []⟩
theorem eq28 (a : List Int) (k : Int) (r : List W) (lh : Heap) : FB E H28 Try.f28 [.one (.ro (.int .i64) a), .one (.int .i64 k)] [] r lh =
  (
   FL E H28 Try.f28 0 r lh 0 (S28_L0 a k 0)) := by kernel_rfl
theorem eq28_L0 (a0 : List Int) (k1 : Int) (i5 : Int) (r : List W) (lh : Heap) : FL1 E H28 Try.f28 0 r lh 0 (S28_L0 a0 k1 i5) =
  (
   Br (decide (i5 < ((a0.length : Nat) : Int))) (
    Ck (decide ((0 : Int) ≤ i5)) (
     Ck (decide (i5 < ((a0.length : Nat) : Int))) (
      Br (!(decide ((a0.getD i5.toNat 0) = k1))) (
       Ret r lh [.one (.int .i64 (-1))] []) (
       FL E H28 Try.f28 0 r lh 0 (S28_L0 a0 (IntKind.wrap .i64 (k1 + 1)) (IntKind.wrap .i64 (i5 + 1))))))) (
    Ret r lh [.one (.int .i64 k1)] [])) := by kernel_rfl
theorem l28 (k : Int) (m : Nat) (hm : m ≤ 1048576) (k0 : 0 ≤ k) (k1 : k ≤ 1073741824) : ∀ (n i : Nat), i + n = m →
    FL E H28 Try.f28 0 [.one (.int .i64 (k + m))] [] 0 (S28_L0 (marks (fun k : Int => k) k m) (k + (i : Int)) (i : Int))
  | 0, i, h => by
    refine FL_of1 ?_
    rw [eq28_L0, marks_length]
    refine Br_f (by omega) ⟨?_, rfl⟩
    rw [show (i : Int) = m by omega]
  | n + 1, i, h => by
    refine FL_of1 ?_
    rw [eq28_L0, marks_length, wS (by omega), wrap64 (n := k + (i : Int) + 1) (by omega) (by omega), show k + (i : Int) + 1 = k + ((i + 1 : Nat) : Int) by omega]
    simp only [Int.toNat_natCast]
    have e := marks_getD (g := fun k : Int => k) (k := k) (n := m) (i := i) (z := 0) (by omega)
    refine Br_t (by omega) (Ck_d (by omega) (Ck_d (by omega) (Br_nd (fun h1 => ?_) (fun h1 => ?_))))
    · rw [e] at h1; simp at h1
    · exact l28 k m hm k0 k1 n (i + 1) (by omega)
theorem c28 (k : Int) (m : Nat) (hl : m ≤ 1048576) (k0 : 0 ≤ k) (k1 : k ≤ 1073741824) : SC P 28 [.one (.ro (.int .i64) (marks (fun k : Int => k) k m)), .one (.int .i64 k)] [] [.one (.int .i64 (k + m))] [] := by
  refine SC_of_FB (H := H28) E_ok Try.func28 (by kernel_rfl) ?_
  rw [eq28]
  have := l28 k m hl k0 k1 m 0 (by omega)
  rw [show k + ((0 : Nat) : Int) = k by omega] at this
  exact this
theorem allR_all {α : Type} (p : α → Bool) (l : List α) (z : α) : allR (fun j => p (l.getD j z)) 0 l.length = l.all p := bool_eq (by
  rw [allR_iff, List.all_eq_true]
  constructor
  · intro h x hx
    obtain ⟨i, hi, rfl⟩ := List.getElem_of_mem hx
    have := h i (Nat.zero_le _) (by omega)
    rwa [getD_eq hi] at this
  · intro h j _ hj
    rw [getD_eq (show j < l.length by omega)]
    exact h _ (List.getElem_mem _))
abbrev Pat := Int × Int
theorem patchOk_iff {p : Pat} : patchOk p = true ↔ (0 ≤ p.1 ∧ p.1 ≤ 3) ∧ 1 ≤ p.2 ∧ p.2 ≤ 30 := by
  rw [patchOk, Bool.and_eq_true, inB_iff, inB_iff]
theorem vecOk_get {d : List Int} (h : vecOk d = true) (i : Nat) : FOk (d.getD i 0) := by
  obtain ⟨v, hv, rfl⟩ := vecOk_v h
  exact vok_get hv i
theorem vecOk_len {d : List Int} (h : vecOk d = true) : d.length = 4 := by
  obtain ⟨v, hv, rfl⟩ := vecOk_v h
  rfl
theorem vecOk_iff {d : List Int} : vecOk d = true ↔ d.length = 4 ∧ ∀ x ∈ d, FOk x := by
  rw [vecOk, Bool.and_eq_true, decide_eq_true_iff, List.all_eq_true]
  simp only [inB_iff, FOk]
theorem vecOk_set {d : List Int} {i : Nat} {x : Int} (h : vecOk d = true) (hx : FOk x) : vecOk (d.set i x) = true := by
  rw [vecOk_iff] at h ⊢
  refine ⟨by rw [List.length_set]; exact h.1, fun y hy => ?_⟩
  rcases List.mem_or_eq_of_mem_set hy with h' | rfl
  · exact h.2 _ h'
  · exact hx
def addP (d : List Int) (p : Pat) : List Int := d.set p.1.toNat ((d.getD p.1.toNat 0 + p.2) % 31)
theorem vecOk_addP {d : List Int} {p : Pat} (h : vecOk d = true) : vecOk (addP d p) = true := vecOk_set h (fok_mod _)
def patchDataF (d : List Int) (l : List Pat) : List Int := bif vecOk d && l.all patchOk then l.foldl addP d else []
theorem vecOk_fold : ∀ {l : List Pat} {d : List Int}, vecOk d = true → vecOk (l.foldl addP d) = true
  | [], _, h => h
  | p :: l, d, h => vecOk_fold (l := l) (vecOk_addP h)
theorem patchDataF_len {d : List Int} {l : List Pat} : (patchDataF d l).length ≤ 4 := by
  rw [patchDataF]
  cases h : vecOk d && l.all patchOk
  · simp
  · rw [Bool.and_eq_true] at h
    rw [cond_true, vecOk_len (vecOk_fold h.1)]
    exact Nat.le_refl _
def diffsR (q : Nat → Int) : Nat → Nat → List Pat
  | _, 0 => []
  | i, n + 1 => (bif decide (q i = 0) then [] else [((i : Int), q i)]) ++ diffsR q (i + 1) n
theorem diffsR_congr {q q' : Nat → Int} : ∀ {n i : Nat}, (∀ j, i ≤ j → j < i + n → q j = q' j) → diffsR q i n = diffsR q' i n
  | 0, _, _ => rfl
  | n + 1, i, h => by
    rw [diffsR, diffsR, h i (Nat.le_refl _) (by omega), diffsR_congr (n := n) fun j h1 h2 => h j (by omega) (by omega)]
theorem diffsR_len {q : Nat → Int} : ∀ {n i : Nat}, (diffsR q i n).length ≤ n
  | 0, _ => Nat.le_refl _
  | n + 1, i => by
    have := diffsR_len (q := q) (n := n) (i := i + 1)
    rw [diffsR, List.length_append]
    cases decide (q i = 0) <;> simp <;> omega
def difQ (a b : List Int) (j : Nat) : Int := (b.getD j 0 + 31 - a.getD j 0) % 31
theorem difQ_zero {a b : List Int} (ha : vecOk a = true) (hb : vecOk b = true) (j : Nat) : difQ a b j = 0 ↔ a.getD j 0 = b.getD j 0 := by
  obtain ⟨a0, a1⟩ := vecOk_get ha j
  obtain ⟨b0, b1⟩ := vecOk_get hb j
  rw [difQ]
  omega
def patchOfF (a b : List Int) : List Pat := bif vecOk a && vecOk b then diffsR (difQ a b) 0 4 else []
theorem patchOfF_len {a b : List Int} : (patchOfF a b).length ≤ 4 := by
  rw [patchOfF]
  cases vecOk a && vecOk b
  · simp
  · exact diffsR_len
def patchRowF (kind : Int) (p : Pat) : List Int := bif inB kind 1 2 && patchOk p then allF kind (vtimes (unitF p.1) p.2) else []
theorem patchRowF_len {kind : Int} {p : Pat} : (patchRowF kind p).length ≤ 8 := by
  rw [patchRowF]
  cases inB kind 1 2 && patchOk p
  · simp
  · rw [cond_true, allF_length]; exact Nat.le_refl _
/-! loop.example/keelson/spec.VecOk -/
def H40 : Hint := ⟨[[(0, 0, .bool), (3, 0, .bool)]], [], [], [], [], []⟩
def S40_L0 (v0 : List Int) (i3 : Int) : St := ⟨[(0, .w (.one (.ro (.int .i64) v0))), (3, .w (.one (.int .i64 i3)))], []⟩
theorem eq40 (v : List Int) (r : List W) (lh : Heap) : FB E H40 Try.f40 [.one (.ro (.int .i64) v)] [] r lh =
  (
   FL E H40 Try.f40 0 r lh 0 (S40_L0 v 0)) := by kernel_rfl
theorem eq40_L0 (v0 : List Int) (i3 : Int) (r : List W) (lh : Heap) : FL1 E H40 Try.f40 0 r lh 0 (S40_L0 v0 i3) =
  (
   Br (decide (i3 < ((v0.length : Nat) : Int))) (
    Ck (decide ((0 : Int) ≤ i3)) (
     Ck (decide (i3 < ((v0.length : Nat) : Int))) (
      ∃ r0 : Bool, SC P 89 [.one (.int .i64 (v0.getD i3.toNat 0))] [] [.one (.bool r0)] [] ∧
       Br (!r0) (
        Ret r lh [.one (.bool false)] []) (
        FL E H40 Try.f40 0 r lh 0 (S40_L0 v0 (IntKind.wrap .i64 (i3 + 1))))))) (
    Ret r lh [.one (.bool (decide (((v0.length : Nat) : Int) = (4 : Int))))] [])) := by kernel_rfl
theorem l40 (l : List Int) (hl : l.length ≤ 1048576) : ∀ (n i : Nat), i + n = l.length → FL E H40 Try.f40 0 [.one (.bool (decide (l.length = 4) && allR (fun j => inB (l.getD j 0) 0 30) i n))] [] 0 (S40_L0 l (i : Int))
  | 0, i, h => by
    refine FL_of1 ?_
    rw [eq40_L0]
    refine Br_f (by omega) ⟨?_, rfl⟩
    rw [allR, Bool.and_true]
    congr 3
    exact decide_eq_decide.2 (by omega)
  | n + 1, i, h => by
    refine FL_of1 ?_
    rw [eq40_L0, wS (by omega)]
    simp only [Int.toNat_natCast]
    refine Br_t (by omega) (Ck_d (by omega) (Ck_d (by omega) ⟨_, c89 _, Br_nb (fun h1 => ?_) (fun h1 => ?_)⟩))
    · exact ⟨by rw [allR_f h1, Bool.and_false], rfl⟩
    · rw [allR_t h1]
      exact l40 l hl n (i + 1) (by omega)
theorem c40 (l : List Int) (hl : l.length ≤ 1048576) : SC P 40 [.one (.ro (.int .i64) l)] [] [.one (.bool (vecOk l))] [] := by
  refine SC_of_FB (H := H40) E_ok Try.func40 (by kernel_rfl) ?_
  rw [eq40]
  have := l40 l hl l.length 0 (by omega)
  rw [allR_all (fun n => inB n 0 30) l 0] at this
  exact this
/-! loop.example/keelson/spec.FieldSum -/
def H78 : Hint := ⟨[], [], [], [], [], []⟩
theorem eq78 (a : Int) (b : Int) (r : List W) (lh : Heap) : FB E H78 Try.f78 [.one (.int .i64 a), .one (.int .i64 b)] [] r lh =
  (
   ∃ r0 : Bool, SC P 89 [.one (.int .i64 a)] [] [.one (.bool r0)] [] ∧
    Br (!r0) (
     Ret r lh [.one (.int .i64 0)] []) (
     ∃ r1 : Bool, SC P 89 [.one (.int .i64 b)] [] [.one (.bool r1)] [] ∧
      Br (!r1) (
       Ret r lh [.one (.int .i64 0)] []) (
       Ret r lh [.one (.int .i64 (Int.tmod (IntKind.wrap .i64 (a + b)) 31))] []))) := by kernel_rfl
theorem c78 (a b : Int) (ha : FOk a) (hb : FOk b) : SC P 78 [.one (.int .i64 a), .one (.int .i64 b)] [] [.one (.int .i64 ((a + b) % 31))] [] := by
  refine SC_of_FB (H := H78) E_ok Try.func78 (by kernel_rfl) ?_
  rw [eq78]
  have := ha.1; have := ha.2; have := hb.1; have := hb.2
  rw [wrap64 (by omega) (by omega), Int.tmod_eq_emod_of_nonneg (by omega)]
  exact ⟨_, c89 a, Br_nb (fun e => by rw [inB_iff.2 ha] at e; cases e) (fun _ => ⟨_, c89 b, Br_nb (fun e => by rw [inB_iff.2 hb] at e; cases e) (fun _ => ⟨rfl, rfl⟩)⟩)⟩
/-! loop.example/keelson/spec.FieldDif -/
def H86 : Hint := ⟨[], [], [], [], [], []⟩
theorem eq86 (a : Int) (b : Int) (r : List W) (lh : Heap) : FB E H86 Try.f86 [.one (.int .i64 a), .one (.int .i64 b)] [] r lh =
  (
   ∃ r0 : Bool, SC P 89 [.one (.int .i64 a)] [] [.one (.bool r0)] [] ∧
    Br (!r0) (
     Ret r lh [.one (.int .i64 0)] []) (
     ∃ r1 : Bool, SC P 89 [.one (.int .i64 b)] [] [.one (.bool r1)] [] ∧
      Br (!r1) (
       Ret r lh [.one (.int .i64 0)] []) (
       Ret r lh [.one (.int .i64 (Int.tmod (IntKind.wrap .i64 ((IntKind.wrap .i64 (a + 31)) - b)) 31))] []))) := by kernel_rfl
theorem c86 (a b : Int) (ha : FOk a) (hb : FOk b) : SC P 86 [.one (.int .i64 a), .one (.int .i64 b)] [] [.one (.int .i64 ((a + 31 - b) % 31))] [] := by
  refine SC_of_FB (H := H86) E_ok Try.func86 (by kernel_rfl) ?_
  rw [eq86]
  have := ha.1; have := ha.2; have := hb.1; have := hb.2
  rw [wrap64 (n := a + 31) (by omega) (by omega), wrap64 (by omega) (by omega), Int.tmod_eq_emod_of_nonneg (by omega)]
  exact ⟨_, c89 a, Br_nb (fun e => by rw [inB_iff.2 ha] at e; cases e) (fun _ => ⟨_, c89 b, Br_nb (fun e => by rw [inB_iff.2 hb] at e; cases e) (fun _ => ⟨rfl, rfl⟩)⟩)⟩
/-! loop.example/keelson/spec.PatchData -/
def H22 : Hint := ⟨[[(1, 0, .bool), (5, 0, .bool), (6, 0, .bool)]], [], [(9, [0, 1, 2, 3, 4, 5, 6, 7, 8, 9, 10, 11, 12, 13, 14, 15, 16, 17, 18, 19, 20, 21])], [], [], []⟩
def S22_L0 (l1 : List (Int × Int)) (i6 : Int) (h0 : List Int) : St := ⟨[(1, .w (.one (.ro (.pair (.int .i64) (.int .i64)) l1))), (5, .w (.one (.sl 0 none))), (6, .w (.one (.int .i64 i6)))], [.row (.int .i64) h0 .own]⟩
theorem eq22 (data : List Int) (l : List (Int × Int)) (r : List W) (lh : Heap) : FB E H22 Try.f22 [.one (.ro (.int .i64) data), .one (.ro (.pair (.int .i64) (.int .i64)) l)] [] r lh =
  (
   ∃ r0 : Bool, SC P 40 [.one (.ro (.int .i64) data)] [] [.one (.bool r0)] [] ∧
    Br (!r0) (
     Ret r lh [.one (.sl 0 none)] [.row (.int .i64) [] .own]) (
     Ck (Nat.ble ((0 + data.length) * 8) roomy) (
      FL E H22 Try.f22 0 r lh 0 (S22_L0 l 0 ([] ++ data))))) := by kernel_rfl
theorem eq22_L0 (l1 : List (Int × Int)) (i6 : Int) (h0 : List Int) (r : List W) (lh : Heap) : FL1 E H22 Try.f22 0 r lh 0 (S22_L0 l1 i6 h0) =
  (
   Br (decide (i6 < ((l1.length : Nat) : Int))) (
    Ck (decide ((0 : Int) ≤ i6)) (
     Ck (decide (i6 < ((l1.length : Nat) : Int))) (
      ∃ r0 : Bool, SC P 17 [.agg [.int .i64 ((l1.getD i6.toNat (0, 0)).1), .int .i64 ((l1.getD i6.toNat (0, 0)).2)]] [] [.one (.bool r0)] [] ∧
       Br (!r0) (
        Ret r lh [.one (.sl 0 none)] [.row (.int .i64) [] .own]) (
        Ck (decide ((0 : Int) ≤ i6)) (
         Ck (decide (i6 < ((l1.length : Nat) : Int))) (
          Ck (decide ((0 : Int) ≤ i6)) (
           Ck (decide (i6 < ((l1.length : Nat) : Int))) (
            Ck (decide ((0 : Int) ≤ (l1.getD i6.toNat (0, 0)).1)) (
             Ck (decide ((l1.getD i6.toNat (0, 0)).1 < ((h0.length : Nat) : Int))) (
              Ck (Nat.ble (((l1.getD i6.toNat (0, 0)).1).toNat + 1) h0.length) (
               Ck (decide ((0 : Int) ≤ i6)) (
                Ck (decide (i6 < ((l1.length : Nat) : Int))) (
                 ∃ r1 : Int, SC P 78 [.one (.int .i64 (h0.getD ((l1.getD i6.toNat (0, 0)).1).toNat 0)), .one (.int .i64 ((l1.getD i6.toNat (0, 0)).2))] [] [.one (.int .i64 r1)] [] ∧
                  Ck (decide ((0 : Int) ≤ (l1.getD i6.toNat (0, 0)).1)) (
                   Ck (decide ((l1.getD i6.toNat (0, 0)).1 < ((h0.length : Nat) : Int))) (
                    Ck (Nat.ble (((l1.getD i6.toNat (0, 0)).1).toNat + 1) h0.length) (
                     FL E H22 Try.f22 0 r lh 0 (S22_L0 l1 (IntKind.wrap .i64 (i6 + 1)) (h0.set (((l1.getD i6.toNat (0, 0)).1).toNat) r1)))))))))))))))))) (
    Ret r lh [.one (.sl 0 none)] [.row (.int .i64) h0 .own])) := by kernel_rfl
theorem l22 (l : List Pat) (hl : l.length ≤ 1048576) : ∀ (n i : Nat) (d : List Int), i + n = l.length → vecOk d = true → FL E H22 Try.f22 0 [.one (.sl 0 none)] [.row (.int .i64) (bif (l.drop i).all patchOk then (l.drop i).foldl addP d else []) .own] 0 (S22_L0 l (i : Int) d)
  | 0, i, d, h, hd => by
    refine FL_of1 ?_
    rw [eq22_L0, List.drop_eq_nil_of_le (show l.length ≤ i by omega)]
    exact Br_f (by omega) ⟨rfl, rfl⟩
  | n + 1, i, d, h, hd => by
    have hi : i < l.length := by omega
    refine FL_of1 ?_
    rw [eq22_L0, wS (by omega), drop_cons hi, List.all_cons, List.foldl_cons, ← getD_eq (z := (0, 0)) hi]
    simp only [Int.toNat_natCast]
    refine Br_t (by omega) (Ck_d (by omega) (Ck_d (by omega) ⟨_, c17 (l.getD i (0, 0)), Br_nb (fun h1 => ?_) (fun h1 => ?_)⟩))
    · rw [h1]; exact ⟨rfl, rfl⟩
    · obtain ⟨⟨p0, p1⟩, q0, q1⟩ := patchOk_iff.1 h1
      have hd4 := vecOk_len hd
      rw [h1, Bool.true_and]
      refine Ck_d (by omega) (Ck_d (by omega) (Ck_d (by omega) (Ck_d (by omega) (Ck_d (by omega) (Ck_d (by omega) (Ck_le (by omega) (Ck_d (by omega) (Ck_d (by omega) ⟨_, c78 _ _ (vecOk_get hd _) ⟨by omega, by omega⟩, Ck_d (by omega) (Ck_d (by omega) (Ck_le (by omega) ?_))⟩))))))))
      exact l22 l hl n (i + 1) (addP d (l.getD i (0, 0))) (by omega) (vecOk_addP hd)
theorem c22 (d : List Int) (l : List Pat) (hd : d.length ≤ 1048576) (hl : l.length ≤ 1048576) : SC P 22 [.one (.ro (.int .i64) d), .one (.ro (.pair (.int .i64) (.int .i64)) l)] [] [.one (.sl 0 none)] [.row (.int .i64) (patchDataF d l) .own] := by
  refine SC_of_FB (H := H22) E_ok Try.func22 (by kernel_rfl) ?_
  rw [eq22]
  refine ⟨_, c40 d hd, Br_nb (fun e => ⟨rfl, by rw [patchDataF, e]; rfl⟩) (fun e => Ck_room (by omega) ?_)⟩
  have := l22 l hl l.length 0 d (by omega) e
  rw [List.drop_zero] at this
  rw [List.nil_append, patchDataF, e, Bool.true_and]
  exact this
/-! loop.example/keelson/impl.PatchData$1 -/
def H73 : Hint := ⟨[], [], [], [], [], []⟩
theorem eq73 (p : (Int × Int)) (r : List W) (lh : Heap) : FB E H73 Try.f73 [.agg [.int .i64 p.1, .int .i64 p.2]] [] r lh =
  (
   ∃ r0 : Bool, SC P 16 [.agg [.int .i64 p.1, .int .i64 p.2]] [] [.one (.bool r0)] [] ∧
    Ret r lh [.one (.bool (!r0))] []) := by kernel_rfl
theorem c73 (p : Pat) : SC P 73 [.agg [.int .i64 p.1, .int .i64 p.2]] [] [.one (.bool (!patchOk p))] [] := by
  refine SC_of_FB (H := H73) E_ok Try.func73 (by kernel_rfl) ?_
  rw [eq73]
  exact ⟨_, c16 p, rfl, rfl⟩
/-! slices.IndexFunc[[]loop.example/keelson/impl.Patch,loop.example/keelson/impl.Patch] -/
def H118 : Hint := ⟨[[(0, 0, .bool), (1, 0, .bool), (7, 0, .bool), (8, 0, .bool)]], [], [], [], [], []⟩
def S118_L0 (s0 : List (Int × Int)) (x7 : Int) (x8 : Int) : St := ⟨[(0, .w (.one (.ro (.pair (.int .i64) (.int .i64)) s0))), (1, .w (.one (.fn 73 []))), (7, .w (.one (.int .i64 x7))), (8, .w (.one (.int .i64 x8)))], []⟩
theorem eq118 (l : List (Int × Int)) (r : List W) (lh : Heap) : FB E H118 Try.f118 [.one (.ro (.pair (.int .i64) (.int .i64)) l), .one (.fn 73 [])] [] r lh =
  (
   FL E H118 Try.f118 0 r lh 0 (S118_L0 l ((l.length : Nat) : Int) 0)) := by kernel_rfl
theorem eq118_L0 (s0 : List (Int × Int)) (x7 : Int) (x8 : Int) (r : List W) (lh : Heap) : FL1 E H118 Try.f118 0 r lh 0 (S118_L0 s0 x7 x8) =
  (
   Br (decide (x8 < x7)) (
    Ck (decide ((0 : Int) ≤ x8)) (
     Ck (decide (x8 < ((s0.length : Nat) : Int))) (
      ∃ r0 : Bool, SC P 73 [.agg [.int .i64 ((s0.getD x8.toNat (0, 0)).1), .int .i64 ((s0.getD x8.toNat (0, 0)).2)]] [] [.one (.bool r0)] [] ∧
       Br r0 (
        Ret r lh [.one (.int .i64 x8)] []) (
        FL E H118 Try.f118 0 r lh 0 (S118_L0 s0 x7 (IntKind.wrap .i64 (x8 + 1))))))) (
    Ret r lh [.one (.int .i64 (-1))] [])) := by kernel_rfl
theorem l118 (l : List Pat) (hl : l.length ≤ 1048576) : ∀ (n i : Nat), i + n = l.length → FL E H118 Try.f118 0 [.one (.int .i64 (findR (fun j => !patchOk (l.getD j (0, 0))) (fun j => (j : Int)) (-1) i n))] [] 0 (S118_L0 l (l.length : Int) (i : Int))
  | 0, i, h => by
    refine FL_of1 ?_
    rw [eq118_L0]
    exact Br_f (by omega) ⟨rfl, rfl⟩
  | n + 1, i, h => by
    refine FL_of1 ?_
    rw [eq118_L0, wS (by omega), findR]
    simp only [Int.toNat_natCast]
    refine Br_t (by omega) (Ck_d (by omega) (Ck_d (by omega) ⟨_, c73 _, Br_b (fun h1 => ?_) (fun h1 => ?_)⟩))
    · exact ⟨by rw [cond_t h1], rfl⟩
    · rw [cond_f h1]
      exact l118 l hl n (i + 1) (by omega)
theorem c118 (l : List Pat) (hl : l.length ≤ 1048576) : SC P 118 [.one (.ro (.pair (.int .i64) (.int .i64)) l), .one (.fn 73 [])] [] [.one (.int .i64 (findR (fun j => !patchOk (l.getD j (0, 0))) (fun j => (j : Int)) (-1) 0 l.length))] [] := by
  refine SC_of_FB (H := H118) E_ok Try.func118 (by kernel_rfl) ?_
  rw [eq118]
  exact l118 l hl l.length 0 (by omega)
/-! slices.ContainsFunc[[]loop.example/keelson/impl.Patch,loop.example/keelson/impl.Patch] -/
def H72 : Hint := ⟨[], [], [], [], [], []⟩
theorem eq72 (l : List (Int × Int)) (r : List W) (lh : Heap) : FB E H72 Try.f72 [.one (.ro (.pair (.int .i64) (.int .i64)) l), .one (.fn 73 [])] [] r lh =
  (
   ∃ r0 : Int, SC P 118 [.one (.ro (.pair (.int .i64) (.int .i64)) l), .one (.fn 73 [])] [] [.one (.int .i64 r0)] [] ∧
    Ret r lh [.one (.bool (decide ((0 : Int) ≤ r0)))] []) := by kernel_rfl
theorem c72 (l : List Pat) (hl : l.length ≤ 1048576) : SC P 72 [.one (.ro (.pair (.int .i64) (.int .i64)) l), .one (.fn 73 [])] [] [.one (.bool (!l.all patchOk))] [] := by
  refine SC_of_FB (H := H72) E_ok Try.func72 (by kernel_rfl) ?_
  rw [eq72]
  refine ⟨_, c118 l hl, ?_, rfl⟩
  rw [findR_any (fun p => !patchOk p) l (0, 0)]
  congr 3
  rw [List.any_eq_not_all_not]
  simp
/-! loop.example/keelson/impl.PatchData -/
def H19 : Hint := ⟨[[(5, 0, .bool), (20, 0, .bool), (21, 0, .bool), (22, 0, .bool)]], [], [(7, [0, 1, 2, 3, 4, 5, 6, 7, 8, 9, 10])], [], [.one (.own (.int .i64))], []⟩
def S19_L0 (x20 : List (Int × Int)) (x21 : Int) (x22 : Int) (h0 : List Int) : St := ⟨[(5, .w (.one (.ptr 0 0 0))), (20, .w (.one (.ro (.pair (.int .i64) (.int .i64)) x20))), (21, .w (.one (.int .i64 x21))), (22, .w (.one (.int .i64 x22)))], [.row (.int .i64) h0 .var]⟩
theorem eq19 (data : List Int) (l : List (Int × Int)) (r : List W) (lh : Heap) : FB E H19 Try.f19 [.one (.ro (.int .i64) data), .one (.ro (.pair (.int .i64) (.int .i64)) l)] [] r lh =
  (
   ∃ r0 : Int × Int × Int × Int × Bool, SC P 71 [.one (.ro (.int .i64) data)] [] [.agg [.int .i64 r0.1, .int .i64 r0.2.1, .int .i64 r0.2.2.1, .int .i64 r0.2.2.2.1], .one (.bool r0.2.2.2.2)] [] ∧
    Br (!r0.2.2.2.2) (
     Ret r lh [.one (.sl 0 none)] [.row (.int .i64) [] .own]) (
     ∃ r1 : Bool, SC P 72 [.one (.ro (.pair (.int .i64) (.int .i64)) l), .one (.fn 73 [])] [] [.one (.bool r1)] [] ∧
      Br r1 (
       Ret r lh [.one (.sl 0 none)] [.row (.int .i64) [] .own]) (
       FL E H19 Try.f19 0 r lh 0 (S19_L0 l ((l.length : Nat) : Int) 0 [r0.1, r0.2.1, r0.2.2.1, r0.2.2.2.1])))) := by kernel_rfl
theorem eq19_L0 (x20 : List (Int × Int)) (x21 : Int) (x22 : Int) (h0 : List Int) (r : List W) (lh : Heap) : FL1 E H19 Try.f19 0 r lh 0 (S19_L0 x20 x21 x22 h0) =
  (
   Br (decide (x22 < x21)) (
    Ck (decide ((0 : Int) ≤ x22)) (
     Ck (decide (x22 < ((x20.length : Nat) : Int))) (
      Ck (decide ((0 : Int) ≤ (x20.getD x22.toNat (0, 0)).1)) (
       Ck (decide ((x20.getD x22.toNat (0, 0)).1 < (4 : Int))) (
        Ck (Nat.ble ((0 + (((x20.getD x22.toNat (0, 0)).1).toNat * 1)) + 1) h0.length) (
         ∃ r0 : Int, SC P 74 [.one (.int .i64 (h0.getD (0 + (((x20.getD x22.toNat (0, 0)).1).toNat * 1)) 0)), .one (.int .i64 ((x20.getD x22.toNat (0, 0)).2))] [] [.one (.int .i64 r0)] [] ∧
          Ck (decide ((0 : Int) ≤ (x20.getD x22.toNat (0, 0)).1)) (
           Ck (decide ((x20.getD x22.toNat (0, 0)).1 < (4 : Int))) (
            Ck (Nat.ble ((0 + (((x20.getD x22.toNat (0, 0)).1).toNat * 1)) + 1) h0.length) (
             FL E H19 Try.f19 0 r lh 0 (S19_L0 x20 x21 (IntKind.wrap .i64 (x22 + 1)) (h0.set (0 + (((x20.getD x22.toNat (0, 0)).1).toNat * 1)) r0))))))))))) (
    Ck (Nat.ble 4 h0.length) (
     ∃ r1 : List Int, SC P 75 [.agg [.int .i64 (h0.getD 0 0), .int .i64 (h0.getD 1 0), .int .i64 (h0.getD 2 0), .int .i64 (h0.getD 3 0)]] [] [.one (.sl 0 none)] [.row (.int .i64) r1 .own] ∧
      Ret r lh [.one (.sl 0 none)] [.row (.int .i64) r1 .own]))) := by kernel_rfl
theorem l19 (l : List Pat) (hl : l.length ≤ 1048576) : ∀ (n i : Nat) (d : List Int), i + n = l.length → vecOk d = true → (l.drop i).all patchOk = true → FL E H19 Try.f19 0 [.one (.sl 0 none)] [.row (.int .i64) ((l.drop i).foldl addP d) .own] 0 (S19_L0 l (l.length : Int) (i : Int) d)
  | 0, i, d, h, hd, ha => by
    refine FL_of1 ?_
    rw [eq19_L0, List.drop_eq_nil_of_le (show l.length ≤ i by omega)]
    obtain ⟨v, hv, rfl⟩ := vecOk_v hd
    exact Br_f (by omega) (Ck_le (by simp [V4.l]) ⟨v.l, c75 v, rfl, rfl⟩)
  | n + 1, i, d, h, hd, ha => by
    have hi : i < l.length := by omega
    refine FL_of1 ?_
    rw [drop_cons hi, List.all_cons, Bool.and_eq_true, ← getD_eq (z := (0, 0)) hi] at ha
    rw [eq19_L0, wS (by omega), drop_cons hi, List.foldl_cons, ← getD_eq (z := (0, 0)) hi]
    simp only [Int.toNat_natCast, Nat.zero_add, Nat.mul_one]
    obtain ⟨⟨p0, p1⟩, q0, q1⟩ := patchOk_iff.1 ha.1
    have hd4 := vecOk_len hd
    refine Br_t (by omega) (Ck_d (by omega) (Ck_d (by omega) (Ck_d (by omega) (Ck_d (by omega) (Ck_le (by omega) ⟨_, c74 _ _ (vecOk_get hd _) ⟨by omega, by omega⟩, Ck_d (by omega) (Ck_d (by omega) (Ck_le (by omega) ?_))⟩)))))
    exact l19 l hl n (i + 1) (addP d (l.getD i (0, 0))) (by omega) (vecOk_addP hd) ha.2
theorem c19 (d : List Int) (l : List Pat) (hd : d.length ≤ 1048576) (hl : l.length ≤ 1048576) : SC P 19 [.one (.ro (.int .i64) d), .one (.ro (.pair (.int .i64) (.int .i64)) l)] [] [.one (.sl 0 none)] [.row (.int .i64) (patchDataF d l) .own] := by
  refine SC_of_FB (H := H19) E_ok Try.func19 (by kernel_rfl) ?_
  rw [eq19]
  refine ⟨((vecF d).1, (vecF d).2.1, (vecF d).2.2.1, (vecF d).2.2.2, vecOk d), c71 d hd, Br_nb (fun e => ⟨rfl, by rw [patchDataF, show vecOk d = false from e]; rfl⟩) (fun e => ⟨_, c72 l hl, ?_⟩)⟩
  have e : vecOk d = true := e
  cases hp : l.all patchOk
  · exact ⟨rfl, by rw [patchDataF, hp, Bool.and_false]; rfl⟩
  · obtain ⟨v, hv, rfl⟩ := vecOk_v e
    have := l19 l hl l.length 0 v.l (by omega) e hp
    rw [List.drop_zero] at this
    rw [patchDataF, hp, e]
    rw [vecF_l hv]
    exact this
/-! loop.example/keelson/spec.PatchOf -/
def H30 : Hint := ⟨[[(0, 0, .bool), (1, 0, .bool), (5, 0, .bool), (6, 0, .bool)]], [], [(7, [0, 1, 2, 3, 4, 5, 6, 7, 8]), (8, [0, 1, 2, 3, 4, 5, 6, 7, 8, 9, 10, 11, 12, 13, 14])], [], [], []⟩
def S30_L0 (a0 : List Int) (b1 : List Int) (i6 : Int) (h0 : List (Int × Int)) : St := ⟨[(0, .w (.one (.ro (.int .i64) a0))), (1, .w (.one (.ro (.int .i64) b1))), (5, .w (.one (.sl 0 none))), (6, .w (.one (.int .i64 i6)))], [.row (.pair (.int .i64) (.int .i64)) h0 .own]⟩
theorem eq30 (a : List Int) (b : List Int) (r : List W) (lh : Heap) : FB E H30 Try.f30 [.one (.ro (.int .i64) a), .one (.ro (.int .i64) b)] [] r lh =
  (
   ∃ r0 : Bool, SC P 40 [.one (.ro (.int .i64) a)] [] [.one (.bool r0)] [] ∧
    Br (!r0) (
     Ret r lh [.one (.sl 0 none)] [.row (.pair (.int .i64) (.int .i64)) [] .own]) (
     ∃ r1 : Bool, SC P 40 [.one (.ro (.int .i64) b)] [] [.one (.bool r1)] [] ∧
      Br (!r1) (
       Ret r lh [.one (.sl 0 none)] [.row (.pair (.int .i64) (.int .i64)) [] .own]) (
       FL E H30 Try.f30 0 r lh 0 (S30_L0 a b 0 [])))) := by kernel_rfl
theorem eq30_L0 (a0 : List Int) (b1 : List Int) (i6 : Int) (h0 : List (Int × Int)) (r : List W) (lh : Heap) : FL1 E H30 Try.f30 0 r lh 0 (S30_L0 a0 b1 i6 h0) =
  (
   Br (decide (i6 < ((a0.length : Nat) : Int))) (
    Ck (decide ((0 : Int) ≤ i6)) (
     Ck (decide (i6 < ((a0.length : Nat) : Int))) (
      Ck (decide ((0 : Int) ≤ i6)) (
       Ck (decide (i6 < ((b1.length : Nat) : Int))) (
        Br (!(decide ((a0.getD i6.toNat 0) = (b1.getD i6.toNat 0)))) (
         Ck (decide ((0 : Int) ≤ i6)) (
          Ck (decide (i6 < ((b1.length : Nat) : Int))) (
           Ck (decide ((0 : Int) ≤ i6)) (
            Ck (decide (i6 < ((a0.length : Nat) : Int))) (
             ∃ r0 : Int, SC P 86 [.one (.int .i64 (b1.getD i6.toNat 0)), .one (.int .i64 (a0.getD i6.toNat 0))] [] [.one (.int .i64 r0)] [] ∧
              Ck (Nat.ble ((h0.length + 1) * 16) roomy) (
               FL E H30 Try.f30 0 r lh 0 (S30_L0 a0 b1 (IntKind.wrap .i64 (i6 + 1)) (h0 ++ [(i6, r0)])))))))) (
         FL E H30 Try.f30 0 r lh 0 (S30_L0 a0 b1 (IntKind.wrap .i64 (i6 + 1)) h0))))))) (
    Ret r lh [.one (.sl 0 none)] [.row (.pair (.int .i64) (.int .i64)) h0 .own])) := by kernel_rfl
theorem l30 (a b : List Int) (ha : vecOk a = true) (hb : vecOk b = true) : ∀ (n i : Nat) (out : List Pat), i + n = 4 → out.length ≤ i → FL E H30 Try.f30 0 [.one (.sl 0 none)] [.row (.pair (.int .i64) (.int .i64)) (out ++ diffsR (difQ a b) i n) .own] 0 (S30_L0 a b (i : Int) out)
  | 0, i, out, h, ho => by
    have hla := vecOk_len ha
    refine FL_of1 ?_
    rw [eq30_L0]
    exact Br_f (by omega) ⟨rfl, by rw [diffsR, List.append_nil]⟩
  | n + 1, i, out, h, ho => by
    have hla := vecOk_len ha
    have hlb := vecOk_len hb
    refine FL_of1 ?_
    rw [eq30_L0, wS (by omega), diffsR]
    simp only [Int.toNat_natCast]
    have hz := difQ_zero ha hb i
    refine Br_t (by omega) (Ck_d (by omega) (Ck_d (by omega) (Ck_d (by omega) (Ck_d (by omega) (Br_nd (fun h1 => ?_) (fun h1 => ?_))))))
    · rw [decide_eq_false (fun e => h1 (hz.1 e)), cond_false, ← List.append_assoc]
      exact Ck_d (by omega) (Ck_d (by omega) (Ck_d (by omega) (Ck_d (by omega) ⟨_, c86 _ _ (vecOk_get hb _) (vecOk_get ha _), Ck_room (by omega) (l30 a b ha hb n (i + 1) (out ++ [((i : Int), difQ a b i)]) (by omega) (by simp; omega))⟩)))
    · rw [decide_eq_true (hz.2 h1), cond_true, List.nil_append]
      exact l30 a b ha hb n (i + 1) out (by omega) (by omega)
theorem c30 (a b : List Int) (ha : a.length ≤ 1048576) (hb : b.length ≤ 1048576) : SC P 30 [.one (.ro (.int .i64) a), .one (.ro (.int .i64) b)] [] [.one (.sl 0 none)] [.row (.pair (.int .i64) (.int .i64)) (patchOfF a b) .own] := by
  refine SC_of_FB (H := H30) E_ok Try.func30 (by kernel_rfl) ?_
  rw [eq30]
  refine ⟨_, c40 a ha, Br_nb (fun e => ⟨rfl, by rw [patchOfF, e]; rfl⟩) (fun e => ⟨_, c40 b hb, Br_nb (fun e' => ⟨rfl, by rw [patchOfF, e', Bool.and_false]; rfl⟩) (fun e' => ?_)⟩)⟩
  rw [patchOfF, e, e']
  exact l30 a b e e' 4 0 [] (by omega) (by simp)
/-! loop.example/keelson/impl.PatchOf -/
def H32 : Hint := ⟨[[(9, 0, .bool), (31, 0, .bool), (32, 0, .bool)]], [], [], [], [.one (.own (.pair (.int .i64) (.int .i64)))], []⟩
def S32_L0 (x31_0 : Int) (x31_1 : Int) (x31_2 : Int) (x31_3 : Int) (x32 : Int) (h0 : List (Int × Int)) : St := ⟨[(9, .w (.one (.sl 0 none))), (31, .w (.agg [.int .i64 x31_0, .int .i64 x31_1, .int .i64 x31_2, .int .i64 x31_3])), (32, .w (.one (.int .i64 x32)))], [.row (.pair (.int .i64) (.int .i64)) h0 .own]⟩
theorem eq32 (a : List Int) (b : List Int) (r : List W) (lh : Heap) : FB E H32 Try.f32 [.one (.ro (.int .i64) a), .one (.ro (.int .i64) b)] [] r lh =
  (
   ∃ r0 : Int × Int × Int × Int × Bool, SC P 71 [.one (.ro (.int .i64) a)] [] [.agg [.int .i64 r0.1, .int .i64 r0.2.1, .int .i64 r0.2.2.1, .int .i64 r0.2.2.2.1], .one (.bool r0.2.2.2.2)] [] ∧
    ∃ r1 : Int × Int × Int × Int × Bool, SC P 71 [.one (.ro (.int .i64) b)] [] [.agg [.int .i64 r1.1, .int .i64 r1.2.1, .int .i64 r1.2.2.1, .int .i64 r1.2.2.2.1], .one (.bool r1.2.2.2.2)] [] ∧
     Br (!r0.2.2.2.2) (
      Ret r lh [.one (.sl 0 none)] [.row (.pair (.int .i64) (.int .i64)) [] .own]) (
      Br (!r1.2.2.2.2) (
       Ret r lh [.one (.sl 0 none)] [.row (.pair (.int .i64) (.int .i64)) [] .own]) (
       ∃ r2 : Int × Int × Int × Int, SC P 87 [.agg [.int .i64 r1.1, .int .i64 r1.2.1, .int .i64 r1.2.2.1, .int .i64 r1.2.2.2.1], .agg [.int .i64 r0.1, .int .i64 r0.2.1, .int .i64 r0.2.2.1, .int .i64 r0.2.2.2.1]] [] [.agg [.int .i64 r2.1, .int .i64 r2.2.1, .int .i64 r2.2.2.1, .int .i64 r2.2.2.2]] [] ∧
        FL E H32 Try.f32 0 r lh 0 (S32_L0 r2.1 r2.2.1 r2.2.2.1 r2.2.2.2 0 [])))) := by kernel_rfl
theorem eq32_L0 (x31_0 : Int) (x31_1 : Int) (x31_2 : Int) (x31_3 : Int) (x32 : Int) (h0 : List (Int × Int)) (r : List W) (lh : Heap) : FL1 E H32 Try.f32 0 r lh 0 (S32_L0 x31_0 x31_1 x31_2 x31_3 x32 h0) =
  (
   Br (decide (x32 < (4 : Int))) (
    Ck (decide ((0 : Int) ≤ x32)) (
     Ck (decide (x32 < (4 : Int))) (
      Br (!(decide (([x31_0, x31_1, x31_2, x31_3].getD x32.toNat 0) = (0 : Int)))) (
       Ck (Nat.ble ((h0.length + 1) * 16) roomy) (
        FL E H32 Try.f32 0 r lh 0 (S32_L0 x31_0 x31_1 x31_2 x31_3 (IntKind.wrap .i64 (x32 + 1)) (h0 ++ [(x32, ([x31_0, x31_1, x31_2, x31_3].getD x32.toNat 0))])))) (
       FL E H32 Try.f32 0 r lh 0 (S32_L0 x31_0 x31_1 x31_2 x31_3 (IntKind.wrap .i64 (x32 + 1)) h0))))) (
    Ck (decide ((0 : Int) ≤ ((h0.length : Nat) : Int))) (
     Ck (decide (((h0.length : Nat) : Int) ≤ ((h0.length : Nat) : Int))) (
      Ck (decide (((h0.length : Nat) : Int) ≤ ((h0.length : Nat) : Int))) (
       Ret r lh [.one (.sl 0 none)] [.row (.pair (.int .i64) (.int .i64)) (h0.take (((h0.length : Nat) : Int).toNat)) .own]))))) := by kernel_rfl
theorem l32 (v : V4) : ∀ (n i : Nat) (out : List Pat), i + n = 4 → out.length ≤ i → FL E H32 Try.f32 0 [.one (.sl 0 none)] [.row (.pair (.int .i64) (.int .i64)) (out ++ diffsR (fun j => v.l.getD j 0) i n) .own] 0 (S32_L0 v.1 v.2.1 v.2.2.1 v.2.2.2 (i : Int) out)
  | 0, i, out, h, ho => by
    refine FL_of1 ?_
    rw [eq32_L0, show out.take ((out.length : Int).toNat) = out by rw [Int.toNat_natCast, List.take_length]]
    exact Br_f (by omega) (Ck_d (by omega) (Ck_d (by omega) (Ck_d (by omega) ⟨rfl, by rw [diffsR, List.append_nil]⟩)))
  | n + 1, i, out, h, ho => by
    refine FL_of1 ?_
    rw [eq32_L0, wS (by omega), diffsR]
    simp only [Int.toNat_natCast]
    refine Br_t (by omega) (Ck_d (by omega) (Ck_d (by omega) (Br_nd (fun h1 => ?_) (fun h1 => ?_))))
    · have h1 : ¬ v.l.getD i 0 = 0 := h1
      rw [decide_eq_false h1, cond_false, ← List.append_assoc]
      exact Ck_room (by omega) (l32 v n (i + 1) (out ++ [((i : Int), v.l.getD i 0)]) (by omega) (by simp; omega))
    · have h1 : v.l.getD i 0 = 0 := h1
      rw [decide_eq_true h1, cond_true, List.nil_append]
      exact l32 v n (i + 1) out (by omega) (by omega)
theorem vminus_get {u v : V4} (hu : VOk u) (hv : VOk v) : ∀ j, j < 4 → (vminus v u).l.getD j 0 = difQ u.l v.l j := by
  obtain ⟨u0, u1, u2, u3⟩ := u
  obtain ⟨v0, v1, v2, v3⟩ := v
  obtain ⟨⟨_, _⟩, ⟨_, _⟩, ⟨_, _⟩, _, _⟩ := hu
  obtain ⟨⟨_, _⟩, ⟨_, _⟩, ⟨_, _⟩, _, _⟩ := hv
  intro j hj
  have : j = 0 ∨ j = 1 ∨ j = 2 ∨ j = 3 := by omega
  rcases this with rfl | rfl | rfl | rfl <;> simp only [V4.l, vminus, vplus, vtimes, difQ, List.getD_cons_zero, List.getD_cons_succ] <;> simp only at * <;> omega
theorem c32 (a b : List Int) (ha : a.length ≤ 1048576) (hb : b.length ≤ 1048576) : SC P 32 [.one (.ro (.int .i64) a), .one (.ro (.int .i64) b)] [] [.one (.sl 0 none)] [.row (.pair (.int .i64) (.int .i64)) (patchOfF a b) .own] := by
  refine SC_of_FB (H := H32) E_ok Try.func32 (by kernel_rfl) ?_
  rw [eq32]
  refine ⟨((vecF a).1, (vecF a).2.1, (vecF a).2.2.1, (vecF a).2.2.2, vecOk a), c71 a ha, ((vecF b).1, (vecF b).2.1, (vecF b).2.2.1, (vecF b).2.2.2, vecOk b), c71 b hb, Br_nb (fun e => ⟨rfl, by rw [patchOfF, show vecOk a = false from e]; rfl⟩) (fun e => Br_nb (fun e' => ⟨rfl, by rw [patchOfF, show vecOk b = false from e', Bool.and_false]; rfl⟩) (fun e' => ?_))⟩
  have e : vecOk a = true := e
  have e' : vecOk b = true := e'
  rw [patchOfF, e, e']
  obtain ⟨u, hu, rfl⟩ := vecOk_v e
  obtain ⟨v, hv, rfl⟩ := vecOk_v e'
  rw [vecF_l hu, vecF_l hv]
  refine ⟨vminus v u, c87 v u hv hu, ?_⟩
  have := l32 (vminus v u) 4 0 [] (by omega) (by simp)
  rw [diffsR_congr (fun j _ hj => vminus_get hu hv j (by omega))] at this
  exact this
/-! loop.example/keelson/spec.l2Dot -/
def H132 : Hint := ⟨[[(0, 0, .bool), (1, 0, .bool), (5, 0, .bool), (6, 0, .bool)]], [], [(5, [0, 1, 2, 3, 4, 5, 6, 7, 8, 9, 10, 11, 12])], [], [], []⟩
def S132_L0 (a0 : List Int) (b1 : List Int) (n5 : Int) (i6 : Int) : St := ⟨[(0, .w (.one (.ro (.int .i64) a0))), (1, .w (.one (.ro (.int .i64) b1))), (5, .w (.one (.int .i64 n5))), (6, .w (.one (.int .i64 i6)))], []⟩
theorem eq132 (a : List Int) (b : List Int) (r : List W) (lh : Heap) : FB E H132 Try.f132 [.one (.ro (.int .i64) a), .one (.ro (.int .i64) b)] [] r lh =
  (
   FL E H132 Try.f132 0 r lh 0 (S132_L0 a b 0 0)) := by kernel_rfl
theorem eq132_L0 (a0 : List Int) (b1 : List Int) (n5 : Int) (i6 : Int) (r : List W) (lh : Heap) : FL1 E H132 Try.f132 0 r lh 0 (S132_L0 a0 b1 n5 i6) =
  (
   Br (decide (i6 < ((a0.length : Nat) : Int))) (
    Ck (decide ((0 : Int) ≤ i6)) (
     Ck (decide (i6 < ((a0.length : Nat) : Int))) (
      Ck (decide ((0 : Int) ≤ i6)) (
       Ck (decide (i6 < ((b1.length : Nat) : Int))) (
        FL E H132 Try.f132 0 r lh 0 (S132_L0 a0 b1 (Int.tmod (IntKind.wrap .i64 (n5 + (IntKind.wrap .i64 ((a0.getD i6.toNat 0) * (b1.getD i6.toNat 0))))) 31) (IntKind.wrap .i64 (i6 + 1)))))))) (
    Ret r lh [.one (.int .i64 n5)] [])) := by kernel_rfl
theorem c132 (v u : V4) (hv : VOk v) (hu : VOk u) : SC P 132 [.one (.ro (.int .i64) v.l), .one (.ro (.int .i64) u.l)] [] [.one (.int .i64 (dotF v u))] [] := by
  refine SC_of_FB (H := H132) E_ok Try.func132 (by kernel_rfl) ?_
  rw [eq132]
  have step : ∀ (i : Nat) (s : Int), i < 4 → FOk s → FL E H132 Try.f132 0 [.one (.int .i64 (dotF v u))] [] 0 (S132_L0 v.l u.l ((s + v.l.getD i 0 * u.l.getD i 0) % 31) ((i + 1 : Nat) : Int)) →
      FL E H132 Try.f132 0 [.one (.int .i64 (dotF v u))] [] 0 (S132_L0 v.l u.l s (i : Int)) := by
    intro i s hi hs hF
    have hvl : v.l.length = 4 := rfl
    have hul : u.l.length = 4 := rfl
    have hm := fok_mul (vok_get hv i) (vok_get hu i)
    have := hs.1; have := hs.2
    refine FL_of1 ?_
    rw [eq132_L0, wS (by omega)]
    simp only [Int.toNat_natCast]
    rw [wrap64 (n := v.l.getD i 0 * u.l.getD i 0) (by omega) (by omega), wrap64 (n := s + v.l.getD i 0 * u.l.getD i 0) (by omega) (by omega), Int.tmod_eq_emod_of_nonneg (by omega)]
    exact Br_t (by omega) (Ck_d (by omega) (Ck_d (by omega) (Ck_d (by omega) (Ck_d (by omega) hF))))
  refine step 0 0 (by omega) ⟨by omega, by omega⟩ (step 1 _ (by omega) (fok_mod _) (step 2 _ (by omega) (fok_mod _) (step 3 _ (by omega) (fok_mod _) ?_)))
  refine FL_of1 ?_
  rw [eq132_L0]
  refine Br_f (by simp [V4.l]) ⟨?_, rfl⟩
  rw [dotF]
  simp only [V4.l, List.getD_cons_zero, List.getD_cons_succ]
  congr 3
  omega
/-! loop.example/keelson/spec.l4Row -/
def H104 : Hint := ⟨[], [], [], [], [.one (.c (.sl (.int .i64)))], []⟩
theorem eq104 (kind : Int) (at0 : Int) (r : List W) (lh : Heap) : FB E H104 Try.f104 [.one (.int .i64 kind), .one (.int .i64 at0)] [] r lh =
  (
   Br (decide (kind = (1 : Int))) (
    Ck (decide ((0 : Int) ≤ at0)) (
     Ck (decide (at0 < (8 : Int))) (
      Ck (Nat.ble (at0.toNat + 1) 8) (
       Ret r lh [.one (.ro (.int .i64) ([[1, 0, 0, 0], [0, 1, 0, 0], [0, 0, 1, 0], [0, 0, 0, 1], [1, 1, 0, 0], [0, 0, 1, 1], [1, 2, 4, 8], [1, 3, 9, 27]].getD at0.toNat []))] [])))) (
    Ret r lh [.one (.ro (.int .i64) [1, (IntKind.wrap .i64 (at0 + 1)), (Int.tmod (IntKind.wrap .i64 ((IntKind.wrap .i64 (at0 + 1)) * (IntKind.wrap .i64 (at0 + 1)))) 31), (Int.tmod (IntKind.wrap .i64 ((IntKind.wrap .i64 ((IntKind.wrap .i64 (at0 + 1)) * (IntKind.wrap .i64 (at0 + 1)))) * (IntKind.wrap .i64 (at0 + 1)))) 31)])] [])) := by kernel_rfl
theorem c104 (kind i : Int) (hk : inB kind 1 2 = true) (h0 : 0 ≤ i) (h1 : i ≤ 7) : SC P 104 [.one (.int .i64 kind), .one (.int .i64 i)] [] [.one (.ro (.int .i64) (rowV kind i).l)] [] := by
  refine SC_of_FB (H := H104) E_ok Try.func104 (by kernel_rfl) ?_
  rw [eq104]
  have hk := inB_iff.1 hk
  have : i = 0 ∨ i = 1 ∨ i = 2 ∨ i = 3 ∨ i = 4 ∨ i = 5 ∨ i = 6 ∨ i = 7 := by omega
  refine Br_d (fun e => ?_) (fun e => ?_)
  · subst e
    rcases this with rfl | rfl | rfl | rfl | rfl | rfl | rfl | rfl <;> exact Ck_d (by omega) (Ck_d (by omega) (Ck_le (by decide) ⟨rfl, rfl⟩))
  · obtain rfl : kind = 2 := by omega
    rcases this with rfl | rfl | rfl | rfl | rfl | rfl | rfl | rfl <;> exact ⟨rfl, rfl⟩
/-! loop.example/keelson/spec.l4All -/
def H120 : Hint := ⟨[[(0, 0, .bool), (1, 0, .bool), (5, 0, .bool), (6, 0, .bool)]], [], [], [], [], []⟩
def S120_L0 (kind0 : Int) (data1 : List Int) (x6 : Int) (h0 : List Int) : St := ⟨[(0, .w (.one (.int .i64 kind0))), (1, .w (.one (.ro (.int .i64) data1))), (5, .w (.one (.sl 0 none))), (6, .w (.one (.int .i64 x6)))], [.row (.int .i64) h0 .own]⟩
theorem eq120 (kind : Int) (data : List Int) (r : List W) (lh : Heap) : FB E H120 Try.f120 [.one (.int .i64 kind), .one (.ro (.int .i64) data)] [] r lh =
  (
   FL E H120 Try.f120 0 r lh 0 (S120_L0 kind data 0 [])) := by kernel_rfl
theorem eq120_L0 (kind0 : Int) (data1 : List Int) (x6 : Int) (h0 : List Int) (r : List W) (lh : Heap) : FL1 E H120 Try.f120 0 r lh 0 (S120_L0 kind0 data1 x6 h0) =
  (
   Br (decide (x6 < (8 : Int))) (
    ∃ r0 : List Int, SC P 104 [.one (.int .i64 kind0), .one (.int .i64 x6)] [] [.one (.ro (.int .i64) r0)] [] ∧
     ∃ r1 : Int, SC P 132 [.one (.ro (.int .i64) r0), .one (.ro (.int .i64) data1)] [] [.one (.int .i64 r1)] [] ∧
      Ck (Nat.ble ((h0.length + 1) * 8) roomy) (
       FL E H120 Try.f120 0 r lh 0 (S120_L0 kind0 data1 (IntKind.wrap .i64 (x6 + 1)) (h0 ++ [r1])))) (
    Ret r lh [.one (.sl 0 none)] [.row (.int .i64) h0 .own])) := by kernel_rfl
theorem l120 (kind : Int) (hk : inB kind 1 2 = true) (d : V4) (hd : VOk d) : ∀ (n i : Nat) (out : List Int), i + n = 8 → out.length = i → FL E H120 Try.f120 0 [.one (.sl 0 none)] [.row (.int .i64) (out ++ mapR (fun j => dotF (rowV kind (j : Int)) d) i n) .own] 0 (S120_L0 kind d.l (i : Int) out)
  | 0, i, out, h, ho => by
    refine FL_of1 ?_
    rw [eq120_L0]
    exact Br_f (by omega) ⟨rfl, by rw [mapR, List.append_nil]⟩
  | n + 1, i, out, h, ho => by
    refine FL_of1 ?_
    rw [eq120_L0, wS (by omega), mapR]
    refine Br_t (by omega) ⟨(rowV kind (i : Int)).l, c104 kind (i : Int) hk (by omega) (by omega), dotF (rowV kind (i : Int)) d, c132 _ d (rowV_ok _ _) hd, Ck_room (by omega) ?_⟩
    have := l120 kind hk d hd n (i + 1) (out ++ [dotF (rowV kind (i : Int)) d]) (by omega) (by simp; omega)
    rw [List.append_assoc] at this
    exact this
theorem c120 (kind : Int) (hk : inB kind 1 2 = true) (d : V4) (hd : VOk d) : SC P 120 [.one (.int .i64 kind), .one (.ro (.int .i64) d.l)] [] [.one (.sl 0 none)] [.row (.int .i64) (allF kind d) .own] := by
  refine SC_of_FB (H := H120) E_ok Try.func120 (by kernel_rfl) ?_
  rw [eq120]
  exact l120 kind hk d hd 8 0 [] (by omega) rfl
theorem set_unit {p : Pat} (h : patchOk p = true) : [0, 0, 0, 0].set p.1.toNat p.2 = (vtimes (unitF p.1) p.2).l := by
  obtain ⟨a, q⟩ := p
  obtain ⟨⟨p0, p1⟩, q0, q1⟩ := patchOk_iff.1 h
  simp only at p0 p1 q0 q1
  have e1 : 1 * q % 31 = q := by omega
  have e0 : 0 * q % 31 = 0 := by omega
  have : a = 0 ∨ a = 1 ∨ a = 2 ∨ a = 3 := by omega
  rcases this with rfl | rfl | rfl | rfl
  · show [q, 0, 0, 0] = [1 * q % 31, 0 * q % 31, 0 * q % 31, 0 * q % 31]
    rw [e1, e0]
  · show [0, q, 0, 0] = [0 * q % 31, 1 * q % 31, 0 * q % 31, 0 * q % 31]
    rw [e1, e0]
  · show [0, 0, q, 0] = [0 * q % 31, 0 * q % 31, 1 * q % 31, 0 * q % 31]
    rw [e1, e0]
  · show [0, 0, 0, q] = [0 * q % 31, 0 * q % 31, 0 * q % 31, 1 * q % 31]
    rw [e1, e0]
/-! loop.example/keelson/spec.l22Row -/
def H80 : Hint := ⟨[], [], [], [], [], []⟩
theorem eq80 (kind : Int) (p : (Int × Int)) (r : List W) (lh : Heap) : FB E H80 Try.f80 [.one (.int .i64 kind), .agg [.int .i64 p.1, .int .i64 p.2]] [] r lh =
  (
   Ck (decide ((0 : Int) ≤ p.1)) (
    Ck (decide (p.1 < (4 : Int))) (
     Ck (Nat.ble (p.1.toNat + 1) 4) (
      ∃ r0 : List Int, SC P 120 [.one (.int .i64 kind), .one (.ro (.int .i64) ([0, 0, 0, 0].set p.1.toNat p.2))] [] [.one (.sl 0 none)] [.row (.int .i64) r0 .own] ∧
       Ret r lh [.one (.sl 0 none)] [.row (.int .i64) r0 .own])))) := by kernel_rfl
theorem c80 (kind : Int) (p : Pat) (hk : inB kind 1 2 = true) (hp : patchOk p = true) : SC P 80 [.one (.int .i64 kind), .agg [.int .i64 p.1, .int .i64 p.2]] [] [.one (.sl 0 none)] [.row (.int .i64) (allF kind (vtimes (unitF p.1) p.2)) .own] := by
  refine SC_of_FB (H := H80) E_ok Try.func80 (by kernel_rfl) ?_
  rw [eq80]
  obtain ⟨⟨p0, p1⟩, q0, q1⟩ := patchOk_iff.1 hp
  rw [set_unit hp]
  exact Ck_d (by omega) (Ck_d (by omega) (Ck_le (by omega) ⟨_, c120 kind hk _ (vtimes_ok _ _), rfl, rfl⟩))
/-! loop.example/keelson/spec.PatchRow -/
def H23 : Hint := ⟨[], [], [], [], [], []⟩
theorem eq23 (kind : Int) (p : (Int × Int)) (r : List W) (lh : Heap) : FB E H23 Try.f23 [.one (.int .i64 kind), .agg [.int .i64 p.1, .int .i64 p.2]] [] r lh =
  (
   ∃ r0 : Bool, SC P 79 [.one (.int .i64 kind)] [] [.one (.bool r0)] [] ∧
    Br (!r0) (
     Ret r lh [.one (.sl 0 none)] [.row (.int .i64) [] .own]) (
     ∃ r1 : Bool, SC P 17 [.agg [.int .i64 p.1, .int .i64 p.2]] [] [.one (.bool r1)] [] ∧
      Br (!r1) (
       Ret r lh [.one (.sl 0 none)] [.row (.int .i64) [] .own]) (
       ∃ r2 : List Int, SC P 80 [.one (.int .i64 kind), .agg [.int .i64 p.1, .int .i64 p.2]] [] [.one (.sl 0 none)] [.row (.int .i64) r2 .own] ∧
        Ret r lh [.one (.sl 0 none)] [.row (.int .i64) r2 .own]))) := by kernel_rfl
theorem c23 (kind : Int) (p : Pat) : SC P 23 [.one (.int .i64 kind), .agg [.int .i64 p.1, .int .i64 p.2]] [] [.one (.sl 0 none)] [.row (.int .i64) (patchRowF kind p) .own] := by
  refine SC_of_FB (H := H23) E_ok Try.func23 (by kernel_rfl) ?_
  rw [eq23]
  refine ⟨_, c79 kind, Br_nb (fun e => ⟨rfl, by rw [patchRowF, e]; rfl⟩) (fun e => ⟨_, c17 p, Br_nb (fun e' => ⟨rfl, by rw [patchRowF, e', Bool.and_false]; rfl⟩) (fun e' => ⟨_, c80 kind p e e', rfl, by rw [patchRowF, e, e']; rfl⟩)⟩)⟩
/-! loop.example/keelson/impl.PatchRow -/
def H25 : Hint := ⟨[], [], [(3, [0, 1, 2, 4, 5, 3, 6, 7, 8])], [], [.one (.own (.int .i64))], []⟩
theorem eq25 (kind : Int) (p : (Int × Int)) (r : List W) (lh : Heap) : FB E H25 Try.f25 [.one (.int .i64 kind), .agg [.int .i64 p.1, .int .i64 p.2]] [] r lh =
  (
   ∃ r0 : Bool, SC P 81 [.one (.int .i64 kind)] [] [.one (.bool r0)] [] ∧
    Br (!r0) (
     Ret r lh [.one (.sl 0 none)] [.row (.int .i64) [] .own]) (
     ∃ r1 : Bool, SC P 16 [.agg [.int .i64 p.1, .int .i64 p.2]] [] [.one (.bool r1)] [] ∧
      Br (!r1) (
       Ret r lh [.one (.sl 0 none)] [.row (.int .i64) [] .own]) (
       ∃ r2 : Int × Int × Int × Int, SC P 83 [.one (.int .i64 p.1)] [] [.agg [.int .i64 r2.1, .int .i64 r2.2.1, .int .i64 r2.2.2.1, .int .i64 r2.2.2.2]] [] ∧
        ∃ r3 : Int × Int × Int × Int, SC P 84 [.agg [.int .i64 r2.1, .int .i64 r2.2.1, .int .i64 r2.2.2.1, .int .i64 r2.2.2.2], .one (.int .i64 p.2)] [] [.agg [.int .i64 r3.1, .int .i64 r3.2.1, .int .i64 r3.2.2.1, .int .i64 r3.2.2.2]] [] ∧
         ∃ r4 : List Int, SC P 82 [.one (.int .i64 kind), .agg [.int .i64 r3.1, .int .i64 r3.2.1, .int .i64 r3.2.2.1, .int .i64 r3.2.2.2]] [] [.one (.sl 0 none)] [.row (.int .i64) r4 .own] ∧
          Ret r lh [.one (.sl 0 none)] [.row (.int .i64) r4 .own]))) := by kernel_rfl
theorem c25 (kind : Int) (p : Pat) : SC P 25 [.one (.int .i64 kind), .agg [.int .i64 p.1, .int .i64 p.2]] [] [.one (.sl 0 none)] [.row (.int .i64) (patchRowF kind p) .own] := by
  refine SC_of_FB (H := H25) E_ok Try.func25 (by kernel_rfl) ?_
  rw [eq25]
  refine ⟨_, c81 kind, Br_nb (fun e => ⟨rfl, by rw [patchRowF, e]; rfl⟩) (fun e => ⟨_, c16 p, Br_nb (fun e' => ⟨rfl, by rw [patchRowF, e', Bool.and_false]; rfl⟩) (fun e' => ?_)⟩)⟩
  obtain ⟨⟨p0, p1⟩, q0, q1⟩ := patchOk_iff.1 e'
  refine ⟨unitF p.1, c83 _ (by omega) (by omega), vtimes (unitF p.1) p.2, c84 _ _ (unitF_ok _) ⟨by omega, by omega⟩, _, c82 kind _ (vtimes_ok _ _), rfl, by rw [patchRowF, e, e']; rfl⟩
/-! loop.example/keelson/laws.toPatchS -/
def H37 : Hint := ⟨[[(0, 0, .bool), (3, 0, .bool), (4, 0, .bool)]], [], [], [], [], []⟩
def S37_L0 (a0 : List (Int × Int)) (i4 : Int) (h0 : List (Int × Int)) : St := ⟨[(0, .w (.one (.ro (.pair (.int .i64) (.int .i64)) a0))), (3, .w (.one (.sl 0 none))), (4, .w (.one (.int .i64 i4)))], [.row (.pair (.int .i64) (.int .i64)) h0 .own]⟩
theorem eq37 (a : List (Int × Int)) (r : List W) (lh : Heap) : FB E H37 Try.f37 [.one (.ro (.pair (.int .i64) (.int .i64)) a)] [] r lh =
  (
   Ck (decide ((0 : Int) ≤ ((a.length : Nat) : Int))) (
    Ck (decide (((a.length : Nat) : Int) ≤ ((a.length : Nat) : Int))) (
     Ck (decide (((a.length : Nat) : Int) * (16 : Nat) ≤ (roomy : Int))) (
      FL E H37 Try.f37 0 r lh 0 (S37_L0 a 0 (List.replicate (((a.length : Nat) : Int).toNat) ((0, 0) : (Int × Int)))))))) := by kernel_rfl
theorem eq37_L0 (a0 : List (Int × Int)) (i4 : Int) (h0 : List (Int × Int)) (r : List W) (lh : Heap) : FL1 E H37 Try.f37 0 r lh 0 (S37_L0 a0 i4 h0) =
  (
   Br (decide (i4 < ((a0.length : Nat) : Int))) (
    Ck (decide ((0 : Int) ≤ i4)) (
     Ck (decide (i4 < ((a0.length : Nat) : Int))) (
      ∃ r0 : Int × Int, SC P 24 [.agg [.int .i64 ((a0.getD i4.toNat (0, 0)).1), .int .i64 ((a0.getD i4.toNat (0, 0)).2)]] [] [.agg [.int .i64 r0.1, .int .i64 r0.2]] [] ∧
       Ck (decide ((0 : Int) ≤ i4)) (
        Ck (decide (i4 < ((h0.length : Nat) : Int))) (
         Ck (Nat.blt i4.toNat h0.length) (
          FL E H37 Try.f37 0 r lh 0 (S37_L0 a0 (IntKind.wrap .i64 (i4 + 1)) (h0.set i4.toNat (r0.1, r0.2))))))))) (
    Ret r lh [.one (.sl 0 none)] [.row (.pair (.int .i64) (.int .i64)) h0 .own])) := by kernel_rfl
theorem l37 (l : List Pat) (hl : l.length ≤ 1048576) : ∀ (n i : Nat) (out : List Pat), i + n = l.length → out.length = l.length → (∀ j, j < i → out[j]? = l[j]?) → FL E H37 Try.f37 0 [.one (.sl 0 none)] [.row (.pair (.int .i64) (.int .i64)) l .own] 0 (S37_L0 l (i : Int) out)
  | 0, i, out, h, ho, H => by
    refine FL_of1 ?_
    rw [eq37_L0]
    obtain rfl : out = l := fill_done ho fun j hj => H j (by omega)
    exact Br_f (by omega) ⟨rfl, rfl⟩
  | n + 1, i, out, h, ho, H => by
    refine FL_of1 ?_
    rw [eq37_L0, wS (by omega)]
    simp only [Int.toNat_natCast]
    refine Br_t (by omega) (Ck_d (by omega) (Ck_d (by omega) ⟨_, c24 (l.getD i (0, 0)), Ck_d (by omega) (Ck_d (by omega) (Ck_lt (by omega) ?_))⟩))
    refine l37 l hl n (i + 1) _ (by omega) (by simp [ho]) (fill_step ho ?_ H)
    rw [getD_eq (show i < l.length by omega)]
    exact List.getElem?_eq_getElem _
theorem c37 (l : List Pat) (hl : l.length ≤ 1048576) : SC P 37 [.one (.ro (.pair (.int .i64) (.int .i64)) l)] [] [.one (.sl 0 none)] [.row (.pair (.int .i64) (.int .i64)) l .own] := by
  refine SC_of_FB (H := H37) E_ok Try.func37 (by kernel_rfl) ?_
  rw [eq37]
  refine Ck_d (by omega) (Ck_d (by omega) (Ck_roomI (by omega) ?_))
  exact l37 l hl l.length 0 _ (by omega) (by simp) (fun j hj => absurd hj (by omega))
/-! loop.example/keelson/laws.eqPatch -/
def H88 : Hint := ⟨[], [], [], [], [], []⟩
theorem eq88 (a : (Int × Int)) (b : (Int × Int)) (r : List W) (lh : Heap) : FB E H88 Try.f88 [.agg [.int .i64 a.1, .int .i64 a.2], .agg [.int .i64 b.1, .int .i64 b.2]] [] r lh =
  (
   Br (!(decide (a.1 = b.1))) (
    Ret r lh [.one (.bool false)] []) (
    Br (!(decide (a.2 = b.2))) (
     Ret r lh [.one (.bool false)] []) (
     Ret r lh [.one (.bool true)] []))) := by kernel_rfl
theorem c88 (a b : Pat) : SC P 88 [.agg [.int .i64 a.1, .int .i64 a.2], .agg [.int .i64 b.1, .int .i64 b.2]] [] [.one (.bool (decide (a = b)))] [] := by
  refine SC_of_FB (H := H88) E_ok Try.func88 (by kernel_rfl) ?_
  rw [eq88]
  obtain ⟨a1, a2⟩ := a
  obtain ⟨b1, b2⟩ := b
  exact Br_nd (fun h => ⟨by simp [h], rfl⟩) (fun h => Br_nd (fun h' => ⟨by simp [h'], rfl⟩) (fun h' => ⟨by simp_all, rfl⟩))
/-! loop.example/keelson/laws.eqPatchS -/
def H33 : Hint := ⟨[[(0, 0, .bool), (1, 0, .bool), (5, 0, .bool)]], [], [(6, [0, 1, 2, 3, 4, 5, 6, 7, 8, 9])], [], [], []⟩
def S33_L0 (a0 : List (Int × Int)) (b1 : List (Int × Int)) (i5 : Int) : St := ⟨[(0, .w (.one (.ro (.pair (.int .i64) (.int .i64)) a0))), (1, .w (.one (.ro (.pair (.int .i64) (.int .i64)) b1))), (5, .w (.one (.int .i64 i5)))], []⟩
theorem eq33 (a : List (Int × Int)) (b : List (Int × Int)) (r : List W) (lh : Heap) : FB E H33 Try.f33 [.one (.ro (.pair (.int .i64) (.int .i64)) a), .one (.ro (.pair (.int .i64) (.int .i64)) b)] [] r lh =
  (
   Br (!(decide (((a.length : Nat) : Int) = ((b.length : Nat) : Int)))) (
    Ret r lh [.one (.bool false)] []) (
    FL E H33 Try.f33 0 r lh 0 (S33_L0 a b 0))) := by kernel_rfl
theorem eq33_L0 (a0 : List (Int × Int)) (b1 : List (Int × Int)) (i5 : Int) (r : List W) (lh : Heap) : FL1 E H33 Try.f33 0 r lh 0 (S33_L0 a0 b1 i5) =
  (
   Br (decide (i5 < ((a0.length : Nat) : Int))) (
    Ck (decide ((0 : Int) ≤ i5)) (
     Ck (decide (i5 < ((a0.length : Nat) : Int))) (
      Ck (decide ((0 : Int) ≤ i5)) (
       Ck (decide (i5 < ((b1.length : Nat) : Int))) (
        ∃ r0 : Bool, SC P 88 [.agg [.int .i64 ((a0.getD i5.toNat (0, 0)).1), .int .i64 ((a0.getD i5.toNat (0, 0)).2)], .agg [.int .i64 ((b1.getD i5.toNat (0, 0)).1), .int .i64 ((b1.getD i5.toNat (0, 0)).2)]] [] [.one (.bool r0)] [] ∧
         Br (!r0) (
          Ret r lh [.one (.bool false)] []) (
          FL E H33 Try.f33 0 r lh 0 (S33_L0 a0 b1 (IntKind.wrap .i64 (i5 + 1))))))))) (
    Ret r lh [.one (.bool true)] [])) := by kernel_rfl
theorem l33 (a b : List Pat) (hl : a.length ≤ 1048576) (hb : a.length = b.length) : ∀ (n i : Nat), i + n = a.length → FL E H33 Try.f33 0 [.one (.bool (allR (fun j => decide (a.getD j (0, 0) = b.getD j (0, 0))) i n))] [] 0 (S33_L0 a b (i : Int))
  | 0, i, h => by
    refine FL_of1 ?_
    rw [eq33_L0]
    exact Br_f (by omega) ⟨rfl, rfl⟩
  | n + 1, i, h => by
    refine FL_of1 ?_
    rw [eq33_L0, wS (by omega)]
    simp only [Int.toNat_natCast]
    refine Br_t (by omega) (Ck_d (by omega) (Ck_d (by omega) (Ck_d (by omega) (Ck_d (by omega) ⟨_, c88 (a.getD i (0, 0)) (b.getD i (0, 0)), Br_nb (fun h1 => ?_) (fun h1 => ?_)⟩))))
    · exact ⟨by rw [allR_f h1], rfl⟩
    · rw [allR_t h1]
      exact l33 a b hl hb n (i + 1) (by omega)
theorem c33 (a b : List Pat) (hl : a.length ≤ 1048576) : SC P 33 [.one (.ro (.pair (.int .i64) (.int .i64)) a), .one (.ro (.pair (.int .i64) (.int .i64)) b)] [] [.one (.bool (decide (a = b)))] [] := by
  refine SC_of_FB (H := H33) E_ok Try.func33 (by kernel_rfl) ?_
  rw [eq33]
  refine Br_nd (fun h => ⟨?_, rfl⟩) (fun h => ?_)
  · rw [decide_eq_false (by rintro rfl; exact h rfl)]
  · have h : a.length = b.length := by omega
    rw [← eqR (z := (0, 0)) h]
    exact l33 a b hl h a.length 0 (by omega)
/-! loop.example/keelson/laws.szPatchS -/
def H36 : Hint := ⟨[], [], [], [], [], []⟩
theorem eq36 (a : List (Int × Int)) (left : Int) (r : List W) (lh : Heap) : FB E H36 Try.f36 [.one (.ro (.pair (.int .i64) (.int .i64)) a), .one (.int .i64 left)] [] r lh =
  (
   Br (decide ((IntKind.wrap .i64 (left - ((a.length : Nat) : Int))) < (0 : Int))) (
    Ret r lh [.one (.int .i64 (-1))] []) (
    Ret r lh [.one (.int .i64 (IntKind.wrap .i64 (left - ((a.length : Nat) : Int))))] [])) := by kernel_rfl
theorem c36 (l : List Pat) (hl : l.length ≤ 9223372036854775807) : SC P 36 [.one (.ro (.pair (.int .i64) (.int .i64)) l), .one (.int .i64 1048576)] [] [.one (.int .i64 (bif decide (l.length ≤ 1048576) then 1048576 - (l.length : Int) else -1))] [] := by
  refine SC_of_FB (H := H36) E_ok Try.func36 (by kernel_rfl) ?_
  rw [eq36]
  rw [wrap64 (by omega) (by omega)]
  refine Br_d (fun h => ⟨?_, rfl⟩) (fun h => ⟨?_, rfl⟩)
  · rw [decide_eq_false (by omega)]; rfl
  · rw [decide_eq_true (by omega)]; rfl
def marksP (k : Int) (n : Nat) : List Pat := (List.range n).map fun i : Nat => (k + 2 * (i : Int), k + 2 * (i : Int) + 1)
theorem marksP_length {k : Int} {n : Nat} : (marksP k n).length = n := by simp [marksP]
theorem marksP_get {k : Int} {n i : Nat} (h : i < n) : (marksP k n)[i]? = some (k + 2 * (i : Int), k + 2 * (i : Int) + 1) := by
  simp [marksP, h]
theorem marksP_getD {k : Int} {n i : Nat} {z : Pat} (h : i < n) : (marksP k n).getD i z = (k + 2 * (i : Int), k + 2 * (i : Int) + 1) := by
  rw [List.getD, marksP_get h]; rfl
/-! loop.example/keelson/laws.markPatchS -/
def H34 : Hint := ⟨[[(0, 0, .bool), (1, 0, .bool), (5, 0, .bool)]], [], [], [], [], []⟩
def S34_L0 (k1 : Int) (i5 : Int) (h0 : List (Int × Int)) : St := ⟨[(0, .w (.one (.sl 0 none))), (1, .w (.one (.int .i64 k1))), (5, .w (.one (.int .i64 i5)))], [.row (.pair (.int .i64) (.int .i64)) h0 .own]⟩
theorem eq34 (l : List (Int × Int)) (k : Int) (r : List W) (lh : Heap) : FB E H34 Try.f34 [.one (.sl 0 none), .one (.int .i64 k)] [.row (.pair (.int .i64) (.int .i64)) l .own] r lh =
  (
   FL E H34 Try.f34 1 r lh 0 (S34_L0 k 0 l)) := by kernel_rfl
theorem eq34_L0 (k1 : Int) (i5 : Int) (h0 : List (Int × Int)) (r : List W) (lh : Heap) : FL1 E H34 Try.f34 1 r lh 0 (S34_L0 k1 i5 h0) =
  (
   Br (decide (i5 < ((h0.length : Nat) : Int))) (
    Ck (decide ((0 : Int) ≤ i5)) (
     Ck (decide (i5 < ((h0.length : Nat) : Int))) (
      Ck (Nat.blt i5.toNat h0.length) (
       Ck (decide ((0 : Int) ≤ i5)) (
        Ck (decide (i5 < (((h0.set i5.toNat (k1, (h0.getD i5.toNat (0, 0)).2)).length : Nat) : Int))) (
         Ck (Nat.blt i5.toNat ((h0.set i5.toNat (k1, (h0.getD i5.toNat (0, 0)).2)).length)) (
          FL E H34 Try.f34 1 r lh 0 (S34_L0 (IntKind.wrap .i64 ((IntKind.wrap .i64 (k1 + 1)) + 1)) (IntKind.wrap .i64 (i5 + 1)) ((h0.set i5.toNat (k1, (h0.getD i5.toNat (0, 0)).2)).set i5.toNat (((h0.set i5.toNat (k1, (h0.getD i5.toNat (0, 0)).2)).getD i5.toNat (0, 0)).1, (IntKind.wrap .i64 (k1 + 1)))))))))))) (
    Ret r lh [.one (.int .i64 k1)] [.row (.pair (.int .i64) (.int .i64)) h0 .own])) := by kernel_rfl
theorem l34 (k : Int) (m : Nat) (hm : m ≤ 1048576) (k0 : 0 ≤ k) (k1 : k ≤ 1073741824) : ∀ (n i : Nat) (out : List Pat), i + n = m → out.length = m → (∀ j, j < i → out[j]? = (marksP k m)[j]?) →
    FL E H34 Try.f34 1 [.one (.int .i64 (k + 2 * (m : Int)))] [.row (.pair (.int .i64) (.int .i64)) (marksP k m) .own] 0 (S34_L0 (k + 2 * (i : Int)) (i : Int) out)
  | 0, i, out, h, ho, H => by
    refine FL_of1 ?_
    rw [eq34_L0]
    obtain rfl : out = marksP k m := fill_done (by rw [marksP_length]; exact ho) fun j hj => H j (by rw [marksP_length] at hj; omega)
    refine Br_f (by omega) ⟨?_, rfl⟩
    rw [show (i : Int) = m by omega]
  | n + 1, i, out, h, ho, H => by
    refine FL_of1 ?_
    rw [eq34_L0, wS (by omega), wrap64 (n := k + 2 * (i : Int) + 1) (by omega) (by omega), wrap64 (n := k + 2 * (i : Int) + 1 + 1) (by omega) (by omega), show k + 2 * (i : Int) + 1 + 1 = k + 2 * ((i + 1 : Nat) : Int) by omega]
    simp only [Int.toNat_natCast, List.length_set]
    have e2 : ∀ x : Pat, (out.set i x).getD i (0, 0) = x := fun x => get_set_self (by omega)
    simp only [e2, List.set_set]
    refine Br_t (by omega) (Ck_d (by omega) (Ck_d (by omega) (Ck_lt (by omega) (Ck_d (by omega) (Ck_d (by omega) (Ck_lt (by omega) ?_))))))
    exact l34 k m hm k0 k1 n (i + 1) _ (by omega) (by simp [ho]) (fill_step (by rw [marksP_length]; exact ho) (by rw [marksP_get (by omega)]) H)
theorem c34 (l : List Pat) (k : Int) (hl : l.length ≤ 1048576) (k0 : 0 ≤ k) (k1 : k ≤ 1073741824) : SC P 34 [.one (.sl 0 none), .one (.int .i64 k)] [.row (.pair (.int .i64) (.int .i64)) l .own] [.one (.int .i64 (k + 2 * (l.length : Int)))] [.row (.pair (.int .i64) (.int .i64)) (marksP k l.length) .own] := by
  refine SC_of_FB (H := H34) E_ok Try.func34 (by kernel_rfl) ?_
  rw [eq34]
  have := l34 k l.length hl k0 k1 l.length 0 l (by omega) rfl (fun j hj => absurd hj (by omega))
  rw [show k + 2 * ((0 : Nat) : Int) = k by omega] at this
  exact this
/-! loop.example/keelson/laws.heldPatchS -/
def H35 : Hint := ⟨[[(0, 0, .bool), (1, 0, .bool), (5, 0, .bool)]], [], [], [], [], []⟩
def S35_L0 (a0 : List (Int × Int)) (k1 : Int) (i5 : Int) : St := ⟨[(0, .w (.one (.ro (.pair (.int .i64) (.int .i64)) a0))), (1, .w (.one (.int .i64 k1))), (5, .w (.one (.int .i64 i5)))], []⟩
theorem eq35 (a : List (Int × Int)) (k : Int) (r : List W) (lh : Heap) : FB E H35 Try.f35 [.one (.ro (.pair (.int .i64) (.int .i64)) a), .one (.int .i64 k)] [] r lh =
  (
   FL E H35 Try.f35 0 r lh 0 (S35_L0 a k 0)) := by kernel_rfl
theorem eq35_L0 (a0 : List (Int × Int)) (k1 : Int) (i5 : Int) (r : List W) (lh : Heap) : FL1 E H35 Try.f35 0 r lh 0 (S35_L0 a0 k1 i5) =
  (
   Br (decide (i5 < ((a0.length : Nat) : Int))) (
    Ck (decide ((0 : Int) ≤ i5)) (
     Ck (decide (i5 < ((a0.length : Nat) : Int))) (
      Br (!(decide ((a0.getD i5.toNat (0, 0)).1 = k1))) (
       Ret r lh [.one (.int .i64 (-1))] []) (
       Ck (decide ((0 : Int) ≤ i5)) (
        Ck (decide (i5 < ((a0.length : Nat) : Int))) (
         Br (!(decide ((a0.getD i5.toNat (0, 0)).2 = (IntKind.wrap .i64 (k1 + 1))))) (
          Ret r lh [.one (.int .i64 (-1))] []) (
          FL E H35 Try.f35 0 r lh 0 (S35_L0 a0 (IntKind.wrap .i64 ((IntKind.wrap .i64 (k1 + 1)) + 1)) (IntKind.wrap .i64 (i5 + 1)))))))))) (
    Ret r lh [.one (.int .i64 k1)] [])) := by kernel_rfl
theorem l35 (k : Int) (m : Nat) (hm : m ≤ 1048576) (k0 : 0 ≤ k) (k1 : k ≤ 1073741824) : ∀ (n i : Nat), i + n = m →
    FL E H35 Try.f35 0 [.one (.int .i64 (k + 2 * (m : Int)))] [] 0 (S35_L0 (marksP k m) (k + 2 * (i : Int)) (i : Int))
  | 0, i, h => by
    refine FL_of1 ?_
    rw [eq35_L0, marksP_length]
    refine Br_f (by omega) ⟨?_, rfl⟩
    rw [show (i : Int) = m by omega]
  | n + 1, i, h => by
    refine FL_of1 ?_
    rw [eq35_L0, marksP_length, wS (by omega), wrap64 (n := k + 2 * (i : Int) + 1) (by omega) (by omega), wrap64 (n := k + 2 * (i : Int) + 1 + 1) (by omega) (by omega), show k + 2 * (i : Int) + 1 + 1 = k + 2 * ((i + 1 : Nat) : Int) by omega]
    simp only [Int.toNat_natCast]
    have e := marksP_getD (k := k) (n := m) (i := i) (z := (0, 0)) (by omega)
    refine Br_t (by omega) (Ck_d (by omega) (Ck_d (by omega) (Br_nd (fun h1 => absurd (by rw [e]) h1) (fun _ => Ck_d (by omega) (Ck_d (by omega) (Br_nd (fun h1 => absurd (by rw [e]) h1) (fun _ => ?_)))))))
    exact l35 k m hm k0 k1 n (i + 1) (by omega)
theorem c35 (k : Int) (m : Nat) (hl : m ≤ 1048576) (k0 : 0 ≤ k) (k1 : k ≤ 1073741824) : SC P 35 [.one (.ro (.pair (.int .i64) (.int .i64)) (marksP k m)), .one (.int .i64 k)] [] [.one (.int .i64 (k + 2 * (m : Int)))] [] := by
  refine SC_of_FB (H := H35) E_ok Try.func35 (by kernel_rfl) ?_
  rw [eq35]
  have := l35 k m hl k0 k1 m 0 (by omega)
  rw [show k + 2 * ((0 : Nat) : Int) = k by omega] at this
  exact this
/-! loop.example/keelson/laws.FnExactPatchRow -/
def H5 : Hint := ⟨[], [], [], [], [], []⟩
theorem eq5 (aKind : Int) (aP : (Int × Int)) (r : List W) (lh : Heap) : FB E H5 Try.f5 [.one (.int .i64 aKind), .agg [.int .i64 aP.1, .int .i64 aP.2]] [] r lh =
  (
   ∃ r0 : Int × Int, SC P 24 [.agg [.int .i64 aP.1, .int .i64 aP.2]] [] [.agg [.int .i64 r0.1, .int .i64 r0.2]] [] ∧
    ∃ r1 : List Int, SC P 23 [.one (.int .i64 aKind), .agg [.int .i64 r0.1, .int .i64 r0.2]] [] [.one (.sl 0 none)] [.row (.int .i64) r1 .own] ∧
     ∃ r2 : Int × Int, SC P 24 [.agg [.int .i64 aP.1, .int .i64 aP.2]] [] [.agg [.int .i64 r2.1, .int .i64 r2.2]] [] ∧
      ∃ r3 : List Int, SC P 25 [.one (.int .i64 aKind), .agg [.int .i64 r2.1, .int .i64 r2.2]] [] [.one (.sl 0 none)] [.row (.int .i64) r3 .own] ∧
       ∃ r4 : Bool, SC P 26 [.one (.ro (.int .i64) r3), .one (.ro (.int .i64) r1)] [] [.one (.bool r4)] [] ∧
        Br (!r4) (
         Ret r lh [.one (.bool false)] []) (
         ∃ r5 : List Int × Int, SC P 27 [.one (.sl 0 none), .one (.int .i64 1)] [.row (.int .i64) r3 .own] [.one (.int .i64 r5.2)] [.row (.int .i64) r5.1 .own] ∧
          ∃ r6 : Int, SC P 28 [.one (.ro (.int .i64) r5.1), .one (.int .i64 1)] [] [.one (.int .i64 r6)] [] ∧
           Br (decide (r6 < (0 : Int))) (
            Ret r lh [.one (.bool false)] []) (
            Br (!(decide (r6 = r5.2))) (
             Ret r lh [.one (.bool false)] []) (
             ∃ r7 : Int × Int, SC P 24 [.agg [.int .i64 aP.1, .int .i64 aP.2]] [] [.agg [.int .i64 r7.1, .int .i64 r7.2]] [] ∧
              ∃ r8 : List Int, SC P 25 [.one (.int .i64 aKind), .agg [.int .i64 r7.1, .int .i64 r7.2]] [] [.one (.sl 0 none)] [.row (.int .i64) r8 .own] ∧
               ∃ r9 : Bool, SC P 26 [.one (.ro (.int .i64) r8), .one (.ro (.int .i64) r1)] [] [.one (.bool r9)] [] ∧
                Br (!r9) (
                 Ret r lh [.one (.bool false)] []) (
                 ∃ r10 : Int, SC P 28 [.one (.ro (.int .i64) r5.1), .one (.int .i64 1)] [] [.one (.int .i64 r10)] [] ∧
                  Br (decide (r10 < (0 : Int))) (
                   Ret r lh [.one (.bool false)] []) (
                   Br (!(decide (r10 = r5.2))) (
                    Ret r lh [.one (.bool false)] []) (
                    Ret r lh [.one (.bool true)] []))))))) := by kernel_rfl
theorem c5 (kind : Int) (p : Pat) : SC P 5 [.one (.int .i64 kind), .agg [.int .i64 p.1, .int .i64 p.2]] [] [.one (.bool true)] [] := by
  refine SC_of_FB (H := H5) E_ok Try.func5 (by kernel_rfl) ?_
  rw [eq5]
  have hr : (patchRowF kind p).length ≤ 1048576 := Nat.le_trans patchRowF_len (by omega)
  exact ⟨_, c24 p, _, c23 kind p, _, c24 p, _, c25 kind p, _, c26 _ _ hr, Br_nb (fun e => by simp at e) (fun _ => ⟨(_, _), c27 (patchRowF kind p) 1 hr (by omega) (by omega), _, c28 1 _ hr (by omega) (by omega), Br_f (by omega) (Br_nd (fun e => absurd rfl e) (fun _ =>
    ⟨_, c24 p, _, c25 kind p, _, c26 _ _ hr, Br_nb (fun e => by simp at e) (fun _ => ⟨_, c28 1 _ hr (by omega) (by omega), Br_f (by omega) (Br_nd (fun e => absurd rfl e) (fun _ => ⟨rfl, rfl⟩))⟩)⟩))⟩)⟩
/-! loop.example/keelson/laws.FnExactPatchOf -/
def H7 : Hint := ⟨[], [], [], [], [], []⟩
theorem eq7 (aA : List Int) (aB : List Int) (r : List W) (lh : Heap) : FB E H7 Try.f7 [.one (.ro (.int .i64) aA), .one (.ro (.int .i64) aB)] [] r lh =
  (
   Br (decide ((1048576 : Int) < ((aA.length : Nat) : Int))) (
    Ret r lh [.one (.bool true)] []) (
    Br (decide ((1048576 : Int) < ((aB.length : Nat) : Int))) (
     Ret r lh [.one (.bool true)] []) (
     ∃ r0 : List Int, SC P 31 [.one (.ro (.int .i64) aA)] [] [.one (.sl 0 none)] [.row (.int .i64) r0 .own] ∧
      ∃ r1 : List Int, SC P 31 [.one (.ro (.int .i64) aB)] [] [.one (.sl 0 none)] [.row (.int .i64) r1 .own] ∧
       ∃ r2 : List (Int × Int), SC P 30 [.one (.ro (.int .i64) r0), .one (.ro (.int .i64) r1)] [] [.one (.sl 0 none)] [.row (.pair (.int .i64) (.int .i64)) r2 .own] ∧
        ∃ r3 : List Int, SC P 31 [.one (.ro (.int .i64) aA)] [] [.one (.sl 0 none)] [.row (.int .i64) r3 .own] ∧
         ∃ r4 : List Int, SC P 31 [.one (.ro (.int .i64) aB)] [] [.one (.sl 0 none)] [.row (.int .i64) r4 .own] ∧
          ∃ r5 : List (Int × Int), SC P 32 [.one (.ro (.int .i64) r3), .one (.ro (.int .i64) r4)] [] [.one (.sl 0 none)] [.row (.pair (.int .i64) (.int .i64)) r5 .own] ∧
           ∃ r6 : Bool, SC P 33 [.one (.ro (.pair (.int .i64) (.int .i64)) r5), .one (.ro (.pair (.int .i64) (.int .i64)) r2)] [] [.one (.bool r6)] [] ∧
            Br (!r6) (
             Ret r lh [.one (.bool false)] []) (
             ∃ r7 : List Int, SC P 31 [.one (.ro (.int .i64) aA)] [] [.one (.sl 0 none)] [.row (.int .i64) r7 .own] ∧
              ∃ r8 : Bool, SC P 26 [.one (.ro (.int .i64) r3), .one (.ro (.int .i64) r7)] [] [.one (.bool r8)] [] ∧
               Br (!r8) (
                Ret r lh [.one (.bool false)] []) (
                ∃ r9 : List Int, SC P 31 [.one (.ro (.int .i64) aB)] [] [.one (.sl 0 none)] [.row (.int .i64) r9 .own] ∧
                 ∃ r10 : Bool, SC P 26 [.one (.ro (.int .i64) r4), .one (.ro (.int .i64) r9)] [] [.one (.bool r10)] [] ∧
                  Br (!r10) (
                   Ret r lh [.one (.bool false)] []) (
                   ∃ r11 : List Int × Int, SC P 27 [.one (.sl 0 none), .one (.int .i64 1)] [.row (.int .i64) r3 .own] [.one (.int .i64 r11.2)] [.row (.int .i64) r11.1 .own] ∧
                    ∃ r12 : List Int × Int, SC P 27 [.one (.sl 0 none), .one (.int .i64 r11.2)] [.row (.int .i64) r4 .own] [.one (.int .i64 r12.2)] [.row (.int .i64) r12.1 .own] ∧
                     Br (decide (r12.2 < (0 : Int))) (
                      Ret r lh [.one (.bool false)] []) (
                      ∃ r13 : Bool, SC P 33 [.one (.ro (.pair (.int .i64) (.int .i64)) r5), .one (.ro (.pair (.int .i64) (.int .i64)) r2)] [] [.one (.bool r13)] [] ∧
                       Br (!r13) (
                        Ret r lh [.one (.bool false)] []) (
                        ∃ r14 : List (Int × Int) × Int, SC P 34 [.one (.sl 0 none), .one (.int .i64 1)] [.row (.pair (.int .i64) (.int .i64)) r5 .own] [.one (.int .i64 r14.2)] [.row (.pair (.int .i64) (.int .i64)) r14.1 .own] ∧
                         ∃ r15 : Int, SC P 35 [.one (.ro (.pair (.int .i64) (.int .i64)) r14.1), .one (.int .i64 1)] [] [.one (.int .i64 r15)] [] ∧
                          Br (decide (r15 < (0 : Int))) (
                           Ret r lh [.one (.bool false)] []) (
                           Br (!(decide (r15 = r14.2))) (
                            Ret r lh [.one (.bool false)] []) (
                            ∃ r16 : List Int, SC P 31 [.one (.ro (.int .i64) aA)] [] [.one (.sl 0 none)] [.row (.int .i64) r16 .own] ∧
                             ∃ r17 : List Int, SC P 31 [.one (.ro (.int .i64) aB)] [] [.one (.sl 0 none)] [.row (.int .i64) r17 .own] ∧
                              ∃ r18 : List (Int × Int), SC P 32 [.one (.ro (.int .i64) r16), .one (.ro (.int .i64) r17)] [] [.one (.sl 0 none)] [.row (.pair (.int .i64) (.int .i64)) r18 .own] ∧
                               ∃ r19 : Bool, SC P 33 [.one (.ro (.pair (.int .i64) (.int .i64)) r18), .one (.ro (.pair (.int .i64) (.int .i64)) r2)] [] [.one (.bool r19)] [] ∧
                                Br (!r19) (
                                 Ret r lh [.one (.bool false)] []) (
                                 ∃ r20 : Int, SC P 35 [.one (.ro (.pair (.int .i64) (.int .i64)) r14.1), .one (.int .i64 1)] [] [.one (.int .i64 r20)] [] ∧
                                  Br (decide (r20 < (0 : Int))) (
                                   Ret r lh [.one (.bool false)] []) (
                                   Br (!(decide (r20 = r14.2))) (
                                    Ret r lh [.one (.bool false)] []) (
                                    Ret r lh [.one (.bool true)] []))))))))))))) := by kernel_rfl
theorem c7 (a b : List Int) : SC P 7 [.one (.ro (.int .i64) a), .one (.ro (.int .i64) b)] [] [.one (.bool true)] [] := by
  refine SC_of_FB (H := H7) E_ok Try.func7 (by kernel_rfl) ?_
  rw [eq7]
  refine Br_d (fun _ => ⟨rfl, rfl⟩) (fun h => Br_d (fun _ => ⟨rfl, rfl⟩) (fun h' => ?_))
  have ha : a.length ≤ 1048576 := by omega
  have hb : b.length ≤ 1048576 := by omega
  have hr : (patchOfF a b).length ≤ 1048576 := Nat.le_trans patchOfF_len (by omega)
  exact ⟨_, c31 a ha, _, c31 b hb, _, c30 a b ha hb, _, c31 a ha, _, c31 b hb, _, c32 a b ha hb, _, c33 _ _ hr, Br_nb (fun e => by simp at e) (fun _ => ⟨_, c31 a ha, _, c26 _ _ ha, Br_nb (fun e => by simp at e) (fun _ => ⟨_, c31 b hb, _, c26 _ _ hb, Br_nb (fun e => by simp at e) (fun _ => 
    ⟨(_, _), c27 a 1 ha (by omega) (by omega), (_, _), c27 b (1 + (a.length : Int)) hb (by omega) (by omega), Br_f (by dsimp only; omega) ⟨_, c33 _ _ hr, Br_nb (fun e => by simp at e) (fun _ => ⟨(_, _), c34 (patchOfF a b) 1 hr (by omega) (by omega), _, c35 1 _ hr (by omega) (by omega), Br_f (by omega) (Br_nd (fun e => absurd rfl e) (fun _ =>
    ⟨_, c31 a ha, _, c31 b hb, _, c32 a b ha hb, _, c33 _ _ hr, Br_nb (fun e => by simp at e) (fun _ => ⟨_, c35 1 _ hr (by omega) (by omega), Br_f (by omega) (Br_nd (fun e => absurd rfl e) (fun _ => ⟨rfl, rfl⟩))⟩)⟩))⟩)⟩⟩)⟩)⟩)⟩
/-! loop.example/keelson/laws.FnExactPatchData -/
def H8 : Hint := ⟨[], [], [], [], [], []⟩
theorem eq8 (aData : List Int) (aL : List (Int × Int)) (r : List W) (lh : Heap) : FB E H8 Try.f8 [.one (.ro (.int .i64) aData), .one (.ro (.pair (.int .i64) (.int .i64)) aL)] [] r lh =
  (
   Br (decide ((1048576 : Int) < ((aData.length : Nat) : Int))) (
    Ret r lh [.one (.bool true)] []) (
    ∃ r0 : Int, SC P 36 [.one (.ro (.pair (.int .i64) (.int .i64)) aL), .one (.int .i64 1048576)] [] [.one (.int .i64 r0)] [] ∧
     Br (decide (r0 < (0 : Int))) (
      Ret r lh [.one (.bool true)] []) (
      ∃ r1 : List Int, SC P 31 [.one (.ro (.int .i64) aData)] [] [.one (.sl 0 none)] [.row (.int .i64) r1 .own] ∧
       ∃ r2 : List (Int × Int), SC P 37 [.one (.ro (.pair (.int .i64) (.int .i64)) aL)] [] [.one (.sl 0 none)] [.row (.pair (.int .i64) (.int .i64)) r2 .own] ∧
        ∃ r3 : List Int, SC P 22 [.one (.ro (.int .i64) r1), .one (.ro (.pair (.int .i64) (.int .i64)) r2)] [] [.one (.sl 0 none)] [.row (.int .i64) r3 .own] ∧
         ∃ r4 : List Int, SC P 31 [.one (.ro (.int .i64) aData)] [] [.one (.sl 0 none)] [.row (.int .i64) r4 .own] ∧
          ∃ r5 : List (Int × Int), SC P 37 [.one (.ro (.pair (.int .i64) (.int .i64)) aL)] [] [.one (.sl 0 none)] [.row (.pair (.int .i64) (.int .i64)) r5 .own] ∧
           ∃ r6 : List Int, SC P 19 [.one (.ro (.int .i64) r4), .one (.ro (.pair (.int .i64) (.int .i64)) r5)] [] [.one (.sl 0 none)] [.row (.int .i64) r6 .own] ∧
            ∃ r7 : Bool, SC P 26 [.one (.ro (.int .i64) r6), .one (.ro (.int .i64) r3)] [] [.one (.bool r7)] [] ∧
             Br (!r7) (
              Ret r lh [.one (.bool false)] []) (
              ∃ r8 : List Int, SC P 31 [.one (.ro (.int .i64) aData)] [] [.one (.sl 0 none)] [.row (.int .i64) r8 .own] ∧
               ∃ r9 : Bool, SC P 26 [.one (.ro (.int .i64) r4), .one (.ro (.int .i64) r8)] [] [.one (.bool r9)] [] ∧
                Br (!r9) (
                 Ret r lh [.one (.bool false)] []) (
                 ∃ r10 : List (Int × Int), SC P 37 [.one (.ro (.pair (.int .i64) (.int .i64)) aL)] [] [.one (.sl 0 none)] [.row (.pair (.int .i64) (.int .i64)) r10 .own] ∧
                  ∃ r11 : Bool, SC P 33 [.one (.ro (.pair (.int .i64) (.int .i64)) r5), .one (.ro (.pair (.int .i64) (.int .i64)) r10)] [] [.one (.bool r11)] [] ∧
                   Br (!r11) (
                    Ret r lh [.one (.bool false)] []) (
                    ∃ r12 : List Int × Int, SC P 27 [.one (.sl 0 none), .one (.int .i64 1)] [.row (.int .i64) r4 .own] [.one (.int .i64 r12.2)] [.row (.int .i64) r12.1 .own] ∧
                     ∃ r13 : List (Int × Int) × Int, SC P 34 [.one (.sl 0 none), .one (.int .i64 r12.2)] [.row (.pair (.int .i64) (.int .i64)) r5 .own] [.one (.int .i64 r13.2)] [.row (.pair (.int .i64) (.int .i64)) r13.1 .own] ∧
                      Br (decide (r13.2 < (0 : Int))) (
                       Ret r lh [.one (.bool false)] []) (
                       ∃ r14 : Bool, SC P 26 [.one (.ro (.int .i64) r6), .one (.ro (.int .i64) r3)] [] [.one (.bool r14)] [] ∧
                        Br (!r14) (
                         Ret r lh [.one (.bool false)] []) (
                         ∃ r15 : List Int × Int, SC P 27 [.one (.sl 0 none), .one (.int .i64 1)] [.row (.int .i64) r6 .own] [.one (.int .i64 r15.2)] [.row (.int .i64) r15.1 .own] ∧
                          ∃ r16 : Int, SC P 28 [.one (.ro (.int .i64) r15.1), .one (.int .i64 1)] [] [.one (.int .i64 r16)] [] ∧
                           Br (decide (r16 < (0 : Int))) (
                            Ret r lh [.one (.bool false)] []) (
                            Br (!(decide (r16 = r15.2))) (
                             Ret r lh [.one (.bool false)] []) (
                             ∃ r17 : List Int, SC P 31 [.one (.ro (.int .i64) aData)] [] [.one (.sl 0 none)] [.row (.int .i64) r17 .own] ∧
                              ∃ r18 : List (Int × Int), SC P 37 [.one (.ro (.pair (.int .i64) (.int .i64)) aL)] [] [.one (.sl 0 none)] [.row (.pair (.int .i64) (.int .i64)) r18 .own] ∧
                               ∃ r19 : List Int, SC P 19 [.one (.ro (.int .i64) r17), .one (.ro (.pair (.int .i64) (.int .i64)) r18)] [] [.one (.sl 0 none)] [.row (.int .i64) r19 .own] ∧
                                ∃ r20 : Bool, SC P 26 [.one (.ro (.int .i64) r19), .one (.ro (.int .i64) r3)] [] [.one (.bool r20)] [] ∧
                                 Br (!r20) (
                                  Ret r lh [.one (.bool false)] []) (
                                  ∃ r21 : Int, SC P 28 [.one (.ro (.int .i64) r15.1), .one (.int .i64 1)] [] [.one (.int .i64 r21)] [] ∧
                                   Br (decide (r21 < (0 : Int))) (
                                    Ret r lh [.one (.bool false)] []) (
                                    Br (!(decide (r21 = r15.2))) (
                                     Ret r lh [.one (.bool false)] []) (
                                     Ret r lh [.one (.bool true)] []))))))))))))) := by kernel_rfl
theorem c8 (d : List Int) (l : List Pat) (hl : l.length ≤ 9223372036854775807) : SC P 8 [.one (.ro (.int .i64) d), .one (.ro (.pair (.int .i64) (.int .i64)) l)] [] [.one (.bool true)] [] := by
  refine SC_of_FB (H := H8) E_ok Try.func8 (by kernel_rfl) ?_
  rw [eq8]
  refine Br_d (fun _ => ⟨rfl, rfl⟩) (fun h' => ⟨_, c36 l hl, ?_⟩)
  have hd : d.length ≤ 1048576 := by omega
  have hr : (patchDataF d l).length ≤ 1048576 := Nat.le_trans patchDataF_len (by omega)
  by_cases h : l.length ≤ 1048576
  · rw [decide_eq_true h, cond_true]
    refine Br_f (by omega) ⟨_, c31 d hd, _, c37 l h, _, c22 d l hd h, _, c31 d hd, _, c37 l h, _, c19 d l hd h, _, c26 _ _ hr, Br_nb (fun e => by simp at e) (fun _ => ⟨_, c31 d hd, _, c26 _ _ hd, Br_nb (fun e => by simp at e) (fun _ => ⟨_, c37 l h, _, c33 _ _ h, Br_nb (fun e => by simp at e) (fun _ => 
      ⟨(_, _), c27 d 1 hd (by omega) (by omega), (_, _), c34 l (1 + (d.length : Int)) h (by omega) (by omega), Br_f (by dsimp only; omega) ⟨_, c26 _ _ hr, Br_nb (fun e => by simp at e) (fun _ => ⟨(_, _), c27 (patchDataF d l) 1 hr (by omega) (by omega), _, c28 1 _ hr (by omega) (by omega), Br_f (by omega) (Br_nd (fun e => absurd rfl e) (fun _ =>
      ⟨_, c31 d hd, _, c37 l h, _, c19 d l hd h, _, c26 _ _ hr, Br_nb (fun e => by simp at e) (fun _ => ⟨_, c28 1 _ hr (by omega) (by omega), Br_f (by omega) (Br_nd (fun e => absurd rfl e) (fun _ => ⟨rfl, rfl⟩))⟩)⟩))⟩)⟩⟩)⟩)⟩)⟩
  · rw [decide_eq_false h, cond_false]
    exact Br_t (by omega) ⟨rfl, rfl⟩
end Go.Proofs.Ythehpbbibfallaa.Sh
