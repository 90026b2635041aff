/- Patches: contracts, and the exact laws on them. -/
import Derived.Test.YtlebgbcoljnejaaShP1
namespace Go.Proofs.Ytlebgbcoljnejaa.Sh
open Go
set_option linter.unusedVariables false
set_option linter.unusedSimpArgs false
/-! loop.example/keelson/laws.toIntS -/
def H50 : Hint := ⟨[[(0, 0, .bool), (3, 0, .bool), (4, 0, .bool)]], [], [], [], [], [], []⟩
def S50_L0 (a0 : List Int) (i4 : Int) (h0 : List Int) : St := ⟨[(0, .w (.one (.ro (.int .i64) a0))), (3, .w (.one (.sl 0 none))), (4, .w (.one (.int .i64 i4)))], [.row (.int .i64) h0 .own]⟩
theorem eq50 (a : List Int) (r : List W) (lh : Heap) : FB E H50 Try.f50 [.one (.ro (.int .i64) a)] [] r lh =
  (
   Ck (decide ((0 : Int) ≤ ((a.length : Nat) : Int))) (
    Ck (decide (((a.length : Nat) : Int) ≤ ((a.length : Nat) : Int))) (
     Ck (decide (((a.length : Nat) : Int) * (8 : Nat) ≤ (roomy : Int))) (
      FL E H50 Try.f50 0 r lh 0 (S50_L0 a 0 (List.replicate (((a.length : Nat) : Int).toNat) (0 : Int))))))) := by kernel_rfl
theorem eq50_L0 (a0 : List Int) (i4 : Int) (h0 : List Int) (r : List W) (lh : Heap) : FL1 E H50 Try.f50 0 r lh 0 (S50_L0 a0 i4 h0) =
  (
   Br (decide (i4 < ((a0.length : Nat) : Int))) (
    Ck (decide ((0 : Int) ≤ i4)) (
     Ck (decide (i4 < ((a0.length : Nat) : Int))) (
      Ck (decide ((0 : Int) ≤ i4)) (
       Ck (decide (i4 < ((h0.length : Nat) : Int))) (
        Ck (Nat.ble (i4.toNat + 1) h0.length) (
         FL E H50 Try.f50 0 r lh 0 (S50_L0 a0 (IntKind.wrap .i64 (i4 + 1)) (h0.set i4.toNat (a0.getD i4.toNat 0))))))))) (
    Ret r lh [.one (.sl 0 none)] [.row (.int .i64) h0 .own])) := by kernel_rfl
theorem l50 (l : List Int) (hl : l.length ≤ 1048576) : ∀ (n i : Nat) (out : List Int), i + n = l.length → out.length = l.length → (∀ j, j < i → out[j]? = l[j]?) → FL E H50 Try.f50 0 [.one (.sl 0 none)] [.row (.int .i64) l .own] 0 (S50_L0 l (i : Int) out)
  | 0, i, out, h, ho, H => by
    refine FL_of1 ?_
    rw [eq50_L0]
    obtain rfl : out = l := fill_done ho fun j hj => H j (by omega)
    exact Br_f (by omega) ⟨rfl, rfl⟩
  | n + 1, i, out, h, ho, H => by
    refine FL_of1 ?_
    rw [eq50_L0, wS (by omega)]
    simp only [Int.toNat_natCast]
    refine Br_t (by omega) (Ck_d (by omega) (Ck_d (by omega) (Ck_d (by omega) (Ck_d (by omega) (Ck_le (by omega) ?_)))))
    refine l50 l hl n (i + 1) _ (by omega) (by simp [ho]) (fill_step ho ?_ H)
    rw [getD_eq (show i < l.length by omega)]
    exact List.getElem?_eq_getElem _
theorem c50 (l : List Int) (hl : l.length ≤ 1048576) : SC P 50 [.one (.ro (.int .i64) l)] [] [.one (.sl 0 none)] [.row (.int .i64) l .own] := by
  refine SC_of_FB (H := H50) E_ok Try.func50 (by kernel_rfl) ?_
  rw [eq50]
  refine Ck_d (by omega) (Ck_d (by omega) (Ck_roomI (by omega) ?_))
  exact l50 l hl l.length 0 _ (by omega) (by simp) (fun j hj => absurd hj (by omega))
/-! loop.example/keelson/laws.eqIntS -/
def H26 : Hint := ⟨[[(0, 0, .bool), (1, 0, .bool), (5, 0, .bool)]], [], [(6, [0, 1, 2, 3, 4, 5, 6, 7, 8])], [], [], [], []⟩
def S26_L0 (a0 : List Int) (b1 : List Int) (i5 : Int) : St := ⟨[(0, .w (.one (.ro (.int .i64) a0))), (1, .w (.one (.ro (.int .i64) b1))), (5, .w (.one (.int .i64 i5)))], []⟩
theorem eq26 (a : List Int) (b : List Int) (r : List W) (lh : Heap) : FB E H26 Try.f26 [.one (.ro (.int .i64) a), .one (.ro (.int .i64) b)] [] r lh =
  (
   Br (!(decide (((a.length : Nat) : Int) = ((b.length : Nat) : Int)))) (
    Ret r lh [.one (.bool false)] []) (
    FL E H26 Try.f26 0 r lh 0 (S26_L0 a b 0))) := by kernel_rfl
theorem eq26_L0 (a0 : List Int) (b1 : List Int) (i5 : Int) (r : List W) (lh : Heap) : FL1 E H26 Try.f26 0 r lh 0 (S26_L0 a0 b1 i5) =
  (
   Br (decide (i5 < ((a0.length : Nat) : Int))) (
    Ck (decide ((0 : Int) ≤ i5)) (
     Ck (decide (i5 < ((a0.length : Nat) : Int))) (
      Ck (decide ((0 : Int) ≤ i5)) (
       Ck (decide (i5 < ((b1.length : Nat) : Int))) (
        Br (!(decide ((a0.getD i5.toNat 0) = (b1.getD i5.toNat 0)))) (
         Ret r lh [.one (.bool false)] []) (
         FL E H26 Try.f26 0 r lh 0 (S26_L0 a0 b1 (IntKind.wrap .i64 (i5 + 1))))))))) (
    Ret r lh [.one (.bool true)] [])) := by kernel_rfl
theorem l26 (a b : List Int) (hl : a.length ≤ 1048576) (hb : a.length = b.length) : ∀ (n i : Nat), i + n = a.length → FL E H26 Try.f26 0 [.one (.bool (allR (fun j => decide (a.getD j 0 = b.getD j 0)) i n))] [] 0 (S26_L0 a b (i : Int))
  | 0, i, h => by
    refine FL_of1 ?_
    rw [eq26_L0]
    exact Br_f (by omega) ⟨rfl, rfl⟩
  | n + 1, i, h => by
    refine FL_of1 ?_
    rw [eq26_L0, wS (by omega)]
    simp only [Int.toNat_natCast]
    refine Br_t (by omega) (Ck_d (by omega) (Ck_d (by omega) (Ck_d (by omega) (Ck_d (by omega) (Br_nd (fun h1 => ?_) (fun h1 => ?_))))))
    · exact ⟨by rw [allR_f (by simpa using h1)], rfl⟩
    · rw [allR_t (by simpa using h1)]
      exact l26 a b hl hb n (i + 1) (by omega)
theorem c26 (a b : List Int) (hl : a.length ≤ 1048576) : SC P 26 [.one (.ro (.int .i64) a), .one (.ro (.int .i64) b)] [] [.one (.bool (decide (a = b)))] [] := by
  refine SC_of_FB (H := H26) E_ok Try.func26 (by kernel_rfl) ?_
  rw [eq26]
  refine Br_nd (fun h => ⟨?_, rfl⟩) (fun h => ?_)
  · rw [decide_eq_false (by rintro rfl; exact h rfl)]
  · have h : a.length = b.length := by omega
    rw [← eqR (z := 0) h]
    exact l26 a b hl h a.length 0 (by omega)
/-! loop.example/keelson/laws.markIntS -/
def H29 : Hint := ⟨[[(0, 0, .bool), (1, 0, .bool), (5, 0, .bool)]], [], [], [], [], [], []⟩
def S29_L0 (k1 : Int) (i5 : Int) (h0 : List Int) : St := ⟨[(0, .w (.one (.sl 0 none))), (1, .w (.one (.int .i64 k1))), (5, .w (.one (.int .i64 i5)))], [.row (.int .i64) h0 .own]⟩
theorem eq29 (l : List Int) (k : Int) (r : List W) (lh : Heap) : FB E H29 Try.f29 [.one (.sl 0 none), .one (.int .i64 k)] [.row (.int .i64) l .own] r lh =
  (
   FL E H29 Try.f29 1 r lh 0 (S29_L0 k 0 l)) := by kernel_rfl
theorem eq29_L0 (k1 : Int) (i5 : Int) (h0 : List Int) (r : List W) (lh : Heap) : FL1 E H29 Try.f29 1 r lh 0 (S29_L0 k1 i5 h0) =
  (
   Br (decide (i5 < ((h0.length : Nat) : Int))) (
    Ck (decide ((0 : Int) ≤ i5)) (
     Ck (decide (i5 < ((h0.length : Nat) : Int))) (
      Ck (Nat.ble (i5.toNat + 1) h0.length) (
       FL E H29 Try.f29 1 r lh 0 (S29_L0 (IntKind.wrap .i64 (k1 + 1)) (IntKind.wrap .i64 (i5 + 1)) (h0.set i5.toNat k1)))))) (
    Ret r lh [.one (.int .i64 k1)] [.row (.int .i64) h0 .own])) := by kernel_rfl
theorem l29 (k : Int) (m : Nat) (hm : m ≤ 1048576) (k0 : 0 ≤ k) (k1 : k ≤ 1073741824) : ∀ (n i : Nat) (out : List Int), i + n = m → out.length = m → (∀ j, j < i → out[j]? = (marks (fun k : Int => k) k m)[j]?) →
    FL E H29 Try.f29 1 [.one (.int .i64 (k + m))] [.row (.int .i64) (marks (fun k : Int => k) k m) .own] 0 (S29_L0 (k + (i : Int)) (i : Int) out)
  | 0, i, out, h, ho, H => by
    refine FL_of1 ?_
    rw [eq29_L0]
    obtain rfl : out = marks (fun k : Int => k) k m := fill_done (by rw [marks_length]; exact ho) fun j hj => H j (by rw [marks_length] at hj; omega)
    refine Br_f (by omega) ⟨?_, rfl⟩
    rw [show (i : Int) = m by omega]
  | n + 1, i, out, h, ho, H => by
    refine FL_of1 ?_
    rw [eq29_L0, wS (by omega), wrap64 (n := k + (i : Int) + 1) (by omega) (by omega), show k + (i : Int) + 1 = k + ((i + 1 : Nat) : Int) by omega]
    simp only [Int.toNat_natCast]
    refine Br_t (by omega) (Ck_d (by omega) (Ck_d (by omega) (Ck_le (by omega) ?_)))
    exact l29 k m hm k0 k1 n (i + 1) _ (by omega) (by simp [ho]) (fill_step (by rw [marks_length]; exact ho) (by rw [marks_get (by omega)]) H)
theorem c29 (l : List Int) (k : Int) (hl : l.length ≤ 1048576) (k0 : 0 ≤ k) (k1 : k ≤ 1073741824) : SC P 29 [.one (.sl 0 none), .one (.int .i64 k)] [.row (.int .i64) l .own] [.one (.int .i64 (k + l.length))] [.row (.int .i64) (marks (fun k : Int => k) k l.length) .own] := by
  refine SC_of_FB (H := H29) E_ok Try.func29 (by kernel_rfl) ?_
  rw [eq29]
  have := l29 k l.length hl k0 k1 l.length 0 l (by omega) rfl (fun j hj => absurd hj (by omega))
  rw [show k + ((0 : Nat) : Int) = k by omega] at this
  exact this
/-! loop.example/keelson/laws.heldIntS -/
def H30 : Hint := ⟨[[(0, 0, .bool), (1, 0, .bool), (5, 0, .bool)]], [], [], [], [], [], []⟩
def S30_L0 (a0 : List Int) (k1 : Int) (i5 : Int) : St := ⟨[(0, .w (.one (.ro (.int .i64) a0))), (1, .w (.one (.int .i64 k1))), (5, .w (.one (.int .i64 i5)))], []⟩
theorem eq30 (a : List Int) (k : Int) (r : List W) (lh : Heap) : FB E H30 Try.f30 [.one (.ro (.int .i64) a), .one (.int .i64 k)] [] r lh =
  (
   FL E H30 Try.f30 0 r lh 0 (S30_L0 a k 0)) := by kernel_rfl
theorem eq30_L0 (a0 : List Int) (k1 : Int) (i5 : Int) (r : List W) (lh : Heap) : FL1 E H30 Try.f30 0 r lh 0 (S30_L0 a0 k1 i5) =
  (
   Br (decide (i5 < ((a0.length : Nat) : Int))) (
    Ck (decide ((0 : Int) ≤ i5)) (
     Ck (decide (i5 < ((a0.length : Nat) : Int))) (
      Br (!(decide ((a0.getD i5.toNat 0) = k1))) (
       Ret r lh [.one (.int .i64 (-1))] []) (
       FL E H30 Try.f30 0 r lh 0 (S30_L0 a0 (IntKind.wrap .i64 (k1 + 1)) (IntKind.wrap .i64 (i5 + 1))))))) (
    Ret r lh [.one (.int .i64 k1)] [])) := by kernel_rfl
theorem l30 (k : Int) (m : Nat) (hm : m ≤ 1048576) (k0 : 0 ≤ k) (k1 : k ≤ 1073741824) : ∀ (n i : Nat), i + n = m →
    FL E H30 Try.f30 0 [.one (.int .i64 (k + m))] [] 0 (S30_L0 (marks (fun k : Int => k) k m) (k + (i : Int)) (i : Int))
  | 0, i, h => by
    refine FL_of1 ?_
    rw [eq30_L0, marks_length]
    refine Br_f (by omega) ⟨?_, rfl⟩
    rw [show (i : Int) = m by omega]
  | n + 1, i, h => by
    refine FL_of1 ?_
    rw [eq30_L0, marks_length, wS (by omega), wrap64 (n := k + (i : Int) + 1) (by omega) (by omega), show k + (i : Int) + 1 = k + ((i + 1 : Nat) : Int) by omega]
    simp only [Int.toNat_natCast]
    have e := marks_getD (g := fun k : Int => k) (k := k) (n := m) (i := i) (z := 0) (by omega)
    refine Br_t (by omega) (Ck_d (by omega) (Ck_d (by omega) (Br_nd (fun h1 => ?_) (fun h1 => ?_))))
    · rw [e] at h1; simp at h1
    · exact l30 k m hm k0 k1 n (i + 1) (by omega)
theorem c30 (k : Int) (m : Nat) (hl : m ≤ 1048576) (k0 : 0 ≤ k) (k1 : k ≤ 1073741824) : SC P 30 [.one (.ro (.int .i64) (marks (fun k : Int => k) k m)), .one (.int .i64 k)] [] [.one (.int .i64 (k + m))] [] := by
  refine SC_of_FB (H := H30) E_ok Try.func30 (by kernel_rfl) ?_
  rw [eq30]
  have := l30 k m hl k0 k1 m 0 (by omega)
  rw [show k + ((0 : Nat) : Int) = k by omega] at this
  exact this
theorem allR_all {α : Type} (p : α → Bool) (l : List α) (z : α) : allR (fun j => p (l.getD j z)) 0 l.length = l.all p := bool_eq (by
  rw [allR_iff, List.all_eq_true]
  constructor
  · intro h x hx
    obtain ⟨i, hi, rfl⟩ := List.getElem_of_mem hx
    have := h i (Nat.zero_le _) (by omega)
    rwa [getD_eq hi] at this
  · intro h j _ hj
    rw [getD_eq (show j < l.length by omega)]
    exact h _ (List.getElem_mem _))
abbrev Pat := Int × Int
theorem patchOk_iff {p : Pat} : patchOk p = true ↔ (0 ≤ p.1 ∧ p.1 ≤ 3) ∧ 1 ≤ p.2 ∧ p.2 ≤ 30 := by
  rw [patchOk, Bool.and_eq_true, inB_iff, inB_iff]
theorem vecOk_get {d : List Int} (h : vecOk d = true) (i : Nat) : FOk (d.getD i 0) := by
  obtain ⟨v, hv, rfl⟩ := vecOk_v h
  exact vok_get hv i
theorem vecOk_len {d : List Int} (h : vecOk d = true) : d.length = 4 := by
  obtain ⟨v, hv, rfl⟩ := vecOk_v h
  rfl
theorem vecOk_iff {d : List Int} : vecOk d = true ↔ d.length = 4 ∧ ∀ x ∈ d, FOk x := by
  rw [vecOk, Bool.and_eq_true, decide_eq_true_iff, List.all_eq_true]
  simp only [inB_iff, FOk]
theorem vecOk_set {d : List Int} {i : Nat} {x : Int} (h : vecOk d = true) (hx : FOk x) : vecOk (d.set i x) = true := by
  rw [vecOk_iff] at h ⊢
  refine ⟨by rw [List.length_set]; exact h.1, fun y hy => ?_⟩
  rcases List.mem_or_eq_of_mem_set hy with h' | rfl
  · exact h.2 _ h'
  · exact hx
def addP (d : List Int) (p : Pat) : List Int := d.set p.1.toNat ((d.getD p.1.toNat 0 + p.2) % 31)
theorem vecOk_addP {d : List Int} {p : Pat} (h : vecOk d = true) : vecOk (addP d p) = true := vecOk_set h (fok_mod _)
def patchDataF (d : List Int) (l : List Pat) : List Int := bif vecOk d && l.all patchOk then l.foldl addP d else []
theorem vecOk_fold : ∀ {l : List Pat} {d : List Int}, vecOk d = true → vecOk (l.foldl addP d) = true
  | [], _, h => h
  | p :: l, d, h => vecOk_fold (l := l) (vecOk_addP h)
theorem patchDataF_len {d : List Int} {l : List Pat} : (patchDataF d l).length ≤ 4 := by
  rw [patchDataF]
  cases h : vecOk d && l.all patchOk
  · simp
  · rw [Bool.and_eq_true] at h
    rw [cond_true, vecOk_len (vecOk_fold h.1)]
    exact Nat.le_refl _
def diffsR (q : Nat → Int) : Nat → Nat → List Pat
  | _, 0 => []
  | i, n + 1 => (bif decide (q i = 0) then [] else [((i : Int), q i)]) ++ diffsR q (i + 1) n
theorem diffsR_congr {q q' : Nat → Int} : ∀ {n i : Nat}, (∀ j, i ≤ j → j < i + n → q j = q' j) → diffsR q i n = diffsR q' i n
  | 0, _, _ => rfl
  | n + 1, i, h => by
    rw [diffsR, diffsR, h i (Nat.le_refl _) (by omega), diffsR_congr (n := n) fun j h1 h2 => h j (by omega) (by omega)]
theorem diffsR_len {q : Nat → Int} : ∀ {n i : Nat}, (diffsR q i n).length ≤ n
  | 0, _ => Nat.le_refl _
  | n + 1, i => by
    have := diffsR_len (q := q) (n := n) (i := i + 1)
    rw [diffsR, List.length_append]
    cases decide (q i = 0) <;> simp <;> omega
def difQ (a b : List Int) (j : Nat) : Int := (b.getD j 0 + 31 - a.getD j 0) % 31
theorem difQ_zero {a b : List Int} (ha : vecOk a = true) (hb : vecOk b = true) (j : Nat) : difQ a b j = 0 ↔ a.getD j 0 = b.getD j 0 := by
  obtain ⟨a0, a1⟩ := vecOk_get ha j
  obtain ⟨b0, b1⟩ := vecOk_get hb j
  rw [difQ]
  omega
def patchOfF (a b : List Int) : List Pat := bif vecOk a && vecOk b then diffsR (difQ a b) 0 4 else []
theorem patchOfF_len {a b : List Int} : (patchOfF a b).length ≤ 4 := by
  rw [patchOfF]
  cases vecOk a && vecOk b
  · simp
  · exact diffsR_len
def patchRowF (kind : Int) (p : Pat) : List Int := bif inB kind 1 2 && patchOk p then allF kind (vtimes (unitF p.1) p.2) else []
theorem patchRowF_len {kind : Int} {p : Pat} : (patchRowF kind p).length ≤ 8 := by
  rw [patchRowF]
  cases inB kind 1 2 && patchOk p
  · simp
  · rw [cond_true, allF_length]; exact Nat.le_refl _
/-! loop.example/keelson/spec.VecOk -/
def H98 : Hint := ⟨[[(0, 0, .bool), (3, 0, .bool)]], [], [], [], [], [], []⟩
def S98_L0 (v0 : List Int) (i3 : Int) : St := ⟨[(0, .w (.one (.ro (.int .i64) v0))), (3, .w (.one (.int .i64 i3)))], []⟩
theorem eq98 (v : List Int) (r : List W) (lh : Heap) : FB E H98 Try.f98 [.one (.ro (.int .i64) v)] [] r lh =
  (
   FL E H98 Try.f98 0 r lh 0 (S98_L0 v 0)) := by kernel_rfl
theorem eq98_L0 (v0 : List Int) (i3 : Int) (r : List W) (lh : Heap) : FL1 E H98 Try.f98 0 r lh 0 (S98_L0 v0 i3) =
  (
   Br (decide (i3 < ((v0.length : Nat) : Int))) (
    Ck (decide ((0 : Int) ≤ i3)) (
     Ck (decide (i3 < ((v0.length : Nat) : Int))) (
      ∃ r0 : Bool, SC P 131 [.one (.int .i64 (v0.getD i3.toNat 0))] [] [.one (.bool r0)] [] ∧
       Br (!r0) (
        Ret r lh [.one (.bool false)] []) (
        FL E H98 Try.f98 0 r lh 0 (S98_L0 v0 (IntKind.wrap .i64 (i3 + 1))))))) (
    Ret r lh [.one (.bool (decide (((v0.length : Nat) : Int) = (4 : Int))))] [])) := by kernel_rfl
theorem l98 (l : List Int) (hl : l.length ≤ 1048576) : ∀ (n i : Nat), i + n = l.length → FL E H98 Try.f98 0 [.one (.bool (decide (l.length = 4) && allR (fun j => inB (l.getD j 0) 0 30) i n))] [] 0 (S98_L0 l (i : Int))
  | 0, i, h => by
    refine FL_of1 ?_
    rw [eq98_L0]
    refine Br_f (by omega) ⟨?_, rfl⟩
    rw [allR, Bool.and_true]
    congr 3
    exact decide_eq_decide.2 (by omega)
  | n + 1, i, h => by
    refine FL_of1 ?_
    rw [eq98_L0, wS (by omega)]
    simp only [Int.toNat_natCast]
    refine Br_t (by omega) (Ck_d (by omega) (Ck_d (by omega) ⟨_, c131 _, Br_nb (fun h1 => ?_) (fun h1 => ?_)⟩))
    · exact ⟨by rw [allR_f h1, Bool.and_false], rfl⟩
    · rw [allR_t h1]
      exact l98 l hl n (i + 1) (by omega)
theorem c98 (l : List Int) (hl : l.length ≤ 1048576) : SC P 98 [.one (.ro (.int .i64) l)] [] [.one (.bool (vecOk l))] [] := by
  refine SC_of_FB (H := H98) E_ok Try.func98 (by kernel_rfl) ?_
  rw [eq98]
  have := l98 l hl l.length 0 (by omega)
  rw [allR_all (fun n => inB n 0 30) l 0] at this
  exact this



/-! loop.example/keelson/impl.PatchData$1 -/
def H84 : Hint := ⟨[], [], [], [], [], [], []⟩
theorem eq84 (p : (Int × Int)) (r : List W) (lh : Heap) : FB E H84 Try.f84 [.agg [.int .i64 p.1, .int .i64 p.2]] [] r lh =
  (
   ∃ r0 : Bool, SC P 74 [.agg [.int .i64 p.1, .int .i64 p.2]] [] [.one (.bool r0)] [] ∧
    Ret r lh [.one (.bool (!r0))] []) := by kernel_rfl
theorem c84 (p : Pat) : SC P 84 [.agg [.int .i64 p.1, .int .i64 p.2]] [] [.one (.bool (!patchOk p))] [] := by
  refine SC_of_FB (H := H84) E_ok Try.func84 (by kernel_rfl) ?_
  rw [eq84]
  exact ⟨_, c74 p, rfl, rfl⟩
/-! slices.IndexFunc[[]loop.example/keelson/impl.Patch,loop.example/keelson/impl.Patch] -/
def H124 : Hint := ⟨[[(0, 0, .bool), (1, 0, .bool), (7, 0, .bool), (8, 0, .bool)]], [], [], [], [], [], []⟩
def S124_L0 (s0 : List (Int × Int)) (x7 : Int) (x8 : Int) : St := ⟨[(0, .w (.one (.ro (.pair (.int .i64) (.int .i64)) s0))), (1, .w (.one (.fn 84 []))), (7, .w (.one (.int .i64 x7))), (8, .w (.one (.int .i64 x8)))], []⟩
theorem eq124 (l : List (Int × Int)) (r : List W) (lh : Heap) : FB E H124 Try.f124 [.one (.ro (.pair (.int .i64) (.int .i64)) l), .one (.fn 84 [])] [] r lh =
  (
   FL E H124 Try.f124 0 r lh 0 (S124_L0 l ((l.length : Nat) : Int) 0)) := by kernel_rfl
theorem eq124_L0 (s0 : List (Int × Int)) (x7 : Int) (x8 : Int) (r : List W) (lh : Heap) : FL1 E H124 Try.f124 0 r lh 0 (S124_L0 s0 x7 x8) =
  (
   Br (decide (x8 < x7)) (
    Ck (decide ((0 : Int) ≤ x8)) (
     Ck (decide (x8 < ((s0.length : Nat) : Int))) (
      ∃ r0 : Bool, SC P 84 [.agg [.int .i64 ((s0.getD x8.toNat (0, 0)).1), .int .i64 ((s0.getD x8.toNat (0, 0)).2)]] [] [.one (.bool r0)] [] ∧
       Br r0 (
        Ret r lh [.one (.int .i64 x8)] []) (
        FL E H124 Try.f124 0 r lh 0 (S124_L0 s0 x7 (IntKind.wrap .i64 (x8 + 1))))))) (
    Ret r lh [.one (.int .i64 (-1))] [])) := by kernel_rfl
theorem l124 (l : List Pat) (hl : l.length ≤ 1048576) : ∀ (n i : Nat), i + n = l.length → FL E H124 Try.f124 0 [.one (.int .i64 (findR (fun j => !patchOk (l.getD j (0, 0))) (fun j => (j : Int)) (-1) i n))] [] 0 (S124_L0 l (l.length : Int) (i : Int))
  | 0, i, h => by
    refine FL_of1 ?_
    rw [eq124_L0]
    exact Br_f (by omega) ⟨rfl, rfl⟩
  | n + 1, i, h => by
    refine FL_of1 ?_
    rw [eq124_L0, wS (by omega), findR]
    simp only [Int.toNat_natCast]
    refine Br_t (by omega) (Ck_d (by omega) (Ck_d (by omega) ⟨_, c84 _, Br_b (fun h1 => ?_) (fun h1 => ?_)⟩))
    · exact ⟨by rw [cond_t h1], rfl⟩
    · rw [cond_f h1]
      exact l124 l hl n (i + 1) (by omega)
theorem c124 (l : List Pat) (hl : l.length ≤ 1048576) : SC P 124 [.one (.ro (.pair (.int .i64) (.int .i64)) l), .one (.fn 84 [])] [] [.one (.int .i64 (findR (fun j => !patchOk (l.getD j (0, 0))) (fun j => (j : Int)) (-1) 0 l.length))] [] := by
  refine SC_of_FB (H := H124) E_ok Try.func124 (by kernel_rfl) ?_
  rw [eq124]
  exact l124 l hl l.length 0 (by omega)
/-! slices.ContainsFunc[[]loop.example/keelson/impl.Patch,loop.example/keelson/impl.Patch] -/
def H83 : Hint := ⟨[], [], [], [], [], [], []⟩
theorem eq83 (l : List (Int × Int)) (r : List W) (lh : Heap) : FB E H83 Try.f83 [.one (.ro (.pair (.int .i64) (.int .i64)) l), .one (.fn 84 [])] [] r lh =
  (
   ∃ r0 : Int, SC P 124 [.one (.ro (.pair (.int .i64) (.int .i64)) l), .one (.fn 84 [])] [] [.one (.int .i64 r0)] [] ∧
    Ret r lh [.one (.bool (decide ((0 : Int) ≤ r0)))] []) := by kernel_rfl
theorem c83 (l : List Pat) (hl : l.length ≤ 1048576) : SC P 83 [.one (.ro (.pair (.int .i64) (.int .i64)) l), .one (.fn 84 [])] [] [.one (.bool (!l.all patchOk))] [] := by
  refine SC_of_FB (H := H83) E_ok Try.func83 (by kernel_rfl) ?_
  rw [eq83]
  refine ⟨_, c124 l hl, ?_, rfl⟩
  rw [findR_any (fun p => !patchOk p) l (0, 0)]
  congr 3
  rw [List.any_eq_not_all_not]
  simp
/-! loop.example/keelson/impl.PatchData -/
def H37 : Hint := ⟨[[(5, 0, .bool), (20, 0, .bool), (21, 0, .bool), (22, 0, .bool)]], [], [(7, [0, 1, 2, 3, 4, 5, 6, 7, 8, 9, 10])], [], [.one (.own (.int .i64))], [], []⟩
def S37_L0 (x20 : List (Int × Int)) (x21 : Int) (x22 : Int) (h0 : List Int) : St := ⟨[(5, .w (.one (.ptr 0 0 0))), (20, .w (.one (.ro (.pair (.int .i64) (.int .i64)) x20))), (21, .w (.one (.int .i64 x21))), (22, .w (.one (.int .i64 x22)))], [.row (.int .i64) h0 .var]⟩
theorem eq37 (data : List Int) (l : List (Int × Int)) (r : List W) (lh : Heap) : FB E H37 Try.f37 [.one (.ro (.int .i64) data), .one (.ro (.pair (.int .i64) (.int .i64)) l)] [] r lh =
  (
   ∃ r0 : Int × Int × Int × Int × Bool, SC P 82 [.one (.ro (.int .i64) data)] [] [.agg [.int .i64 r0.1, .int .i64 r0.2.1, .int .i64 r0.2.2.1, .int .i64 r0.2.2.2.1], .one (.bool r0.2.2.2.2)] [] ∧
    Br (!r0.2.2.2.2) (
     Ret r lh [.one (.sl 0 none)] [.row (.int .i64) [] .own]) (
     ∃ r1 : Bool, SC P 83 [.one (.ro (.pair (.int .i64) (.int .i64)) l), .one (.fn 84 [])] [] [.one (.bool r1)] [] ∧
      Br r1 (
       Ret r lh [.one (.sl 0 none)] [.row (.int .i64) [] .own]) (
       FL E H37 Try.f37 0 r lh 0 (S37_L0 l ((l.length : Nat) : Int) 0 [r0.1, r0.2.1, r0.2.2.1, r0.2.2.2.1])))) := by kernel_rfl
theorem eq37_L0 (x20 : List (Int × Int)) (x21 : Int) (x22 : Int) (h0 : List Int) (r : List W) (lh : Heap) : FL1 E H37 Try.f37 0 r lh 0 (S37_L0 x20 x21 x22 h0) =
  (
   Br (decide (x22 < x21)) (
    Ck (decide ((0 : Int) ≤ x22)) (
     Ck (decide (x22 < ((x20.length : Nat) : Int))) (
      Ck (decide ((0 : Int) ≤ (x20.getD x22.toNat (0, 0)).1)) (
       Ck (decide ((x20.getD x22.toNat (0, 0)).1 < (4 : Int))) (
        Ck (Nat.ble ((0 + (((x20.getD x22.toNat (0, 0)).1).toNat * 1)) + 1) h0.length) (
         ∃ r0 : Int, SC P 85 [.one (.int .i64 (h0.getD (0 + (((x20.getD x22.toNat (0, 0)).1).toNat * 1)) 0)), .one (.int .i64 ((x20.getD x22.toNat (0, 0)).2))] [] [.one (.int .i64 r0)] [] ∧
          Ck (decide ((0 : Int) ≤ (x20.getD x22.toNat (0, 0)).1)) (
           Ck (decide ((x20.getD x22.toNat (0, 0)).1 < (4 : Int))) (
            Ck (Nat.ble ((0 + (((x20.getD x22.toNat (0, 0)).1).toNat * 1)) + 1) h0.length) (
             FL E H37 Try.f37 0 r lh 0 (S37_L0 x20 x21 (IntKind.wrap .i64 (x22 + 1)) (h0.set (0 + (((x20.getD x22.toNat (0, 0)).1).toNat * 1)) r0))))))))))) (
    Ck (Nat.ble 4 h0.length) (
     ∃ r1 : List Int, SC P 86 [.agg [.int .i64 (h0.getD 0 0), .int .i64 (h0.getD 1 0), .int .i64 (h0.getD 2 0), .int .i64 (h0.getD 3 0)]] [] [.one (.sl 0 none)] [.row (.int .i64) r1 .own] ∧
      Ret r lh [.one (.sl 0 none)] [.row (.int .i64) r1 .own]))) := by kernel_rfl
theorem l37 (l : List Pat) (hl : l.length ≤ 1048576) : ∀ (n i : Nat) (d : List Int), i + n = l.length → vecOk d = true → (l.drop i).all patchOk = true → FL E H37 Try.f37 0 [.one (.sl 0 none)] [.row (.int .i64) ((l.drop i).foldl addP d) .own] 0 (S37_L0 l (l.length : Int) (i : Int) d)
  | 0, i, d, h, hd, ha => by
    refine FL_of1 ?_
    rw [eq37_L0, List.drop_eq_nil_of_le (show l.length ≤ i by omega)]
    obtain ⟨v, hv, rfl⟩ := vecOk_v hd
    exact Br_f (by omega) (Ck_le (by simp [V4.l]) ⟨v.l, c86 v, rfl, rfl⟩)
  | n + 1, i, d, h, hd, ha => by
    have hi : i < l.length := by omega
    refine FL_of1 ?_
    rw [drop_cons hi, List.all_cons, Bool.and_eq_true, ← getD_eq (z := (0, 0)) hi] at ha
    rw [eq37_L0, wS (by omega), drop_cons hi, List.foldl_cons, ← getD_eq (z := (0, 0)) hi]
    simp only [Int.toNat_natCast, Nat.zero_add, Nat.mul_one]
    obtain ⟨⟨p0, p1⟩, q0, q1⟩ := patchOk_iff.1 ha.1
    have hd4 := vecOk_len hd
    refine Br_t (by omega) (Ck_d (by omega) (Ck_d (by omega) (Ck_d (by omega) (Ck_d (by omega) (Ck_le (by omega) ⟨_, c85 _ _ (vecOk_get hd _) ⟨by omega, by omega⟩, Ck_d (by omega) (Ck_d (by omega) (Ck_le (by omega) ?_))⟩)))))
    exact l37 l hl n (i + 1) (addP d (l.getD i (0, 0))) (by omega) (vecOk_addP hd) ha.2
theorem c37 (d : List Int) (l : List Pat) (hd : d.length ≤ 1048576) (hl : l.length ≤ 1048576) : SC P 37 [.one (.ro (.int .i64) d), .one (.ro (.pair (.int .i64) (.int .i64)) l)] [] [.one (.sl 0 none)] [.row (.int .i64) (patchDataF d l) .own] := by
  refine SC_of_FB (H := H37) E_ok Try.func37 (by kernel_rfl) ?_
  rw [eq37]
  refine ⟨((vecF d).1, (vecF d).2.1, (vecF d).2.2.1, (vecF d).2.2.2, vecOk d), c82 d hd, Br_nb (fun e => ⟨rfl, by rw [patchDataF, show vecOk d = false from e]; rfl⟩) (fun e => ⟨_, c83 l hl, ?_⟩)⟩
  have e : vecOk d = true := e
  cases hp : l.all patchOk
  · exact ⟨rfl, by rw [patchDataF, hp, Bool.and_false]; rfl⟩
  · obtain ⟨v, hv, rfl⟩ := vecOk_v e
    have := l37 l hl l.length 0 v.l (by omega) e hp
    rw [List.drop_zero] at this
    rw [patchDataF, hp, e]
    rw [vecF_l hv]
    exact this

theorem vminus_get {u v : V4} (hu : VOk u) (hv : VOk v) : ∀ j, j < 4 → (vminus v u).l.getD j 0 = difQ u.l v.l j := by
  obtain ⟨u0, u1, u2, u3⟩ := u
  obtain ⟨v0, v1, v2, v3⟩ := v
  obtain ⟨⟨_, _⟩, ⟨_, _⟩, ⟨_, _⟩, _, _⟩ := hu
  obtain ⟨⟨_, _⟩, ⟨_, _⟩, ⟨_, _⟩, _, _⟩ := hv
  intro j hj
  have : j = 0 ∨ j = 1 ∨ j = 2 ∨ j = 3 := by omega
  rcases this with rfl | rfl | rfl | rfl <;> simp only [V4.l, vminus, vplus, vtimes, difQ, List.getD_cons_zero, List.getD_cons_succ] <;> simp only at * <;> omega

/-! loop.example/keelson/spec.l2Dot -/
def H132 : Hint := ⟨[[(0, 0, .bool), (1, 0, .bool), (5, 0, .bool), (6, 0, .bool)]], [], [(5, [0, 1, 2, 3, 4, 5, 6, 7, 8, 9, 10, 11, 12])], [], [], [], []⟩
def S132_L0 (a0 : List Int) (b1 : List Int) (n5 : Int) (i6 : Int) : St := ⟨[(0, .w (.one (.ro (.int .i64) a0))), (1, .w (.one (.ro (.int .i64) b1))), (5, .w (.one (.int .i64 n5))), (6, .w (.one (.int .i64 i6)))], []⟩
theorem eq132 (a : List Int) (b : List Int) (r : List W) (lh : Heap) : FB E H132 Try.f132 [.one (.ro (.int .i64) a), .one (.ro (.int .i64) b)] [] r lh =
  (
   FL E H132 Try.f132 0 r lh 0 (S132_L0 a b 0 0)) := by kernel_rfl
theorem eq132_L0 (a0 : List Int) (b1 : List Int) (n5 : Int) (i6 : Int) (r : List W) (lh : Heap) : FL1 E H132 Try.f132 0 r lh 0 (S132_L0 a0 b1 n5 i6) =
  (
   Br (decide (i6 < ((a0.length : Nat) : Int))) (
    Ck (decide ((0 : Int) ≤ i6)) (
     Ck (decide (i6 < ((a0.length : Nat) : Int))) (
      Ck (decide ((0 : Int) ≤ i6)) (
       Ck (decide (i6 < ((b1.length : Nat) : Int))) (
        FL E H132 Try.f132 0 r lh 0 (S132_L0 a0 b1 (Int.tmod (IntKind.wrap .i64 (n5 + (IntKind.wrap .i64 ((a0.getD i6.toNat 0) * (b1.getD i6.toNat 0))))) 31) (IntKind.wrap .i64 (i6 + 1)))))))) (
    Ret r lh [.one (.int .i64 n5)] [])) := by kernel_rfl
theorem c132 (v u : V4) (hv : VOk v) (hu : VOk u) : SC P 132 [.one (.ro (.int .i64) v.l), .one (.ro (.int .i64) u.l)] [] [.one (.int .i64 (dotF v u))] [] := by
  refine SC_of_FB (H := H132) E_ok Try.func132 (by kernel_rfl) ?_
  rw [eq132]
  have step : ∀ (i : Nat) (s : Int), i < 4 → FOk s → FL E H132 Try.f132 0 [.one (.int .i64 (dotF v u))] [] 0 (S132_L0 v.l u.l ((s + v.l.getD i 0 * u.l.getD i 0) % 31) ((i + 1 : Nat) : Int)) →
      FL E H132 Try.f132 0 [.one (.int .i64 (dotF v u))] [] 0 (S132_L0 v.l u.l s (i : Int)) := by
    intro i s hi hs hF
    have hvl : v.l.length = 4 := rfl
    have hul : u.l.length = 4 := rfl
    have hm := fok_mul (vok_get hv i) (vok_get hu i)
    have := hs.1; have := hs.2
    refine FL_of1 ?_
    rw [eq132_L0, wS (by omega)]
    simp only [Int.toNat_natCast]
    rw [wrap64 (n := v.l.getD i 0 * u.l.getD i 0) (by omega) (by omega), wrap64 (n := s + v.l.getD i 0 * u.l.getD i 0) (by omega) (by omega), Int.tmod_eq_emod_of_nonneg (by omega)]
    exact Br_t (by omega) (Ck_d (by omega) (Ck_d (by omega) (Ck_d (by omega) (Ck_d (by omega) hF))))
  refine step 0 0 (by omega) ⟨by omega, by omega⟩ (step 1 _ (by omega) (fok_mod _) (step 2 _ (by omega) (fok_mod _) (step 3 _ (by omega) (fok_mod _) ?_)))
  refine FL_of1 ?_
  rw [eq132_L0]
  refine Br_f (by simp [V4.l]) ⟨?_, rfl⟩
  rw [dotF]
  simp only [V4.l, List.getD_cons_zero, List.getD_cons_succ]
  congr 3
  omega
/-! loop.example/keelson/spec.l4Row -/
def H133 : Hint := ⟨[], [], [], [], [.one (.c (.sl (.int .i64)))], [], []⟩
theorem eq133 (kind : Int) (at0 : Int) (r : List W) (lh : Heap) : FB E H133 Try.f133 [.one (.int .i64 kind), .one (.int .i64 at0)] [] r lh =
  (
   Br (decide (kind = (1 : Int))) (
    Ck (decide ((0 : Int) ≤ at0)) (
     Ck (decide (at0 < (8 : Int))) (
      Ck (Nat.ble (at0.toNat + 1) 8) (
       Ret r lh [.one (.ro (.int .i64) ([[1, 0, 0, 0], [0, 1, 0, 0], [0, 0, 1, 0], [0, 0, 0, 1], [1, 1, 0, 0], [0, 0, 1, 1], [1, 2, 4, 8], [1, 3, 9, 27]].getD at0.toNat []))] [])))) (
    Ret r lh [.one (.ro (.int .i64) [1, (IntKind.wrap .i64 (at0 + 1)), (Int.tmod (IntKind.wrap .i64 ((IntKind.wrap .i64 (at0 + 1)) * (IntKind.wrap .i64 (at0 + 1)))) 31), (Int.tmod (IntKind.wrap .i64 ((IntKind.wrap .i64 ((IntKind.wrap .i64 (at0 + 1)) * (IntKind.wrap .i64 (at0 + 1)))) * (IntKind.wrap .i64 (at0 + 1)))) 31)])] [])) := by kernel_rfl
theorem c133 (kind i : Int) (hk : inB kind 1 2 = true) (h0 : 0 ≤ i) (h1 : i ≤ 7) : SC P 133 [.one (.int .i64 kind), .one (.int .i64 i)] [] [.one (.ro (.int .i64) (rowV kind i).l)] [] := by
  refine SC_of_FB (H := H133) E_ok Try.func133 (by kernel_rfl) ?_
  rw [eq133]
  have hk := inB_iff.1 hk
  have : i = 0 ∨ i = 1 ∨ i = 2 ∨ i = 3 ∨ i = 4 ∨ i = 5 ∨ i = 6 ∨ i = 7 := by omega
  refine Br_d (fun e => ?_) (fun e => ?_)
  · subst e
    rcases this with rfl | rfl | rfl | rfl | rfl | rfl | rfl | rfl <;> exact Ck_d (by omega) (Ck_d (by omega) (Ck_le (by decide) ⟨rfl, rfl⟩))
  · obtain rfl : kind = 2 := by omega
    rcases this with rfl | rfl | rfl | rfl | rfl | rfl | rfl | rfl <;> exact ⟨rfl, rfl⟩
/-! loop.example/keelson/spec.l4All -/
def H99 : Hint := ⟨[[(0, 0, .bool), (1, 0, .bool), (5, 0, .bool), (6, 0, .bool)]], [], [], [], [], [], []⟩
def S99_L0 (kind0 : Int) (data1 : List Int) (x6 : Int) (h0 : List Int) : St := ⟨[(0, .w (.one (.int .i64 kind0))), (1, .w (.one (.ro (.int .i64) data1))), (5, .w (.one (.sl 0 none))), (6, .w (.one (.int .i64 x6)))], [.row (.int .i64) h0 .own]⟩
theorem eq99 (kind : Int) (data : List Int) (r : List W) (lh : Heap) : FB E H99 Try.f99 [.one (.int .i64 kind), .one (.ro (.int .i64) data)] [] r lh =
  (
   FL E H99 Try.f99 0 r lh 0 (S99_L0 kind data 0 [])) := by kernel_rfl
theorem eq99_L0 (kind0 : Int) (data1 : List Int) (x6 : Int) (h0 : List Int) (r : List W) (lh : Heap) : FL1 E H99 Try.f99 0 r lh 0 (S99_L0 kind0 data1 x6 h0) =
  (
   Br (decide (x6 < (8 : Int))) (
    ∃ r0 : List Int, SC P 133 [.one (.int .i64 kind0), .one (.int .i64 x6)] [] [.one (.ro (.int .i64) r0)] [] ∧
     ∃ r1 : Int, SC P 132 [.one (.ro (.int .i64) r0), .one (.ro (.int .i64) data1)] [] [.one (.int .i64 r1)] [] ∧
      Ck (Nat.ble ((h0.length + 1) * 8) roomy) (
       FL E H99 Try.f99 0 r lh 0 (S99_L0 kind0 data1 (IntKind.wrap .i64 (x6 + 1)) (h0 ++ [r1])))) (
    Ret r lh [.one (.sl 0 none)] [.row (.int .i64) h0 .own])) := by kernel_rfl
theorem l99 (kind : Int) (hk : inB kind 1 2 = true) (d : V4) (hd : VOk d) : ∀ (n i : Nat) (out : List Int), i + n = 8 → out.length = i → FL E H99 Try.f99 0 [.one (.sl 0 none)] [.row (.int .i64) (out ++ mapR (fun j => dotF (rowV kind (j : Int)) d) i n) .own] 0 (S99_L0 kind d.l (i : Int) out)
  | 0, i, out, h, ho => by
    refine FL_of1 ?_
    rw [eq99_L0]
    exact Br_f (by omega) ⟨rfl, by rw [mapR, List.append_nil]⟩
  | n + 1, i, out, h, ho => by
    refine FL_of1 ?_
    rw [eq99_L0, wS (by omega), mapR]
    refine Br_t (by omega) ⟨(rowV kind (i : Int)).l, c133 kind (i : Int) hk (by omega) (by omega), dotF (rowV kind (i : Int)) d, c132 _ d (rowV_ok _ _) hd, Ck_room (by omega) ?_⟩
    have := l99 kind hk d hd n (i + 1) (out ++ [dotF (rowV kind (i : Int)) d]) (by omega) (by simp; omega)
    rw [List.append_assoc] at this
    exact this
theorem c99 (kind : Int) (hk : inB kind 1 2 = true) (d : V4) (hd : VOk d) : SC P 99 [.one (.int .i64 kind), .one (.ro (.int .i64) d.l)] [] [.one (.sl 0 none)] [.row (.int .i64) (allF kind d) .own] := by
  refine SC_of_FB (H := H99) E_ok Try.func99 (by kernel_rfl) ?_
  rw [eq99]
  exact l99 kind hk d hd 8 0 [] (by omega) rfl
theorem set_unit {p : Pat} (h : patchOk p = true) : [0, 0, 0, 0].set p.1.toNat p.2 = (vtimes (unitF p.1) p.2).l := by
  obtain ⟨a, q⟩ := p
  obtain ⟨⟨p0, p1⟩, q0, q1⟩ := patchOk_iff.1 h
  simp only at p0 p1 q0 q1
  have e1 : 1 * q % 31 = q := by omega
  have e0 : 0 * q % 31 = 0 := by omega
  have : a = 0 ∨ a = 1 ∨ a = 2 ∨ a = 3 := by omega
  rcases this with rfl | rfl | rfl | rfl
  · show [q, 0, 0, 0] = [1 * q % 31, 0 * q % 31, 0 * q % 31, 0 * q % 31]
    rw [e1, e0]
  · show [0, q, 0, 0] = [0 * q % 31, 1 * q % 31, 0 * q % 31, 0 * q % 31]
    rw [e1, e0]
  · show [0, 0, q, 0] = [0 * q % 31, 0 * q % 31, 1 * q % 31, 0 * q % 31]
    rw [e1, e0]
  · show [0, 0, 0, q] = [0 * q % 31, 0 * q % 31, 0 * q % 31, 1 * q % 31]
    rw [e1, e0]
/-! loop.example/keelson/spec.l22Row -/
def H80 : Hint := ⟨[], [], [], [], [], [], []⟩
theorem eq80 (kind : Int) (p : (Int × Int)) (r : List W) (lh : Heap) : FB E H80 Try.f80 [.one (.int .i64 kind), .agg [.int .i64 p.1, .int .i64 p.2]] [] r lh =
  (
   Ck (decide ((0 : Int) ≤ p.1)) (
    Ck (decide (p.1 < (4 : Int))) (
     Ck (Nat.ble (p.1.toNat + 1) 4) (
      ∃ r0 : List Int, SC P 99 [.one (.int .i64 kind), .one (.ro (.int .i64) ([0, 0, 0, 0].set p.1.toNat p.2))] [] [.one (.sl 0 none)] [.row (.int .i64) r0 .own] ∧
       Ret r lh [.one (.sl 0 none)] [.row (.int .i64) r0 .own])))) := by kernel_rfl
theorem c80 (kind : Int) (p : Pat) (hk : inB kind 1 2 = true) (hp : patchOk p = true) : SC P 80 [.one (.int .i64 kind), .agg [.int .i64 p.1, .int .i64 p.2]] [] [.one (.sl 0 none)] [.row (.int .i64) (allF kind (vtimes (unitF p.1) p.2)) .own] := by
  refine SC_of_FB (H := H80) E_ok Try.func80 (by kernel_rfl) ?_
  rw [eq80]
  obtain ⟨⟨p0, p1⟩, q0, q1⟩ := patchOk_iff.1 hp
  rw [set_unit hp]
  exact Ck_d (by omega) (Ck_d (by omega) (Ck_le (by omega) ⟨_, c99 kind hk _ (vtimes_ok _ _), rfl, rfl⟩))
/-! loop.example/keelson/spec.PatchRow -/
def H34 : Hint := ⟨[], [], [], [], [], [], []⟩
theorem eq34 (kind : Int) (p : (Int × Int)) (r : List W) (lh : Heap) : FB E H34 Try.f34 [.one (.int .i64 kind), .agg [.int .i64 p.1, .int .i64 p.2]] [] r lh =
  (
   ∃ r0 : Bool, SC P 78 [.one (.int .i64 kind)] [] [.one (.bool r0)] [] ∧
    Br (!r0) (
     Ret r lh [.one (.sl 0 none)] [.row (.int .i64) [] .own]) (
     ∃ r1 : Bool, SC P 79 [.agg [.int .i64 p.1, .int .i64 p.2]] [] [.one (.bool r1)] [] ∧
      Br (!r1) (
       Ret r lh [.one (.sl 0 none)] [.row (.int .i64) [] .own]) (
       ∃ r2 : List Int, SC P 80 [.one (.int .i64 kind), .agg [.int .i64 p.1, .int .i64 p.2]] [] [.one (.sl 0 none)] [.row (.int .i64) r2 .own] ∧
        Ret r lh [.one (.sl 0 none)] [.row (.int .i64) r2 .own]))) := by kernel_rfl
theorem c34 (kind : Int) (p : Pat) : SC P 34 [.one (.int .i64 kind), .agg [.int .i64 p.1, .int .i64 p.2]] [] [.one (.sl 0 none)] [.row (.int .i64) (patchRowF kind p) .own] := by
  refine SC_of_FB (H := H34) E_ok Try.func34 (by kernel_rfl) ?_
  rw [eq34]
  refine ⟨_, c78 kind, Br_nb (fun e => ⟨rfl, by rw [patchRowF, e]; rfl⟩) (fun e => ⟨_, c79 p, Br_nb (fun e' => ⟨rfl, by rw [patchRowF, e', Bool.and_false]; rfl⟩) (fun e' => ⟨_, c80 kind p e e', rfl, by rw [patchRowF, e, e']; rfl⟩)⟩)⟩
/-! loop.example/keelson/impl.PatchRow -/
def H32 : Hint := ⟨[], [], [(3, [0, 1, 2, 4, 5, 3, 6, 7, 8])], [], [.one (.own (.int .i64))], [], []⟩
theorem eq32 (kind : Int) (p : (Int × Int)) (r : List W) (lh : Heap) : FB E H32 Try.f32 [.one (.int .i64 kind), .agg [.int .i64 p.1, .int .i64 p.2]] [] r lh =
  (
   ∃ r0 : Bool, SC P 65 [.one (.int .i64 kind)] [] [.one (.bool r0)] [] ∧
    Br (!r0) (
     Ret r lh [.one (.sl 0 none)] [.row (.int .i64) [] .own]) (
     ∃ r1 : Bool, SC P 74 [.agg [.int .i64 p.1, .int .i64 p.2]] [] [.one (.bool r1)] [] ∧
      Br (!r1) (
       Ret r lh [.one (.sl 0 none)] [.row (.int .i64) [] .own]) (
       ∃ r2 : Int × Int × Int × Int, SC P 76 [.one (.int .i64 p.1)] [] [.agg [.int .i64 r2.1, .int .i64 r2.2.1, .int .i64 r2.2.2.1, .int .i64 r2.2.2.2]] [] ∧
        ∃ r3 : Int × Int × Int × Int, SC P 77 [.agg [.int .i64 r2.1, .int .i64 r2.2.1, .int .i64 r2.2.2.1, .int .i64 r2.2.2.2], .one (.int .i64 p.2)] [] [.agg [.int .i64 r3.1, .int .i64 r3.2.1, .int .i64 r3.2.2.1, .int .i64 r3.2.2.2]] [] ∧
         ∃ r4 : List Int, SC P 75 [.one (.int .i64 kind), .agg [.int .i64 r3.1, .int .i64 r3.2.1, .int .i64 r3.2.2.1, .int .i64 r3.2.2.2]] [] [.one (.sl 0 none)] [.row (.int .i64) r4 .own] ∧
          Ret r lh [.one (.sl 0 none)] [.row (.int .i64) r4 .own]))) := by kernel_rfl
theorem c32 (kind : Int) (p : Pat) : SC P 32 [.one (.int .i64 kind), .agg [.int .i64 p.1, .int .i64 p.2]] [] [.one (.sl 0 none)] [.row (.int .i64) (patchRowF kind p) .own] := by
  refine SC_of_FB (H := H32) E_ok Try.func32 (by kernel_rfl) ?_
  rw [eq32]
  refine ⟨_, c65 kind, Br_nb (fun e => ⟨rfl, by rw [patchRowF, e]; rfl⟩) (fun e => ⟨_, c74 p, Br_nb (fun e' => ⟨rfl, by rw [patchRowF, e', Bool.and_false]; rfl⟩) (fun e' => ?_)⟩)⟩
  obtain ⟨⟨p0, p1⟩, q0, q1⟩ := patchOk_iff.1 e'
  refine ⟨unitF p.1, c76 _ (by omega) (by omega), vtimes (unitF p.1) p.2, c77 _ _ (unitF_ok _) ⟨by omega, by omega⟩, _, c75 kind _ (vtimes_ok _ _), rfl, by rw [patchRowF, e, e']; rfl⟩




def marksP (k : Int) (n : Nat) : List Pat := (List.range n).map fun i : Nat => (k + 2 * (i : Int), k + 2 * (i : Int) + 1)
theorem marksP_length {k : Int} {n : Nat} : (marksP k n).length = n := by simp [marksP]
theorem marksP_get {k : Int} {n i : Nat} (h : i < n) : (marksP k n)[i]? = some (k + 2 * (i : Int), k + 2 * (i : Int) + 1) := by
  simp [marksP, h]
theorem marksP_getD {k : Int} {n i : Nat} {z : Pat} (h : i < n) : (marksP k n).getD i z = (k + 2 * (i : Int), k + 2 * (i : Int) + 1) := by
  rw [List.getD, marksP_get h]; rfl





end Go.Proofs.Ytlebgbcoljnejaa.Sh
