/- Patches: contracts, and the exact laws on them. -/
import Derived.Test.YtjoiadaogppmkaaShP1
namespace Go.Proofs.Ytjoiadaogppmkaa.Sh
open Go
set_option linter.unusedVariables false
set_option linter.unusedSimpArgs false
/-! loop.example/keelson/laws.toIntS -/
def H73 : Hint := ⟨[[(0, 0, .bool), (3, 0, .bool), (4, 0, .bool)]], [], [], [], [], [], []⟩
def S73_L0 (a0 : List Int) (i4 : Int) (h0 : List Int) : St := ⟨[(0, .w (.one (.ro (.int .i64) a0))), (3, .w (.one (.sl 0 none))), (4, .w (.one (.int .i64 i4)))], [.row (.int .i64) h0 .own]⟩
theorem eq73 (a : List Int) (r : List W) (lh : Heap) : FB E H73 Try.f73 [.one (.ro (.int .i64) a)] [] r lh =
  (
   Ck (decide ((0 : Int) ≤ ((a.length : Nat) : Int))) (
    Ck (decide (((a.length : Nat) : Int) ≤ ((a.length : Nat) : Int))) (
     Ck (decide (((a.length : Nat) : Int) * (8 : Nat) ≤ (roomy : Int))) (
      FL E H73 Try.f73 0 r lh 0 (S73_L0 a 0 (List.replicate (((a.length : Nat) : Int).toNat) (0 : Int))))))) := by kernel_rfl
theorem eq73_L0 (a0 : List Int) (i4 : Int) (h0 : List Int) (r : List W) (lh : Heap) : FL1 E H73 Try.f73 0 r lh 0 (S73_L0 a0 i4 h0) =
  (
   Br (decide (i4 < ((a0.length : Nat) : Int))) (
    Ck (decide ((0 : Int) ≤ i4)) (
     Ck (decide (i4 < ((a0.length : Nat) : Int))) (
      Ck (decide ((0 : Int) ≤ i4)) (
       Ck (decide (i4 < ((h0.length : Nat) : Int))) (
        Ck (Nat.ble (i4.toNat + 1) h0.length) (
         FL E H73 Try.f73 0 r lh 0 (S73_L0 a0 (IntKind.wrap .i64 (i4 + 1)) (h0.set i4.toNat (a0.getD i4.toNat 0))))))))) (
    Ret r lh [.one (.sl 0 none)] [.row (.int .i64) h0 .own])) := by kernel_rfl
theorem l73 (l : List Int) (hl : l.length ≤ 1048576) : ∀ (n i : Nat) (out : List Int), i + n = l.length → out.length = l.length → (∀ j, j < i → out[j]? = l[j]?) → FL E H73 Try.f73 0 [.one (.sl 0 none)] [.row (.int .i64) l .own] 0 (S73_L0 l (i : Int) out)
  | 0, i, out, h, ho, H => by
    refine FL_of1 ?_
    rw [eq73_L0]
    obtain rfl : out = l := fill_done ho fun j hj => H j (by omega)
    exact Br_f (by omega) ⟨rfl, rfl⟩
  | n + 1, i, out, h, ho, H => by
    refine FL_of1 ?_
    rw [eq73_L0, wS (by omega)]
    simp only [Int.toNat_natCast]
    refine Br_t (by omega) (Ck_d (by omega) (Ck_d (by omega) (Ck_d (by omega) (Ck_d (by omega) (Ck_le (by omega) ?_)))))
    refine l73 l hl n (i + 1) _ (by omega) (by simp [ho]) (fill_step ho ?_ H)
    rw [getD_eq (show i < l.length by omega)]
    exact List.getElem?_eq_getElem _
theorem c73 (l : List Int) (hl : l.length ≤ 1048576) : SC P 73 [.one (.ro (.int .i64) l)] [] [.one (.sl 0 none)] [.row (.int .i64) l .own] := by
  refine SC_of_FB (H := H73) E_ok Try.func73 (by kernel_rfl) ?_
  rw [eq73]
  refine Ck_d (by omega) (Ck_d (by omega) (Ck_roomI (by omega) ?_))
  exact l73 l hl l.length 0 _ (by omega) (by simp) (fun j hj => absurd hj (by omega))
/-! loop.example/keelson/laws.eqIntS -/
def H74 : Hint := ⟨[[(0, 0, .bool), (1, 0, .bool), (5, 0, .bool)]], [], [(6, [0, 1, 2, 3, 4, 5, 6, 7, 8])], [], [], [], []⟩
def S74_L0 (a0 : List Int) (b1 : List Int) (i5 : Int) : St := ⟨[(0, .w (.one (.ro (.int .i64) a0))), (1, .w (.one (.ro (.int .i64) b1))), (5, .w (.one (.int .i64 i5)))], []⟩
theorem eq74 (a : List Int) (b : List Int) (r : List W) (lh : Heap) : FB E H74 Try.f74 [.one (.ro (.int .i64) a), .one (.ro (.int .i64) b)] [] r lh =
  (
   Br (!(decide (((a.length : Nat) : Int) = ((b.length : Nat) : Int)))) (
    Ret r lh [.one (.bool false)] []) (
    FL E H74 Try.f74 0 r lh 0 (S74_L0 a b 0))) := by kernel_rfl
theorem eq74_L0 (a0 : List Int) (b1 : List Int) (i5 : Int) (r : List W) (lh : Heap) : FL1 E H74 Try.f74 0 r lh 0 (S74_L0 a0 b1 i5) =
  (
   Br (decide (i5 < ((a0.length : Nat) : Int))) (
    Ck (decide ((0 : Int) ≤ i5)) (
     Ck (decide (i5 < ((a0.length : Nat) : Int))) (
      Ck (decide ((0 : Int) ≤ i5)) (
       Ck (decide (i5 < ((b1.length : Nat) : Int))) (
        Br (!(decide ((a0.getD i5.toNat 0) = (b1.getD i5.toNat 0)))) (
         Ret r lh [.one (.bool false)] []) (
         FL E H74 Try.f74 0 r lh 0 (S74_L0 a0 b1 (IntKind.wrap .i64 (i5 + 1))))))))) (
    Ret r lh [.one (.bool true)] [])) := by kernel_rfl
theorem l74 (a b : List Int) (hl : a.length ≤ 1048576) (hb : a.length = b.length) : ∀ (n i : Nat), i + n = a.length → FL E H74 Try.f74 0 [.one (.bool (allR (fun j => decide (a.getD j 0 = b.getD j 0)) i n))] [] 0 (S74_L0 a b (i : Int))
  | 0, i, h => by
    refine FL_of1 ?_
    rw [eq74_L0]
    exact Br_f (by omega) ⟨rfl, rfl⟩
  | n + 1, i, h => by
    refine FL_of1 ?_
    rw [eq74_L0, wS (by omega)]
    simp only [Int.toNat_natCast]
    refine Br_t (by omega) (Ck_d (by omega) (Ck_d (by omega) (Ck_d (by omega) (Ck_d (by omega) (Br_nd (fun h1 => ?_) (fun h1 => ?_))))))
    · exact ⟨by rw [allR_f (by simpa using h1)], rfl⟩
    · rw [allR_t (by simpa using h1)]
      exact l74 a b hl hb n (i + 1) (by omega)
theorem c74 (a b : List Int) (hl : a.length ≤ 1048576) : SC P 74 [.one (.ro (.int .i64) a), .one (.ro (.int .i64) b)] [] [.one (.bool (decide (a = b)))] [] := by
  refine SC_of_FB (H := H74) E_ok Try.func74 (by kernel_rfl) ?_
  rw [eq74]
  refine Br_nd (fun h => ⟨?_, rfl⟩) (fun h => ?_)
  · rw [decide_eq_false (by rintro rfl; exact h rfl)]
  · have h : a.length = b.length := by omega
    rw [← eqR (z := 0) h]
    exact l74 a b hl h a.length 0 (by omega)
/-! loop.example/keelson/laws.markIntS -/
def H46 : Hint := ⟨[[(0, 0, .bool), (1, 0, .bool), (5, 0, .bool)]], [], [], [], [], [], []⟩
def S46_L0 (k1 : Int) (i5 : Int) (h0 : List Int) : St := ⟨[(0, .w (.one (.sl 0 none))), (1, .w (.one (.int .i64 k1))), (5, .w (.one (.int .i64 i5)))], [.row (.int .i64) h0 .own]⟩
theorem eq46 (l : List Int) (k : Int) (r : List W) (lh : Heap) : FB E H46 Try.f46 [.one (.sl 0 none), .one (.int .i64 k)] [.row (.int .i64) l .own] r lh =
  (
   FL E H46 Try.f46 1 r lh 0 (S46_L0 k 0 l)) := by kernel_rfl
theorem eq46_L0 (k1 : Int) (i5 : Int) (h0 : List Int) (r : List W) (lh : Heap) : FL1 E H46 Try.f46 1 r lh 0 (S46_L0 k1 i5 h0) =
  (
   Br (decide (i5 < ((h0.length : Nat) : Int))) (
    Ck (decide ((0 : Int) ≤ i5)) (
     Ck (decide (i5 < ((h0.length : Nat) : Int))) (
      Ck (Nat.ble (i5.toNat + 1) h0.length) (
       FL E H46 Try.f46 1 r lh 0 (S46_L0 (IntKind.wrap .i64 (k1 + 1)) (IntKind.wrap .i64 (i5 + 1)) (h0.set i5.toNat k1)))))) (
    Ret r lh [.one (.int .i64 k1)] [.row (.int .i64) h0 .own])) := by kernel_rfl
theorem l46 (k : Int) (m : Nat) (hm : m ≤ 1048576) (k0 : 0 ≤ k) (k1 : k ≤ 1073741824) : ∀ (n i : Nat) (out : List Int), i + n = m → out.length = m → (∀ j, j < i → out[j]? = (marks (fun k : Int => k) k m)[j]?) →
    FL E H46 Try.f46 1 [.one (.int .i64 (k + m))] [.row (.int .i64) (marks (fun k : Int => k) k m) .own] 0 (S46_L0 (k + (i : Int)) (i : Int) out)
  | 0, i, out, h, ho, H => by
    refine FL_of1 ?_
    rw [eq46_L0]
    obtain rfl : out = marks (fun k : Int => k) k m := fill_done (by rw [marks_length]; exact ho) fun j hj => H j (by rw [marks_length] at hj; omega)
    refine Br_f (by omega) ⟨?_, rfl⟩
    rw [show (i : Int) = m by omega]
  | n + 1, i, out, h, ho, H => by
    refine FL_of1 ?_
    rw [eq46_L0, wS (by omega), wrap64 (n := k + (i : Int) + 1) (by omega) (by omega), show k + (i : Int) + 1 = k + ((i + 1 : Nat) : Int) by omega]
    simp only [Int.toNat_natCast]
    refine Br_t (by omega) (Ck_d (by omega) (Ck_d (by omega) (Ck_le (by omega) ?_)))
    exact l46 k m hm k0 k1 n (i + 1) _ (by omega) (by simp [ho]) (fill_step (by rw [marks_length]; exact ho) (by rw [marks_get (by omega)]) H)
theorem c46 (l : List Int) (k : Int) (hl : l.length ≤ 1048576) (k0 : 0 ≤ k) (k1 : k ≤ 1073741824) : SC P 46 [.one (.sl 0 none), .one (.int .i64 k)] [.row (.int .i64) l .own] [.one (.int .i64 (k + l.length))] [.row (.int .i64) (marks (fun k : Int => k) k l.length) .own] := by
  refine SC_of_FB (H := H46) E_ok Try.func46 (by kernel_rfl) ?_
  rw [eq46]
  have := l46 k l.length hl k0 k1 l.length 0 l (by omega) rfl (fun j hj => absurd hj (by omega))
  rw [show k + ((0 : Nat) : Int) = k by omega] at this
  exact this
/-! loop.example/keelson/laws.heldIntS -/
def H47 : Hint := ⟨[[(0, 0, .bool), (1, 0, .bool), (5, 0, .bool)]], [], [], [], [], [], []⟩
def S47_L0 (a0 : List Int) (k1 : Int) (i5 : Int) : St := ⟨[(0, .w (.one (.ro (.int .i64) a0))), (1, .w (.one (.int .i64 k1))), (5, .w (.one (.int .i64 i5)))], []⟩
theorem eq47 (a : List Int) (k : Int) (r : List W) (lh : Heap) : FB E H47 Try.f47 [.one (.ro (.int .i64) a), .one (.int .i64 k)] [] r lh =
  (
   FL E H47 Try.f47 0 r lh 0 (S47_L0 a k 0)) := by kernel_rfl
theorem eq47_L0 (a0 : List Int) (k1 : Int) (i5 : Int) (r : List W) (lh : Heap) : FL1 E H47 Try.f47 0 r lh 0 (S47_L0 a0 k1 i5) =
  (
   Br (decide (i5 < ((a0.length : Nat) : Int))) (
    Ck (decide ((0 : Int) ≤ i5)) (
     Ck (decide (i5 < ((a0.length : Nat) : Int))) (
      Br (!(decide ((a0.getD i5.toNat 0) = k1))) (
       Ret r lh [.one (.int .i64 (-1))] []) (
       FL E H47 Try.f47 0 r lh 0 (S47_L0 a0 (IntKind.wrap .i64 (k1 + 1)) (IntKind.wrap .i64 (i5 + 1))))))) (
    Ret r lh [.one (.int .i64 k1)] [])) := by kernel_rfl
theorem l47 (k : Int) (m : Nat) (hm : m ≤ 1048576) (k0 : 0 ≤ k) (k1 : k ≤ 1073741824) : ∀ (n i : Nat), i + n = m →
    FL E H47 Try.f47 0 [.one (.int .i64 (k + m))] [] 0 (S47_L0 (marks (fun k : Int => k) k m) (k + (i : Int)) (i : Int))
  | 0, i, h => by
    refine FL_of1 ?_
    rw [eq47_L0, marks_length]
    refine Br_f (by omega) ⟨?_, rfl⟩
    rw [show (i : Int) = m by omega]
  | n + 1, i, h => by
    refine FL_of1 ?_
    rw [eq47_L0, marks_length, wS (by omega), wrap64 (n := k + (i : Int) + 1) (by omega) (by omega), show k + (i : Int) + 1 = k + ((i + 1 : Nat) : Int) by omega]
    simp only [Int.toNat_natCast]
    have e := marks_getD (g := fun k : Int => k) (k := k) (n := m) (i := i) (z := 0) (by omega)
    refine Br_t (by omega) (Ck_d (by omega) (Ck_d (by omega) (Br_nd (fun h1 => ?_) (fun h1 => ?_))))
    · rw [e] at h1; simp at h1
    · exact l47 k m hm k0 k1 n (i + 1) (by omega)
theorem c47 (k : Int) (m : Nat) (hl : m ≤ 1048576) (k0 : 0 ≤ k) (k1 : k ≤ 1073741824) : SC P 47 [.one (.ro (.int .i64) (marks (fun k : Int => k) k m)), .one (.int .i64 k)] [] [.one (.int .i64 (k + m))] [] := by
  refine SC_of_FB (H := H47) E_ok Try.func47 (by kernel_rfl) ?_
  rw [eq47]
  have := l47 k m hl k0 k1 m 0 (by omega)
  rw [show k + ((0 : Nat) : Int) = k by omega] at this
  exact this
theorem allR_all {α : Type} (p : α → Bool) (l : List α) (z : α) : allR (fun j => p (l.getD j z)) 0 l.length = l.all p := bool_eq (by
  rw [allR_iff, List.all_eq_true]
  constructor
  · intro h x hx
    obtain ⟨i, hi, rfl⟩ := List.getElem_of_mem hx
    have := h i (Nat.zero_le _) (by omega)
    rwa [getD_eq hi] at this
  · intro h j _ hj
    rw [getD_eq (show j < l.length by omega)]
    exact h _ (List.getElem_mem _))
abbrev Pat := Int × Int
theorem patchOk_iff {p : Pat} : patchOk p = true ↔ (0 ≤ p.1 ∧ p.1 ≤ 3) ∧ 1 ≤ p.2 ∧ p.2 ≤ 30 := by
  rw [patchOk, Bool.and_eq_true, inB_iff, inB_iff]
theorem vecOk_get {d : List Int} (h : vecOk d = true) (i : Nat) : FOk (d.getD i 0) := by
  obtain ⟨v, hv, rfl⟩ := vecOk_v h
  exact vok_get hv i
theorem vecOk_len {d : List Int} (h : vecOk d = true) : d.length = 4 := by
  obtain ⟨v, hv, rfl⟩ := vecOk_v h
  rfl
theorem vecOk_iff {d : List Int} : vecOk d = true ↔ d.length = 4 ∧ ∀ x ∈ d, FOk x := by
  rw [vecOk, Bool.and_eq_true, decide_eq_true_iff, List.all_eq_true]
  simp only [inB_iff, FOk]
theorem vecOk_set {d : List Int} {i : Nat} {x : Int} (h : vecOk d = true) (hx : FOk x) : vecOk (d.set i x) = true := by
  rw [vecOk_iff] at h ⊢
  refine ⟨by rw [List.length_set]; exact h.1, fun y hy => ?_⟩
  rcases List.mem_or_eq_of_mem_set hy with h' | rfl
  · exact h.2 _ h'
  · exact hx
def addP (d : List Int) (p : Pat) : List Int := d.set p.1.toNat ((d.getD p.1.toNat 0 + p.2) % 31)
theorem vecOk_addP {d : List Int} {p : Pat} (h : vecOk d = true) : vecOk (addP d p) = true := vecOk_set h (fok_mod _)
def patchDataF (d : List Int) (l : List Pat) : List Int := bif vecOk d && l.all patchOk then l.foldl addP d else []
theorem vecOk_fold : ∀ {l : List Pat} {d : List Int}, vecOk d = true → vecOk (l.foldl addP d) = true
  | [], _, h => h
  | p :: l, d, h => vecOk_fold (l := l) (vecOk_addP h)
theorem patchDataF_len {d : List Int} {l : List Pat} : (patchDataF d l).length ≤ 4 := by
  rw [patchDataF]
  cases h : vecOk d && l.all patchOk
  · simp
  · rw [Bool.and_eq_true] at h
    rw [cond_true, vecOk_len (vecOk_fold h.1)]
    exact Nat.le_refl _
def diffsR (q : Nat → Int) : Nat → Nat → List Pat
  | _, 0 => []
  | i, n + 1 => (bif decide (q i = 0) then [] else [((i : Int), q i)]) ++ diffsR q (i + 1) n
theorem diffsR_congr {q q' : Nat → Int} : ∀ {n i : Nat}, (∀ j, i ≤ j → j < i + n → q j = q' j) → diffsR q i n = diffsR q' i n
  | 0, _, _ => rfl
  | n + 1, i, h => by
    rw [diffsR, diffsR, h i (Nat.le_refl _) (by omega), diffsR_congr (n := n) fun j h1 h2 => h j (by omega) (by omega)]
theorem diffsR_len {q : Nat → Int} : ∀ {n i : Nat}, (diffsR q i n).length ≤ n
  | 0, _ => Nat.le_refl _
  | n + 1, i => by
    have := diffsR_len (q := q) (n := n) (i := i + 1)
    rw [diffsR, List.length_append]
    cases decide (q i = 0) <;> simp <;> omega
def difQ (a b : List Int) (j : Nat) : Int := (b.getD j 0 + 31 - a.getD j 0) % 31
theorem difQ_zero {a b : List Int} (ha : vecOk a = true) (hb : vecOk b = true) (j : Nat) : difQ a b j = 0 ↔ a.getD j 0 = b.getD j 0 := by
  obtain ⟨a0, a1⟩ := vecOk_get ha j
  obtain ⟨b0, b1⟩ := vecOk_get hb j
  rw [difQ]
  omega
def patchOfF (a b : List Int) : List Pat := bif vecOk a && vecOk b then diffsR (difQ a b) 0 4 else []
theorem patchOfF_len {a b : List Int} : (patchOfF a b).length ≤ 4 := by
  rw [patchOfF]
  cases vecOk a && vecOk b
  · simp
  · exact diffsR_len
def patchRowF (kind : Int) (p : Pat) : List Int := bif inB kind 1 2 && patchOk p then allF kind (vtimes (unitF p.1) p.2) else []
theorem patchRowF_len {kind : Int} {p : Pat} : (patchRowF kind p).length ≤ 8 := by
  rw [patchRowF]
  cases inB kind 1 2 && patchOk p
  · simp
  · rw [cond_true, allF_length]; exact Nat.le_refl _
/-! loop.example/keelson/spec.VecOk -/
def H50 : Hint := ⟨[[(0, 0, .bool), (3, 0, .bool)]], [], [], [], [], [], []⟩
def S50_L0 (v0 : List Int) (i3 : Int) : St := ⟨[(0, .w (.one (.ro (.int .i64) v0))), (3, .w (.one (.int .i64 i3)))], []⟩
theorem eq50 (v : List Int) (r : List W) (lh : Heap) : FB E H50 Try.f50 [.one (.ro (.int .i64) v)] [] r lh =
  (
   FL E H50 Try.f50 0 r lh 0 (S50_L0 v 0)) := by kernel_rfl
theorem eq50_L0 (v0 : List Int) (i3 : Int) (r : List W) (lh : Heap) : FL1 E H50 Try.f50 0 r lh 0 (S50_L0 v0 i3) =
  (
   Br (decide (i3 < ((v0.length : Nat) : Int))) (
    Ck (decide ((0 : Int) ≤ i3)) (
     Ck (decide (i3 < ((v0.length : Nat) : Int))) (
      ∃ r0 : Bool, SC P 87 [.one (.int .i64 (v0.getD i3.toNat 0))] [] [.one (.bool r0)] [] ∧
       Br (!r0) (
        Ret r lh [.one (.bool false)] []) (
        FL E H50 Try.f50 0 r lh 0 (S50_L0 v0 (IntKind.wrap .i64 (i3 + 1))))))) (
    Ret r lh [.one (.bool (decide (((v0.length : Nat) : Int) = (4 : Int))))] [])) := by kernel_rfl
theorem l50 (l : List Int) (hl : l.length ≤ 1048576) : ∀ (n i : Nat), i + n = l.length → FL E H50 Try.f50 0 [.one (.bool (decide (l.length = 4) && allR (fun j => inB (l.getD j 0) 0 30) i n))] [] 0 (S50_L0 l (i : Int))
  | 0, i, h => by
    refine FL_of1 ?_
    rw [eq50_L0]
    refine Br_f (by omega) ⟨?_, rfl⟩
    rw [allR, Bool.and_true]
    congr 3
    exact decide_eq_decide.2 (by omega)
  | n + 1, i, h => by
    refine FL_of1 ?_
    rw [eq50_L0, wS (by omega)]
    simp only [Int.toNat_natCast]
    refine Br_t (by omega) (Ck_d (by omega) (Ck_d (by omega) ⟨_, c87 _, Br_nb (fun h1 => ?_) (fun h1 => ?_)⟩))
    · exact ⟨by rw [allR_f h1, Bool.and_false], rfl⟩
    · rw [allR_t h1]
      exact l50 l hl n (i + 1) (by omega)
theorem c50 (l : List Int) (hl : l.length ≤ 1048576) : SC P 50 [.one (.ro (.int .i64) l)] [] [.one (.bool (vecOk l))] [] := by
  refine SC_of_FB (H := H50) E_ok Try.func50 (by kernel_rfl) ?_
  rw [eq50]
  have := l50 l hl l.length 0 (by omega)
  rw [allR_all (fun n => inB n 0 30) l 0] at this
  exact this








theorem vminus_get {u v : V4} (hu : VOk u) (hv : VOk v) : ∀ j, j < 4 → (vminus v u).l.getD j 0 = difQ u.l v.l j := by
  obtain ⟨u0, u1, u2, u3⟩ := u
  obtain ⟨v0, v1, v2, v3⟩ := v
  obtain ⟨⟨_, _⟩, ⟨_, _⟩, ⟨_, _⟩, _, _⟩ := hu
  obtain ⟨⟨_, _⟩, ⟨_, _⟩, ⟨_, _⟩, _, _⟩ := hv
  intro j hj
  have : j = 0 ∨ j = 1 ∨ j = 2 ∨ j = 3 := by omega
  rcases this with rfl | rfl | rfl | rfl <;> simp only [V4.l, vminus, vplus, vtimes, difQ, List.getD_cons_zero, List.getD_cons_succ] <;> simp only at * <;> omega

/-! loop.example/keelson/spec.l2Dot -/
def H109 : Hint := ⟨[[(0, 0, .bool), (1, 0, .bool), (5, 0, .bool), (6, 0, .bool)]], [], [(5, [0, 1, 2, 3, 4, 5, 6, 7, 8, 9, 10, 11, 12])], [], [], [], []⟩
def S109_L0 (a0 : List Int) (b1 : List Int) (n5 : Int) (i6 : Int) : St := ⟨[(0, .w (.one (.ro (.int .i64) a0))), (1, .w (.one (.ro (.int .i64) b1))), (5, .w (.one (.int .i64 n5))), (6, .w (.one (.int .i64 i6)))], []⟩
theorem eq109 (a : List Int) (b : List Int) (r : List W) (lh : Heap) : FB E H109 Try.f109 [.one (.ro (.int .i64) a), .one (.ro (.int .i64) b)] [] r lh =
  (
   FL E H109 Try.f109 0 r lh 0 (S109_L0 a b 0 0)) := by kernel_rfl
theorem eq109_L0 (a0 : List Int) (b1 : List Int) (n5 : Int) (i6 : Int) (r : List W) (lh : Heap) : FL1 E H109 Try.f109 0 r lh 0 (S109_L0 a0 b1 n5 i6) =
  (
   Br (decide (i6 < ((a0.length : Nat) : Int))) (
    Ck (decide ((0 : Int) ≤ i6)) (
     Ck (decide (i6 < ((a0.length : Nat) : Int))) (
      Ck (decide ((0 : Int) ≤ i6)) (
       Ck (decide (i6 < ((b1.length : Nat) : Int))) (
        FL E H109 Try.f109 0 r lh 0 (S109_L0 a0 b1 (Int.tmod (IntKind.wrap .i64 (n5 + (IntKind.wrap .i64 ((a0.getD i6.toNat 0) * (b1.getD i6.toNat 0))))) 31) (IntKind.wrap .i64 (i6 + 1)))))))) (
    Ret r lh [.one (.int .i64 n5)] [])) := by kernel_rfl
theorem c109 (v u : V4) (hv : VOk v) (hu : VOk u) : SC P 109 [.one (.ro (.int .i64) v.l), .one (.ro (.int .i64) u.l)] [] [.one (.int .i64 (dotF v u))] [] := by
  refine SC_of_FB (H := H109) E_ok Try.func109 (by kernel_rfl) ?_
  rw [eq109]
  have step : ∀ (i : Nat) (s : Int), i < 4 → FOk s → FL E H109 Try.f109 0 [.one (.int .i64 (dotF v u))] [] 0 (S109_L0 v.l u.l ((s + v.l.getD i 0 * u.l.getD i 0) % 31) ((i + 1 : Nat) : Int)) →
      FL E H109 Try.f109 0 [.one (.int .i64 (dotF v u))] [] 0 (S109_L0 v.l u.l s (i : Int)) := by
    intro i s hi hs hF
    have hvl : v.l.length = 4 := rfl
    have hul : u.l.length = 4 := rfl
    have hm := fok_mul (vok_get hv i) (vok_get hu i)
    have := hs.1; have := hs.2
    refine FL_of1 ?_
    rw [eq109_L0, wS (by omega)]
    simp only [Int.toNat_natCast]
    rw [wrap64 (n := v.l.getD i 0 * u.l.getD i 0) (by omega) (by omega), wrap64 (n := s + v.l.getD i 0 * u.l.getD i 0) (by omega) (by omega), Int.tmod_eq_emod_of_nonneg (by omega)]
    exact Br_t (by omega) (Ck_d (by omega) (Ck_d (by omega) (Ck_d (by omega) (Ck_d (by omega) hF))))
  refine step 0 0 (by omega) ⟨by omega, by omega⟩ (step 1 _ (by omega) (fok_mod _) (step 2 _ (by omega) (fok_mod _) (step 3 _ (by omega) (fok_mod _) ?_)))
  refine FL_of1 ?_
  rw [eq109_L0]
  refine Br_f (by simp [V4.l]) ⟨?_, rfl⟩
  rw [dotF]
  simp only [V4.l, List.getD_cons_zero, List.getD_cons_succ]
  congr 3
  omega
/-! loop.example/keelson/spec.l4Row -/
def H100 : Hint := ⟨[], [], [], [], [.one (.c (.sl (.int .i64)))], [], []⟩
theorem eq100 (kind : Int) (at0 : Int) (r : List W) (lh : Heap) : FB E H100 Try.f100 [.one (.int .i64 kind), .one (.int .i64 at0)] [] r lh =
  (
   Br (decide (kind = (1 : Int))) (
    Ck (decide ((0 : Int) ≤ at0)) (
     Ck (decide (at0 < (8 : Int))) (
      Ck (Nat.ble (at0.toNat + 1) 8) (
       Ret r lh [.one (.ro (.int .i64) ([[1, 0, 0, 0], [0, 1, 0, 0], [0, 0, 1, 0], [0, 0, 0, 1], [1, 1, 0, 0], [0, 0, 1, 1], [1, 2, 4, 8], [1, 3, 9, 27]].getD at0.toNat []))] [])))) (
    Ret r lh [.one (.ro (.int .i64) [1, (IntKind.wrap .i64 (at0 + 1)), (Int.tmod (IntKind.wrap .i64 ((IntKind.wrap .i64 (at0 + 1)) * (IntKind.wrap .i64 (at0 + 1)))) 31), (Int.tmod (IntKind.wrap .i64 ((IntKind.wrap .i64 ((IntKind.wrap .i64 (at0 + 1)) * (IntKind.wrap .i64 (at0 + 1)))) * (IntKind.wrap .i64 (at0 + 1)))) 31)])] [])) := by kernel_rfl
theorem c100 (kind i : Int) (hk : inB kind 1 2 = true) (h0 : 0 ≤ i) (h1 : i ≤ 7) : SC P 100 [.one (.int .i64 kind), .one (.int .i64 i)] [] [.one (.ro (.int .i64) (rowV kind i).l)] [] := by
  refine SC_of_FB (H := H100) E_ok Try.func100 (by kernel_rfl) ?_
  rw [eq100]
  have hk := inB_iff.1 hk
  have : i = 0 ∨ i = 1 ∨ i = 2 ∨ i = 3 ∨ i = 4 ∨ i = 5 ∨ i = 6 ∨ i = 7 := by omega
  refine Br_d (fun e => ?_) (fun e => ?_)
  · subst e
    rcases this with rfl | rfl | rfl | rfl | rfl | rfl | rfl | rfl <;> exact Ck_d (by omega) (Ck_d (by omega) (Ck_le (by decide) ⟨rfl, rfl⟩))
  · obtain rfl : kind = 2 := by omega
    rcases this with rfl | rfl | rfl | rfl | rfl | rfl | rfl | rfl <;> exact ⟨rfl, rfl⟩
/-! loop.example/keelson/spec.l4All -/
def H88 : Hint := ⟨[[(0, 0, .bool), (1, 0, .bool), (5, 0, .bool), (6, 0, .bool)]], [], [], [], [], [], []⟩
def S88_L0 (kind0 : Int) (data1 : List Int) (x6 : Int) (h0 : List Int) : St := ⟨[(0, .w (.one (.int .i64 kind0))), (1, .w (.one (.ro (.int .i64) data1))), (5, .w (.one (.sl 0 none))), (6, .w (.one (.int .i64 x6)))], [.row (.int .i64) h0 .own]⟩
theorem eq88 (kind : Int) (data : List Int) (r : List W) (lh : Heap) : FB E H88 Try.f88 [.one (.int .i64 kind), .one (.ro (.int .i64) data)] [] r lh =
  (
   FL E H88 Try.f88 0 r lh 0 (S88_L0 kind data 0 [])) := by kernel_rfl
theorem eq88_L0 (kind0 : Int) (data1 : List Int) (x6 : Int) (h0 : List Int) (r : List W) (lh : Heap) : FL1 E H88 Try.f88 0 r lh 0 (S88_L0 kind0 data1 x6 h0) =
  (
   Br (decide (x6 < (8 : Int))) (
    ∃ r0 : List Int, SC P 100 [.one (.int .i64 kind0), .one (.int .i64 x6)] [] [.one (.ro (.int .i64) r0)] [] ∧
     ∃ r1 : Int, SC P 109 [.one (.ro (.int .i64) r0), .one (.ro (.int .i64) data1)] [] [.one (.int .i64 r1)] [] ∧
      Ck (Nat.ble ((h0.length + 1) * 8) roomy) (
       FL E H88 Try.f88 0 r lh 0 (S88_L0 kind0 data1 (IntKind.wrap .i64 (x6 + 1)) (h0 ++ [r1])))) (
    Ret r lh [.one (.sl 0 none)] [.row (.int .i64) h0 .own])) := by kernel_rfl
theorem l88 (kind : Int) (hk : inB kind 1 2 = true) (d : V4) (hd : VOk d) : ∀ (n i : Nat) (out : List Int), i + n = 8 → out.length = i → FL E H88 Try.f88 0 [.one (.sl 0 none)] [.row (.int .i64) (out ++ mapR (fun j => dotF (rowV kind (j : Int)) d) i n) .own] 0 (S88_L0 kind d.l (i : Int) out)
  | 0, i, out, h, ho => by
    refine FL_of1 ?_
    rw [eq88_L0]
    exact Br_f (by omega) ⟨rfl, by rw [mapR, List.append_nil]⟩
  | n + 1, i, out, h, ho => by
    refine FL_of1 ?_
    rw [eq88_L0, wS (by omega), mapR]
    refine Br_t (by omega) ⟨(rowV kind (i : Int)).l, c100 kind (i : Int) hk (by omega) (by omega), dotF (rowV kind (i : Int)) d, c109 _ d (rowV_ok _ _) hd, Ck_room (by omega) ?_⟩
    have := l88 kind hk d hd n (i + 1) (out ++ [dotF (rowV kind (i : Int)) d]) (by omega) (by simp; omega)
    rw [List.append_assoc] at this
    exact this
theorem c88 (kind : Int) (hk : inB kind 1 2 = true) (d : V4) (hd : VOk d) : SC P 88 [.one (.int .i64 kind), .one (.ro (.int .i64) d.l)] [] [.one (.sl 0 none)] [.row (.int .i64) (allF kind d) .own] := by
  refine SC_of_FB (H := H88) E_ok Try.func88 (by kernel_rfl) ?_
  rw [eq88]
  exact l88 kind hk d hd 8 0 [] (by omega) rfl
theorem set_unit {p : Pat} (h : patchOk p = true) : [0, 0, 0, 0].set p.1.toNat p.2 = (vtimes (unitF p.1) p.2).l := by
  obtain ⟨a, q⟩ := p
  obtain ⟨⟨p0, p1⟩, q0, q1⟩ := patchOk_iff.1 h
  simp only at p0 p1 q0 q1
  have e1 : 1 * q % 31 = q := by omega
  have e0 : 0 * q % 31 = 0 := by omega
  have : a = 0 ∨ a = 1 ∨ a = 2 ∨ a = 3 := by omega
  rcases this with rfl | rfl | rfl | rfl
  · show [q, 0, 0, 0] = [1 * q % 31, 0 * q % 31, 0 * q % 31, 0 * q % 31]
    rw [e1, e0]
  · show [0, q, 0, 0] = [0 * q % 31, 1 * q % 31, 0 * q % 31, 0 * q % 31]
    rw [e1, e0]
  · show [0, 0, q, 0] = [0 * q % 31, 0 * q % 31, 1 * q % 31, 0 * q % 31]
    rw [e1, e0]
  · show [0, 0, 0, q] = [0 * q % 31, 0 * q % 31, 0 * q % 31, 1 * q % 31]
    rw [e1, e0]







def marksP (k : Int) (n : Nat) : List Pat := (List.range n).map fun i : Nat => (k + 2 * (i : Int), k + 2 * (i : Int) + 1)
theorem marksP_length {k : Int} {n : Nat} : (marksP k n).length = n := by simp [marksP]
theorem marksP_get {k : Int} {n i : Nat} (h : i < n) : (marksP k n)[i]? = some (k + 2 * (i : Int), k + 2 * (i : Int) + 1) := by
  simp [marksP, h]
theorem marksP_getD {k : Int} {n i : Nat} {z : Pat} (h : i < n) : (marksP k n).getD i z = (k + 2 * (i : Int), k + 2 * (i : Int) + 1) := by
  rw [List.getD, marksP_get h]; rfl





end Go.Proofs.Ytjoiadaogppmkaa.Sh
