/- Draws of placements, and the laws on houses and placements. -/
import Derived.Test.YtiagcjjobfoflaaShB4
import Derived.Test.YtiagcjjobfoflaaMaRank
namespace Go.Proofs.Ytiagcjjobfoflaa.Sh
open Go
set_option linter.unusedVariables false
set_option linter.unusedSimpArgs false
/-! loop.example/keelson/laws.lkInts -/
def H74 : Hint := ⟨[[(0, 0, .bool), (1, 0, .bool), (5, 0, .bool)]], [], [(6, [0, 1, 2, 3, 4, 5, 6, 7, 8])], [], [], []⟩
def S74_L0 (a0 : List Int) (b1 : List Int) (i5 : Int) : St := ⟨[(0, .w (.one (.ro (.int .i64) a0))), (1, .w (.one (.ro (.int .i64) b1))), (5, .w (.one (.int .i64 i5)))], []⟩
theorem eq74 (a : List Int) (b : List Int) (r : List W) (lh : Heap) : FB E H74 Try.f74 [.one (.ro (.int .i64) a), .one (.ro (.int .i64) b)] [] r lh =
  (
   Br (!(decide (((a.length : Nat) : Int) = ((b.length : Nat) : Int)))) (
    Ret r lh [.one (.bool false)] []) (
    FL E H74 Try.f74 0 r lh 0 (S74_L0 a b 0))) := by kernel_rfl
theorem eq74_L0 (a0 : List Int) (b1 : List Int) (i5 : Int) (r : List W) (lh : Heap) : FL1 E H74 Try.f74 0 r lh 0 (S74_L0 a0 b1 i5) =
  (
   Br (decide (i5 < ((a0.length : Nat) : Int))) (
    Ck (decide ((0 : Int) ≤ i5)) (
     Ck (decide (i5 < ((a0.length : Nat) : Int))) (
      Ck (decide ((0 : Int) ≤ i5)) (
       Ck (decide (i5 < ((b1.length : Nat) : Int))) (
        Br (!(decide ((a0.getD i5.toNat 0) = (b1.getD i5.toNat 0)))) (
         Ret r lh [.one (.bool false)] []) (
         FL E H74 Try.f74 0 r lh 0 (S74_L0 a0 b1 (IntKind.wrap .i64 (i5 + 1))))))))) (
    Ret r lh [.one (.bool true)] [])) := by kernel_rfl
theorem l74 (a b : List Int) (hl : a.length ≤ 1048576) (hb : a.length = b.length) : ∀ (n i : Nat), i + n = a.length → FL E H74 Try.f74 0 [.one (.bool (allR (fun j => decide (a.getD j 0 = b.getD j 0)) i n))] [] 0 (S74_L0 a b (i : Int))
  | 0, i, h => by
    refine FL_of1 ?_
    rw [eq74_L0]
    exact Br_f (by omega) ⟨rfl, rfl⟩
  | n + 1, i, h => by
    refine FL_of1 ?_
    rw [eq74_L0, wS (by omega)]
    simp only [Int.toNat_natCast]
    refine Br_t (by omega) (Ck_d (by omega) (Ck_d (by omega) (Ck_d (by omega) (Ck_d (by omega) (Br_nd (fun h1 => ?_) (fun h1 => ?_))))))
    · exact ⟨by rw [allR_f (by simpa using h1)], rfl⟩
    · rw [allR_t (by simpa using h1)]
      exact l74 a b hl hb n (i + 1) (by omega)
theorem c74 (a b : List Int) (hl : a.length ≤ 1048576) : SC P 74 [.one (.ro (.int .i64) a), .one (.ro (.int .i64) b)] [] [.one (.bool (decide (a = b)))] [] := by
  refine SC_of_FB (H := H74) E_ok Try.func74 (by kernel_rfl) ?_
  rw [eq74]
  refine Br_nd (fun h => ⟨?_, rfl⟩) (fun h => ?_)
  · rw [decide_eq_false (by rintro rfl; exact h rfl)]
  · have h : a.length = b.length := by omega
    rw [← eqR (z := 0) h]
    exact l74 a b hl h a.length 0 (by omega)
/-! loop.example/keelson/laws.lkBools -/
def H70 : Hint := ⟨[[(0, 0, .bool), (1, 0, .bool), (5, 0, .bool)]], [], [(6, [0, 1, 2, 3, 4, 5, 6, 7, 8])], [], [], []⟩
def S70_L0 (a0 : List Bool) (b1 : List Bool) (i5 : Int) : St := ⟨[(0, .w (.one (.ro .bool a0))), (1, .w (.one (.ro .bool b1))), (5, .w (.one (.int .i64 i5)))], []⟩
theorem eq70 (a : List Bool) (b : List Bool) (r : List W) (lh : Heap) : FB E H70 Try.f70 [.one (.ro .bool a), .one (.ro .bool b)] [] r lh =
  (
   Br (!(decide (((a.length : Nat) : Int) = ((b.length : Nat) : Int)))) (
    Ret r lh [.one (.bool false)] []) (
    FL E H70 Try.f70 0 r lh 0 (S70_L0 a b 0))) := by kernel_rfl
theorem eq70_L0 (a0 : List Bool) (b1 : List Bool) (i5 : Int) (r : List W) (lh : Heap) : FL1 E H70 Try.f70 0 r lh 0 (S70_L0 a0 b1 i5) =
  (
   Br (decide (i5 < ((a0.length : Nat) : Int))) (
    Ck (decide ((0 : Int) ≤ i5)) (
     Ck (decide (i5 < ((a0.length : Nat) : Int))) (
      Ck (decide ((0 : Int) ≤ i5)) (
       Ck (decide (i5 < ((b1.length : Nat) : Int))) (
        Br ((a0.getD i5.toNat false) != (b1.getD i5.toNat false)) (
         Ret r lh [.one (.bool false)] []) (
         FL E H70 Try.f70 0 r lh 0 (S70_L0 a0 b1 (IntKind.wrap .i64 (i5 + 1))))))))) (
    Ret r lh [.one (.bool true)] [])) := by kernel_rfl
theorem l70 (a b : List Bool) (hl : a.length ≤ 1048576) (hb : a.length = b.length) : ∀ (n i : Nat), i + n = a.length → FL E H70 Try.f70 0 [.one (.bool (allR (fun j => decide (a.getD j false = b.getD j false)) i n))] [] 0 (S70_L0 a b (i : Int))
  | 0, i, h => by
    refine FL_of1 ?_
    rw [eq70_L0]
    exact Br_f (by omega) ⟨rfl, rfl⟩
  | n + 1, i, h => by
    refine FL_of1 ?_
    rw [eq70_L0, wS (by omega)]
    simp only [Int.toNat_natCast]
    refine Br_t (by omega) (Ck_d (by omega) (Ck_d (by omega) (Ck_d (by omega) (Ck_d (by omega) (Br_b (fun h1 => ?_) (fun h1 => ?_))))))
    · exact ⟨by rw [allR_f (by simpa using h1)], rfl⟩
    · rw [allR_t (by simpa using h1)]
      exact l70 a b hl hb n (i + 1) (by omega)
theorem c70 (a b : List Bool) (hl : a.length ≤ 1048576) : SC P 70 [.one (.ro (.bool) a), .one (.ro (.bool) b)] [] [.one (.bool (decide (a = b)))] [] := by
  refine SC_of_FB (H := H70) E_ok Try.func70 (by kernel_rfl) ?_
  rw [eq70]
  refine Br_nd (fun h => ⟨?_, rfl⟩) (fun h => ?_)
  · rw [decide_eq_false (by rintro rfl; exact h rfl)]
  · have h : a.length = b.length := by omega
    rw [← eqR (z := false) h]
    exact l70 a b hl h a.length 0 (by omega)
/-! loop.example/keelson/laws.lkIn -/
def H75 : Hint := ⟨[[(0, 0, .bool), (1, 0, .bool), (5, 0, .bool)]], [], [], [], [], []⟩
def S75_L0 (l0 : List Int) (n1 : Int) (i5 : Int) : St := ⟨[(0, .w (.one (.ro (.int .i64) l0))), (1, .w (.one (.int .i64 n1))), (5, .w (.one (.int .i64 i5)))], []⟩
theorem eq75 (l : List Int) (n : Int) (r : List W) (lh : Heap) : FB E H75 Try.f75 [.one (.ro (.int .i64) l), .one (.int .i64 n)] [] r lh =
  (
   FL E H75 Try.f75 0 r lh 0 (S75_L0 l n 0)) := by kernel_rfl
theorem eq75_L0 (l0 : List Int) (n1 : Int) (i5 : Int) (r : List W) (lh : Heap) : FL1 E H75 Try.f75 0 r lh 0 (S75_L0 l0 n1 i5) =
  (
   Br (decide (i5 < ((l0.length : Nat) : Int))) (
    Ck (decide ((0 : Int) ≤ i5)) (
     Ck (decide (i5 < ((l0.length : Nat) : Int))) (
      Br (decide ((l0.getD i5.toNat 0) = n1)) (
       Ret r lh [.one (.bool true)] []) (
       FL E H75 Try.f75 0 r lh 0 (S75_L0 l0 n1 (IntKind.wrap .i64 (i5 + 1))))))) (
    Ret r lh [.one (.bool false)] [])) := by kernel_rfl
theorem l75 (l : List Int) (x : Int) (hl : l.length ≤ 1048576) : ∀ (n i : Nat), i + n = l.length → FL E H75 Try.f75 0 [.one (.bool (findR (fun j => decide (l.getD j 0 = x)) (fun _ => true) false i n))] [] 0 (S75_L0 l x (i : Int))
  | 0, i, h => by
    refine FL_of1 ?_
    rw [eq75_L0]
    exact Br_f (by omega) ⟨rfl, rfl⟩
  | n + 1, i, h => by
    refine FL_of1 ?_
    rw [eq75_L0, wS (by omega), findR]
    simp only [Int.toNat_natCast]
    refine Br_t (by omega) (Ck_d (by omega) (Ck_d (by omega) (Br_d (fun h1 => ?_) (fun h1 => ?_))))
    · exact ⟨by rw [decide_eq_true h1, cond_true], rfl⟩
    · rw [decide_eq_false h1, cond_false]
      exact l75 l x hl n (i + 1) (by omega)
theorem c75 (l : List Int) (x : Int) (hl : l.length ≤ 1048576) : SC P 75 [.one (.ro (.int .i64) l), .one (.int .i64 x)] [] [.one (.bool (has l x))] [] := by
  refine SC_of_FB (H := H75) E_ok Try.func75 (by kernel_rfl) ?_
  rw [eq75]
  rw [← has_findR]
  exact l75 l x hl l.length 0 (by omega)
/-! loop.example/keelson/laws.lkMany -/
def H72 : Hint := ⟨[[(0, 0, .bool), (3, 0, .bool), (4, 0, .bool)]], [], [], [], [], []⟩
def S72_L0 (there0 : List Bool) (n3 : Int) (i4 : Int) : St := ⟨[(0, .w (.one (.ro .bool there0))), (3, .w (.one (.int .i64 n3))), (4, .w (.one (.int .i64 i4)))], []⟩
theorem eq72 (there : List Bool) (r : List W) (lh : Heap) : FB E H72 Try.f72 [.one (.ro .bool there)] [] r lh =
  (
   FL E H72 Try.f72 0 r lh 0 (S72_L0 there 0 0)) := by kernel_rfl
theorem eq72_L0 (there0 : List Bool) (n3 : Int) (i4 : Int) (r : List W) (lh : Heap) : FL1 E H72 Try.f72 0 r lh 0 (S72_L0 there0 n3 i4) =
  (
   Br (decide (i4 < ((there0.length : Nat) : Int))) (
    Ck (decide ((0 : Int) ≤ i4)) (
     Ck (decide (i4 < ((there0.length : Nat) : Int))) (
      Br (there0.getD i4.toNat false) (
       FL E H72 Try.f72 0 r lh 0 (S72_L0 there0 (IntKind.wrap .i64 (n3 + 1)) (IntKind.wrap .i64 (i4 + 1)))) (
       FL E H72 Try.f72 0 r lh 0 (S72_L0 there0 n3 (IntKind.wrap .i64 (i4 + 1))))))) (
    Ret r lh [.one (.int .i64 n3)] [])) := by kernel_rfl
theorem l72 (l : List Bool) (hl : l.length ≤ 1048576) : ∀ (n i m : Nat), i + n = l.length → m ≤ i → FL E H72 Try.f72 0 [.one (.int .i64 ((m + countR (fun j => (fun b => b) (l.getD j false)) i n : Nat) : Int))] [] 0 (S72_L0 l (m : Int) (i : Int))
  | 0, i, m, h, hm => by
    refine FL_of1 ?_
    rw [eq72_L0]
    exact Br_f (by omega) ⟨rfl, rfl⟩
  | n + 1, i, m, h, hm => by
    refine FL_of1 ?_
    rw [eq72_L0, wS (i := i) (by omega), wS (i := m) (by omega), countR]
    simp only [Int.toNat_natCast]
    refine Br_t (by omega) (Ck_d (by omega) (Ck_d (by omega) (Br_b (fun c => ?_) (fun c => ?_))))
    · rw [c]
      have := l72 l hl n (i + 1) (m + 1) (by omega) (by omega)
      rw [Nat.add_assoc] at this
      exact this
    · rw [c]
      have := l72 l hl n (i + 1) m (by omega) (by omega)
      rw [show ∀ q : Nat, (bif false then 1 else 0) + q = q from fun q => Nat.zero_add q]
      exact this
theorem c72 (l : List Bool) (hl : l.length ≤ 1048576) : SC P 72 [.one (.ro .bool l)] [] [.one (.int .i64 (l.countP (fun b => b) : Nat))] [] := by
  refine SC_of_FB (H := H72) E_ok Try.func72 (by kernel_rfl) ?_
  rw [eq72]
  have := l72 l hl l.length 0 0 (by omega) (by omega)
  rw [countR_countP (l := l) (z := false) (fun b => b), Nat.zero_add] at this
  exact this
/-! loop.example/keelson/spec.l31Ranks -/
def H122 : Hint := ⟨[[(0, 0, .bool), (1, 0, .bool), (5, 0, .bool), (6, 0, .bool)], [(0, 0, .bool), (1, 0, .bool), (5, 0, .bool), (6, 0, .bool), (7, 0, .bool), (8, 0, .bool)]], [], [(8, [0, 1, 2, 3, 4, 5, 6, 7, 8, 9, 10, 11, 12, 13, 15, 16, 17, 18, 19, 14, 20, 21, 22, 23])], [], [], []⟩
def S122_L0 (name0 : Int) (l1 : List (Int × (Int × Int))) (h0 : List Int) (h1 : List Bool) : St := ⟨[(0, .w (.one (.int .i64 name0))), (1, .w (.one (.ro (.pair (.int .i64) (.pair (.int .i64) (.int .i64))) l1))), (5, .w (.one (.sl 0 none))), (6, .w (.one (.sl 1 none)))], [.row (.int .i64) h0 .own, .row .bool h1 .own]⟩
def S122_L1 (name0 : Int) (l1 : List (Int × (Int × Int))) (best7 : Int) (i8 : Int) (h0 : List Int) (h1 : List Bool) : St := ⟨[(0, .w (.one (.int .i64 name0))), (1, .w (.one (.ro (.pair (.int .i64) (.pair (.int .i64) (.int .i64))) l1))), (5, .w (.one (.sl 0 none))), (6, .w (.one (.sl 1 none))), (7, .w (.one (.int .i64 best7))), (8, .w (.one (.int .i64 i8)))], [.row (.int .i64) h0 .own, .row .bool h1 .own]⟩
theorem eq122 (name : Int) (l : List (Int × (Int × Int))) (r : List W) (lh : Heap) : FB E H122 Try.f122 [.one (.int .i64 name), .one (.ro (.pair (.int .i64) (.pair (.int .i64) (.int .i64))) l)] [] r lh =
  (
   Ck (decide ((0 : Int) ≤ ((l.length : Nat) : Int))) (
    Ck (decide (((l.length : Nat) : Int) ≤ ((l.length : Nat) : Int))) (
     Ck (decide (((l.length : Nat) : Int) * (1 : Nat) ≤ (roomy : Int))) (
      FL E H122 Try.f122 0 r lh 0 (S122_L0 name l [] (List.replicate (((l.length : Nat) : Int).toNat) false)))))) := by kernel_rfl
theorem eq122_L0 (name0 : Int) (l1 : List (Int × (Int × Int))) (h0 : List Int) (h1 : List Bool) (r : List W) (lh : Heap) : FL1 E H122 Try.f122 0 r lh 0 (S122_L0 name0 l1 h0 h1) =
  (
   Br (decide (((h0.length : Nat) : Int) < ((l1.length : Nat) : Int))) (
    FL E H122 Try.f122 0 r lh 1 (S122_L1 name0 l1 (-1) 0 h0 h1)) (
    Ret r lh [.one (.sl 0 none)] [.row (.int .i64) h0 .own])) := by kernel_rfl
theorem eq122_L1 (name0 : Int) (l1 : List (Int × (Int × Int))) (best7 : Int) (i8 : Int) (h0 : List Int) (h1 : List Bool) (r : List W) (lh : Heap) : FL1 E H122 Try.f122 0 r lh 1 (S122_L1 name0 l1 best7 i8 h0 h1) =
  (
   Br (decide (i8 < ((l1.length : Nat) : Int))) (
    Ck (decide ((0 : Int) ≤ i8)) (
     Ck (decide (i8 < ((h1.length : Nat) : Int))) (
      Ck (Nat.ble (i8.toNat + 1) h1.length) (
       Br (!(h1.getD i8.toNat false)) (
        Br (decide (best7 < (0 : Int))) (
         FL E H122 Try.f122 0 r lh 1 (S122_L1 name0 l1 i8 (IntKind.wrap .i64 (i8 + 1)) h0 h1)) (
         Ck (decide ((0 : Int) ≤ i8)) (
          Ck (decide (i8 < ((l1.length : Nat) : Int))) (
           Ck (decide ((0 : Int) ≤ best7)) (
            Ck (decide (best7 < ((l1.length : Nat) : Int))) (
             ∃ r0 : Int, SC P 88 [.one (.int .i64 name0), .agg [.int .i64 ((l1.getD i8.toNat (0, (0, 0))).1), .int .i64 (((l1.getD i8.toNat (0, (0, 0))).2).1), .int .i64 (((l1.getD i8.toNat (0, (0, 0))).2).2)]] [] [.one (.int .i64 r0)] [] ∧
              ∃ r1 : Int, SC P 88 [.one (.int .i64 name0), .agg [.int .i64 ((l1.getD best7.toNat (0, (0, 0))).1), .int .i64 (((l1.getD best7.toNat (0, (0, 0))).2).1), .int .i64 (((l1.getD best7.toNat (0, (0, 0))).2).2)]] [] [.one (.int .i64 r1)] [] ∧
               Br (decide (r1 < r0)) (
                FL E H122 Try.f122 0 r lh 1 (S122_L1 name0 l1 i8 (IntKind.wrap .i64 (i8 + 1)) h0 h1)) (
                FL E H122 Try.f122 0 r lh 1 (S122_L1 name0 l1 best7 (IntKind.wrap .i64 (i8 + 1)) h0 h1)))))))) (
        FL E H122 Try.f122 0 r lh 1 (S122_L1 name0 l1 best7 (IntKind.wrap .i64 (i8 + 1)) h0 h1)))))) (
    Ck (decide ((0 : Int) ≤ best7)) (
     Ck (decide (best7 < ((h1.length : Nat) : Int))) (
      Ck (Nat.ble (best7.toNat + 1) h1.length) (
       Ck (decide ((0 : Int) ≤ best7)) (
        Ck (decide (best7 < ((l1.length : Nat) : Int))) (
         Ck (Nat.ble ((h0.length + 1) * 8) roomy) (
          FL E H122 Try.f122 0 r lh 0 (S122_L0 name0 l1 (h0 ++ [(l1.getD best7.toNat (0, (0, 0))).1]) (h1.set best7.toNat true)))))))))) := by kernel_rfl
def sAt (name : Int) (l : List House) (i : Nat) : Int := scoreF name (hAt l i)
theorem l122_1 (name : Int) (l : List House) (hn : inB name 0 99 = true) (hh : ∀ h ∈ l, houseOk h = true) (hl : l.length ≤ 1048576) (out : List Int) (done : List Bool) (hd : done.length = l.length) (R : List Int) (b : Nat) (hb : b < l.length) (ho : out.length ≤ 1048576)
    (H : FL E H122 Try.f122 0 [.one (.sl 0 none)] [.row (.int .i64) R .own] 0 (S122_L0 name l (out ++ [(hAt l b).1]) (done.set b true))) :
    ∀ (n i : Nat) (best : Option Nat), i + n = l.length → (∀ c, best = some c → c < i) → bestR (sAt name l) (fun i => done.getD i false) n i best = some b →
    FL E H122 Try.f122 0 [.one (.sl 0 none)] [.row (.int .i64) R .own] 1 (S122_L1 name l (bestI best) (i : Int) out done)
  | 0, i, best, h, hc, e => by
    have e : best = some b := by cases best <;> exact e
    subst e
    refine FL_of1 ?_
    rw [eq122_L1]
    simp only [bestI, Int.toNat_natCast]
    exact Br_f (by omega) (Ck_d (by omega) (Ck_d (by omega) (Ck_le (by omega) (Ck_d (by omega) (Ck_d (by omega) (Ck_room (by omega) H))))))
  | n + 1, i, best, h, hc, e => by
    rw [bestR_succ] at e
    refine FL_of1 ?_
    rw [eq122_L1, wS (by omega)]
    simp only [Int.toNat_natCast]
    refine Br_t (by omega) (Ck_d (by omega) (Ck_d (by omega) (Ck_le (by omega) (Br_nb (fun c => ?_) (fun c => ?_)))))
    · rw [c, cond_false] at e
      cases best with
      | none =>
        exact Br_t (by simp [bestI]) (l122_1 name l hn hh hl out done hd R b hb ho H n (i + 1) (some i) (by omega) (fun c e => by cases e; omega) e)
      | some q =>
        have hq := hc q rfl
        have g1 : houseOk (hAt l i) = true := by rw [hAt, getD_eq (show i < l.length by omega)]; exact hh _ (List.getElem_mem _)
        have g2 : houseOk (hAt l q) = true := by rw [hAt, getD_eq (show q < l.length by omega)]; exact hh _ (List.getElem_mem _)
        simp only [bestI, Int.toNat_natCast]
        dsimp only at e
        refine Br_f (by omega) (Ck_d (by omega) (Ck_d (by omega) (Ck_d (by omega) (Ck_d (by omega) ⟨_, c88 name (hAt l i) hn g1, _, c88 name (hAt l q) hn g2, Br_d (fun k => ?_) (fun k => ?_)⟩))))
        · rw [show decide (sAt name l q < sAt name l i) = true from decide_eq_true k, cond_true] at e
          exact l122_1 name l hn hh hl out done hd R b hb ho H n (i + 1) (some i) (by omega) (fun c e => by cases e; omega) e
        · rw [show decide (sAt name l q < sAt name l i) = false from decide_eq_false k, cond_false] at e
          exact l122_1 name l hn hh hl out done hd R b hb ho H n (i + 1) (some q) (by omega) (fun c e => by cases e; omega) e
    · rw [c, cond_true] at e
      exact l122_1 name l hn hh hl out done hd R b hb ho H n (i + 1) best (by omega) (fun c e => by have := hc c e; omega) e
theorem l122 (name : Int) (l : List House) (hn : inB name 0 99 = true) (hh : ∀ h ∈ l, houseOk h = true) (hl : l.length ≤ 1048576) : ∀ (n : Nat) (out : List Int) (done : List Bool), done.length = l.length → done.countP (fun b => !b) = n → out.length + n = l.length →
    FL E H122 Try.f122 0 [.one (.sl 0 none)] [.row (.int .i64) (out ++ ranksL (sAt name l) (fun i => (hAt l i).1) n done) .own] 0 (S122_L0 name l out done)
  | 0, out, done, hd, hc, ho => by
    refine FL_of1 ?_
    rw [eq122_L0]
    exact Br_f (by omega) ⟨rfl, by rw [ranksL, List.append_nil]⟩
  | n + 1, out, done, hd, hc, ho => by
    obtain ⟨b, e1, e2, e3⟩ := bestR_spec (score := sAt name l) (done := fun i => done.getD i false) (n := done.length) (i := 0) (best := none) (fun b e => by cases e) (.inr (count_false (by omega)))
    have hs := count_set (done := done) (b := b) (by omega) e3
    have ih := l122 name l hn hh hl n (out ++ [(hAt l b).1]) (done.set b true) (by simpa using hd) (by omega) (by simp; omega)
    rw [List.append_assoc] at ih
    refine FL_of1 ?_
    rw [eq122_L0, ranksL, e1]
    refine Br_t (by omega) ?_
    exact l122_1 name l hn hh hl out done hd _ b (by omega) (by omega) ih l.length 0 none (by omega) (fun c e => by cases e) (by rw [← hd]; exact e1)
def ranksS (name : Int) (l : List House) : List Int := ranksL (sAt name l) (fun i => (hAt l i).1) l.length (List.replicate l.length false)
theorem c122 (name : Int) (l : List House) (hn : inB name 0 99 = true) (hh : ∀ h ∈ l, houseOk h = true) (hl : l.length ≤ 1048576) : SC P 122 [.one (.int .i64 name), .one (.ro (.pair (.int .i64) (.pair (.int .i64) (.int .i64))) l)] [] [.one (.sl 0 none)] [.row (.int .i64) (ranksS name l) .own] := by
  refine SC_of_FB (H := H122) E_ok Try.func122 (by kernel_rfl) ?_
  rw [eq122]
  exact Ck_d (by omega) (Ck_d (by omega) (Ck_roomI (by omega) (l122 name l hn hh hl l.length [] _ (by simp) (count_replicate _) (by simp))))
theorem ranksS_mem {name : Int} {l : List House} {x : Int} (h : x ∈ ranksS name l) : ∃ y ∈ l, y.1 = x := by
  obtain ⟨b, h1, h2⟩ := ranksL_mem (count_replicate _) h
  rw [List.length_replicate] at h1
  exact ⟨l[b], List.getElem_mem _, by rw [h2, hAt, getD_eq h1]⟩
theorem ranksS_length {name : Int} {l : List House} : (ranksS name l).length = l.length := ranksL_length (count_replicate _)
/-! loop.example/keelson/spec.PlaceOf -/
def H112 : Hint := ⟨[[(1, 0, .bool), (6, 0, .bool), (7, 0, .bool), (8, 0, .bool), (9, 0, .bool)]], [], [], [], [], []⟩
def S112_L0 (l1 : List (Int × (Int × Int))) (i9 : Int) (h0 : List Int) (h1 : List Int) (h2 : List Int) : St := ⟨[(1, .w (.one (.ro (.pair (.int .i64) (.pair (.int .i64) (.int .i64))) l1))), (6, .w (.one (.sl 0 none))), (7, .w (.one (.sl 1 none))), (8, .w (.one (.sl 2 none))), (9, .w (.one (.int .i64 i9)))], [.row (.int .i64) h0 .own, .row (.int .i64) h1 .own, .row (.int .i64) h2 .own]⟩
theorem eq112 (name : Int) (l : List (Int × (Int × Int))) (r : List W) (lh : Heap) : FB E H112 Try.f112 [.one (.int .i64 name), .one (.ro (.pair (.int .i64) (.pair (.int .i64) (.int .i64))) l)] [] r lh =
  (
   ∃ r0 : Bool, SC P 85 [.one (.int .i64 name), .one (.int .i64 0), .one (.int .i64 99)] [] [.one (.bool r0)] [] ∧
    Br (!r0) (
     Ret r lh [.one (.sl 0 none), .one (.bool false)] [.row (.int .i64) [] .own]) (
     ∃ r1 : Bool, SC P 36 [.one (.ro (.pair (.int .i64) (.pair (.int .i64) (.int .i64))) l)] [] [.one (.bool r1)] [] ∧
      Br (!r1) (
       Ret r lh [.one (.sl 0 none), .one (.bool false)] [.row (.int .i64) [] .own]) (
       ∃ r2 : List Int, SC P 122 [.one (.int .i64 name), .one (.ro (.pair (.int .i64) (.pair (.int .i64) (.int .i64))) l)] [] [.one (.sl 0 none)] [.row (.int .i64) r2 .own] ∧
        FL E H112 Try.f112 0 r lh 0 (S112_L0 l 0 [] r2 [0, 0, 0, 0, 0])))) := by kernel_rfl
theorem eq112_L0 (l1 : List (Int × (Int × Int))) (i9 : Int) (h0 : List Int) (h1 : List Int) (h2 : List Int) (r : List W) (lh : Heap) : FL1 E H112 Try.f112 0 r lh 0 (S112_L0 l1 i9 h0 h1 h2) =
  (
   Br (decide (i9 < ((h1.length : Nat) : Int))) (
    Br (decide (((h0.length : Nat) : Int) < (8 : Int))) (
     Ck (decide ((0 : Int) ≤ i9)) (
      Ck (decide (i9 < ((h1.length : Nat) : Int))) (
       Ck (Nat.ble (i9.toNat + 1) h1.length) (
        ∃ r0 : Int, SC P 96 [.one (.ro (.pair (.int .i64) (.pair (.int .i64) (.int .i64))) l1), .one (.int .i64 (h1.getD i9.toNat 0))] [] [.one (.int .i64 r0)] [] ∧
         Ck (decide ((0 : Int) ≤ r0)) (
          Ck (decide (r0 < ((h2.length : Nat) : Int))) (
           Ck (Nat.ble (r0.toNat + 1) h2.length) (
            Br (decide ((h2.getD r0.toNat 0) < (3 : Int))) (
             Ck (decide ((0 : Int) ≤ r0)) (
              Ck (decide (r0 < ((h2.length : Nat) : Int))) (
               Ck (Nat.ble (r0.toNat + 1) h2.length) (
                Ck (decide ((0 : Int) ≤ r0)) (
                 Ck (decide (r0 < ((h2.length : Nat) : Int))) (
                  Ck (Nat.ble (r0.toNat + 1) h2.length) (
                   Ck (decide ((0 : Int) ≤ i9)) (
                    Ck (decide (i9 < ((h1.length : Nat) : Int))) (
                     Ck (Nat.ble (i9.toNat + 1) h1.length) (
                      Ck (Nat.ble ((h0.length + 1) * 8) roomy) (
                       FL E H112 Try.f112 0 r lh 0 (S112_L0 l1 (IntKind.wrap .i64 (i9 + 1)) (h0 ++ [(h1.getD i9.toNat 0)]) h1 (h2.set r0.toNat (IntKind.wrap .i64 ((h2.getD r0.toNat 0) + 1))))))))))))))) (
             FL E H112 Try.f112 0 r lh 0 (S112_L0 l1 (IntKind.wrap .i64 (i9 + 1)) h0 h1 h2))))))))) (
     Br (decide (((h0.length : Nat) : Int) < (8 : Int))) (
      Ret r lh [.one (.sl 0 none), .one (.bool false)] [.row (.int .i64) [] .own]) (
      Ret r lh [.one (.sl 0 none), .one (.bool true)] [.row (.int .i64) h0 .own]))) (
    Br (decide (((h0.length : Nat) : Int) < (8 : Int))) (
     Ret r lh [.one (.sl 0 none), .one (.bool false)] [.row (.int .i64) [] .own]) (
     Ret r lh [.one (.sl 0 none), .one (.bool true)] [.row (.int .i64) h0 .own]))) := by kernel_rfl
theorem l112 (l : List House) (hh : ∀ h ∈ l, houseOk h = true) (hl : l.length ≤ 1048576) (rs : List Int) (hr : ∀ x ∈ rs, ∃ y ∈ l, y.1 = x) (hrl : rs.length ≤ 1048576) : ∀ (n i : Nat) (out racks : List Int), i + n = rs.length → out.length ≤ 8 → (∀ x ∈ out, ∃ y ∈ l, y.1 = x) → racks.length = 5 →
    ∃ p ok, (p.length ≤ 8 ∧ ∀ x ∈ p, ∃ y ∈ l, y.1 = x) ∧ FL E H112 Try.f112 0 [.one (.sl 0 none), .one (.bool ok)] [.row (.int .i64) p .own] 0 (S112_L0 l (i : Int) out rs racks)
  | 0, i, out, racks, h, ho, hm, hk => by
    by_cases c : ((out.length : Nat) : Int) < 8
    · refine ⟨[], false, by simp, ?_⟩
      refine FL_of1 ?_
      rw [eq112_L0]
      exact Br_f (by omega) (Br_t c ⟨rfl, rfl⟩)
    · refine ⟨out, true, ⟨ho, hm⟩, ?_⟩
      refine FL_of1 ?_
      rw [eq112_L0]
      exact Br_f (by omega) (Br_f c ⟨rfl, rfl⟩)
  | n + 1, i, out, racks, h, ho, hm, hk => by
    by_cases c : ((out.length : Nat) : Int) < 8
    · have hb := houseRack_bounds hh (rs.getD i 0)
      have hx : ∃ y ∈ l, y.1 = rs.getD i 0 := by rw [getD_eq (show i < rs.length by omega)]; exact hr _ (List.getElem_mem _)
      by_cases c2 : racks.getD (houseRack l (rs.getD i 0)).toNat 0 < 3
      · obtain ⟨p, ok, h1, hF⟩ := l112 l hh hl rs hr hrl n (i + 1) (out ++ [rs.getD i 0]) (racks.set (houseRack l (rs.getD i 0)).toNat (IntKind.wrap .i64 (racks.getD (houseRack l (rs.getD i 0)).toNat 0 + 1))) (by omega) (by simp; omega) (by
          intro x hx'
          rcases List.mem_append.1 hx' with g | g
          · exact hm x g
          · rw [List.mem_singleton] at g; subst g; exact hx) (by simpa using hk)
        refine ⟨p, ok, h1, ?_⟩
        refine FL_of1 ?_
        rw [eq112_L0, wS (by omega)]
        simp only [Int.toNat_natCast]
        exact Br_t (by omega) (Br_t c (Ck_d (by omega) (Ck_d (by omega) (Ck_le (by omega) ⟨_, c96 l _ hl, Ck_d (by omega) (Ck_d (by omega) (Ck_le (by omega) (Br_t c2 (Ck_d (by omega) (Ck_d (by omega) (Ck_le (by omega) (Ck_d (by omega) (Ck_d (by omega) (Ck_le (by omega) (Ck_d (by omega) (Ck_d (by omega) (Ck_le (by omega) (Ck_room (by omega) hF)))))))))))))⟩))))
      · obtain ⟨p, ok, h1, hF⟩ := l112 l hh hl rs hr hrl n (i + 1) out racks (by omega) ho hm hk
        refine ⟨p, ok, h1, ?_⟩
        refine FL_of1 ?_
        rw [eq112_L0, wS (by omega)]
        simp only [Int.toNat_natCast]
        exact Br_t (by omega) (Br_t c (Ck_d (by omega) (Ck_d (by omega) (Ck_le (by omega) ⟨_, c96 l _ hl, Ck_d (by omega) (Ck_d (by omega) (Ck_le (by omega) (Br_f c2 hF)))⟩))))
    · refine ⟨out, true, ⟨ho, hm⟩, ?_⟩
      refine FL_of1 ?_
      rw [eq112_L0]
      exact Br_t (by omega) (Br_f c (Br_f c ⟨rfl, rfl⟩))
theorem c112 (name : Int) (l : List House) (hl : l.length ≤ 1048576) : ∃ p ok, (p.length ≤ 8 ∧ ∀ x ∈ p, ∃ y ∈ l, y.1 = x) ∧ SC P 112 [.one (.int .i64 name), .one (.ro (.pair (.int .i64) (.pair (.int .i64) (.int .i64))) l)] [] [.one (.sl 0 none), .one (.bool ok)] [.row (.int .i64) p .own] := by
  cases hn : inB name 0 99 with
  | false =>
    refine ⟨[], false, by simp, ?_⟩
    refine SC_of_FB (H := H112) E_ok Try.func112 (by kernel_rfl) ?_
    rw [eq112]
    exact ⟨_, c85 _ _ _, Br_nb (fun _ => ⟨rfl, rfl⟩) (fun e => absurd (hn.symm.trans e) (by simp))⟩
  | true =>
    cases hk : housesOk l with
    | false =>
      refine ⟨[], false, by simp, ?_⟩
      refine SC_of_FB (H := H112) E_ok Try.func112 (by kernel_rfl) ?_
      rw [eq112]
      exact ⟨_, c85 _ _ _, Br_nb (fun e => absurd (hn.symm.trans e) (by simp)) (fun _ => ⟨_, c36 l hl, Br_nb (fun _ => ⟨rfl, rfl⟩) (fun e => absurd (hk.symm.trans e) (by simp))⟩)⟩
    | true =>
      have hh := (housesOk_iff.1 hk).1
      obtain ⟨p, ok, h1, hF⟩ := l112 l hh hl (ranksS name l) (fun x hx => ranksS_mem hx) (by rw [ranksS_length]; exact hl) (ranksS name l).length 0 [] [0, 0, 0, 0, 0] (by omega) (by simp) (by simp) rfl
      refine ⟨p, ok, h1, ?_⟩
      refine SC_of_FB (H := H112) E_ok Try.func112 (by kernel_rfl) ?_
      rw [eq112]
      exact ⟨_, c85 _ _ _, Br_nb (fun e => absurd (hn.symm.trans e) (by simp)) (fun _ => ⟨_, c36 l hl, Br_nb (fun e => absurd (hk.symm.trans e) (by simp)) (fun _ => ⟨_, c122 name l hn hh hl, hF⟩)⟩)⟩
/-! loop.example/keelson/spec.DrawPlaceRack -/
def H68 : Hint := ⟨[], [], [], [], [], []⟩
theorem eq68 (code : List Int) (r : List W) (lh : Heap) : FB E H68 Try.f68 [.one (.ro (.int .u8) code)] [] r lh =
  (
   ∃ r0 : (List Int × Int), SC P 92 [.one (.ro (.int .u8) code)] [] [.one (.ptr 0 0 0)] [.box [.ro (.int .u8) r0.1, .int .i64 r0.2]] ∧
    ∃ r1 : List Int × Int × List (Int × (Int × Int)), SC P 94 [.one (.ptr 0 0 0)] [.box [.ro (.int .u8) r0.1, .int .i64 r0.2]] [.one (.sl 1 none)] [.box [.ro (.int .u8) r1.1, .int .i64 r1.2.1], .row (.pair (.int .i64) (.pair (.int .i64) (.int .i64))) r1.2.2 .own] ∧
     ∃ r2 : List Int × Int × Int, SC P 93 [.one (.ptr 0 0 0), .one (.int .i64 100)] [.box [.ro (.int .u8) r1.1, .int .i64 r1.2.1]] [.one (.int .i64 r2.2.2)] [.box [.ro (.int .u8) r2.1, .int .i64 r2.2.1]] ∧
      ∃ r3 : List Int × Bool, SC P 112 [.one (.int .i64 r2.2.2), .one (.ro (.pair (.int .i64) (.pair (.int .i64) (.int .i64))) r1.2.2)] [] [.one (.sl 0 none), .one (.bool r3.2)] [.row (.int .i64) r3.1 .own] ∧
       ∃ r4 : List Int × Int × Int, SC P 93 [.one (.ptr 0 0 0), .one (.int .i64 5)] [.box [.ro (.int .u8) r2.1, .int .i64 r2.2.1]] [.one (.int .i64 r4.2.2)] [.box [.ro (.int .u8) r4.1, .int .i64 r4.2.1]] ∧
        Ret r lh [.one (.sl 0 none), .one (.sl 1 none), .one (.int .i64 (IntKind.wrap .i64 (1 + r4.2.2)))] [.row (.pair (.int .i64) (.pair (.int .i64) (.int .i64))) r1.2.2 .own, .row (.int .i64) r3.1 .own]) := by kernel_rfl
theorem c68 (code : List Int) (hc : Bytes code) : ∃ (l : List House) (p : List Int) (rack : Int), (l.length ≤ 13 ∧ p.length ≤ 8 ∧ ∀ x ∈ p, ∃ y ∈ l, y.1 = x) ∧ SC P 68 [.one (.ro (.int .u8) code)] [] [.one (.sl 0 none), .one (.sl 1 none), .one (.int .i64 rack)] [.row (.pair (.int .i64) (.pair (.int .i64) (.int .i64))) l .own, .row (.int .i64) p .own] := by
  obtain ⟨b, hb, s0⟩ := c92 code hc
  obtain ⟨l, p, hl, p0, p1, s1⟩ := c94 b 0 hb (by omega) (by omega)
  obtain ⟨v2, a2, b2, s2⟩ := c93 b p 100 hb p0 (by omega) (by omega)
  obtain ⟨is, ok, h3, s3⟩ := c112 v2 l (by omega)
  obtain ⟨v4, a4, b4, s4⟩ := c93 b (p + 1) 5 hb (by omega) (by omega) (by omega)
  refine ⟨l, is, IntKind.wrap .i64 (1 + v4), ⟨hl, h3.1, h3.2⟩, ?_⟩
  refine SC_of_FB (H := H68) E_ok Try.func68 (by kernel_rfl) ?_
  rw [eq68]
  exact ⟨(b, 0), s0, (b, p, l), s1, (b, p + 1, v2), s2, (is, ok), s3, (b, p + 1 + 1, v4), s4, rfl, rfl⟩
/-! loop.example/keelson/spec.l92Places -/
def H114 : Hint := ⟨[], [], [], [], [], []⟩
theorem eq114 (b : List Int) (p : Int) (r : List W) (lh : Heap) : FB E H114 Try.f114 [.one (.ptr 0 0 0)] [.box [.ro (.int .u8) b, .int .i64 p]] r lh =
  (
   ∃ r0 : List Int × Int × List (Int × (Int × Int)), SC P 94 [.one (.ptr 0 0 0)] [.box [.ro (.int .u8) b, .int .i64 p]] [.one (.sl 1 none)] [.box [.ro (.int .u8) r0.1, .int .i64 r0.2.1], .row (.pair (.int .i64) (.pair (.int .i64) (.int .i64))) r0.2.2 .own] ∧
    ∃ r1 : List Int × Int × Int, SC P 93 [.one (.ptr 0 0 0), .one (.int .i64 100)] [.box [.ro (.int .u8) r0.1, .int .i64 r0.2.1]] [.one (.int .i64 r1.2.2)] [.box [.ro (.int .u8) r1.1, .int .i64 r1.2.1]] ∧
     ∃ r2 : List Int × Bool, SC P 112 [.one (.int .i64 r1.2.2), .one (.ro (.pair (.int .i64) (.pair (.int .i64) (.int .i64))) r0.2.2)] [] [.one (.sl 0 none), .one (.bool r2.2)] [.row (.int .i64) r2.1 .own] ∧
      Br (decide ((0 : Int) < ((r0.2.2.length : Nat) : Int))) (
       ∃ r3 : List Int × Int × Int, SC P 93 [.one (.ptr 0 0 0), .one (.int .i64 3)] [.box [.ro (.int .u8) r1.1, .int .i64 r1.2.1]] [.one (.int .i64 r3.2.2)] [.box [.ro (.int .u8) r3.1, .int .i64 r3.2.1]] ∧
        Br (decide ((0 : Int) < r3.2.2)) (
         ∃ r4 : List Int × Int × Int, SC P 93 [.one (.ptr 0 0 0), .one (.int .i64 ((r0.2.2.length : Nat) : Int))] [.box [.ro (.int .u8) r3.1, .int .i64 r3.2.1]] [.one (.int .i64 r4.2.2)] [.box [.ro (.int .u8) r4.1, .int .i64 r4.2.1]] ∧
          Ck (decide ((0 : Int) ≤ r4.2.2)) (
           Ck (decide (r4.2.2 < ((r0.2.2.length : Nat) : Int))) (
            Ck (Nat.blt r4.2.2.toNat r0.2.2.length) (
             ∃ r5 : List (Int × (Int × Int)), SC P 109 [.one (.ro (.pair (.int .i64) (.pair (.int .i64) (.int .i64))) r0.2.2), .one (.int .i64 ((r0.2.2.getD r4.2.2.toNat (0, (0, 0))).1))] [] [.one (.sl 0 none)] [.row (.pair (.int .i64) (.pair (.int .i64) (.int .i64))) r5 .own] ∧
              ∃ r6 : List Int × Int × Int, SC P 93 [.one (.ptr 0 0 0), .one (.int .i64 2)] [.box [.ro (.int .u8) r4.1, .int .i64 r4.2.1]] [.one (.int .i64 r6.2.2)] [.box [.ro (.int .u8) r6.1, .int .i64 r6.2.1]] ∧
               ∃ r7 : List Int × Bool, SC P 112 [.one (.int .i64 (Int.tmod (IntKind.wrap .i64 (r1.2.2 + r6.2.2)) 100)), .one (.ro (.pair (.int .i64) (.pair (.int .i64) (.int .i64))) r5)] [] [.one (.sl 0 none), .one (.bool r7.2)] [.row (.int .i64) r7.1 .own] ∧
                Ret r lh [.one (.sl 1 none), .one (.sl 2 none)] [.box [.ro (.int .u8) r6.1, .int .i64 r6.2.1], .row (.int .i64) r2.1 .own, .row (.int .i64) r7.1 .own])))) (
         ∃ r8 : List Int × Int × Int, SC P 93 [.one (.ptr 0 0 0), .one (.int .i64 2)] [.box [.ro (.int .u8) r3.1, .int .i64 r3.2.1]] [.one (.int .i64 r8.2.2)] [.box [.ro (.int .u8) r8.1, .int .i64 r8.2.1]] ∧
          ∃ r9 : List Int × Bool, SC P 112 [.one (.int .i64 (Int.tmod (IntKind.wrap .i64 (r1.2.2 + r8.2.2)) 100)), .one (.ro (.pair (.int .i64) (.pair (.int .i64) (.int .i64))) r0.2.2)] [] [.one (.sl 0 none), .one (.bool r9.2)] [.row (.int .i64) r9.1 .own] ∧
           Ret r lh [.one (.sl 1 none), .one (.sl 2 none)] [.box [.ro (.int .u8) r8.1, .int .i64 r8.2.1], .row (.int .i64) r2.1 .own, .row (.int .i64) r9.1 .own])) (
       ∃ r10 : List Int × Int × Int, SC P 93 [.one (.ptr 0 0 0), .one (.int .i64 2)] [.box [.ro (.int .u8) r1.1, .int .i64 r1.2.1]] [.one (.int .i64 r10.2.2)] [.box [.ro (.int .u8) r10.1, .int .i64 r10.2.1]] ∧
        ∃ r11 : List Int × Bool, SC P 112 [.one (.int .i64 (Int.tmod (IntKind.wrap .i64 (r1.2.2 + r10.2.2)) 100)), .one (.ro (.pair (.int .i64) (.pair (.int .i64) (.int .i64))) r0.2.2)] [] [.one (.sl 0 none), .one (.bool r11.2)] [.row (.int .i64) r11.1 .own] ∧
         Ret r lh [.one (.sl 1 none), .one (.sl 2 none)] [.box [.ro (.int .u8) r10.1, .int .i64 r10.2.1], .row (.int .i64) r2.1 .own, .row (.int .i64) r11.1 .own])) := by kernel_rfl
theorem c114 (b : List Int) (p : Int) (hb : RdB b) (h0 : 0 ≤ p) (h1 : p ≤ 400) : ∃ a c p', (a.length ≤ 8 ∧ c.length ≤ 8) ∧ (0 ≤ p' ∧ p' ≤ p + 70) ∧
    SC P 114 [.one (.ptr 0 0 0)] [.box [.ro (.int .u8) b, .int .i64 p]] [.one (.sl 1 none), .one (.sl 2 none)] [.box [.ro (.int .u8) b, .int .i64 p'], .row (.int .i64) a .own, .row (.int .i64) c .own] := by
  obtain ⟨l, q, hl, q0, q1, s1⟩ := c94 b p hb h0 (by omega)
  obtain ⟨v2, a2, b2, s2⟩ := c93 b q 100 hb q0 (by omega) (by omega)
  obtain ⟨is, ok, h3, s3⟩ := c112 v2 l (by omega)
  by_cases c0 : (0 : Int) < ((l.length : Nat) : Int)
  · obtain ⟨v3, a3, b3, s4⟩ := c93 b (q + 1) 3 hb (by omega) (by omega) (by omega)
    by_cases c1 : 0 < v3
    · obtain ⟨v4, a4, b4, s5⟩ := c93 b (q + 1 + 1) (l.length : Int) hb (by omega) (by omega) (by omega)
      have hm : (housesLess l (l.getD v4.toNat (0, 0, 0)).1).length ≤ 13 := Nat.le_trans (List.length_filter_le _ _) hl
      obtain ⟨v5, a5, b5, s6⟩ := c93 b (q + 1 + 1 + 1) 2 hb (by omega) (by omega) (by omega)
      obtain ⟨is2, ok2, h4, s7⟩ := c112 (Int.tmod (IntKind.wrap .i64 (v2 + v5)) 100) (housesLess l (l.getD v4.toNat (0, 0, 0)).1) (by omega)
      refine ⟨is, is2, q + 1 + 1 + 1 + 1, ⟨h3.1, h4.1⟩, by omega, ?_⟩
      refine SC_of_FB (H := H114) E_ok Try.func114 (by kernel_rfl) ?_
      rw [eq114]
      exact ⟨(b, q, l), s1, (b, q + 1, v2), s2, (is, ok), s3, Br_t c0 ⟨(b, q + 1 + 1, v3), s4, Br_t c1 ⟨(b, q + 1 + 1 + 1, v4), s5, Ck_d a4 (Ck_d b4 (Ck_lt (by dsimp only; omega) ⟨_, c109 l _ (by omega), (b, q + 1 + 1 + 1 + 1, v5), s6, (is2, ok2), s7, rfl, rfl⟩))⟩⟩⟩
    · obtain ⟨v5, a5, b5, s6⟩ := c93 b (q + 1 + 1) 2 hb (by omega) (by omega) (by omega)
      obtain ⟨is2, ok2, h4, s7⟩ := c112 (Int.tmod (IntKind.wrap .i64 (v2 + v5)) 100) l (by omega)
      refine ⟨is, is2, q + 1 + 1 + 1, ⟨h3.1, h4.1⟩, by omega, ?_⟩
      refine SC_of_FB (H := H114) E_ok Try.func114 (by kernel_rfl) ?_
      rw [eq114]
      exact ⟨(b, q, l), s1, (b, q + 1, v2), s2, (is, ok), s3, Br_t c0 ⟨(b, q + 1 + 1, v3), s4, Br_f c1 ⟨(b, q + 1 + 1 + 1, v5), s6, (is2, ok2), s7, rfl, rfl⟩⟩⟩
  · obtain ⟨v5, a5, b5, s6⟩ := c93 b (q + 1) 2 hb (by omega) (by omega) (by omega)
    obtain ⟨is2, ok2, h4, s7⟩ := c112 (Int.tmod (IntKind.wrap .i64 (v2 + v5)) 100) l (by omega)
    refine ⟨is, is2, q + 1 + 1, ⟨h3.1, h4.1⟩, by omega, ?_⟩
    refine SC_of_FB (H := H114) E_ok Try.func114 (by kernel_rfl) ?_
    rw [eq114]
    exact ⟨(b, q, l), s1, (b, q + 1, v2), s2, (is, ok), s3, Br_f c0 ⟨(b, q + 1 + 1, v5), s6, (is2, ok2), s7, rfl, rfl⟩⟩
/-! loop.example/keelson/spec.DrawPlaceNext -/
def H73 : Hint := ⟨[], [], [], [], [], []⟩
theorem eq73 (code : List Int) (r : List W) (lh : Heap) : FB E H73 Try.f73 [.one (.ro (.int .u8) code)] [] r lh =
  (
   ∃ r0 : (List Int × Int), SC P 92 [.one (.ro (.int .u8) code)] [] [.one (.ptr 0 0 0)] [.box [.ro (.int .u8) r0.1, .int .i64 r0.2]] ∧
    ∃ r1 : List Int × Int × List Int × List Int, SC P 114 [.one (.ptr 0 0 0)] [.box [.ro (.int .u8) r0.1, .int .i64 r0.2]] [.one (.sl 1 none), .one (.sl 2 none)] [.box [.ro (.int .u8) r1.1, .int .i64 r1.2.1], .row (.int .i64) r1.2.2.1 .own, .row (.int .i64) r1.2.2.2 .own] ∧
     Ret r lh [.one (.sl 0 none), .one (.sl 1 none)] [.row (.int .i64) r1.2.2.1 .own, .row (.int .i64) r1.2.2.2 .own]) := by kernel_rfl
theorem c73 (code : List Int) (hc : Bytes code) : ∃ a c : List Int, (a.length ≤ 8 ∧ c.length ≤ 8) ∧ SC P 73 [.one (.ro (.int .u8) code)] [] [.one (.sl 0 none), .one (.sl 1 none)] [.row (.int .i64) a .own, .row (.int .i64) c .own] := by
  obtain ⟨b, hb, s0⟩ := c92 code hc
  obtain ⟨a, c, p, h, _, s1⟩ := c114 b 0 hb (by omega) (by omega)
  refine ⟨a, c, h, ?_⟩
  refine SC_of_FB (H := H73) E_ok Try.func73 (by kernel_rfl) ?_
  rw [eq73]
  exact ⟨(b, 0), s0, (b, p, a, c), s1, rfl, rfl⟩
/-! loop.example/keelson/spec.DrawPlaceMoves -/
def H76 : Hint := ⟨[], [], [], [], [], []⟩
theorem eq76 (code : List Int) (r : List W) (lh : Heap) : FB E H76 Try.f76 [.one (.ro (.int .u8) code)] [] r lh =
  (
   ∃ r0 : (List Int × Int), SC P 92 [.one (.ro (.int .u8) code)] [] [.one (.ptr 0 0 0)] [.box [.ro (.int .u8) r0.1, .int .i64 r0.2]] ∧
    ∃ r1 : List Int × Int × List Int × List Int, SC P 114 [.one (.ptr 0 0 0)] [.box [.ro (.int .u8) r0.1, .int .i64 r0.2]] [.one (.sl 1 none), .one (.sl 2 none)] [.box [.ro (.int .u8) r1.1, .int .i64 r1.2.1], .row (.int .i64) r1.2.2.1 .own, .row (.int .i64) r1.2.2.2 .own] ∧
     Ret r lh [.one (.sl 0 none), .one (.sl 1 none)] [.row (.int .i64) r1.2.2.1 .own, .row (.int .i64) r1.2.2.2 .own]) := by kernel_rfl
theorem c76 (code : List Int) (hc : Bytes code) : ∃ a c : List Int, (a.length ≤ 8 ∧ c.length ≤ 8) ∧ SC P 76 [.one (.ro (.int .u8) code)] [] [.one (.sl 0 none), .one (.sl 1 none)] [.row (.int .i64) a .own, .row (.int .i64) c .own] := by
  obtain ⟨b, hb, s0⟩ := c92 code hc
  obtain ⟨a, c, p, h, _, s1⟩ := c114 b 0 hb (by omega) (by omega)
  refine ⟨a, c, h, ?_⟩
  refine SC_of_FB (H := H76) E_ok Try.func76 (by kernel_rfl) ?_
  rw [eq76]
  exact ⟨(b, 0), s0, (b, p, a, c), s1, rfl, rfl⟩
/-! loop.example/keelson/spec.DrawHousesLess -/
def H58 : Hint := ⟨[], [], [], [], [], []⟩
theorem eq58 (code : List Int) (r : List W) (lh : Heap) : FB E H58 Try.f58 [.one (.ro (.int .u8) code)] [] r lh =
  (
   ∃ r0 : (List Int × Int), SC P 92 [.one (.ro (.int .u8) code)] [] [.one (.ptr 0 0 0)] [.box [.ro (.int .u8) r0.1, .int .i64 r0.2]] ∧
    ∃ r1 : List Int × Int × List (Int × (Int × Int)), SC P 94 [.one (.ptr 0 0 0)] [.box [.ro (.int .u8) r0.1, .int .i64 r0.2]] [.one (.sl 1 none)] [.box [.ro (.int .u8) r1.1, .int .i64 r1.2.1], .row (.pair (.int .i64) (.pair (.int .i64) (.int .i64))) r1.2.2 .own] ∧
     ∃ r2 : List Int × Int × Int, SC P 93 [.one (.ptr 0 0 0), .one (.int .i64 14)] [.box [.ro (.int .u8) r1.1, .int .i64 r1.2.1]] [.one (.int .i64 r2.2.2)] [.box [.ro (.int .u8) r2.1, .int .i64 r2.2.1]] ∧
      Ret r lh [.one (.sl 0 none), .one (.int .i64 r2.2.2)] [.row (.pair (.int .i64) (.pair (.int .i64) (.int .i64))) r1.2.2 .own]) := by kernel_rfl
theorem c58 (code : List Int) (hc : Bytes code) : ∃ (l : List House) (id : Int), l.length ≤ 13 ∧ SC P 58 [.one (.ro (.int .u8) code)] [] [.one (.sl 0 none), .one (.int .i64 id)] [.row (.pair (.int .i64) (.pair (.int .i64) (.int .i64))) l .own] := by
  obtain ⟨b, hb, s0⟩ := c92 code hc
  obtain ⟨l, p, hl, p0, p1, s1⟩ := c94 b 0 hb (by omega) (by omega)
  obtain ⟨v2, a2, b2, s2⟩ := c93 b p 14 hb p0 (by omega) (by omega)
  refine ⟨l, v2, hl, ?_⟩
  refine SC_of_FB (H := H58) E_ok Try.func58 (by kernel_rfl) ?_
  rw [eq58]
  exact ⟨(b, 0), s0, (b, p, l), s1, (b, p + 1, v2), s2, rfl, rfl⟩
/-! loop.example/keelson/laws.FnPlaceRack -/
def H17 : Hint := ⟨[[(3, 0, .bool), (4, 0, .bool), (5, 0, .bool), (6, 0, .bool), (7, 0, .bool), (8, 0, .bool)], [(3, 0, .bool), (4, 0, .bool), (7, 0, .bool), (9, 0, .bool)]], [], [(11, [0, 1, 2, 3, 4, 5, 6, 7, 8, 10, 9, 11, 12])], [], [], []⟩
def S17_L0 (rack5 : Int) (n7 : Int) (i8 : Int) (h0 : List (Int × (Int × Int))) (h1 : List Int) (h2 : List Bool) : St := ⟨[(3, .w (.one (.sl 0 none))), (4, .w (.one (.sl 1 none))), (5, .w (.one (.int .i64 rack5))), (6, .w (.one (.sl 2 none))), (7, .w (.one (.int .i64 n7))), (8, .w (.one (.int .i64 i8)))], [.row (.pair (.int .i64) (.pair (.int .i64) (.int .i64))) h0 .own, .row (.int .i64) h1 .own, .row .bool h2 .own]⟩
def S17_L1 (n7 : Int) (r9 : Int) (h0 : List (Int × (Int × Int))) (h1 : List Int) : St := ⟨[(3, .w (.one (.sl 0 none))), (4, .w (.one (.sl 1 none))), (7, .w (.one (.int .i64 n7))), (9, .w (.one (.int .i64 r9)))], [.row (.pair (.int .i64) (.pair (.int .i64) (.int .i64))) h0 .own, .row (.int .i64) h1 .own]⟩
theorem eq17 (code : List Int) (r : List W) (lh : Heap) : FB E H17 Try.f17 [.one (.ro (.int .u8) code)] [] r lh =
  (
   Br (decide ((1048576 : Int) < ((code.length : Nat) : Int))) (
    Ret r lh [.one (.bool true)] []) (
    ∃ r0 : List (Int × (Int × Int)) × List Int × Int, SC P 68 [.one (.ro (.int .u8) code)] [] [.one (.sl 0 none), .one (.sl 1 none), .one (.int .i64 r0.2.2)] [.row (.pair (.int .i64) (.pair (.int .i64) (.int .i64))) r0.1 .own, .row (.int .i64) r0.2.1 .own] ∧
     ∃ r1 : List Bool, SC P 69 [.one (.ro (.pair (.int .i64) (.pair (.int .i64) (.int .i64))) r0.1), .one (.ro (.int .i64) r0.2.1), .one (.int .i64 r0.2.2)] [] [.one (.sl 0 none)] [.row .bool r1 .own] ∧
      ∃ r2 : List Bool, SC P 71 [.one (.ro (.pair (.int .i64) (.pair (.int .i64) (.int .i64))) r0.1), .one (.ro (.int .i64) r0.2.1), .one (.int .i64 r0.2.2)] [] [.one (.sl 0 none)] [.row .bool r2 .own] ∧
       ∃ r3 : Bool, SC P 70 [.one (.ro .bool r1), .one (.ro .bool r2)] [] [.one (.bool r3)] [] ∧
        Br (!r3) (
         ∃ r4 : List Bool, SC P 71 [.one (.ro (.pair (.int .i64) (.pair (.int .i64) (.int .i64))) r0.1), .one (.ro (.int .i64) r0.2.1), .one (.int .i64 r0.2.2)] [] [.one (.sl 0 none)] [.row .bool r4 .own] ∧
          ∃ r5 : Bool, SC P 70 [.one (.ro .bool r1), .one (.ro .bool r4)] [] [.one (.bool r5)] [] ∧
           Ret r lh [.one (.bool r5)] []) (
         Br (decide (((r1.length : Nat) : Int) = (0 : Int))) (
          ∃ r6 : List Bool, SC P 71 [.one (.ro (.pair (.int .i64) (.pair (.int .i64) (.int .i64))) r0.1), .one (.ro (.int .i64) r0.2.1), .one (.int .i64 r0.2.2)] [] [.one (.sl 0 none)] [.row .bool r6 .own] ∧
           ∃ r7 : Bool, SC P 70 [.one (.ro .bool r1), .one (.ro .bool r6)] [] [.one (.bool r7)] [] ∧
            Ret r lh [.one (.bool r7)] []) (
          FL E H17 Try.f17 0 r lh 0 (S17_L0 r0.2.2 0 0 r0.1 r0.2.1 r1))))) := by kernel_rfl
theorem eq17_L0 (rack5 : Int) (n7 : Int) (i8 : Int) (h0 : List (Int × (Int × Int))) (h1 : List Int) (h2 : List Bool) (r : List W) (lh : Heap) : FL1 E H17 Try.f17 0 r lh 0 (S17_L0 rack5 n7 i8 h0 h1 h2) =
  (
   Br (decide (i8 < ((h1.length : Nat) : Int))) (
    Ck (decide ((0 : Int) ≤ i8)) (
     Ck (decide (i8 < ((h2.length : Nat) : Int))) (
      Ck (Nat.ble (i8.toNat + 1) h2.length) (
       Ck (decide ((0 : Int) ≤ i8)) (
        Ck (decide (i8 < ((h1.length : Nat) : Int))) (
         Ck (Nat.ble (i8.toNat + 1) h1.length) (
          ∃ r0 : Int, SC P 41 [.one (.ro (.pair (.int .i64) (.pair (.int .i64) (.int .i64))) h0), .one (.int .i64 (h1.getD i8.toNat 0))] [] [.one (.int .i64 r0)] [] ∧
           Br ((h2.getD i8.toNat false) == (decide (r0 = rack5))) (
            Ret r lh [.one (.bool false)] []) (
            FL E H17 Try.f17 0 r lh 0 (S17_L0 rack5 n7 (IntKind.wrap .i64 (i8 + 1)) h0 h1 h2))))))))) (
    FL E H17 Try.f17 0 r lh 1 (S17_L1 n7 1 h0 h1))) := by kernel_rfl
theorem eq17_L1 (n7 : Int) (r9 : Int) (h0 : List (Int × (Int × Int))) (h1 : List Int) (r : List W) (lh : Heap) : FL1 E H17 Try.f17 0 r lh 1 (S17_L1 n7 r9 h0 h1) =
  (
   Br (decide (r9 ≤ (4 : Int))) (
    ∃ r0 : List Bool, SC P 69 [.one (.ro (.pair (.int .i64) (.pair (.int .i64) (.int .i64))) h0), .one (.ro (.int .i64) h1), .one (.int .i64 r9)] [] [.one (.sl 0 none)] [.row .bool r0 .own] ∧
     ∃ r1 : Int, SC P 72 [.one (.ro .bool r0)] [] [.one (.int .i64 r1)] [] ∧
      FL E H17 Try.f17 0 r lh 1 (S17_L1 (IntKind.wrap .i64 ((IntKind.wrap .i64 (n7 + 8)) - r1)) (IntKind.wrap .i64 (r9 + 1)) h0 h1)) (
    Ret r lh [.one (.bool (decide (n7 = (8 : Int))))] [])) := by kernel_rfl
theorem l17_1 (l : List House) (is : List Int) (hk : housesOk l = true) (hi : placeOk is = true) (hl : l.length ≤ 1048576) (res : Bool) (n r r' : Int) (hr' : r' = r + 1) (hr : r ≤ 4) (hn : 0 ≤ n ∧ n ≤ 1000)
    (H : FL E H17 Try.f17 0 [.one (.bool res)] [] 1 (S17_L1 (n + (is.countP (fun x => decide (houseRack l x = r)) : Nat)) r' l is)) (hr0 : 0 ≤ r) :
    FL E H17 Try.f17 0 [.one (.bool res)] [] 1 (S17_L1 n r l is) := by
  subst hr'
  have hlen := (placeOk_iff.1 hi).2.2
  have hc := count_not (fun x => decide (houseRack l x = r)) is
  have hle : (rackF l is r).length ≤ 1048576 := rackF_length (by omega)
  refine FL_of1 ?_
  rw [eq17_L1, wrap64 (n := n + 8) (by omega) (by omega), wrap64 (n := r + 1) (by omega) (by omega)]
  refine Br_t hr ⟨_, c69 l is r hl (by omega), _, c72 _ hle, ?_⟩
  have e : (rackF l is r).countP (fun b => b) + is.countP (fun x => decide (houseRack l x = r)) = 8 := by
    rw [rackF, hk, hi]
    rw [hlen] at hc
    exact hc
  rw [wrap64 (by omega) (by omega)]
  rw [show n + 8 - (((rackF l is r).countP (fun b => b) : Nat) : Int) = n + (is.countP (fun x => decide (houseRack l x = r)) : Nat) by omega]
  exact H
theorem l17_0 (l : List House) (is : List Int) (rack : Int) (hk : housesOk l = true) (hi : placeOk is = true) (hl : l.length ≤ 1048576)
    (H : FL E H17 Try.f17 0 [.one (.bool true)] [] 1 (S17_L1 0 1 l is)) : ∀ (n i : Nat), i + n = is.length → FL E H17 Try.f17 0 [.one (.bool true)] [] 0 (S17_L0 rack 0 (i : Int) l is (rackF l is rack))
  | 0, i, h => by
    refine FL_of1 ?_
    rw [eq17_L0]
    exact Br_f (by omega) H
  | n + 1, i, h => by
    have hlen := (placeOk_iff.1 hi).2.2
    have e : rackF l is rack = is.map (fun x => !decide (houseRack l x = rack)) := by rw [rackF, hk, hi]; rfl
    have e2 : (rackF l is rack).length = is.length := by rw [e, List.length_map]
    have e3 : (rackF l is rack).getD i false = !decide (houseRack l (is.getD i 0) = rack) := by
      rw [getD_eq (show i < is.length by omega), getD_eq (show i < (rackF l is rack).length by omega)]
      simp only [e, List.getElem_map]
    refine FL_of1 ?_
    rw [eq17_L0, wS (by omega)]
    simp only [Int.toNat_natCast]
    refine Br_t (by omega) (Ck_d (by omega) (Ck_d (by omega) (Ck_le (by omega) (Ck_d (by omega) (Ck_d (by omega) (Ck_le (by omega) ⟨_, c41 l _ hl, Br_b (fun c => ?_) (fun c => ?_)⟩))))))
    · rw [e3, houseRackOk, hk, cond_true] at c
      cases decide (houseRack l (is.getD i 0) = rack) <;> simp at c
    · exact l17_0 l is rack hk hi hl H n (i + 1) (by omega)
theorem c17 (code : List Int) (hc : Bytes code) : SC P 17 [.one (.ro (.int .u8) code)] [] [.one (.bool true)] [] := by
  refine SC_of_FB (H := H17) E_ok Try.func17 (by kernel_rfl) ?_
  rw [eq17]
  refine Br_d (fun _ => ⟨rfl, rfl⟩) (fun _ => ?_)
  obtain ⟨l, is, rack, ⟨hl, hi, hm⟩, s0⟩ := c68 code hc
  have hl' : l.length ≤ 1048576 := by omega
  have hi' : is.length ≤ 1048576 := by omega
  have hr : (rackF l is rack).length ≤ 1048576 := rackF_length hi'
  refine ⟨(l, is, rack), s0, _, c69 l is rack hl' hi', _, c71 l is rack hl' hi', _, c70 _ _ hr, Br_nb (fun e => by simp at e) (fun _ => Br_d (fun _ => ⟨_, c71 l is rack hl' hi', _, c70 _ _ hr, by simp, rfl⟩) (fun hne => ?_))⟩
  have hok : placeOk is = true ∧ housesOk l = true := by
    rw [rackF] at hne
    cases h1 : placeOk is <;> cases h2 : housesOk l <;> simp_all
  refine l17_0 l is rack hok.2 hok.1 hl' ?_ is.length 0 (by omega)
  have hcnt := count4 (fun x => houseRack l x) (l := is) (by
    intro x hx
    obtain ⟨y, hy, rfl⟩ := hm x hx
    have hk := housesOk_iff.1 hok.2
    rw [houseRack_mem hk.2 hy]
    exact (houseOk_iff.1 (hk.1 y hy)).2.1)
  have hlen := (placeOk_iff.1 hok.1).2.2
  refine l17_1 l is hok.2 hok.1 hl' true 0 1 2 (by omega) (by omega) (by omega) ?_ (by omega)
  refine l17_1 l is hok.2 hok.1 hl' true _ 2 3 (by omega) (by omega) (by omega) ?_ (by omega)
  refine l17_1 l is hok.2 hok.1 hl' true _ 3 4 (by omega) (by omega) (by omega) ?_ (by omega)
  refine l17_1 l is hok.2 hok.1 hl' true _ 4 5 (by omega) (by omega) (by omega) ?_ (by omega)
  refine FL_of1 ?_
  rw [eq17_L1]
  refine Br_f (by omega) ⟨?_, rfl⟩
  rw [decide_eq_true]
  omega
/-! loop.example/keelson/laws.FnPlaceNext -/
def H19 : Hint := ⟨[[(3, 0, .bool), (4, 0, .bool), (5, 0, .bool), (6, 0, .bool)]], [], [(10, [0, 1, 2, 3, 4, 5, 6, 7, 8, 9, 10, 11, 12, 13, 14, 15, 16, 17, 18, 19, 20, 21, 22, 23, 24, 25, 26, 27, 28, 29, 30, 31, 32, 33, 34])], [], [], []⟩
def S19_L0 (i6 : Int) (h0 : List Int) (h1 : List Int) (h2 : List Int) : St := ⟨[(3, .w (.one (.sl 0 none))), (4, .w (.one (.sl 1 none))), (5, .w (.one (.sl 2 none))), (6, .w (.one (.int .i64 i6)))], [.row (.int .i64) h0 .own, .row (.int .i64) h1 .own, .row (.int .i64) h2 .own]⟩
theorem eq19 (code : List Int) (r : List W) (lh : Heap) : FB E H19 Try.f19 [.one (.ro (.int .u8) code)] [] r lh =
  (
   Br (decide ((1048576 : Int) < ((code.length : Nat) : Int))) (
    Ret r lh [.one (.bool true)] []) (
    ∃ r0 : List Int × List Int, SC P 73 [.one (.ro (.int .u8) code)] [] [.one (.sl 0 none), .one (.sl 1 none)] [.row (.int .i64) r0.1 .own, .row (.int .i64) r0.2 .own] ∧
     ∃ r1 : List Int, SC P 64 [.one (.ro (.int .i64) r0.1), .one (.ro (.int .i64) r0.2)] [] [.one (.sl 0 none)] [.row (.int .i64) r1 .own] ∧
      ∃ r2 : List Int, SC P 63 [.one (.ro (.int .i64) r0.1), .one (.ro (.int .i64) r0.2)] [] [.one (.sl 0 none)] [.row (.int .i64) r2 .own] ∧
       ∃ r3 : Bool, SC P 74 [.one (.ro (.int .i64) r1), .one (.ro (.int .i64) r2)] [] [.one (.bool r3)] [] ∧
        Br (!r3) (
         ∃ r4 : List Int, SC P 63 [.one (.ro (.int .i64) r0.1), .one (.ro (.int .i64) r0.2)] [] [.one (.sl 0 none)] [.row (.int .i64) r4 .own] ∧
          ∃ r5 : Bool, SC P 74 [.one (.ro (.int .i64) r1), .one (.ro (.int .i64) r4)] [] [.one (.bool r5)] [] ∧
           Ret r lh [.one (.bool r5)] []) (
         Br (decide (((r1.length : Nat) : Int) = (0 : Int))) (
          ∃ r6 : List Int, SC P 63 [.one (.ro (.int .i64) r0.1), .one (.ro (.int .i64) r0.2)] [] [.one (.sl 0 none)] [.row (.int .i64) r6 .own] ∧
           ∃ r7 : Bool, SC P 74 [.one (.ro (.int .i64) r1), .one (.ro (.int .i64) r6)] [] [.one (.bool r7)] [] ∧
            Ret r lh [.one (.bool r7)] []) (
          FL E H19 Try.f19 0 r lh 0 (S19_L0 0 r0.1 r0.2 r1))))) := by kernel_rfl
theorem eq19_L0 (i6 : Int) (h0 : List Int) (h1 : List Int) (h2 : List Int) (r : List W) (lh : Heap) : FL1 E H19 Try.f19 0 r lh 0 (S19_L0 i6 h0 h1 h2) =
  (
   Br (decide (i6 < ((h0.length : Nat) : Int))) (
    Ck (decide ((0 : Int) ≤ i6)) (
     Ck (decide (i6 < ((h2.length : Nat) : Int))) (
      Ck (Nat.ble (i6.toNat + 1) h2.length) (
       ∃ r0 : Bool, SC P 75 [.one (.ro (.int .i64) h1), .one (.int .i64 (h2.getD i6.toNat 0))] [] [.one (.bool r0)] [] ∧
        Br (!r0) (
         Ret r lh [.one (.bool false)] []) (
         Ck (decide ((0 : Int) ≤ i6)) (
          Ck (decide (i6 < ((h0.length : Nat) : Int))) (
           Ck (Nat.ble (i6.toNat + 1) h0.length) (
            ∃ r1 : Bool, SC P 75 [.one (.ro (.int .i64) h1), .one (.int .i64 (h0.getD i6.toNat 0))] [] [.one (.bool r1)] [] ∧
             Br r1 (
              Ck (decide ((0 : Int) ≤ i6)) (
               Ck (decide (i6 < ((h2.length : Nat) : Int))) (
                Ck (Nat.ble (i6.toNat + 1) h2.length) (
                 Ck (decide ((0 : Int) ≤ i6)) (
                  Ck (decide (i6 < ((h0.length : Nat) : Int))) (
                   Ck (Nat.ble (i6.toNat + 1) h0.length) (
                    Br (!(decide ((h2.getD i6.toNat 0) = (h0.getD i6.toNat 0)))) (
                     Ret r lh [.one (.bool false)] []) (
                     Ck (decide ((0 : Int) ≤ i6)) (
                      Ck (decide (i6 < ((h1.length : Nat) : Int))) (
                       Ck (Nat.ble (i6.toNat + 1) h1.length) (
                        ∃ r2 : Bool, SC P 75 [.one (.ro (.int .i64) h2), .one (.int .i64 (h1.getD i6.toNat 0))] [] [.one (.bool r2)] [] ∧
                         Br (!r2) (
                          Ret r lh [.one (.bool false)] []) (
                          FL E H19 Try.f19 0 r lh 0 (S19_L0 (IntKind.wrap .i64 (i6 + 1)) h0 h1 h2))))))))))))) (
              Ck (decide ((0 : Int) ≤ i6)) (
               Ck (decide (i6 < ((h1.length : Nat) : Int))) (
                Ck (Nat.ble (i6.toNat + 1) h1.length) (
                 ∃ r3 : Bool, SC P 75 [.one (.ro (.int .i64) h2), .one (.int .i64 (h1.getD i6.toNat 0))] [] [.one (.bool r3)] [] ∧
                  Br (!r3) (
                   Ret r lh [.one (.bool false)] []) (
                   FL E H19 Try.f19 0 r lh 0 (S19_L0 (IntKind.wrap .i64 (i6 + 1)) h0 h1 h2)))))))))))))) (
    Br (decide (((h2.length : Nat) : Int) = (8 : Int))) (
     ∃ r4 : List Int, SC P 64 [.one (.ro (.int .i64) h0), .one (.ro (.int .i64) h0)] [] [.one (.sl 0 none)] [.row (.int .i64) r4 .own] ∧
      ∃ r5 : Bool, SC P 74 [.one (.ro (.int .i64) r4), .one (.ro (.int .i64) h0)] [] [.one (.bool r5)] [] ∧
       Ret r lh [.one (.bool r5)] []) (
     Ret r lh [.one (.bool false)] []))) := by kernel_rfl
theorem l19 (is to : List Int) (hi : placeOk is = true) (ht : placeOk to = true) : ∀ (n i : Nat), i + n = 8 → FL E H19 Try.f19 0 [.one (.bool true)] [] 0 (S19_L0 (i : Int) is to (next is to))
  | 0, i, h => by
    have h1 := placeOk_iff.1 hi
    have e : nextF is is = is := by rw [nextF, hi]; exact nextL_all fun x hx => hx
    refine FL_of1 ?_
    rw [eq19_L0, next_length]
    exact Br_f (by omega) (Br_t (by omega) ⟨_, c64 is is (by omega) (by omega), _, c74 _ _ (by rw [e]; omega), by rw [e]; simp, rfl⟩)
  | n + 1, i, h => by
    have h1 := placeOk_iff.1 hi
    have h2 := placeOk_iff.1 ht
    have p := next_perm h1.2.1 h2.2.1 (by omega)
    have hx : has to ((next is to).getD i 0) = true := by
      rw [getD_eq (show i < (next is to).length by rw [next_length]; omega)]
      exact decide_eq_true (p.mem_iff.1 (List.getElem_mem _))
    have hy : has (next is to) (to.getD i 0) = true := by
      rw [getD_eq (show i < to.length by omega)]
      exact decide_eq_true (p.mem_iff.2 (List.getElem_mem _))
    refine FL_of1 ?_
    rw [eq19_L0, next_length, wS (by omega)]
    simp only [Int.toNat_natCast]
    refine Br_t (by omega) (Ck_d (by omega) (Ck_d (by omega) (Ck_le (by omega) ⟨_, c75 to _ (by omega), Br_nb (fun c => absurd (hx.symm.trans c) (by simp)) (fun _ => Ck_d (by omega) (Ck_d (by omega) (Ck_le (by omega) ⟨_, c75 to _ (by omega), Br_b (fun c => ?_) (fun c => ?_)⟩)))⟩)))
    · have hk := nextL_keep (to := to) (l := is) (f := free is to) i (by omega) (by
        rw [getD_eq (show i < is.length by omega)] at c
        exact of_decide_eq_true c)
      have hk2 : (next is to).getD i 0 = is.getD i 0 := by
        rw [List.getD, next, hk, getD_eq (show i < is.length by omega)]; rfl
      refine Ck_d (by omega) (Ck_d (by omega) (Ck_le (by omega) (Ck_d (by omega) (Ck_d (by omega) (Ck_le (by omega) (Br_nd (fun q => absurd hk2 q) (fun _ => Ck_d (by omega) (Ck_d (by omega) (Ck_le (by omega) ⟨_, c75 (next is to) _ (by rw [next_length]; omega), Br_nb (fun c => absurd (hy.symm.trans c) (by simp)) (fun _ => ?_)⟩)))))))))
      exact l19 is to hi ht n (i + 1) (by omega)
    · refine Ck_d (by omega) (Ck_d (by omega) (Ck_le (by omega) ⟨_, c75 (next is to) _ (by rw [next_length]; omega), Br_nb (fun c => absurd (hy.symm.trans c) (by simp)) (fun _ => ?_)⟩))
      exact l19 is to hi ht n (i + 1) (by omega)
theorem c19 (code : List Int) (hc : Bytes code) : SC P 19 [.one (.ro (.int .u8) code)] [] [.one (.bool true)] [] := by
  refine SC_of_FB (H := H19) E_ok Try.func19 (by kernel_rfl) ?_
  rw [eq19]
  refine Br_d (fun _ => ⟨rfl, rfl⟩) (fun _ => ?_)
  obtain ⟨is, to, ⟨hi, ht⟩, s0⟩ := c73 code hc
  have hi' : is.length ≤ 1048576 := by omega
  have ht' : to.length ≤ 1048576 := by omega
  have hr : (nextF is to).length ≤ 1048576 := Nat.le_trans nextF_length (by omega)
  refine ⟨(is, to), s0, _, c64 is to hi' ht', _, c63 is to hi' ht', _, c74 _ _ hr, Br_nb (fun e => by simp at e) (fun _ => Br_d (fun _ => ⟨_, c63 is to hi' ht', _, c74 _ _ hr, by simp, rfl⟩) (fun hne => ?_))⟩
  have hok : placeOk is = true ∧ placeOk to = true := by
    rw [nextF] at hne
    cases h1 : placeOk is <;> cases h2 : placeOk to <;> simp_all
  rw [show nextF is to = next is to by rw [nextF, hok.1, hok.2]; rfl]
  exact l19 is to hok.1 hok.2 8 0 (by omega)
/-! loop.example/keelson/laws.FnPlaceMoves -/
def H20 : Hint := ⟨[[(3, 0, .bool), (4, 0, .bool), (5, 0, .bool), (6, 0, .bool), (7, 0, .bool)]], [], [], [], [], []⟩
def S20_L0 (n5 : Int) (k6 : Int) (i7 : Int) (h0 : List Int) (h1 : List Int) : St := ⟨[(3, .w (.one (.sl 0 none))), (4, .w (.one (.sl 1 none))), (5, .w (.one (.int .i64 n5))), (6, .w (.one (.int .i64 k6))), (7, .w (.one (.int .i64 i7)))], [.row (.int .i64) h0 .own, .row (.int .i64) h1 .own]⟩
theorem eq20 (code : List Int) (r : List W) (lh : Heap) : FB E H20 Try.f20 [.one (.ro (.int .u8) code)] [] r lh =
  (
   Br (decide ((1048576 : Int) < ((code.length : Nat) : Int))) (
    Ret r lh [.one (.bool true)] []) (
    ∃ r0 : List Int × List Int, SC P 76 [.one (.ro (.int .u8) code)] [] [.one (.sl 0 none), .one (.sl 1 none)] [.row (.int .i64) r0.1 .own, .row (.int .i64) r0.2 .own] ∧
     ∃ r1 : Int, SC P 62 [.one (.ro (.int .i64) r0.1), .one (.ro (.int .i64) r0.2)] [] [.one (.int .i64 r1)] [] ∧
      ∃ r2 : Int, SC P 61 [.one (.ro (.int .i64) r0.1), .one (.ro (.int .i64) r0.2)] [] [.one (.int .i64 r2)] [] ∧
       Br (!(decide (r1 = r2))) (
        ∃ r3 : Int, SC P 61 [.one (.ro (.int .i64) r0.1), .one (.ro (.int .i64) r0.2)] [] [.one (.int .i64 r3)] [] ∧
         Ret r lh [.one (.bool (decide (r1 = r3)))] []) (
        Br (decide (r1 < (0 : Int))) (
         ∃ r4 : Int, SC P 61 [.one (.ro (.int .i64) r0.1), .one (.ro (.int .i64) r0.2)] [] [.one (.int .i64 r4)] [] ∧
          Ret r lh [.one (.bool (decide (r1 = r4)))] []) (
         FL E H20 Try.f20 0 r lh 0 (S20_L0 r1 0 0 r0.1 r0.2))))) := by kernel_rfl
theorem eq20_L0 (n5 : Int) (k6 : Int) (i7 : Int) (h0 : List Int) (h1 : List Int) (r : List W) (lh : Heap) : FL1 E H20 Try.f20 0 r lh 0 (S20_L0 n5 k6 i7 h0 h1) =
  (
   Br (decide (i7 < ((h1.length : Nat) : Int))) (
    Ck (decide ((0 : Int) ≤ i7)) (
     Ck (decide (i7 < ((h1.length : Nat) : Int))) (
      Ck (Nat.ble (i7.toNat + 1) h1.length) (
       ∃ r0 : Bool, SC P 75 [.one (.ro (.int .i64) h0), .one (.int .i64 (h1.getD i7.toNat 0))] [] [.one (.bool r0)] [] ∧
        Br (!r0) (
         FL E H20 Try.f20 0 r lh 0 (S20_L0 n5 (IntKind.wrap .i64 (k6 + 1)) (IntKind.wrap .i64 (i7 + 1)) h0 h1)) (
         FL E H20 Try.f20 0 r lh 0 (S20_L0 n5 k6 (IntKind.wrap .i64 (i7 + 1)) h0 h1)))))) (
    Br (decide (n5 = k6)) (
     ∃ r1 : Int, SC P 62 [.one (.ro (.int .i64) h0), .one (.ro (.int .i64) h0)] [] [.one (.int .i64 r1)] [] ∧
      Br (decide (r1 = (0 : Int))) (
       ∃ r2 : List Int, SC P 64 [.one (.ro (.int .i64) h0), .one (.ro (.int .i64) h1)] [] [.one (.sl 0 none)] [.row (.int .i64) r2 .own] ∧
        ∃ r3 : Int, SC P 62 [.one (.ro (.int .i64) r2), .one (.ro (.int .i64) h1)] [] [.one (.int .i64 r3)] [] ∧
         Ret r lh [.one (.bool (decide (r3 = (0 : Int))))] []) (
       Ret r lh [.one (.bool false)] [])) (
     Ret r lh [.one (.bool false)] []))) := by kernel_rfl
theorem l20 (is to : List Int) (hi : placeOk is = true) (ht : placeOk to = true) : ∀ (n i k : Nat), i + n = to.length → k ≤ i → k + countR (fun j => !has is (to.getD j 0)) i n = moves is to → FL E H20 Try.f20 0 [.one (.bool true)] [] 0 (S20_L0 (moves is to : Int) (k : Int) (i : Int) is to)
  | 0, i, k, h, hk, e => by
    have h1 := placeOk_iff.1 hi
    have h2 := placeOk_iff.1 ht
    have p := next_perm h1.2.1 h2.2.1 (by omega)
    have e1 : movesF is is = 0 := by rw [movesF, hi]; simp [moves_in (is := is) (to := is) fun x hx => hx]
    have e2 : nextF is to = next is to := by rw [nextF, hi, ht]; rfl
    have e3 : movesF (next is to) to = 0 := by rw [movesF, placeOk_next hi ht, ht]; simp [moves_in (is := next is to) (to := to) fun x hx => p.mem_iff.1 hx]
    rw [countR] at e
    refine FL_of1 ?_
    rw [eq20_L0]
    refine Br_f (by omega) (Br_t (by omega) ⟨_, c62 is is (by omega) (by omega), Br_t e1 ⟨_, c64 is to (by omega) (by omega), _, c62 _ to (Nat.le_trans nextF_length (by omega)) (by omega), ?_, rfl⟩⟩)
    rw [e2, e3]; rfl
  | n + 1, i, k, h, hk, e => by
    have h1 := placeOk_iff.1 hi
    have h2 := placeOk_iff.1 ht
    rw [countR] at e
    refine FL_of1 ?_
    rw [eq20_L0, wS (i := i) (by omega), wS (i := k) (by omega)]
    simp only [Int.toNat_natCast]
    refine Br_t (by omega) (Ck_d (by omega) (Ck_d (by omega) (Ck_le (by omega) ⟨_, c75 is _ (by omega), Br_nb (fun c => ?_) (fun c => ?_)⟩)))
    · rw [c] at e
      exact l20 is to hi ht n (i + 1) (k + 1) (by omega) (by omega) (by rw [← e, Nat.add_assoc]; rfl)
    · rw [c] at e
      exact l20 is to hi ht n (i + 1) k (by omega) (by omega) (by rw [← e]; congr 1; exact (Nat.zero_add _).symm)
theorem c20 (code : List Int) (hc : Bytes code) : SC P 20 [.one (.ro (.int .u8) code)] [] [.one (.bool true)] [] := by
  refine SC_of_FB (H := H20) E_ok Try.func20 (by kernel_rfl) ?_
  rw [eq20]
  refine Br_d (fun _ => ⟨rfl, rfl⟩) (fun _ => ?_)
  obtain ⟨is, to, ⟨hi, ht⟩, s0⟩ := c76 code hc
  have hi' : is.length ≤ 1048576 := by omega
  have ht' : to.length ≤ 1048576 := by omega
  refine ⟨(is, to), s0, _, c62 is to hi' ht', _, c61 is to hi' ht', Br_nd (fun e => absurd rfl e) (fun _ => Br_d (fun _ => ⟨_, c61 is to hi' ht', by simp, rfl⟩) (fun hne => ?_))⟩
  have hok : placeOk is = true ∧ placeOk to = true := by
    rw [movesF] at hne
    cases h1 : placeOk is <;> cases h2 : placeOk to <;> simp_all
  have h1 := placeOk_iff.1 hok.1
  have h2 := placeOk_iff.1 hok.2
  rw [show movesF is to = (moves is to : Int) by rw [movesF, hok.1, hok.2]; rfl]
  refine l20 is to hok.1 hok.2 to.length 0 0 (by omega) (by omega) ?_
  rw [Nat.zero_add, moves_eq h1.2.1 h2.2.1 (by omega)]
  exact countR_countP (l := to) (z := 0) (fun x => !has is x)
/-! loop.example/keelson/laws.FnHousesLess -/
def H13 : Hint := ⟨[[(3, 0, .bool), (4, 0, .bool), (5, 0, .bool), (7, 0, .bool), (8, 0, .bool)]], [], [(14, [0, 1, 2, 3, 4, 5, 7, 8, 9, 10, 11, 6, 12])], [], [], []⟩
def S13_L0 (id4 : Int) (n7 : Int) (i8 : Int) (h0 : List (Int × (Int × Int))) (h1 : List (Int × (Int × Int))) : St := ⟨[(3, .w (.one (.sl 0 none))), (4, .w (.one (.int .i64 id4))), (5, .w (.one (.sl 1 none))), (7, .w (.one (.int .i64 n7))), (8, .w (.one (.int .i64 i8)))], [.row (.pair (.int .i64) (.pair (.int .i64) (.int .i64))) h0 .own, .row (.pair (.int .i64) (.pair (.int .i64) (.int .i64))) h1 .own]⟩
theorem eq13 (code : List Int) (r : List W) (lh : Heap) : FB E H13 Try.f13 [.one (.ro (.int .u8) code)] [] r lh =
  (
   Br (decide ((1048576 : Int) < ((code.length : Nat) : Int))) (
    Ret r lh [.one (.bool true)] []) (
    ∃ r0 : List (Int × (Int × Int)) × Int, SC P 58 [.one (.ro (.int .u8) code)] [] [.one (.sl 0 none), .one (.int .i64 r0.2)] [.row (.pair (.int .i64) (.pair (.int .i64) (.int .i64))) r0.1 .own] ∧
     ∃ r1 : List (Int × (Int × Int)), SC P 59 [.one (.ro (.pair (.int .i64) (.pair (.int .i64) (.int .i64))) r0.1), .one (.int .i64 r0.2)] [] [.one (.sl 0 none)] [.row (.pair (.int .i64) (.pair (.int .i64) (.int .i64))) r1 .own] ∧
      ∃ r2 : List (Int × (Int × Int)), SC P 60 [.one (.ro (.pair (.int .i64) (.pair (.int .i64) (.int .i64))) r0.1), .one (.int .i64 r0.2)] [] [.one (.sl 0 none)] [.row (.pair (.int .i64) (.pair (.int .i64) (.int .i64))) r2 .own] ∧
       Br (!(decide (((r1.length : Nat) : Int) = ((r2.length : Nat) : Int)))) (
        Ret r lh [.one (.bool (decide (((r1.length : Nat) : Int) = ((r2.length : Nat) : Int))))] []) (
        ∃ r3 : Bool, SC P 36 [.one (.ro (.pair (.int .i64) (.pair (.int .i64) (.int .i64))) r0.1)] [] [.one (.bool r3)] [] ∧
         Br (!r3) (
          Ret r lh [.one (.bool (decide (((r1.length : Nat) : Int) = ((r2.length : Nat) : Int))))] []) (
          FL E H13 Try.f13 0 r lh 0 (S13_L0 r0.2 0 0 r0.1 r1))))) := by kernel_rfl
theorem eq13_L0 (id4 : Int) (n7 : Int) (i8 : Int) (h0 : List (Int × (Int × Int))) (h1 : List (Int × (Int × Int))) (r : List W) (lh : Heap) : FL1 E H13 Try.f13 0 r lh 0 (S13_L0 id4 n7 i8 h0 h1) =
  (
   Br (decide (i8 < ((h0.length : Nat) : Int))) (
    Ck (decide ((0 : Int) ≤ i8)) (
     Ck (decide (i8 < ((h0.length : Nat) : Int))) (
      Ck (Nat.blt i8.toNat h0.length) (
       Br (decide ((h0.getD i8.toNat (0, (0, 0))).1 = id4)) (
        FL E H13 Try.f13 0 r lh 0 (S13_L0 id4 1 (IntKind.wrap .i64 (i8 + 1)) h0 h1)) (
        Ck (decide ((0 : Int) ≤ i8)) (
         Ck (decide (i8 < ((h0.length : Nat) : Int))) (
          Ck (Nat.blt i8.toNat h0.length) (
           Ck (decide ((0 : Int) ≤ i8)) (
            Ck (decide (i8 < ((h0.length : Nat) : Int))) (
             Ck (Nat.blt i8.toNat h0.length) (
              ∃ r0 : Int, SC P 41 [.one (.ro (.pair (.int .i64) (.pair (.int .i64) (.int .i64))) h1), .one (.int .i64 ((h0.getD i8.toNat (0, (0, 0))).1))] [] [.one (.int .i64 r0)] [] ∧
               Br (!(decide (r0 = ((h0.getD i8.toNat (0, (0, 0))).2).1))) (
                Ret r lh [.one (.bool false)] []) (
                FL E H13 Try.f13 0 r lh 0 (S13_L0 id4 n7 (IntKind.wrap .i64 (i8 + 1)) h0 h1))))))))))))) (
    Br (decide (((h1.length : Nat) : Int) = (IntKind.wrap .i64 (((h0.length : Nat) : Int) - n7)))) (
     ∃ r1 : Int, SC P 41 [.one (.ro (.pair (.int .i64) (.pair (.int .i64) (.int .i64))) h1), .one (.int .i64 id4)] [] [.one (.int .i64 r1)] [] ∧
      Br (decide (r1 = (0 : Int))) (
       ∃ r2 : Bool, SC P 35 [.one (.ro (.pair (.int .i64) (.pair (.int .i64) (.int .i64))) h1)] [] [.one (.bool r2)] [] ∧
        Ret r lh [.one (.bool r2)] []) (
       Ret r lh [.one (.bool false)] [])) (
     Ret r lh [.one (.bool false)] []))) := by kernel_rfl
theorem less_rack {l : List House} {id : Int} (h : housesOk l = true) {x : House} (hx : x ∈ l) (hne : x.1 ≠ id) : houseRack (housesLess l id) x.1 = x.2.1 := by
  have h2 := housesOk_iff.1 (housesOk_less id h)
  exact houseRack_mem h2.2 (List.mem_filter.2 ⟨hx, by simpa using hne⟩)
theorem l13 (l : List House) (id : Int) (hk : housesOk l = true) (hl : l.length ≤ 1048576) : ∀ (n i : Nat) (m : Int), i + n = l.length → (m = 0 ∧ (∀ j (h : j < l.length), j < i → l[j].1 ≠ id) ∨ m = 1 ∧ ∃ j, ∃ h : j < l.length, j < i ∧ l[j].1 = id) → FL E H13 Try.f13 0 [.one (.bool true)] [] 0 (S13_L0 id m (i : Int) l (housesLess l id))
  | 0, i, m, h, hm => by
    have hok := housesOk_iff.1 hk
    have hlen : ((housesLess l id).length : Int) = l.length - m := by
      rcases hm with ⟨rfl, hm⟩ | ⟨rfl, j, hj, hji, hm⟩
      · have : housesLess l id = l := by
          rw [housesLess, List.filter_eq_self]
          intro x hx
          obtain ⟨j, hj, rfl⟩ := List.getElem_of_mem hx
          have := hm j hj (by omega)
          simpa using this
        rw [this]; omega
      · have hc := List.length_eq_countP_add_countP (fun h : House => decide (h.1 = id)) (l := l)
        have e1 : l.countP (fun h => decide (h.1 = id)) = 1 := by
          have e := List.take_append_drop j l
          have ed := drop_cons hj
          rw [List.pairwise_iff_getElem] at hok
          have a1 : (l.take j).countP (fun h => decide (h.1 = id)) = 0 := by
            rw [List.countP_eq_zero]
            intro x hx
            rw [List.mem_take_iff_getElem] at hx
            obtain ⟨q, hq, rfl⟩ := hx
            have := hok.2 q j (by omega) hj (by omega)
            simp; omega
          have a2 : (l.drop (j + 1)).countP (fun h => decide (h.1 = id)) = 0 := by
            rw [List.countP_eq_zero]
            intro x hx
            rw [List.mem_drop_iff_getElem] at hx
            obtain ⟨q, hq, rfl⟩ := hx
            have := hok.2 j (j + 1 + q) hj (by omega) (by omega)
            simp; omega
          rw [← e, List.countP_append, a1, ed, List.countP_cons, a2, hm]
          simp
        have e2 : l.countP (fun h => decide ¬ decide (h.1 = id) = true) = (housesLess l id).length := by
          rw [housesLess, ← List.countP_eq_length_filter]
          congr 1
          funext x
          cases decide (x.1 = id) <;> rfl
        omega
    have hr : houseRackOk (housesLess l id) id = 0 := by
      rw [houseRackOk, housesOk_less id hk, cond_true]
      exact houseRack_none fun x hx => by simpa using (List.mem_filter.1 hx).2
    have hle : (housesLess l id).length ≤ 1048576 := Nat.le_trans (List.length_filter_le _ _) hl
    refine FL_of1 ?_
    rw [eq13_L0, wrap64 (n := (l.length : Int) - m) (by rcases hm with ⟨rfl, _⟩ | ⟨rfl, _⟩ <;> omega) (by rcases hm with ⟨rfl, _⟩ | ⟨rfl, _⟩ <;> omega)]
    exact Br_f (by omega) (Br_t hlen ⟨_, c41 _ id hle, Br_t hr ⟨_, c35 _ hle, by rw [housesOk_less id hk], rfl⟩⟩)
  | n + 1, i, m, h, hm => by
    have hi : i < l.length := by omega
    have hle : (housesLess l id).length ≤ 1048576 := Nat.le_trans (List.length_filter_le _ _) hl
    refine FL_of1 ?_
    rw [eq13_L0, wS (by omega)]
    simp only [Int.toNat_natCast]
    refine Br_t (by omega) (Ck_d (by omega) (Ck_d (by omega) (Ck_lt (by omega) (Br_d (fun c => ?_) (fun c => ?_)))))
    · rw [getD_eq hi] at c
      exact l13 l id hk hl n (i + 1) 1 (by omega) (.inr ⟨rfl, i, hi, by omega, c⟩)
    · have hr : houseRackOk (housesLess l id) (l.getD i (0, 0, 0)).1 = (l.getD i (0, 0, 0)).2.1 := by
        rw [getD_eq hi] at c ⊢
        rw [houseRackOk, housesOk_less id hk, cond_true]
        exact less_rack hk (List.getElem_mem _) c
      refine Ck_d (by omega) (Ck_d (by omega) (Ck_lt (by omega) (Ck_d (by omega) (Ck_d (by omega) (Ck_lt (by omega) ⟨_, c41 _ _ hle, Br_nd (fun q => absurd hr q) (fun _ => ?_)⟩)))))
      refine l13 l id hk hl n (i + 1) m (by omega) ?_
      rw [getD_eq hi] at c
      rcases hm with ⟨rfl, hm⟩ | ⟨rfl, j, hj, hji, hm⟩
      · refine .inl ⟨rfl, fun j hj hji => ?_⟩
        rcases Nat.lt_succ_iff_lt_or_eq.1 hji with g | rfl
        · exact hm j hj g
        · exact c
      · exact .inr ⟨rfl, j, hj, by omega, hm⟩
theorem c13 (code : List Int) (hc : Bytes code) : SC P 13 [.one (.ro (.int .u8) code)] [] [.one (.bool true)] [] := by
  refine SC_of_FB (H := H13) E_ok Try.func13 (by kernel_rfl) ?_
  rw [eq13]
  refine Br_d (fun _ => ⟨rfl, rfl⟩) (fun _ => ?_)
  obtain ⟨l, id, hl, s0⟩ := c58 code hc
  have hl' : l.length ≤ 1048576 := by omega
  refine ⟨(l, id), s0, _, c59 l id hl', _, c60 l id hl', Br_nd (fun e => absurd rfl e) (fun _ => ⟨_, c36 l hl', Br_nb (fun _ => ⟨by simp, rfl⟩) (fun hk => ?_)⟩)⟩
  rw [show housesLessF l id = housesLess l id by rw [housesLessF, hk]; rfl]
  exact l13 l id hk hl' l.length 0 0 (by omega) (.inl ⟨rfl, fun j _ hj => absurd hj (by omega)⟩)
/-! loop.example/keelson/laws.FnHousesForm -/
def H6 : Hint := ⟨[], [], [(8, [1, 2, 3, 5, 6, 7, 8, 0, 4, 9, 10]), (9, [1, 2, 3, 4, 6, 7, 8, 0, 5, 9, 10])], [], [], []⟩
theorem eq6 (code : List Int) (more : List Int) (r : List W) (lh : Heap) : FB E H6 Try.f6 [.one (.ro (.int .u8) code), .one (.ro (.int .u8) more)] [] r lh =
  (
   Br (decide ((1048576 : Int) < ((code.length : Nat) : Int))) (
    Ret r lh [.one (.bool true)] []) (
    Br (decide ((1048576 : Int) < ((more.length : Nat) : Int))) (
     Ret r lh [.one (.bool true)] []) (
     ∃ r0 : List (Int × (Int × Int)), SC P 34 [.one (.ro (.int .u8) code)] [] [.one (.sl 0 none)] [.row (.pair (.int .i64) (.pair (.int .i64) (.int .i64))) r0 .own] ∧
      ∃ r1 : Bool, SC P 35 [.one (.ro (.pair (.int .i64) (.pair (.int .i64) (.int .i64))) r0)] [] [.one (.bool r1)] [] ∧
       ∃ r2 : Bool, SC P 36 [.one (.ro (.pair (.int .i64) (.pair (.int .i64) (.int .i64))) r0)] [] [.one (.bool r2)] [] ∧
        Br (r1 != r2) (
         ∃ r3 : Bool, SC P 36 [.one (.ro (.pair (.int .i64) (.pair (.int .i64) (.int .i64))) r0)] [] [.one (.bool r3)] [] ∧
          Ret r lh [.one (.bool (r1 == r3))] []) (
         Br (!r1) (
          ∃ r4 : Bool, SC P 36 [.one (.ro (.pair (.int .i64) (.pair (.int .i64) (.int .i64))) r0)] [] [.one (.bool r4)] [] ∧
           Ret r lh [.one (.bool (r1 == r4))] []) (
          Br (decide (((r0.length : Nat) : Int) = (0 : Int))) (
           ∃ r5 : Bool, SC P 36 [.one (.ro (.pair (.int .i64) (.pair (.int .i64) (.int .i64))) r0)] [] [.one (.bool r5)] [] ∧
            Ret r lh [.one (.bool (r1 == r5))] []) (
           Ck (!decide (((r0.length : Nat) : Int) = 0)) (
            Ck (decide ((0 : Int) ≤ (Int.tmod ((more.length : Nat) : Int) ((r0.length : Nat) : Int)))) (
             Ck (decide ((Int.tmod ((more.length : Nat) : Int) ((r0.length : Nat) : Int)) ≤ ((r0.length : Nat) : Int))) (
              Ck (decide (((r0.length : Nat) : Int) ≤ ((r0.length : Nat) : Int))) (
               Ck (decide ((0 : Int) ≤ (IntKind.wrap .i64 ((Int.tmod ((more.length : Nat) : Int) ((r0.length : Nat) : Int)) + 1)))) (
                Ck (decide ((IntKind.wrap .i64 ((Int.tmod ((more.length : Nat) : Int) ((r0.length : Nat) : Int)) + 1)) ≤ ((r0.length : Nat) : Int))) (
                 Ck (decide (((r0.length : Nat) : Int) ≤ ((r0.length : Nat) : Int))) (
                  Ck (decide (((r0.length : Nat) : Int) ≤ ((r0.length : Nat) : Int))) (
                   Ck (Nat.ble ((0 + ((r0.drop 0).take (Int.tmod ((more.length : Nat) : Int) ((r0.length : Nat) : Int)).toNat).length) * 24) roomy) (
                    Ck (Nat.ble ((([] ++ ((r0.drop 0).take (Int.tmod ((more.length : Nat) : Int) ((r0.length : Nat) : Int)).toNat)).length + ((r0.drop (IntKind.wrap .i64 ((Int.tmod ((more.length : Nat) : Int) ((r0.length : Nat) : Int)) + 1)).toNat).take (((r0.length : Nat) : Int).toNat - (IntKind.wrap .i64 ((Int.tmod ((more.length : Nat) : Int) ((r0.length : Nat) : Int)) + 1)).toNat)).length) * 24) roomy) (
                     Ck (decide ((0 : Int) ≤ (IntKind.wrap .i64 ((Int.tmod ((more.length : Nat) : Int) ((r0.length : Nat) : Int)) + 1)))) (
                      Ck (decide ((IntKind.wrap .i64 ((Int.tmod ((more.length : Nat) : Int) ((r0.length : Nat) : Int)) + 1)) ≤ ((r0.length : Nat) : Int))) (
                       Ck (decide (((r0.length : Nat) : Int) ≤ ((r0.length : Nat) : Int))) (
                        Ck (decide ((0 : Int) ≤ (Int.tmod ((more.length : Nat) : Int) ((r0.length : Nat) : Int)))) (
                         Ck (decide ((Int.tmod ((more.length : Nat) : Int) ((r0.length : Nat) : Int)) ≤ ((r0.length : Nat) : Int))) (
                          Ck (decide (((r0.length : Nat) : Int) ≤ ((r0.length : Nat) : Int))) (
                           Ck (decide (((r0.length : Nat) : Int) ≤ ((r0.length : Nat) : Int))) (
                            Ck (Nat.ble ((0 + ((r0.drop 0).take (IntKind.wrap .i64 ((Int.tmod ((more.length : Nat) : Int) ((r0.length : Nat) : Int)) + 1)).toNat).length) * 24) roomy) (
                             Ck (Nat.ble ((([] ++ ((r0.drop 0).take (IntKind.wrap .i64 ((Int.tmod ((more.length : Nat) : Int) ((r0.length : Nat) : Int)) + 1)).toNat)).length + ((r0.drop (Int.tmod ((more.length : Nat) : Int) ((r0.length : Nat) : Int)).toNat).take (((r0.length : Nat) : Int).toNat - (Int.tmod ((more.length : Nat) : Int) ((r0.length : Nat) : Int)).toNat)).length) * 24) roomy) (
                              Ck (Nat.ble ((0 + r0.length) * 24) roomy) (
                               Ck (decide ((0 : Int) ≤ (Int.tmod ((more.length : Nat) : Int) ((r0.length : Nat) : Int)))) (
                                Ck (decide ((Int.tmod ((more.length : Nat) : Int) ((r0.length : Nat) : Int)) < ((([] ++ r0).length : Nat) : Int))) (
                                 Ck (Nat.blt ((Int.tmod ((more.length : Nat) : Int) ((r0.length : Nat) : Int)).toNat) (([] ++ r0).length)) (
                                  ∃ r6 : Bool, SC P 35 [.one (.ro (.pair (.int .i64) (.pair (.int .i64) (.int .i64))) (([] ++ ((r0.drop 0).take (Int.tmod ((more.length : Nat) : Int) ((r0.length : Nat) : Int)).toNat)) ++ ((r0.drop (IntKind.wrap .i64 ((Int.tmod ((more.length : Nat) : Int) ((r0.length : Nat) : Int)) + 1)).toNat).take (((r0.length : Nat) : Int).toNat - (IntKind.wrap .i64 ((Int.tmod ((more.length : Nat) : Int) ((r0.length : Nat) : Int)) + 1)).toNat))))] [] [.one (.bool r6)] [] ∧
                                   Br r6 (
                                    ∃ r7 : Bool, SC P 35 [.one (.ro (.pair (.int .i64) (.pair (.int .i64) (.int .i64))) (([] ++ ((r0.drop 0).take (IntKind.wrap .i64 ((Int.tmod ((more.length : Nat) : Int) ((r0.length : Nat) : Int)) + 1)).toNat)) ++ ((r0.drop (Int.tmod ((more.length : Nat) : Int) ((r0.length : Nat) : Int)).toNat).take (((r0.length : Nat) : Int).toNat - (Int.tmod ((more.length : Nat) : Int) ((r0.length : Nat) : Int)).toNat))))] [] [.one (.bool r7)] [] ∧
                                     Br (!r7) (
                                      ∃ r8 : Bool, SC P 35 [.one (.ro (.pair (.int .i64) (.pair (.int .i64) (.int .i64))) (([] ++ r0).set ((Int.tmod ((more.length : Nat) : Int) ((r0.length : Nat) : Int)).toNat) ((([] ++ r0).getD (Int.tmod ((more.length : Nat) : Int) ((r0.length : Nat) : Int)).toNat (0, (0, 0))).1, (((([] ++ r0).getD (Int.tmod ((more.length : Nat) : Int) ((r0.length : Nat) : Int)).toNat (0, (0, 0))).2).1, 0))))] [] [.one (.bool r8)] [] ∧
                                       Br (!r8) (
                                        Ret r lh [.one (.bool (decide (((r0.length : Nat) : Int) ≤ (12 : Int))))] []) (
                                        Ret r lh [.one (.bool false)] [])) (
                                      Ret r lh [.one (.bool false)] [])) (
                                    Ret r lh [.one (.bool false)] [])))))))))))))))))))))))))))))) := by kernel_rfl
theorem form_less {l : List House} (h : housesOk l = true) (k : Nat) : housesOk (l.take k ++ l.drop (k + 1)) = true := by
  rw [← List.eraseIdx_eq_take_drop_succ]
  exact housesOk_sub (List.eraseIdx_sublist _ _) h
theorem form_twice {l : List House} {k : Nat} (hk : k < l.length) : housesOk (l.take (k + 1) ++ l.drop k) = false := by
  cases e : housesOk (l.take (k + 1) ++ l.drop k) with
  | false => rfl
  | true =>
    rw [housesOk_iff, List.pairwise_append] at e
    have := e.2.2.2 l[k] (by rw [take_succ' hk]; exact List.mem_append_right _ (List.mem_singleton.2 rfl)) l[k] (by rw [drop_cons hk]; exact List.mem_cons_self)
    omega
theorem form_bad {l : List House} {k : Nat} (hk : k < l.length) (a b : Int) : housesOk (l.set k (a, b, 0)) = false := by
  cases e : housesOk (l.set k (a, b, 0)) with
  | false => rfl
  | true =>
    rw [housesOk_iff] at e
    have := houseOk_iff.1 (e.1 (a, b, 0) (List.mem_set hk _))
    dsimp only at this
    omega
theorem c6 (code more : List Int) (hc : Bytes code) : SC P 6 [.one (.ro (.int .u8) code), .one (.ro (.int .u8) more)] [] [.one (.bool true)] [] := by
  refine SC_of_FB (H := H6) E_ok Try.func6 (by kernel_rfl) ?_
  rw [eq6]
  refine Br_d (fun _ => ⟨rfl, rfl⟩) (fun _ => Br_d (fun _ => ⟨rfl, rfl⟩) (fun _ => ?_))
  obtain ⟨l, hl, s0⟩ := c34 code hc
  have hl' : l.length ≤ 1048576 := by omega
  refine ⟨l, s0, _, c35 l hl', _, c36 l hl', Br_b (fun e => by simp at e) (fun _ => Br_nb (fun e => ⟨_, c36 l hl', by rw [e]; rfl, rfl⟩) (fun hk => Br_d (fun _ => ⟨_, c36 l hl', by rw [hk]; rfl, rfl⟩) (fun hne => ?_)))⟩
  have hpos : 0 < l.length := by omega
  have hm : Int.tmod ((more.length : Nat) : Int) ((l.length : Nat) : Int) = ((more.length % l.length : Nat) : Int) := by
    rw [Int.tmod_eq_emod_of_nonneg (by omega)]; omega
  have hlt := Nat.mod_lt more.length hpos
  rw [hm]
  generalize more.length % l.length = k at hlt ⊢
  rw [wS (by omega)]
  simp only [Int.toNat_natCast, List.drop_zero, List.nil_append, Nat.zero_add]
  have e1 : (l.drop (k + 1)).take (l.length - (k + 1)) = l.drop (k + 1) := List.take_of_length_le (by simp)
  have e2 : (l.drop k).take (l.length - k) = l.drop k := List.take_of_length_le (by simp)
  rw [e1, e2]
  have f1 := form_less hk k
  have f2 := form_twice hlt
  have f3 := form_bad hlt (l.getD k (0, 0, 0)).1 (l.getD k (0, 0, 0)).2.1
  have g1 : (l.take k ++ l.drop (k + 1)).length ≤ 1048576 := by simp; omega
  have g2 : (l.take (k + 1) ++ l.drop k).length ≤ 1048576 := by simp; omega
  refine Ck_n (by omega) (Ck_d (by omega) (Ck_d (by omega) (Ck_d (by omega) (Ck_d (by omega) (Ck_d (by omega) (Ck_d (by omega) (Ck_d (by omega) ?_)))))))
  refine Ck_room (by simp; omega) (Ck_room (by simp; omega) ?_)
  refine Ck_d (by omega) (Ck_d (by omega) (Ck_d (by omega) (Ck_d (by omega) (Ck_d (by omega) (Ck_d (by omega) (Ck_d (by omega) ?_))))))
  refine Ck_room (by simp; omega) (Ck_room (by simp; omega) (Ck_room (by omega) (Ck_d (by omega) (Ck_d (by omega) (Ck_lt (by omega) ?_)))))
  refine ⟨_, c35 _ g1, Br_b (fun _ => ⟨_, c35 _ g2, Br_nb (fun _ => ⟨_, c35 _ (by simp; omega), Br_nb (fun _ => ⟨?_, rfl⟩) (fun e => absurd (f3.symm.trans e) (by simp))⟩) (fun e => absurd (f2.symm.trans e) (by simp))⟩) (fun e => absurd (f1.symm.trans e) (by simp))⟩
  have := houses_length hk
  rw [decide_eq_true (by omega)]
end Go.Proofs.Ytiagcjjobfoflaa.Sh
