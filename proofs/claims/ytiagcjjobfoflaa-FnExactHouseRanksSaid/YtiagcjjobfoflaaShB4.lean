/- Houses without one, placements that move: contracts, and the exact laws on them. -/
import Derived.Test.YtiagcjjobfoflaaShB3
namespace Go.Proofs.Ytiagcjjobfoflaa.Sh
open Go
set_option linter.unusedVariables false
set_option linter.unusedSimpArgs false
/-! loop.example/keelson/impl.HousesLess$1 -/
def H108 : Hint := ⟨[], [], [], [], [], []⟩
theorem eq108 (h : Int × Int × Int) (id : Int) (r : List W) (lh : Heap) : FB E H108 Try.f108 [.agg [.int .i64 h.1, .int .i64 h.2.1, .int .i64 h.2.2], .one (.ptr 0 0 0)] [.row (.int .i64) [id] .var] r lh =
  (
   Ret r lh [.one (.bool (decide (h.1 = id)))] [.row (.int .i64) [id] .var]) := by kernel_rfl
theorem c108 (h : House) (id : Int) : SC P 108 [.agg [.int .i64 h.1, .int .i64 h.2.1, .int .i64 h.2.2], .one (.ptr 0 0 0)] [.row (.int .i64) [id] .var] [.one (.bool (decide (h.1 = id)))] [.row (.int .i64) [id] .var] := by
  refine SC_of_FB (H := H108) E_ok Try.func108 (by kernel_rfl) ?_
  rw [eq108]
  exact ⟨rfl, rfl⟩
/-! loop.example/keelson/impl.next$1 -/
def H131 : Hint := ⟨[], [], [], [], [], []⟩
theorem eq131 (id : Int) (is : List Int) (r : List W) (lh : Heap) : FB E H131 Try.f131 [.one (.int .i64 id), .one (.ptr 0 0 0)] [.box [.ro (.int .i64) is]] r lh =
  (
   ∃ r0 : Bool, SC P 126 [.one (.ro (.int .i64) is), .one (.int .i64 id)] [] [.one (.bool r0)] [] ∧
    Ret r lh [.one (.bool r0)] [.box [.ro (.int .i64) is]]) := by kernel_rfl
theorem c131 (id : Int) (is : List Int) (hl : is.length ≤ 1048576) : SC P 131 [.one (.int .i64 id), .one (.ptr 0 0 0)] [.box [.ro (.int .i64) is]] [.one (.bool (has is id))] [.box [.ro (.int .i64) is]] := by
  refine SC_of_FB (H := H131) E_ok Try.func131 (by kernel_rfl) ?_
  rw [eq131]
  exact ⟨_, c126 is id hl, rfl, rfl⟩
/-! slices.IndexFunc[[]loop.example/keelson/impl.House,loop.example/keelson/impl.House] -/
def H127 : Hint := ⟨[[(0, 0, .bool), (1, 0, .bool), (7, 0, .bool), (8, 0, .bool)]], [], [], [], [], []⟩
def S127_L0 (x7 : Int) (x8 : Int) (h0 : List (Int × (Int × Int))) (h1 : List Int) : St := ⟨[(0, .w (.one (.sl 0 none))), (1, .w (.one (.fn 108 [1]))), (7, .w (.one (.int .i64 x7))), (8, .w (.one (.int .i64 x8)))], [.row (.pair (.int .i64) (.pair (.int .i64) (.int .i64))) h0 .own, .row (.int .i64) h1 .var]⟩
theorem eq127 (l : List (Int × Int × Int)) (id : Int) (r : List W) (lh : Heap) : FB E H127 Try.f127 [.one (.sl 0 none), .one (.fn 108 [1])] [.row (.pair (.int .i64) (.pair (.int .i64) (.int .i64))) l .own, .row (.int .i64) [id] .var] r lh =
  (
   FL E H127 Try.f127 2 r lh 0 (S127_L0 ((l.length : Nat) : Int) 0 l [id])) := by kernel_rfl
theorem eq127_L0 (x7 : Int) (x8 : Int) (h0 : List (Int × (Int × Int))) (h1 : List Int) (r : List W) (lh : Heap) : FL1 E H127 Try.f127 2 r lh 0 (S127_L0 x7 x8 h0 h1) =
  (
   Br (decide (x8 < x7)) (
    Ck (decide ((0 : Int) ≤ x8)) (
     Ck (decide (x8 < ((h0.length : Nat) : Int))) (
      Ck (Nat.blt x8.toNat h0.length) (
       ∃ r0 : Bool, SC P 108 [.agg [.int .i64 ((h0.getD x8.toNat (0, (0, 0))).1), .int .i64 (((h0.getD x8.toNat (0, (0, 0))).2).1), .int .i64 (((h0.getD x8.toNat (0, (0, 0))).2).2)], .one (.ptr 0 0 0)] [.row (.int .i64) h1 .var] [.one (.bool r0)] [.row (.int .i64) h1 .var] ∧
        Br r0 (
         Ret r lh [.one (.int .i64 x8)] [.row (.pair (.int .i64) (.pair (.int .i64) (.int .i64))) h0 .own, .row (.int .i64) h1 .var]) (
         FL E H127 Try.f127 2 r lh 0 (S127_L0 x7 (IntKind.wrap .i64 (x8 + 1)) h0 h1)))))) (
    Ret r lh [.one (.int .i64 (-1))] [.row (.pair (.int .i64) (.pair (.int .i64) (.int .i64))) h0 .own, .row (.int .i64) h1 .var])) := by kernel_rfl
theorem l127 (l : List House) (id : Int) (hl : l.length ≤ 1048576) : ∀ (n i : Nat), i + n = l.length → FL E H127 Try.f127 2 [.one (.int .i64 (findR (fun j => (fun x : House => decide (x.1 = id)) (l.getD j (0, 0, 0))) (fun j => (j : Int)) (-1) i n))] [.row (.pair (.int .i64) (.pair (.int .i64) (.int .i64))) l .own, .row (.int .i64) [id] .var] 0 (S127_L0 (l.length : Int) (i : Int) l [id])
  | 0, i, h => by
    refine FL_of1 ?_
    rw [eq127_L0]
    exact Br_f (by omega) ⟨rfl, rfl⟩
  | n + 1, i, h => by
    refine FL_of1 ?_
    rw [eq127_L0, wS (by omega), findR]
    simp only [Int.toNat_natCast]
    refine Br_t (by omega) (Ck_d (by omega) (Ck_d (by omega) (Ck_lt (by omega) ⟨_, c108 (l.getD i (0, 0, 0)) id, Br_b (fun h1 => ?_) (fun h1 => ?_)⟩)))
    · exact ⟨by rw [cond_t h1], rfl⟩
    · rw [cond_f h1]
      exact l127 l id hl n (i + 1) (by omega)
theorem c127 (l : List House) (id : Int) (hl : l.length ≤ 1048576) : SC P 127 [.one (.sl 0 none), .one (.fn 108 [1])] [.row (.pair (.int .i64) (.pair (.int .i64) (.int .i64))) l .own, .row (.int .i64) [id] .var] [.one (.int .i64 (findR (fun j => (fun x : House => decide (x.1 = id)) (l.getD j (0, 0, 0))) (fun j => (j : Int)) (-1) 0 l.length))] [.row (.pair (.int .i64) (.pair (.int .i64) (.int .i64))) l .own, .row (.int .i64) [id] .var] := by
  refine SC_of_FB (H := H127) E_ok Try.func127 (by kernel_rfl) ?_
  rw [eq127]
  exact l127 l id hl l.length 0 (by omega)
/-! slices.DeleteFunc[[]loop.example/keelson/impl.House,loop.example/keelson/impl.House] -/
def H106 : Hint := ⟨[[(0, 0, .bool), (1, 0, .bool), (5, 0, .bool), (6, 0, .bool)]], [], [], [], [.one (.sub 0)], []⟩
def S106_L0 (i5 : Int) (j6 : Int) (h0 : List (Int × (Int × Int))) (h1 : List Int) : St := ⟨[(0, .w (.one (.sl 0 none))), (1, .w (.one (.fn 108 [1]))), (5, .w (.one (.int .i64 i5))), (6, .w (.one (.int .i64 j6)))], [.row (.pair (.int .i64) (.pair (.int .i64) (.int .i64))) h0 .own, .row (.int .i64) h1 .var]⟩
theorem eq106 (l : List (Int × Int × Int)) (id : Int) (r : List W) (lh : Heap) : FB E H106 Try.f106 [.one (.sl 0 none), .one (.fn 108 [1])] [.row (.pair (.int .i64) (.pair (.int .i64) (.int .i64))) l .own, .row (.int .i64) [id] .var] r lh =
  (
   ∃ r0 : Int, SC P 127 [.one (.sl 0 none), .one (.fn 108 [1])] [.row (.pair (.int .i64) (.pair (.int .i64) (.int .i64))) l .own, .row (.int .i64) [id] .var] [.one (.int .i64 r0)] [.row (.pair (.int .i64) (.pair (.int .i64) (.int .i64))) l .own, .row (.int .i64) [id] .var] ∧
    Br (decide (r0 = ((-1) : Int))) (
     Ret r lh [.one (.sl 0 (some (0, l.length)))] [.row (.pair (.int .i64) (.pair (.int .i64) (.int .i64))) l .own, .row (.int .i64) [id] .var]) (
     FL E H106 Try.f106 2 r lh 0 (S106_L0 r0 (IntKind.wrap .i64 (r0 + 1)) l [id]))) := by kernel_rfl
theorem eq106_L0 (i5 : Int) (j6 : Int) (h0 : List (Int × (Int × Int))) (h1 : List Int) (r : List W) (lh : Heap) : FL1 E H106 Try.f106 2 r lh 0 (S106_L0 i5 j6 h0 h1) =
  (
   Br (decide (j6 < ((h0.length : Nat) : Int))) (
    Ck (decide ((0 : Int) ≤ j6)) (
     Ck (decide (j6 < ((h0.length : Nat) : Int))) (
      Ck (Nat.blt j6.toNat h0.length) (
       ∃ r0 : Bool, SC P 108 [.agg [.int .i64 ((h0.getD j6.toNat (0, (0, 0))).1), .int .i64 (((h0.getD j6.toNat (0, (0, 0))).2).1), .int .i64 (((h0.getD j6.toNat (0, (0, 0))).2).2)], .one (.ptr 0 0 0)] [.row (.int .i64) h1 .var] [.one (.bool r0)] [.row (.int .i64) h1 .var] ∧
        Br (!r0) (
         Ck (decide ((0 : Int) ≤ i5)) (
          Ck (decide (i5 < ((h0.length : Nat) : Int))) (
           Ck (Nat.blt i5.toNat h0.length) (
            FL E H106 Try.f106 2 r lh 0 (S106_L0 (IntKind.wrap .i64 (i5 + 1)) (IntKind.wrap .i64 (j6 + 1)) (h0.set i5.toNat ((h0.getD j6.toNat (0, (0, 0))).1, (((h0.getD j6.toNat (0, (0, 0))).2).1, ((h0.getD j6.toNat (0, (0, 0))).2).2))) h1))))) (
         FL E H106 Try.f106 2 r lh 0 (S106_L0 i5 (IntKind.wrap .i64 (j6 + 1)) h0 h1)))))) (
    Ck (decide ((0 : Int) ≤ i5)) (
     Ck (decide (i5 ≤ ((h0.length : Nat) : Int))) (
      Ck (decide (((h0.length : Nat) : Int) ≤ ((h0.length : Nat) : Int))) (
       Ck (decide (((h0.length : Nat) : Int) ≤ ((h0.length : Nat) : Int))) (
        Ck (decide ((0 : Int) ≤ i5)) (
         Ck (decide (i5 ≤ (((h0.take i5.toNat ++ List.replicate (((h0.length : Nat) : Int).toNat - i5.toNat) (0, (0, 0)) ++ h0.drop (i5.toNat + (((h0.length : Nat) : Int).toNat - i5.toNat))).length : Nat) : Int))) (
          Ck (decide ((((h0.take i5.toNat ++ List.replicate (((h0.length : Nat) : Int).toNat - i5.toNat) (0, (0, 0)) ++ h0.drop (i5.toNat + (((h0.length : Nat) : Int).toNat - i5.toNat))).length : Nat) : Int) ≤ (((h0.take i5.toNat ++ List.replicate (((h0.length : Nat) : Int).toNat - i5.toNat) (0, (0, 0)) ++ h0.drop (i5.toNat + (((h0.length : Nat) : Int).toNat - i5.toNat))).length : Nat) : Int))) (
           Ret r lh [.one (.sl 0 (some (0, i5.toNat)))] [.row (.pair (.int .i64) (.pair (.int .i64) (.int .i64))) (h0.take i5.toNat ++ List.replicate (((h0.length : Nat) : Int).toNat - i5.toNat) (0, (0, 0)) ++ h0.drop (i5.toNat + (((h0.length : Nat) : Int).toNat - i5.toNat))) .own, .row (.int .i64) h1 .var]))))))))) := by kernel_rfl
theorem l106 (l : List House) (id : Int) (hl : l.length ≤ 1048576) : ∀ (n i j : Nat) (h : List House), DInv (fun x : House => decide (x.1 = id)) l h i j → j + n = l.length → ∃ h' k, h'.take k = l.filter (fun x => !(fun x : House => decide (x.1 = id)) x) ∧ h'.length ≤ 3145728 ∧ k ≤ h'.length ∧
    FL E H106 Try.f106 2 [.one (.sl 0 (some (0, k)))] [.row (.pair (.int .i64) (.pair (.int .i64) (.int .i64))) h' .own, .row (.int .i64) [id] .var] 0 (S106_L0 (i : Int) (j : Int) h [id])
  | 0, i, j, h, H, hj => by
    have h1 := H.len; have h2 := H.lt; have h3 := H.le
    refine ⟨h.take i ++ List.replicate (h.length - i) (0, 0, 0) ++ h.drop (i + (h.length - i)), i, ?_, by simp; omega, by simp; omega, ?_⟩
    · rw [List.append_assoc, List.take_append_of_le_length (by simp; omega), List.take_take, Nat.min_self, H.fin (by omega)]
    refine FL_of1 ?_
    rw [eq106_L0]
    simp only [Int.toNat_natCast]
    exact Br_f (by omega) (Ck_d (by omega) (Ck_d (by omega) (Ck_d (by omega) (Ck_d (by omega) (Ck_d (by omega) (Ck_d (by simp; omega) (Ck_d (by omega) ⟨rfl, rfl⟩)))))))
  | n + 1, i, j, h, H, hj => by
    have h1 := H.len; have h2 := H.lt; have h3 := H.le
    have hg : h.getD j (0, 0, 0) = l[j]'(by omega) := H.get (by omega)
    cases hp : (fun x : House => decide (x.1 = id)) (l[j]'(by omega)) with
    | false =>
      obtain ⟨h', k, e1, e2, e3, hF⟩ := l106 l id hl n (i + 1) (j + 1) _ (H.keep (by omega) hp) (by omega)
      refine ⟨h', k, e1, e2, e3, ?_⟩
      refine FL_of1 ?_
      rw [eq106_L0, wS (i := i) (by omega), wS (i := j) (by omega)]
      simp only [Int.toNat_natCast]
      refine Br_t (by omega) (Ck_d (by omega) (Ck_d (by omega) (Ck_lt (by omega) ⟨_, c108 (h.getD j (0, 0, 0)) id, Br_nb (fun _ => ?_) (fun h4 => ?_)⟩)))
      · rw [← hg] at hF
        exact Ck_d (by omega) (Ck_d (by omega) (Ck_lt (by omega) hF))
      · rw [hg] at h4
        exact absurd (hp.symm.trans h4) (by simp)
    | true =>
      obtain ⟨h', k, e1, e2, e3, hF⟩ := l106 l id hl n i (j + 1) _ (H.drop (by omega) hp) (by omega)
      refine ⟨h', k, e1, e2, e3, ?_⟩
      refine FL_of1 ?_
      rw [eq106_L0, wS (i := i) (by omega), wS (i := j) (by omega)]
      simp only [Int.toNat_natCast]
      refine Br_t (by omega) (Ck_d (by omega) (Ck_d (by omega) (Ck_lt (by omega) ⟨_, c108 (h.getD j (0, 0, 0)) id, Br_nb (fun h4 => ?_) (fun _ => hF)⟩)))
      rw [hg] at h4
      exact absurd (hp.symm.trans h4) (by simp)
theorem c106 (l : List House) (id : Int) (hl : l.length ≤ 1048576) : ∃ h' k, h'.take k = l.filter (fun x => !(fun x : House => decide (x.1 = id)) x) ∧ h'.length ≤ 3145728 ∧ k ≤ h'.length ∧
    SC P 106 [.one (.sl 0 none), .one (.fn 108 [1])] [.row (.pair (.int .i64) (.pair (.int .i64) (.int .i64))) l .own, .row (.int .i64) [id] .var] [.one (.sl 0 (some (0, k)))] [.row (.pair (.int .i64) (.pair (.int .i64) (.int .i64))) h' .own, .row (.int .i64) [id] .var] := by
  rcases findI_spec (p := fun j => (fun x : House => decide (x.1 = id)) (l.getD j (0, 0, 0))) (n := l.length) (i := 0) with ⟨h1, h2⟩ | ⟨j, h1, h2, h3, h4, h5⟩
  · refine ⟨l, l.length, ?_, by omega, Nat.le_refl _, ?_⟩
    · rw [List.take_length]
      symm
      rw [List.filter_eq_self]
      intro a ha
      obtain ⟨q, hq, rfl⟩ := List.getElem_of_mem ha
      have := h2 q (Nat.zero_le _) (by omega)
      rw [getD_eq hq] at this
      rw [this]; rfl
    refine SC_of_FB (H := H106) E_ok Try.func106 (by kernel_rfl) ?_
    rw [eq106]
    refine ⟨_, c127 l id hl, ?_⟩
    rw [h1]
    exact Br_t rfl ⟨rfl, rfl⟩
  · have hj : j < l.length := by omega
    have S0 : DInv (fun x : House => decide (x.1 = id)) l l j (j + 1) := DInv.start hj (by rw [getD_eq hj] at h4; exact h4) fun q hq hqj => by
      have := h5 q (Nat.zero_le _) hqj
      rw [getD_eq hq] at this
      exact this
    obtain ⟨h', k, e1, e2, e3, hF⟩ := l106 l id hl (l.length - (j + 1)) j (j + 1) l S0 (by omega)
    refine ⟨h', k, e1, e2, e3, ?_⟩
    refine SC_of_FB (H := H106) E_ok Try.func106 (by kernel_rfl) ?_
    rw [eq106]
    refine ⟨_, c127 l id hl, ?_⟩
    rw [h3, wS (by omega)]
    exact Br_f (by omega) hF
/-! slices.IndexFunc[[]int,int] -/
def H140 : Hint := ⟨[[(0, 0, .bool), (1, 0, .bool), (7, 0, .bool), (8, 0, .bool)]], [], [], [], [], []⟩
def S140_L0 (x7 : Int) (x8 : Int) (h0 : List Int) (b1_0 : List Int) : St := ⟨[(0, .w (.one (.sl 0 none))), (1, .w (.one (.fn 131 [1]))), (7, .w (.one (.int .i64 x7))), (8, .w (.one (.int .i64 x8)))], [.row (.int .i64) h0 .own, .box [.ro (.int .i64) b1_0]]⟩
theorem eq140 (l : List Int) (is : List Int) (r : List W) (lh : Heap) : FB E H140 Try.f140 [.one (.sl 0 none), .one (.fn 131 [1])] [.row (.int .i64) l .own, .box [.ro (.int .i64) is]] r lh =
  (
   FL E H140 Try.f140 2 r lh 0 (S140_L0 ((l.length : Nat) : Int) 0 l is)) := by kernel_rfl
theorem eq140_L0 (x7 : Int) (x8 : Int) (h0 : List Int) (b1_0 : List Int) (r : List W) (lh : Heap) : FL1 E H140 Try.f140 2 r lh 0 (S140_L0 x7 x8 h0 b1_0) =
  (
   Br (decide (x8 < x7)) (
    Ck (decide ((0 : Int) ≤ x8)) (
     Ck (decide (x8 < ((h0.length : Nat) : Int))) (
      Ck (Nat.ble (x8.toNat + 1) h0.length) (
       ∃ r0 : Bool, SC P 131 [.one (.int .i64 (h0.getD x8.toNat 0)), .one (.ptr 0 0 0)] [.box [.ro (.int .i64) b1_0]] [.one (.bool r0)] [.box [.ro (.int .i64) b1_0]] ∧
        Br r0 (
         Ret r lh [.one (.int .i64 x8)] [.row (.int .i64) h0 .own, .box [.ro (.int .i64) b1_0]]) (
         FL E H140 Try.f140 2 r lh 0 (S140_L0 x7 (IntKind.wrap .i64 (x8 + 1)) h0 b1_0)))))) (
    Ret r lh [.one (.int .i64 (-1))] [.row (.int .i64) h0 .own, .box [.ro (.int .i64) b1_0]])) := by kernel_rfl
theorem l140 (l : List Int) (is : List Int) (hi : is.length ≤ 1048576) (hl : l.length ≤ 1048576) : ∀ (n i : Nat), i + n = l.length → FL E H140 Try.f140 2 [.one (.int .i64 (findR (fun j => (fun x : Int => has is x) (l.getD j 0)) (fun j => (j : Int)) (-1) i n))] [.row (.int .i64) l .own, .box [.ro (.int .i64) is]] 0 (S140_L0 (l.length : Int) (i : Int) l is)
  | 0, i, h => by
    refine FL_of1 ?_
    rw [eq140_L0]
    exact Br_f (by omega) ⟨rfl, rfl⟩
  | n + 1, i, h => by
    refine FL_of1 ?_
    rw [eq140_L0, wS (by omega), findR]
    simp only [Int.toNat_natCast]
    refine Br_t (by omega) (Ck_d (by omega) (Ck_d (by omega) (Ck_le (by omega) ⟨_, c131 (l.getD i 0) is hi, Br_b (fun h1 => ?_) (fun h1 => ?_)⟩)))
    · exact ⟨by rw [cond_t h1], rfl⟩
    · rw [cond_f h1]
      exact l140 l is hi hl n (i + 1) (by omega)
theorem c140 (l : List Int) (is : List Int) (hi : is.length ≤ 1048576) (hl : l.length ≤ 1048576) : SC P 140 [.one (.sl 0 none), .one (.fn 131 [1])] [.row (.int .i64) l .own, .box [.ro (.int .i64) is]] [.one (.int .i64 (findR (fun j => (fun x : Int => has is x) (l.getD j 0)) (fun j => (j : Int)) (-1) 0 l.length))] [.row (.int .i64) l .own, .box [.ro (.int .i64) is]] := by
  refine SC_of_FB (H := H140) E_ok Try.func140 (by kernel_rfl) ?_
  rw [eq140]
  exact l140 l is hi hl l.length 0 (by omega)
/-! slices.DeleteFunc[[]int,int] -/
def H129 : Hint := ⟨[[(0, 0, .bool), (1, 0, .bool), (5, 0, .bool), (6, 0, .bool)]], [], [], [], [.one (.sub 0)], []⟩
def S129_L0 (i5 : Int) (j6 : Int) (h0 : List Int) (b1_0 : List Int) : St := ⟨[(0, .w (.one (.sl 0 none))), (1, .w (.one (.fn 131 [1]))), (5, .w (.one (.int .i64 i5))), (6, .w (.one (.int .i64 j6)))], [.row (.int .i64) h0 .own, .box [.ro (.int .i64) b1_0]]⟩
theorem eq129 (l : List Int) (is : List Int) (r : List W) (lh : Heap) : FB E H129 Try.f129 [.one (.sl 0 none), .one (.fn 131 [1])] [.row (.int .i64) l .own, .box [.ro (.int .i64) is]] r lh =
  (
   ∃ r0 : Int, SC P 140 [.one (.sl 0 none), .one (.fn 131 [1])] [.row (.int .i64) l .own, .box [.ro (.int .i64) is]] [.one (.int .i64 r0)] [.row (.int .i64) l .own, .box [.ro (.int .i64) is]] ∧
    Br (decide (r0 = ((-1) : Int))) (
     Ret r lh [.one (.sl 0 (some (0, l.length)))] [.row (.int .i64) l .own, .box [.ro (.int .i64) is]]) (
     FL E H129 Try.f129 2 r lh 0 (S129_L0 r0 (IntKind.wrap .i64 (r0 + 1)) l is))) := by kernel_rfl
theorem eq129_L0 (i5 : Int) (j6 : Int) (h0 : List Int) (b1_0 : List Int) (r : List W) (lh : Heap) : FL1 E H129 Try.f129 2 r lh 0 (S129_L0 i5 j6 h0 b1_0) =
  (
   Br (decide (j6 < ((h0.length : Nat) : Int))) (
    Ck (decide ((0 : Int) ≤ j6)) (
     Ck (decide (j6 < ((h0.length : Nat) : Int))) (
      Ck (Nat.ble (j6.toNat + 1) h0.length) (
       ∃ r0 : Bool, SC P 131 [.one (.int .i64 (h0.getD j6.toNat 0)), .one (.ptr 0 0 0)] [.box [.ro (.int .i64) b1_0]] [.one (.bool r0)] [.box [.ro (.int .i64) b1_0]] ∧
        Br (!r0) (
         Ck (decide ((0 : Int) ≤ i5)) (
          Ck (decide (i5 < ((h0.length : Nat) : Int))) (
           Ck (Nat.ble (i5.toNat + 1) h0.length) (
            FL E H129 Try.f129 2 r lh 0 (S129_L0 (IntKind.wrap .i64 (i5 + 1)) (IntKind.wrap .i64 (j6 + 1)) (h0.set i5.toNat (h0.getD j6.toNat 0)) b1_0))))) (
         FL E H129 Try.f129 2 r lh 0 (S129_L0 i5 (IntKind.wrap .i64 (j6 + 1)) h0 b1_0)))))) (
    Ck (decide ((0 : Int) ≤ i5)) (
     Ck (decide (i5 ≤ ((h0.length : Nat) : Int))) (
      Ck (decide (((h0.length : Nat) : Int) ≤ ((h0.length : Nat) : Int))) (
       Ck (decide (((h0.length : Nat) : Int) ≤ ((h0.length : Nat) : Int))) (
        Ck (decide ((0 : Int) ≤ i5)) (
         Ck (decide (i5 ≤ (((h0.take i5.toNat ++ List.replicate (((h0.length : Nat) : Int).toNat - i5.toNat) 0 ++ h0.drop (i5.toNat + (((h0.length : Nat) : Int).toNat - i5.toNat))).length : Nat) : Int))) (
          Ck (decide ((((h0.take i5.toNat ++ List.replicate (((h0.length : Nat) : Int).toNat - i5.toNat) 0 ++ h0.drop (i5.toNat + (((h0.length : Nat) : Int).toNat - i5.toNat))).length : Nat) : Int) ≤ (((h0.take i5.toNat ++ List.replicate (((h0.length : Nat) : Int).toNat - i5.toNat) 0 ++ h0.drop (i5.toNat + (((h0.length : Nat) : Int).toNat - i5.toNat))).length : Nat) : Int))) (
           Ret r lh [.one (.sl 0 (some (0, i5.toNat)))] [.row (.int .i64) (h0.take i5.toNat ++ List.replicate (((h0.length : Nat) : Int).toNat - i5.toNat) 0 ++ h0.drop (i5.toNat + (((h0.length : Nat) : Int).toNat - i5.toNat))) .own, .box [.ro (.int .i64) b1_0]]))))))))) := by kernel_rfl
theorem l129 (l : List Int) (is : List Int) (hi : is.length ≤ 1048576) (hl : l.length ≤ 1048576) : ∀ (n i j : Nat) (h : List Int), DInv (fun x : Int => has is x) l h i j → j + n = l.length → ∃ h' k, h'.take k = l.filter (fun x => !(fun x : Int => has is x) x) ∧ h'.length ≤ 3145728 ∧ k ≤ h'.length ∧
    FL E H129 Try.f129 2 [.one (.sl 0 (some (0, k)))] [.row (.int .i64) h' .own, .box [.ro (.int .i64) is]] 0 (S129_L0 (i : Int) (j : Int) h is)
  | 0, i, j, h, H, hj => by
    have h1 := H.len; have h2 := H.lt; have h3 := H.le
    refine ⟨h.take i ++ List.replicate (h.length - i) 0 ++ h.drop (i + (h.length - i)), i, ?_, by simp; omega, by simp; omega, ?_⟩
    · rw [List.append_assoc, List.take_append_of_le_length (by simp; omega), List.take_take, Nat.min_self, H.fin (by omega)]
    refine FL_of1 ?_
    rw [eq129_L0]
    simp only [Int.toNat_natCast]
    exact Br_f (by omega) (Ck_d (by omega) (Ck_d (by omega) (Ck_d (by omega) (Ck_d (by omega) (Ck_d (by omega) (Ck_d (by simp; omega) (Ck_d (by omega) ⟨rfl, rfl⟩)))))))
  | n + 1, i, j, h, H, hj => by
    have h1 := H.len; have h2 := H.lt; have h3 := H.le
    have hg : h.getD j 0 = l[j]'(by omega) := H.get (by omega)
    cases hp : (fun x : Int => has is x) (l[j]'(by omega)) with
    | false =>
      obtain ⟨h', k, e1, e2, e3, hF⟩ := l129 l is hi hl n (i + 1) (j + 1) _ (H.keep (by omega) hp) (by omega)
      refine ⟨h', k, e1, e2, e3, ?_⟩
      refine FL_of1 ?_
      rw [eq129_L0, wS (i := i) (by omega), wS (i := j) (by omega)]
      simp only [Int.toNat_natCast]
      refine Br_t (by omega) (Ck_d (by omega) (Ck_d (by omega) (Ck_le (by omega) ⟨_, c131 (h.getD j 0) is hi, Br_nb (fun _ => ?_) (fun h4 => ?_)⟩)))
      · rw [← hg] at hF
        exact Ck_d (by omega) (Ck_d (by omega) (Ck_le (by omega) hF))
      · rw [hg] at h4
        exact absurd (hp.symm.trans h4) (by simp)
    | true =>
      obtain ⟨h', k, e1, e2, e3, hF⟩ := l129 l is hi hl n i (j + 1) _ (H.drop (by omega) hp) (by omega)
      refine ⟨h', k, e1, e2, e3, ?_⟩
      refine FL_of1 ?_
      rw [eq129_L0, wS (i := i) (by omega), wS (i := j) (by omega)]
      simp only [Int.toNat_natCast]
      refine Br_t (by omega) (Ck_d (by omega) (Ck_d (by omega) (Ck_le (by omega) ⟨_, c131 (h.getD j 0) is hi, Br_nb (fun h4 => ?_) (fun _ => hF)⟩)))
      rw [hg] at h4
      exact absurd (hp.symm.trans h4) (by simp)
theorem c129 (l : List Int) (is : List Int) (hi : is.length ≤ 1048576) (hl : l.length ≤ 1048576) : ∃ h' k, h'.take k = l.filter (fun x => !(fun x : Int => has is x) x) ∧ h'.length ≤ 3145728 ∧ k ≤ h'.length ∧
    SC P 129 [.one (.sl 0 none), .one (.fn 131 [1])] [.row (.int .i64) l .own, .box [.ro (.int .i64) is]] [.one (.sl 0 (some (0, k)))] [.row (.int .i64) h' .own, .box [.ro (.int .i64) is]] := by
  rcases findI_spec (p := fun j => (fun x : Int => has is x) (l.getD j 0)) (n := l.length) (i := 0) with ⟨h1, h2⟩ | ⟨j, h1, h2, h3, h4, h5⟩
  · refine ⟨l, l.length, ?_, by omega, Nat.le_refl _, ?_⟩
    · rw [List.take_length]
      symm
      rw [List.filter_eq_self]
      intro a ha
      obtain ⟨q, hq, rfl⟩ := List.getElem_of_mem ha
      have := h2 q (Nat.zero_le _) (by omega)
      rw [getD_eq hq] at this
      rw [this]; rfl
    refine SC_of_FB (H := H129) E_ok Try.func129 (by kernel_rfl) ?_
    rw [eq129]
    refine ⟨_, c140 l is hi hl, ?_⟩
    rw [h1]
    exact Br_t rfl ⟨rfl, rfl⟩
  · have hj : j < l.length := by omega
    have S0 : DInv (fun x : Int => has is x) l l j (j + 1) := DInv.start hj (by rw [getD_eq hj] at h4; exact h4) fun q hq hqj => by
      have := h5 q (Nat.zero_le _) hqj
      rw [getD_eq hq] at this
      exact this
    obtain ⟨h', k, e1, e2, e3, hF⟩ := l129 l is hi hl (l.length - (j + 1)) j (j + 1) l S0 (by omega)
    refine ⟨h', k, e1, e2, e3, ?_⟩
    refine SC_of_FB (H := H129) E_ok Try.func129 (by kernel_rfl) ?_
    rw [eq129]
    refine ⟨_, c140 l is hi hl, ?_⟩
    rw [h3, wS (by omega)]
    exact Br_f (by omega) hF
/-! loop.example/keelson/spec.l31Less -/
def H109 : Hint := ⟨[[(0, 0, .bool), (1, 0, .bool), (5, 0, .bool), (6, 0, .bool)]], [], [], [], [], []⟩
def S109_L0 (l0 : List (Int × (Int × Int))) (id1 : Int) (i6 : Int) (h0 : List (Int × (Int × Int))) : St := ⟨[(0, .w (.one (.ro (.pair (.int .i64) (.pair (.int .i64) (.int .i64))) l0))), (1, .w (.one (.int .i64 id1))), (5, .w (.one (.sl 0 none))), (6, .w (.one (.int .i64 i6)))], [.row (.pair (.int .i64) (.pair (.int .i64) (.int .i64))) h0 .own]⟩
theorem eq109 (l : List (Int × (Int × Int))) (id : Int) (r : List W) (lh : Heap) : FB E H109 Try.f109 [.one (.ro (.pair (.int .i64) (.pair (.int .i64) (.int .i64))) l), .one (.int .i64 id)] [] r lh =
  (
   FL E H109 Try.f109 0 r lh 0 (S109_L0 l id 0 [])) := by kernel_rfl
theorem eq109_L0 (l0 : List (Int × (Int × Int))) (id1 : Int) (i6 : Int) (h0 : List (Int × (Int × Int))) (r : List W) (lh : Heap) : FL1 E H109 Try.f109 0 r lh 0 (S109_L0 l0 id1 i6 h0) =
  (
   Br (decide (i6 < ((l0.length : Nat) : Int))) (
    Ck (decide ((0 : Int) ≤ i6)) (
     Ck (decide (i6 < ((l0.length : Nat) : Int))) (
      Br (!(decide ((l0.getD i6.toNat (0, (0, 0))).1 = id1))) (
       Ck (decide ((0 : Int) ≤ i6)) (
        Ck (decide (i6 < ((l0.length : Nat) : Int))) (
         Ck (Nat.ble ((h0.length + 1) * 24) roomy) (
          FL E H109 Try.f109 0 r lh 0 (S109_L0 l0 id1 (IntKind.wrap .i64 (i6 + 1)) (h0 ++ [((l0.getD i6.toNat (0, (0, 0))).1, (((l0.getD i6.toNat (0, (0, 0))).2).1, ((l0.getD i6.toNat (0, (0, 0))).2).2))])))))) (
       FL E H109 Try.f109 0 r lh 0 (S109_L0 l0 id1 (IntKind.wrap .i64 (i6 + 1)) h0))))) (
    Ret r lh [.one (.sl 0 none)] [.row (.pair (.int .i64) (.pair (.int .i64) (.int .i64))) h0 .own])) := by kernel_rfl
theorem l109 (l : List House) (id : Int) (hl : l.length ≤ 1048576) : ∀ (n i : Nat) (out : List House), i + n = l.length → out.length ≤ i → FL E H109 Try.f109 0 [.one (.sl 0 none)] [.row (.pair (.int .i64) (.pair (.int .i64) (.int .i64))) (out ++ filterR (fun j => !decide ((l.getD j (0, 0, 0)).1 = id)) (fun j => l.getD j (0, 0, 0)) i n) .own] 0 (S109_L0 l id (i : Int) out)
  | 0, i, out, h, ho => by
    refine FL_of1 ?_
    rw [eq109_L0]
    exact Br_f (by omega) ⟨rfl, by rw [filterR, List.append_nil]⟩
  | n + 1, i, out, h, ho => by
    refine FL_of1 ?_
    rw [eq109_L0, wS (by omega), filterR]
    simp only [Int.toNat_natCast]
    refine Br_t (by omega) (Ck_d (by omega) (Ck_d (by omega) (Br_nd (fun h1 => ?_) (fun h1 => ?_))))
    · refine Ck_d (by omega) (Ck_d (by omega) (Ck_room (by omega) ?_))
      rw [decide_eq_false h1]
      have := l109 l id hl n (i + 1) (out ++ [l.getD i (0, 0, 0)]) (by omega) (by simp; omega)
      rw [List.append_assoc] at this
      exact this
    · rw [decide_eq_true h1]
      exact l109 l id hl n (i + 1) out (by omega) (by omega)
theorem c109 (l : List House) (id : Int) (hl : l.length ≤ 1048576) : SC P 109 [.one (.ro (.pair (.int .i64) (.pair (.int .i64) (.int .i64))) l), .one (.int .i64 id)] [] [.one (.sl 0 none)] [.row (.pair (.int .i64) (.pair (.int .i64) (.int .i64))) (housesLess l id) .own] := by
  refine SC_of_FB (H := H109) E_ok Try.func109 (by kernel_rfl) ?_
  rw [eq109]
  have := l109 l id hl l.length 0 [] (by omega) (by simp)
  rw [filterR_filter (l := l) (z := (0, 0, 0)) (fun h : House => !decide (h.1 = id)), List.nil_append] at this
  exact this
def housesLessF (l : List House) (id : Int) : List House := bif housesOk l then housesLess l id else []
theorem housesLessF_length {l : List House} {id : Int} (hl : l.length ≤ 1048576) : (housesLessF l id).length ≤ 1048576 := by
  unfold housesLessF
  cases housesOk l
  · simp
  · exact Nat.le_trans (List.length_filter_le _ _) hl
/-! loop.example/keelson/spec.HousesLess -/
def H60 : Hint := ⟨[], [], [], [], [], []⟩
theorem eq60 (l : List (Int × (Int × Int))) (id : Int) (r : List W) (lh : Heap) : FB E H60 Try.f60 [.one (.ro (.pair (.int .i64) (.pair (.int .i64) (.int .i64))) l), .one (.int .i64 id)] [] r lh =
  (
   ∃ r0 : Bool, SC P 36 [.one (.ro (.pair (.int .i64) (.pair (.int .i64) (.int .i64))) l)] [] [.one (.bool r0)] [] ∧
    Br (!r0) (
     Ret r lh [.one (.sl 0 none)] [.row (.pair (.int .i64) (.pair (.int .i64) (.int .i64))) [] .own]) (
     ∃ r1 : List (Int × (Int × Int)), SC P 109 [.one (.ro (.pair (.int .i64) (.pair (.int .i64) (.int .i64))) l), .one (.int .i64 id)] [] [.one (.sl 0 none)] [.row (.pair (.int .i64) (.pair (.int .i64) (.int .i64))) r1 .own] ∧
      Ret r lh [.one (.sl 0 none)] [.row (.pair (.int .i64) (.pair (.int .i64) (.int .i64))) r1 .own])) := by kernel_rfl
theorem c60 (l : List House) (id : Int) (hl : l.length ≤ 1048576) : SC P 60 [.one (.ro (.pair (.int .i64) (.pair (.int .i64) (.int .i64))) l), .one (.int .i64 id)] [] [.one (.sl 0 none)] [.row (.pair (.int .i64) (.pair (.int .i64) (.int .i64))) (housesLessF l id) .own] := by
  refine SC_of_FB (H := H60) E_ok Try.func60 (by kernel_rfl) ?_
  rw [eq60]
  exact ⟨_, c36 l hl, Br_nb (fun e => ⟨rfl, by rw [housesLessF, e]; rfl⟩) (fun e => ⟨_, c109 l id hl, rfl, by rw [housesLessF, e]; rfl⟩)⟩
/-! loop.example/keelson/impl.HousesLess -/
def H59 : Hint := ⟨[], [], [], [], [.one (.own (.pair (.int .i64) (.pair (.int .i64) (.int .i64))))], []⟩
theorem eq59 (l : List (Int × (Int × Int))) (id : Int) (r : List W) (lh : Heap) : FB E H59 Try.f59 [.one (.ro (.pair (.int .i64) (.pair (.int .i64) (.int .i64))) l), .one (.int .i64 id)] [] r lh =
  (
   ∃ r0 : Bool, SC P 35 [.one (.ro (.pair (.int .i64) (.pair (.int .i64) (.int .i64))) l)] [] [.one (.bool r0)] [] ∧
    Br (!r0) (
     Ret r lh [.one (.sl 0 none)] [.row (.pair (.int .i64) (.pair (.int .i64) (.int .i64))) [] .own]) (
     ∃ r1 : List (Int × (Int × Int)), SC P 107 [.one (.ro (.pair (.int .i64) (.pair (.int .i64) (.int .i64))) l)] [] [.one (.sl 0 none)] [.row (.pair (.int .i64) (.pair (.int .i64) (.int .i64))) r1 .own] ∧
      ∃ r2 : List (Int × (Int × Int)) × Nat, SC P 106 [.one (.sl 0 none), .one (.fn 108 [1])] [.row (.pair (.int .i64) (.pair (.int .i64) (.int .i64))) r1 .own, .row (.int .i64) [id] .var] [.one (.sl 0 (some (0, r2.2)))] [.row (.pair (.int .i64) (.pair (.int .i64) (.int .i64))) r2.1 .own, .row (.int .i64) [id] .var] ∧
       ∃ r3 : Nat, SC P 105 [.one (.sl 0 (some (0, r2.2)))] [.row (.pair (.int .i64) (.pair (.int .i64) (.int .i64))) r2.1 .own] [.one (.sl 0 (some (0, r3)))] [.row (.pair (.int .i64) (.pair (.int .i64) (.int .i64))) r2.1 .own] ∧
        Ret r lh [.one (.sl 0 none)] [.row (.pair (.int .i64) (.pair (.int .i64) (.int .i64))) (r2.1.take r3) .own])) := by kernel_rfl
theorem c59 (l : List House) (id : Int) (hl : l.length ≤ 1048576) : SC P 59 [.one (.ro (.pair (.int .i64) (.pair (.int .i64) (.int .i64))) l), .one (.int .i64 id)] [] [.one (.sl 0 none)] [.row (.pair (.int .i64) (.pair (.int .i64) (.int .i64))) (housesLessF l id) .own] := by
  refine SC_of_FB (H := H59) E_ok Try.func59 (by kernel_rfl) ?_
  rw [eq59]
  refine ⟨_, c35 l hl, Br_nb (fun e => ⟨rfl, by rw [housesLessF, e]; rfl⟩) (fun e => ?_)⟩
  obtain ⟨h', k, e1, e2, e3, s⟩ := c106 l id hl
  exact ⟨_, c107 l hl, (h', k), s, _, c105w h' k, rfl, by rw [housesLessF, e, cond_true]; dsimp only; rw [e1]; rfl⟩
/-! loop.example/keelson/impl.next -/
def H111 : Hint := ⟨[[(1, 0, .bool), (5, 0, .bool), (6, 0, .bool), (16, 0, .bool), (17, 0, .bool), (18, 0, .bool)]], [], [], [], [.one (.own (.int .i64))], []⟩
def S111_L0 (to1 : List Int) (free5o : Nat) (free5n : Nat) (out6n : Nat) (x16n : Nat) (x17 : Int) (x18 : Int) (h0 : List Int) (h1 : List Int) : St := ⟨[(1, .w (.one (.ro (.int .i64) to1))), (5, .w (.one (.sl 0 (some (free5o, free5n))))), (6, .w (.one (.sl 1 (some (0, out6n))))), (16, .w (.one (.sl 1 (some (0, x16n))))), (17, .w (.one (.int .i64 x17))), (18, .w (.one (.int .i64 x18)))], [.row (.int .i64) h0 .own, .row (.int .i64) h1 .own]⟩
theorem eq111 (is : List Int) (to : List Int) (r : List W) (lh : Heap) : FB E H111 Try.f111 [.one (.ro (.int .i64) is), .one (.ro (.int .i64) to)] [] r lh =
  (
   ∃ r0 : List Int, SC P 130 [.one (.ro (.int .i64) to)] [] [.one (.sl 0 none)] [.row (.int .i64) r0 .own] ∧
    ∃ r1 : List Int × Nat, SC P 129 [.one (.sl 0 none), .one (.fn 131 [1])] [.row (.int .i64) r0 .own, .box [.ro (.int .i64) is]] [.one (.sl 0 (some (0, r1.2)))] [.row (.int .i64) r1.1 .own, .box [.ro (.int .i64) is]] ∧
     ∃ r2 : List Int, SC P 130 [.one (.ro (.int .i64) is)] [] [.one (.sl 0 none)] [.row (.int .i64) r2 .own] ∧
      ∃ r3 : Nat, SC P 132 [.one (.sl 0 none)] [.row (.int .i64) r2 .own] [.one (.sl 0 (some (0, r3)))] [.row (.int .i64) r2 .own] ∧
       FL E H111 Try.f111 0 r lh 0 (S111_L0 to 0 r1.2 r3 r3 ((r3 : Nat) : Int) 0 r1.1 r2)) := by kernel_rfl
theorem eq111_L0 (to1 : List Int) (free5o : Nat) (free5n : Nat) (out6n : Nat) (x16n : Nat) (x17 : Int) (x18 : Int) (h0 : List Int) (h1 : List Int) (r : List W) (lh : Heap) : FL1 E H111 Try.f111 0 r lh 0 (S111_L0 to1 free5o free5n out6n x16n x17 x18 h0 h1) =
  (
   Br (decide (x18 < x17)) (
    Ck (decide ((0 : Int) ≤ x18)) (
     Ck (decide (x18 < ((x16n : Nat) : Int))) (
      Ck (Nat.ble ((0 + x18.toNat) + 1) h1.length) (
       ∃ r0 : Bool, SC P 126 [.one (.ro (.int .i64) to1), .one (.int .i64 (h1.getD (0 + x18.toNat) 0))] [] [.one (.bool r0)] [] ∧
        Br (!r0) (
         Ck (decide ((0 : Int) < ((free5n : Nat) : Int))) (
          Ck (Nat.ble ((free5o + 0) + 1) h0.length) (
           Ck (decide ((0 : Int) ≤ x18)) (
            Ck (decide (x18 < ((out6n : Nat) : Int))) (
             Ck (Nat.ble ((0 + x18.toNat) + 1) h1.length) (
              Ck (decide ((1 : Int) ≤ ((free5n : Nat) : Int))) (
               Ck (decide (((free5n : Nat) : Int) ≤ ((free5n : Nat) : Int))) (
                Ck (decide (((free5n : Nat) : Int) ≤ ((free5n : Nat) : Int))) (
                 FL E H111 Try.f111 0 r lh 0 (S111_L0 to1 (free5o + 1) (((free5n : Nat) : Int).toNat - 1) out6n x16n x17 (IntKind.wrap .i64 (x18 + 1)) h0 (h1.set (0 + x18.toNat) (h0.getD (free5o + 0) 0)))))))))))) (
         FL E H111 Try.f111 0 r lh 0 (S111_L0 to1 free5o free5n out6n x16n x17 (IntKind.wrap .i64 (x18 + 1)) h0 h1)))))) (
    Ret r lh [.one (.sl 0 none)] [.row (.int .i64) (h1.take out6n) .own])) := by kernel_rfl
theorem l111 (is to h0 : List Int) (hi : is.length ≤ 1048576) (ht : to.length ≤ 1048576) : ∀ (n i fo fn : Nat) (h1 : List Int), i + n = is.length → h1.length = is.length → h1.drop i = is.drop i → fo + fn ≤ h0.length → lack to (is.drop i) ≤ fn →
    FL E H111 Try.f111 0 [.one (.sl 0 none)] [.row (.int .i64) (h1.take i ++ nextL to (is.drop i) ((h0.drop fo).take fn)) .own] 0 (S111_L0 to fo fn is.length is.length (is.length : Int) (i : Int) h0 h1)
  | 0, i, fo, fn, h1, h, hl, hd, hf, hk => by
    refine FL_of1 ?_
    rw [eq111_L0]
    refine Br_f (by omega) ⟨rfl, ?_⟩
    rw [show i = is.length by omega, List.drop_length, nextL, List.append_nil]
  | n + 1, i, fo, fn, h1, h, hl, hd, hf, hk => by
    have hx : h1[i]'(by omega) = is[i]'(by omega) := by
      have e1 := drop_cons (show i < h1.length by omega)
      have e2 := drop_cons (show i < is.length by omega)
      rw [hd, e2] at e1
      exact (List.cons.inj e1).1.symm
    have hdr : h1.drop (i + 1) = is.drop (i + 1) := by
      have e1 := drop_cons (show i < h1.length by omega)
      have e2 := drop_cons (show i < is.length by omega)
      rw [hd, e2] at e1
      exact (List.cons.inj e1).2.symm
    have hg : h1.getD (0 + i) 0 = is[i]'(by omega) := by rw [Nat.zero_add, getD_eq (by omega), hx]
    rw [drop_cons (show i < is.length by omega)] at hk ⊢
    unfold lack at hk
    rw [List.countP_cons] at hk
    refine FL_of1 ?_
    rw [eq111_L0, wS (by omega), nextL]
    simp only [Int.toNat_natCast]
    refine Br_t (by omega) (Ck_d (by omega) (Ck_d (by omega) (Ck_le (by omega) ⟨_, c126 to _ ht, Br_nb (fun c => ?_) (fun c => ?_)⟩)))
    · rw [hg] at c
      rw [c] at hk ⊢
      simp only [Bool.not_false, if_true] at hk
      have hp : fo < h0.length := by omega
      have ef : (h0.drop fo).take fn = h0.getD (fo + 0) 0 :: (h0.drop (fo + 1)).take (fn - 1) := by
        rw [Nat.add_zero, getD_eq hp, drop_cons hp]
        obtain ⟨q, rfl⟩ : ∃ q, fn = q + 1 := ⟨fn - 1, by omega⟩
        rw [List.take_succ_cons]; rfl
      rw [ef, cond_false, List.headD_cons, List.tail_cons, Nat.zero_add]
      refine Ck_d (by omega) (Ck_le (by omega) (Ck_d (by omega) (Ck_d (by omega) (Ck_le (by omega) (Ck_d (by omega) (Ck_d (by omega) (Ck_d (by omega) ?_)))))))
      have := l111 is to h0 hi ht n (i + 1) (fo + 1) (fn - 1) (h1.set i (h0.getD (fo + 0) 0)) (by omega) (by simp; omega) (by rw [List.drop_set_of_lt (by omega)]; exact hdr) (by omega) (by unfold lack; omega)
      rw [take_succ' (show i < (h1.set i (h0.getD (fo + 0) 0)).length by simp; omega), List.take_set_of_le (Nat.le_refl _), List.getElem_set_self, List.append_assoc] at this
      exact this
    · rw [hg] at c
      rw [c] at hk ⊢
      simp only [Bool.not_true, Bool.false_eq_true, if_false, Nat.add_zero] at hk
      rw [cond_true]
      have := l111 is to h0 hi ht n (i + 1) fo fn h1 (by omega) hl hdr hf hk
      rw [take_succ' (show i < h1.length by omega), hx, List.append_assoc] at this
      exact this
theorem c111 (is to : List Int) (hi : is.length ≤ 1048576) (ht : to.length ≤ 1048576) (hk : lack to is ≤ (free is to).length) : SC P 111 [.one (.ro (.int .i64) is), .one (.ro (.int .i64) to)] [] [.one (.sl 0 none)] [.row (.int .i64) (next is to) .own] := by
  obtain ⟨h', k, e1, e2, e3, s⟩ := c129 to is hi ht
  have e1 : h'.take k = free is to := e1
  have hkl : k = (free is to).length := by rw [← e1, List.length_take]; omega
  refine SC_of_FB (H := H111) E_ok Try.func111 (by kernel_rfl) ?_
  rw [eq111]
  refine ⟨_, c130 to ht, (h', k), s, _, c130 is hi, _, c132 is, ?_⟩
  have := l111 is to h' hi ht is.length 0 0 k is (by omega) rfl rfl (by omega) (by rw [List.drop_zero, hkl]; exact hk)
  rw [List.drop_zero, List.drop_zero, List.take_zero, List.nil_append, e1] at this
  exact this
def nextF (is to : List Int) : List Int := bif placeOk is && placeOk to then next is to else []
theorem lack_free {is to : List Int} (hi : placeOk is = true) (ht : placeOk to = true) : lack to is ≤ (free is to).length := by
  rw [placeOk_iff] at hi ht
  rw [free_length, lack_eq hi.2.1 ht.2.1 (by omega)]
  exact Nat.le_refl _
theorem nextF_length {is to : List Int} : (nextF is to).length ≤ 8 := by
  unfold nextF
  cases h : placeOk is && placeOk to with
  | false => simp
  | true =>
    rw [Bool.and_eq_true] at h
    rw [cond_true, next_length, (placeOk_iff.1 h.1).2.2]
    exact Nat.le_refl _
/-! loop.example/keelson/spec.l32Next -/
def H110 : Hint := ⟨[[(0, 0, .bool), (1, 0, .bool), (5, 0, .bool), (6, 0, .bool), (7, 0, .bool)], [(0, 0, .bool), (1, 0, .bool), (5, 0, .bool), (6, 0, .bool), (7, 0, .bool)]], [], [], [], [], []⟩
def S110_L0 (is0 : List Int) (to1 : List Int) (k6 : Int) (i7 : Int) (h0 : List Int) : St := ⟨[(0, .w (.one (.ro (.int .i64) is0))), (1, .w (.one (.ro (.int .i64) to1))), (5, .w (.one (.sl 0 none))), (6, .w (.one (.int .i64 k6))), (7, .w (.one (.int .i64 i7)))], [.row (.int .i64) h0 .own]⟩
def S110_L1 (is0 : List Int) (to1 : List Int) (k6 : Int) (i7 : Int) (h0 : List Int) : St := ⟨[(0, .w (.one (.ro (.int .i64) is0))), (1, .w (.one (.ro (.int .i64) to1))), (5, .w (.one (.sl 0 none))), (6, .w (.one (.int .i64 k6))), (7, .w (.one (.int .i64 i7)))], [.row (.int .i64) h0 .own]⟩
theorem eq110 (is : List Int) (to : List Int) (r : List W) (lh : Heap) : FB E H110 Try.f110 [.one (.ro (.int .i64) is), .one (.ro (.int .i64) to)] [] r lh =
  (
   FL E H110 Try.f110 0 r lh 0 (S110_L0 is to 0 0 [])) := by kernel_rfl
theorem eq110_L0 (is0 : List Int) (to1 : List Int) (k6 : Int) (i7 : Int) (h0 : List Int) (r : List W) (lh : Heap) : FL1 E H110 Try.f110 0 r lh 0 (S110_L0 is0 to1 k6 i7 h0) =
  (
   Br (decide (i7 < ((is0.length : Nat) : Int))) (
    Ck (decide ((0 : Int) ≤ i7)) (
     Ck (decide (i7 < ((is0.length : Nat) : Int))) (
      ∃ r0 : Bool, SC P 128 [.one (.ro (.int .i64) to1), .one (.int .i64 (is0.getD i7.toNat 0))] [] [.one (.bool r0)] [] ∧
       Br r0 (
        Ck (decide ((0 : Int) ≤ i7)) (
         Ck (decide (i7 < ((is0.length : Nat) : Int))) (
          Ck (Nat.ble ((h0.length + 1) * 8) roomy) (
           FL E H110 Try.f110 0 r lh 0 (S110_L0 is0 to1 k6 (IntKind.wrap .i64 (i7 + 1)) (h0 ++ [(is0.getD i7.toNat 0)])))))) (
        FL E H110 Try.f110 0 r lh 1 (S110_L1 is0 to1 k6 i7 h0))))) (
    Ret r lh [.one (.sl 0 none)] [.row (.int .i64) h0 .own])) := by kernel_rfl
theorem eq110_L1 (is0 : List Int) (to1 : List Int) (k6 : Int) (i7 : Int) (h0 : List Int) (r : List W) (lh : Heap) : FL1 E H110 Try.f110 0 r lh 1 (S110_L1 is0 to1 k6 i7 h0) =
  (
   Ck (decide ((0 : Int) ≤ k6)) (
    Ck (decide (k6 < ((to1.length : Nat) : Int))) (
     ∃ r0 : Bool, SC P 128 [.one (.ro (.int .i64) is0), .one (.int .i64 (to1.getD k6.toNat 0))] [] [.one (.bool r0)] [] ∧
      Br r0 (
       FL E H110 Try.f110 0 r lh 1 (S110_L1 is0 to1 (IntKind.wrap .i64 (k6 + 1)) i7 h0)) (
       Ck (decide ((0 : Int) ≤ k6)) (
        Ck (decide (k6 < ((to1.length : Nat) : Int))) (
         Ck (Nat.ble ((h0.length + 1) * 8) roomy) (
          FL E H110 Try.f110 0 r lh 0 (S110_L0 is0 to1 (IntKind.wrap .i64 (k6 + 1)) (IntKind.wrap .i64 (i7 + 1)) (h0 ++ [(to1.getD k6.toNat 0)]))))))))) := by kernel_rfl
theorem l110 (is to : List Int) (hi : is.length ≤ 1048576) (ht : to.length ≤ 1048576) : ∀ (n i k : Nat) (out : List Int), i + n = is.length → out.length = i → k ≤ to.length → lack to (is.drop i) ≤ ((to.drop k).filter fun x => !has is x).length →
    FL E H110 Try.f110 0 [.one (.sl 0 none)] [.row (.int .i64) (out ++ nextL to (is.drop i) ((to.drop k).filter fun x => !has is x)) .own] 0 (S110_L0 is to (k : Int) (i : Int) out)
  | 0, i, k, out, h, ho, hk, hc => by
    refine FL_of1 ?_
    rw [eq110_L0]
    refine Br_f (by omega) ⟨rfl, ?_⟩
    rw [show i = is.length by omega, List.drop_length, nextL, List.append_nil]
  | n + 1, i, k, out, h, ho, hk, hc => by
    rw [drop_cons (show i < is.length by omega)] at hc ⊢
    unfold lack at hc
    rw [List.countP_cons] at hc
    refine FL_of1 ?_
    rw [eq110_L0, nextL]
    simp only [Int.toNat_natCast]
    refine Br_t (by omega) (Ck_d (by omega) (Ck_d (by omega) ⟨_, c128 to _ ht, Br_b (fun c => ?_) (fun c => ?_)⟩))
    · rw [getD_eq (show i < is.length by omega)] at c
      rw [c] at hc ⊢
      simp only [Bool.not_true, Bool.false_eq_true, if_false, Nat.add_zero] at hc
      rw [cond_true, wS (by omega)]
      refine Ck_d (by omega) (Ck_d (by omega) (Ck_room (by omega) ?_))
      have := l110 is to hi ht n (i + 1) k (out ++ [is[i]'(by omega)]) (by omega) (by simp; omega) hk hc
      rw [List.append_assoc] at this
      rw [getD_eq (show i < is.length by omega)]
      exact this
    · rw [getD_eq (show i < is.length by omega)] at c
      rw [c] at hc ⊢
      simp only [Bool.not_false, if_true] at hc
      rw [cond_false]
      generalize hF : (to.drop k).filter (fun x => !has is x) = F at hc ⊢
      cases F with
      | nil => simp at hc
      | cons f F =>
        rw [List.headD_cons, List.tail_cons]
        -- the inner loop comes to the first that is not among them
        have inner : ∀ (q k : Nat), k + q = to.length → (to.drop k).filter (fun x => !has is x) = f :: F → FL E H110 Try.f110 0 [.one (.sl 0 none)] [.row (.int .i64) (out ++ f :: nextL to (is.drop (i + 1)) F) .own] 1 (S110_L1 is to (k : Int) (i : Int) out) := by
          intro q
          induction q with
          | zero =>
            intro k hq hf
            rw [List.drop_of_length_le (by omega)] at hf
            cases hf
          | succ q ih =>
            intro k hq hf
            have e := drop_cons (show k < to.length by omega)
            refine FL_of1 ?_
            rw [eq110_L1, wS (i := k) (by omega), wS (i := i) (by omega)]
            simp only [Int.toNat_natCast]
            refine Ck_d (by omega) (Ck_d (by omega) ⟨_, c128 is _ hi, Br_b (fun c => ?_) (fun c => ?_)⟩)
            · rw [getD_eq (show k < to.length by omega)] at c
              rw [e, List.filter_cons, c] at hf
              exact ih (k + 1) (by omega) (by simpa using hf)
            · rw [getD_eq (show k < to.length by omega)] at c ⊢
              rw [e, List.filter_cons, c] at hf
              simp only [Bool.not_false, if_true] at hf
              obtain ⟨e1, e2⟩ := List.cons.inj hf
              refine Ck_d (by omega) (Ck_d (by omega) (Ck_room (by omega) ?_))
              have := l110 is to hi ht n (i + 1) (k + 1) (out ++ [to[k]'(by omega)]) (by omega) (by simp; omega) (by omega) (by rw [e2]; unfold lack; simp only [List.length_cons] at hc; omega)
              rw [List.append_assoc, e2, e1] at this
              rw [e1]
              exact this
        exact inner (to.length - k) k (by omega) hF
theorem c110 (is to : List Int) (hi : is.length ≤ 1048576) (ht : to.length ≤ 1048576) (hk : lack to is ≤ (free is to).length) : SC P 110 [.one (.ro (.int .i64) is), .one (.ro (.int .i64) to)] [] [.one (.sl 0 none)] [.row (.int .i64) (next is to) .own] := by
  refine SC_of_FB (H := H110) E_ok Try.func110 (by kernel_rfl) ?_
  rw [eq110]
  have := l110 is to hi ht is.length 0 0 [] (by omega) rfl (by omega) (by rw [List.drop_zero, List.drop_zero]; exact hk)
  rw [List.drop_zero, List.drop_zero, List.nil_append] at this
  exact this
/-! loop.example/keelson/spec.PlaceNext -/
def H63 : Hint := ⟨[], [], [], [], [], []⟩
theorem eq63 (is : List Int) (to : List Int) (r : List W) (lh : Heap) : FB E H63 Try.f63 [.one (.ro (.int .i64) is), .one (.ro (.int .i64) to)] [] r lh =
  (
   ∃ r0 : Bool, SC P 101 [.one (.ro (.int .i64) is)] [] [.one (.bool r0)] [] ∧
    Br (!r0) (
     Ret r lh [.one (.sl 0 none)] [.row (.int .i64) [] .own]) (
     ∃ r1 : Bool, SC P 101 [.one (.ro (.int .i64) to)] [] [.one (.bool r1)] [] ∧
      Br (!r1) (
       Ret r lh [.one (.sl 0 none)] [.row (.int .i64) [] .own]) (
       ∃ r2 : List Int, SC P 110 [.one (.ro (.int .i64) is), .one (.ro (.int .i64) to)] [] [.one (.sl 0 none)] [.row (.int .i64) r2 .own] ∧
        Ret r lh [.one (.sl 0 none)] [.row (.int .i64) r2 .own]))) := by kernel_rfl
theorem c63 (is to : List Int) (hi : is.length ≤ 1048576) (ht : to.length ≤ 1048576) : SC P 63 [.one (.ro (.int .i64) is), .one (.ro (.int .i64) to)] [] [.one (.sl 0 none)] [.row (.int .i64) (nextF is to) .own] := by
  refine SC_of_FB (H := H63) E_ok Try.func63 (by kernel_rfl) ?_
  rw [eq63]
  exact ⟨_, c101 is hi, Br_nb (fun e => ⟨rfl, by rw [nextF, e]; rfl⟩) (fun e => ⟨_, c101 to ht, Br_nb (fun e' => ⟨rfl, by rw [nextF, e, e']; rfl⟩) (fun e' => ⟨_, c110 is to hi ht (lack_free e e'), rfl, by rw [nextF, e, e']; rfl⟩)⟩)⟩
/-! loop.example/keelson/impl.PlaceNext -/
def H64 : Hint := ⟨[], [], [], [], [.one (.own (.int .i64))], []⟩
theorem eq64 (is : List Int) (to : List Int) (r : List W) (lh : Heap) : FB E H64 Try.f64 [.one (.ro (.int .i64) is), .one (.ro (.int .i64) to)] [] r lh =
  (
   ∃ r0 : Bool, SC P 102 [.one (.ro (.int .i64) is)] [] [.one (.bool r0)] [] ∧
    Br (!r0) (
     Ret r lh [.one (.sl 0 none)] [.row (.int .i64) [] .own]) (
     ∃ r1 : Bool, SC P 102 [.one (.ro (.int .i64) to)] [] [.one (.bool r1)] [] ∧
      Br (!r1) (
       Ret r lh [.one (.sl 0 none)] [.row (.int .i64) [] .own]) (
       ∃ r2 : List Int, SC P 111 [.one (.ro (.int .i64) is), .one (.ro (.int .i64) to)] [] [.one (.sl 0 none)] [.row (.int .i64) r2 .own] ∧
        Ret r lh [.one (.sl 0 none)] [.row (.int .i64) r2 .own]))) := by kernel_rfl
theorem c64 (is to : List Int) (hi : is.length ≤ 1048576) (ht : to.length ≤ 1048576) : SC P 64 [.one (.ro (.int .i64) is), .one (.ro (.int .i64) to)] [] [.one (.sl 0 none)] [.row (.int .i64) (nextF is to) .own] := by
  refine SC_of_FB (H := H64) E_ok Try.func64 (by kernel_rfl) ?_
  rw [eq64]
  exact ⟨_, c102 is hi, Br_nb (fun e => ⟨rfl, by rw [nextF, e]; rfl⟩) (fun e => ⟨_, c102 to ht, Br_nb (fun e' => ⟨rfl, by rw [nextF, e, e']; rfl⟩) (fun e' => ⟨_, c111 is to hi ht (lack_free e e'), rfl, by rw [nextF, e, e']; rfl⟩)⟩)⟩
def movesF (is to : List Int) : Int := bif placeOk is && placeOk to then (moves is to : Int) else -1
/-! loop.example/keelson/spec.PlaceMoves -/
def H61 : Hint := ⟨[[(0, 0, .bool), (5, 0, .bool), (6, 0, .bool), (7, 0, .bool)]], [], [(8, [0, 1, 2, 3, 4, 5, 6, 7, 8])], [], [], []⟩
def S61_L0 (is0 : List Int) (n5 : Int) (i7 : Int) (h0 : List Int) : St := ⟨[(0, .w (.one (.ro (.int .i64) is0))), (5, .w (.one (.int .i64 n5))), (6, .w (.one (.sl 0 none))), (7, .w (.one (.int .i64 i7)))], [.row (.int .i64) h0 .own]⟩
theorem eq61 (is : List Int) (to : List Int) (r : List W) (lh : Heap) : FB E H61 Try.f61 [.one (.ro (.int .i64) is), .one (.ro (.int .i64) to)] [] r lh =
  (
   ∃ r0 : Bool, SC P 101 [.one (.ro (.int .i64) is)] [] [.one (.bool r0)] [] ∧
    Br (!r0) (
     Ret r lh [.one (.int .i64 (-1))] []) (
     ∃ r1 : Bool, SC P 101 [.one (.ro (.int .i64) to)] [] [.one (.bool r1)] [] ∧
      Br (!r1) (
       Ret r lh [.one (.int .i64 (-1))] []) (
       ∃ r2 : List Int, SC P 110 [.one (.ro (.int .i64) is), .one (.ro (.int .i64) to)] [] [.one (.sl 0 none)] [.row (.int .i64) r2 .own] ∧
        FL E H61 Try.f61 0 r lh 0 (S61_L0 is 0 0 r2)))) := by kernel_rfl
theorem eq61_L0 (is0 : List Int) (n5 : Int) (i7 : Int) (h0 : List Int) (r : List W) (lh : Heap) : FL1 E H61 Try.f61 0 r lh 0 (S61_L0 is0 n5 i7 h0) =
  (
   Br (decide (i7 < ((is0.length : Nat) : Int))) (
    Ck (decide ((0 : Int) ≤ i7)) (
     Ck (decide (i7 < ((h0.length : Nat) : Int))) (
      Ck (Nat.ble (i7.toNat + 1) h0.length) (
       Ck (decide ((0 : Int) ≤ i7)) (
        Ck (decide (i7 < ((is0.length : Nat) : Int))) (
         Br (!(decide ((h0.getD i7.toNat 0) = (is0.getD i7.toNat 0)))) (
          FL E H61 Try.f61 0 r lh 0 (S61_L0 is0 (IntKind.wrap .i64 (n5 + 1)) (IntKind.wrap .i64 (i7 + 1)) h0)) (
          FL E H61 Try.f61 0 r lh 0 (S61_L0 is0 n5 (IntKind.wrap .i64 (i7 + 1)) h0)))))))) (
    Ret r lh [.one (.int .i64 n5)] [])) := by kernel_rfl
theorem l61 (is nxt : List Int) (hi : is.length ≤ 1048576) (hx : nxt.length = is.length) : ∀ (n i m : Nat), i + n = is.length → m ≤ i → FL E H61 Try.f61 0 [.one (.int .i64 ((m + countR (fun j => !decide (nxt.getD j 0 = is.getD j 0)) i n : Nat) : Int))] [] 0 (S61_L0 is (m : Int) (i : Int) nxt)
  | 0, i, m, h, hm => by
    refine FL_of1 ?_
    rw [eq61_L0]
    exact Br_f (by omega) ⟨rfl, rfl⟩
  | n + 1, i, m, h, hm => by
    refine FL_of1 ?_
    rw [eq61_L0, wS (i := i) (by omega), wS (i := m) (by omega), countR]
    simp only [Int.toNat_natCast]
    refine Br_t (by omega) (Ck_d (by omega) (Ck_d (by omega) (Ck_le (by omega) (Ck_d (by omega) (Ck_d (by omega) (Br_nd (fun c => ?_) (fun c => ?_)))))))
    · rw [decide_eq_false c]
      have := l61 is nxt hi hx n (i + 1) (m + 1) (by omega) (by omega)
      rw [Nat.add_assoc] at this
      exact this
    · rw [decide_eq_true c]
      have := l61 is nxt hi hx n (i + 1) m (by omega) (by omega)
      rw [show ∀ q : Nat, (bif !true then 1 else 0) + q = q from fun q => Nat.zero_add q]
      exact this
theorem c61 (is to : List Int) (hi : is.length ≤ 1048576) (ht : to.length ≤ 1048576) : SC P 61 [.one (.ro (.int .i64) is), .one (.ro (.int .i64) to)] [] [.one (.int .i64 (movesF is to))] [] := by
  refine SC_of_FB (H := H61) E_ok Try.func61 (by kernel_rfl) ?_
  rw [eq61]
  refine ⟨_, c101 is hi, Br_nb (fun e => ⟨by rw [movesF, e]; rfl, rfl⟩) (fun e => ⟨_, c101 to ht, Br_nb (fun e' => ⟨by rw [movesF, e, e']; rfl, rfl⟩) (fun e' => ⟨_, c110 is to hi ht (lack_free e e'), ?_⟩)⟩)⟩
  have := l61 is (next is to) hi next_length is.length 0 0 (by omega) (by omega)
  have e2 := movesL_countR (a := next is to) (b := is) is.length 0 next_length (by rw [next_length]; omega)
  rw [List.drop_zero, List.drop_zero] at e2
  rw [e2, Nat.zero_add] at this
  rw [movesF, e, e']
  exact this
/-! loop.example/keelson/impl.PlaceMoves -/
def H62 : Hint := ⟨[[(0, 0, .bool), (5, 0, .bool), (18, 0, .bool), (19, 0, .bool), (20, 0, .bool)]], [], [], [], [], []⟩
def S62_L0 (is0 : List Int) (many5 : Int) (x19 : Int) (x20 : Int) (h0 : List Int) : St := ⟨[(0, .w (.one (.ro (.int .i64) is0))), (5, .w (.one (.int .i64 many5))), (18, .w (.one (.sl 0 none))), (19, .w (.one (.int .i64 x19))), (20, .w (.one (.int .i64 x20)))], [.row (.int .i64) h0 .own]⟩
theorem eq62 (is : List Int) (to : List Int) (r : List W) (lh : Heap) : FB E H62 Try.f62 [.one (.ro (.int .i64) is), .one (.ro (.int .i64) to)] [] r lh =
  (
   ∃ r0 : Bool, SC P 102 [.one (.ro (.int .i64) is)] [] [.one (.bool r0)] [] ∧
    Br (!r0) (
     Ret r lh [.one (.int .i64 (-1))] []) (
     ∃ r1 : Bool, SC P 102 [.one (.ro (.int .i64) to)] [] [.one (.bool r1)] [] ∧
      Br (!r1) (
       Ret r lh [.one (.int .i64 (-1))] []) (
       ∃ r2 : List Int, SC P 111 [.one (.ro (.int .i64) is), .one (.ro (.int .i64) to)] [] [.one (.sl 0 none)] [.row (.int .i64) r2 .own] ∧
        FL E H62 Try.f62 0 r lh 0 (S62_L0 is 0 ((r2.length : Nat) : Int) 0 r2)))) := by kernel_rfl
theorem eq62_L0 (is0 : List Int) (many5 : Int) (x19 : Int) (x20 : Int) (h0 : List Int) (r : List W) (lh : Heap) : FL1 E H62 Try.f62 0 r lh 0 (S62_L0 is0 many5 x19 x20 h0) =
  (
   Br (decide (x20 < x19)) (
    Ck (decide ((0 : Int) ≤ x20)) (
     Ck (decide (x20 < ((h0.length : Nat) : Int))) (
      Ck (Nat.ble (x20.toNat + 1) h0.length) (
       Ck (decide ((0 : Int) ≤ x20)) (
        Ck (decide (x20 < ((is0.length : Nat) : Int))) (
         Br (!(decide ((h0.getD x20.toNat 0) = (is0.getD x20.toNat 0)))) (
          FL E H62 Try.f62 0 r lh 0 (S62_L0 is0 (IntKind.wrap .i64 (many5 + 1)) x19 (IntKind.wrap .i64 (x20 + 1)) h0)) (
          FL E H62 Try.f62 0 r lh 0 (S62_L0 is0 many5 x19 (IntKind.wrap .i64 (x20 + 1)) h0)))))))) (
    Ret r lh [.one (.int .i64 many5)] [])) := by kernel_rfl
theorem l62 (is nxt : List Int) (hi : is.length ≤ 1048576) (hx : nxt.length = is.length) : ∀ (n i m : Nat), i + n = is.length → m ≤ i → FL E H62 Try.f62 0 [.one (.int .i64 ((m + countR (fun j => !decide (nxt.getD j 0 = is.getD j 0)) i n : Nat) : Int))] [] 0 (S62_L0 is (m : Int) (nxt.length : Int) (i : Int) nxt)
  | 0, i, m, h, hm => by
    refine FL_of1 ?_
    rw [eq62_L0]
    exact Br_f (by omega) ⟨rfl, rfl⟩
  | n + 1, i, m, h, hm => by
    refine FL_of1 ?_
    rw [eq62_L0, wS (i := i) (by omega), wS (i := m) (by omega), countR]
    simp only [Int.toNat_natCast]
    refine Br_t (by omega) (Ck_d (by omega) (Ck_d (by omega) (Ck_le (by omega) (Ck_d (by omega) (Ck_d (by omega) (Br_nd (fun c => ?_) (fun c => ?_)))))))
    · rw [decide_eq_false c]
      have := l62 is nxt hi hx n (i + 1) (m + 1) (by omega) (by omega)
      rw [Nat.add_assoc] at this
      exact this
    · rw [decide_eq_true c]
      have := l62 is nxt hi hx n (i + 1) m (by omega) (by omega)
      rw [show ∀ q : Nat, (bif !true then 1 else 0) + q = q from fun q => Nat.zero_add q]
      exact this
theorem c62 (is to : List Int) (hi : is.length ≤ 1048576) (ht : to.length ≤ 1048576) : SC P 62 [.one (.ro (.int .i64) is), .one (.ro (.int .i64) to)] [] [.one (.int .i64 (movesF is to))] [] := by
  refine SC_of_FB (H := H62) E_ok Try.func62 (by kernel_rfl) ?_
  rw [eq62]
  refine ⟨_, c102 is hi, Br_nb (fun e => ⟨by rw [movesF, e]; rfl, rfl⟩) (fun e => ⟨_, c102 to ht, Br_nb (fun e' => ⟨by rw [movesF, e, e']; rfl, rfl⟩) (fun e' => ⟨_, c111 is to hi ht (lack_free e e'), ?_⟩)⟩)⟩
  have := l62 is (next is to) hi next_length is.length 0 0 (by omega) (by omega)
  have e2 := movesL_countR (a := next is to) (b := is) is.length 0 next_length (by rw [next_length]; omega)
  rw [List.drop_zero, List.drop_zero] at e2
  rw [e2, Nat.zero_add] at this
  rw [movesF, e, e']
  exact this
/-! loop.example/keelson/impl.PlaceThere$1 -/
def H104 : Hint := ⟨[], [], [], [], [], []⟩
theorem eq104 (id : Int) (lost : Int) (r : List W) (lh : Heap) : FB E H104 Try.f104 [.one (.int .i64 id), .one (.ptr 0 0 0)] [.row (.int .i64) [lost] .var] r lh =
  (
   Ret r lh [.one (.bool (!(decide (id = lost))))] [.row (.int .i64) [lost] .var]) := by kernel_rfl
theorem c104 (id lost : Int) : SC P 104 [.one (.int .i64 id), .one (.ptr 0 0 0)] [.row (.int .i64) [lost] .var] [.one (.bool (!decide (id = lost)))] [.row (.int .i64) [lost] .var] := by
  refine SC_of_FB (H := H104) E_ok Try.func104 (by kernel_rfl) ?_
  rw [eq104]
  exact ⟨rfl, rfl⟩
/-! loop.example/keelson/impl.PlaceRack$1 -/
def H113 : Hint := ⟨[], [], [(1, [0, 1, 3, 2, 4, 5])], [], [], []⟩
theorem eq113 (id : Int) (l : List (Int × Int × Int)) (rack : Int) (r : List W) (lh : Heap) : FB E H113 Try.f113 [.one (.int .i64 id), .one (.ptr 0 0 0), .one (.ptr 1 0 0)] [.box [.ro (.pair (.int .i64) (.pair (.int .i64) (.int .i64))) l], .row (.int .i64) [rack] .var] r lh =
  (
   ∃ r0 : Int, SC P 41 [.one (.ro (.pair (.int .i64) (.pair (.int .i64) (.int .i64))) l), .one (.int .i64 id)] [] [.one (.int .i64 r0)] [] ∧
    Ret r lh [.one (.bool (!(decide (r0 = rack))))] [.box [.ro (.pair (.int .i64) (.pair (.int .i64) (.int .i64))) l], .row (.int .i64) [rack] .var]) := by kernel_rfl
theorem c113 (id rack : Int) (l : List House) (hl : l.length ≤ 1048576) : SC P 113 [.one (.int .i64 id), .one (.ptr 0 0 0), .one (.ptr 1 0 0)] [.box [.ro (.pair (.int .i64) (.pair (.int .i64) (.int .i64))) l], .row (.int .i64) [rack] .var] [.one (.bool (!decide (houseRackOk l id = rack)))] [.box [.ro (.pair (.int .i64) (.pair (.int .i64) (.int .i64))) l], .row (.int .i64) [rack] .var] := by
  refine SC_of_FB (H := H113) E_ok Try.func113 (by kernel_rfl) ?_
  rw [eq113]
  exact ⟨_, c41 l id hl, rfl, rfl⟩
/-! loop.example/keelson/impl.flags -/
def H103t : Hint := ⟨[[(1, 0, .bool), (5, 0, .bool), (11, 0, .bool), (12, 0, .bool), (13, 0, .bool)]], [], [], [], [.one (.own .bool)], []⟩
def S103t_L0 (x11 : List Int) (x12 : Int) (x13 : Int) (h0 : List Int) (h1 : List Bool) : St := ⟨[(1, .w (.one (.fn 104 [0]))), (5, .w (.one (.sl 1 none))), (11, .w (.one (.ro (.int .i64) x11))), (12, .w (.one (.int .i64 x12))), (13, .w (.one (.int .i64 x13)))], [.row (.int .i64) h0 .var, .row .bool h1 .own]⟩
theorem eq103t (is : List Int) (lost : Int) (r : List W) (lh : Heap) : FB E H103t Try.f103 [.one (.ro (.int .i64) is), .one (.fn 104 [0])] [.row (.int .i64) [lost] .var] r lh =
  (
   Ck (decide ((0 : Int) ≤ ((is.length : Nat) : Int))) (
    Ck (decide (((is.length : Nat) : Int) * (1 : Nat) ≤ (roomy : Int))) (
     FL E H103t Try.f103 1 r lh 0 (S103t_L0 is ((is.length : Nat) : Int) 0 [lost] [])))) := by kernel_rfl
theorem eq103t_L0 (x11 : List Int) (x12 : Int) (x13 : Int) (h0 : List Int) (h1 : List Bool) (r : List W) (lh : Heap) : FL1 E H103t Try.f103 1 r lh 0 (S103t_L0 x11 x12 x13 h0 h1) =
  (
   Br (decide (x13 < x12)) (
    Ck (decide ((0 : Int) ≤ x13)) (
     Ck (decide (x13 < ((x11.length : Nat) : Int))) (
      ∃ r0 : Bool, SC P 104 [.one (.int .i64 (x11.getD x13.toNat 0)), .one (.ptr 0 0 0)] [.row (.int .i64) h0 .var] [.one (.bool r0)] [.row (.int .i64) h0 .var] ∧
       Ck (Nat.ble ((h1.length + 1) * 1) roomy) (
        FL E H103t Try.f103 1 r lh 0 (S103t_L0 x11 x12 (IntKind.wrap .i64 (x13 + 1)) h0 (h1 ++ [r0])))))) (
    Ret r lh [.one (.sl 1 none)] [.row (.int .i64) h0 .var, .row .bool h1 .own])) := by kernel_rfl
theorem l103t (is : List Int) (lost : Int) (hi : is.length ≤ 1048576) : ∀ (n i : Nat) (out : List Bool), i + n = is.length → out.length = i → FL E H103t Try.f103 1 [.one (.sl 1 none)] [.row (.int .i64) [lost] .var, .row .bool (out ++ mapR (fun j => (fun x : Int => !decide (x = lost)) (is.getD j 0)) i n) .own] 0 (S103t_L0 is (is.length : Int) (i : Int) [lost] out)
  | 0, i, out, h, ho => by
    refine FL_of1 ?_
    rw [eq103t_L0]
    exact Br_f (by omega) ⟨rfl, by rw [mapR, List.append_nil]⟩
  | n + 1, i, out, h, ho => by
    refine FL_of1 ?_
    rw [eq103t_L0, wS (by omega), mapR]
    simp only [Int.toNat_natCast]
    refine Br_t (by omega) (Ck_d (by omega) (Ck_d (by omega) ⟨_, c104 (is.getD i 0) lost, Ck_room (by omega) ?_⟩))
    have := l103t is lost hi n (i + 1) (out ++ [(fun x : Int => !decide (x = lost)) (is.getD i 0)]) (by omega) (by simp; omega)
    rw [List.append_assoc] at this
    exact this
theorem c103t (is : List Int) (lost : Int) (hi : is.length ≤ 1048576) : SC P 103 [.one (.ro (.int .i64) is), .one (.fn 104 [0])] [.row (.int .i64) [lost] .var] [.one (.sl 1 none)] [.row (.int .i64) [lost] .var, .row .bool (is.map (fun x : Int => !decide (x = lost))) .own] := by
  refine SC_of_FB (H := H103t) E_ok Try.func103 (by kernel_rfl) ?_
  rw [eq103t]
  refine Ck_d (by omega) (Ck_roomI (by omega) ?_)
  have := l103t is lost hi is.length 0 [] (by omega) rfl
  rw [mapR_map (l := is) (z := 0) (fun x : Int => !decide (x = lost)), List.nil_append] at this
  exact this
/-! loop.example/keelson/impl.flags -/
def H103r : Hint := ⟨[[(1, 0, .bool), (5, 0, .bool), (11, 0, .bool), (12, 0, .bool), (13, 0, .bool)]], [], [], [], [.one (.own .bool)], []⟩
def S103r_L0 (x11 : List Int) (x12 : Int) (x13 : Int) (b0_0 : List (Int × (Int × Int))) (h1 : List Int) (h2 : List Bool) : St := ⟨[(1, .w (.one (.fn 113 [0, 1]))), (5, .w (.one (.sl 2 none))), (11, .w (.one (.ro (.int .i64) x11))), (12, .w (.one (.int .i64 x12))), (13, .w (.one (.int .i64 x13)))], [.box [.ro (.pair (.int .i64) (.pair (.int .i64) (.int .i64))) b0_0], .row (.int .i64) h1 .var, .row .bool h2 .own]⟩
theorem eq103r (is : List Int) (l : List (Int × Int × Int)) (rack : Int) (r : List W) (lh : Heap) : FB E H103r Try.f103 [.one (.ro (.int .i64) is), .one (.fn 113 [0, 1])] [.box [.ro (.pair (.int .i64) (.pair (.int .i64) (.int .i64))) l], .row (.int .i64) [rack] .var] r lh =
  (
   Ck (decide ((0 : Int) ≤ ((is.length : Nat) : Int))) (
    Ck (decide (((is.length : Nat) : Int) * (1 : Nat) ≤ (roomy : Int))) (
     FL E H103r Try.f103 2 r lh 0 (S103r_L0 is ((is.length : Nat) : Int) 0 l [rack] [])))) := by kernel_rfl
theorem eq103r_L0 (x11 : List Int) (x12 : Int) (x13 : Int) (b0_0 : List (Int × (Int × Int))) (h1 : List Int) (h2 : List Bool) (r : List W) (lh : Heap) : FL1 E H103r Try.f103 2 r lh 0 (S103r_L0 x11 x12 x13 b0_0 h1 h2) =
  (
   Br (decide (x13 < x12)) (
    Ck (decide ((0 : Int) ≤ x13)) (
     Ck (decide (x13 < ((x11.length : Nat) : Int))) (
      ∃ r0 : Bool, SC P 113 [.one (.int .i64 (x11.getD x13.toNat 0)), .one (.ptr 0 0 0), .one (.ptr 1 0 0)] [.box [.ro (.pair (.int .i64) (.pair (.int .i64) (.int .i64))) b0_0], .row (.int .i64) h1 .var] [.one (.bool r0)] [.box [.ro (.pair (.int .i64) (.pair (.int .i64) (.int .i64))) b0_0], .row (.int .i64) h1 .var] ∧
       Ck (Nat.ble ((h2.length + 1) * 1) roomy) (
        FL E H103r Try.f103 2 r lh 0 (S103r_L0 x11 x12 (IntKind.wrap .i64 (x13 + 1)) b0_0 h1 (h2 ++ [r0])))))) (
    Ret r lh [.one (.sl 2 none)] [.box [.ro (.pair (.int .i64) (.pair (.int .i64) (.int .i64))) b0_0], .row (.int .i64) h1 .var, .row .bool h2 .own])) := by kernel_rfl
theorem l103r (is : List Int) (l : List House) (rack : Int) (hi : is.length ≤ 1048576) (hl : l.length ≤ 1048576) : ∀ (n i : Nat) (out : List Bool), i + n = is.length → out.length = i → FL E H103r Try.f103 2 [.one (.sl 2 none)] [.box [.ro (.pair (.int .i64) (.pair (.int .i64) (.int .i64))) l], .row (.int .i64) [rack] .var, .row .bool (out ++ mapR (fun j => (fun x : Int => !decide (houseRackOk l x = rack)) (is.getD j 0)) i n) .own] 0 (S103r_L0 is (is.length : Int) (i : Int) l [rack] out)
  | 0, i, out, h, ho => by
    refine FL_of1 ?_
    rw [eq103r_L0]
    exact Br_f (by omega) ⟨rfl, by rw [mapR, List.append_nil]⟩
  | n + 1, i, out, h, ho => by
    refine FL_of1 ?_
    rw [eq103r_L0, wS (by omega), mapR]
    simp only [Int.toNat_natCast]
    refine Br_t (by omega) (Ck_d (by omega) (Ck_d (by omega) ⟨_, c113 (is.getD i 0) rack l hl, Ck_room (by omega) ?_⟩))
    have := l103r is l rack hi hl n (i + 1) (out ++ [(fun x : Int => !decide (houseRackOk l x = rack)) (is.getD i 0)]) (by omega) (by simp; omega)
    rw [List.append_assoc] at this
    exact this
theorem c103r (is : List Int) (l : List House) (rack : Int) (hi : is.length ≤ 1048576) (hl : l.length ≤ 1048576) : SC P 103 [.one (.ro (.int .i64) is), .one (.fn 113 [0, 1])] [.box [.ro (.pair (.int .i64) (.pair (.int .i64) (.int .i64))) l], .row (.int .i64) [rack] .var] [.one (.sl 2 none)] [.box [.ro (.pair (.int .i64) (.pair (.int .i64) (.int .i64))) l], .row (.int .i64) [rack] .var, .row .bool (is.map (fun x : Int => !decide (houseRackOk l x = rack))) .own] := by
  refine SC_of_FB (H := H103r) E_ok Try.func103 (by kernel_rfl) ?_
  rw [eq103r]
  refine Ck_d (by omega) (Ck_roomI (by omega) ?_)
  have := l103r is l rack hi hl is.length 0 [] (by omega) rfl
  rw [mapR_map (l := is) (z := 0) (fun x : Int => !decide (houseRackOk l x = rack)), List.nil_append] at this
  exact this
def thereF (is : List Int) (lost : Int) : List Bool := bif placeOk is then is.map (fun x => !decide (x = lost)) else []
theorem thereF_length {is : List Int} {lost : Int} (h : is.length ≤ 1048576) : (thereF is lost).length ≤ 1048576 := by
  unfold thereF
  cases placeOk is <;> simp [h]
def rackF (l : List House) (is : List Int) (rack : Int) : List Bool := bif placeOk is && housesOk l then is.map (fun x => !decide (houseRack l x = rack)) else []
theorem rackF_length {l : List House} {is : List Int} {rack : Int} (h : is.length ≤ 1048576) : (rackF l is rack).length ≤ 1048576 := by
  unfold rackF
  cases placeOk is && housesOk l <;> simp [h]
/-! loop.example/keelson/spec.PlaceThere -/
def H48 : Hint := ⟨[[(0, 0, .bool), (1, 0, .bool), (5, 0, .bool), (6, 0, .bool)]], [], [], [], [], []⟩
def S48_L0 (is0 : List Int) (lost1 : Int) (i6 : Int) (h0 : List Bool) : St := ⟨[(0, .w (.one (.ro (.int .i64) is0))), (1, .w (.one (.int .i64 lost1))), (5, .w (.one (.sl 0 none))), (6, .w (.one (.int .i64 i6)))], [.row .bool h0 .own]⟩
theorem eq48 (is : List Int) (lost : Int) (r : List W) (lh : Heap) : FB E H48 Try.f48 [.one (.ro (.int .i64) is), .one (.int .i64 lost)] [] r lh =
  (
   ∃ r0 : Bool, SC P 101 [.one (.ro (.int .i64) is)] [] [.one (.bool r0)] [] ∧
    Br (!r0) (
     Ret r lh [.one (.sl 0 none)] [.row .bool [] .own]) (
     FL E H48 Try.f48 0 r lh 0 (S48_L0 is lost 0 []))) := by kernel_rfl
theorem eq48_L0 (is0 : List Int) (lost1 : Int) (i6 : Int) (h0 : List Bool) (r : List W) (lh : Heap) : FL1 E H48 Try.f48 0 r lh 0 (S48_L0 is0 lost1 i6 h0) =
  (
   Br (decide (i6 < ((is0.length : Nat) : Int))) (
    Ck (decide ((0 : Int) ≤ i6)) (
     Ck (decide (i6 < ((is0.length : Nat) : Int))) (
      Ck (Nat.ble ((h0.length + 1) * 1) roomy) (
       FL E H48 Try.f48 0 r lh 0 (S48_L0 is0 lost1 (IntKind.wrap .i64 (i6 + 1)) (h0 ++ [(!(decide ((is0.getD i6.toNat 0) = lost1)))])))))) (
    Ret r lh [.one (.sl 0 none)] [.row .bool h0 .own])) := by kernel_rfl
theorem l48 (is : List Int) (lost : Int) (hi : is.length ≤ 1048576) : ∀ (n i : Nat) (out : List Bool), i + n = is.length → out.length = i → FL E H48 Try.f48 0 [.one (.sl 0 none)] [.row .bool (out ++ mapR (fun j => !decide (is.getD j 0 = lost)) i n) .own] 0 (S48_L0 is lost (i : Int) out)
  | 0, i, out, h, ho => by
    refine FL_of1 ?_
    rw [eq48_L0]
    exact Br_f (by omega) ⟨rfl, by rw [mapR, List.append_nil]⟩
  | n + 1, i, out, h, ho => by
    refine FL_of1 ?_
    rw [eq48_L0, wS (by omega), mapR]
    simp only [Int.toNat_natCast]
    refine Br_t (by omega) (Ck_d (by omega) (Ck_d (by omega) (Ck_room (by omega) ?_)))
    have := l48 is lost hi n (i + 1) (out ++ [!decide (is.getD i 0 = lost)]) (by omega) (by simp; omega)
    rw [List.append_assoc] at this
    exact this
theorem c48 (is : List Int) (lost : Int) (hi : is.length ≤ 1048576) : SC P 48 [.one (.ro (.int .i64) is), .one (.int .i64 lost)] [] [.one (.sl 0 none)] [.row .bool (thereF is lost) .own] := by
  refine SC_of_FB (H := H48) E_ok Try.func48 (by kernel_rfl) ?_
  rw [eq48]
  refine ⟨_, c101 is hi, Br_nb (fun e => ⟨rfl, by rw [thereF, e]; rfl⟩) (fun e => ?_)⟩
  have := l48 is lost hi is.length 0 [] (by omega) rfl
  rw [mapR_map (l := is) (z := 0) (fun x => !decide (x = lost)), List.nil_append] at this
  rw [thereF, e]
  exact this
/-! loop.example/keelson/impl.PlaceThere -/
def H50 : Hint := ⟨[], [], [], [], [.one (.own .bool)], []⟩
theorem eq50 (is : List Int) (lost : Int) (r : List W) (lh : Heap) : FB E H50 Try.f50 [.one (.ro (.int .i64) is), .one (.int .i64 lost)] [] r lh =
  (
   ∃ r0 : Bool, SC P 102 [.one (.ro (.int .i64) is)] [] [.one (.bool r0)] [] ∧
    Br (!r0) (
     Ret r lh [.one (.sl 0 none)] [.row .bool [] .own]) (
     ∃ r1 : List Bool, SC P 103 [.one (.ro (.int .i64) is), .one (.fn 104 [0])] [.row (.int .i64) [lost] .var] [.one (.sl 1 none)] [.row (.int .i64) [lost] .var, .row .bool r1 .own] ∧
      Ret r lh [.one (.sl 0 none)] [.row .bool r1 .own])) := by kernel_rfl
theorem c50 (is : List Int) (lost : Int) (hi : is.length ≤ 1048576) : SC P 50 [.one (.ro (.int .i64) is), .one (.int .i64 lost)] [] [.one (.sl 0 none)] [.row .bool (thereF is lost) .own] := by
  refine SC_of_FB (H := H50) E_ok Try.func50 (by kernel_rfl) ?_
  rw [eq50]
  exact ⟨_, c102 is hi, Br_nb (fun e => ⟨rfl, by rw [thereF, e]; rfl⟩) (fun e => ⟨_, c103t is lost hi, rfl, by rw [thereF, e]; rfl⟩)⟩
/-! loop.example/keelson/spec.PlaceRack -/
def H71 : Hint := ⟨[[(0, 0, .bool), (1, 0, .bool), (2, 0, .bool), (7, 0, .bool), (8, 0, .bool)]], [], [], [], [], []⟩
def S71_L0 (l0 : List (Int × (Int × Int))) (is1 : List Int) (rack2 : Int) (i8 : Int) (h0 : List Bool) : St := ⟨[(0, .w (.one (.ro (.pair (.int .i64) (.pair (.int .i64) (.int .i64))) l0))), (1, .w (.one (.ro (.int .i64) is1))), (2, .w (.one (.int .i64 rack2))), (7, .w (.one (.sl 0 none))), (8, .w (.one (.int .i64 i8)))], [.row .bool h0 .own]⟩
theorem eq71 (l : List (Int × (Int × Int))) (is : List Int) (rack : Int) (r : List W) (lh : Heap) : FB E H71 Try.f71 [.one (.ro (.pair (.int .i64) (.pair (.int .i64) (.int .i64))) l), .one (.ro (.int .i64) is), .one (.int .i64 rack)] [] r lh =
  (
   ∃ r0 : Bool, SC P 101 [.one (.ro (.int .i64) is)] [] [.one (.bool r0)] [] ∧
    Br (!r0) (
     Ret r lh [.one (.sl 0 none)] [.row .bool [] .own]) (
     ∃ r1 : Bool, SC P 36 [.one (.ro (.pair (.int .i64) (.pair (.int .i64) (.int .i64))) l)] [] [.one (.bool r1)] [] ∧
      Br (!r1) (
       Ret r lh [.one (.sl 0 none)] [.row .bool [] .own]) (
       FL E H71 Try.f71 0 r lh 0 (S71_L0 l is rack 0 [])))) := by kernel_rfl
theorem eq71_L0 (l0 : List (Int × (Int × Int))) (is1 : List Int) (rack2 : Int) (i8 : Int) (h0 : List Bool) (r : List W) (lh : Heap) : FL1 E H71 Try.f71 0 r lh 0 (S71_L0 l0 is1 rack2 i8 h0) =
  (
   Br (decide (i8 < ((is1.length : Nat) : Int))) (
    Ck (decide ((0 : Int) ≤ i8)) (
     Ck (decide (i8 < ((is1.length : Nat) : Int))) (
      ∃ r0 : Int, SC P 96 [.one (.ro (.pair (.int .i64) (.pair (.int .i64) (.int .i64))) l0), .one (.int .i64 (is1.getD i8.toNat 0))] [] [.one (.int .i64 r0)] [] ∧
       Ck (Nat.ble ((h0.length + 1) * 1) roomy) (
        FL E H71 Try.f71 0 r lh 0 (S71_L0 l0 is1 rack2 (IntKind.wrap .i64 (i8 + 1)) (h0 ++ [(!(decide (r0 = rack2)))])))))) (
    Ret r lh [.one (.sl 0 none)] [.row .bool h0 .own])) := by kernel_rfl
theorem l71 (l : List House) (is : List Int) (rack : Int) (hl : l.length ≤ 1048576) (hi : is.length ≤ 1048576) : ∀ (n i : Nat) (out : List Bool), i + n = is.length → out.length = i → FL E H71 Try.f71 0 [.one (.sl 0 none)] [.row .bool (out ++ mapR (fun j => !decide (houseRack l (is.getD j 0) = rack)) i n) .own] 0 (S71_L0 l is rack (i : Int) out)
  | 0, i, out, h, ho => by
    refine FL_of1 ?_
    rw [eq71_L0]
    exact Br_f (by omega) ⟨rfl, by rw [mapR, List.append_nil]⟩
  | n + 1, i, out, h, ho => by
    refine FL_of1 ?_
    rw [eq71_L0, wS (by omega), mapR]
    simp only [Int.toNat_natCast]
    refine Br_t (by omega) (Ck_d (by omega) (Ck_d (by omega) ⟨_, c96 l _ hl, Ck_room (by omega) ?_⟩))
    have := l71 l is rack hl hi n (i + 1) (out ++ [!decide (houseRack l (is.getD i 0) = rack)]) (by omega) (by simp; omega)
    rw [List.append_assoc] at this
    exact this
theorem c71 (l : List House) (is : List Int) (rack : Int) (hl : l.length ≤ 1048576) (hi : is.length ≤ 1048576) : SC P 71 [.one (.ro (.pair (.int .i64) (.pair (.int .i64) (.int .i64))) l), .one (.ro (.int .i64) is), .one (.int .i64 rack)] [] [.one (.sl 0 none)] [.row .bool (rackF l is rack) .own] := by
  refine SC_of_FB (H := H71) E_ok Try.func71 (by kernel_rfl) ?_
  rw [eq71]
  refine ⟨_, c101 is hi, Br_nb (fun e => ⟨rfl, by rw [rackF, e]; rfl⟩) (fun e => ⟨_, c36 l hl, Br_nb (fun e' => ⟨rfl, by rw [rackF, e, e']; rfl⟩) (fun e' => ?_)⟩)⟩
  have := l71 l is rack hl hi is.length 0 [] (by omega) rfl
  rw [mapR_map (l := is) (z := 0) (fun x => !decide (houseRack l x = rack)), List.nil_append] at this
  rw [rackF, e, e']
  exact this
/-! loop.example/keelson/impl.PlaceRack -/
def H69 : Hint := ⟨[], [], [], [], [.one (.own .bool)], []⟩
theorem eq69 (l : List (Int × (Int × Int))) (is : List Int) (rack : Int) (r : List W) (lh : Heap) : FB E H69 Try.f69 [.one (.ro (.pair (.int .i64) (.pair (.int .i64) (.int .i64))) l), .one (.ro (.int .i64) is), .one (.int .i64 rack)] [] r lh =
  (
   ∃ r0 : Bool, SC P 35 [.one (.ro (.pair (.int .i64) (.pair (.int .i64) (.int .i64))) l)] [] [.one (.bool r0)] [] ∧
    Br (!r0) (
     Ret r lh [.one (.sl 0 none)] [.row .bool [] .own]) (
     ∃ r1 : Bool, SC P 102 [.one (.ro (.int .i64) is)] [] [.one (.bool r1)] [] ∧
      Br (!r1) (
       Ret r lh [.one (.sl 0 none)] [.row .bool [] .own]) (
       ∃ r2 : List Bool, SC P 103 [.one (.ro (.int .i64) is), .one (.fn 113 [0, 1])] [.box [.ro (.pair (.int .i64) (.pair (.int .i64) (.int .i64))) l], .row (.int .i64) [rack] .var] [.one (.sl 2 none)] [.box [.ro (.pair (.int .i64) (.pair (.int .i64) (.int .i64))) l], .row (.int .i64) [rack] .var, .row .bool r2 .own] ∧
        Ret r lh [.one (.sl 0 none)] [.row .bool r2 .own]))) := by kernel_rfl
theorem c69 (l : List House) (is : List Int) (rack : Int) (hl : l.length ≤ 1048576) (hi : is.length ≤ 1048576) : SC P 69 [.one (.ro (.pair (.int .i64) (.pair (.int .i64) (.int .i64))) l), .one (.ro (.int .i64) is), .one (.int .i64 rack)] [] [.one (.sl 0 none)] [.row .bool (rackF l is rack) .own] := by
  refine SC_of_FB (H := H69) E_ok Try.func69 (by kernel_rfl) ?_
  rw [eq69]
  refine ⟨_, c35 l hl, Br_nb (fun e => ⟨rfl, by rw [rackF, e, Bool.and_false]; rfl⟩) (fun e => ⟨_, c102 is hi, Br_nb (fun e' => ⟨rfl, by rw [rackF, e']; rfl⟩) (fun e' => ⟨_, c103r is l rack hi hl, rfl, ?_⟩)⟩)⟩
  rw [rackF, e, e']
  simp only [houseRackOk, e, cond_true, Bool.and_self]
/-! loop.example/keelson/laws.FnExactPlaceThere -/
def H11 : Hint := ⟨[], [], [], [], [], []⟩
theorem eq11 (aIs : List Int) (aLost : Int) (r : List W) (lh : Heap) : FB E H11 Try.f11 [.one (.ro (.int .i64) aIs), .one (.int .i64 aLost)] [] r lh =
  (
   Br (decide ((1048576 : Int) < ((aIs.length : Nat) : Int))) (
    Ret r lh [.one (.bool true)] []) (
    ∃ r0 : List Int, SC P 49 [.one (.ro (.int .i64) aIs)] [] [.one (.sl 0 none)] [.row (.int .i64) r0 .own] ∧
     ∃ r1 : List Bool, SC P 48 [.one (.ro (.int .i64) r0), .one (.int .i64 aLost)] [] [.one (.sl 0 none)] [.row .bool r1 .own] ∧
      ∃ r2 : List Int, SC P 49 [.one (.ro (.int .i64) aIs)] [] [.one (.sl 0 none)] [.row (.int .i64) r2 .own] ∧
       ∃ r3 : List Bool, SC P 50 [.one (.ro (.int .i64) r2), .one (.int .i64 aLost)] [] [.one (.sl 0 none)] [.row .bool r3 .own] ∧
        ∃ r4 : Bool, SC P 51 [.one (.ro .bool r3), .one (.ro .bool r1)] [] [.one (.bool r4)] [] ∧
         Br (!r4) (
          Ret r lh [.one (.bool false)] []) (
          ∃ r5 : List Int, SC P 49 [.one (.ro (.int .i64) aIs)] [] [.one (.sl 0 none)] [.row (.int .i64) r5 .own] ∧
           ∃ r6 : Bool, SC P 52 [.one (.ro (.int .i64) r2), .one (.ro (.int .i64) r5)] [] [.one (.bool r6)] [] ∧
            Br (!r6) (
             Ret r lh [.one (.bool false)] []) (
             ∃ r7 : List Int × Int, SC P 53 [.one (.sl 0 none), .one (.int .i64 1)] [.row (.int .i64) r2 .own] [.one (.int .i64 r7.2)] [.row (.int .i64) r7.1 .own] ∧
              Br (decide (r7.2 < (0 : Int))) (
               Ret r lh [.one (.bool false)] []) (
               ∃ r8 : Bool, SC P 51 [.one (.ro .bool r3), .one (.ro .bool r1)] [] [.one (.bool r8)] [] ∧
                Br (!r8) (
                 Ret r lh [.one (.bool false)] []) (
                 ∃ r9 : List Bool × Int, SC P 54 [.one (.sl 0 none), .one (.int .i64 1)] [.row .bool r3 .own] [.one (.int .i64 r9.2)] [.row .bool r9.1 .own] ∧
                  ∃ r10 : Int, SC P 55 [.one (.ro .bool r9.1), .one (.int .i64 1)] [] [.one (.int .i64 r10)] [] ∧
                   Br (decide (r10 < (0 : Int))) (
                    Ret r lh [.one (.bool false)] []) (
                    Br (!(decide (r10 = r9.2))) (
                     Ret r lh [.one (.bool false)] []) (
                     ∃ r11 : List Int, SC P 49 [.one (.ro (.int .i64) aIs)] [] [.one (.sl 0 none)] [.row (.int .i64) r11 .own] ∧
                      ∃ r12 : List Bool, SC P 50 [.one (.ro (.int .i64) r11), .one (.int .i64 aLost)] [] [.one (.sl 0 none)] [.row .bool r12 .own] ∧
                       ∃ r13 : Bool, SC P 51 [.one (.ro .bool r12), .one (.ro .bool r1)] [] [.one (.bool r13)] [] ∧
                        Br (!r13) (
                         Ret r lh [.one (.bool false)] []) (
                         ∃ r14 : Int, SC P 55 [.one (.ro .bool r9.1), .one (.int .i64 1)] [] [.one (.int .i64 r14)] [] ∧
                          Br (decide (r14 < (0 : Int))) (
                           Ret r lh [.one (.bool false)] []) (
                           Br (!(decide (r14 = r9.2))) (
                            Ret r lh [.one (.bool false)] []) (
                            Ret r lh [.one (.bool true)] []))))))))))) := by kernel_rfl
theorem c11 (is : List Int) (lost : Int) : SC P 11 [.one (.ro (.int .i64) is), .one (.int .i64 lost)] [] [.one (.bool true)] [] := by
  refine SC_of_FB (H := H11) E_ok Try.func11 (by kernel_rfl) ?_
  rw [eq11]
  refine Br_d (fun _ => ⟨rfl, rfl⟩) (fun h => ?_)
  have hi : is.length ≤ 1048576 := by omega
  have hr := thereF_length (lost := lost) hi
  refine ⟨_, c49 is hi, _, c48 is lost hi, _, c49 is hi, _, c50 is lost hi, _, c51 _ _ hr, Br_nb (fun e => by simp at e) (fun _ => ⟨_, c49 is hi, _, c52 _ _ hi, Br_nb (fun e => by simp at e) (fun _ => 
    ⟨(_, _), c53 is 1 hi (by omega) (by omega), Br_f (by dsimp only; omega) ⟨_, c51 _ _ hr, Br_nb (fun e => by simp at e) (fun _ => ⟨(_, _), c54 (thereF is lost) 1 hr (by omega) (by omega), _, c55 1 _ hr (by omega) (by omega), Br_f (by omega) (Br_nd (fun e => absurd rfl e) (fun _ =>
    ⟨_, c49 is hi, _, c50 is lost hi, _, c51 _ _ hr, Br_nb (fun e => by simp at e) (fun _ => ⟨_, c55 1 _ hr (by omega) (by omega), Br_f (by omega) (Br_nd (fun e => absurd rfl e) (fun _ => ⟨rfl, rfl⟩))⟩)⟩))⟩)⟩⟩)⟩)⟩
/-! loop.example/keelson/laws.FnExactPlaceMoves -/
def H14 : Hint := ⟨[], [], [], [], [], []⟩
theorem eq14 (aIs : List Int) (aTo : List Int) (r : List W) (lh : Heap) : FB E H14 Try.f14 [.one (.ro (.int .i64) aIs), .one (.ro (.int .i64) aTo)] [] r lh =
  (
   Br (decide ((1048576 : Int) < ((aIs.length : Nat) : Int))) (
    Ret r lh [.one (.bool true)] []) (
    Br (decide ((1048576 : Int) < ((aTo.length : Nat) : Int))) (
     Ret r lh [.one (.bool true)] []) (
     ∃ r0 : List Int, SC P 49 [.one (.ro (.int .i64) aIs)] [] [.one (.sl 0 none)] [.row (.int .i64) r0 .own] ∧
      ∃ r1 : List Int, SC P 49 [.one (.ro (.int .i64) aTo)] [] [.one (.sl 0 none)] [.row (.int .i64) r1 .own] ∧
       ∃ r2 : Int, SC P 61 [.one (.ro (.int .i64) r0), .one (.ro (.int .i64) r1)] [] [.one (.int .i64 r2)] [] ∧
        ∃ r3 : List Int, SC P 49 [.one (.ro (.int .i64) aIs)] [] [.one (.sl 0 none)] [.row (.int .i64) r3 .own] ∧
         ∃ r4 : List Int, SC P 49 [.one (.ro (.int .i64) aTo)] [] [.one (.sl 0 none)] [.row (.int .i64) r4 .own] ∧
          ∃ r5 : Int, SC P 62 [.one (.ro (.int .i64) r3), .one (.ro (.int .i64) r4)] [] [.one (.int .i64 r5)] [] ∧
           Br (!(decide (r5 = r2))) (
            Ret r lh [.one (.bool false)] []) (
            ∃ r6 : List Int, SC P 49 [.one (.ro (.int .i64) aIs)] [] [.one (.sl 0 none)] [.row (.int .i64) r6 .own] ∧
             ∃ r7 : Bool, SC P 52 [.one (.ro (.int .i64) r3), .one (.ro (.int .i64) r6)] [] [.one (.bool r7)] [] ∧
              Br (!r7) (
               Ret r lh [.one (.bool false)] []) (
               ∃ r8 : List Int, SC P 49 [.one (.ro (.int .i64) aTo)] [] [.one (.sl 0 none)] [.row (.int .i64) r8 .own] ∧
                ∃ r9 : Bool, SC P 52 [.one (.ro (.int .i64) r4), .one (.ro (.int .i64) r8)] [] [.one (.bool r9)] [] ∧
                 Br (!r9) (
                  Ret r lh [.one (.bool false)] []) (
                  Ret r lh [.one (.bool true)] [])))))) := by kernel_rfl
theorem c14 (is to : List Int) : SC P 14 [.one (.ro (.int .i64) is), .one (.ro (.int .i64) to)] [] [.one (.bool true)] [] := by
  refine SC_of_FB (H := H14) E_ok Try.func14 (by kernel_rfl) ?_
  rw [eq14]
  refine Br_d (fun _ => ⟨rfl, rfl⟩) (fun h => Br_d (fun _ => ⟨rfl, rfl⟩) (fun h' => ?_))
  have hi : is.length ≤ 1048576 := by omega
  have ht : to.length ≤ 1048576 := by omega
  exact ⟨_, c49 is hi, _, c49 to ht, _, c61 is to hi ht, _, c49 is hi, _, c49 to ht, _, c62 is to hi ht, Br_nd (fun e => absurd rfl e) (fun _ => ⟨_, c49 is hi, _, c52 _ _ hi, Br_nb (fun e => by simp at e) (fun _ => ⟨_, c49 to ht, _, c52 _ _ ht, Br_nb (fun e => by simp at e) (fun _ => ⟨rfl, rfl⟩)⟩)⟩)⟩
/-! loop.example/keelson/laws.FnExactPlaceNext -/
def H15 : Hint := ⟨[], [], [], [], [], []⟩
theorem eq15 (aIs : List Int) (aTo : List Int) (r : List W) (lh : Heap) : FB E H15 Try.f15 [.one (.ro (.int .i64) aIs), .one (.ro (.int .i64) aTo)] [] r lh =
  (
   Br (decide ((1048576 : Int) < ((aIs.length : Nat) : Int))) (
    Ret r lh [.one (.bool true)] []) (
    Br (decide ((1048576 : Int) < ((aTo.length : Nat) : Int))) (
     Ret r lh [.one (.bool true)] []) (
     ∃ r0 : List Int, SC P 49 [.one (.ro (.int .i64) aIs)] [] [.one (.sl 0 none)] [.row (.int .i64) r0 .own] ∧
      ∃ r1 : List Int, SC P 49 [.one (.ro (.int .i64) aTo)] [] [.one (.sl 0 none)] [.row (.int .i64) r1 .own] ∧
       ∃ r2 : List Int, SC P 63 [.one (.ro (.int .i64) r0), .one (.ro (.int .i64) r1)] [] [.one (.sl 0 none)] [.row (.int .i64) r2 .own] ∧
        ∃ r3 : List Int, SC P 49 [.one (.ro (.int .i64) aIs)] [] [.one (.sl 0 none)] [.row (.int .i64) r3 .own] ∧
         ∃ r4 : List Int, SC P 49 [.one (.ro (.int .i64) aTo)] [] [.one (.sl 0 none)] [.row (.int .i64) r4 .own] ∧
          ∃ r5 : List Int, SC P 64 [.one (.ro (.int .i64) r3), .one (.ro (.int .i64) r4)] [] [.one (.sl 0 none)] [.row (.int .i64) r5 .own] ∧
           ∃ r6 : Bool, SC P 52 [.one (.ro (.int .i64) r5), .one (.ro (.int .i64) r2)] [] [.one (.bool r6)] [] ∧
            Br (!r6) (
             Ret r lh [.one (.bool false)] []) (
             ∃ r7 : List Int, SC P 49 [.one (.ro (.int .i64) aIs)] [] [.one (.sl 0 none)] [.row (.int .i64) r7 .own] ∧
              ∃ r8 : Bool, SC P 52 [.one (.ro (.int .i64) r3), .one (.ro (.int .i64) r7)] [] [.one (.bool r8)] [] ∧
               Br (!r8) (
                Ret r lh [.one (.bool false)] []) (
                ∃ r9 : List Int, SC P 49 [.one (.ro (.int .i64) aTo)] [] [.one (.sl 0 none)] [.row (.int .i64) r9 .own] ∧
                 ∃ r10 : Bool, SC P 52 [.one (.ro (.int .i64) r4), .one (.ro (.int .i64) r9)] [] [.one (.bool r10)] [] ∧
                  Br (!r10) (
                   Ret r lh [.one (.bool false)] []) (
                   ∃ r11 : List Int × Int, SC P 53 [.one (.sl 0 none), .one (.int .i64 1)] [.row (.int .i64) r3 .own] [.one (.int .i64 r11.2)] [.row (.int .i64) r11.1 .own] ∧
                    ∃ r12 : List Int × Int, SC P 53 [.one (.sl 0 none), .one (.int .i64 r11.2)] [.row (.int .i64) r4 .own] [.one (.int .i64 r12.2)] [.row (.int .i64) r12.1 .own] ∧
                     Br (decide (r12.2 < (0 : Int))) (
                      Ret r lh [.one (.bool false)] []) (
                      ∃ r13 : Bool, SC P 52 [.one (.ro (.int .i64) r5), .one (.ro (.int .i64) r2)] [] [.one (.bool r13)] [] ∧
                       Br (!r13) (
                        Ret r lh [.one (.bool false)] []) (
                        ∃ r14 : List Int × Int, SC P 53 [.one (.sl 0 none), .one (.int .i64 1)] [.row (.int .i64) r5 .own] [.one (.int .i64 r14.2)] [.row (.int .i64) r14.1 .own] ∧
                         ∃ r15 : Int, SC P 65 [.one (.ro (.int .i64) r14.1), .one (.int .i64 1)] [] [.one (.int .i64 r15)] [] ∧
                          Br (decide (r15 < (0 : Int))) (
                           Ret r lh [.one (.bool false)] []) (
                           Br (!(decide (r15 = r14.2))) (
                            Ret r lh [.one (.bool false)] []) (
                            ∃ r16 : List Int, SC P 49 [.one (.ro (.int .i64) aIs)] [] [.one (.sl 0 none)] [.row (.int .i64) r16 .own] ∧
                             ∃ r17 : List Int, SC P 49 [.one (.ro (.int .i64) aTo)] [] [.one (.sl 0 none)] [.row (.int .i64) r17 .own] ∧
                              ∃ r18 : List Int, SC P 64 [.one (.ro (.int .i64) r16), .one (.ro (.int .i64) r17)] [] [.one (.sl 0 none)] [.row (.int .i64) r18 .own] ∧
                               ∃ r19 : Bool, SC P 52 [.one (.ro (.int .i64) r18), .one (.ro (.int .i64) r2)] [] [.one (.bool r19)] [] ∧
                                Br (!r19) (
                                 Ret r lh [.one (.bool false)] []) (
                                 ∃ r20 : Int, SC P 65 [.one (.ro (.int .i64) r14.1), .one (.int .i64 1)] [] [.one (.int .i64 r20)] [] ∧
                                  Br (decide (r20 < (0 : Int))) (
                                   Ret r lh [.one (.bool false)] []) (
                                   Br (!(decide (r20 = r14.2))) (
                                    Ret r lh [.one (.bool false)] []) (
                                    Ret r lh [.one (.bool true)] []))))))))))))) := by kernel_rfl
theorem c15 (is to : List Int) : SC P 15 [.one (.ro (.int .i64) is), .one (.ro (.int .i64) to)] [] [.one (.bool true)] [] := by
  refine SC_of_FB (H := H15) E_ok Try.func15 (by kernel_rfl) ?_
  rw [eq15]
  refine Br_d (fun _ => ⟨rfl, rfl⟩) (fun h => Br_d (fun _ => ⟨rfl, rfl⟩) (fun h' => ?_))
  have hi : is.length ≤ 1048576 := by omega
  have ht : to.length ≤ 1048576 := by omega
  have hr : (nextF is to).length ≤ 1048576 := Nat.le_trans nextF_length (by omega)
  refine ⟨_, c49 is hi, _, c49 to ht, _, c63 is to hi ht, _, c49 is hi, _, c49 to ht, _, c64 is to hi ht, _, c52 _ _ hr, Br_nb (fun e => by simp at e) (fun _ => ⟨_, c49 is hi, _, c52 _ _ hi, Br_nb (fun e => by simp at e) (fun _ => ⟨_, c49 to ht, _, c52 _ _ ht, Br_nb (fun e => by simp at e) (fun _ => 
    ⟨(_, _), c53 is 1 hi (by omega) (by omega), (_, _), c53 to (1 + is.length) ht (by omega) (by omega), Br_f (by dsimp only; omega) ⟨_, c52 _ _ hr, Br_nb (fun e => by simp at e) (fun _ => ⟨(_, _), c53 (nextF is to) 1 hr (by omega) (by omega), _, c65 1 _ hr (by omega) (by omega), Br_f (by omega) (Br_nd (fun e => absurd rfl e) (fun _ =>
    ⟨_, c49 is hi, _, c49 to ht, _, c64 is to hi ht, _, c52 _ _ hr, Br_nb (fun e => by simp at e) (fun _ => ⟨_, c65 1 _ hr (by omega) (by omega), Br_f (by omega) (Br_nd (fun e => absurd rfl e) (fun _ => ⟨rfl, rfl⟩))⟩)⟩))⟩)⟩⟩)⟩)⟩)⟩
/-! loop.example/keelson/laws.FnExactHousesLess -/
def H16 : Hint := ⟨[], [], [], [], [], []⟩
theorem eq16 (aL : List (Int × (Int × Int))) (aId : Int) (r : List W) (lh : Heap) : FB E H16 Try.f16 [.one (.ro (.pair (.int .i64) (.pair (.int .i64) (.int .i64))) aL), .one (.int .i64 aId)] [] r lh =
  (
   ∃ r0 : Int, SC P 37 [.one (.ro (.pair (.int .i64) (.pair (.int .i64) (.int .i64))) aL), .one (.int .i64 1048576)] [] [.one (.int .i64 r0)] [] ∧
    Br (decide (r0 < (0 : Int))) (
     Ret r lh [.one (.bool true)] []) (
     ∃ r1 : List (Int × (Int × Int)), SC P 38 [.one (.ro (.pair (.int .i64) (.pair (.int .i64) (.int .i64))) aL)] [] [.one (.sl 0 none)] [.row (.pair (.int .i64) (.pair (.int .i64) (.int .i64))) r1 .own] ∧
      ∃ r2 : List (Int × (Int × Int)), SC P 60 [.one (.ro (.pair (.int .i64) (.pair (.int .i64) (.int .i64))) r1), .one (.int .i64 aId)] [] [.one (.sl 0 none)] [.row (.pair (.int .i64) (.pair (.int .i64) (.int .i64))) r2 .own] ∧
       ∃ r3 : List (Int × (Int × Int)), SC P 38 [.one (.ro (.pair (.int .i64) (.pair (.int .i64) (.int .i64))) aL)] [] [.one (.sl 0 none)] [.row (.pair (.int .i64) (.pair (.int .i64) (.int .i64))) r3 .own] ∧
        ∃ r4 : List (Int × (Int × Int)), SC P 59 [.one (.ro (.pair (.int .i64) (.pair (.int .i64) (.int .i64))) r3), .one (.int .i64 aId)] [] [.one (.sl 0 none)] [.row (.pair (.int .i64) (.pair (.int .i64) (.int .i64))) r4 .own] ∧
         ∃ r5 : Bool, SC P 39 [.one (.ro (.pair (.int .i64) (.pair (.int .i64) (.int .i64))) r4), .one (.ro (.pair (.int .i64) (.pair (.int .i64) (.int .i64))) r2)] [] [.one (.bool r5)] [] ∧
          Br (!r5) (
           Ret r lh [.one (.bool false)] []) (
           ∃ r6 : List (Int × (Int × Int)), SC P 38 [.one (.ro (.pair (.int .i64) (.pair (.int .i64) (.int .i64))) aL)] [] [.one (.sl 0 none)] [.row (.pair (.int .i64) (.pair (.int .i64) (.int .i64))) r6 .own] ∧
            ∃ r7 : Bool, SC P 39 [.one (.ro (.pair (.int .i64) (.pair (.int .i64) (.int .i64))) r3), .one (.ro (.pair (.int .i64) (.pair (.int .i64) (.int .i64))) r6)] [] [.one (.bool r7)] [] ∧
             Br (!r7) (
              Ret r lh [.one (.bool false)] []) (
              ∃ r8 : List (Int × (Int × Int)) × Int, SC P 66 [.one (.sl 0 none), .one (.int .i64 1)] [.row (.pair (.int .i64) (.pair (.int .i64) (.int .i64))) r3 .own] [.one (.int .i64 r8.2)] [.row (.pair (.int .i64) (.pair (.int .i64) (.int .i64))) r8.1 .own] ∧
               Br (decide (r8.2 < (0 : Int))) (
                Ret r lh [.one (.bool false)] []) (
                ∃ r9 : Bool, SC P 39 [.one (.ro (.pair (.int .i64) (.pair (.int .i64) (.int .i64))) r4), .one (.ro (.pair (.int .i64) (.pair (.int .i64) (.int .i64))) r2)] [] [.one (.bool r9)] [] ∧
                 Br (!r9) (
                  Ret r lh [.one (.bool false)] []) (
                  ∃ r10 : List (Int × (Int × Int)) × Int, SC P 66 [.one (.sl 0 none), .one (.int .i64 1)] [.row (.pair (.int .i64) (.pair (.int .i64) (.int .i64))) r4 .own] [.one (.int .i64 r10.2)] [.row (.pair (.int .i64) (.pair (.int .i64) (.int .i64))) r10.1 .own] ∧
                   ∃ r11 : Int, SC P 67 [.one (.ro (.pair (.int .i64) (.pair (.int .i64) (.int .i64))) r10.1), .one (.int .i64 1)] [] [.one (.int .i64 r11)] [] ∧
                    Br (decide (r11 < (0 : Int))) (
                     Ret r lh [.one (.bool false)] []) (
                     Br (!(decide (r11 = r10.2))) (
                      Ret r lh [.one (.bool false)] []) (
                      ∃ r12 : List (Int × (Int × Int)), SC P 38 [.one (.ro (.pair (.int .i64) (.pair (.int .i64) (.int .i64))) aL)] [] [.one (.sl 0 none)] [.row (.pair (.int .i64) (.pair (.int .i64) (.int .i64))) r12 .own] ∧
                       ∃ r13 : List (Int × (Int × Int)), SC P 59 [.one (.ro (.pair (.int .i64) (.pair (.int .i64) (.int .i64))) r12), .one (.int .i64 aId)] [] [.one (.sl 0 none)] [.row (.pair (.int .i64) (.pair (.int .i64) (.int .i64))) r13 .own] ∧
                        ∃ r14 : Bool, SC P 39 [.one (.ro (.pair (.int .i64) (.pair (.int .i64) (.int .i64))) r13), .one (.ro (.pair (.int .i64) (.pair (.int .i64) (.int .i64))) r2)] [] [.one (.bool r14)] [] ∧
                         Br (!r14) (
                          Ret r lh [.one (.bool false)] []) (
                          ∃ r15 : Int, SC P 67 [.one (.ro (.pair (.int .i64) (.pair (.int .i64) (.int .i64))) r10.1), .one (.int .i64 1)] [] [.one (.int .i64 r15)] [] ∧
                           Br (decide (r15 < (0 : Int))) (
                            Ret r lh [.one (.bool false)] []) (
                            Br (!(decide (r15 = r10.2))) (
                             Ret r lh [.one (.bool false)] []) (
                             Ret r lh [.one (.bool true)] []))))))))))) := by kernel_rfl
theorem c16 (l : List House) (id : Int) (hl : l.length ≤ 9223372036854775807) : SC P 16 [.one (.ro (.pair (.int .i64) (.pair (.int .i64) (.int .i64))) l), .one (.int .i64 id)] [] [.one (.bool true)] [] := by
  refine SC_of_FB (H := H16) E_ok Try.func16 (by kernel_rfl) ?_
  rw [eq16]
  refine ⟨_, c37 l hl, ?_⟩
  by_cases h : l.length ≤ 1048576
  · rw [decide_eq_true h, cond_true]
    have hr := housesLessF_length (id := id) h
    refine Br_f (by omega) ⟨_, c38 l h, _, c60 l id h, _, c38 l h, _, c59 l id h, _, c39 _ _ hr, Br_nb (fun e => by simp at e) (fun _ => ⟨_, c38 l h, _, c39 _ _ h, Br_nb (fun e => by simp at e) (fun _ => 
      ⟨(_, _), c66 l 1 h (by omega) (by omega), Br_f (by dsimp only; omega) ⟨_, c39 _ _ hr, Br_nb (fun e => by simp at e) (fun _ => ⟨(_, _), c66 (housesLessF l id) 1 hr (by omega) (by omega), _, c67 1 _ hr (by omega) (by omega), Br_f (by omega) (Br_nd (fun e => absurd rfl e) (fun _ =>
      ⟨_, c38 l h, _, c59 l id h, _, c39 _ _ hr, Br_nb (fun e => by simp at e) (fun _ => ⟨_, c67 1 _ hr (by omega) (by omega), Br_f (by omega) (Br_nd (fun e => absurd rfl e) (fun _ => ⟨rfl, rfl⟩))⟩)⟩))⟩)⟩⟩)⟩)⟩
  · rw [decide_eq_false h, cond_false]
    exact Br_t (by omega) ⟨rfl, rfl⟩
/-! loop.example/keelson/laws.FnExactPlaceRack -/
def H18 : Hint := ⟨[], [], [], [], [], []⟩
theorem eq18 (aL : List (Int × (Int × Int))) (aIs : List Int) (aRack : Int) (r : List W) (lh : Heap) : FB E H18 Try.f18 [.one (.ro (.pair (.int .i64) (.pair (.int .i64) (.int .i64))) aL), .one (.ro (.int .i64) aIs), .one (.int .i64 aRack)] [] r lh =
  (
   Br (decide ((1048576 : Int) < ((aIs.length : Nat) : Int))) (
    Ret r lh [.one (.bool true)] []) (
    ∃ r0 : Int, SC P 37 [.one (.ro (.pair (.int .i64) (.pair (.int .i64) (.int .i64))) aL), .one (.int .i64 1048576)] [] [.one (.int .i64 r0)] [] ∧
     Br (decide (r0 < (0 : Int))) (
      Ret r lh [.one (.bool true)] []) (
      ∃ r1 : List (Int × (Int × Int)), SC P 38 [.one (.ro (.pair (.int .i64) (.pair (.int .i64) (.int .i64))) aL)] [] [.one (.sl 0 none)] [.row (.pair (.int .i64) (.pair (.int .i64) (.int .i64))) r1 .own] ∧
       ∃ r2 : List Int, SC P 49 [.one (.ro (.int .i64) aIs)] [] [.one (.sl 0 none)] [.row (.int .i64) r2 .own] ∧
        ∃ r3 : List Bool, SC P 71 [.one (.ro (.pair (.int .i64) (.pair (.int .i64) (.int .i64))) r1), .one (.ro (.int .i64) r2), .one (.int .i64 aRack)] [] [.one (.sl 0 none)] [.row .bool r3 .own] ∧
         ∃ r4 : List (Int × (Int × Int)), SC P 38 [.one (.ro (.pair (.int .i64) (.pair (.int .i64) (.int .i64))) aL)] [] [.one (.sl 0 none)] [.row (.pair (.int .i64) (.pair (.int .i64) (.int .i64))) r4 .own] ∧
          ∃ r5 : List Int, SC P 49 [.one (.ro (.int .i64) aIs)] [] [.one (.sl 0 none)] [.row (.int .i64) r5 .own] ∧
           ∃ r6 : List Bool, SC P 69 [.one (.ro (.pair (.int .i64) (.pair (.int .i64) (.int .i64))) r4), .one (.ro (.int .i64) r5), .one (.int .i64 aRack)] [] [.one (.sl 0 none)] [.row .bool r6 .own] ∧
            ∃ r7 : Bool, SC P 51 [.one (.ro .bool r6), .one (.ro .bool r3)] [] [.one (.bool r7)] [] ∧
             Br (!r7) (
              Ret r lh [.one (.bool false)] []) (
              ∃ r8 : List (Int × (Int × Int)), SC P 38 [.one (.ro (.pair (.int .i64) (.pair (.int .i64) (.int .i64))) aL)] [] [.one (.sl 0 none)] [.row (.pair (.int .i64) (.pair (.int .i64) (.int .i64))) r8 .own] ∧
               ∃ r9 : Bool, SC P 39 [.one (.ro (.pair (.int .i64) (.pair (.int .i64) (.int .i64))) r4), .one (.ro (.pair (.int .i64) (.pair (.int .i64) (.int .i64))) r8)] [] [.one (.bool r9)] [] ∧
                Br (!r9) (
                 Ret r lh [.one (.bool false)] []) (
                 ∃ r10 : List Int, SC P 49 [.one (.ro (.int .i64) aIs)] [] [.one (.sl 0 none)] [.row (.int .i64) r10 .own] ∧
                  ∃ r11 : Bool, SC P 52 [.one (.ro (.int .i64) r5), .one (.ro (.int .i64) r10)] [] [.one (.bool r11)] [] ∧
                   Br (!r11) (
                    Ret r lh [.one (.bool false)] []) (
                    ∃ r12 : List (Int × (Int × Int)) × Int, SC P 66 [.one (.sl 0 none), .one (.int .i64 1)] [.row (.pair (.int .i64) (.pair (.int .i64) (.int .i64))) r4 .own] [.one (.int .i64 r12.2)] [.row (.pair (.int .i64) (.pair (.int .i64) (.int .i64))) r12.1 .own] ∧
                     ∃ r13 : List Int × Int, SC P 53 [.one (.sl 0 none), .one (.int .i64 r12.2)] [.row (.int .i64) r5 .own] [.one (.int .i64 r13.2)] [.row (.int .i64) r13.1 .own] ∧
                      Br (decide (r13.2 < (0 : Int))) (
                       Ret r lh [.one (.bool false)] []) (
                       ∃ r14 : Bool, SC P 51 [.one (.ro .bool r6), .one (.ro .bool r3)] [] [.one (.bool r14)] [] ∧
                        Br (!r14) (
                         Ret r lh [.one (.bool false)] []) (
                         ∃ r15 : List Bool × Int, SC P 54 [.one (.sl 0 none), .one (.int .i64 1)] [.row .bool r6 .own] [.one (.int .i64 r15.2)] [.row .bool r15.1 .own] ∧
                          ∃ r16 : Int, SC P 55 [.one (.ro .bool r15.1), .one (.int .i64 1)] [] [.one (.int .i64 r16)] [] ∧
                           Br (decide (r16 < (0 : Int))) (
                            Ret r lh [.one (.bool false)] []) (
                            Br (!(decide (r16 = r15.2))) (
                             Ret r lh [.one (.bool false)] []) (
                             ∃ r17 : List (Int × (Int × Int)), SC P 38 [.one (.ro (.pair (.int .i64) (.pair (.int .i64) (.int .i64))) aL)] [] [.one (.sl 0 none)] [.row (.pair (.int .i64) (.pair (.int .i64) (.int .i64))) r17 .own] ∧
                              ∃ r18 : List Int, SC P 49 [.one (.ro (.int .i64) aIs)] [] [.one (.sl 0 none)] [.row (.int .i64) r18 .own] ∧
                               ∃ r19 : List Bool, SC P 69 [.one (.ro (.pair (.int .i64) (.pair (.int .i64) (.int .i64))) r17), .one (.ro (.int .i64) r18), .one (.int .i64 aRack)] [] [.one (.sl 0 none)] [.row .bool r19 .own] ∧
                                ∃ r20 : Bool, SC P 51 [.one (.ro .bool r19), .one (.ro .bool r3)] [] [.one (.bool r20)] [] ∧
                                 Br (!r20) (
                                  Ret r lh [.one (.bool false)] []) (
                                  ∃ r21 : Int, SC P 55 [.one (.ro .bool r15.1), .one (.int .i64 1)] [] [.one (.int .i64 r21)] [] ∧
                                   Br (decide (r21 < (0 : Int))) (
                                    Ret r lh [.one (.bool false)] []) (
                                    Br (!(decide (r21 = r15.2))) (
                                     Ret r lh [.one (.bool false)] []) (
                                     Ret r lh [.one (.bool true)] []))))))))))))) := by kernel_rfl
theorem c18 (l : List House) (is : List Int) (rack : Int) (hl : l.length ≤ 9223372036854775807) : SC P 18 [.one (.ro (.pair (.int .i64) (.pair (.int .i64) (.int .i64))) l), .one (.ro (.int .i64) is), .one (.int .i64 rack)] [] [.one (.bool true)] [] := by
  refine SC_of_FB (H := H18) E_ok Try.func18 (by kernel_rfl) ?_
  rw [eq18]
  refine Br_d (fun _ => ⟨rfl, rfl⟩) (fun h' => ⟨_, c37 l hl, ?_⟩)
  have hi : is.length ≤ 1048576 := by omega
  have hr := rackF_length (l := l) (rack := rack) hi
  by_cases h : l.length ≤ 1048576
  · rw [decide_eq_true h, cond_true]
    refine Br_f (by omega) ⟨_, c38 l h, _, c49 is hi, _, c71 l is rack h hi, _, c38 l h, _, c49 is hi, _, c69 l is rack h hi, _, c51 _ _ hr, Br_nb (fun e => by simp at e) (fun _ => ⟨_, c38 l h, _, c39 _ _ h, Br_nb (fun e => by simp at e) (fun _ => ⟨_, c49 is hi, _, c52 _ _ hi, Br_nb (fun e => by simp at e) (fun _ => 
      ⟨(_, _), c66 l 1 h (by omega) (by omega), (_, _), c53 is (1 + 3 * (l.length : Int)) hi (by omega) (by omega), Br_f (by dsimp only; omega) ⟨_, c51 _ _ hr, Br_nb (fun e => by simp at e) (fun _ => ⟨(_, _), c54 (rackF l is rack) 1 hr (by omega) (by omega), _, c55 1 _ hr (by omega) (by omega), Br_f (by omega) (Br_nd (fun e => absurd rfl e) (fun _ =>
      ⟨_, c38 l h, _, c49 is hi, _, c69 l is rack h hi, _, c51 _ _ hr, Br_nb (fun e => by simp at e) (fun _ => ⟨_, c55 1 _ hr (by omega) (by omega), Br_f (by omega) (Br_nd (fun e => absurd rfl e) (fun _ => ⟨rfl, rfl⟩))⟩)⟩))⟩)⟩⟩)⟩)⟩)⟩
  · rw [decide_eq_false h, cond_false]
    exact Br_t (by omega) ⟨rfl, rfl⟩
end Go.Proofs.Ytiagcjjobfoflaa.Sh
