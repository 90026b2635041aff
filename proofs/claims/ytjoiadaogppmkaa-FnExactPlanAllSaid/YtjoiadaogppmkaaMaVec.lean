/- Vectors over the field: plain functions and facts. No program here. -/
import Derived.Test.YtjoiadaogppmkaaMaDel
namespace Go.Proofs.Ytjoiadaogppmkaa.Sh
set_option linter.unusedVariables false
set_option linter.unusedSimpArgs false
def patchOk (p : Int × Int) : Bool := inB p.1 0 3 && inB p.2 1 30
abbrev V4 := Int × Int × Int × Int
def FOk (n : Int) : Prop := 0 ≤ n ∧ n ≤ 30
def VOk (v : V4) : Prop := FOk v.1 ∧ FOk v.2.1 ∧ FOk v.2.2.1 ∧ FOk v.2.2.2
def V4.l (v : V4) : List Int := [v.1, v.2.1, v.2.2.1, v.2.2.2]
theorem fok_mod (n : Int) : FOk (n % 31) := ⟨Int.emod_nonneg _ (by omega), by have := Int.emod_lt_of_pos n (show (0 : Int) < 31 by omega); omega⟩
theorem fok_mul {a b : Int} (ha : FOk a) (hb : FOk b) : 0 ≤ a * b ∧ a * b ≤ 900 := by
  have h1 := Int.mul_nonneg ha.1 hb.1
  have h2 := Int.mul_le_mul ha.2 hb.2 hb.1 (by omega)
  omega
def vecOk (l : List Int) : Bool := decide (l.length = 4) && l.all (fun n => inB n 0 30)
theorem vecOk_v {l : List Int} (h : vecOk l = true) : ∃ v : V4, VOk v ∧ l = v.l := by
  rw [vecOk, Bool.and_eq_true, decide_eq_true_iff, List.all_eq_true] at h
  match l, h with
  | [a, b, c, d], ⟨_, h⟩ =>
    refine ⟨(a, b, c, d), ⟨?_, ?_, ?_, ?_⟩, rfl⟩ <;> exact inB_iff.1 (h _ (by simp))
theorem vecOk_l {v : V4} (h : VOk v) : vecOk v.l = true := by
  obtain ⟨h1, h2, h3, h4⟩ := h
  simp only [vecOk, V4.l, List.length_cons, List.length_nil, List.all_cons, List.all_nil]
  rw [inB_iff.2 h1, inB_iff.2 h2, inB_iff.2 h3, inB_iff.2 h4]
  rfl
theorem findR_any {α : Type} (q : α → Bool) (l : List α) (z : α) : decide ((0 : Int) ≤ findR (fun j => q (l.getD j z)) (fun j => (j : Int)) (-1) 0 l.length) = l.any q := by
  rcases findI_spec (p := fun j => q (l.getD j z)) (n := l.length) (i := 0) with ⟨h1, h2⟩ | ⟨j, h1, h2, h3, h4, h5⟩
  · rw [h1]
    symm
    rw [show decide ((0 : Int) ≤ -1) = false from rfl, List.any_eq_false]
    intro a ha
    obtain ⟨i, hi, rfl⟩ := List.getElem_of_mem ha
    have := h2 i (Nat.zero_le _) (by omega)
    rw [getD_eq hi] at this
    simp [this]
  · rw [h3, decide_eq_true (by omega)]
    symm
    rw [List.any_eq_true]
    have hj : j < l.length := by omega
    rw [getD_eq hj] at h4
    exact ⟨_, List.getElem_mem hj, h4⟩
def vecF (l : List Int) : V4 := bif vecOk l then (l.getD 0 0, l.getD 1 0, l.getD 2 0, l.getD 3 0) else (0, 0, 0, 0)
theorem vecF_l {v : V4} (h : VOk v) : vecF v.l = v := by rw [vecF, vecOk_l h]; rfl
def vplus (v u : V4) : V4 := ((v.1 + u.1) % 31, (v.2.1 + u.2.1) % 31, (v.2.2.1 + u.2.2.1) % 31, (v.2.2.2 + u.2.2.2) % 31)
def vtimes (v : V4) (c : Int) : V4 := (v.1 * c % 31, v.2.1 * c % 31, v.2.2.1 * c % 31, v.2.2.2 * c % 31)
theorem vplus_ok (v u : V4) : VOk (vplus v u) := ⟨fok_mod _, fok_mod _, fok_mod _, fok_mod _⟩
theorem vtimes_ok (v : V4) (c : Int) : VOk (vtimes v c) := ⟨fok_mod _, fok_mod _, fok_mod _, fok_mod _⟩
theorem vok_get {v : V4} (h : VOk v) (i : Nat) : FOk (v.l.getD i 0) := by
  obtain ⟨h1, h2, h3, h4⟩ := h
  match i with
  | 0 => exact h1
  | 1 => exact h2
  | 2 => exact h3
  | 3 => exact h4
  | i + 4 => exact ⟨by simp [V4.l], by simp [V4.l]⟩
def vminus (v u : V4) : V4 := vplus v (vtimes u 30)
def dotF (v u : V4) : Int := (v.1 * u.1 + v.2.1 * u.2.1 + v.2.2.1 * u.2.2.1 + v.2.2.2 * u.2.2.2) % 31
def unitF (i : Int) : V4 := (if i = 0 then 1 else 0, if i = 1 then 1 else 0, if i = 2 then 1 else 0, if i = 3 then 1 else 0)
theorem unitF_ok (i : Int) : VOk (unitF i) := by
  refine ⟨?_, ?_, ?_, ?_⟩ <;> simp only [unitF] <;> split <;> exact ⟨by omega, by omega⟩
def powF (x : Int) : V4 := (1, 1 * x % 31, 1 * x % 31 * x % 31, 1 * x % 31 * x % 31 * x % 31)
theorem powF_ok (x : Int) : VOk (powF x) := ⟨⟨by simp [powF], by simp [powF]⟩, fok_mod _, fok_mod _, fok_mod _⟩
/-- the row of a shard -/
def rowV (kind i : Int) : V4 := if kind = 2 then powF (i + 1) else if i < 4 then unitF i else if i = 4 then vplus (unitF 0) (unitF 1) else if i = 5 then vplus (unitF 2) (unitF 3) else powF (i - 4)
theorem rowV_ok (kind i : Int) : VOk (rowV kind i) := by
  unfold rowV
  repeat' split
  all_goals first | exact powF_ok _ | exact unitF_ok _ | exact vplus_ok _ _
/-- all shards of numbers -/
def allF (kind : Int) (d : V4) : List Int := mapR (fun j => dotF (rowV kind (j : Int)) d) 0 8
theorem allF_length (kind : Int) (d : V4) : (allF kind d).length = 8 := rfl

end Go.Proofs.Ytjoiadaogppmkaa.Sh
