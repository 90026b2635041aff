/- Small steps used in the walks. -/
import Derived.Test.YtlebgbcoljnejaaShSeat
import Derived.Test.YtlebgbcoljnejaaMaHouse
namespace Go.Proofs.Ytlebgbcoljnejaa.Sh
open Go
set_option linter.unusedVariables false

theorem Ck_lt {a b : Nat} {K : Prop} (h : a < b) (k : K) : Ck (Nat.blt a b) K := Ck_b (Nat.ble_eq_true_of_le h) k
theorem Ck_le {a b : Nat} {K : Prop} (h : a ≤ b) (k : K) : Ck (Nat.ble a b) K := Ck_b (Nat.ble_eq_true_of_le h) k
theorem Ck_room {a : Nat} {K : Prop} (h : a ≤ 1099511627776) (k : K) : Ck (Nat.ble a roomy) K := Ck_b (Nat.ble_eq_true_of_le h) k
theorem Ck_roomI {a : Int} {K : Prop} (h : a ≤ 1099511627776) (k : K) : Ck (decide (a ≤ (roomy : Int))) K := Ck_d h k
theorem Ck_n {p : Prop} [Decidable p] {K : Prop} (h : ¬ p) (k : K) : Ck (!decide p) K := by rw [decide_eq_false h]; exact k
theorem wS {i : Nat} (h : i + 1 < 9223372036854775808) : IntKind.wrap .i64 ((i : Int) + 1) = ((i + 1 : Nat) : Int) := by
  rw [wrap64 (by omega) (by omega)]; omega
theorem wP {i : Nat} (h : i + 1 < 9223372036854775808) : IntKind.wrap .i64 (((i + 1 : Nat) : Int) - 1) = (i : Int) := by
  rw [wrap64 (by omega) (by omega)]; omega
theorem Br_t {p : Prop} [Decidable p] {A B : Prop} (h : p) (a : A) : Br (decide p) A B := by rw [decide_eq_true h]; exact a
theorem Br_f {p : Prop} [Decidable p] {A B : Prop} (h : ¬ p) (b : B) : Br (decide p) A B := by rw [decide_eq_false h]; exact b
/-- branch on a negation -/
theorem Br_nb {c : Bool} {A B : Prop} (ha : c = false → A) (hb : c = true → B) : Br (!c) A B := by
  cases c
  · exact ha rfl
  · exact hb rfl
theorem Br_nd {p : Prop} [Decidable p] {A B : Prop} (ha : ¬ p → A) (hb : p → B) : Br (!decide p) A B := by
  by_cases h : p
  · rw [decide_eq_true h]; exact hb h
  · rw [decide_eq_false h]; exact ha h
theorem cond_t {α : Type} {c : Bool} {a b : α} (h : c = true) : (bif c then a else b) = a := by rw [h]; rfl
theorem cond_f {α : Type} {c : Bool} {a b : α} (h : c = false) : (bif c then a else b) = b := by rw [h]; rfl
theorem allR_t {p : Nat → Bool} {i n : Nat} (h : p i = true) : allR p i (n + 1) = allR p (i + 1) n := by rw [allR, h, Bool.true_and]
theorem allR_f {p : Nat → Bool} {i n : Nat} (h : p i = false) : allR p i (n + 1) = false := by rw [allR, h, Bool.false_and]

end Go.Proofs.Ytlebgbcoljnejaa.Sh
