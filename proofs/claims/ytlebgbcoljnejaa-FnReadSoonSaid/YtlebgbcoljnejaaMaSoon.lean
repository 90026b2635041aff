/- Shards that come one behind the other: all orders, until they are enough. No program here. -/
import Derived.Test.YtlebgbcoljnejaaMaRead
namespace Go.Proofs.Ytlebgbcoljnejaa.Sh
set_option linter.unusedVariables false
set_option linter.unusedSimpArgs false

/-- the set of some shards -/
def setOf (p : List Int) : List Bool := (List.range 8).map fun i : Nat => p.any fun x => decide (x = (i : Int))
def soonK (kind : Int) : Nat → List V4 → List Int → Bool
  | 0, _, _ => false
  | n + 1, s, p => (List.range 8).all fun a : Nat => (p.any fun x => decide (x = (a : Int))) ||
    (bif decide ((stepV s (rowV kind (a : Int))).length = 4) then rowsOkU (stepV s (rowV kind (a : Int))) && decide ((spanV (rowsF kind (flagF (setOf (p ++ [(a : Int)]))))).length = 4)
     else !decide ((spanV (rowsF kind (flagF (setOf (p ++ [(a : Int)]))))).length = 4) && soonK kind n (stepV s (rowV kind (a : Int))) (p ++ [(a : Int)]))
/-- the first shard being this one -/
def soon1 (kind : Int) (a : Nat) : Bool := !decide ((stepV [] (rowV kind (a : Int))).length = 4) && (!decide ((spanV (rowsF kind (flagF (setOf [(a : Int)])))).length = 4) && soonK kind 5 (stepV [] (rowV kind (a : Int))) [(a : Int)])
set_option maxRecDepth 100000 in
theorem soon_key10 : soon1 1 0 = true := by decide +kernel
set_option maxRecDepth 100000 in
theorem soon_key11 : soon1 1 1 = true := by decide +kernel
set_option maxRecDepth 100000 in
theorem soon_key12 : soon1 1 2 = true := by decide +kernel
set_option maxRecDepth 100000 in
theorem soon_key13 : soon1 1 3 = true := by decide +kernel
set_option maxRecDepth 100000 in
theorem soon_key14 : soon1 1 4 = true := by decide +kernel
set_option maxRecDepth 100000 in
theorem soon_key15 : soon1 1 5 = true := by decide +kernel
set_option maxRecDepth 100000 in
theorem soon_key16 : soon1 1 6 = true := by decide +kernel
set_option maxRecDepth 100000 in
theorem soon_key17 : soon1 1 7 = true := by decide +kernel
set_option maxRecDepth 100000 in
theorem soon_key20 : soon1 2 0 = true := by decide +kernel
set_option maxRecDepth 100000 in
theorem soon_key21 : soon1 2 1 = true := by decide +kernel
set_option maxRecDepth 100000 in
theorem soon_key22 : soon1 2 2 = true := by decide +kernel
set_option maxRecDepth 100000 in
theorem soon_key23 : soon1 2 3 = true := by decide +kernel
set_option maxRecDepth 100000 in
theorem soon_key24 : soon1 2 4 = true := by decide +kernel
set_option maxRecDepth 100000 in
theorem soon_key25 : soon1 2 5 = true := by decide +kernel
set_option maxRecDepth 100000 in
theorem soon_key26 : soon1 2 6 = true := by decide +kernel
set_option maxRecDepth 100000 in
theorem soon_key27 : soon1 2 7 = true := by decide +kernel
theorem soon_all {kind : Int} (h : ∀ a : Nat, a < 8 → soon1 kind a = true) : soonK kind 6 [] [] = true := by
  rw [soonK, List.all_eq_true]
  intro a ha
  have := h a (List.mem_range.1 ha)
  rw [soon1, Bool.and_eq_true, Bool.and_eq_true, Bool.not_eq_true', Bool.not_eq_true'] at this
  rw [this.1, cond_false, List.nil_append, this.2.1, this.2.2]
  simp
theorem soon_key {kind : Int} (hk : inB kind 1 2 = true) : soonK kind 6 [] [] = true := by
  refine soon_all fun a ha => ?_
  have : a = 0 ∨ a = 1 ∨ a = 2 ∨ a = 3 ∨ a = 4 ∨ a = 5 ∨ a = 6 ∨ a = 7 := by omega
  rcases kind_cases hk with rfl | rfl
  · rcases this with rfl | rfl | rfl | rfl | rfl | rfl | rfl | rfl
    · exact soon_key10
    · exact soon_key11
    · exact soon_key12
    · exact soon_key13
    · exact soon_key14
    · exact soon_key15
    · exact soon_key16
    · exact soon_key17
  · rcases this with rfl | rfl | rfl | rfl | rfl | rfl | rfl | rfl
    · exact soon_key20
    · exact soon_key21
    · exact soon_key22
    · exact soon_key23
    · exact soon_key24
    · exact soon_key25
    · exact soon_key26
    · exact soon_key27

theorem spanV_snoc (kind : Int) (p : List Int) (a : Int) : spanV (rowsF kind (p ++ [a])) = stepV (spanV (rowsF kind p)) (rowV kind a) := by
  rw [spanV, rowsF, List.map_append, List.foldl_append]; rfl
theorem soon_next {kind : Int} {n : Nat} {p : List Int} (h : soonK kind n (spanV (rowsF kind p)) p = true) {a : Int} (h0 : 0 ≤ a) (h7 : a ≤ 7) (hn : a ∉ p) : ∃ n', n = n' + 1 ∧
    (bearsI kind (p ++ [a]) = true → setOk kind (p ++ [a]) = true ∧ bearsI kind (flagF (setOf (p ++ [a]))) = true) ∧
    (bearsI kind (p ++ [a]) = false → bearsI kind (flagF (setOf (p ++ [a]))) = false ∧ soonK kind n' (spanV (rowsF kind (p ++ [a]))) (p ++ [a]) = true) := by
  cases n with
  | zero => cases h
  | succ n =>
    refine ⟨n, rfl, ?_⟩
    rw [soonK, List.all_eq_true] at h
    have k := h a.toNat (List.mem_range.2 (by omega))
    rw [show ((a.toNat : Nat) : Int) = a by omega] at k
    have hany : (p.any fun x => decide (x = a)) = false := by
      rw [List.any_eq_false]
      intro x hx e
      have e := of_decide_eq_true e
      exact hn (e ▸ hx)
    rw [hany, Bool.false_or, ← spanV_snoc, ← bearsI_eq, ← bearsI_eq] at k
    constructor
    · intro hb
      rw [hb, cond_true, Bool.and_eq_true] at k
      exact k
    · intro hb
      rw [hb, cond_false, Bool.and_eq_true, Bool.not_eq_true'] at k
      exact k
theorem soon_start {kind : Int} (hk : inB kind 1 2 = true) : soonK kind 6 (spanV (rowsF kind [])) [] = true := soon_key hk

end Go.Proofs.Ytlebgbcoljnejaa.Sh
