/- The reference's way and the program's are the same, whatever the values. No program here. -/
import Derived.Test.YtjoiadaogppmkaaGreatMaKeys
namespace Go.Proofs.YtjoiadaogppmkaaGreat.Sh
set_option linter.unusedVariables false
set_option linter.unusedSimpArgs false

theorem V8.l_inj {a b : V8} (h : a.l = b.l) : a = b := by
  obtain ⟨a0, a1, a2, a3, a4, a5, a6, a7⟩ := a
  obtain ⟨b0, b1, b2, b3, b4, b5, b6, b7⟩ := b
  simp only [V8.l, List.cons.injEq] at h
  obtain ⟨h0, h1, h2, h3, h4, h5, h6, h7, _⟩ := h
  rw [h0, h1, h2, h3, h4, h5, h6, h7]
theorem map_l_inj : ∀ {a b : List V8}, a.map V8.l = b.map V8.l → a = b
  | [], [], _ => rfl
  | [], _ :: _, h => by cases h
  | _ :: _, [], h => by cases h
  | x :: a, y :: b, h => by
    rw [List.map_cons, List.map_cons] at h
    obtain ⟨h1, h2⟩ := List.cons.inj h
    rw [V8.l_inj h1, map_l_inj h2]
structure SpecS (kind : Int) (there : List Bool) : Prop where
  tab : tabQ kind there 0 8 0 [] [] = (flagF there).map fun i => comb8 (rowV kind i) (coefsL kind (flagF there))
  fw : fitsW kind there 0 8 [] = true
  well : wellL [] (rowsL kind (flagF there)) = true
  bears : decide ((tidyL (rowsL kind (flagF there))).length = 4) = bearsI kind (flagF there)
  first : firstL (rowsL kind (flagF there)) = (spanF (rowsF kind (flagF there))).2
  data : bearsI kind (flagF there) = true → (fromI kind (flagF there)).length = 4 ∧ ∀ l : Nat, l < 4 → (byL (rowsL kind (fromI kind (flagF there))) (unitF (l : Int)).l).length = 4 ∧
    spread (byL (rowsL kind (fromI kind (flagF there))) (unitF (l : Int)).l) ((spanF (rowsF kind (flagF there))).2.map Int.toNat) = (coefsL kind (flagF there)).getD l zero8
theorem spec_s {kind : Int} (hk : inB kind 1 2 = true) {there : List Bool} (h8 : there.length = 8) : SpecS kind there := by
  have k := spec_key hk h8
  simp only [chkS, Bool.and_eq_true, decide_eq_true_eq, Bool.or_eq_true, Bool.not_eq_true', decide_eq_false_iff_not, List.all_eq_true, List.mem_range] at k
  obtain ⟨⟨⟨k1, k2⟩, k3, k4⟩, k5, k6⟩ := k
  refine ⟨map_l_inj (by rw [k1, List.map_map]; rfl), k2, k3, by rw [bearsI_eq, k4], k5, fun hb => ?_⟩
  rw [bearsI_eq, decide_eq_true_iff] at hb
  rcases k6 with h | h
  · exact absurd hb h
  · exact ⟨h.1, fun l hl => ⟨(h.2 l hl).1, V8.l_inj (h.2 l hl).2⟩⟩
theorem vals_get {vals p : List Int} {i : Nat} (h : i < p.length) : (valsAt vals p).getD i 0 = vals.getD (p.getD i 0).toNat 0 := by
  rw [getD_eq h, valsAt, List.getD, List.getElem?_map, List.getElem?_eq_getElem h]; rfl
theorem vals_len (vals p : List Int) : (valsAt vals p).length = p.length := List.length_map _
theorem vals_fok {vals : List Int} (hv : ∀ i, FOk (vals.getD i 0)) (p : List Int) (i : Nat) : FOk ((valsAt vals p).getD i 0) := by
  by_cases hi : i < p.length
  · rw [vals_get hi]; exact hv _
  · rw [List.getD, List.getElem?_eq_none (by rw [vals_len]; omega)]; exact fok0
theorem solve_v4 (kind : Int) (vals p : List Int) : solveI kind vals p = (dotW (valsAt vals p) ((coefsL kind p).getD 0 zero8), dotW (valsAt vals p) ((coefsL kind p).getD 1 zero8), dotW (valsAt vals p) ((coefsL kind p).getD 2 zero8), dotW (valsAt vals p) ((coefsL kind p).getD 3 zero8)) := by
  rw [solveI, v4of, solve_get _ _ _ _ (by omega), solve_get _ _ _ _ (by omega), solve_get _ _ _ _ (by omega), solve_get _ _ _ _ (by omega)]
theorem all_tab {kind : Int} {vals p : List Int} (h8 : p.length ≤ 8) : ∀ (n j : Nat), j + n = p.length → allTab (valsAt vals p) ((p.drop j).map fun i => comb8 (rowV kind i) (coefsL kind p)) j = (p.drop j).all fun i => decide (dotF (rowV kind i) (solveI kind vals p) = vals.getD i.toNat 0)
  | 0, j, h => by rw [List.drop_eq_nil_of_le (by omega)]; rfl
  | n + 1, j, h => by
    have hj : j < p.length := by omega
    rw [drop_cons hj, List.map_cons, allTab, List.all_cons, all_tab h8 n (j + 1) (by omega), dotW_comb _ _ _ (by rw [vals_len]; exact h8), ← solve_v4, vals_get hj, getD_eq hj]
theorem same_fits {kind : Int} (hk : inB kind 1 2 = true) {there : List Bool} (h8 : there.length = 8) {vals : List Int} (hv : ∀ i, FOk (vals.getD i 0)) : fitsS kind vals there = fitsI kind vals (flagF there) := by
  have S := spec_s hk h8
  have hp := (flag_ok h8).len
  have h1 := fits_tab (kind := kind) (vals := vals) (there := there) hp (vals_len vals _) (fun i hi => vals_get hi) (vals_fok hv _) 8 0 0 [] [] (by rw [List.drop_zero, flagF, h8]) (Nat.zero_le _) rfl (fun i hi => absurd hi (Nat.not_lt_zero _)) S.fw
  have h2 := all_tab (kind := kind) (vals := vals) hp (flagF there).length 0 (Nat.zero_add _)
  rw [List.drop_zero] at h2
  rw [S.tab, h2] at h1
  exact h1
theorem same_bears {kind : Int} (hk : inB kind 1 2 = true) {there : List Bool} (h8 : there.length = 8) : decide ((tidyL (rowsL kind (flagF there))).length = 4) = bearsI kind (flagF there) := (spec_s hk h8).bears
theorem same_from {kind : Int} (hk : inB kind 1 2 = true) {there : List Bool} (h8 : there.length = 8) : fromS kind there = fromI kind (flagF there) := by
  rw [fromS, (spec_s hk h8).first]; rfl
theorem same_data {kind : Int} (hk : inB kind 1 2 = true) {there : List Bool} (h8 : there.length = 8) (hb : bearsI kind (flagF there) = true) {vals : List Int} : dataS kind vals (fromI kind (flagF there)) = (solveI kind vals (flagF there)).l := by
  obtain ⟨d1, d2⟩ := (spec_s hk h8).data hb
  have hp := (flag_ok h8).len
  have hpl : (spanF (rowsF kind (flagF there))).2.length = 4 := by rw [fromI, List.length_map] at d1; exact d1
  have hpv := span_piv' (rowsF kind (flagF there))
  have hrl : (rowsF kind (flagF there)).length = (flagF there).length := List.length_map _
  have one : ∀ l : Nat, l < 4 → qR (fun k => (byL (rowsL kind (fromI kind (flagF there))) (unitF (l : Int)).l).getD k 0 * vals.getD ((fromI kind (flagF there)).getD k 0).toNat 0) 0 (fromI kind (flagF there)).length 0 = dotW (valsAt vals (flagF there)) ((coefsL kind (flagF there)).getD l zero8) := by
    intro l hl
    obtain ⟨e1, e2⟩ := d2 l hl
    rw [← e2]
    generalize byL (rowsL kind (fromI kind (flagF there))) (unitF (l : Int)).l = b at e1
    have hpiv : ∀ k, k < 4 → ((spanF (rowsF kind (flagF there))).2.map Int.toNat).getD k 8 < (flagF there).length ∧ (fromI kind (flagF there)).getD k 0 = (flagF there).getD (((spanF (rowsF kind (flagF there))).2.map Int.toNat).getD k 8) 0 := by
      intro k hk
      have hk2 : k < (spanF (rowsF kind (flagF there))).2.length := by omega
      have h1 := hpv _ (List.getElem_mem hk2)
      rw [getD_eq (show k < ((spanF (rowsF kind (flagF there))).2.map Int.toNat).length by rw [List.length_map]; exact hk2), List.getElem_map]
      refine ⟨by omega, ?_⟩
      rw [getD_eq (show k < (fromI kind (flagF there)).length by omega)]
      simp [fromI]
    refine fok_eq (qR_ok fok0) (dotW_ok _ _) ?_
    have h2 := qR_m (f := fun k => b.getD k 0 * vals.getD ((fromI kind (flagF there)).getD k 0).toNat 0) (n := (fromI kind (flagF there)).length) (i := 0) (acc := 0)
    rw [Int.zero_add] at h2
    refine h2.trans (M31.symm ((dotW_spread _ b _ (fun i hi => ?_) (by rw [vals_len]; exact hp)).trans ?_))
    · rw [vals_len]; exact (hpiv i (by omega)).1
    · rw [e1, d1]
      refine sumR_m fun i _ hi => ?_
      obtain ⟨g1, g2⟩ := hpiv i (by omega)
      rw [vals_get g1, g2]
      exact rfl
  rw [dataS, solve_v4, ← one 0 (by omega), ← one 1 (by omega), ← one 2 (by omega), ← one 3 (by omega)]
  rfl

end Go.Proofs.YtjoiadaogppmkaaGreat.Sh
