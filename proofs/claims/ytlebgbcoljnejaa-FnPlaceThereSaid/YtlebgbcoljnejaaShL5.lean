/- What is read from, and what one lost house leaves: laws. -/
import Derived.Test.YtlebgbcoljnejaaShPl
import Derived.Test.YtlebgbcoljnejaaShL3
namespace Go.Proofs.Ytlebgbcoljnejaa.Sh
open Go
set_option linter.unusedVariables false
set_option linter.unusedSimpArgs false
/-- the law's walk over the shards that are read from -/
def rfB (kind : Int) (there : List Bool) (R : List Int) : Nat → Nat → Nat → List (List Int) → Bool
  | 0, _, k, rows => decide (k = 4) && decide ((bif matOk rows then ((spanF (matF rows)).2.length : Int) else -1) = 4)
  | n + 1, i, k, rows => bif decide (k < R.length) && decide (R.getD k 0 = (i : Int)) then there.getD i false && rfB kind there R n (i + 1) (k + 1) (rows ++ [codeRow kind i])
    else (!there.getD i false || okBy rows (codeRow kind i)) && rfB kind there R n (i + 1) k rows
def rfK (kind : Int) (t : List Bool) : Bool := !codeBears kind t || rfB kind t (readFromF kind t) 8 0 0 []
set_option maxRecDepth 100000 in
theorem rf_key1 : ∀ b : Nat, b < 256 → rfK 1 (thereB 8 b) = true := by decide +kernel
set_option maxRecDepth 100000 in
theorem rf_key2 : ∀ b : Nat, b < 256 → rfK 2 (thereB 8 b) = true := by decide +kernel
theorem rf_key {kind : Int} (hk : inB kind 1 2 = true) {t : List Bool} (h8 : t.length = 8) (hb : codeBears kind t = true) : rfB kind t (readFromF kind t) 8 0 0 [] = true := by
  have : rfK kind t = true := by
    refine all_there (p := fun l => rfK kind l = true) ?_ h8
    rcases kind_cases hk with rfl | rfl
    · exact rf_key1
    · exact rf_key2
  rw [rfK, hb] at this
  exact this
theorem codeRow_len {kind i : Int} : (codeRow kind i).length ≤ 4 := by
  rw [codeRow]
  cases inB kind 1 2 && inB i 0 7
  · exact Nat.zero_le _
  · exact Nat.le_refl _
theorem readFrom_len {kind : Int} {t : List Bool} : (readFromF kind t).length ≤ 8 := by
  rw [readFromF]
  cases h : codeBears kind t
  · exact Nat.zero_le _
  · rw [cond_true, List.length_map]
    have h' := h
    rw [codeBears, Bool.and_eq_true, Bool.and_eq_true, decide_eq_true_iff] at h'
    obtain ⟨s1, s2⟩ := flag_sh h'.2.1
    have h1 := spanF_len (rowsF kind (flagF t))
    have hrl : (rowsF kind (flagF t)).length = (flagF t).length := List.length_map _
    omega
/-! loop.example/keelson/laws.FnReadFrom -/
def H6 : Hint := ⟨[[(3, 0, .bool), (4, 0, .bool), (5, 0, .bool), (6, 0, .bool), (7, 0, .bool), (8, 0, .bool)]], [], [], [], [], [], []⟩
def S6_L0 (kind3 : Int) (there4 : List Bool) (k7 : Int) (x8 : Int) (h0 : List Int) (h1 : List (List Int)) : St := ⟨[(3, .w (.one (.int .i64 kind3))), (4, .w (.one (.ro .bool there4))), (5, .w (.one (.sl 0 none))), (6, .w (.one (.sl 1 none))), (7, .w (.one (.int .i64 k7))), (8, .w (.one (.int .i64 x8)))], [.row (.int .i64) h0 .own, .row (.sl (.int .i64)) h1 .own]⟩
theorem eq6 (code : List Int) (r : List W) (lh : Heap) : FB E H6 Try.f6 [.one (.ro (.int .u8) code)] [] r lh =
  (
   Br (decide ((1048576 : Int) < ((code.length : Nat) : Int))) (
    Ret r lh [.one (.bool true)] []) (
    ∃ r0 : Int × List Bool, SC P 40 [.one (.ro (.int .u8) code)] [] [.one (.int .i64 r0.1), .one (.ro .bool r0.2)] [] ∧
     ∃ r1 : List Int, SC P 25 [.one (.int .i64 r0.1), .one (.ro .bool r0.2)] [] [.one (.sl 0 none)] [.row (.int .i64) r1 .own] ∧
      ∃ r2 : List Int, SC P 23 [.one (.int .i64 r0.1), .one (.ro .bool r0.2)] [] [.one (.sl 0 none)] [.row (.int .i64) r2 .own] ∧
       ∃ r3 : Bool, SC P 33 [.one (.ro (.int .i64) r1), .one (.ro (.int .i64) r2)] [] [.one (.bool r3)] [] ∧
        Br (!r3) (
         ∃ r4 : List Int, SC P 23 [.one (.int .i64 r0.1), .one (.ro .bool r0.2)] [] [.one (.sl 0 none)] [.row (.int .i64) r4 .own] ∧
          ∃ r5 : Bool, SC P 33 [.one (.ro (.int .i64) r1), .one (.ro (.int .i64) r4)] [] [.one (.bool r5)] [] ∧
           Ret r lh [.one (.bool r5)] []) (
         ∃ r6 : Bool, SC P 21 [.one (.int .i64 r0.1), .one (.ro .bool r0.2)] [] [.one (.bool r6)] [] ∧
          Br (!r6) (
           ∃ r7 : List Int, SC P 23 [.one (.int .i64 r0.1), .one (.ro .bool r0.2)] [] [.one (.sl 0 none)] [.row (.int .i64) r7 .own] ∧
            ∃ r8 : Bool, SC P 33 [.one (.ro (.int .i64) r1), .one (.ro (.int .i64) r7)] [] [.one (.bool r8)] [] ∧
             Ret r lh [.one (.bool r8)] []) (
           FL E H6 Try.f6 0 r lh 0 (S6_L0 r0.1 r0.2 0 0 r1 []))))) := by kernel_rfl
theorem eq6_L0 (kind3 : Int) (there4 : List Bool) (k7 : Int) (x8 : Int) (h0 : List Int) (h1 : List (List Int)) (r : List W) (lh : Heap) : FL1 E H6 Try.f6 0 r lh 0 (S6_L0 kind3 there4 k7 x8 h0 h1) =
  (
   Br (decide (x8 < (8 : Int))) (
    ∃ r0 : List Int × Bool, SC P 41 [.one (.int .i64 kind3), .one (.int .i64 x8)] [] [.one (.sl 0 none), .one (.bool r0.2)] [.row (.int .i64) r0.1 .own] ∧
     Br (decide (k7 < ((h0.length : Nat) : Int))) (
      Ck (decide ((0 : Int) ≤ k7)) (
       Ck (decide (k7 < ((h0.length : Nat) : Int))) (
        Ck (Nat.ble (k7.toNat + 1) h0.length) (
         Br (decide ((h0.getD k7.toNat 0) = x8)) (
          Ck (decide ((0 : Int) ≤ x8)) (
           Ck (decide (x8 < ((there4.length : Nat) : Int))) (
            Br (!(there4.getD x8.toNat false)) (
             Ret r lh [.one (.bool false)] []) (
             Ck (Nat.ble ((h1.length + 1) * 24) roomy) (
              FL E H6 Try.f6 0 r lh 0 (S6_L0 kind3 there4 (IntKind.wrap .i64 (k7 + 1)) (IntKind.wrap .i64 (x8 + 1)) h0 (h1 ++ [r0.1]))))))) (
          Ck (decide ((0 : Int) ≤ x8)) (
           Ck (decide (x8 < ((there4.length : Nat) : Int))) (
            Br (there4.getD x8.toNat false) (
             ∃ r1 : Bool, SC P 42 [.one (.ro (.sl (.int .i64)) h1), .one (.ro (.int .i64) r0.1)] [] [.one (.bool r1)] [] ∧
              Br (!r1) (
               Ret r lh [.one (.bool false)] []) (
               FL E H6 Try.f6 0 r lh 0 (S6_L0 kind3 there4 k7 (IntKind.wrap .i64 (x8 + 1)) h0 h1))) (
             FL E H6 Try.f6 0 r lh 0 (S6_L0 kind3 there4 k7 (IntKind.wrap .i64 (x8 + 1)) h0 h1))))))))) (
      Ck (decide ((0 : Int) ≤ x8)) (
       Ck (decide (x8 < ((there4.length : Nat) : Int))) (
        Br (there4.getD x8.toNat false) (
         ∃ r2 : Bool, SC P 42 [.one (.ro (.sl (.int .i64)) h1), .one (.ro (.int .i64) r0.1)] [] [.one (.bool r2)] [] ∧
          Br (!r2) (
           Ret r lh [.one (.bool false)] []) (
           FL E H6 Try.f6 0 r lh 0 (S6_L0 kind3 there4 k7 (IntKind.wrap .i64 (x8 + 1)) h0 h1))) (
         FL E H6 Try.f6 0 r lh 0 (S6_L0 kind3 there4 k7 (IntKind.wrap .i64 (x8 + 1)) h0 h1)))))) (
    Br (decide (k7 = (4 : Int))) (
     ∃ r3 : Int, SC P 43 [.one (.ro (.sl (.int .i64)) h1)] [] [.one (.int .i64 r3)] [] ∧
      Ret r lh [.one (.bool (decide (r3 = (4 : Int))))] []) (
     Ret r lh [.one (.bool false)] []))) := by kernel_rfl
theorem l6 (kind : Int) (there : List Bool) (h8 : there.length = 8) (R : List Int) (hR : R.length ≤ 8) : ∀ (n i k : Nat) (rows : List (List Int)), i + n = 8 → k ≤ i → rows.length ≤ i → (∀ l ∈ rows, l.length ≤ 4) → rfB kind there R n i k rows = true →
    FL E H6 Try.f6 0 [.one (.bool true)] [] 0 (S6_L0 kind there (k : Int) (i : Int) R rows)
  | 0, i, k, rows, h, hk, hr, hl, e => by
    rw [rfB, Bool.and_eq_true, decide_eq_true_iff] at e
    have s := c43 rows (by omega) (fun l hl' => by have := hl l hl'; omega)
    refine FL_of1 ?_
    rw [eq6_L0]
    exact Br_f (by omega) (Br_t (by omega) ⟨_, s, by rw [e.2], rfl⟩)
  | n + 1, i, k, rows, h, hk, hr, hl, e => by
    rw [rfB] at e
    have sR := c41 kind (i : Int)
    have sH := c42 rows (codeRow kind (i : Int)) (by omega) (fun l hl' => by have := hl l hl'; omega) (by have := codeRow_len (kind := kind) (i := i); omega)
    have stay : (decide (k < R.length) && decide (R.getD k 0 = (i : Int))) = false → (there.getD i false = true → okBy rows (codeRow kind (i : Int)) = true) ∧ FL E H6 Try.f6 0 [.one (.bool true)] [] 0 (S6_L0 kind there (k : Int) ((i + 1 : Nat) : Int) R rows) := by
      intro c
      rw [c, cond_false, Bool.and_eq_true, Bool.or_eq_true, Bool.not_eq_true'] at e
      refine ⟨fun ht => ?_, l6 kind there h8 R hR n (i + 1) k rows (by omega) (by omega) (by omega) hl e.2⟩
      rcases e.1 with h' | h'
      · rw [h'] at ht; cases ht
      · exact h'
    refine FL_of1 ?_
    rw [eq6_L0, wS (i := i) (by omega), wS (i := k) (by omega)]
    simp only [Int.toNat_natCast]
    refine Br_t (by omega) ⟨(codeRow kind (i : Int), _), sR, Br_d (fun h1 => ?_) (fun h1 => ?_)⟩
    · refine Ck_d (by omega) (Ck_d (by omega) (Ck_le (by omega) (Br_d (fun h2 => ?_) (fun h2 => ?_))))
      · rw [show (decide (k < R.length) && decide (R.getD k 0 = (i : Int))) = true by rw [decide_eq_true (show k < R.length by omega), decide_eq_true h2]; rfl, cond_true, Bool.and_eq_true] at e
        refine Ck_d (by omega) (Ck_d (by omega) (Br_nb (fun h3 => ?_) (fun h3 => Ck_room (by omega) ?_)))
        · rw [e.1] at h3; cases h3
        · refine l6 kind there h8 R hR n (i + 1) (k + 1) _ (by omega) (by omega) (by simp; omega) (fun l hl' => ?_) e.2
          rcases List.mem_append.1 hl' with g | g
          · exact hl l g
          · rw [List.mem_singleton] at g; subst g; exact codeRow_len
      · obtain ⟨q1, q2⟩ := stay (by rw [decide_eq_false h2, Bool.and_false])
        refine Ck_d (by omega) (Ck_d (by omega) (Br_b (fun h3 => ⟨_, sH, Br_nb (fun h4 => ?_) (fun h4 => q2)⟩) (fun h3 => q2)))
        rw [q1 h3] at h4; cases h4
    · obtain ⟨q1, q2⟩ := stay (by rw [decide_eq_false (show ¬ k < R.length by omega), Bool.false_and])
      refine Ck_d (by omega) (Ck_d (by omega) (Br_b (fun h3 => ⟨_, sH, Br_nb (fun h4 => ?_) (fun h4 => q2)⟩) (fun h3 => q2)))
      rw [q1 h3] at h4; cases h4
theorem c6 (code : List Int) (hc : Bytes code) : SC P 6 [.one (.ro (.int .u8) code)] [] [.one (.bool true)] [] := by
  refine SC_of_FB (H := H6) E_ok Try.func6 (by kernel_rfl) ?_
  rw [eq6]
  refine Br_d (fun _ => ⟨rfl, rfl⟩) (fun hcl => ?_)
  obtain ⟨kind, there, ht, s0⟩ := c40 code hc
  have hrl := readFrom_len (kind := kind) (t := there)
  have s1 := c25 kind there (by omega)
  have s2 := c23 kind there
  have sE := c33 (readFromF kind there) (readFromF kind there) (by omega)
  rw [decide_eq_true rfl] at sE
  refine ⟨(kind, there), s0, _, s1, _, s2, _, sE, Br_nb (fun e => by cases e) (fun _ => ⟨_, c21 kind there (by omega), Br_nb (fun e => ⟨_, s2, _, sE, rfl, rfl⟩) (fun e => ?_)⟩)⟩
  have e : codeBears kind there = true := e
  have e' := e
  rw [codeBears, Bool.and_eq_true, Bool.and_eq_true, decide_eq_true_iff] at e'
  exact l6 kind there e'.2.1 _ hrl 8 0 0 [] rfl (Nat.le_refl _) (Nat.le_refl _) (fun l h => by cases h) (rf_key e'.1 e'.2.1 e)
/-! loop.example/keelson/spec.DrawPlaceThere -/
def H17 : Hint := ⟨[], [], [], [], [], [], []⟩
theorem eq17 (code : List Int) (r : List W) (lh : Heap) : FB E H17 Try.f17 [.one (.ro (.int .u8) code)] [] r lh =
  (
   ∃ r0 : (List Int × Int), SC P 58 [.one (.ro (.int .u8) code)] [] [.one (.ptr 0 0 0)] [.box [.ro (.int .u8) r0.1, .int .i64 r0.2]] ∧
    ∃ r1 : List Int × Int × List Int × List Int, SC P 59 [.one (.ptr 0 0 0)] [.box [.ro (.int .u8) r0.1, .int .i64 r0.2]] [.one (.sl 1 none), .one (.sl 2 none)] [.box [.ro (.int .u8) r1.1, .int .i64 r1.2.1], .row (.int .i64) r1.2.2.1 .own, .row (.int .i64) r1.2.2.2 .own] ∧
     ∃ r2 : List Int × Int × Int, SC P 60 [.one (.ptr 0 0 0), .one (.int .i64 14)] [.box [.ro (.int .u8) r1.1, .int .i64 r1.2.1]] [.one (.int .i64 r2.2.2)] [.box [.ro (.int .u8) r2.1, .int .i64 r2.2.1]] ∧
      Ret r lh [.one (.sl 0 none), .one (.int .i64 r2.2.2)] [.row (.int .i64) r1.2.2.1 .own]) := by kernel_rfl
theorem c17 (code : List Int) (hc : Bytes code) : ∃ (a : List Int) (v : Int), a.length ≤ 8 ∧ SC P 17 [.one (.ro (.int .u8) code)] [] [.one (.sl 0 none), .one (.int .i64 v)] [.row (.int .i64) a .own] := by
  obtain ⟨b, hb, s0⟩ := c58 code hc
  obtain ⟨a, c, p, h, ⟨p0, p1⟩, s1⟩ := c59 b 0 hb (by omega) (by omega)
  obtain ⟨v, _, _, s2⟩ := c60 b p 14 hb p0 (by omega) (by omega)
  refine ⟨a, v, h.1, ?_⟩
  refine SC_of_FB (H := H17) E_ok Try.func17 (by kernel_rfl) ?_
  rw [eq17]
  exact ⟨(b, 0), s0, (b, p, a, c), s1, (b, p + 1, v), s2, rfl, rfl⟩
theorem thereF_get {is : List Int} {lost : Int} (hi : placeOk is = true) {i : Nat} (h : i < is.length) : (thereF is lost).getD i false = !decide (is.getD i 0 = lost) := by
  rw [thereF, hi, cond_true, List.getD, List.getElem?_map, List.getElem?_eq_getElem h, getD_eq h]; rfl
theorem thereF_len {is : List Int} {lost : Int} (hi : placeOk is = true) : (thereF is lost).length = 8 := by
  rw [thereF, hi, cond_true, List.length_map, (placeOk_iff.1 hi).2.2]
/-- one house is lost, one shard at most goes -/
theorem thereF_full {is : List Int} {lost : Int} (hi : placeOk is = true) : thereF is lost = full8 ∨ ∃ k, k < 8 ∧ thereF is lost = full8.set k false := by
  obtain ⟨h1, h2, h3⟩ := placeOk_iff.1 hi
  have hl := thereF_len (lost := lost) hi
  have hf : ∀ j, j < 8 → full8.getD j false = true := by decide
  have ext : ∀ l : List Bool, l.length = 8 → (∀ j, j < 8 → (thereF is lost).getD j false = l.getD j false) → thereF is lost = l := by
    intro l hll h
    refine List.ext_getElem (by omega) fun j hj1 hj2 => ?_
    have := h j (by omega)
    rw [getD_eq hj1, getD_eq hj2] at this
    exact this
  by_cases hm : lost ∈ is
  · obtain ⟨k, hk, ek⟩ := List.getElem_of_mem hm
    refine .inr ⟨k, by omega, ext _ (by rw [List.length_set]; rfl) fun j hj => ?_⟩
    rw [thereF_get hi (by omega), setB_get (show k < full8.length from (show k < 8 by omega)), getD_eq (show j < is.length by omega)]
    by_cases e : k = j
    · subst e; rw [if_pos rfl, decide_eq_true ek]; rfl
    · rw [if_neg e, hf j hj, decide_eq_false]; rfl
      intro e2
      exact e ((List.getElem_inj h2).1 (ek.trans e2.symm))
  · refine .inl (ext _ rfl fun j hj => ?_)
    rw [thereF_get hi (by omega), hf j hj, decide_eq_false]; rfl
    intro e
    rw [getD_eq (show j < is.length by omega)] at e
    exact hm (e ▸ List.getElem_mem _)
theorem full_many : full8.countP (fun b => b) = 8 ∧ ∀ k : Nat, k < 8 → (full8.set k false).countP (fun b => b) = 7 := by decide +kernel
theorem thereF_bears {is : List Int} {lost : Int} (hi : placeOk is = true) : codeBears 1 (thereF is lost) = true ∧ codeBears 2 (thereF is lost) = true ∧ 7 ≤ (thereF is lost).countP (fun b => b) := by
  have h8 := thereF_len (lost := lost) hi
  have b1 := full_bears (kind := 1) rfl
  have b2 := full_bears (kind := 2) rfl
  rw [codeBears, codeBears, decide_eq_true h8]
  rcases thereF_full (lost := lost) hi with h | ⟨k, hk, h⟩
  · rw [h, full_many.1, b1.1, b2.1]; decide
  · rw [h, full_many.2 k hk, b1.2 k hk, b2.2 k hk]; decide
/-! loop.example/keelson/laws.FnPlaceThere -/
def H3 : Hint := ⟨[[(3, 0, .bool), (4, 0, .bool), (5, 0, .bool), (6, 0, .bool)]], [], [(10, [0, 1, 2, 3, 4, 5, 6, 7, 8, 9, 10])], [], [], [], []⟩
def S3_L0 (lost4 : Int) (i6 : Int) (h0 : List Int) (h1 : List Bool) : St := ⟨[(3, .w (.one (.sl 0 none))), (4, .w (.one (.int .i64 lost4))), (5, .w (.one (.sl 1 none))), (6, .w (.one (.int .i64 i6)))], [.row (.int .i64) h0 .own, .row .bool h1 .own]⟩
theorem eq3 (code : List Int) (r : List W) (lh : Heap) : FB E H3 Try.f3 [.one (.ro (.int .u8) code)] [] r lh =
  (
   Br (decide ((1048576 : Int) < ((code.length : Nat) : Int))) (
    Ret r lh [.one (.bool true)] []) (
    ∃ r0 : List Int × Int, SC P 17 [.one (.ro (.int .u8) code)] [] [.one (.sl 0 none), .one (.int .i64 r0.2)] [.row (.int .i64) r0.1 .own] ∧
     ∃ r1 : List Bool, SC P 18 [.one (.ro (.int .i64) r0.1), .one (.int .i64 r0.2)] [] [.one (.sl 0 none)] [.row .bool r1 .own] ∧
      ∃ r2 : List Bool, SC P 20 [.one (.ro (.int .i64) r0.1), .one (.int .i64 r0.2)] [] [.one (.sl 0 none)] [.row .bool r2 .own] ∧
       ∃ r3 : Bool, SC P 19 [.one (.ro .bool r1), .one (.ro .bool r2)] [] [.one (.bool r3)] [] ∧
        Br (!r3) (
         ∃ r4 : List Bool, SC P 20 [.one (.ro (.int .i64) r0.1), .one (.int .i64 r0.2)] [] [.one (.sl 0 none)] [.row .bool r4 .own] ∧
          ∃ r5 : Bool, SC P 19 [.one (.ro .bool r1), .one (.ro .bool r4)] [] [.one (.bool r5)] [] ∧
           Ret r lh [.one (.bool r5)] []) (
         Br (decide (((r1.length : Nat) : Int) = (0 : Int))) (
          ∃ r6 : List Bool, SC P 20 [.one (.ro (.int .i64) r0.1), .one (.int .i64 r0.2)] [] [.one (.sl 0 none)] [.row .bool r6 .own] ∧
           ∃ r7 : Bool, SC P 19 [.one (.ro .bool r1), .one (.ro .bool r6)] [] [.one (.bool r7)] [] ∧
            Ret r lh [.one (.bool r7)] []) (
          FL E H3 Try.f3 0 r lh 0 (S3_L0 r0.2 0 r0.1 r1))))) := by kernel_rfl
theorem eq3_L0 (lost4 : Int) (i6 : Int) (h0 : List Int) (h1 : List Bool) (r : List W) (lh : Heap) : FL1 E H3 Try.f3 0 r lh 0 (S3_L0 lost4 i6 h0 h1) =
  (
   Br (decide (i6 < ((h0.length : Nat) : Int))) (
    Ck (decide ((0 : Int) ≤ i6)) (
     Ck (decide (i6 < ((h1.length : Nat) : Int))) (
      Ck (Nat.ble (i6.toNat + 1) h1.length) (
       Ck (decide ((0 : Int) ≤ i6)) (
        Ck (decide (i6 < ((h0.length : Nat) : Int))) (
         Ck (Nat.ble (i6.toNat + 1) h0.length) (
          Br ((h1.getD i6.toNat false) == (decide ((h0.getD i6.toNat 0) = lost4))) (
           Ret r lh [.one (.bool false)] []) (
           FL E H3 Try.f3 0 r lh 0 (S3_L0 lost4 (IntKind.wrap .i64 (i6 + 1)) h0 h1))))))))) (
    ∃ r0 : Bool, SC P 21 [.one (.int .i64 1), .one (.ro .bool h1)] [] [.one (.bool r0)] [] ∧
     Br r0 (
      ∃ r1 : Bool, SC P 21 [.one (.int .i64 2), .one (.ro .bool h1)] [] [.one (.bool r1)] [] ∧
       Br r1 (
        ∃ r2 : Int, SC P 22 [.one (.ro .bool h1)] [] [.one (.int .i64 r2)] [] ∧
         Ret r lh [.one (.bool (decide ((7 : Int) ≤ r2)))] []) (
        Ret r lh [.one (.bool false)] [])) (
      Ret r lh [.one (.bool false)] []))) := by kernel_rfl
theorem l3 (is : List Int) (lost : Int) (hi : placeOk is = true) : ∀ (n i : Nat), i + n = 8 → FL E H3 Try.f3 0 [.one (.bool true)] [] 0 (S3_L0 lost (i : Int) is (thereF is lost))
  | 0, i, h => by
    have h8 := thereF_len (lost := lost) hi
    have hl := (placeOk_iff.1 hi).2.2
    obtain ⟨b1, b2, b3⟩ := thereF_bears (lost := lost) hi
    have s1 := c21 1 (thereF is lost) (by omega)
    have s2 := c21 2 (thereF is lost) (by omega)
    rw [b1] at s1
    rw [b2] at s2
    refine FL_of1 ?_
    rw [eq3_L0]
    refine Br_f (by omega) ⟨_, s1, Br_b (fun _ => ⟨_, s2, Br_b (fun _ => ⟨_, c22 _ (by omega), ?_, rfl⟩) (fun e => by cases e)⟩) (fun e => by cases e)⟩
    rw [decide_eq_true (by omega)]
  | n + 1, i, h => by
    have h8 := thereF_len (lost := lost) hi
    have hl := (placeOk_iff.1 hi).2.2
    have hg := thereF_get (lost := lost) hi (show i < is.length by omega)
    refine FL_of1 ?_
    rw [eq3_L0, wS (i := i) (by omega)]
    simp only [Int.toNat_natCast]
    refine Br_t (by omega) (Ck_d (by omega) (Ck_d (by omega) (Ck_le (by omega) (Ck_d (by omega) (Ck_d (by omega) (Ck_le (by omega) (Br_b (fun e => ?_) (fun e => l3 is lost hi n (i + 1) (by omega)))))))))
    rw [hg] at e
    cases hd : decide (is.getD i 0 = lost) <;> rw [hd] at e <;> cases e
theorem c3 (code : List Int) (hc : Bytes code) : SC P 3 [.one (.ro (.int .u8) code)] [] [.one (.bool true)] [] := by
  refine SC_of_FB (H := H3) E_ok Try.func3 (by kernel_rfl) ?_
  rw [eq3]
  refine Br_d (fun _ => ⟨rfl, rfl⟩) (fun hcl => ?_)
  obtain ⟨is, lost, hl, s0⟩ := c17 code hc
  have s1 := c18 is lost (by omega)
  have s2 := c20 is lost (by omega)
  have hr := thereF_length (is := is) (lost := lost) (by omega)
  have sE := c19 (thereF is lost) (thereF is lost) hr
  rw [decide_eq_true rfl] at sE
  refine ⟨(is, lost), s0, _, s1, _, s2, _, sE, Br_nb (fun e => by cases e) (fun _ => Br_d (fun e => ⟨_, s2, _, sE, rfl, rfl⟩) (fun e => ?_))⟩
  have hi : placeOk is = true := by
    cases h : placeOk is with
    | true => rfl
    | false => rw [thereF, h] at e; exact absurd rfl e
  exact l3 is lost hi 8 0 rfl
end Go.Proofs.Ytlebgbcoljnejaa.Sh
