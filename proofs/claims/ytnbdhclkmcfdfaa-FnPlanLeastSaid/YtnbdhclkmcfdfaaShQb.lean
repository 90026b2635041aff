/- Plans: of fewer shards there is none. -/
import Derived.Test.YtnbdhclkmcfdfaaShQa
namespace Go.Proofs.Ytnbdhclkmcfdfaa.Sh
open Go
set_option linter.unusedVariables false
set_option linter.unusedSimpArgs false
theorem filterR_sub {α : Type} {p q : Nat → Bool} {f : Nat → α} : ∀ {n i : Nat}, (∀ j, i ≤ j → j < i + n → p j = true → q j = true) → (filterR p f i n).Sublist (filterR q f i n)
  | 0, _, _ => .slnil
  | n + 1, i, h => by
    have ih := filterR_sub (p := p) (q := q) (f := f) (n := n) (i := i + 1) fun j h1 h2 => h j (by omega) (by omega)
    have hi := h i (Nat.le_refl _) (by omega)
    rw [filterR, filterR]
    cases hp : p i with
    | false =>
      rw [cond_false]
      cases q i
      · exact ih
      · exact ih.cons _
    | true =>
      rw [hi hp, cond_true, cond_true]
      exact ih.cons_cons _
theorem filterR_count {α : Type} {p : Nat → Bool} {f : Nat → α} : ∀ {n i : Nat}, (filterR p f i n).length = countR p i n
  | 0, _ => rfl
  | n + 1, i => by
    rw [filterR, countR]
    cases p i with
    | false => rw [cond_false, cond_false, Nat.zero_add]; exact filterR_count
    | true => rw [cond_true, cond_true, List.length_cons, filterR_count]; omega
theorem flag_count (s : List Bool) : (flagF s).length = s.countP fun b => b := by
  rw [flagF, filterR_count]
  exact countR_countP (l := s) (z := false) (fun b => b)
theorem some_sub {lost : Int} {there s : List Bool} (h8 : there.length = 8) (hs : s.length = 8) (h : ∀ j, j < 8 → s.getD j false = true → there.getD j false = true ∧ ¬ (j : Int) = lost) : (flagF s).Sublist (othersF lost there) := by
  rw [← remF_others h8, flagF, hs, remF]
  refine filterR_sub fun j _ hj e => ?_
  obtain ⟨a, b⟩ := h j (by omega) e
  rw [a, decide_eq_false b]; rfl
theorem set_getB {l : List Bool} {i j : Nat} {x : Bool} (h : i < l.length) : (l.set i x).getD j false = if i = j then x else l.getD j false := by
  by_cases e : i = j
  · subst e; rw [if_pos rfl, List.getD, List.getElem?_set_self h]; rfl
  · rw [if_neg e, List.getD, List.getElem?_set_ne e]; rfl
/-! loop.example/keelson/laws.FnPlanLeast -/
def H13 : Hint := ⟨[[(3, 0, .bool), (4, 0, .bool), (5, 0, .bool), (8, 0, .bool), (10, 0, .bool), (12, 0, .bool)], [(3, 0, .bool), (4, 0, .bool), (5, 0, .bool), (8, 0, .bool), (10, 0, .bool), (12, 0, .bool), (13, 0, .bool), (14, 0, .bool)]], [], [(19, [0, 2, 3, 4, 1, 5, 6, 7, 8, 10, 9, 11, 12])], [], [], [], []⟩
def S13_L0 (kind3 : Int) (lost4 : Int) (there5 : List Bool) (bits12 : Int) (b0_0 : Int) (h1 : List Int) (h2 : List Int) (h3 : List Int) : St := ⟨[(3, .w (.one (.int .i64 kind3))), (4, .w (.one (.int .i64 lost4))), (5, .w (.one (.ro .bool there5))), (8, .w (.one (.ptr 0 0 0))), (10, .w (.one (.sl 3 none))), (12, .w (.one (.int .i64 bits12)))], [.box [.int .i64 b0_0, .sl 1 none, .sl 2 none], .row (.int .i64) h1 .own, .row (.int .i64) h2 .own, .row (.int .i64) h3 .own]⟩
def S13_L1 (kind3 : Int) (lost4 : Int) (there5 : List Bool) (bits12 : Int) (i14 : Int) (b0_0 : Int) (h1 : List Int) (h2 : List Int) (h3 : List Int) (h4 : List Bool) : St := ⟨[(3, .w (.one (.int .i64 kind3))), (4, .w (.one (.int .i64 lost4))), (5, .w (.one (.ro .bool there5))), (8, .w (.one (.ptr 0 0 0))), (10, .w (.one (.sl 3 none))), (12, .w (.one (.int .i64 bits12))), (13, .w (.one (.sl 4 none))), (14, .w (.one (.int .i64 i14)))], [.box [.int .i64 b0_0, .sl 1 none, .sl 2 none], .row (.int .i64) h1 .own, .row (.int .i64) h2 .own, .row (.int .i64) h3 .own, .row .bool h4 .own]⟩
theorem eq13 (code : List Int) (r : List W) (lh : Heap) : FB E H13 Try.f13 [.one (.ro (.int .u8) code)] [] r lh =
  (
   Br (decide ((1048576 : Int) < ((code.length : Nat) : Int))) (
    Ret r lh [.one (.bool true)] []) (
    ∃ r0 : Int × Int × List Bool, SC P 57 [.one (.ro (.int .u8) code)] [] [.one (.int .i64 r0.1), .one (.int .i64 r0.2.1), .one (.ro .bool r0.2.2)] [] ∧
     ∃ r1 : Int × List Int × List Int × Bool, SC P 41 [.one (.int .i64 r0.1), .one (.int .i64 r0.2.1), .one (.ro .bool r0.2.2)] [] [.agg [.int .i64 r1.1, .sl 0 none, .sl 1 none], .one (.bool r1.2.2.2)] [.row (.int .i64) r1.2.1 .own, .row (.int .i64) r1.2.2.1 .own] ∧
      ∃ r2 : Int × List Int × List Int × Bool, SC P 43 [.one (.int .i64 r0.1), .one (.int .i64 r0.2.1), .one (.ro .bool r0.2.2)] [] [.agg [.int .i64 r2.1, .sl 0 none, .sl 1 none], .one (.bool r2.2.2.2)] [.row (.int .i64) r2.2.1 .own, .row (.int .i64) r2.2.2.1 .own] ∧
       Br (r2.2.2.2 != r1.2.2.2) (
        Ret r lh [.one (.bool false)] []) (
        ∃ r3 : Bool, SC P 53 [.agg [.int .i64 r2.1, .ro (.int .i64) r2.2.1, .ro (.int .i64) r2.2.2.1], .agg [.int .i64 r1.1, .ro (.int .i64) r1.2.1, .ro (.int .i64) r1.2.2.1]] [] [.one (.bool r3)] [] ∧
         Br (!r3) (
          Ret r lh [.one (.bool false)] []) (
          Br (!r2.2.2.2) (
           Ret r lh [.one (.bool true)] []) (
           ∃ r4 : List Int × Bool, SC P 40 [.one (.int .i64 r0.1), .one (.int .i64 r0.2.1)] [] [.one (.sl 0 none), .one (.bool r4.2)] [.row (.int .i64) r4.1 .own] ∧
            FL E H13 Try.f13 0 r lh 0 (S13_L0 r0.1 r0.2.1 r0.2.2 0 r2.1 r2.2.1 r2.2.2.1 r4.1)))))) := by kernel_rfl
theorem eq13_L0 (kind3 : Int) (lost4 : Int) (there5 : List Bool) (bits12 : Int) (b0_0 : Int) (h1 : List Int) (h2 : List Int) (h3 : List Int) (r : List W) (lh : Heap) : FL1 E H13 Try.f13 0 r lh 0 (S13_L0 kind3 lost4 there5 bits12 b0_0 h1 h2 h3) =
  (
   Br (decide (bits12 < (256 : Int))) (
    ∃ r0 : List Bool, SC P 60 [.one (.int .i64 bits12)] [] [.one (.sl 0 none)] [.row .bool r0 .own] ∧
     FL E H13 Try.f13 0 r lh 1 (S13_L1 kind3 lost4 there5 bits12 0 b0_0 h1 h2 h3 r0)) (
    Ret r lh [.one (.bool true)] [])) := by kernel_rfl
theorem eq13_L1 (kind3 : Int) (lost4 : Int) (there5 : List Bool) (bits12 : Int) (i14 : Int) (b0_0 : Int) (h1 : List Int) (h2 : List Int) (h3 : List Int) (h4 : List Bool) (r : List W) (lh : Heap) : FL1 E H13 Try.f13 0 r lh 1 (S13_L1 kind3 lost4 there5 bits12 i14 b0_0 h1 h2 h3 h4) =
  (
   Br (decide (i14 < ((h4.length : Nat) : Int))) (
    Ck (decide ((0 : Int) ≤ i14)) (
     Ck (decide (i14 < ((h4.length : Nat) : Int))) (
      Ck (Nat.ble (i14.toNat + 1) h4.length) (
       Br (h4.getD i14.toNat false) (
        Ck (decide ((0 : Int) ≤ i14)) (
         Ck (decide (i14 < ((there5.length : Nat) : Int))) (
          Br (there5.getD i14.toNat false) (
           Ck (decide ((0 : Int) ≤ i14)) (
            Ck (decide (i14 < ((h4.length : Nat) : Int))) (
             Ck (Nat.ble (i14.toNat + 1) h4.length) (
              FL E H13 Try.f13 0 r lh 1 (S13_L1 kind3 lost4 there5 bits12 (IntKind.wrap .i64 (i14 + 1)) b0_0 h1 h2 h3 (h4.set i14.toNat (!(decide (i14 = lost4))))))))) (
           Ck (decide ((0 : Int) ≤ i14)) (
            Ck (decide (i14 < ((h4.length : Nat) : Int))) (
             Ck (Nat.ble (i14.toNat + 1) h4.length) (
              FL E H13 Try.f13 0 r lh 1 (S13_L1 kind3 lost4 there5 bits12 (IntKind.wrap .i64 (i14 + 1)) b0_0 h1 h2 h3 (h4.set i14.toNat false))))))))) (
        Ck (decide ((0 : Int) ≤ i14)) (
         Ck (decide (i14 < ((h4.length : Nat) : Int))) (
          Ck (Nat.ble (i14.toNat + 1) h4.length) (
           FL E H13 Try.f13 0 r lh 1 (S13_L1 kind3 lost4 there5 bits12 (IntKind.wrap .i64 (i14 + 1)) b0_0 h1 h2 h3 (h4.set i14.toNat false)))))))))) (
    ∃ r0 : Int, SC P 61 [.one (.ro .bool h4)] [] [.one (.int .i64 r0)] [] ∧
     Br (decide (r0 < ((h1.length : Nat) : Int))) (
      ∃ r1 : List (List Int), SC P 59 [.one (.int .i64 kind3), .one (.ro .bool h4)] [] [.one (.sl 0 none)] [.row (.sl (.int .i64)) r1 .own] ∧
       ∃ r2 : Bool, SC P 58 [.one (.ro (.sl (.int .i64)) r1), .one (.ro (.int .i64) h3)] [] [.one (.bool r2)] [] ∧
        Br r2 (
         Ret r lh [.one (.bool false)] []) (
         FL E H13 Try.f13 0 r lh 0 (S13_L0 kind3 lost4 there5 (IntKind.wrap .i64 (bits12 + 1)) b0_0 h1 h2 h3))) (
      FL E H13 Try.f13 0 r lh 0 (S13_L0 kind3 lost4 there5 (IntKind.wrap .i64 (bits12 + 1)) b0_0 h1 h2 h3)))) := by kernel_rfl
theorem l13_1 (kind lost : Int) (hk : inB kind 1 2 = true) (h0 : 0 ≤ lost) (h1 : lost ≤ 7) (there : List Bool) (h8 : there.length = 8) (F B : List Int) (m : Nat) (hm : F.length = m) (m4 : m ≤ 4)
    (hsm : ∀ k, 1 ≤ k → k < m → findL (planS kind lost) k (othersF lost there) [] = none) (bits : Nat)
    (hF : FL E H13 Try.f13 0 [.one (.bool true)] [] 0 (S13_L0 kind lost there ((bits + 1 : Nat) : Int) lost F B (codeRow kind lost))) (hb : bits < 256) :
    ∀ (n i : Nat) (s : List Bool), i + n = 8 → s.length = 8 → (∀ j, j < i → s.getD j false = true → there.getD j false = true ∧ ¬ (j : Int) = lost) →
    FL E H13 Try.f13 0 [.one (.bool true)] [] 1 (S13_L1 kind lost there (bits : Int) (i : Int) lost F B (codeRow kind lost) s)
  | 0, i, s, h, hs, hj => by
    have hsub := some_sub (lost := lost) h8 hs (fun j hj' => hj j (by omega))
    have hU := (others_sub h8 hsub).1
    have hUl := (sub_sh hU).2
    have s5 := c59 kind s (by omega)
    have s6 := c58 ((flagF s).map (codeRow kind)) (codeRow kind lost) (by rw [List.length_map]; omega) (fun l hl => by obtain ⟨i, _, rfl⟩ := List.mem_map.1 hl; have := codeRow_le (kind := kind) (i := i); omega) (by have := codeRow_le (kind := kind) (i := lost); omega)
    rw [span_has hk h0 h1 hU] at s6
    have hc := flag_count s
    refine FL_of1 ?_
    rw [eq13_L1, wS (i := bits) (by omega)]
    refine Br_f (by omega) ⟨_, c61 s (by omega), Br_d (fun e => ⟨_, s5, _, s6, ?_⟩) (fun e => hF)⟩
    rw [fewest_least hk h0 h1 h8 (α := Unit) (test := fun _ => none) (fun _ _ _ => trivial) hsm hsub (by omega) m4]
    exact hF
  | n + 1, i, s, h, hs, hj => by
    have next : ∀ x : Bool, (x = true → there.getD i false = true ∧ ¬ (i : Int) = lost) → FL E H13 Try.f13 0 [.one (.bool true)] [] 1 (S13_L1 kind lost there (bits : Int) ((i + 1 : Nat) : Int) lost F B (codeRow kind lost) (s.set i x)) := fun x hx => by
      refine l13_1 kind lost hk h0 h1 there h8 F B m hm m4 hsm bits hF hb n (i + 1) _ (by omega) (by rw [List.length_set]; exact hs) (fun j hj1 hj2 => ?_)
      rw [set_getB (by omega)] at hj2
      by_cases e : i = j
      · subst e; rw [if_pos rfl] at hj2; exact hx hj2
      · rw [if_neg e] at hj2; exact hj j (by omega) hj2
    refine FL_of1 ?_
    rw [eq13_L1, wS (i := i) (by omega)]
    simp only [Int.toNat_natCast]
    refine Br_t (by omega) (Ck_d (by omega) (Ck_d (by omega) (Ck_le (by omega) (Br_b (fun e => Ck_d (by omega) (Ck_d (by omega) (Br_b (fun e2 => Ck_d (by omega) (Ck_d (by omega) (Ck_le (by omega) (next _ (fun e3 => ⟨e2, ?_⟩))))) (fun e2 => Ck_d (by omega) (Ck_d (by omega) (Ck_le (by omega) (next _ (fun e3 => by cases e3)))))))) (fun e => Ck_d (by omega) (Ck_d (by omega) (Ck_le (by omega) (next _ (fun e3 => by cases e3)))))))))
    rw [Bool.not_eq_true', decide_eq_false_iff_not] at e3
    exact e3
set_option maxRecDepth 100000 in
theorem l13_0 (kind lost : Int) (hk : inB kind 1 2 = true) (h0 : 0 ≤ lost) (h1 : lost ≤ 7) (there : List Bool) (h8 : there.length = 8) (F B : List Int) (m : Nat) (hm : F.length = m) (m4 : m ≤ 4)
    (hsm : ∀ k, 1 ≤ k → k < m → findL (planS kind lost) k (othersF lost there) [] = none) : ∀ (n bits : Nat), bits + n = 256 → FL E H13 Try.f13 0 [.one (.bool true)] [] 0 (S13_L0 kind lost there (bits : Int) lost F B (codeRow kind lost))
  | 0, bits, h => by
    refine FL_of1 ?_
    rw [eq13_L0]
    exact Br_f (by omega) ⟨rfl, rfl⟩
  | n + 1, bits, h => by
    have st := c60 (bits : Int) (by omega) (by omega)
    refine FL_of1 ?_
    rw [eq13_L0]
    exact Br_t (by omega) ⟨_, st, l13_1 kind lost hk h0 h1 there h8 F B m hm m4 hsm bits (l13_0 kind lost hk h0 h1 there h8 F B m hm m4 hsm n (bits + 1) (by omega)) (by omega) 8 0 _ rfl (thereB_len _ _) (fun j hj => absurd hj (Nat.not_lt_zero _))⟩
theorem c13 (code : List Int) (hc : Bytes code) : SC P 13 [.one (.ro (.int .u8) code)] [] [.one (.bool true)] [] := by
  refine SC_of_FB (H := H13) E_ok Try.func13 (by kernel_rfl) ?_
  rw [eq13]
  refine Br_d (fun _ => ⟨rfl, rfl⟩) (fun hcl => ?_)
  obtain ⟨k, lost, t, ht, s0⟩ := c57 code hc
  have s1 := c41 k lost t
  have s2 := c43 k lost t (by omega)
  obtain ⟨f4, f8⟩ := planOfF_len (kind := k) (lost := lost) (there := t)
  have s3 := c53 ((planOfF k lost t).1, (planOfF k lost t).2.1, (planOfF k lost t).2.2.1) (by dsimp only; omega) (by dsimp only; omega)
  refine ⟨(k, lost, t), s0, planOfF k lost t, s1, planOfF k lost t, s2, Br_bne rfl ⟨true, s3, Br_nb (fun e => by cases e) (fun _ => Br_nb (fun e => ⟨rfl, rfl⟩) (fun e => ⟨(codeRow k lost, _), c40 k lost, ?_⟩))⟩⟩
  have e : (planOfF k lost t).2.2.2 = true := e
  cases hg : inB k 1 2 && (inB lost 0 7 && decide (t.length = 8)) with
  | false => rw [planOfF, hg] at e; cases e
  | true =>
    have hg' := hg
    rw [Bool.and_eq_true, Bool.and_eq_true, decide_eq_true_iff] at hg'
    obtain ⟨hk, hL, h8⟩ := hg'
    obtain ⟨h0, h1⟩ := inB_iff.1 hL
    have hR : planOfF k lost t = resP lost (fewest (planT k lost) (othersF lost t)) := by rw [planOfF, hg]; rfl
    cases hq : fewest (planT k lost) (othersF lost t) with
    | none => rw [hR, hq] at e; cases e
    | some q =>
      obtain ⟨m, m1, m4, hm, hsm⟩ := fewest_some hq
      obtain ⟨T, t1, t2, t3⟩ := findL_some hm
      rw [List.nil_append] at t2 t3
      have hT : q.1 = T := by
        rw [planT, Option.map_eq_some_iff] at t3
        obtain ⟨b, _, rfl⟩ := t3
        rfl
      rw [hR, hq]
      refine l13_0 k lost hk h0 h1 t h8 q.1 q.2 m (by rw [hT]; exact t2) m4 (fun j a b => ?_) 256 0 rfl
      have := findL_some_congr (planT_some k lost) (many := j) (rem := othersF lost t) (set := [])
      rw [hsm j a b] at this
      cases h : findL (planS k lost) j (othersF lost t) [] with
      | none => rfl
      | some p => rw [h] at this; cases this
end Go.Proofs.Ytnbdhclkmcfdfaa.Sh
