/- Plans of a lost shard: the program's search and the reference's find the same. No program here. -/
import Derived.Test.YtjoiadaogppmkaaMaSpec
namespace Go.Proofs.Ytjoiadaogppmkaa.Sh
set_option linter.unusedVariables false
set_option linter.unusedSimpArgs false

/-! ## Sets, the first ones first -/
def findL {α : Type} (test : List Int → Option α) (many : Nat) : List Int → List Int → Option α
  | [], _ => none
  | x :: rem, set => ((bif decide ((set ++ [x]).length = many) then test (set ++ [x]) else findL test many rem (set ++ [x])).or (findL test many rem set))
def findE {α : Type} (test : List Int → Option α) (many : Nat) (rem set : List Int) : Option α := bif decide (set.length = many) then test set else findL test many rem set
theorem findL_cons {α : Type} {test : List Int → Option α} {many : Nat} {x : Int} {rem set : List Int} : findL test many (x :: rem) set = (findE test many rem (set ++ [x])).or (findL test many rem set) := rfl
theorem findL_congr {α : Type} {t1 t2 : List Int → Option α} {many : Nat} : ∀ {rem set : List Int}, (∀ T : List Int, T.Sublist rem → T ≠ [] → (set ++ T).length = many → t1 (set ++ T) = t2 (set ++ T)) → findL t1 many rem set = findL t2 many rem set
  | [], _, _ => rfl
  | x :: rem, set, h => by
    have h2 := findL_congr (t1 := t1) (t2 := t2) (many := many) (rem := rem) (set := set) fun T hT => h T (hT.cons x)
    rw [findL_cons, findL_cons, h2, findE, findE]
    congr 1
    cases e : decide ((set ++ [x]).length = many) with
    | true => exact h [x] ((List.nil_sublist rem).cons_cons x) (by simp) (of_decide_eq_true e)
    | false =>
      refine findL_congr fun T hT hn hl => ?_
      have := h (x :: T) (hT.cons_cons x) (by simp) (by simpa using hl)
      rw [List.append_assoc]
      exact this
theorem findL_none {α : Type} {test : List Int → Option α} {many : Nat} : ∀ {rem set : List Int}, findL test many rem set = none → set.length < many → ∀ T : List Int, T.Sublist rem → (set ++ T).length = many → test (set ++ T) = none
  | [], set, _, hs, T, hT, hl => by
    rw [List.eq_nil_of_sublist_nil hT] at hl
    rw [List.append_nil] at hl
    omega
  | x :: rem, set, h, hs, T, hT, hl => by
    rw [findL_cons, Option.or_eq_none_iff] at h
    obtain ⟨h1, h2⟩ := h
    cases hT with
    | cons _ hT => exact findL_none h2 hs T hT hl
    | @cons_cons T' _ _ hT =>
      rw [findE] at h1
      rw [show set ++ x :: T' = (set ++ [x]) ++ T' by rw [List.append_assoc]; rfl] at hl ⊢
      cases e : decide ((set ++ [x]).length = many) with
      | true =>
        rw [e] at h1
        have : T' = [] := by
          have := of_decide_eq_true e
          rw [List.length_append] at hl
          exact List.eq_nil_of_length_eq_zero (by omega)
        rw [this, List.append_nil]
        exact h1
      | false =>
        rw [e] at h1
        have := of_decide_eq_false e
        refine findL_none h1 ?_ T' hT hl
        simp only [List.length_append, List.length_singleton] at this hl ⊢
        omega
theorem findL_some {α : Type} {test : List Int → Option α} {many : Nat} {p : α} : ∀ {rem set : List Int}, findL test many rem set = some p → ∃ T : List Int, T.Sublist rem ∧ (set ++ T).length = many ∧ test (set ++ T) = some p
  | [], set, h => by cases h
  | x :: rem, set, h => by
    rw [findL_cons] at h
    cases h1 : findE test many rem (set ++ [x]) with
    | none =>
      rw [h1, Option.none_or] at h
      obtain ⟨T, a, b⟩ := findL_some h
      exact ⟨T, a.cons x, b⟩
    | some q =>
      rw [h1, Option.some_or] at h
      cases h
      rw [findE] at h1
      cases e : decide ((set ++ [x]).length = many) with
      | true => rw [e] at h1; exact ⟨[x], (List.nil_sublist rem).cons_cons x, of_decide_eq_true e, h1⟩
      | false =>
        rw [e] at h1
        obtain ⟨T, a, b, c⟩ := findL_some h1
        rw [List.append_assoc] at b c
        exact ⟨x :: T, a.cons_cons x, b, c⟩
/-- the fewest first -/
def fewest {α : Type} (test : List Int → Option α) (others : List Int) : Option α :=
  (findE test 1 others []).or ((findE test 2 others []).or ((findE test 3 others []).or (findE test 4 others [])))
def findM {α : Type} (test : List Int → Option α) (m : Nat) (others : List Int) : Option α := findL test m others []
theorem findE_nil {α : Type} {test : List Int → Option α} {m : Nat} {others : List Int} (h : 0 < m) : findE test m others [] = findL test m others [] := by
  rw [findE, decide_eq_false (by rw [List.length_nil]; omega)]; rfl
/-- two ways to test that differ only where a smaller set would do -/
theorem fewest_congr {α : Type} {t1 t2 : List Int → Option α} {others : List Int} (h : ∀ S : List Int, S.Sublist others → 1 ≤ S.length → S.length ≤ 4 → t1 S = t2 S ∨ ∃ k, k < S.length ∧ 2 ≤ S.length ∧ t2 (S.eraseIdx k) ≠ none) : fewest t1 others = fewest t2 others := by
  have step : ∀ m, 1 ≤ m → m ≤ 4 → (2 ≤ m → findL t2 (m - 1) others [] = none) → findL t1 m others [] = findL t2 m others [] := by
    intro m h1 h4 hp
    refine findL_congr fun T hT hn hl => ?_
    rw [List.nil_append] at hl ⊢
    rcases h T hT (by omega) (by omega) with e | ⟨k, k1, k2, k3⟩
    · exact e
    · exfalso
      have := findL_none (hp (by omega)) (by rw [List.length_nil]; omega) (T.eraseIdx k) ((List.eraseIdx_sublist T k).trans hT) (by rw [List.nil_append, List.length_eraseIdx_of_lt k1]; omega)
      exact k3 this
  rw [fewest, fewest, findE_nil (by omega), findE_nil (by omega), findE_nil (by omega), findE_nil (by omega), findE_nil (by omega), findE_nil (by omega), findE_nil (by omega), findE_nil (by omega)]
  rw [step 1 (by omega) (by omega) (fun h => by omega)]
  cases h1 : findL t2 1 others [] with
  | some p => rfl
  | none =>
    rw [step 2 (by omega) (by omega) (fun _ => h1)]
    cases h2 : findL t2 2 others [] with
    | some p => rfl
    | none =>
      rw [step 3 (by omega) (by omega) (fun _ => h2)]
      cases h3 : findL t2 3 others [] with
      | some p => rfl
      | none => rw [step 4 (by omega) (by omega) (fun _ => h3)]

/-! ## All subsets -/
def subsR : List Int → List (List Int)
  | [] => [[]]
  | x :: l => subsR l ++ (subsR l).map (x :: ·)
theorem mem_subs : ∀ {l T : List Int}, T.Sublist l → T ∈ subsR l
  | _, _, .slnil => List.mem_singleton_self _
  | _, _, .cons x h => List.mem_append_left _ (mem_subs h)
  | _, _, .cons_cons x h => List.mem_append_right _ (List.mem_map.2 ⟨_, mem_subs h, rfl⟩)

/-! ## What the program and the reference test -/
def byI (kind lost : Int) (set : List Int) : List Int := mapR (fun j => (byK (spanF (rowsF kind set)).1 (rowV kind lost)).1.l.getD j 0) 0 set.length
def planI (kind lost : Int) (set : List Int) : Option (List Int) := bif (byK (spanF (rowsF kind set)).1 (rowV kind lost)).2 && (byI kind lost set).all fun c => decide (1 ≤ c) && decide (c ≤ 30) then some (byI kind lost set) else none
def planS (kind lost : Int) (set : List Int) : Option (List Int) := bif decide ((firstL (rowsL kind set)).length < (rowsL kind set).length) then none else bif byOk (rowsL kind set) (rowV kind lost).l then some (byL (rowsL kind set) (rowV kind lost).l) else none
def chkP (kind lost : Int) (S : List Int) : Bool :=
  has S lost || (decide (4 < S.length) || (decide (S.length = 0) || (wellL [] (rowsL kind S) && (decide ((byL (rowsL kind S) (rowV kind lost).l).length ≤ 8) &&
    (decide (planI kind lost S = planS kind lost S) || (decide (2 ≤ S.length) && (List.range S.length).any fun k => (planS kind lost (S.eraseIdx k)).isSome))))))
def every8L : List Int := [0, 1, 2, 3, 4, 5, 6, 7]
/-- the lost shard's row is made of these -/
def hasI (kind lost : Int) (U : List Int) : Bool := (byK (spanF (rowsF kind U)).1 (rowV kind lost)).2
def chkH (kind lost : Int) (U : List Int) : Bool :=
  has U lost || (((!hasI kind lost U || ((decide (1 ≤ U.length) && decide (U.length ≤ 4) && (planS kind lost U).isSome) || (List.range U.length).any fun k => hasI kind lost (U.eraseIdx k))) &&
    (!(decide (1 ≤ U.length) && decide (U.length ≤ 4) && (planS kind lost U).isSome) || hasI kind lost U)) && (List.range U.length).all fun k => !hasI kind lost (U.eraseIdx k) || hasI kind lost U)
end Go.Proofs.Ytjoiadaogppmkaa.Sh
