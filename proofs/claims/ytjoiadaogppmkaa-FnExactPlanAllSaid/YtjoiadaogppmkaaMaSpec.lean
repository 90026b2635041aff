/- Rows that are reduced one by another, as the reference does it; all sets of shards compared with the program's way. No program here. -/
import Derived.Test.YtjoiadaogppmkaaMaRead
namespace Go.Proofs.Ytjoiadaogppmkaa.Sh
set_option linter.unusedVariables false
set_option linter.unusedSimpArgs false

def leadL (v : List Int) : Int := findR (fun j => !decide (v.getD j 0 = 0)) (fun j => (j : Int)) (-1) 0 v.length
def sumL (a b : List Int) : List Int := mapR (fun j => (a.getD j 0 + b.getD j 0) % 31) 0 a.length
def scaleL (v : List Int) (c : Int) : List Int := mapR (fun j => v.getD j 0 * c % 31) 0 v.length
def lessL (v w : List Int) : List Int := sumL v (scaleL w ((31 - v.getD (leadL w).toNat 0 * invE (w.getD (leadL w).toNat 0) % 31) % 31))
def insL (v : List Int) (lead : Int) : List (List Int) → Bool → List (List Int)
  | [], put => bif put then [] else [v]
  | t :: ts, put => bif !put && decide (lead < leadL t) then v :: lessL t v :: insL v lead ts true else lessL t v :: insL v lead ts put
def restL (tidy : List (List Int)) (v : List Int) : List Int := tidy.foldl lessL v
def unitL (v : List Int) : List Int := scaleL v (invE (v.getD (leadL v).toNat 0))
def addL (tidy : List (List Int)) (v : List Int) : List (List Int) :=
  bif decide (leadL (restL tidy v) < 0) then tidy else insL (unitL (restL tidy v)) (leadL (restL tidy v)) tidy false
def addOk (tidy : List (List Int)) (v : List Int) : Bool := tidy.all (fun t => decide (0 ≤ leadL t)) && (decide (leadL (restL tidy v) < 0) || decide (0 ≤ leadL (unitL (restL tidy v))))
def tidyL (m : List (List Int)) : List (List Int) := m.foldl addL []
def wellL : List (List Int) → List (List Int) → Bool
  | _, [] => true
  | t, v :: m => addOk t v && wellL (addL t v) m
def hasL (m : List (List Int)) (v : List Int) : Bool := decide ((addL (tidyL m) v).length = (tidyL m).length)
def firstL (m : List (List Int)) : List Int := filterR (fun i => !hasL (m.take i) (m.getD i [])) (fun i => (i : Int)) 0 m.length
def byKL (i lead : Nat) : Nat → Nat → List (List Int) → List (List Int)
  | _, 0, rows => rows
  | k, n + 1, rows => byKL i lead (k + 1) n (bif !decide (k = i) && !decide ((rows.getD k []).getD lead 0 = 0) then rows.set k (lessL (rows.getD k []) (rows.getD i [])) else rows)
def byE (rows : List (List Int)) (rest : List Int) (i : Nat) : List (List Int) × List Int := (rows, lessL rest (rows.getD i []))
def byIL (lead m : Nat) : Nat → Nat → List (List Int) × List Int → List (List Int) × List Int
  | _, 0, s => s
  | i, n + 1, s => bif decide (leadL (s.1.getD i []) = (lead : Int)) then byE (byKL i lead 0 m s.1) s.2 i else byIL lead m (i + 1) n s
def byAL (m : Nat) : Nat → Nat → List (List Int) × List Int → List (List Int) × List Int
  | _, 0, s => s
  | a, n + 1, s => byAL m (a + 1) n (byIL a m 0 m s)
def byStart (m : List (List Int)) (v : List Int) : List (List Int) × List Int := (mapR (fun i => m.getD i [] ++ (List.replicate m.length 0).set i 1) 0 m.length, v ++ List.replicate m.length 0)
def byR (m : List (List Int)) (v : List Int) : List Int := (byAL m.length 0 4 (byStart m v)).2
def byOk (m : List (List Int)) (v : List Int) : Bool := !inB (leadL (byR m v)) 0 3
def byL (m : List (List Int)) (v : List Int) : List Int := bif byOk m v then scaleL ((byR m v).drop 4) 30 else []
def qR (f : Nat → Int) : Nat → Nat → Int → Int
  | _, 0, acc => acc
  | i, n + 1, acc => qR f (i + 1) n ((acc + f i) % 31)
def accQ (b got : List Int) : Int := qR (fun i => b.getD i 0 * got.getD i 0) 0 b.length 0
def fitsQ (kind : Int) (vals : List Int) (there : List Bool) : Nat → Nat → List (List Int) → List Int → Bool
  | _, 0, _, _ => true
  | a, n + 1, rows, got => bif !there.getD a false then fitsQ kind vals there (a + 1) n rows got else
    bif hasL rows (rowV kind (a : Int)).l then (bif decide (accQ (byL rows (rowV kind (a : Int)).l) got = vals.getD a 0) then fitsQ kind vals there (a + 1) n rows got else false)
    else fitsQ kind vals there (a + 1) n (rows ++ [(rowV kind (a : Int)).l]) (got ++ [vals.getD a 0])
def fitsW (kind : Int) (there : List Bool) : Nat → Nat → List (List Int) → Bool
  | _, 0, _ => true
  | a, n + 1, rows => bif !there.getD a false then fitsW kind there (a + 1) n rows else
    wellL [] (rows ++ [(rowV kind (a : Int)).l]) && (decide ((byL rows (rowV kind (a : Int)).l).length ≤ rows.length) &&
    bif hasL rows (rowV kind (a : Int)).l then fitsW kind there (a + 1) n rows else fitsW kind there (a + 1) n (rows ++ [(rowV kind (a : Int)).l]))
def fitsS (kind : Int) (vals : List Int) (there : List Bool) : Bool := fitsQ kind vals there 0 8 [] []
def rowsL (kind : Int) (p : List Int) : List (List Int) := p.map fun i => (rowV kind i).l
def fromS (kind : Int) (there : List Bool) : List Int := (firstL (rowsL kind (flagF there))).map fun i => (flagF there).getD i.toNat 0
def dataS (kind : Int) (vals p : List Int) : List Int := mapR (fun l => qR (fun k => (byL (rowsL kind p) (unitF (l : Int)).l).getD k 0 * vals.getD (p.getD k 0).toNat 0) 0 p.length 0) 0 4

/-! ## Sums, told by places -/
theorem qR_m {f : Nat → Int} : ∀ {n i : Nat} {acc : Int}, M31 (qR f i n acc) (acc + sumR f i n)
  | 0, _, acc => by rw [qR, sumR, Int.add_zero]; exact rfl
  | n + 1, i, acc => by
    rw [qR, sumR]
    refine (qR_m (n := n)).trans ?_
    rw [← Int.add_assoc]
    exact M31.add (M31.mod _) rfl
theorem qR_ok {f : Nat → Int} : ∀ {n i : Nat} {acc : Int}, FOk acc → FOk (qR f i n acc)
  | 0, _, _, h => h
  | n + 1, i, acc, h => qR_ok (n := n) (fok_mod _)
/-- these coefficients, at these places -/
def spread (b : List Int) (ind : List Nat) : V8 := V8.of fun j => sumR (fun i => if ind.getD i 8 = j then b.getD i 0 else 0) 0 b.length % 31
theorem sumR_swap {f : Nat → Nat → Int} {n m k : Nat} : ∀ {i : Nat}, sumR (fun j => sumR (fun q => f j q) k m) i n = sumR (fun q => sumR (fun j => f j q) i n) k m := by
  induction n with
  | zero => intro i; simp only [sumR]; rw [sumR_zero]
  | succ n ih =>
    intro i
    simp only [sumR]
    rw [ih, sumR_add]
theorem spread_get (b : List Int) (ind : List Nat) {j : Nat} (h : j < 8) : (spread b ind).l.getD j 0 = sumR (fun i => if ind.getD i 8 = j then b.getD i 0 else 0) 0 b.length % 31 := of_get _ j h
theorem dotW_spread (w b : List Int) (ind : List Nat) (h : ∀ i, i < b.length → ind.getD i 8 < w.length) (hw : w.length ≤ 8) : M31 (dotW w (spread b ind)) (sumR (fun i => b.getD i 0 * w.getD (ind.getD i 8) 0) 0 b.length) := by
  refine (dotW_m _ _).trans ?_
  have h1 : M31 (sumR (fun j => (spread b ind).l.getD j 0 * w.getD j 0) 0 w.length) (sumR (fun j => sumR (fun i => (if ind.getD i 8 = j then b.getD i 0 else 0) * w.getD j 0) 0 b.length) 0 w.length) := by
    refine sumR_m fun j _ hj => ?_
    rw [spread_get _ _ (by omega), sumR_mul]
    exact M31.mul (M31.mod _) rfl
  refine h1.trans ?_
  rw [sumR_swap]
  refine sumR_m fun i _ hi => ?_
  rw [sumR_one (k := ind.getD i 8) (Nat.zero_le _) (by rw [Nat.zero_add]; exact h i (by omega))]
  · rw [if_pos rfl]; exact rfl
  · intro j _ _ hj
    rw [if_neg (fun e => hj e.symm), Int.zero_mul]
def comb8 (r : V4) (o : List V8) : V8 := V8.of fun i => (r.1 * (o.getD 0 zero8).l.getD i 0 + r.2.1 * (o.getD 1 zero8).l.getD i 0 + r.2.2.1 * (o.getD 2 zero8).l.getD i 0 + r.2.2.2 * (o.getD 3 zero8).l.getD i 0) % 31
theorem sumR_mulL {f : Nat → Int} {c : Int} {n i : Nat} : sumR (fun j => c * f j) i n = c * sumR f i n := by
  rw [Int.mul_comm, ← sumR_mul]
  exact sumR_congr fun j _ _ => Int.mul_comm _ _
theorem dotW_comb (w : List Int) (r : V4) (o : List V8) (hw : w.length ≤ 8) : dotW w (comb8 r o) = dotF r (dotW w (o.getD 0 zero8), dotW w (o.getD 1 zero8), dotW w (o.getD 2 zero8), dotW w (o.getD 3 zero8)) := by
  refine fok_eq (dotW_ok _ _) (fok_mod _) ((dotW_m _ _).trans ?_)
  have h1 : M31 (sumR (fun i => (comb8 r o).l.getD i 0 * w.getD i 0) 0 w.length) (sumR (fun i => r.1 * ((o.getD 0 zero8).l.getD i 0 * w.getD i 0) + r.2.1 * ((o.getD 1 zero8).l.getD i 0 * w.getD i 0) + r.2.2.1 * ((o.getD 2 zero8).l.getD i 0 * w.getD i 0) + r.2.2.2 * ((o.getD 3 zero8).l.getD i 0 * w.getD i 0)) 0 w.length) := by
    refine sumR_m fun j _ hj => ?_
    have e : (comb8 r o).l.getD j 0 = _ := of_get _ j (by omega)
    rw [e]
    refine (M31.mul (M31.mod _) rfl).trans ?_
    rw [Int.add_mul, Int.add_mul, Int.add_mul, Int.mul_assoc, Int.mul_assoc, Int.mul_assoc, Int.mul_assoc]
    exact rfl
  refine h1.trans ?_
  rw [sumR_add, sumR_add, sumR_add, sumR_mulL, sumR_mulL, sumR_mulL, sumR_mulL]
  exact ((dotF_m _ _).trans (M31.add (M31.add (M31.add (M31.mul rfl (dotW_m _ _)) (M31.mul rfl (dotW_m _ _))) (M31.mul rfl (dotW_m _ _))) (M31.mul rfl (dotW_m _ _)))).symm
/-! ## Whether shards fit, as a table of sums -/
def allTab (w : List Int) : List V8 → Nat → Bool
  | [], _ => true
  | t :: ts, j => decide (dotW w t = w.getD j 0) && allTab w ts (j + 1)
def tabQ (kind : Int) (there : List Bool) : Nat → Nat → Nat → List (List Int) → List Nat → List V8
  | _, 0, _, _, _ => []
  | a, n + 1, idx, rows, ind => bif !there.getD a false then tabQ kind there (a + 1) n idx rows ind else
    bif hasL rows (rowV kind (a : Int)).l then spread (byL rows (rowV kind (a : Int)).l) ind :: tabQ kind there (a + 1) n (idx + 1) rows ind
    else unit8 idx :: tabQ kind there (a + 1) n (idx + 1) (rows ++ [(rowV kind (a : Int)).l]) (ind ++ [idx])
theorem getD_snoc {l : List Nat} {i x z : Nat} : (l ++ [x]).getD i z = if i < l.length then l.getD i z else if i = l.length then x else z := by
  rw [List.getD, List.getElem?_append]
  split
  · rename_i h; rw [List.getD]
  · rename_i h
    split
    · rename_i h2; subst h2; simp
    · rename_i h2
      rw [List.getElem?_eq_none (by simp; omega)]; rfl
theorem fits_tab {kind : Int} {vals : List Int} {there : List Bool} {p w : List Int} (hp : p.length ≤ 8) (hw : w.length = p.length) (hwv : ∀ i, i < p.length → w.getD i 0 = vals.getD (p.getD i 0).toNat 0) (hok : ∀ i, FOk (w.getD i 0)) :
    ∀ (n a idx : Nat) (rows : List (List Int)) (ind : List Nat), p.drop idx = filterR (fun j => there.getD j false) (fun j => (j : Int)) a n → idx ≤ p.length → rows.length = ind.length → (∀ i, i < ind.length → ind.getD i 8 < idx) → fitsW kind there a n rows = true →
    fitsQ kind vals there a n rows (ind.map fun q => w.getD q 0) = allTab w (tabQ kind there a n idx rows ind) idx
  | 0, a, idx, rows, ind, hd, hi, hr, hind, hW => rfl
  | n + 1, a, idx, rows, ind, hd, hi, hr, hind, hW => by
    rw [fitsQ, tabQ]
    rw [fitsW] at hW
    rw [filterR] at hd
    cases ht : there.getD a false with
    | false =>
      rw [ht] at hd hW
      rw [Bool.not_false, cond_true, cond_true]
      rw [Bool.not_false, cond_true] at hW
      exact fits_tab hp hw hwv hok n (a + 1) idx rows ind hd hi hr hind hW
    | true =>
      rw [ht] at hd hW
      rw [Bool.not_true, cond_false, cond_false]
      rw [Bool.not_true, cond_false, Bool.and_eq_true, Bool.and_eq_true, decide_eq_true_iff] at hW
      rw [cond_true] at hd
      have hlt : idx < p.length := by
        rcases Nat.lt_or_ge idx p.length with h | h
        · exact h
        · rw [List.drop_eq_nil_of_le h] at hd; cases hd
      have hpa : p.getD idx 0 = (a : Int) := by
        rw [drop_cons hlt] at hd
        rw [getD_eq hlt]
        exact (List.cons.inj hd).1
      have hd2 : p.drop (idx + 1) = filterR (fun j => there.getD j false) (fun j => (j : Int)) (a + 1) n := by
        rw [drop_cons hlt] at hd
        exact (List.cons.inj hd).2
      have hva : w.getD idx 0 = vals.getD a 0 := by rw [hwv idx hlt, hpa, Int.toNat_natCast]
      have hind2 : ∀ i, i < ind.length → ind.getD i 8 < idx + 1 := fun i h => Nat.lt_succ_of_lt (hind i h)
      cases hh : hasL rows (rowV kind (a : Int)).l with
      | true =>
        rw [hh, cond_true] at hW
        rw [cond_true, cond_true, allTab]
        have ih := fits_tab hp hw hwv hok n (a + 1) (idx + 1) rows ind hd2 (by omega) hr hind2 hW.2.2
        have e : dotW w (spread (byL rows (rowV kind (a : Int)).l) ind) = accQ (byL rows (rowV kind (a : Int)).l) (ind.map fun q => w.getD q 0) := by
          have hle := hW.2.1
          rw [hr] at hle
          generalize byL rows (rowV kind (a : Int)).l = b at hle
          refine fok_eq (dotW_ok _ _) (qR_ok fok0) ((dotW_spread w _ ind (fun i h => by have := hind i (by omega); omega) (by omega)).trans ?_)
          have h2 := qR_m (f := fun i => b.getD i 0 * (ind.map fun q => w.getD q 0).getD i 0) (n := b.length) (i := 0) (acc := 0)
          rw [Int.zero_add] at h2
          refine M31.trans ?_ h2.symm
          refine sumR_m fun i _ hi => ?_
          have hi : i < ind.length := by omega
          rw [getD_eq hi, getD_eq (show i < (ind.map fun q => w.getD q 0).length by simpa using hi), List.getElem_map]
          exact rfl
        rw [e, ← hva]
        cases decide (accQ (byL rows (rowV kind (a : Int)).l) (ind.map fun q => w.getD q 0) = w.getD idx 0)
        · rfl
        · rw [cond_true, Bool.true_and]; exact ih
      | false =>
        rw [hh, cond_false] at hW
        rw [cond_false, cond_false, allTab]
        have ih := fits_tab hp hw hwv hok n (a + 1) (idx + 1) (rows ++ [(rowV kind (a : Int)).l]) (ind ++ [idx]) hd2 (by omega) (by simp [hr]) (fun i h => by
          rw [getD_snoc]
          split
          · rename_i h2; exact hind2 i h2
          · rw [if_pos (by simp at h; omega)]; omega) hW.2.2
        rw [dotW_unit hok (by omega) (by omega), decide_eq_true rfl, Bool.true_and, ← ih, List.map_append, List.map_cons, List.map_nil, hva]

/-! ## All sets -/
def fromI (kind : Int) (p : List Int) : List Int := (spanF (rowsF kind p)).2.map fun i => p.getD i.toNat 0
def chkS (kind : Int) (there : List Bool) : Bool :=
  ((decide ((tabQ kind there 0 8 0 [] []).map V8.l = (flagF there).map fun i => (comb8 (rowV kind i) (coefsL kind (flagF there))).l) && fitsW kind there 0 8 []) &&
  (wellL [] (rowsL kind (flagF there)) && decide ((tidyL (rowsL kind (flagF there))).length = (spanV (rowsF kind (flagF there))).length))) &&
  (decide (firstL (rowsL kind (flagF there)) = (spanF (rowsF kind (flagF there))).2) &&
  (!decide ((spanV (rowsF kind (flagF there))).length = 4) || (decide ((fromI kind (flagF there)).length = 4) && (List.range 4).all fun l : Nat => decide ((byL (rowsL kind (fromI kind (flagF there))) (unitF (l : Int)).l).length = 4) &&
    decide ((spread (byL (rowsL kind (fromI kind (flagF there))) (unitF (l : Int)).l) ((spanF (rowsF kind (flagF there))).2.map Int.toNat)).l = ((coefsL kind (flagF there)).getD l zero8).l))))
end Go.Proofs.Ytjoiadaogppmkaa.Sh
