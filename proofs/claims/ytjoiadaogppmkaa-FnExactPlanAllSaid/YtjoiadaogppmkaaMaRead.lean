/- Numbers that shards tell: the values go through linearly, so that finitely many sets of shards decide. No program here. -/
import Derived.Test.YtjoiadaogppmkaaMaSpan
namespace Go.Proofs.Ytjoiadaogppmkaa.Sh
set_option linter.unusedVariables false
set_option linter.unusedSimpArgs false

/-! ## Round 31 -/
def M31 (a b : Int) : Prop := a % 31 = b % 31
theorem M31.rfl' {a : Int} : M31 a a := rfl
theorem M31.add {a b c d : Int} (h : M31 a b) (k : M31 c d) : M31 (a + c) (b + d) := by
  unfold M31 at *; rw [Int.add_emod, h, k, ← Int.add_emod]
theorem M31.sub {a b c d : Int} (h : M31 a b) (k : M31 c d) : M31 (a - c) (b - d) := by
  unfold M31 at *; rw [Int.sub_emod, h, k, ← Int.sub_emod]
theorem M31.mul {a b c d : Int} (h : M31 a b) (k : M31 c d) : M31 (a * c) (b * d) := by
  unfold M31 at *; rw [Int.mul_emod, h, k, ← Int.mul_emod]
theorem M31.mod (a : Int) : M31 (a % 31) a := Int.emod_emod_of_dvd a (Int.dvd_refl 31)
theorem M31.trans {a b c : Int} (h : M31 a b) (k : M31 b c) : M31 a c := Eq.trans h k
theorem M31.symm {a b : Int} (h : M31 a b) : M31 b a := Eq.symm h
theorem fok_eq {a b : Int} (ha : FOk a) (hb : FOk b) (h : M31 a b) : a = b := by
  unfold M31 at h
  rw [Int.emod_eq_of_lt ha.1 (by have := ha.2; omega), Int.emod_eq_of_lt hb.1 (by have := hb.2; omega)] at h
  exact h
theorem fok_emod {a : Int} (h : FOk a) : a % 31 = a := Int.emod_eq_of_lt h.1 (by have := h.2; omega)
def sumR (f : Nat → Int) : Nat → Nat → Int
  | _, 0 => 0
  | i, n + 1 => f i + sumR f (i + 1) n
theorem sumR_m {f g : Nat → Int} : ∀ {n i : Nat}, (∀ j, i ≤ j → j < i + n → M31 (f j) (g j)) → M31 (sumR f i n) (sumR g i n)
  | 0, _, _ => rfl
  | n + 1, i, h => M31.add (h i (Nat.le_refl _) (by omega)) (sumR_m (n := n) fun j h1 h2 => h j (by omega) (by omega))
theorem sumR_congr {f g : Nat → Int} : ∀ {n i : Nat}, (∀ j, i ≤ j → j < i + n → f j = g j) → sumR f i n = sumR g i n
  | 0, _, _ => rfl
  | n + 1, i, h => by
    rw [sumR, sumR, h i (Nat.le_refl _) (by omega), sumR_congr (n := n) fun j h1 h2 => h j (by omega) (by omega)]
theorem sumR_sub {f g : Nat → Int} {c : Int} : ∀ {n i : Nat}, sumR (fun j => f j - g j * c) i n = sumR f i n - sumR g i n * c
  | 0, _ => by simp [sumR]
  | n + 1, i => by
    rw [sumR, sumR, sumR, sumR_sub (n := n), Int.add_mul]
    omega
theorem sumR_zero : ∀ {n i : Nat}, sumR (fun _ => 0) i n = 0
  | 0, _ => rfl
  | n + 1, i => by rw [sumR, sumR_zero (n := n)]; rfl
theorem sumR_add {f g : Nat → Int} : ∀ {n i : Nat}, sumR (fun j => f j + g j) i n = sumR f i n + sumR g i n
  | 0, _ => by simp [sumR]
  | n + 1, i => by
    rw [sumR, sumR, sumR, sumR_add (n := n)]
    omega
theorem sumR_mul {f : Nat → Int} {c : Int} : ∀ {n i : Nat}, sumR (fun j => f j * c) i n = sumR f i n * c
  | 0, _ => by simp [sumR]
  | n + 1, i => by
    rw [sumR, sumR, sumR_mul (n := n), Int.add_mul]
theorem accR_m {f : Nat → Int} : ∀ {n i : Nat} {acc : Int}, M31 (accR f i n acc) (acc + sumR f i n)
  | 0, _, acc => by rw [accR, sumR, Int.add_zero]; exact rfl
  | n + 1, i, acc => by
    rw [accR, sumR]
    refine (accR_m (n := n)).trans ?_
    rw [← Int.add_assoc]
    exact M31.add ((M31.mod _).trans (M31.add rfl (M31.mod _))) rfl

/-! ## Values, as sums -/
def dotW (w : List Int) (b : V8) : Int := accR (fun i => b.l.getD i 0 * w.getD i 0) 0 w.length 0
theorem fok0 : FOk 0 := ⟨by decide, by decide⟩
theorem dotW_ok (w : List Int) (b : V8) : FOk (dotW w b) := accR_ok fok0
theorem dotW_m (w : List Int) (b : V8) : M31 (dotW w b) (sumR (fun i => b.l.getD i 0 * w.getD i 0) 0 w.length) := by
  have := accR_m (f := fun i => b.l.getD i 0 * w.getD i 0) (n := w.length) (i := 0) (acc := 0)
  rw [Int.zero_add] at this
  exact this
def subK (c : Int) (a b : V8) : V8 := V8.of fun i => (b.l.getD i 0 - a.l.getD i 0 * c % 31) % 31
theorem V8.getD_big {b : V8} {i : Nat} (h : 8 ≤ i) : b.l.getD i 0 = 0 := by
  rw [List.getD, List.getElem?_eq_none (by simp [V8.l]; omega)]; rfl
theorem subK_get (c : Int) (a b : V8) (i : Nat) : (subK c a b).l.getD i 0 = (b.l.getD i 0 - a.l.getD i 0 * c % 31) % 31 := by
  by_cases h : i < 8
  · exact of_get _ i h
  · rw [V8.getD_big (by omega), V8.getD_big (by omega), V8.getD_big (by omega)]; simp
theorem subV_ok (c a b : Int) : FOk (subV c a b) := fok_mod _
theorem dotW_sub (w : List Int) (c : Int) (a b : V8) : dotW w (subK c a b) = subV c (dotW w a) (dotW w b) := by
  refine fok_eq (dotW_ok _ _) (subV_ok _ _ _) ((dotW_m _ _).trans ?_)
  have h1 : M31 (sumR (fun i => (subK c a b).l.getD i 0 * w.getD i 0) 0 w.length) (sumR (fun i => b.l.getD i 0 * w.getD i 0 - a.l.getD i 0 * w.getD i 0 * c) 0 w.length) := by
    refine sumR_m fun j _ _ => ?_
    rw [subK_get]
    have : M31 ((b.l.getD j 0 - a.l.getD j 0 * c % 31) % 31 * w.getD j 0) ((b.l.getD j 0 - a.l.getD j 0 * c) * w.getD j 0) := M31.mul ((M31.mod _).trans (M31.sub rfl (M31.mod _))) rfl
    refine this.trans ?_
    rw [Int.sub_mul, Int.mul_right_comm]
    exact rfl
  refine h1.trans ?_
  rw [sumR_sub]
  exact ((M31.mod _).trans (M31.sub (dotW_m w b) ((M31.mod _).trans (M31.mul (dotW_m w a) rfl)))).symm
theorem dotW_zero (w : List Int) : dotW w zero8 = 0 := by
  refine fok_eq (dotW_ok _ _) fok0 ((dotW_m _ _).trans ?_)
  rw [sumR_congr (g := fun _ => 0) (fun j _ _ => ?_), sumR_zero]
  · exact rfl
  · have : zero8.l.getD j 0 = 0 := by
      by_cases h : j < 8
      · exact of_get (fun _ => 0) j h
      · exact V8.getD_big (by omega)
    rw [this, Int.zero_mul]
section
variable {β γ : Type} {sub : Int → β → β → β} {sub' : Int → γ → γ → γ} {zb : β} {zb' : γ} {g : β → γ}
def onB (g : β → γ) (r : V4 × β) : V4 × γ := (r.1, g r.2)
theorem getD_on (hz : g zb = zb') (rows : List (V4 × β)) (j : Nat) : (rows.map (onB g)).getD j (zero4, zb') = onB g (rows.getD j (zero4, zb)) := by
  rw [List.getD, List.getD, List.getElem?_map]
  cases rows[j]? with
  | none => simp [onB, hz]
  | some r => rfl
theorem elimJ_map (hs : ∀ c a b, g (sub c a b) = sub' c (g a) (g b)) (hz : g zb = zb') (i lead : Nat) : ∀ (n j : Nat) (rows : List (V4 × β)), elimJ sub' zb' i lead j n (rows.map (onB g)) = (elimJ sub zb i lead j n rows).map (onB g)
  | 0, _, _ => rfl
  | n + 1, j, rows => by
    rw [elimJ, elimJ, ← elimJ_map hs hz i lead n (j + 1)]
    congr 1
    rw [getD_on hz, getD_on hz]
    have e : (onB g (rows.getD j (zero4, zb))).1 = (rows.getD j (zero4, zb)).1 := rfl
    rw [e]
    cases !decide (j = i) && !decide ((rows.getD j (zero4, zb)).1.l.getD lead 0 = 0)
    · rfl
    · rw [cond_true, cond_true, List.map_set]
      congr 1
      simp only [onB, hs]
theorem elimI_map (hs : ∀ c a b, g (sub c a b) = sub' c (g a) (g b)) (hz : g zb = zb') (m : Nat) : ∀ (n i : Nat) (rows : List (V4 × β)), elimI sub' zb' m i n (rows.map (onB g)) = (elimI sub zb m i n rows).map (onB g)
  | 0, _, _ => rfl
  | n + 1, i, rows => by
    rw [elimI, elimI, getD_on hz, ← elimI_map hs hz m n (i + 1), ← elimJ_map hs hz]
    rfl
theorem elimOk_map (hs : ∀ c a b, g (sub c a b) = sub' c (g a) (g b)) (hz : g zb = zb') (m : Nat) : ∀ (n i : Nat) (rows : List (V4 × β)), elimOk sub' zb' m i n (rows.map (onB g)) = elimOk sub zb m i n rows
  | 0, _, rows => by rw [elimOk, elimOk, List.all_map]; rfl
  | n + 1, i, rows => by
    rw [elimOk, elimOk, getD_on hz, ← elimOk_map hs hz m n (i + 1), ← elimJ_map hs hz]
    rfl
theorem outE_map (hz : g zb = zb') (rows : List (V4 × β)) : outE zb' (rows.map (onB g)) = (outE zb rows).map g := by
  rw [outE, outE, show [zb', zb', zb', zb'] = [zb, zb, zb, zb].map g by simp [hz]]
  generalize [zb, zb, zb, zb] = o
  induction rows generalizing o with
  | nil => rfl
  | cons r rs ih =>
    rw [List.map_cons, List.foldl_cons, List.foldl_cons, ← ih, List.map_set]
    rfl
end
theorem outE_len {β : Type} (zb : β) (rows : List (V4 × β)) : (outE zb rows).length = 4 := by
  rw [outE]
  have : ∀ (rows : List (V4 × β)) (o : List β), (rows.foldl (fun o r => o.set (leadV r.1).toNat r.2) o).length = o.length := by
    intro rows
    induction rows with
    | nil => intro o; rfl
    | cons r rs ih => intro o; rw [List.foldl_cons, ih, List.length_set]
  rw [this]
  rfl
/-- how the numbers are made of values -/
def coefsL (kind : Int) (shards : List Int) : List V8 := outE zero8 (elimI subK zero8 (spanF (rowsF kind shards)).1.length 0 (spanF (rowsF kind shards)).1.length (spanF (rowsF kind shards)).1)
def coefsOk (kind : Int) (shards : List Int) : Bool := elimOk subK zero8 (spanF (rowsF kind shards)).1.length 0 (spanF (rowsF kind shards)).1.length (spanF (rowsF kind shards)).1
theorem solveL_eq (kind : Int) (vals shards : List Int) : solveL kind vals shards = (coefsL kind shards).map (dotW (valsAt vals shards)) := by
  rw [solveL, toldL, List.length_map, show toldF (valsAt vals shards) = onB (dotW (valsAt vals shards)) from rfl, elimI_map (dotW_sub _) (dotW_zero _), outE_map (dotW_zero _)]
  rfl
theorem solveOk_eq (kind : Int) (vals shards : List Int) : solveOk kind vals shards = coefsOk kind shards := by
  rw [solveOk, toldL, List.length_map, show toldF (valsAt vals shards) = onB (dotW (valsAt vals shards)) from rfl, elimOk_map (dotW_sub _) (dotW_zero _)]
  rfl
theorem coefs_len (kind : Int) (shards : List Int) : (coefsL kind shards).length = 4 := outE_len _ _
theorem solve_get (kind : Int) (vals shards : List Int) (l : Nat) (h : l < 4) : (solveL kind vals shards).getD l 0 = dotW (valsAt vals shards) ((coefsL kind shards).getD l zero8) := by
  rw [solveL_eq, List.getD, List.getElem?_map, List.getD]
  have := coefs_len kind shards
  rw [List.getElem?_eq_getElem (by omega)]
  rfl
theorem v4of_get (l : List Int) (m : Nat) (h : m < 4) : (v4of l).l.getD m 0 = l.getD m 0 := by
  have : m = 0 ∨ m = 1 ∨ m = 2 ∨ m = 3 := by omega
  rcases this with rfl | rfl | rfl | rfl <;> rfl
theorem v4_ext {a b : V4} (h : ∀ m, m < 4 → a.l.getD m 0 = b.l.getD m 0) : a = b := by
  have h0 := h 0 (by omega)
  have h1 := h 1 (by omega)
  have h2 := h 2 (by omega)
  have h3 := h 3 (by omega)
  exact Prod.ext h0 (Prod.ext h1 (Prod.ext h2 h3))
theorem solve_ok (kind : Int) (vals shards : List Int) : VOk (solveI kind vals shards) := by
  have h : ∀ l, l < 4 → FOk ((solveL kind vals shards).getD l 0) := fun l hl => by rw [solve_get _ _ _ _ hl]; exact dotW_ok _ _
  exact ⟨h 0 (by omega), h 1 (by omega), h 2 (by omega), h 3 (by omega)⟩
theorem dotF_eq (v u : V4) : dotF v u = (v.l.getD 0 0 * u.l.getD 0 0 + v.l.getD 1 0 * u.l.getD 1 0 + v.l.getD 2 0 * u.l.getD 2 0 + v.l.getD 3 0 * u.l.getD 3 0) % 31 := rfl
theorem dotF_ok (v u : V4) : FOk (dotF v u) := fok_mod _
theorem dotF_m (v u : V4) : M31 (dotF v u) (v.1 * u.1 + v.2.1 * u.2.1 + v.2.2.1 * u.2.2.1 + v.2.2.2 * u.2.2.2) := M31.mod _
theorem dotF_sub (a b d : V4) (c : Int) : dotF (vminus a (vtimes b c)) d = subV c (dotF b d) (dotF a d) := by
  refine fok_eq (fok_mod _) (subV_ok _ _ _) ((dotF_m _ _).trans ?_)
  have one : ∀ x y z : Int, M31 ((x + (y * c % 31) * 30 % 31) % 31 * z) (x * z - y * z * c) := by
    intro x y z
    refine (M31.mul ((M31.mod _).trans (M31.add rfl ((M31.mod _).trans (M31.mul (M31.mod _) rfl)))) rfl).trans ?_
    show ((x + y * c * 30) * z) % 31 = (x * z - y * z * c) % 31
    have e : (x + y * c * 30) * z = x * z - y * z * c + 31 * (y * z * c) := by
      rw [Int.add_mul, show y * c * 30 * z = 30 * (y * z * c) by rw [Int.mul_right_comm (y * c) 30 z, Int.mul_right_comm y c z, Int.mul_comm]]
      omega
    rw [e, Int.add_mul_emod_self_left]
  refine (M31.add (M31.add (M31.add (one _ _ _) (one _ _ _)) (one _ _ _)) (one _ _ _)).trans ?_
  refine M31.trans ?_ ((M31.mod _).trans (M31.sub (dotF_m a d) ((M31.mod _).trans (M31.mul (dotF_m b d) rfl)))).symm
  show _ % 31 = _ % 31
  rw [Int.add_mul, Int.add_mul, Int.add_mul]
  congr 1
  omega
theorem dotF_scale (a d : V4) (c : Int) : dotF (vtimes a c) d = dotF a d * c % 31 := by
  refine fok_eq (fok_mod _) (fok_mod _) ((dotF_m _ _).trans ?_)
  have one : ∀ y z : Int, M31 (y * c % 31 * z) (y * z * c) := by
    intro y z
    refine (M31.mul (M31.mod _) rfl).trans ?_
    rw [Int.mul_right_comm]
    exact rfl
  refine (M31.add (M31.add (M31.add (one _ _) (one _ _)) (one _ _)) (one _ _)).trans ?_
  refine M31.trans ?_ ((M31.mod _).trans (M31.mul (dotF_m a d) rfl)).symm
  rw [Int.add_mul, Int.add_mul, Int.add_mul]
  exact rfl
theorem dotW_scale (w : List Int) (b : V8) (c : Int) : dotW w (V8.of fun i => b.l.getD i 0 * c % 31) = dotW w b * c % 31 := by
  refine fok_eq (dotW_ok _ _) (fok_mod _) ((dotW_m _ _).trans ?_)
  have h1 : M31 (sumR (fun i => (V8.of fun i => b.l.getD i 0 * c % 31).l.getD i 0 * w.getD i 0) 0 w.length) (sumR (fun i => b.l.getD i 0 * w.getD i 0 * c) 0 w.length) := by
    refine sumR_m fun j _ _ => ?_
    have e : (V8.of fun i => b.l.getD i 0 * c % 31).l.getD j 0 = b.l.getD j 0 * c % 31 := by
      by_cases h : j < 8
      · exact of_get _ j h
      · rw [V8.getD_big (by omega), V8.getD_big (by omega)]; simp
    rw [e, Int.mul_right_comm]
    exact M31.mul (M31.mod _) rfl |>.trans (by rw [Int.mul_right_comm]; exact rfl)
  refine h1.trans ?_
  rw [sumR_mul]
  exact ((M31.mod _).trans (M31.mul (dotW_m w b) rfl)).symm
theorem sumR_one {f : Nat → Int} {k : Nat} : ∀ {n i : Nat}, i ≤ k → k < i + n → (∀ j, i ≤ j → j < i + n → j ≠ k → f j = 0) → sumR f i n = f k
  | 0, i, h1, h2, _ => by omega
  | n + 1, i, h1, h2, h => by
    rw [sumR]
    rcases Nat.eq_or_lt_of_le h1 with rfl | h3
    · rw [sumR_congr (g := fun _ => 0) (fun j g1 g2 => h j (by omega) (by omega) (by omega)), sumR_zero, Int.add_zero]
    · rw [h i (Nat.le_refl _) (by omega) (by omega), Int.zero_add]
      exact sumR_one (n := n) (by omega) (by omega) fun j g1 g2 g3 => h j (by omega) (by omega) g3
theorem unit8_get (i j : Nat) : (unit8 i).l.getD j 0 = if j = i ∧ j < 8 then 1 else 0 := by
  by_cases h : j < 8
  · rw [unit8, of_get _ j h]; simp [h]
  · rw [V8.getD_big (by omega)]; simp [h]
theorem dotW_unit {w : List Int} (hw : ∀ i, FOk (w.getD i 0)) {i : Nat} (h8 : i < 8) (hi : i < w.length) : dotW w (unit8 i) = w.getD i 0 := by
  refine fok_eq (dotW_ok _ _) (hw i) ((dotW_m _ _).trans ?_)
  rw [sumR_one (k := i) (Nat.zero_le _) (by omega)]
  · rw [unit8_get, if_pos ⟨rfl, h8⟩, Int.one_mul]; exact rfl
  · intro j _ _ hj
    rw [unit8_get, if_neg (by omega), Int.zero_mul]
/-- a kept row's values are those of its row -/
def Kd (w : List Int) (d : V4) (k : Kept) : Prop := dotW w k.2 = dotF k.1 d
theorem kd_less {w : List Int} {d : V4} {k r : Kept} (hk : Kd w d k) (hr : Kd w d r) : Kd w d (lessK k r) := by
  show dotW w (subK _ r.2 k.2) = dotF (vminus k.1 (vtimes r.1 _)) d
  rw [dotW_sub, dotF_sub, hk, hr]
theorem kd_lessF {w : List Int} {d : V4} : ∀ {rows : List Kept} {k : Kept}, (∀ r ∈ rows, Kd w d r) → Kd w d k → Kd w d (lessF rows k)
  | [], _, _, h => h
  | r :: rs, k, hr, h => kd_lessF (rows := rs) (fun x hx => hr x (List.mem_cons_of_mem _ hx)) (kd_less h (hr r (List.mem_cons_self ..)))
theorem kd_step {w : List Int} {d : V4} {s : List Kept × List Int} {i : Nat} {row : V4} (hs : ∀ r ∈ s.1, Kd w d r) (h : Kd w d (row, unit8 i)) : ∀ r ∈ (spanStep s i row).1, Kd w d r := by
  have hk := kd_lessF hs h
  unfold spanStep
  cases decide (leadV (lessF s.1 (row, unit8 i)).1 < 0)
  · rw [cond_false]
    intro r hr
    rcases List.mem_append.1 hr with hr | hr
    · exact hs r hr
    · rw [List.mem_singleton] at hr
      subst hr
      show dotW w (V8.of fun i => _ * _ % 31) = dotF (vtimes _ _) d
      rw [dotW_scale, dotF_scale, hk]
  · exact hs
theorem kd_span {w : List Int} {d : V4} {m : List V4} (h : ∀ i, i < m.length → Kd w d (m.getD i zero4, unit8 i)) : ∀ {n i : Nat} {s : List Kept × List Int}, i + n ≤ m.length → (∀ r ∈ s.1, Kd w d r) → ∀ r ∈ (spanR m i n s).1, Kd w d r
  | 0, _, _, _, hs => hs
  | n + 1, i, s, hi, hs => by
    rw [spanR]
    exact kd_span h (by omega) (kd_step hs (h i (by omega)))
/-! ## The rows alone -/
def lessV (k r : V4) : V4 := vminus k (vtimes r (k.l.getD (leadV r).toNat 0))
def stepV (s : List V4) (row : V4) : List V4 := bif decide (leadV (s.foldl lessV row) < 0) then s else s ++ [vtimes (s.foldl lessV row) (invE (atL (s.foldl lessV row)))]
def spanV (m : List V4) : List V4 := m.foldl stepV []
theorem lessF_fst : ∀ (rows : List Kept) (k : Kept), (lessF rows k).1 = (rows.map (·.1)).foldl lessV k.1
  | [], _ => rfl
  | r :: rs, k => by rw [List.map_cons, List.foldl_cons]; exact lessF_fst rs (lessK k r)
theorem spanStep_fst (s : List Kept × List Int) (i : Nat) (row : V4) : (spanStep s i row).1.map (·.1) = stepV (s.1.map (·.1)) row := by
  unfold spanStep stepV
  rw [← lessF_fst s.1 (row, unit8 i)]
  cases decide (leadV (lessF s.1 (row, unit8 i)).1 < 0)
  · rw [cond_false, cond_false, List.map_append]; rfl
  · rfl
theorem spanR_fst (m : List V4) : ∀ (n i : Nat) (s : List Kept × List Int), i + n = m.length → (spanR m i n s).1.map (·.1) = (m.drop i).foldl stepV (s.1.map (·.1))
  | 0, i, s, h => by rw [List.drop_eq_nil_of_le (by omega)]; rfl
  | n + 1, i, s, h => by
    rw [spanR, spanR_fst m n (i + 1) _ (by omega), spanStep_fst, drop_cons (show i < m.length by omega), List.foldl_cons, getD_eq (show i < m.length by omega)]
theorem spanF_fst (m : List V4) : (spanF m).1.map (·.1) = spanV m := by
  rw [spanF, spanR_fst m m.length 0 _ (Nat.zero_add _)]; rfl
theorem bearsI_eq (kind : Int) (shards : List Int) : bearsI kind shards = decide ((spanV (rowsF kind shards)).length = 4) := by
  rw [bearsI, ← spanF_fst, List.length_map, (spanF_len _).1]
def subU : Int → Unit → Unit → Unit := fun _ _ _ => ()
def pairU (v : V4) : V4 × Unit := (v, ())
def elimU (ks : List V4) : List (V4 × Unit) := elimI subU () ks.length 0 ks.length (ks.map pairU)
def wellU (ks : List V4) : Bool := elimOk subU () ks.length 0 ks.length (ks.map pairU)
/-- after all they are units, all of them -/
def unitsU (rows : List (V4 × Unit)) : Bool := (rows.all fun r => decide (r.1 = unitF (leadV r.1)) && decide (0 ≤ leadV r.1)) && (List.range 4).all fun l : Nat => rows.any fun r => decide (leadV r.1 = (l : Int))
def idOk (kind : Int) (shards : List Int) : Bool := unitsU (elimU (spanV (rowsF kind shards)))
theorem toldL_U (kind : Int) (w shards : List Int) : (toldL kind w shards).map (onB fun _ : Int => ()) = (spanV (rowsF kind shards)).map pairU := by
  rw [toldL, List.map_map, ← spanF_fst, List.map_map]
  rfl
theorem solveOk_U (kind : Int) (vals shards : List Int) : solveOk kind vals shards = wellU (spanV (rowsF kind shards)) := by
  have hl : (toldL kind (valsAt vals shards) shards).length = (spanV (rowsF kind shards)).length := by rw [toldL, List.length_map, ← spanF_fst, List.length_map]
  rw [solveOk, wellU, ← toldL_U kind (valsAt vals shards) shards, elimOk_map (g := fun _ : Int => ()) (sub := subV) (zb := 0) (fun _ _ _ => rfl) rfl, hl]
def Tdd (d : V4) (rows : List (V4 × Int)) : Prop := ∀ r ∈ rows, r.2 = dotF r.1 d
theorem tdd_get {d : V4} {rows : List (V4 × Int)} (h : Tdd d rows) (j : Nat) : (rows.getD j (zero4, (0 : Int))).2 = dotF (rows.getD j (zero4, (0 : Int))).1 d := by
  by_cases hj : j < rows.length
  · rw [getD_eq hj]; exact h _ (List.getElem_mem hj)
  · rw [List.getD, List.getElem?_eq_none (by omega)]
    show (0 : Int) = dotF zero4 d
    simp [dotF]
theorem tdd_elimJ {d : V4} (i lead : Nat) : ∀ (n j : Nat) (rows : List (V4 × Int)), Tdd d rows → Tdd d (elimJ subV 0 i lead j n rows)
  | 0, _, _, h => h
  | n + 1, j, rows, h => by
    rw [elimJ]
    refine tdd_elimJ i lead n (j + 1) _ ?_
    cases !decide (j = i) && !decide ((rows.getD j (zero4, (0 : Int))).1.l.getD lead 0 = 0)
    · exact h
    · rw [cond_true]
      intro r hr
      rcases List.mem_or_eq_of_mem_set hr with h' | rfl
      · exact h r h'
      · rw [dotF_sub, tdd_get h, tdd_get h]
theorem tdd_elimI {d : V4} (m : Nat) : ∀ (n i : Nat) (rows : List (V4 × Int)), Tdd d rows → Tdd d (elimI subV 0 m i n rows)
  | 0, _, _, h => h
  | n + 1, i, rows, h => tdd_elimI m n (i + 1) _ (tdd_elimJ _ _ _ _ _ h)
theorem dotF_unit {d : V4} (hd : VOk d) {l : Nat} (h : l < 4) : dotF (unitF (l : Int)) d = d.l.getD l 0 := by
  have : l = 0 ∨ l = 1 ∨ l = 2 ∨ l = 3 := by omega
  have h0 := fok_emod hd.1
  have h1 := fok_emod hd.2.1
  have h2 := fok_emod hd.2.2.1
  have h3 := fok_emod hd.2.2.2
  rcases this with rfl | rfl | rfl | rfl <;> simp [dotF, unitF, V4.l, h0, h1, h2, h3]
theorem out_get {d : V4} (hd : VOk d) {l : Nat} (hl : l < 4) : ∀ (rows : List (V4 × Int)) (out : List Int), out.length = 4 → Tdd d rows → (∀ r ∈ rows, r.1 = unitF (leadV r.1) ∧ 0 ≤ leadV r.1) →
    (out.getD l 0 = d.l.getD l 0 ∨ ∃ r ∈ rows, leadV r.1 = (l : Int)) → (rows.foldl (fun o r => o.set (leadV r.1).toNat r.2) out).getD l 0 = d.l.getD l 0
  | [], out, ho, ht, hu, hx => by
    rcases hx with hx | ⟨r, hr, _⟩
    · exact hx
    · cases hr
  | r :: rs, out, ho, ht, hu, hx => by
    rw [List.foldl_cons]
    refine out_get hd hl rs _ (by rw [List.length_set]; exact ho) (fun x hx => ht x (List.mem_cons_of_mem _ hx)) (fun x hx => hu x (List.mem_cons_of_mem _ hx)) ?_
    obtain ⟨u1, u2⟩ := hu r (List.mem_cons_self ..)
    by_cases e : leadV r.1 = (l : Int)
    · left
      rw [e, Int.toNat_natCast, List.getD, List.getElem?_set_self (by omega), Option.getD_some, ht r (List.mem_cons_self ..), u1, e, dotF_unit hd hl]
    · rcases hx with hx | ⟨x, hm, he⟩
      · left
        have hne : (leadV r.1).toNat ≠ l := by omega
        rw [List.getD, List.getElem?_set_ne hne]
        exact hx
      · rcases List.mem_cons.1 hm with rfl | hm
        · exact absurd he e
        · exact .inr ⟨x, hm, he⟩
theorem id_solve {kind : Int} {shards vals : List Int} {d : V4} (h8 : shards.length ≤ 8) (hid : idOk kind shards = true) (hd : VOk d) (hv : ∀ i ∈ shards, vals.getD i.toNat 0 = dotF (rowV kind i) d) : solveI kind vals shards = d := by
  have hw : (valsAt vals shards).length = shards.length := List.length_map _
  have hrl : (rowsF kind shards).length = shards.length := List.length_map _
  have hval : ∀ j, j < shards.length → (valsAt vals shards).getD j 0 = dotF ((rowsF kind shards).getD j zero4) d := by
    intro j hj
    rw [getD_eq (show j < (valsAt vals shards).length by omega), getD_eq (show j < (rowsF kind shards).length by omega)]
    have e1 : (valsAt vals shards)[j]'(by omega) = vals.getD (shards[j]).toNat 0 := by simp [valsAt]
    have e2 : (rowsF kind shards)[j]'(by omega) = rowV kind shards[j] := by simp [rowsF]
    rw [e1, e2]
    exact hv _ (List.getElem_mem hj)
  have hwok : ∀ i, FOk ((valsAt vals shards).getD i 0) := by
    intro i
    by_cases hi : i < shards.length
    · rw [hval i hi]; exact fok_mod _
    · rw [List.getD, List.getElem?_eq_none (by omega)]; exact fok0
  have hk : ∀ r ∈ (spanF (rowsF kind shards)).1, Kd (valsAt vals shards) d r := by
    refine kd_span (fun i hi => ?_) (by omega) (fun r hr => by cases hr)
    show dotW _ (unit8 i) = _
    rw [dotW_unit hwok (by omega) (by omega)]
    exact hval i (by omega)
  have ht : Tdd d (toldL kind (valsAt vals shards) shards) := by
    intro r hr
    obtain ⟨k, hk', rfl⟩ := List.mem_map.1 hr
    exact hk k hk'
  have hte := tdd_elimI (toldL kind (valsAt vals shards) shards).length (toldL kind (valsAt vals shards) shards).length 0 _ ht
  have hl : (toldL kind (valsAt vals shards) shards).length = (spanV (rowsF kind shards)).length := by rw [toldL, List.length_map, ← spanF_fst, List.length_map]
  have hE : (elimI subV 0 (toldL kind (valsAt vals shards) shards).length 0 (toldL kind (valsAt vals shards) shards).length (toldL kind (valsAt vals shards) shards)).map (onB fun _ : Int => ()) = elimU (spanV (rowsF kind shards)) := by
    rw [elimU, ← toldL_U kind (valsAt vals shards) shards, elimI_map (g := fun _ : Int => ()) (sub := subV) (zb := 0) (fun _ _ _ => rfl) rfl, hl]
  rw [idOk, ← hE, unitsU, Bool.and_eq_true, List.all_eq_true, List.all_eq_true] at hid
  refine v4_ext fun l hl => ?_
  rw [solveI, v4of_get _ _ hl, solveL, outE]
  refine out_get hd hl _ _ rfl hte (fun r hr => ?_) (.inr ?_)
  · have e := hid.1 _ (List.mem_map_of_mem hr)
    rw [Bool.and_eq_true] at e
    exact ⟨of_decide_eq_true e.1, of_decide_eq_true e.2⟩
  · obtain ⟨x, hx1, hx2⟩ := List.any_eq_true.1 (hid.2 l (List.mem_range.2 hl))
    obtain ⟨r, hr, rfl⟩ := List.mem_map.1 hx1
    exact ⟨r, hr, of_decide_eq_true hx2⟩
theorem fits_mem {kind : Int} {vals shards : List Int} (h : fitsI kind vals shards = true) : ∀ i ∈ shards, vals.getD i.toNat 0 = dotF (rowV kind i) (solveI kind vals shards) := fun i hi =>
  (of_decide_eq_true (List.all_eq_true.1 h i hi)).symm
theorem fits_of {kind : Int} {vals shards : List Int} {d : V4} (h : solveI kind vals shards = d) (hv : ∀ i ∈ shards, vals.getD i.toNat 0 = dotF (rowV kind i) d) : fitsI kind vals shards = true := by
  rw [fitsI, List.all_eq_true]
  intro i hi
  rw [h, hv i hi]
  exact decide_eq_true rfl
theorem id_fits {kind : Int} {shards vals : List Int} {d : V4} (h8 : shards.length ≤ 8) (hid : idOk kind shards = true) (hd : VOk d) (hv : ∀ i ∈ shards, vals.getD i.toNat 0 = dotF (rowV kind i) d) : fitsI kind vals shards = true :=
  fits_of (id_solve h8 hid hd hv) hv
/-- fewer shards, still enough: the same numbers -/
theorem fits_sub {kind : Int} {p q vals : List Int} (h : fitsI kind vals p = true) (hq : ∀ i ∈ q, i ∈ p) (h8 : q.length ≤ 8) (hid : idOk kind q = true) : fitsI kind vals q = true ∧ solveI kind vals q = solveI kind vals p := by
  have h1 : ∀ i ∈ q, vals.getD i.toNat 0 = dotF (rowV kind i) (solveI kind vals p) := fun i hi => fits_mem h i (hq i hi)
  exact ⟨id_fits h8 hid (solve_ok _ _ _) h1, id_solve h8 hid (solve_ok _ _ _) h1⟩

/-! ## All sets, all orders -/
/-- a set of shards as bits tell -/
def thereB : Nat → Nat → List Bool
  | 0, _ => []
  | n + 1, b => decide (b % 2 = 1) :: thereB n (b / 2)
def bitsOf : List Bool → Nat
  | [] => 0
  | b :: l => (bif b then 1 else 0) + 2 * bitsOf l
theorem bits_lt : ∀ (l : List Bool), bitsOf l < 2 ^ l.length
  | [] => by simp [bitsOf]
  | b :: l => by
    have := bits_lt l
    rw [bitsOf, List.length_cons, Nat.pow_succ]
    cases b <;> simp <;> omega
theorem there_bits : ∀ (l : List Bool), thereB l.length (bitsOf l) = l
  | [] => rfl
  | b :: l => by
    rw [List.length_cons, thereB, bitsOf]
    cases b
    · rw [show (((bif false then 1 else 0) + 2 * bitsOf l) / 2 : Nat) = bitsOf l by simp, there_bits l]
      simp
    · rw [show (((bif true then 1 else 0) + 2 * bitsOf l) / 2 : Nat) = bitsOf l by simp; omega, there_bits l]
      simp
theorem all_there {p : List Bool → Prop} (h : ∀ b : Nat, b < 256 → p (thereB 8 b)) {l : List Bool} (hl : l.length = 8) : p l := by
  have h1 := bits_lt l
  rw [hl] at h1
  have h2 := there_bits l
  rw [hl] at h2
  rw [← h2]
  exact h _ h1
/-- of the shards of a set -/
def flagKey (b : Nat) : Bool := ((flagF (thereB 8 b)).all (fun x => inB x 0 7) && decide ((flagF (thereB 8 b)).length ≤ 8)) &&
  (((List.range 8).all fun a : Nat => decide (((flagF (thereB 8 b)).any fun x => decide (x = (a : Int))) = (thereB 8 b).getD a false)) &&
  ((List.range 8).all fun i : Nat => decide ((flagF (thereB 8 b)).length ≤ i) || decide ((flagF (thereB 8 b)).take i ++ (flagF (thereB 8 b)).drop (i + 1) = flagF ((thereB 8 b).set ((flagF (thereB 8 b)).getD i 0).toNat false))))
set_option maxRecDepth 100000 in
theorem flag_key : ∀ b : Nat, b < 256 → flagKey b = true := by decide +kernel
structure FlagOk (there : List Bool) : Prop where
  range : ∀ x ∈ flagF there, 0 ≤ x ∧ x ≤ 7
  len : (flagF there).length ≤ 8
  mem : ∀ a : Nat, a < 8 → ((a : Int) ∈ flagF there ↔ there.getD a false = true)
  less : ∀ i : Nat, i < (flagF there).length → (flagF there).take i ++ (flagF there).drop (i + 1) = flagF (there.set ((flagF there).getD i 0).toNat false)
theorem flag_ok {there : List Bool} (h : there.length = 8) : FlagOk there := by
  refine all_there (p := FlagOk) (fun b hb => ?_) h
  have k := flag_key b hb
  simp only [flagKey, Bool.and_eq_true, List.all_eq_true, decide_eq_true_eq, Bool.or_eq_true, List.mem_range] at k
  obtain ⟨⟨k1, k2⟩, k3, k4⟩ := k
  refine ⟨fun x hx => inB_iff.1 (k1 x hx), k2, fun a ha => ?_, fun i hi => ?_⟩
  · rw [← k3 a ha, List.any_eq_true]
    constructor
    · intro hm; exact ⟨_, hm, by simp⟩
    · rintro ⟨x, hx, e⟩
      have e := of_decide_eq_true e
      rw [← e]; exact hx
  · rcases k4 i (by omega) with h | h
    · omega
    · exact h
theorem spanR_piv {m : List V4} : ∀ {n i : Nat} {s : List Kept × List Int}, (∀ x ∈ s.2, 0 ≤ x ∧ x < (i : Int)) → ∀ x ∈ (spanR m i n s).2, 0 ≤ x ∧ x < ((i + n : Nat) : Int)
  | 0, i, s, h => fun x hx => by have := h x hx; exact ⟨this.1, by omega⟩
  | n + 1, i, s, h => by
    rw [spanR]
    have := spanR_piv (m := m) (n := n) (i := i + 1) (s := spanStep s i (m.getD i zero4)) (by
      unfold spanStep
      cases decide (leadV (lessF s.1 (m.getD i zero4, unit8 i)).1 < 0)
      · rw [cond_false]
        intro x hx
        rcases List.mem_append.1 hx with hx | hx
        · have := h x hx; omega
        · rw [List.mem_singleton] at hx; omega
      · rw [cond_true]
        intro x hx
        have := h x hx; omega)
    intro x hx
    have := this x hx
    omega
theorem span_piv' (m : List V4) : ∀ x ∈ (spanF m).2, 0 ≤ x ∧ x < (m.length : Int) := by
  have := spanR_piv (m := m) (n := m.length) (i := 0) (s := ([], [])) (fun x hx => by cases hx)
  rw [Nat.zero_add] at this
  exact this
theorem kind_cases {kind : Int} (h : inB kind 1 2 = true) : kind = 1 ∨ kind = 2 := by
  have := inB_iff.1 h
  omega
/-- what is decided of each set -/
def rowsOkU (s : List V4) : Bool := wellU s && (!decide (s.length = 4) || unitsU (elimU s))
def setOk (kind : Int) (p : List Int) : Bool := rowsOkU (spanV (rowsF kind p))
set_option maxRecDepth 100000 in
theorem set_key1 : ∀ b : Nat, b < 256 → setOk 1 (flagF (thereB 8 b)) = true := by decide +kernel
set_option maxRecDepth 100000 in
theorem set_key2 : ∀ b : Nat, b < 256 → setOk 2 (flagF (thereB 8 b)) = true := by decide +kernel
theorem set_ok {kind : Int} (hk : inB kind 1 2 = true) {there : List Bool} (h : there.length = 8) : setOk kind (flagF there) = true := by
  rcases kind_cases hk with rfl | rfl
  · exact all_there (p := fun l => setOk 1 (flagF l) = true) set_key1 h
  · exact all_there (p := fun l => setOk 2 (flagF l) = true) set_key2 h
theorem set_solve {kind : Int} (hk : inB kind 1 2 = true) {there : List Bool} (h : there.length = 8) (vals : List Int) : solveOk kind vals (flagF there) = true := by
  have := set_ok hk h
  rw [setOk, rowsOkU, Bool.and_eq_true] at this
  rw [solveOk_U]; exact this.1
theorem set_id {kind : Int} (hk : inB kind 1 2 = true) {there : List Bool} (h : there.length = 8) (hb : bearsI kind (flagF there) = true) : idOk kind (flagF there) = true := by
  have := set_ok hk h
  rw [bearsI_eq] at hb
  rw [setOk, rowsOkU, Bool.and_eq_true, hb] at this
  have h2 := this.2
  rw [Bool.not_true, Bool.false_or] at h2
  exact h2
end Go.Proofs.Ytjoiadaogppmkaa.Sh
