/- Rows that are reduced one by another, as the program does it: plain functions, and what is plain of them. -/
import Derived.Test.YtjoiadaogppmkaaMaVec
namespace Go.Proofs.Ytjoiadaogppmkaa.Sh
set_option linter.unusedVariables false
set_option linter.unusedSimpArgs false

/-! ## The program's own way -/
def leadV (v : V4) : Int := findR (fun j => !decide (v.l.getD j 0 = 0)) (fun j => (j : Int)) (-1) 0 4
def invE (a : Int) : Int := findR (fun j => decide (a * (j : Int) % 31 = 1)) (fun j => (j : Int)) 0 1 30
abbrev V8 := Int × Int × Int × Int × Int × Int × Int × Int
def V8.l (b : V8) : List Int := [b.1, b.2.1, b.2.2.1, b.2.2.2.1, b.2.2.2.2.1, b.2.2.2.2.2.1, b.2.2.2.2.2.2.1, b.2.2.2.2.2.2.2]
def V8.of (f : Nat → Int) : V8 := (f 0, f 1, f 2, f 3, f 4, f 5, f 6, f 7)
abbrev Kept := V4 × V8
abbrev zero4 : V4 := (0, 0, 0, 0)
abbrev zero8 : V8 := (0, 0, 0, 0, 0, 0, 0, 0)
def keptL (k : Kept) : List Int := [k.1.1, k.1.2.1, k.1.2.2.1, k.1.2.2.2, k.2.1, k.2.2.1, k.2.2.2.1, k.2.2.2.2.1, k.2.2.2.2.2.1, k.2.2.2.2.2.2.1, k.2.2.2.2.2.2.2.1, k.2.2.2.2.2.2.2.2]
def atL (v : V4) : Int := v.l.getD (leadV v).toNat 0
def lessK (k r : Kept) : Kept := (vminus k.1 (vtimes r.1 (k.1.l.getD (leadV r.1).toNat 0)), V8.of fun i => (k.2.l.getD i 0 - r.2.l.getD i 0 * (k.1.l.getD (leadV r.1).toNat 0) % 31) % 31)
def lessF (rows : List Kept) (k : Kept) : Kept := rows.foldl lessK k
def unit8 (i : Nat) : V8 := V8.of fun j => if j = i then 1 else 0
def scaleK (k : Kept) (c : Int) : Kept := (vtimes k.1 c, V8.of fun i => k.2.l.getD i 0 * c % 31)
def spanStep (s : List Kept × List Int) (i : Nat) (row : V4) : List Kept × List Int :=
  bif decide (leadV (lessF s.1 (row, unit8 i)).1 < 0) then s
  else (s.1 ++ [scaleK (lessF s.1 (row, unit8 i)) (invE (atL (lessF s.1 (row, unit8 i)).1))], s.2 ++ [(i : Int)])
def spanR (m : List V4) : Nat → Nat → List Kept × List Int → List Kept × List Int
  | _, 0, s => s
  | i, n + 1, s => spanR m (i + 1) n (spanStep s i (m.getD i zero4))
def spanF (m : List V4) : List Kept × List Int := spanR m 0 m.length ([], [])
/-- how a row is made of kept ones, and whether it is -/
def byK (s : List Kept) (v : V4) : V8 × Bool := (V8.of fun i => (0 - (lessF s (v, zero8)).2.l.getD i 0) % 31, decide ((lessF s (v, zero8)).1 = zero4))
def flagF (there : List Bool) : List Int := filterR (fun j => there.getD j false) (fun j => (j : Int)) 0 there.length
def rowsF (kind : Int) (shards : List Int) : List V4 := shards.map (rowV kind)
def bearsI (kind : Int) (shards : List Int) : Bool := decide ((spanF (rowsF kind shards)).2.length = 4)
/-- shards' values -/
def valsAt (vals shards : List Int) : List Int := shards.map fun i => vals.getD i.toNat 0
/-- a sum, each number taken round at once -/
def accR (f : Nat → Int) : Nat → Nat → Int → Int
  | _, 0, acc => acc
  | i, n + 1, acc => accR f (i + 1) n ((acc + f i % 31) % 31)
section
variable {β : Type} (sub : Int → β → β → β) (zb : β)
def elimJ (i lead : Nat) : Nat → Nat → List (V4 × β) → List (V4 × β)
  | _, 0, rows => rows
  | j, n + 1, rows => elimJ i lead (j + 1) n (bif !decide (j = i) && !decide ((rows.getD j (zero4, zb)).1.l.getD lead 0 = 0) then
      rows.set j (vminus (rows.getD j (zero4, zb)).1 (vtimes (rows.getD i (zero4, zb)).1 ((rows.getD j (zero4, zb)).1.l.getD lead 0)), sub ((rows.getD j (zero4, zb)).1.l.getD lead 0) (rows.getD i (zero4, zb)).2 (rows.getD j (zero4, zb)).2) else rows)
def elimI (m : Nat) : Nat → Nat → List (V4 × β) → List (V4 × β)
  | _, 0, rows => rows
  | i, n + 1, rows => elimI m (i + 1) n (elimJ sub zb i (leadV (rows.getD i (zero4, zb)).1).toNat 0 m rows)
/-- all beginnings are there -/
def elimOk (m : Nat) : Nat → Nat → List (V4 × β) → Bool
  | _, 0, rows => rows.all fun r => decide (0 ≤ leadV r.1)
  | i, n + 1, rows => decide (0 ≤ leadV (rows.getD i (zero4, zb)).1) && elimOk m (i + 1) n (elimJ sub zb i (leadV (rows.getD i (zero4, zb)).1).toNat 0 m rows)
def outE (rows : List (V4 × β)) : List β := rows.foldl (fun o r => o.set (leadV r.1).toNat r.2) [zb, zb, zb, zb]
end
def subV (c a b : Int) : Int := (b - a * c % 31) % 31
def toldF (w : List Int) (k : Kept) : V4 × Int := (k.1, accR (fun i => k.2.l.getD i 0 * w.getD i 0) 0 w.length 0)
def toldL (kind : Int) (w shards : List Int) : List (V4 × Int) := (spanF (rowsF kind shards)).1.map (toldF w)
def solveL (kind : Int) (vals shards : List Int) : List Int :=
  outE 0 (elimI subV 0 (toldL kind (valsAt vals shards) shards).length 0 (toldL kind (valsAt vals shards) shards).length (toldL kind (valsAt vals shards) shards))
def v4of (l : List Int) : V4 := (l.getD 0 0, l.getD 1 0, l.getD 2 0, l.getD 3 0)
def solveI (kind : Int) (vals shards : List Int) : V4 := v4of (solveL kind vals shards)
def solveOk (kind : Int) (vals shards : List Int) : Bool := elimOk subV 0 (toldL kind (valsAt vals shards) shards).length 0 (toldL kind (valsAt vals shards) shards).length (toldL kind (valsAt vals shards) shards)
def fitsI (kind : Int) (vals shards : List Int) : Bool := shards.all fun i => decide (dotF (rowV kind i) (solveI kind vals shards) = vals.getD i.toNat 0)

/-! ## What is plain -/
theorem lead_cases (v : V4) : (leadV v = -1 ∧ ∀ j, j < 4 → v.l.getD j 0 = 0) ∨ ∃ j : Nat, j < 4 ∧ leadV v = (j : Int) ∧ v.l.getD j 0 ≠ 0 := by
  rcases findI_spec (p := fun j => !decide (v.l.getD j 0 = 0)) (n := 4) (i := 0) with ⟨h1, h2⟩ | ⟨j, h1, h2, h3, h4, h5⟩
  · refine .inl ⟨h1, fun j hj => ?_⟩
    have := h2 j (Nat.zero_le _) (by omega)
    simpa using this
  · refine .inr ⟨j, by omega, h3, ?_⟩
    simpa using h4
theorem lead_le (v : V4) : -1 ≤ leadV v ∧ leadV v ≤ 3 := by
  rcases lead_cases v with ⟨h, _⟩ | ⟨j, hj, h, _⟩ <;> omega
theorem findR_mem {α : Type} {p : Nat → Bool} {v : Nat → α} {d : α} : ∀ {n i : Nat}, findR p v d i n = d ∨ ∃ j, i ≤ j ∧ j < i + n ∧ findR p v d i n = v j
  | 0, _ => .inl rfl
  | n + 1, i => by
    rw [findR]
    cases p i
    · rcases findR_mem (p := p) (v := v) (d := d) (n := n) (i := i + 1) with h | ⟨j, h1, h2, h3⟩
      · exact .inl h
      · exact .inr ⟨j, by omega, by omega, h3⟩
    · exact .inr ⟨i, Nat.le_refl _, by omega, rfl⟩
theorem invE_ok (a : Int) : FOk (invE a) := by
  rw [invE]
  rcases findR_mem (p := fun j => decide (a * (j : Int) % 31 = 1)) (v := fun j => (j : Int)) (d := 0) (n := 30) (i := 1) with h | ⟨j, h1, h2, h3⟩
  · rw [h]; exact ⟨by omega, by omega⟩
  · rw [h3]; exact ⟨by omega, by omega⟩
theorem inv_key : ∀ n : Nat, n < 31 → n ≠ 0 → (n : Int) * invE (n : Int) % 31 = 1 := by decide +kernel
theorem inv_spec {a : Int} (h : FOk a) (h0 : a ≠ 0) : a * invE a % 31 = 1 := by
  obtain ⟨h1, h2⟩ := h
  have := inv_key a.toNat (by omega) (by omega)
  rw [show ((a.toNat : Nat) : Int) = a by omega] at this
  exact this
theorem scale_get (v : V4) (c : Int) (j : Nat) (hj : j < 4) : (vtimes v c).l.getD j 0 = v.l.getD j 0 * c % 31 := by
  have : j = 0 ∨ j = 1 ∨ j = 2 ∨ j = 3 := by omega
  rcases this with rfl | rfl | rfl | rfl <;> rfl
theorem lead_scale {v : V4} (hv : VOk v) (h : 0 ≤ leadV v) : 0 ≤ leadV (vtimes v (invE (atL v))) := by
  rcases lead_cases v with ⟨h1, _⟩ | ⟨j, hj, h1, h2⟩
  · omega
  · have e : atL v = v.l.getD j 0 := by rw [atL, h1, Int.toNat_natCast]
    have h3 := inv_spec (vok_get hv j) h2
    rcases lead_cases (vtimes v (invE (atL v))) with ⟨_, g⟩ | ⟨i, _, g, _⟩
    · have := g j hj
      rw [scale_get _ _ _ hj, e, h3] at this
      omega
    · omega
theorem of_get (f : Nat → Int) (i : Nat) (h : i < 8) : (V8.of f).l.getD i 0 = f i := by
  have : i = 0 ∨ i = 1 ∨ i = 2 ∨ i = 3 ∨ i = 4 ∨ i = 5 ∨ i = 6 ∨ i = 7 := by omega
  rcases this with rfl | rfl | rfl | rfl | rfl | rfl | rfl | rfl <;> rfl
def BOk (b : V8) : Prop := ∀ i, FOk (b.l.getD i 0)
def KOk (k : Kept) : Prop := VOk k.1 ∧ BOk k.2
theorem bok_of {f : Nat → Int} (h : ∀ i, FOk (f i)) : BOk (V8.of f) := by
  intro i
  by_cases hi : i < 8
  · rw [of_get f i hi]; exact h i
  · rw [List.getD, List.getElem?_eq_none (by simp [V8.l]; omega)]
    exact ⟨Int.le_refl _, by decide⟩
theorem lessK_ok (k r : Kept) : KOk (lessK k r) := ⟨vplus_ok _ _, bok_of fun i => fok_mod _⟩
theorem scaleK_ok (k : Kept) (c : Int) : KOk (scaleK k c) := ⟨vtimes_ok _ _, bok_of fun i => fok_mod _⟩
theorem unit8_ok (i : Nat) : BOk (unit8 i) := bok_of fun j => by split <;> exact ⟨by omega, by omega⟩
theorem zero8_ok : BOk zero8 := by
  have : zero8 = V8.of fun _ => 0 := rfl
  rw [this]
  exact bok_of fun _ => ⟨by omega, by omega⟩
theorem lessF_ok : ∀ {rows : List Kept} {k : Kept}, KOk k → KOk (lessF rows k)
  | [], k, h => h
  | r :: rs, k, h => lessF_ok (rows := rs) (lessK_ok k r)
def RowsOk (rows : List Kept) : Prop := ∀ r ∈ rows, KOk r ∧ 0 ≤ leadV r.1
theorem spanStep_ok {s : List Kept × List Int} {i : Nat} {row : V4} (h : RowsOk s.1) (hr : VOk row) : RowsOk (spanStep s i row).1 := by
  have hk : KOk (lessF s.1 (row, unit8 i)) := lessF_ok ⟨hr, unit8_ok i⟩
  unfold spanStep
  by_cases c : leadV (lessF s.1 (row, unit8 i)).1 < 0
  · rw [decide_eq_true c]; exact h
  · rw [decide_eq_false c]
    intro r hm
    rcases List.mem_append.1 hm with hm | hm
    · exact h r hm
    · rw [List.mem_singleton] at hm
      subst hm
      exact ⟨scaleK_ok _ _, lead_scale hk.1 (by omega)⟩
theorem spanR_ok {m : List V4} (hm : ∀ v ∈ m, VOk v) : ∀ {n i : Nat} {s : List Kept × List Int}, i + n ≤ m.length → RowsOk s.1 → RowsOk (spanR m i n s).1
  | 0, i, s, _, h => h
  | n + 1, i, s, hi, h => by
    rw [spanR]
    refine spanR_ok hm (by omega) (spanStep_ok h (hm _ ?_))
    rw [getD_eq (show i < m.length by omega)]
    exact List.getElem_mem _
theorem spanF_ok {m : List V4} (hm : ∀ v ∈ m, VOk v) : RowsOk (spanF m).1 := spanR_ok hm (by omega) (fun r h => by cases h)
theorem spanR_len {m : List V4} : ∀ {n i : Nat} {s : List Kept × List Int}, s.1.length = s.2.length → s.1.length ≤ i → (spanR m i n s).1.length = (spanR m i n s).2.length ∧ (spanR m i n s).1.length ≤ i + n
  | 0, i, s, h, h' => ⟨h, by rw [spanR]; omega⟩
  | n + 1, i, s, h, h' => by
    rw [spanR]
    have : (spanStep s i (m.getD i zero4)).1.length = (spanStep s i (m.getD i zero4)).2.length ∧ (spanStep s i (m.getD i zero4)).1.length ≤ i + 1 := by
      unfold spanStep
      cases decide (leadV (lessF s.1 (m.getD i zero4, unit8 i)).1 < 0)
      · rw [cond_false, List.length_append, List.length_append]
        simp only [List.length_cons, List.length_nil]
        omega
      · rw [cond_true]; omega
    have h2 := spanR_len (m := m) (n := n) (i := i + 1) this.1 this.2
    exact ⟨h2.1, by omega⟩
theorem spanF_len (m : List V4) : (spanF m).1.length = (spanF m).2.length ∧ (spanF m).1.length ≤ m.length := by
  have := spanR_len (m := m) (n := m.length) (i := 0) (s := ([], [])) rfl (Nat.le_refl _)
  exact ⟨this.1, by have := this.2; rw [Nat.zero_add] at this; exact this⟩
theorem rows_ok (kind : Int) (shards : List Int) : ∀ v ∈ rowsF kind shards, VOk v := by
  intro v hv
  obtain ⟨i, _, rfl⟩ := List.mem_map.1 hv
  exact rowV_ok _ _
theorem accR_ok {f : Nat → Int} : ∀ {n i : Nat} {acc : Int}, FOk acc → FOk (accR f i n acc)
  | 0, _, _, h => h
  | n + 1, i, acc, h => accR_ok (n := n) (fok_mod _)

end Go.Proofs.Ytjoiadaogppmkaa.Sh
