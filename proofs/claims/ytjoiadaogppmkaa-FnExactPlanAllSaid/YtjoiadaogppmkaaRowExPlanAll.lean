/- The statement FnExactPlanAll of the given program: proved from the contract of its function. No condition. -/
import Derived.Test.YtjoiadaogppmkaaShQd
import Derived.Test.YtjoiadaogppmkaaRows
import Derived.Test.YtjoiadaogppmkaaShOpen
import Derived.Test.YtjoiadaogppmkaaShOrder
import Derived.WalkKit
import Derived.ProofKit
import Derived.OpenShut
import Derived.ChangeOld
import Derived.Below
import Derived.SizedLaws
import Derived.Lib.Hide
/-! ## ShU1 -/
namespace Go.Proofs.Ytjoiadaogppmkaa.Sh
open Go Go.RowKit
set_option linter.unusedVariables false
set_option linter.unusedSimpArgs false

abbrev TI' : Ty := .int .i64
abbrev TP : Ty := .pair (.int .i64) (.pair (.sl (.int .i64)) (.sl (.int .i64)))

theorem frame_below {ρ : Rho} {h : Heap} {w w' : World} {B : Nat} (hf : Frame (own ρ h) w w') (hB : B ≤ w.heap.size) (ho : ∀ r, own ρ h r → B ≤ r) : Below B w w' :=
  ⟨hf.os, hf.tape, hf.output, hf.size, fun k hk => hf.block k (by omega) (fun h => by have := ho k h; omega)⟩
theorem own_nil {ρ : Rho} {r : Nat} : ¬ own ρ [] r := by rintro ⟨b, x, base, h, _⟩; simp at h

abbrev old (B : Nat) : Nat → Prop := fun r => B ≤ r
theorem RD.young {w : World} {av : Nat → Prop} {t : Ty} {x : t.D} {vs : List Value} (h : RD w av t x vs) : RD w (old w.heap.size) t x vs :=
  RD.mono (fun r hr h' => absurd h' (by show ¬ (_ ≤ _); omega)) (fun _ _ _ _ h => h) t x vs h
theorem RD.below {w w' : World} {B : Nat} {t : Ty} {x : t.D} {vs : List Value} (hb : Below B w w') (h : RD w (old B) t x vs) : RD w' (old B) t x vs :=
  RD.mono (fun r _ h => h) (fun r o v hr hv => by rw [at_same (hb.block r (by simp only [old] at hr; omega))]; exact hv) t x vs h
theorem RD.weak {w : World} {B B' : Nat} (hB : B ≤ B') {t : Ty} {x : t.D} {vs : List Value} (h : RD w (old B) t x vs) : RD w (old B') t x vs :=
  RD.mono (fun r _ h => Nat.le_trans hB h) (fun _ _ _ _ h => h) t x vs h
theorem RD.free {w : World} {B : Nat} {t : Ty} {x : t.D} {vs : List Value} (h : RD w (old B) t x vs) : RD w (fun _ => False) t x vs :=
  RD.mono (fun r _ h => h.elim) (fun _ _ _ _ h => h) t x vs h

def rho0 : Rho := fun _ => none
theorem relH_nil (w : World) : RelH (fun _ => False) rho0 [] w :=
  ⟨fun _ _ _ _ _ h => by simp at h, fun _ _ h => by simp at h, fun _ _ _ h => by simp at h, fun _ h => h.elim⟩

def ResOk (w' : World) (ρ' : Rho) (lent' : Heap) (v : Value) : List W → Prop
  | [x] => RelW w' (avs (fun _ => False) ρ' lent') ρ' lent' x v
  | xs => ∃ arr : Array Value, v = .tuple arr ∧ All2 (RelW w' (avs (fun _ => False) ρ' lent') ρ' lent') xs arr.toList
/-- A contract with nothing lent, told of values. -/
theorem SC.plain {P : Program} {f : Nat} {args : List W} {res : List W} {lent' : Heap} (h : SC P f args [] res lent') (w : World) (vs : Array Value) (hA : All2 (RelW w (avs (fun _ => False) rho0 []) rho0 []) args vs.toList) :
    Calls P f vs w fun e w' => ∃ v ρ', e = .returned v ∧ RelH (fun _ => False) ρ' lent' w' ∧ ResOk w' ρ' lent' v res ∧
      Below w.heap.size w w' ∧ (∀ b r base, b < lent'.length → ρ' b = some (r, base) → w.heap.size ≤ r) := by
  refine (h w vs rho0 (fun _ => False) (relH_nil w) hA).mono ?_
  rintro e w' ⟨v, ρ', h1, h2, h3, h4, h5, h6, h7, h8, h9⟩
  exact ⟨v, ρ', h1, h2, by
    match res, h3 with
    | [], h3 => exact h3
    | [x], h3 => exact h3
    | x :: y :: l, h3 => exact h3, frame_below h4 (Nat.le_refl _) (fun r hr => absurd hr own_nil), fun b r base hb => h8 b r base (Nat.zero_le _) hb⟩

theorem ro_arg {w : World} {t : Ty} {l : List t.D} {v : Value} {B : Nat} (h : RD w (old B) (.sl t) l [v]) : RelW w (avs (fun _ => False) rho0 []) rho0 [] (.one (.ro t l)) v :=
  RD.mono (fun r _ h => by rcases h with h | h; exact h.elim; exact absurd h own_nil) (fun _ _ _ _ h => h) (.sl t) l [v] h

/-- A slice of ints in a block of its own. -/
def ISl (w : World) (l : List Int) (v : Value) : Option Nat → Prop
  | none => ∃ ad, v = .slice ad 0 0 ∧ l = []
  | some r => ∃ base c cs e, v = .slice (some ⟨r, base, none⟩) l.length c ∧ l.length ≤ c ∧ w.heap[r]? = some (.cells cs e (0, 0)) ∧ base + c ≤ cs.size ∧ ∀ i x, l[i]? = some x → cs[base + i]? = some (.int .i64 x)

theorem ISl.kept {w w' : World} {l : List Int} {v : Value} {q : Option Nat} (h : ISl w l v q) (hb : ∀ r, q = some r → w'.heap[r]? = w.heap[r]?) : ISl w' l v q := by
  cases q with
  | none => exact h
  | some r =>
    obtain ⟨base, c, cs, e, h1, h2, h3, h4, h5⟩ := h
    exact ⟨base, c, cs, e, h1, h2, by rw [hb r rfl]; exact h3, h4, h5⟩
theorem ISl.lt {w : World} {l : List Int} {v : Value} {r : Nat} (h : ISl w l v (some r)) : r < w.heap.size := by
  obtain ⟨base, c, cs, e, _, _, h3, _⟩ := h
  exact (Array.getElem?_eq_some_iff.1 h3).1
theorem at_cells {w : World} {r o : Nat} {cs : Array Value} {e : TypeId} {fz : Nat × Nat} {v : Value} (h : w.heap[r]? = some (.cells cs e fz)) (hv : cs[o]? = some v) : at_ w r o = some v := by
  rw [at_, cell_of_row w r o cs e fz h]; exact hv
theorem ISl.rd {w : World} {l : List Int} {v : Value} {q : Option Nat} (h : ISl w l v q) : RD w (fun _ => False) (.sl (.int .i64)) l [v] := by
  cases q with
  | none =>
    obtain ⟨ad, h1, h2⟩ := h
    subst h1; subst h2
    exact ⟨ad, 0, rfl, Nat.le_refl _, fun i x hi => by simp at hi⟩
  | some r =>
    obtain ⟨base, c, cs, e, h1, h2, h3, h4, h5⟩ := h
    subst h1
    refine ⟨_, c, rfl, h2, fun i x hi => ⟨r, base, [.int .i64 x], rfl, fun h => h, rfl, fun j v hj => ?_⟩⟩
    cases j with
    | zero => simp at hj; subst hj; exact at_cells h3 (by simpa [Ty.size] using h5 i x hi)
    | succ j => simp at hj
theorem ISl.one {w : World} {l : List Int} {v : Value} {q : Option Nat} (h : ISl w l v q) : v.oneCell' = true := by
  cases q with
  | none => obtain ⟨ad, h1, _⟩ := h; subst h1; rfl
  | some r => obtain ⟨base, c, cs, e, h1, _⟩ := h; subst h1; rfl

/-- out of a contract's own row -/
theorem isl_of {A : Nat → Prop} {ρ : Rho} {h : Heap} {w : World} {b : Nat} {l : List Int} {s : RS} {v : Value} (hH : RelH A ρ h w) (hb : h[b]? = some (.row (.int .i64) l s)) (hv : RelC w (avs A ρ h) ρ h (.sl b none) v) :
    ∃ q, ISl w l v q ∧ ∀ r, q = some r → ∃ base, ρ b = some (r, base) := by
  obtain ⟨t, l', s', o, n, ad, c, h1, h2, h3, h4, h5, h6⟩ := hv
  rw [hb] at h1
  cases h1
  simp only [Option.getD_none, Prod.mk.injEq] at h2
  obtain ⟨rfl, rfl⟩ := h2
  rcases h6 with h6 | ⟨r, base, cs, e, fz, h7, h8, h9, h10⟩
  · have : l = [] := List.eq_nil_of_length_eq_zero (by omega)
    subst this
    subst h6
    exact ⟨none, ⟨ad, h4, rfl⟩, fun r h => by cases h⟩
  · refine ⟨some r, ?_, fun r' e => by cases e; exact ⟨base, h7⟩⟩
    obtain ⟨hr, _, _⟩ := hH.blk b _ hb
    obtain ⟨cs', e', h11, h12⟩ := hr r base h7
    rw [h9] at h11
    cases h11
    subst h8
    refine ⟨base, c, cs, e, by rw [h4]; simp [Ty.size], h5, h9, by simpa [Ty.size] using h10, fun i x hi => ?_⟩
    obtain ⟨vs, hx, hj⟩ := h12 i x hi
    simp only [RD] at hx
    subst hx
    simpa [Ty.size] using hj 0 _ rfl

/-- A row that is handed to a writer. -/
theorem ISl.lend {w : World} {l : List Int} {v : Value} {q : Option Nat} (h : ISl w l v q) : ∃ ρ : Rho, RelH (fun _ => False) ρ [.row (.int .i64) l .own] w ∧ RelC w (avs (fun _ => False) ρ [.row (.int .i64) l .own]) ρ [.row (.int .i64) l .own] (.sl 0 none) v ∧ (∀ r, own ρ [.row (.int .i64) l .own] r → q = some r) ∧ ∀ r base n c, q = some r → v = .slice (some ⟨r, base, none⟩) n c → ρ 0 = some (r, base) := by
  cases q with
  | none =>
    obtain ⟨ad, h1, h2⟩ := h
    subst h1; subst h2
    refine ⟨rho0, ⟨fun _ _ _ _ _ _ _ h => by simp [rho0] at h, fun b x hx => ?_, fun _ _ _ _ h => by simp [rho0] at h, fun _ h => h.elim⟩, ?_, fun r ⟨b, _, _, _, _, h⟩ => by simp [rho0] at h, fun _ _ _ _ h => by cases h⟩
    · match b, hx with
      | 0, hx => simp at hx; subst hx; exact ⟨fun _ _ h => by simp [rho0] at h, fun h => absurd rfl h, fun h => by cases h⟩
    · exact ⟨.int .i64, [], .own, 0, 0, ad, 0, rfl, rfl, Nat.le_refl _, rfl, Nat.le_refl _, .inl rfl⟩
  | some r =>
    have hlt := h.lt
    obtain ⟨base, c, cs, e, h1, h2, h3, h4, h5⟩ := h
    subst h1
    refine ⟨fun b => if b = 0 then some (r, base) else none, ⟨fun b b' _ _ _ hb hb' _ _ => by simp at hb hb'; omega, fun b x hx => ?_, fun b r' base' hb h => ?_, fun _ h => h.elim⟩, ?_, fun r' ⟨b, blk, base', _, _, h⟩ => ?_, fun r' base' n' c' e1 e2 => by cases e1; cases e2; rfl⟩
    · match b, hx with
      | 0, hx =>
        simp at hx; subst hx
        refine ⟨fun r' base' h => ?_, fun _ => ⟨r, base, rfl⟩, fun h => by cases h⟩
        simp at h
        obtain ⟨rfl, rfl⟩ := h
        refine ⟨cs, e, h3, fun i x hi => ⟨[.int .i64 x], rfl, fun j u hj => ?_⟩⟩
        match j, hj with
        | 0, hj => simp at hj; subst hj; simpa [Ty.size] using h5 i x hi
    · simp at hb
      subst hb
      simp at h
      exact ⟨h.1 ▸ hlt, fun h => h⟩
    · exact ⟨.int .i64, l, .own, 0, l.length, _, c, rfl, rfl, by omega, rfl, h2, .inr ⟨r, base, cs, e, (0, 0), rfl, by simp [Ty.size], h3, by simpa [Ty.size] using h4⟩⟩
    · by_cases hb : b = 0
      · simp [hb] at h; rw [h.1]
      · simp [hb] at h

/-- The world turned in block q alone, and grew. -/
def Only (q : Option Nat) (w w' : World) : Prop := Frame (fun r => q = some r) w w'

theorem mark_ints (l : List Int) (k : Int) (hl : l.length ≤ 1048576) (k0 : 0 ≤ k) (k1 : k ≤ 1073741824) {w : World} {v : Value} {q : Option Nat} (h : ISl w l v q) :
    Calls P 46 #[v, .int .i64 k] w fun e w' => e = .returned (.int .i64 (k + l.length)) ∧ ISl w' (marks (fun k : Int => k) k l.length) v q ∧ Only q w w' := by
  obtain ⟨ρ, hH, hv, ho, hz⟩ := h.lend
  refine (c46 l k hl k0 k1 w _ ρ (fun _ => False) hH (.cons hv (.cons rfl .nil))).mono ?_
  rintro e w' ⟨u, ρ', h1, h2, h3, h4, h5, h6, h7, h8, h9⟩
  simp only [RelW, RelC] at h3
  subst h3
  refine ⟨h1, ?_, ⟨h4.os, h4.tape, h4.output, h4.size, fun r hr hq => h4.block r hr (fun h => hq (ho r h)), h4.room⟩⟩
  have he : ρ' 0 = ρ 0 := h6 0 _ rfl (by simp) rfl
  cases q with
  | none =>
    obtain ⟨ad, e1, e2⟩ := h
    subst e2
    exact ⟨ad, e1, rfl⟩
  | some r =>
    obtain ⟨base, c, cs, e, e1, e2, e3, e4, e5⟩ := h
    obtain ⟨cs', e', fz', e6, e7⟩ := h4.room r cs e (0, 0) e3
    rw [hz r base _ _ rfl e1] at he
    obtain ⟨hr, _, _⟩ := h2.blk 0 _ rfl
    obtain ⟨cs2, e8, h11, h12⟩ := hr r base he
    rw [h11] at e6
    cases e6
    refine ⟨base, c, cs', e', by rw [e1, marks_length], by rw [marks_length]; exact e2, h11, by omega, fun i x hi => ?_⟩
    obtain ⟨vs, hx, hj⟩ := h12 i x hi
    simp only [RD] at hx
    subst hx
    simpa [Ty.size] using hj 0 _ rfl

/-! ## Callees, told of values -/
theorem kind_any (k : Int) (w : World) : Calls P 39 #[.int .i64 k] w fun e w' => e = .returned (.bool (inB k 1 2)) ∧ Below w.heap.size w w' := by
  refine ((c39 k).plain w _ (.cons rfl .nil)).mono ?_
  rintro e w' ⟨v, ρ', h1, h2, h3, h4, h5⟩
  simp only [ResOk, RelW, RelC] at h3
  subst h3
  exact ⟨h1, h4⟩
theorem flag_any (there : List Bool) (hl : there.length ≤ 1048576) {w : World} {B : Nat} {u : Value} (hu : RD w (old B) (.sl .bool) there [u]) :
    Calls P 41 #[u] w fun e w' => ∃ v, e = .returned v ∧ RD w' (fun _ => False) (.sl (.int .i64)) (flagF there) [v] ∧ Below w.heap.size w w' := by
  refine ((c41 there hl).plain w _ (.cons (ro_arg hu) .nil)).mono ?_
  rintro e w' ⟨v, ρ', h1, h2, h3, h4, h5⟩
  obtain ⟨q, h6, _⟩ := isl_of h2 rfl h3
  exact ⟨v, h1, h6.rd, h4⟩
theorem plan_any (kind : Int) (hk : inB kind 1 2 = true) (there : List Bool) (h8 : there.length = 8) (i : Nat) (hi : i < 8) {w : World} {u : Value} (hu : RD w (fun _ => False) (.sl (.int .i64)) (flagF there) [u]) :
    Calls P 40 #[.int .i64 kind, .int .i64 (i : Int), u] w fun e w' => ∃ vF vB qF qB, e = .returned (.tuple #[.agg #[.int .i64 (planAt kind there i).1, vF, vB], .bool (planAt kind there i).2.2.2]) ∧
      ISl w' (planAt kind there i).2.1 vF qF ∧ ISl w' (planAt kind there i).2.2.1 vB qB ∧ (∀ r, qF = some r → w.heap.size ≤ r) ∧ (∀ r, qB = some r → w.heap.size ≤ r) ∧ (∀ r, qF = some r → qB = some r → False) ∧ Below w.heap.size w w' := by
  have hfs := sub_sh (flag_sub h8)
  have sp := c40 kind (i : Int) (by omega) (by omega) (flagF there) hfs.1 hfs.2
  rw [show (flagF there).filter (fun x => !decide (x = (i : Int))) = othersF (i : Int) there from rfl, fewest_T hk (by omega) (by omega) h8] at sp
  refine (sp.plain w _ (.cons rfl (.cons rfl (.cons (ro_arg (RD.young hu)) .nil)))).mono ?_
  rintro e w' ⟨v, ρ', h1, h2, h3, h4, h5⟩
  obtain ⟨arr, e1, h6⟩ := h3
  subst e1
  obtain ⟨l⟩ := arr
  match l, h6 with
  | [x, y], .cons h7 (.cons h8 .nil) =>
    obtain ⟨arr, e1, h6⟩ := h7
    subst e1
    simp only [RelW, RelC] at h8
    subst h8
    obtain ⟨l⟩ := arr
    match l, h6 with
    | [x, vF, vB], .cons h9 (.cons h10 (.cons h11 .nil)) =>
      simp only [RelC] at h9
      subst h9
      obtain ⟨qF, h12, h13⟩ := isl_of h2 rfl h10
      obtain ⟨qB, h14, h15⟩ := isl_of h2 rfl h11
      refine ⟨vF, vB, qF, qB, h1, h12, h14, fun r hr => ?_, fun r hr => ?_, fun r hr hr' => ?_, h4⟩
      · obtain ⟨base, hb⟩ := h13 r hr
        exact h5 0 r base (by simp) hb
      · obtain ⟨base, hb⟩ := h15 r hr
        exact h5 1 r base (by simp) hb
      · obtain ⟨base, hb⟩ := h13 r hr
        obtain ⟨base', hb'⟩ := h15 r hr'
        have := h2.inj 0 1 r base base' (by simp) (by simp) hb hb'
        omega
set_option maxHeartbeats 400000 in
theorem clip_any (ad : Option Addr) (n c : Nat) (w : World) (hc : n ≤ c) : Calls P 42 #[.slice ad n c] w fun e w' => e = .returned (.slice ad n n) ∧ w' = w := by
  go_enter Try.func42, Try.ntmps42
  go_wp2
  go_ret
  exact ⟨rfl, rfl⟩
end Go.Proofs.Ytjoiadaogppmkaa.Sh
/-! ## ShU2 -/
namespace Go.Proofs.Ytjoiadaogppmkaa.Sh
open Go Go.RowKit
set_option linter.unusedVariables false
set_option linter.unusedSimpArgs false

theorem und26 : P.underlying 26 = some (.slice 32) := by kernel_rfl
theorem und23 : P.underlying 23 = some (.slice 4) := by kernel_rfl
theorem und30 : P.underlying 30 = some (.slice 3) := by kernel_rfl
theorem inf32 : (P.info? 32).map (fun i => (i.zero, i.size, i.bytes)) = some (some (.agg #[.int .i64 0, .slice none 0 0, .slice none 0 0]), 3, 56) := by kernel_rfl

/-- An append either stays in its block or moves to a new one. -/
theorem append_block {P : Program} {w w' : World} {base : Nat} {t ty e : TypeId} {i : TypeInfo} {z : Value} {size bytes : Nat} (ht : P.underlying t = some (.slice e)) (hi : P.info? e = some i) (hz : i.zero = some z)
    (hsize : i.size = size) (hby : i.bytes = bytes) (hzs : z.cells.size = size) (hsz : 0 < size)
    {v v' : Value} {n : Nat} {xs : List Value} (hown : w.ownsRow base e size v n xs)
    {a : Addr} {m c : Nat} {news : List Value} (hl : news.length = m * size) (hnews : ∀ j u, news[j]? = some u → w.cell? (a.add j) = some u) (h1 : ∀ u ∈ news, u.oneCell' = true)
    (h63 : n + m ≤ maxLen) (hbytes : (n + m) * bytes ≤ 140737488355328) (hm : 0 < m)
    (hr : (Builtin.append_ #[t, t] ty #[v, .slice (some a) m c]).run P w = .ok v' w') : v'.ownBlock = v.ownBlock ∨ v'.ownBlock = some w.heap.size := by
  subst hsize
  subst hby
  have hsmall : n + m ≤ 9223372036854775807 := by simp only [maxLen] at h63; omega
  rcases hown.2 with ⟨rfl, rfl⟩ | ⟨g, cap, cur, rfl, hbg, hg, hnc, hcm, hcs, htake⟩
  · have hr2 := run_append_nil (P := P) w t ty e i z ht hi hz a m c news hl hnews (by omega) (by omega) (by have hb := hbytes; simp only [Nat.zero_add] at hb; omega)
    rw [hr2] at hr
    cases hr
    exact .inr rfl
  · by_cases hroom : n + m ≤ cap
    · have hfit : n * i.size + news.length ≤ cur.size := by rw [hl, hcs, ← Nat.add_mul]; exact Nat.mul_le_mul_right _ hroom
      have hr2 := run_append_room (P := P) w t ty e i ht hi g n cap cur hg a m c news hl hnews h1 hroom hfit
      rw [hr2] at hr
      cases hr
      exact .inl rfl
    · have holds : ∀ j u, xs[j]? = some u → w.cell? ((⟨g, 0, none⟩ : Addr).add j) = some u := hown.cells (g := g) rfl
      have hr2 := run_append_grow (P := P) w t ty e i z ht hi hz ⟨g, 0, none⟩ n cap xs hown.1 holds a m c news hl hnews (by omega) (by omega) (growslice_fits (by omega) hbytes)
      rw [hr2] at hr
      cases hr
      exact .inr rfl

theorem wpList_append_new {P : Program} {w : World} {ops : Array Oper} {rest : List Oper} {o : Oper} {a : Act} {Q : Exit → Act → World → Prop} (hgd : o.guard = none) (s x : Operand) (t : TypeId)
    (ho : o.op = .call { callee := .builtin .append, args := #[s, x], argTypes := #[t, t] })
    (base : Nat) (e : TypeId) (i : TypeInfo) (z : Value) (size bytes : Nat) (ht : P.underlying t = some (.slice e)) (hi : P.info? e = some i) (hz : i.zero = some z)
    (hsize : i.size = size) (hby : i.bytes = bytes) (hzs : z.cells.size = size) (hsz : 0 < size)
    (v : Value) (n : Nat) (xs : List Value) (hs : a.eval s = v) (hown : w.ownsRow base e size v n xs)
    (ad : Addr) (m c : Nat) (news : List Value) (hx : a.eval x = .slice (some ad) m c) (hl : news.length = m * size) (hnews : ∀ j u, news[j]? = some u → w.cell? (ad.add j) = some u) (h1 : ∀ u ∈ news, u.oneCell' = true)
    (h63 : n + m ≤ maxLen) (hbytes : (n + m) * bytes ≤ 140737488355328) (hbase : base ≤ w.heap.size) (hm : 0 < m)
    (h : ∀ v' w', w'.ownsRow base e size v' (n + m) (xs ++ news) → w.grownBy w' v.ownBlock → (v'.ownBlock = v.ownBlock ∨ v'.ownBlock = some w.heap.size) → wpList P ops Q rest (a.put o.dst v') w') : wpList P ops Q (o :: rest) a w := by
  refine wpList_plain hgd fun _ hK => ?_
  obtain ⟨v', w', hr, h2, h3, h4⟩ := run_append_own (P := P) w base t o.type e i z size bytes ht hi hz hsize hby hzs hsz v n xs hown ad m c news hl hnews h1 h63 hbytes hbase
  have h5 := append_block ht hi hz hsize hby hzs hsz hown hl hnews h1 h63 hbytes hm hr
  unfold Oper.wp execOp
  simp only [ho, resolve, invoke, builtin, Sem.run_bind, Sem.run_pure, Result.andThen_ok, List.map_toArray, List.map_cons, List.map_nil, hs, hx, hr]
  exact hK _ _ (h v' w' h2 h3 h5)

def Ls (D : Nat → Pln) (j : Nat) : List Int := if j % 2 = 0 then (D (j / 2)).2.1 else (D (j / 2)).2.2
theorem Ls_even (D : Nat → Pln) (i : Nat) : Ls D (2 * i) = (D i).2.1 := by
  rw [Ls, if_pos (by omega)]; congr; omega
theorem Ls_odd (D : Nat → Pln) (i : Nat) : Ls D (2 * i + 1) = (D i).2.2 := by
  rw [Ls, if_neg (by omega)]; congr; omega
def Cs (D : Nat → Pln) (V : Nat → Value) : Nat → List Value
  | 0 => []
  | n + 1 => Cs D V n ++ [.int .i64 (D n).1, V (2 * n), V (2 * n + 1)]
theorem Cs_len {D : Nat → Pln} {V : Nat → Value} : ∀ {n : Nat}, (Cs D V n).length = n * 3
  | 0 => rfl
  | n + 1 => by simp [Cs, Cs_len (n := n)]; omega
theorem Cs_get {D : Nat → Pln} {V : Nat → Value} : ∀ {n i : Nat}, i < n → (Cs D V n)[3 * i]? = some (.int .i64 (D i).1) ∧ (Cs D V n)[3 * i + 1]? = some (V (2 * i)) ∧ (Cs D V n)[3 * i + 2]? = some (V (2 * i + 1))
  | n + 1, i, h => by
    have hl := Cs_len (D := D) (V := V) (n := n)
    by_cases e : i = n
    · subst e
      simp only [Cs]
      refine ⟨?_, ?_, ?_⟩
      · rw [List.getElem?_append_right (by omega), hl, show 3 * i - i * 3 = 0 by omega]; rfl
      · rw [List.getElem?_append_right (by omega), hl, show 3 * i + 1 - i * 3 = 1 by omega]; rfl
      · rw [List.getElem?_append_right (by omega), hl, show 3 * i + 2 - i * 3 = 2 by omega]; rfl
    · simp only [Cs]
      have hi : i < n := by omega
      rw [List.getElem?_append_left (by omega), List.getElem?_append_left (by omega), List.getElem?_append_left (by omega)]
      exact Cs_get hi
theorem Cs_congr {D D' : Nat → Pln} {V V' : Nat → Value} : ∀ {n : Nat}, (∀ i, i < n → (D i).1 = (D' i).1) → (∀ j, j < 2 * n → V j = V' j) → Cs D V n = Cs D' V' n
  | 0, _, _ => rfl
  | n + 1, h1, h2 => by
    simp only [Cs]
    rw [Cs_congr (fun i hi => h1 i (by omega)) (fun j hj => h2 j (by omega)), h1 n (by omega), h2 (2 * n) (by omega), h2 (2 * n + 1) (by omega)]

/-- The slices of n plans, each in a block of its own. -/
structure Arms (w : World) (B : Nat) (n : Nat) (D : Nat → Pln) (V : Nat → Value) (Q : Nat → Option Nat) : Prop where
  sl : ∀ j, j < 2 * n → ISl w (Ls D j) (V j) (Q j)
  qB : ∀ j r, j < 2 * n → Q j = some r → B ≤ r
  inj : ∀ j j' r, j < 2 * n → j' < 2 * n → Q j = some r → Q j' = some r → j = j'

theorem Arms.kept {w w' : World} {B n : Nat} {D : Nat → Pln} {V : Nat → Value} {Q : Nat → Option Nat} (h : Arms w B n D V Q) (hb : ∀ j r, j < 2 * n → Q j = some r → w'.heap[r]? = w.heap[r]?) : Arms w' B n D V Q :=
  ⟨fun j hj => (h.sl j hj).kept fun r hr => hb j r hj hr, h.qB, h.inj⟩
theorem Arms.lt {w : World} {B n : Nat} {D : Nat → Pln} {V : Nat → Value} {Q : Nat → Option Nat} (h : Arms w B n D V Q) {j r : Nat} (hj : j < 2 * n) (hr : Q j = some r) : r < w.heap.size := by
  have := h.sl j hj
  rw [hr] at this
  exact this.lt
theorem Arms.congr {w : World} {B n : Nat} {D D' : Nat → Pln} {V : Nat → Value} {Q : Nat → Option Nat} (h : Arms w B n D V Q) (hD : ∀ i, i < n → (D i).2 = (D' i).2) : Arms w B n D' V Q :=
  ⟨fun j hj => by have := h.sl j hj; rwa [show Ls D j = Ls D' j by simp only [Ls]; rw [hD (j / 2) (by omega)]] at this, h.qB, h.inj⟩

def put2 {α : Type} (f : Nat → α) (n : Nat) (a b : α) : Nat → α := fun j => if j = 2 * n then a else if j = 2 * n + 1 then b else f j
theorem put2_lt {α : Type} {f : Nat → α} {n j : Nat} {a b : α} (h : j < 2 * n) : put2 f n a b j = f j := by simp only [put2]; rw [if_neg (by omega), if_neg (by omega)]
theorem put2_0 {α : Type} {f : Nat → α} {n : Nat} {a b : α} : put2 f n a b (2 * n) = a := by simp [put2]
theorem put2_1 {α : Type} {f : Nat → α} {n : Nat} {a b : α} : put2 f n a b (2 * n + 1) = b := by simp [put2]
def put1 {α : Type} (f : Nat → α) (n : Nat) (a : α) : Nat → α := fun j => if j = n then a else f j
theorem put1_lt {α : Type} {f : Nat → α} {n j : Nat} {a : α} (h : j ≠ n) : put1 f n a j = f j := by simp only [put1]; rw [if_neg h]
theorem put1_at {α : Type} {f : Nat → α} {n : Nat} {a : α} : put1 f n a n = a := by simp [put1]

theorem Arms.more {w : World} {B n : Nat} {D : Nat → Pln} {V : Nat → Value} {Q : Nat → Option Nat} (h : Arms w B n D V Q) {p : Pln} {vF vB : Value} {qF qB : Option Nat} (hF : ISl w p.2.1 vF qF) (hB : ISl w p.2.2 vB qB) {N : Nat} (hN : B ≤ N) (hlt : ∀ j r, j < 2 * n → Q j = some r → r < N)
    (h1 : ∀ r, qF = some r → N ≤ r) (h2 : ∀ r, qB = some r → N ≤ r) (h3 : ∀ r, qF = some r → qB = some r → False) : Arms w B (n + 1) (put1 D n p) (put2 V n vF vB) (put2 Q n qF qB) := by
  refine ⟨fun j hj => ?_, fun j r hj hr => ?_, fun j j' r hj hj' hr hr' => ?_⟩
  · by_cases e : j = 2 * n
    · subst e; rw [Ls_even, put1_at, put2_0, put2_0]; exact hF
    · by_cases e1 : j = 2 * n + 1
      · subst e1; rw [Ls_odd, put1_at, put2_1, put2_1]; exact hB
      · rw [put2_lt (by omega), put2_lt (by omega), show Ls (put1 D n p) j = Ls D j by simp only [Ls]; rw [put1_lt (by omega)]]; exact h.sl j (by omega)
  · by_cases e : j = 2 * n
    · subst e; rw [put2_0] at hr; exact Nat.le_trans hN (h1 r hr)
    · by_cases e1 : j = 2 * n + 1
      · subst e1; rw [put2_1] at hr; exact Nat.le_trans hN (h2 r hr)
      · rw [put2_lt (by omega)] at hr; exact h.qB j r (by omega) hr
  · have key : ∀ j, j < 2 * (n + 1) → put2 Q n qF qB j = some r → (j = 2 * n ∧ qF = some r ∧ N ≤ r) ∨ (j = 2 * n + 1 ∧ qB = some r ∧ N ≤ r) ∨ (j < 2 * n ∧ Q j = some r ∧ r < N) := by
      intro j hj hr
      by_cases e : j = 2 * n
      · subst e; rw [put2_0] at hr; exact .inl ⟨rfl, hr, h1 r hr⟩
      · by_cases e1 : j = 2 * n + 1
        · subst e1; rw [put2_1] at hr; exact .inr (.inl ⟨rfl, hr, h2 r hr⟩)
        · rw [put2_lt (by omega)] at hr; exact .inr (.inr ⟨by omega, hr, hlt j r (by omega) hr⟩)
    rcases key j hj hr with ⟨a, b, c⟩ | ⟨a, b, c⟩ | ⟨a, b, c⟩ <;> rcases key j' hj' hr' with ⟨a', b', c'⟩ | ⟨a', b', c'⟩ | ⟨a', b', c'⟩
    all_goals first | omega | exact (h3 r b b').elim | exact (h3 r b' b).elim | exact h.inj j j' r a a' b b'

theorem plansR_step {kind : Int} {there : List Bool} {i n : Nat} {out L : List Pln} (h : plansR kind there i (n + 1) out = (L, true)) :
    if there.getD i false then plansR kind there (i + 1) n out = (L, true) else (planAt kind there i).2.2.2 = true ∧ plansR kind there (i + 1) n (out ++ [((planAt kind there i).1, (planAt kind there i).2.1, (planAt kind there i).2.2.1)]) = (L, true) := by
  rw [plansR] at h
  cases e : there.getD i false with
  | true => rw [e, cond_true] at h; simpa using h
  | false =>
    rw [e, cond_false] at h
    cases e2 : (planAt kind there i).2.2.2 with
    | true => rw [e2, cond_true] at h; simpa using h
    | false => rw [e2] at h; simp at h
end Go.Proofs.Ytjoiadaogppmkaa.Sh
/-! ## ShU3 -/
namespace Go.Proofs.Ytjoiadaogppmkaa.Sh
open Go Go.RowKit
set_option linter.unusedVariables false
set_option linter.unusedSimpArgs false

def lst (D : Nat → Pln) : Nat → List Pln
  | 0 => []
  | n + 1 => lst D n ++ [D n]
theorem lst_len {D : Nat → Pln} : ∀ {n : Nat}, (lst D n).length = n
  | 0 => rfl
  | n + 1 => by simp [lst, lst_len (n := n)]
theorem lst_get {D : Nat → Pln} : ∀ {n i : Nat}, i < n → (lst D n)[i]? = some (D i)
  | n + 1, i, h => by
    rw [lst]
    by_cases e : i = n
    · subst e; rw [List.getElem?_append_right (by rw [lst_len]; omega), lst_len]; simp
    · rw [List.getElem?_append_left (by rw [lst_len]; omega)]; exact lst_get (by omega)
theorem lst_congr {D D' : Nat → Pln} : ∀ {n : Nat}, (∀ i, i < n → D i = D' i) → lst D n = lst D' n
  | 0, _ => rfl
  | n + 1, h => by rw [lst, lst, lst_congr (fun i hi => h i (by omega)), h n (by omega)]

structure LoopR (kind : Int) (there : List Bool) (L : List Pln) (B : Nat) (w : World) (k n : Nat) (D : Nat → Pln) (V : Nat → Value) (Q : Nat → Option Nat) (v : Value) (wr : World) : Prop where
  k8 : k ≤ 8
  nk : n ≤ k
  todo : plansR kind there k (8 - k) (lst D n) = (L, true)
  own : wr.ownsRow B 32 3 v n (Cs D V n)
  arms : Arms wr B n D V Q
  apart : ∀ j r, j < 2 * n → Q j = some r → v.ownBlock ≠ some r
  bel : Below B w wr

def Deep (w : World) (B : Nat) (v : Value) (n : Nat) (D : Nat → Pln) (V : Nat → Value) (Q : Nat → Option Nat) (g : Option Nat) : Prop :=
  Arms w B n D V Q ∧ (∀ j r, j < 2 * n → Q j = some r → g ≠ some r) ∧ (∀ r, g = some r → B ≤ r) ∧
  match g with
  | none => ∃ ad c, v = .slice ad 0 c ∧ n = 0
  | some r => ∃ c cs e, v = .slice (some ⟨r, 0, none⟩) n c ∧ n ≤ c ∧ w.heap[r]? = some (.cells cs e (0, 0)) ∧ c * 3 ≤ cs.size ∧ ∀ i, i < n → cs[3 * i]? = some (.int .i64 (D i).1) ∧ cs[3 * i + 1]? = some (V (2 * i)) ∧ cs[3 * i + 2]? = some (V (2 * i + 1))

/-- What the call leaves. -/
def Made (L : List Pln) (w : World) (e : Ending) (w' : World) : Prop :=
  ∃ v D V Q g, e = .returned (.tuple #[v, .bool true]) ∧ Deep w' w.heap.size v L.length D V Q g ∧ L = lst D L.length ∧ Below w.heap.size w w'

theorem ISl.val {w : World} {l : List Int} {v : Value} {q : Option Nat} (h : ISl w l v q) : ∃ ad n c, v = .slice ad n c := by
  cases q with
  | none => obtain ⟨ad, h1, _⟩ := h; exact ⟨_, _, _, h1⟩
  | some r => obtain ⟨base, c, cs, e, h1, _⟩ := h; exact ⟨_, _, _, h1⟩

theorem own_head {w : World} {B n : Nat} {v : Value} {xs : List Value} (h : w.ownsRow B 32 3 v n xs) : ∃ ad c, v = .slice ad n c ∧ n ≤ c := by
  rcases h.2 with ⟨h1, h2⟩ | ⟨g, cap, cur, h1, h2, h3, h4, h5⟩
  · exact ⟨none, 0, by rw [h1, h2], by omega⟩
  · exact ⟨_, cap, h1, h4⟩

theorem LoopR.step {kind : Int} {there : List Bool} {L : List Pln} {B : Nat} {w wr w2 w3 w4 : World} {k n : Nat} {D : Nat → Pln} {V : Nat → Value} {Q : Nat → Option Nat} {v v' : Value} (H : LoopR kind there L B w k n D V Q v wr) (hk8 : k < 8) {p : Pln}
    (HP : plansR kind there (k + 1) (8 - (k + 1)) (lst D n ++ [p]) = (L, true)) (hb2 : Below wr.heap.size wr w2) (hb3 : Below w2.heap.size w2 w3) {vF vB : Value} {qF qB : Option Nat} (hF : ISl w3 p.2.1 vF qF) (hB : ISl w3 p.2.2 vB qB)
    (hqF : ∀ r, qF = some r → w2.heap.size ≤ r) (hqB : ∀ r, qB = some r → w2.heap.size ≤ r) (hqq : ∀ r, qF = some r → qB = some r → False) (hBw : B ≤ wr.heap.size) {o o' : Obj}
    (hown4 : w4.ownsRow B 32 3 v' (n + 1) (Cs D V n ++ [.int .i64 p.1, vF, vB])) (hgrow4 : ((w3.alloc o).alloc o').grownBy w4 v.ownBlock) (hblk4 : v'.ownBlock = v.ownBlock ∨ v'.ownBlock = some ((w3.alloc o).alloc o').heap.size) :
    LoopR kind there L B w (k + 1) (n + 1) (put1 D n p) (put2 V n vF vB) (put2 Q n qF qB) v' w4 := by
  have hs2 := hb2.size
  have hs3 := hb3.size
  have hvl := H.own.lt
  have hso : ((w3.alloc o).alloc o').heap.size = w3.heap.size + 2 := by simp
  have a3 : Arms w3 B n D V Q := H.arms.kept fun j r hj hr => by
    have := H.arms.lt hj hr
    rw [hb3.block r (by omega), hb2.block r (by omega)]
  have am := a3.more (p := p) hF hB (N := w2.heap.size) (by omega) (fun j r hj hr => by have := H.arms.lt hj hr; omega) hqF hqB hqq
  have hne : ∀ j r, j < 2 * (n + 1) → put2 Q n qF qB j = some r → v.ownBlock ≠ some r := by
    intro j r hj hr e
    have := (hvl r e).2
    by_cases e1 : j = 2 * n
    · subst e1; rw [put2_0] at hr; have := hqF r hr; omega
    · by_cases e2 : j = 2 * n + 1
      · subst e2; rw [put2_1] at hr; have := hqB r hr; omega
      · rw [put2_lt (by omega)] at hr
        exact H.apart j r (by omega) hr e
  refine ⟨by omega, by have := H.nk; omega, ?_, ?_, am.kept ?_, ?_, ?_⟩
  · rw [lst, put1_at, lst_congr (D' := D) (fun i hi => put1_lt (by omega))]
    exact HP
  · rw [Cs, put1_at, put2_0, put2_1, Cs_congr (D' := D) (V' := V) (fun i hi => by rw [put1_lt (by omega)]) (fun j hj => put2_lt hj)]
    exact hown4
  · intro j r hj hr
    have hlt := am.lt hj hr
    rw [hgrow4.block r (by omega) (fun e => hne j r hj hr e.symm), Below.heap_alloc _ _ _ (by simp; omega), Below.heap_alloc _ _ _ hlt]
  · intro j r hj hr e
    have hlt := am.lt hj hr
    rcases hblk4 with h | h
    · exact hne j r hj hr (by rw [← h, e])
    · rw [h, hso] at e
      cases e
      omega
  · refine Below.grown ((((H.bel.trans (hb2.mono hBw)).trans (hb3.mono (by omega))).alloc (by omega) o).alloc (by simp; omega) o') hgrow4 (by omega) (fun k hk => (hvl k hk).1)

theorem LoopR.made {kind : Int} {there : List Bool} {L : List Pln} {w wr : World} {n : Nat} {D : Nat → Pln} {V : Nat → Value} {Q : Nat → Option Nat} {ad : Option Addr} {c : Nat} (H : LoopR kind there L w.heap.size w 8 n D V Q (.slice ad n c) wr) :
    Made L w (.returned (.tuple #[.slice ad n n, .bool true])) wr := by
  have hL := H.todo
  simp only [Nat.sub_self, plansR, Prod.mk.injEq, and_true] at hL
  have hn : L.length = n := by rw [← hL, lst_len]
  refine ⟨_, D, V, Q, (Value.slice ad n c).ownBlock, rfl, ⟨by rw [hn]; exact H.arms, fun j r hj hr => H.apart j r (by omega) hr, fun r hr => (H.own.lt r hr).1, ?_⟩, by rw [hn]; exact hL.symm, H.bel⟩
  obtain ⟨hl, h | ⟨g, cap, cur, h1, h2, h3, h4, h5, h6, h7⟩⟩ := H.own
  · obtain ⟨h1, h2⟩ := h
    cases h1
    exact ⟨none, 0, by rw [h2], by omega⟩
  · cases h1
    have hg : ∀ (j : Nat) (x : Value), (Cs D V n)[j]? = some x → cur[j]? = some x := by
      intro j x hj
      rw [← h7, List.getElem?_take] at hj
      split at hj
      · simpa using hj
      · cases hj
    refine ⟨n, cur, 32, by rw [hn], by omega, h3, by omega, fun i hi => ?_⟩
    obtain ⟨a, b, c⟩ := Cs_get (D := D) (V := V) (n := n) (i := i) (by omega)
    exact ⟨hg _ _ a, hg _ _ b, hg _ _ c⟩

theorem below_grown {w w' : World} (h : Below w.heap.size w w') (row : Option Nat) : w.grownBy w' row := ⟨h.os, h.tape, h.output, h.size, fun k hk _ => h.block k hk⟩
theorem cell3_new (w : World) (a b c : Value) (r : Nat) (hr : r = w.heap.size) : ∀ (j : Nat) (u : Value), [a, b, c][j]? = some u → (w.alloc (.cells #[a, b, c] 32)).cell? ((⟨r, 0, none⟩ : Addr).add j) = some u := by
  subst hr
  intro j u hj
  rw [show (⟨w.heap.size, 0, none⟩ : Addr).add j = ⟨w.heap.size, j, none⟩ by unfold Addr.add; split <;> simp_all]
  rw [cell_of_row (w.alloc (.cells #[a, b, c] 32)) w.heap.size j #[a, b, c] 32 (0, 0) (heap_alloc_new w _)]
  simpa using hj

theorem three_one (p : Int) (aF : Option Addr) (nF cF : Nat) (aB : Option Addr) (nB cB : Nat) : ∀ u ∈ [Value.int .i64 p, .slice aF nF cF, .slice aB nB cB], u.oneCell' = true := by
  intro u hu
  simp at hu
  rcases hu with rfl | rfl | rfl <;> rfl

set_option maxRecDepth 100000 in
set_option maxHeartbeats 1000000 in
theorem planAll_walk (kind : Int) (hk : inB kind 1 2 = true) (there : List Bool) (h8 : there.length = 8) (L : List Pln) (hL : plansR kind there 0 8 [] = (L, true)) {w : World} {ub uo uc : Nat} (hc8 : 8 ≤ uc)
    (hu : RD w (old w.heap.size) (.sl .bool) there [.slice (some ⟨ub, uo, none⟩) 8 uc]) (hcell : ∀ k, k < 8 → w.cell? ⟨ub, uo + k, none⟩ = some (.bool (there.getD k false))) (hub : ub < w.heap.size) :
    Calls P 10 #[.int .i64 kind, .slice (some ⟨ub, uo, none⟩) 8 uc] w (Made L w) := by
  obtain ⟨i0, hi, hz0, hz1, hz2⟩ := info_parts inf32
  have HL : Hid (plansR kind there 0 8 [] = (L, true)) := hL
  have HK : Hid (inB kind 1 2 = true) := hk
  have H8 : Hid (there.length = 8) := h8
  have HC : Hid (∀ k, k < 8 → w.cell? ⟨ub, uo + k, none⟩ = some (.bool (there.getD k false))) := hcell
  have HI : Hid (P.info? 32 = some i0 ∧ i0.zero = some (.agg #[.int .i64 0, .slice none 0 0, .slice none 0 0]) ∧ i0.size = 3 ∧ i0.bytes = 56) := ⟨hi, hz0, hz1, hz2⟩
  clear hL h8 hcell hi hz0 hz1 hz2
  go_enter Try.func10, Try.ntmps10
  go_wp2_with (go_at_call 39; refine (kind_any _ _).mono ?_; rintro e w1 ⟨rfl, hb1⟩)
  have hsz1 := hb1.size
  go_loopw [6, 22] (fun v i wr => ∃ k n D V Q, i = .int .i64 ((k : Nat) : Int) ∧ LoopR kind there L w.heap.size w k n D V Q v wr) (fun _ i _ => 8 - (intOf i).toNat)
  case atStart =>
    refine ⟨0, 0, fun _ => (0, [], []), fun _ => .bool false, fun _ => none, rfl, ⟨by omega, by omega, HL.out, ?_, ⟨fun j hj => by omega, fun j r hj => by omega, fun j j' r hj => by omega⟩, fun j r hj => by omega, ?_⟩⟩
    · exact World.ownsRow_made _ _ 0 (by omega) (by decide) rfl
    · exact hb1.alloc (by omega) _
  case round =>
    obtain ⟨k, n, D, V, Q, rfl, hR⟩ := hrel
    have HR : Hid (LoopR kind there L w.heap.size w k n D V Q u6 wr) := hR
    by_cases hk8 : k < 8
    · have hc := (hR.bel.cell (p := ⟨ub, uo + k, none⟩) hub).trans (HC.out k hk8)
      cases ht : there.getD k false with
      | true =>
        rw [ht] at hc
        have HT : Hid (there.getD k false = true) := ht
        clear hR ht
        go_wp2
        go_roundw
        case rel =>
          have hp := plansR_step (show plansR kind there k ((8 - (k + 1)) + 1) (lst D n) = (L, true) by have := HR.out.todo; rwa [show 8 - k = 8 - (k + 1) + 1 by omega] at this)
          rw [HT.out] at hp
          exact ⟨k + 1, n, D, V, Q, by go_num, ⟨by omega, Nat.le_succ_of_le HR.out.nk, by simpa using hp, HR.out.own, HR.out.arms, HR.out.apart, HR.out.bel⟩⟩
        case measure => simp [intOf]; omega
      | false =>
        rw [ht] at hc
        have hp := plansR_step (show plansR kind there k ((8 - (k + 1)) + 1) (lst D n) = (L, true) by have := HR.out.todo; rwa [show 8 - k = 8 - (k + 1) + 1 by omega] at this)
        rw [ht] at hp
        simp only [Bool.false_eq_true, if_false] at hp
        obtain ⟨hok, hp⟩ := hp
        have HP : Hid (plansR kind there (k + 1) (8 - (k + 1)) (lst D n ++ [((planAt kind there k).1, (planAt kind there k).2.1, (planAt kind there k).2.2.1)]) = (L, true)) := hp
        have hur : RD wr (old w.heap.size) (.sl .bool) there [.slice (some ⟨ub, uo, none⟩) 8 uc] := RD.below hR.bel hu
        have HU : Hid (RD wr (old w.heap.size) (.sl .bool) there [.slice (some ⟨ub, uo, none⟩) 8 uc]) := hur
        have hl8 : there.length ≤ 1048576 := by rw [H8.out]; decide
        clear hR ht hp hu hur
        have hzr := HR.out.bel.size
        go_wp2_with (first | (go_at_call 41; refine (flag_any there hl8 HU.out).mono ?_; rintro e w2 ⟨vf, rfl, hvf, hb2⟩) | (go_at_call 40; refine (plan_any kind HK.out there H8.out k hk8 hvf).mono ?_; rintro e w3 ⟨vF, vB, qF, qB, rfl, hF, hB, hqF, hqB, hqq, hb3⟩; obtain ⟨aF, nF, cF, rfl⟩ := hF.val; obtain ⟨aB, nB, cB, rfl⟩ := hB.val; rw [hok]; have hown3 := (HR.out.own.kept (below_grown hb2 none) (by cases u6.ownBlock <;> simp)).kept (below_grown hb3 none) (by cases u6.ownBlock <;> simp)) | (at_builtin; refine wpList_append_new rfl (.tmp 38) (.tmp 40) 26 rfl w.heap.size 32 i0 _ 3 56 und26 HI.out.1 HI.out.2.1 HI.out.2.2.1 HI.out.2.2.2 rfl (by decide) _ n _ rfl ((hown3.alloc _).alloc _) ⟨w3.heap.size + 1, 0, none⟩ 1 1 [.int .i64 (planAt kind there k).1, .slice aF nF cF, .slice aB nB cB] rfl rfl (cell3_new _ _ _ _ _ (by simp)) (three_one _ _ _ _ _ _ _) (by have := HR.out.nk; simp only [maxLen]; omega) (by have := HR.out.nk; omega) (by have := hb2.size; have := hb3.size; simp; omega) (by decide) ?_; intro v' w4 hown4 hgrow4 hblk4))
        have hzB : w.heap.size ≤ wr.heap.size := hzr
        have hS := LoopR.step (p := ((planAt kind there k).1, (planAt kind there k).2.1, (planAt kind there k).2.2.1)) HR.out hk8 HP.out hb2 hb3 hF hB hqF hqB hqq hzB hown4 hgrow4 hblk4
        have HS := Lib.hid hS
        clear hS hown4 hgrow4 hblk4
        go_wp2
        go_roundw
        case rel => exact ⟨k + 1, n + 1, _, _, _, by go_num, HS.out⟩
        case measure => simp [intOf]; omega
    · have hk : k = 8 := by have := hR.k8; omega
      subst hk
      obtain ⟨ad, c, rfl, hnc⟩ := own_head hR.own
      have HM := Lib.hid hR.made
      clear hR HR hk8
      go_wp2_with (go_at_call 42; refine (clip_any _ _ _ _ hnc).mono ?_; rintro e w2 ⟨rfl, rfl⟩)
      go_ret2
      exact HM.out
end Go.Proofs.Ytjoiadaogppmkaa.Sh
/-! ## ShU4 -/
namespace Go.Proofs.Ytjoiadaogppmkaa.Sh
open Go Go.RowKit
set_option linter.unusedVariables false
set_option linter.unusedSimpArgs false

abbrev idm : Int → Int := fun k : Int => k
def kAt (D : Nat → Pln) : Nat → Int
  | 0 => 1
  | i + 1 => kAt D i + 1 + (D i).2.1.length + (D i).2.2.length
def mkP (D : Nat → Pln) (i : Nat) : Pln := (kAt D i, marks idm (kAt D i + 1) (D i).2.1.length, marks idm (kAt D i + 1 + (D i).2.1.length) (D i).2.2.length)
def Dm (D : Nat → Pln) (i : Nat) : Nat → Pln := fun j => if j < i then mkP D j else D j
theorem Dm_zero {D : Nat → Pln} : Dm D 0 = D := by funext j; simp [Dm]
theorem Dm_at {D : Nat → Pln} {i : Nat} : Dm D i i = D i := by simp [Dm]
theorem Dm_succ {D : Nat → Pln} {i : Nat} : put1 (Dm D i) i (mkP D i) = Dm D (i + 1) := by
  funext j
  by_cases e : j = i
  · subst e; rw [put1_at, Dm, if_pos (by omega)]
  · rw [put1_lt e, Dm, Dm]
    by_cases h : j < i
    · rw [if_pos h, if_pos (by omega)]
    · rw [if_neg h, if_neg (by omega)]
def Small (D : Nat → Pln) (n : Nat) : Prop := ∀ i, i < n → (D i).2.1.length ≤ 8 ∧ (D i).2.2.length ≤ 8
theorem kAt_bd {D : Nat → Pln} {n : Nat} (h : Small D n) : ∀ {i : Nat}, i ≤ n → 1 ≤ kAt D i ∧ kAt D i ≤ 1 + 17 * (i : Int)
  | 0, _ => by simp [kAt]
  | i + 1, hi => by
    have a := kAt_bd h (i := i) (by omega)
    have b := h i (by omega)
    simp only [kAt]
    omega

theorem Deep.cells {w : World} {B : Nat} {v : Value} {n : Nat} {D : Nat → Pln} {V : Nat → Value} {Q : Nat → Option Nat} {g : Option Nat} (h : Deep w B v n D V Q g) (hn : 0 < n) :
    ∃ r c cs e, g = some r ∧ v = .slice (some ⟨r, 0, none⟩) n c ∧ n ≤ c ∧ w.heap[r]? = some (.cells cs e (0, 0)) ∧ c * 3 ≤ cs.size ∧ ∀ i, i < n → cs[3 * i]? = some (.int .i64 (D i).1) ∧ cs[3 * i + 1]? = some (V (2 * i)) ∧ cs[3 * i + 2]? = some (V (2 * i + 1)) := by
  obtain ⟨_, _, _, h4⟩ := h
  cases g with
  | none => obtain ⟨_, _, _, e⟩ := h4; omega
  | some r => obtain ⟨c, cs, e, h5⟩ := h4; exact ⟨r, c, cs, e, rfl, h5⟩

theorem Deep.mark {wr w2 w3 : World} {B : Nat} {v : Value} {n : Nat} {D : Nat → Pln} {V : Nat → Value} {Q : Nat → Option Nat} {r : Nat} (h : Deep wr B v n D V Q (some r)) {i : Nat} (hi : i < n) {o : Nat} (ho : o = 3 * i) {p : Pln}
    (h1 : ISl w2 p.2.1 (V (2 * i)) (Q (2 * i))) (o1 : Only (Q (2 * i)) (wr.setCell ⟨r, o, none⟩ (.int .i64 p.1)) w2)
    (h2 : ISl w3 p.2.2 (V (2 * i + 1)) (Q (2 * i + 1))) (o2 : Only (Q (2 * i + 1)) w2 w3) : Deep w3 B v n (put1 D i p) V Q (some r) ∧ (B ≤ wr.heap.size → Below B wr w3) := by
  subst ho
  obtain ⟨ha, hap, hg, c, cs, e, e1, e2, e3, e4, e5⟩ := h
  have hs : (wr.setCell ⟨r, 3 * i, none⟩ (.int .i64 p.1)).heap.size = wr.heap.size := by simp [World.setCell]
  have hs2 := o1.size
  have hs3 := o2.size
  have hr := (Array.getElem?_eq_some_iff.1 e3).1
  have k1 : ∀ k, k < wr.heap.size → k ≠ r → Q (2 * i) ≠ some k → Q (2 * i + 1) ≠ some k → w3.heap[k]? = wr.heap[k]? := by
    intro k hk h1 h2 h3
    rw [o2.block k (by omega) h3, o1.block k (by omega) h2, heap_setCell_other _ _ _ _ h1]
  refine ⟨⟨⟨fun j hj => ?_, ha.qB, ha.inj⟩, hap, hg, c, cs.setIfInBounds (3 * i) (.int .i64 p.1), e, e1, e2, ?_, by simpa using e4, fun j hj => ?_⟩, fun hB => ?_⟩
  · by_cases ea : j = 2 * i
    · subst ea
      rw [Ls_even, put1_at]
      refine h1.kept fun k hk => o2.block k ?_ fun hk' => ?_
      · rw [hk] at h1; exact h1.lt
      · have := ha.inj _ _ k hj (by omega) hk hk'; omega
    · by_cases eb : j = 2 * i + 1
      · subst eb; rw [Ls_odd, put1_at]; exact h2
      · rw [show Ls (put1 D i p) j = Ls D j by simp only [Ls]; rw [put1_lt (by omega)]]
        refine (ha.sl j hj).kept fun k hk => k1 k (ha.lt hj hk) (fun e => hap j k hj hk (by rw [e])) (fun h => ?_) (fun h => ?_)
        · have := ha.inj _ _ k hj (by omega) hk h; omega
        · have := ha.inj _ _ k hj (by omega) hk h; omega
  · rw [o2.block r (by omega) (fun h => hap _ _ (by omega) h rfl), o1.block r (by omega) (fun h => hap _ _ (by omega) h rfl)]
    exact heap_setCell_same _ _ _ _ _ _ e3
  · obtain ⟨a, b, d⟩ := e5 j hj
    by_cases ej : j = i
    · subst ej
      rw [put1_at]
      refine ⟨?_, ?_, ?_⟩
      · simp [Array.getElem?_setIfInBounds]; omega
      · rw [Array.getElem?_setIfInBounds, if_neg (by omega)]; exact b
      · rw [Array.getElem?_setIfInBounds, if_neg (by omega)]; exact d
    · rw [put1_lt ej]
      refine ⟨?_, ?_, ?_⟩
      · rw [Array.getElem?_setIfInBounds, if_neg (by omega)]; exact a
      · rw [Array.getElem?_setIfInBounds, if_neg (by omega)]; exact b
      · rw [Array.getElem?_setIfInBounds, if_neg (by omega)]; exact d
  · refine ⟨o2.os.trans (o1.os.trans rfl), o2.tape.trans (o1.tape.trans rfl), o2.output.trans (o1.output.trans rfl), by omega, fun k hk => k1 k (by omega) ?_ ?_ ?_⟩
    · intro h; have := hg r rfl; omega
    · intro h; have := ha.qB _ k (by omega) h; omega
    · intro h; have := ha.qB _ k (by omega) h; omega

theorem Deep.arm1 {wr : World} {B : Nat} {v : Value} {n : Nat} {D : Nat → Pln} {V : Nat → Value} {Q : Nat → Option Nat} {r : Nat} {i : Nat} (h : Deep wr B v n (Dm D i) V Q (some r)) (hi : i < n) (o : Nat) (u : Value) :
    ISl (wr.setCell ⟨r, o, none⟩ u) (D i).2.1 (V (2 * i)) (Q (2 * i)) := by
  obtain ⟨ha, hap, hg, c, cs, e, e1, e2, e3, e4, e5⟩ := h
  have := ha.sl (2 * i) (by omega)
  rw [Ls_even, Dm_at] at this
  exact this.kept fun k hk => heap_setCell_other _ _ _ _ (fun e => hap _ k (by omega) hk (by rw [e]))
theorem Deep.arm2 {wr w2 : World} {B : Nat} {v : Value} {n : Nat} {D : Nat → Pln} {V : Nat → Value} {Q : Nat → Option Nat} {r : Nat} {i : Nat} (h : Deep wr B v n (Dm D i) V Q (some r)) (hi : i < n) {o : Nat} {u : Value} (ho : o = 3 * i)
    (o1 : Only (Q (2 * i)) (wr.setCell ⟨r, o, none⟩ u) w2) : ISl w2 (D i).2.2 (V (2 * i + 1)) (Q (2 * i + 1)) ∧ w2.cell? ⟨r, i * 3 + 2, none⟩ = some (V (2 * i + 1)) := by
  subst ho
  obtain ⟨ha, hap, hg, c, cs, e, e1, e2, e3, e4, e5⟩ := h
  have hs : (wr.setCell ⟨r, 3 * i, none⟩ u).heap.size = wr.heap.size := by simp [World.setCell]
  have hr := (Array.getElem?_eq_some_iff.1 e3).1
  constructor
  · have := ha.sl (2 * i + 1) (by omega)
    rw [Ls_odd, Dm_at] at this
    refine this.kept fun k hk => ?_
    rw [o1.block k (by have := ha.lt (by omega) hk; omega) (fun h => by have := ha.inj _ _ k (by omega) (by omega) hk h; omega)]
    exact heap_setCell_other _ _ _ _ (fun e => hap _ k (by omega) hk (by rw [e]))
  · have h2 : w2.heap[r]? = some (.cells (cs.setIfInBounds (3 * i) u) e (0, 0)) := by
      rw [o1.block r (by omega) (fun h => hap _ _ (by omega) h rfl)]
      exact heap_setCell_same _ _ _ _ _ _ e3
    rw [cell_of_row w2 r _ _ e (0, 0) h2, Array.getElem?_setIfInBounds, if_neg (by omega), show i * 3 + 2 = 3 * i + 2 by omega]
    exact (e5 i hi).2.2
/-- What the call leaves. -/
def Marked (B : Nat) (v : Value) (n : Nat) (D : Nat → Pln) (V : Nat → Value) (Q : Nat → Option Nat) (g : Option Nat) (w : World) (e : Ending) (w' : World) : Prop :=
  e = .returned (.int .i64 (kAt D n)) ∧ Deep w' B v n (Dm D n) V Q g ∧ Below B w w'

def RndM (B : Nat) (v : Value) (n : Nat) (D : Nat → Pln) (V : Nat → Value) (Q : Nat → Option Nat) (g : Option Nat) (w : World) (i : Nat) (wr : World) : Prop :=
  i ≤ n ∧ Deep wr B v n (Dm D i) V Q g ∧ Below B w wr

set_option maxRecDepth 100000 in
set_option maxHeartbeats 1000000 in
theorem mark_walk {w : World} {B : Nat} {v : Value} {n : Nat} {D : Nat → Pln} {V : Nat → Value} {Q : Nat → Option Nat} {g : Option Nat} (hD : Deep w B v n D V Q g) (hS : Small D n) (hn : n ≤ 8) (hB : B ≤ w.heap.size) {ad : Option Addr} {cv : Nat} (hv : v = .slice ad n cv) :
    Calls P 18 #[.slice ad n cv, .int .i64 1] w (Marked B v n D V Q g w) := by
  have H0 : Hid (RndM B v n D V Q g w 0 w) := ⟨by omega, by rw [Dm_zero]; exact hD, Below.refl _ _⟩
  have HS : Hid (Small D n) := hS
  have HV : Hid (v = .slice ad n cv) := hv
  clear hD hS hv
  go_enter Try.func18, Try.ntmps18
  go_wp2
  go_loopw [1, 5] (fun kk ii wr => ∃ i : Nat, ii = .int .i64 ((i : Nat) : Int) ∧ kk = .int .i64 (kAt D i) ∧ RndM B v n D V Q g w i wr) (fun _ ii _ => n - (intOf ii).toNat)
  case atStart => exact ⟨0, rfl, rfl, H0.out⟩
  case round =>
    obtain ⟨i, rfl, rfl, hR⟩ := hrel
    by_cases hi : i < n
    · obtain ⟨hin, hDp, hBw⟩ := hR
      obtain ⟨r, c, cs, e, rfl, hvv, hnc, hrow, hcap, hcs⟩ := hDp.cells (by omega)
      rw [HV.out] at hvv
      cases hvv
      have HD := Lib.hid hDp
      have hc3 : wr.cell? ⟨r, i * 3, none⟩ = some (.int .i64 (D i).1) ∧ wr.cell? ⟨r, i * 3 + 1, none⟩ = some (V (2 * i)) ∧ wr.frozen? ⟨r, i * 3, none⟩ = false := by
        obtain ⟨a, b, d⟩ := hcs i hi
        rw [Dm_at] at a
        refine ⟨?_, ?_, frozen_of_row _ _ _ _ _ hrow⟩
        · rw [cell_of_row wr r _ _ e (0, 0) hrow, Nat.mul_comm]; exact a
        · rw [cell_of_row wr r _ _ e (0, 0) hrow, Nat.mul_comm]; exact b
      obtain ⟨hc0, hc1, hfz⟩ := hc3
      obtain ⟨hk1, hk2⟩ := kAt_bd HS.out hin
      obtain ⟨hl1, hl2⟩ := HS.out i hi
      clear hDp hcs hrow
      have HW := Lib.hid hBw
      clear hBw
      go_wp2_with (first | (go_at_call 46; (with_reducible refine (mark_ints _ _ (by omega) (by omega) (by omega) (HD.out.arm1 hi (i * 3) (.int .i64 (kAt D i)))).mono ?_); rintro e1 w2 ⟨rfl, hi1, ho1⟩; obtain ⟨hi2, hc2⟩ := HD.out.arm2 hi (by omega) ho1) | (go_at_call 46; (with_reducible refine (mark_ints _ _ (by omega) (by omega) (by omega) hi2).mono ?_); rintro e1 w3 ⟨rfl, hi3, ho3⟩))
      have hM := HD.out.mark (p := mkP D i) hi (o := i * 3) (by omega) hi1 ho1 hi3 ho3
      rw [Dm_succ] at hM
      have HM := Lib.hid hM
      clear hM hi1 hi3 ho1 ho3 hc0 hc1 hfz hc2 hi2
      go_roundw
      case rel => exact ⟨i + 1, by go_num, rfl, by omega, HM.out.1, HW.out.trans (HM.out.2 (by have := HW.out.size; omega))⟩
      case measure => simp [intOf]; omega
    · have hin : i = n := by have := hR.1; omega
      subst hin
      have HR := Lib.hid hR
      clear hR hi
      go_wp2
      go_ret
      exact ⟨rfl, HR.out.2.1, HR.out.2.2⟩
end Go.Proofs.Ytjoiadaogppmkaa.Sh
/-! ## ShU5 -/
namespace Go.Proofs.Ytjoiadaogppmkaa.Sh
open Go
set_option linter.unusedVariables false
set_option linter.unusedSimpArgs false
/-! loop.example/keelson/laws.toBoolS -/
def H14 : Hint := ⟨[[(0, 0, .bool), (3, 0, .bool), (4, 0, .bool)]], [], [], [], [], [], []⟩
def S14_L0 (a0 : List Bool) (i4 : Int) (h0 : List Bool) : St := ⟨[(0, .w (.one (.ro .bool a0))), (3, .w (.one (.sl 0 none))), (4, .w (.one (.int .i64 i4)))], [.row .bool h0 .own]⟩
theorem eq14 (a : List Bool) (r : List W) (lh : Heap) : FB E H14 Try.f14 [.one (.ro .bool a)] [] r lh =
  (
   Ck (decide ((0 : Int) ≤ ((a.length : Nat) : Int))) (
    Ck (decide (((a.length : Nat) : Int) ≤ ((a.length : Nat) : Int))) (
     Ck (decide (((a.length : Nat) : Int) * (1 : Nat) ≤ (roomy : Int))) (
      FL E H14 Try.f14 0 r lh 0 (S14_L0 a 0 (List.replicate (((a.length : Nat) : Int).toNat) (false : Bool))))))) := by kernel_rfl
theorem eq14_L0 (a0 : List Bool) (i4 : Int) (h0 : List Bool) (r : List W) (lh : Heap) : FL1 E H14 Try.f14 0 r lh 0 (S14_L0 a0 i4 h0) =
  (
   Br (decide (i4 < ((a0.length : Nat) : Int))) (
    Ck (decide ((0 : Int) ≤ i4)) (
     Ck (decide (i4 < ((a0.length : Nat) : Int))) (
      Ck (decide ((0 : Int) ≤ i4)) (
       Ck (decide (i4 < ((h0.length : Nat) : Int))) (
        Ck (Nat.ble (i4.toNat + 1) h0.length) (
         FL E H14 Try.f14 0 r lh 0 (S14_L0 a0 (IntKind.wrap .i64 (i4 + 1)) (h0.set i4.toNat (a0.getD i4.toNat false))))))))) (
    Ret r lh [.one (.sl 0 none)] [.row .bool h0 .own])) := by kernel_rfl
theorem l14 (l : List Bool) (hl : l.length ≤ 1048576) : ∀ (n i : Nat) (out : List Bool), i + n = l.length → out.length = l.length → (∀ j, j < i → out[j]? = l[j]?) → FL E H14 Try.f14 0 [.one (.sl 0 none)] [.row (.bool) l .own] 0 (S14_L0 l (i : Int) out)
  | 0, i, out, h, ho, H => by
    refine FL_of1 ?_
    rw [eq14_L0]
    obtain rfl : out = l := fill_done ho fun j hj => H j (by omega)
    exact Br_f (by omega) ⟨rfl, rfl⟩
  | n + 1, i, out, h, ho, H => by
    refine FL_of1 ?_
    rw [eq14_L0, wS (by omega)]
    simp only [Int.toNat_natCast]
    refine Br_t (by omega) (Ck_d (by omega) (Ck_d (by omega) (Ck_d (by omega) (Ck_d (by omega) (Ck_le (by omega) ?_)))))
    refine l14 l hl n (i + 1) _ (by omega) (by simp [ho]) (fill_step ho ?_ H)
    rw [getD_eq (show i < l.length by omega)]
    exact List.getElem?_eq_getElem _
theorem c14 (l : List Bool) (hl : l.length ≤ 1048576) : SC P 14 [.one (.ro (.bool) l)] [] [.one (.sl 0 none)] [.row (.bool) l .own] := by
  refine SC_of_FB (H := H14) E_ok Try.func14 (by kernel_rfl) ?_
  rw [eq14]
  refine Ck_d (by omega) (Ck_d (by omega) (Ck_roomI (by omega) ?_))
  exact l14 l hl l.length 0 _ (by omega) (by simp) (fun j hj => absurd hj (by omega))
/-! loop.example/keelson/laws.eqPlanS -/
def H15 : Hint := ⟨[[(0, 0, .bool), (1, 0, .bool), (5, 0, .bool)]], [], [(6, [0, 1, 2, 3, 4, 5, 6, 7, 8, 9])], [], [], [], []⟩
def S15_L0 (a0 : List (Int × (List Int × List Int))) (b1 : List (Int × (List Int × List Int))) (i5 : Int) : St := ⟨[(0, .w (.one (.ro (.pair (.int .i64) (.pair (.sl (.int .i64)) (.sl (.int .i64)))) a0))), (1, .w (.one (.ro (.pair (.int .i64) (.pair (.sl (.int .i64)) (.sl (.int .i64)))) b1))), (5, .w (.one (.int .i64 i5)))], []⟩
theorem eq15 (a : List Pln) (r : List W) (lh : Heap) : FB E H15 Try.f15 [.one (.ro (.pair (.int .i64) (.pair (.sl (.int .i64)) (.sl (.int .i64)))) a), .one (.ro (.pair (.int .i64) (.pair (.sl (.int .i64)) (.sl (.int .i64)))) a)] [] r lh =
  (
   Br (!(decide (((a.length : Nat) : Int) = ((a.length : Nat) : Int)))) (
    Ret r lh [.one (.bool false)] []) (
    FL E H15 Try.f15 0 r lh 0 (S15_L0 a a 0))) := by kernel_rfl
theorem eq15_L0 (a0 : List (Int × (List Int × List Int))) (b1 : List (Int × (List Int × List Int))) (i5 : Int) (r : List W) (lh : Heap) : FL1 E H15 Try.f15 0 r lh 0 (S15_L0 a0 b1 i5) =
  (
   Br (decide (i5 < ((a0.length : Nat) : Int))) (
    Ck (decide ((0 : Int) ≤ i5)) (
     Ck (decide (i5 < ((a0.length : Nat) : Int))) (
      Ck (decide ((0 : Int) ≤ i5)) (
       Ck (decide (i5 < ((b1.length : Nat) : Int))) (
        ∃ r0 : Bool, SC P 45 [.agg [.int .i64 ((a0.getD i5.toNat (0, ([], []))).1), .ro (.int .i64) (((a0.getD i5.toNat (0, ([], []))).2).1), .ro (.int .i64) (((a0.getD i5.toNat (0, ([], []))).2).2)], .agg [.int .i64 ((b1.getD i5.toNat (0, ([], []))).1), .ro (.int .i64) (((b1.getD i5.toNat (0, ([], []))).2).1), .ro (.int .i64) (((b1.getD i5.toNat (0, ([], []))).2).2)]] [] [.one (.bool r0)] [] ∧
         Br (!r0) (
          Ret r lh [.one (.bool false)] []) (
          FL E H15 Try.f15 0 r lh 0 (S15_L0 a0 b1 (IntKind.wrap .i64 (i5 + 1))))))))) (
    Ret r lh [.one (.bool true)] [])) := by kernel_rfl
theorem l15 (a : List Pln) (hl : a.length ≤ 8) (hs : ∀ i, i < a.length → (a.getD i (0, ([], []))).2.1.length ≤ 8 ∧ (a.getD i (0, ([], []))).2.2.length ≤ 8) : ∀ (n i : Nat), i + n = a.length → FL E H15 Try.f15 0 [.one (.bool true)] [] 0 (S15_L0 a a (i : Int))
  | 0, i, h => by
    refine FL_of1 ?_
    rw [eq15_L0]
    exact Br_f (by omega) ⟨rfl, rfl⟩
  | n + 1, i, h => by
    obtain ⟨h1, h2⟩ := hs i (by omega)
    have sp := c45 (a.getD i (0, ([], []))) (by omega) (by omega)
    refine FL_of1 ?_
    rw [eq15_L0, wS (by omega)]
    simp only [Int.toNat_natCast]
    exact Br_t (by omega) (Ck_d (by omega) (Ck_d (by omega) (Ck_d (by omega) (Ck_d (by omega) ⟨true, sp, Br_nb (fun e => by cases e) (fun _ => l15 a hl hs n (i + 1) (by omega))⟩))))
theorem c15 (a : List Pln) (hl : a.length ≤ 8) (hs : ∀ i, i < a.length → (a.getD i (0, ([], []))).2.1.length ≤ 8 ∧ (a.getD i (0, ([], []))).2.2.length ≤ 8) : SC P 15 [.one (.ro (.pair (.int .i64) (.pair (.sl (.int .i64)) (.sl (.int .i64)))) a), .one (.ro (.pair (.int .i64) (.pair (.sl (.int .i64)) (.sl (.int .i64)))) a)] [] [.one (.bool true)] [] := by
  refine SC_of_FB (H := H15) E_ok Try.func15 (by kernel_rfl) ?_
  rw [eq15]
  exact Br_nd (fun h => absurd rfl h) (fun _ => l15 a hl hs a.length 0 (by omega))
/-! loop.example/keelson/laws.heldPlanS -/
def H19 : Hint := ⟨[[(0, 0, .bool), (1, 0, .bool), (5, 0, .bool)]], [], [], [], [], [], []⟩
def S19_L0 (a0 : List (Int × (List Int × List Int))) (k1 : Int) (i5 : Int) : St := ⟨[(0, .w (.one (.ro (.pair (.int .i64) (.pair (.sl (.int .i64)) (.sl (.int .i64)))) a0))), (1, .w (.one (.int .i64 k1))), (5, .w (.one (.int .i64 i5)))], []⟩
theorem eq19 (a : List Pln) (k : Int) (r : List W) (lh : Heap) : FB E H19 Try.f19 [.one (.ro (.pair (.int .i64) (.pair (.sl (.int .i64)) (.sl (.int .i64)))) a), .one (.int .i64 k)] [] r lh =
  (
   FL E H19 Try.f19 0 r lh 0 (S19_L0 a k 0)) := by kernel_rfl
theorem eq19_L0 (a0 : List (Int × (List Int × List Int))) (k1 : Int) (i5 : Int) (r : List W) (lh : Heap) : FL1 E H19 Try.f19 0 r lh 0 (S19_L0 a0 k1 i5) =
  (
   Br (decide (i5 < ((a0.length : Nat) : Int))) (
    Ck (decide ((0 : Int) ≤ i5)) (
     Ck (decide (i5 < ((a0.length : Nat) : Int))) (
      Br (!(decide ((a0.getD i5.toNat (0, ([], []))).1 = k1))) (
       Ret r lh [.one (.int .i64 (-1))] []) (
       Ck (decide ((0 : Int) ≤ i5)) (
        Ck (decide (i5 < ((a0.length : Nat) : Int))) (
         ∃ r0 : Int, SC P 47 [.one (.ro (.int .i64) (((a0.getD i5.toNat (0, ([], []))).2).1)), .one (.int .i64 (IntKind.wrap .i64 (k1 + 1)))] [] [.one (.int .i64 r0)] [] ∧
          Br (decide (r0 < (0 : Int))) (
           Ret r lh [.one (.int .i64 (-1))] []) (
           Ck (decide ((0 : Int) ≤ i5)) (
            Ck (decide (i5 < ((a0.length : Nat) : Int))) (
             ∃ r1 : Int, SC P 47 [.one (.ro (.int .i64) (((a0.getD i5.toNat (0, ([], []))).2).2)), .one (.int .i64 r0)] [] [.one (.int .i64 r1)] [] ∧
              Br (decide (r1 < (0 : Int))) (
               Ret r lh [.one (.int .i64 (-1))] []) (
               FL E H19 Try.f19 0 r lh 0 (S19_L0 a0 r1 (IntKind.wrap .i64 (i5 + 1))))))))))))) (
    Ret r lh [.one (.int .i64 k1)] [])) := by kernel_rfl
theorem lst_getD {D : Nat → Pln} {n i : Nat} (h : i < n) : (lst D n).getD i (0, ([], [])) = D i := by
  rw [List.getD, lst_get h]; rfl
theorem Dm_mk {D : Nat → Pln} {n i : Nat} (h : i < n) : Dm D n i = mkP D i := by simp [Dm, h]
theorem l19 (D : Nat → Pln) (m : Nat) (hm : m ≤ 8) (hS : Small D m) : ∀ (n i : Nat), i + n = m → FL E H19 Try.f19 0 [.one (.int .i64 (kAt D m))] [] 0 (S19_L0 (lst (Dm D m) m) (kAt D i) (i : Int))
  | 0, i, h => by
    obtain rfl : i = m := by omega
    refine FL_of1 ?_
    rw [eq19_L0, lst_len]
    exact Br_f (by omega) ⟨rfl, rfl⟩
  | n + 1, i, h => by
    obtain ⟨h1, h2⟩ := hS i (by omega)
    obtain ⟨k1, k2⟩ := kAt_bd hS (i := i) (by omega)
    refine FL_of1 ?_
    rw [eq19_L0, wS (by omega), lst_len]
    simp only [Int.toNat_natCast, lst_getD (show i < m by omega), Dm_mk (show i < m by omega)]
    rw [wrap64 (n := kAt D i + 1) (by omega) (by omega)]
    have s1 := c47 (kAt D i + 1) (D i).2.1.length (by omega) (by omega) (by omega)
    have s2 := c47 (kAt D i + 1 + (D i).2.1.length) (D i).2.2.length (by omega) (by omega) (by omega)
    exact Br_t (by omega) (Ck_d (by omega) (Ck_d (by omega) (Br_nd (fun e => absurd rfl e) (fun _ => Ck_d (by omega) (Ck_d (by omega) ⟨_, s1, Br_f (by omega) (Ck_d (by omega) (Ck_d (by omega) ⟨_, s2, Br_f (by omega) (l19 D m hm hS n (i + 1) (by omega))⟩))⟩)))))
theorem c19 (D : Nat → Pln) (m : Nat) (hm : m ≤ 8) (hS : Small D m) : SC P 19 [.one (.ro (.pair (.int .i64) (.pair (.sl (.int .i64)) (.sl (.int .i64)))) (lst (Dm D m) m)), .one (.int .i64 1)] [] [.one (.int .i64 (kAt D m))] [] := by
  refine SC_of_FB (H := H19) E_ok Try.func19 (by kernel_rfl) ?_
  rw [eq19]
  exact l19 D m hm hS m 0 (by omega)
end Go.Proofs.Ytjoiadaogppmkaa.Sh
/-! ## ShU6 -/
namespace Go.Proofs.Ytjoiadaogppmkaa.Sh
open Go Go.RowKit
set_option linter.unusedVariables false
set_option linter.unusedSimpArgs false

/-- A slice of bools in a block of its own. -/
def BSl (w : World) (l : List Bool) (v : Value) : Option Nat → Prop
  | none => ∃ ad, v = .slice ad 0 0 ∧ l = []
  | some r => ∃ base c cs e, v = .slice (some ⟨r, base, none⟩) l.length c ∧ l.length ≤ c ∧ w.heap[r]? = some (.cells cs e (0, 0)) ∧ base + c ≤ cs.size ∧ ∀ i x, l[i]? = some x → cs[base + i]? = some (.bool x)

theorem BSl.kept {w w' : World} {l : List Bool} {v : Value} {q : Option Nat} (h : BSl w l v q) (hb : ∀ r, q = some r → w'.heap[r]? = w.heap[r]?) : BSl w' l v q := by
  cases q with
  | none => exact h
  | some r =>
    obtain ⟨base, c, cs, e, h1, h2, h3, h4, h5⟩ := h
    exact ⟨base, c, cs, e, h1, h2, by rw [hb r rfl]; exact h3, h4, h5⟩
theorem BSl.lt {w : World} {l : List Bool} {v : Value} {r : Nat} (h : BSl w l v (some r)) : r < w.heap.size := by
  obtain ⟨base, c, cs, e, _, _, h3, _⟩ := h
  exact (Array.getElem?_eq_some_iff.1 h3).1
theorem BSl.rd {w : World} {l : List Bool} {v : Value} {q : Option Nat} (h : BSl w l v q) : RD w (fun _ => False) (.sl .bool) l [v] := by
  cases q with
  | none =>
    obtain ⟨ad, h1, h2⟩ := h
    subst h1; subst h2
    exact ⟨ad, 0, rfl, Nat.le_refl _, fun i x hi => by simp at hi⟩
  | some r =>
    obtain ⟨base, c, cs, e, h1, h2, h3, h4, h5⟩ := h
    subst h1
    refine ⟨_, c, rfl, h2, fun i x hi => ⟨r, base, [.bool x], rfl, fun h => h, rfl, fun j v hj => ?_⟩⟩
    cases j with
    | zero => simp at hj; subst hj; exact at_cells h3 (by simpa [Ty.size] using h5 i x hi)
    | succ j => simp at hj
theorem BSl.one {w : World} {l : List Bool} {v : Value} {q : Option Nat} (h : BSl w l v q) : v.oneCell' = true := by
  cases q with
  | none => obtain ⟨ad, h1, _⟩ := h; subst h1; rfl
  | some r => obtain ⟨base, c, cs, e, h1, _⟩ := h; subst h1; rfl

/-- out of a contract's own row -/
theorem bsl_of {A : Nat → Prop} {ρ : Rho} {h : Heap} {w : World} {b : Nat} {l : List Bool} {s : RS} {v : Value} (hH : RelH A ρ h w) (hb : h[b]? = some (.row .bool l s)) (hv : RelC w (avs A ρ h) ρ h (.sl b none) v) :
    ∃ q, BSl w l v q ∧ ∀ r, q = some r → ∃ base, ρ b = some (r, base) := by
  obtain ⟨t, l', s', o, n, ad, c, h1, h2, h3, h4, h5, h6⟩ := hv
  rw [hb] at h1
  cases h1
  simp only [Option.getD_none, Prod.mk.injEq] at h2
  obtain ⟨rfl, rfl⟩ := h2
  rcases h6 with h6 | ⟨r, base, cs, e, fz, h7, h8, h9, h10⟩
  · have : l = [] := List.eq_nil_of_length_eq_zero (by omega)
    subst this
    subst h6
    exact ⟨none, ⟨ad, h4, rfl⟩, fun r h => by cases h⟩
  · refine ⟨some r, ?_, fun r' e => by cases e; exact ⟨base, h7⟩⟩
    obtain ⟨hr, _, _⟩ := hH.blk b _ hb
    obtain ⟨cs', e', h11, h12⟩ := hr r base h7
    rw [h9] at h11
    cases h11
    subst h8
    refine ⟨base, c, cs, e, by rw [h4]; simp [Ty.size], h5, h9, by simpa [Ty.size] using h10, fun i x hi => ?_⟩
    obtain ⟨vs, hx, hj⟩ := h12 i x hi
    simp only [RD] at hx
    subst hx
    simpa [Ty.size] using hj 0 _ rfl

/-- A row that is handed to a writer. -/
theorem BSl.lend {w : World} {l : List Bool} {v : Value} {q : Option Nat} (h : BSl w l v q) : ∃ ρ : Rho, RelH (fun _ => False) ρ [.row .bool l .own] w ∧ RelC w (avs (fun _ => False) ρ [.row .bool l .own]) ρ [.row .bool l .own] (.sl 0 none) v ∧ (∀ r, own ρ [.row .bool l .own] r → q = some r) ∧ ∀ r base n c, q = some r → v = .slice (some ⟨r, base, none⟩) n c → ρ 0 = some (r, base) := by
  cases q with
  | none =>
    obtain ⟨ad, h1, h2⟩ := h
    subst h1; subst h2
    refine ⟨rho0, ⟨fun _ _ _ _ _ _ _ h => by simp [rho0] at h, fun b x hx => ?_, fun _ _ _ _ h => by simp [rho0] at h, fun _ h => h.elim⟩, ?_, fun r ⟨b, _, _, _, _, h⟩ => by simp [rho0] at h, fun _ _ _ _ h => by cases h⟩
    · match b, hx with
      | 0, hx => simp at hx; subst hx; exact ⟨fun _ _ h => by simp [rho0] at h, fun h => absurd rfl h, fun h => by cases h⟩
    · exact ⟨.bool, [], .own, 0, 0, ad, 0, rfl, rfl, Nat.le_refl _, rfl, Nat.le_refl _, .inl rfl⟩
  | some r =>
    have hlt := h.lt
    obtain ⟨base, c, cs, e, h1, h2, h3, h4, h5⟩ := h
    subst h1
    refine ⟨fun b => if b = 0 then some (r, base) else none, ⟨fun b b' _ _ _ hb hb' _ _ => by simp at hb hb'; omega, fun b x hx => ?_, fun b r' base' hb h => ?_, fun _ h => h.elim⟩, ?_, fun r' ⟨b, blk, base', _, _, h⟩ => ?_, fun r' base' n' c' e1 e2 => by cases e1; cases e2; rfl⟩
    · match b, hx with
      | 0, hx =>
        simp at hx; subst hx
        refine ⟨fun r' base' h => ?_, fun _ => ⟨r, base, rfl⟩, fun h => by cases h⟩
        simp at h
        obtain ⟨rfl, rfl⟩ := h
        refine ⟨cs, e, h3, fun i x hi => ⟨[.bool x], rfl, fun j u hj => ?_⟩⟩
        match j, hj with
        | 0, hj => simp at hj; subst hj; simpa [Ty.size] using h5 i x hi
    · simp at hb
      subst hb
      simp at h
      exact ⟨h.1 ▸ hlt, fun h => h⟩
    · exact ⟨.bool, l, .own, 0, l.length, _, c, rfl, rfl, by omega, rfl, h2, .inr ⟨r, base, cs, e, (0, 0), rfl, by simp [Ty.size], h3, by simpa [Ty.size] using h4⟩⟩
    · by_cases hb : b = 0
      · simp [hb] at h; rw [h.1]
      · simp [hb] at h


theorem mark_bools (l : List Bool) (hl : l.length ≤ 1048576) {w : World} {v : Value} {q : Option Nat} (h : BSl w l v q) :
    Calls P 17 #[v, .int .i64 1] w fun e w' => e = .returned (.int .i64 (1 + l.length)) ∧ Only q w w' := by
  obtain ⟨ρ, hH, hv, ho, hz⟩ := h.lend
  refine (c17 l 1 hl (by omega) (by omega) w _ ρ (fun _ => False) hH (.cons hv (.cons rfl .nil))).mono ?_
  rintro e w' ⟨u, ρ', h1, h2, h3, h4, h5, h6, h7, h8, h9⟩
  simp only [RelW, RelC] at h3
  subst h3
  exact ⟨h1, ⟨h4.os, h4.tape, h4.output, h4.size, fun r hr hq => h4.block r hr (fun h => hq (ho r h)), h4.room⟩⟩

/-- A row of a contract, read as data. -/
theorem row_rd {A : Nat → Prop} {ρ : Rho} {h : Heap} {w : World} {b : Nat} {t : Ty} {l : List t.D} {s : RS} {v : Value} (hH : RelH A ρ h w) (hb : h[b]? = some (.row t l s)) (hv : RelC w (avs A ρ h) ρ h (.sl b none) v) : RD w (fun _ => False) (.sl t) l [v] := by
  obtain ⟨t', l', s', o, n, ad, c, h1, h2, h3, h4, h5, h6⟩ := hv
  rw [hb] at h1
  cases h1
  simp only [Option.getD_none, Prod.mk.injEq] at h2
  obtain ⟨rfl, rfl⟩ := h2
  rcases h6 with h6 | ⟨r, base, cs, e, fz, h7, h8, h9, h10⟩
  · have : l = [] := List.eq_nil_of_length_eq_zero (by omega)
    subst this
    exact ⟨ad, c, by rw [h4], h5, fun i x hi => by simp at hi⟩
  · obtain ⟨hr, _, _⟩ := hH.blk b _ hb
    obtain ⟨cs', e', h11, h12⟩ := hr r base h7
    rw [h9] at h11
    cases h11
    subst h8
    refine ⟨_, c, by rw [h4], h5, fun i x hi => ?_⟩
    obtain ⟨vs, hx, hj⟩ := h12 i x hi
    refine ⟨r, _, vs, rfl, fun h => h, RD.mono (fun _ _ h => h.elim) (fun _ _ _ _ h => h) _ _ _ hx, fun j u hju => at_cells h9 ?_⟩
    have := hj j u hju
    rwa [show base + 0 * t.size + i * t.size + j = base + i * t.size + j by omega]

theorem toB_any (there : List Bool) (hl : there.length ≤ 1048576) {w : World} {B : Nat} {u : Value} (hu : RD w (old B) (.sl .bool) there [u]) :
    Calls P 14 #[u] w fun e w' => ∃ v q, e = .returned v ∧ BSl w' there v q ∧ (∀ r, q = some r → w.heap.size ≤ r) ∧ Below w.heap.size w w' := by
  refine ((c14 there hl).plain w _ (.cons (ro_arg hu) .nil)).mono ?_
  rintro e w' ⟨v, ρ', h1, h2, h3, h4, h5⟩
  obtain ⟨q, h6, h7⟩ := bsl_of h2 rfl h3
  exact ⟨v, q, h1, h6, fun r hr => (h7 r hr).elim fun base hb => h5 0 r base (by simp) hb, h4⟩
theorem planAll_ref (kind : Int) (there : List Bool) {w : World} {B : Nat} {u : Value} (hu : RD w (old B) (.sl .bool) there [u]) {b : Bool} (hb : (planAllF kind there).2 = b) :
    Calls P 9 #[.int .i64 kind, u] w fun e w' => ∃ v, e = .returned (.tuple #[v, .bool b]) ∧ RD w' (fun _ => False) (.sl TP) (planAllF kind there).1 [v] ∧ Below w.heap.size w w' := by
  subst hb
  refine ((c9 kind there).plain w _ (.cons rfl (.cons (ro_arg hu) .nil))).mono ?_
  rintro e w' ⟨v, ρ', h1, h2, h3, h4, h5⟩
  obtain ⟨arr, e1, h6⟩ := h3
  subst e1
  obtain ⟨l⟩ := arr
  match l, h6 with
  | [x, y], .cons h7 (.cons h8 .nil) =>
    simp only [RelW, RelC] at h8
    subst h8
    exact ⟨x, h1, row_rd h2 rfl h7, h4⟩
theorem planAll_dat (kind : Int) (there : List Bool) (hl : there.length ≤ 1048576) {w : World} {B : Nat} {u : Value} (hu : RD w (old B) (.sl .bool) there [u]) {b : Bool} (hb : (planAllF kind there).2 = b) :
    Calls P 10 #[.int .i64 kind, u] w fun e w' => ∃ v, e = .returned (.tuple #[v, .bool b]) ∧ RD w' (fun _ => False) (.sl TP) (planAllF kind there).1 [v] ∧ Below w.heap.size w w' := by
  subst hb
  refine ((c10 kind there hl).plain w _ (.cons rfl (.cons (ro_arg hu) .nil))).mono ?_
  rintro e w' ⟨v, ρ', h1, h2, h3, h4, h5⟩
  obtain ⟨arr, e1, h6⟩ := h3
  subst e1
  obtain ⟨l⟩ := arr
  match l, h6 with
  | [x, y], .cons h7 (.cons h8 .nil) =>
    simp only [RelW, RelC] at h8
    subst h8
    exact ⟨x, h1, row_rd h2 rfl h7, h4⟩

theorem plansR_no {kind : Int} {there : List Bool} : ∀ {n i : Nat} {out : List Pln}, (plansR kind there i n out).2 = false → (plansR kind there i n out).1 = []
  | 0, _, _, h => by cases h
  | n + 1, i, out, h => by
    rw [plansR] at h ⊢
    cases e : there.getD i false with
    | true => rw [e, cond_true] at h; rw [cond_true]; exact plansR_no h
    | false =>
      rw [e, cond_false] at h
      rw [cond_false]
      cases e2 : (planAt kind there i).2.2.2 with
      | true => rw [e2, cond_true] at h; rw [cond_true]; exact plansR_no h
      | false => rfl
theorem planAllF_no {kind : Int} {there : List Bool} (h : (planAllF kind there).2 = false) : (planAllF kind there).1 = [] := by
  rw [planAllF] at h ⊢
  cases e : inB kind 1 2 && decide (there.length = 8) with
  | true => rw [e, cond_true] at h; rw [cond_true]; exact plansR_no h
  | false => rfl
def SmallL (L : List Pln) : Prop := ∀ p ∈ L, p.2.1.length ≤ 8 ∧ p.2.2.length ≤ 8
theorem plansR_small {kind : Int} (hk : inB kind 1 2 = true) {there : List Bool} (h8 : there.length = 8) : ∀ {n i : Nat} {out : List Pln}, i + n = 8 → SmallL out → SmallL (plansR kind there i n out).1
  | 0, _, _, _, h => h
  | n + 1, i, out, hi, h => by
    rw [plansR]
    cases e : there.getD i false with
    | true => rw [cond_true]; exact plansR_small hk h8 (by omega) h
    | false =>
      rw [cond_false]
      cases e2 : (planAt kind there i).2.2.2 with
      | true =>
        rw [cond_true]
        refine plansR_small hk h8 (by omega) fun p hp => ?_
        rcases List.mem_append.1 hp with hp | hp
        · exact h p hp
        · obtain ⟨f4, f8⟩ := planOfF_len (kind := kind) (lost := (i : Int)) (there := there)
          have e0 : planOfF kind (i : Int) there = planAt kind there i := by rw [planOfF, hk, inB_iff.2 ⟨by omega, by omega⟩, decide_eq_true h8]; rfl
          rw [e0] at f4 f8
          simp at hp
          subst hp
          exact ⟨by show _ ≤ 8; simp only []; omega, f8⟩
      | false => rw [cond_false]; intro p hp; cases hp
theorem planAllF_small {kind : Int} {there : List Bool} : SmallL (planAllF kind there).1 ∧ (planAllF kind there).1.length ≤ 8 := by
  rw [planAllF]
  cases e : inB kind 1 2 && decide (there.length = 8) with
  | true =>
    rw [Bool.and_eq_true, decide_eq_true_iff] at e
    rw [cond_true]
    exact ⟨plansR_small e.1 e.2 rfl (fun p hp => by cases hp), by have := plansR_len (kind := kind) (there := there) (n := 8) (i := 0) (out := []); simpa using this⟩
  | false => exact ⟨(fun p hp => by cases hp), Nat.zero_le _⟩

/-- What the call leaves, whatever it answers. -/
def MadeB (L : List Pln) (b : Bool) (w : World) (e : Ending) (w' : World) : Prop :=
  ∃ v D V Q g, e = .returned (.tuple #[v, .bool b]) ∧ Deep w' w.heap.size v L.length D V Q g ∧ L = lst D L.length ∧ Below w.heap.size w w'
theorem planAll_own (kind : Int) (there : List Bool) (hl : there.length ≤ 1048576) {w : World} {u : Value} (hu : RD w (old w.heap.size) (.sl .bool) there [u]) {b : Bool} (hb : (planAllF kind there).2 = b) :
    Calls P 10 #[.int .i64 kind, u] w (MadeB (planAllF kind there).1 b w) := by
  cases b with
  | false =>
    have hL := planAllF_no hb
    refine (planAll_dat kind there hl hu hb).mono ?_
    rintro e w' ⟨v, h1, h2, h3⟩
    rw [hL] at h2 ⊢
    obtain ⟨ad, c, e1, _, _⟩ := h2
    simp at e1
    subst e1
    exact ⟨_, fun _ => (0, [], []), fun _ => .bool false, fun _ => none, none, h1, ⟨⟨fun j hj => by simp at hj, fun j r hj => by simp at hj, fun j j' r hj => by simp at hj⟩, fun j r hj => by simp at hj, (fun r h => by cases h), ⟨ad, c, rfl, rfl⟩⟩, rfl, h3⟩
  | true =>
    have hd := hb
    rw [planAllF] at hd
    cases hg : inB kind 1 2 && decide (there.length = 8) with
    | false => rw [hg, cond_false] at hd; cases hd
    | true =>
      have hp : plansR kind there 0 8 [] = ((planAllF kind there).1, true) := by
        rw [← hb, planAllF, hg, cond_true]
      rw [Bool.and_eq_true, decide_eq_true_iff] at hg
      have hu' := hu
      obtain ⟨ad, c, e1, h2, h3⟩ := hu'
      simp at e1
      subst e1
      have h8 := hg.2
      have hcell : ∀ k, k < 8 → ∃ r o, ad = some ⟨r, o, none⟩ ∧ r < w.heap.size ∧ w.cell? ⟨r, o + k, none⟩ = some (.bool (there.getD k false)) := by
        intro k hk
        obtain ⟨r, o, cs, e2, h4, h5, h6⟩ := h3 k (there.getD k false) (by rw [List.getD, List.getElem?_eq_getElem (by omega)]; rfl)
        simp only [RD] at h5
        subst h5
        have := h6 0 _ rfl
        exact ⟨r, o, e2, at_lt this, by have h := this; unfold at_ at h; simpa [Ty.size] using h⟩
      obtain ⟨r, o, e2, hr, _⟩ := hcell 0 (by omega)
      subst e2
      rw [h8] at hu h2 ⊢
      exact planAll_walk kind hg.1 there h8 _ hp h2 hu (fun k hk => by
        obtain ⟨r', o', e3, _, h⟩ := hcell k hk
        cases e3
        exact h) hr

theorem Deep.lt {w : World} {B : Nat} {v : Value} {n : Nat} {D : Nat → Pln} {V : Nat → Value} {Q : Nat → Option Nat} {g : Option Nat} (h : Deep w B v n D V Q g) {r : Nat} (hr : g = some r) : r < w.heap.size := by
  obtain ⟨_, _, _, h4⟩ := h
  subst hr
  obtain ⟨c, cs, e, _, _, h3, _⟩ := h4
  exact (Array.getElem?_eq_some_iff.1 h3).1
theorem Deep.kept {w w' : World} {B : Nat} {v : Value} {n : Nat} {D : Nat → Pln} {V : Nat → Value} {Q : Nat → Option Nat} {g : Option Nat} (h : Deep w B v n D V Q g) (hb : ∀ r, B ≤ r → r < w.heap.size → w'.heap[r]? = w.heap[r]?) : Deep w' B v n D V Q g := by
  have hlt := @Deep.lt _ _ _ _ _ _ _ _ h
  obtain ⟨h1, h2, h3, h4⟩ := h
  refine ⟨h1.kept fun j r hj hr => hb r (h1.qB j r hj hr) (h1.lt hj hr), h2, h3, ?_⟩
  cases g with
  | none => exact h4
  | some r =>
    obtain ⟨c, cs, e, e1, e2, e3, e4⟩ := h4
    exact ⟨c, cs, e, e1, e2, by rw [hb r (h3 r rfl) (hlt rfl)]; exact e3, e4⟩
theorem Deep.rd {w : World} {B : Nat} {v : Value} {n : Nat} {D : Nat → Pln} {V : Nat → Value} {Q : Nat → Option Nat} {g : Option Nat} (h : Deep w B v n D V Q g) : RD w (fun _ => False) (.sl TP) (lst D n) [v] := by
  obtain ⟨h1, h2, h3, h4⟩ := h
  cases g with
  | none =>
    obtain ⟨ad, c, e1, e2⟩ := h4
    subst e1; subst e2
    exact ⟨ad, c, rfl, Nat.zero_le _, fun i x hi => by simp [lst] at hi⟩
  | some r =>
    obtain ⟨c, cs, e, e1, e2, e3, e4, e5⟩ := h4
    subst e1
    refine ⟨_, c, by rw [lst_len], by rw [lst_len]; exact e2, fun i x hi => ?_⟩
    have hin : i < n := by have := lt_of_get hi; rwa [lst_len] at this
    rw [lst_get hin] at hi
    cases hi
    obtain ⟨a, b, d⟩ := e5 i hin
    have s1 := (h1.sl (2 * i) (by omega)).rd
    have s2 := (h1.sl (2 * i + 1) (by omega)).rd
    rw [Ls_even] at s1
    rw [Ls_odd] at s2
    refine ⟨r, 0, [.int .i64 (D i).1] ++ ([V (2 * i)] ++ [V (2 * i + 1)]), rfl, fun h => h, ⟨[.int .i64 (D i).1], [V (2 * i)] ++ [V (2 * i + 1)], rfl, rfl, ⟨[V (2 * i)], [V (2 * i + 1)], rfl, s1, s2⟩⟩, fun j u hj => at_cells e3 ?_⟩
    have hsz : Ty.size TP = 3 := rfl
    rw [hsz]
    match j, hj with
    | 0, hj => simp at hj; subst hj; rw [show 0 + i * 3 + 0 = 3 * i by omega]; exact a
    | 1, hj => simp at hj; subst hj; rw [show 0 + i * 3 + 1 = 3 * i + 1 by omega]; exact b
    | 2, hj => simp at hj; subst hj; rw [show 0 + i * 3 + 2 = 3 * i + 2 by omega]; exact d

theorem eqP_any {L : List Pln} (hs : SmallL L) (h8 : L.length ≤ 8) {w : World} {B B' : Nat} {u v : Value} (hu : RD w (old B) (.sl TP) L [u]) (hv : RD w (old B') (.sl TP) L [v]) :
    Calls P 15 #[u, v] w fun e w' => e = .returned (.bool true) ∧ Below w.heap.size w w' := by
  refine ((c15 L h8 fun i hi => ?_).plain w _ (.cons (ro_arg hu) (.cons (ro_arg hv) .nil))).mono ?_
  · have : L.getD i (0, ([], [])) ∈ L := by rw [List.getD, List.getElem?_eq_getElem hi]; exact List.getElem_mem hi
    exact hs _ this
  · rintro e w' ⟨v, ρ', h1, h2, h3, h4, h5⟩
    simp only [ResOk, RelW, RelC] at h3
    subst h3
    exact ⟨h1, h4⟩
theorem eqB_any {l : List Bool} (hl : l.length ≤ 1048576) {w : World} {B B' : Nat} {u v : Value} (hu : RD w (old B) (.sl .bool) l [u]) (hv : RD w (old B') (.sl .bool) l [v]) :
    Calls P 16 #[u, v] w fun e w' => e = .returned (.bool true) ∧ Below w.heap.size w w' := by
  have s := c16 l l hl
  rw [decide_eq_true rfl] at s
  refine (s.plain w _ (.cons (ro_arg hu) (.cons (ro_arg hv) .nil))).mono ?_
  rintro e w' ⟨v, ρ', h1, h2, h3, h4, h5⟩
  simp only [ResOk, RelW, RelC] at h3
  subst h3
  exact ⟨h1, h4⟩
theorem held_any {D : Nat → Pln} {n : Nat} (hn : n ≤ 8) (hS : Small D n) {w : World} {B : Nat} {u : Value} (hu : RD w (old B) (.sl TP) (lst (Dm D n) n) [u]) :
    Calls P 19 #[u, .int .i64 1] w fun e w' => e = .returned (.int .i64 (kAt D n)) ∧ Below w.heap.size w w' := by
  refine ((c19 D n hn hS).plain w _ (.cons (ro_arg hu) (.cons rfl .nil))).mono ?_
  rintro e w' ⟨v, ρ', h1, h2, h3, h4, h5⟩
  simp only [ResOk, RelW, RelC] at h3
  subst h3
  exact ⟨h1, h4⟩
theorem small_of {L : List Pln} {D : Nat → Pln} (hs : SmallL L) (h : L = lst D L.length) : Small D L.length := by
  intro i hi
  have e := lst_get (D := D) hi
  rw [← h] at e
  exact hs _ (List.mem_of_getElem? e)
end Go.Proofs.Ytjoiadaogppmkaa.Sh
/-! ## ShU7 -/
namespace Go.Proofs.Ytjoiadaogppmkaa.Sh
open Go Go.RowKit
set_option linter.unusedVariables false
set_option linter.unusedSimpArgs false

theorem Only.below {q : Option Nat} {w w' : World} {B : Nat} (h : Only q w w') (hq : ∀ r, q = some r → B ≤ r) (hB : B ≤ w.heap.size) : Below B w w' :=
  ⟨h.os, h.tape, h.output, h.size, fun k hk => h.block k (by omega) (fun e => by have := hq k e; omega)⟩

theorem Deep.val {w : World} {B : Nat} {v : Value} {n : Nat} {D : Nat → Pln} {V : Nat → Value} {Q : Nat → Option Nat} {g : Option Nat} (h : Deep w B v n D V Q g) : ∃ ad c, v = .slice ad n c := by
  obtain ⟨_, _, _, h4⟩ := h
  cases g with
  | none => obtain ⟨ad, c, e1, e2⟩ := h4; exact ⟨ad, c, by rw [e1, e2]⟩
  | some r => obtain ⟨c, cs, e, e1, _⟩ := h4; exact ⟨_, c, e1⟩

/-- The answer. -/
def Done (w : World) (e : Ending) (w' : World) : Prop := e = .returned (.bool true) ∧ Below w.heap.size w w'

set_option maxRecDepth 100000 in
set_option maxHeartbeats 2000000 in
theorem top_long (kind : Int) {w : World} {ad : Option Addr} {n c : Nat} (hn : 1048576 < n) : Calls P 4 #[.int .i64 kind, .slice ad n c] w (Done w) := by
  go_enter Try.func4, Try.ntmps4
  go_wp2
  go_ret
  exact ⟨rfl, Below.refl _ _⟩

set_option maxRecDepth 100000 in
set_option maxHeartbeats 4000000 in
theorem top_walk (kind : Int) (there : List Bool) (hl : there.length ≤ 1048576) {w : World} {ad : Option Addr} {c : Nat} (hu : RD w (old w.heap.size) (.sl .bool) there [.slice ad there.length c]) (b : Bool) (hb : (planAllF kind there).2 = b) :
    Calls P 4 #[.int .i64 kind, .slice ad there.length c] w (Done w) := by
  have HB : Hid ((planAllF kind there).2 = b) := hb
  clear hb
  go_enter Try.func4, Try.ntmps4
  go_wp2_with (go_at_call 14; (with_reducible refine (toB_any there hl hu).mono ?_); rintro e w1 ⟨v1, q1, rfl, hs1, _, hb1⟩)
  have z1 := hb1.size
  go_wp2_with (go_at_call 9; (with_reducible refine (planAll_ref kind there (RD.young hs1.rd) HB.out).mono ?_); rintro e w2 ⟨v5, rfl, hr5, hb2⟩)
  have z2 := hb2.size
  have g2 : Below w.heap.size w w2 := hb1.trans (hb2.mono z1)
  go_wp2_with (go_at_call 14; (with_reducible refine (toB_any there hl (RD.below g2 hu)).mono ?_); rintro e w3 ⟨v7, q7, rfl, hs7, hq7, hb3⟩)
  have z3 := hb3.size
  have g3 : Below w.heap.size w w3 := g2.trans (hb3.mono (by omega))
  go_wp2_with (go_at_call 10; (with_reducible refine (planAll_own kind there hl (RD.young hs7.rd) HB.out).mono ?_); rintro e w4 ⟨v8, D, V, Q, g, rfl, hD, hLq, hb4⟩; have HL := Lib.hid hLq; clear hLq; obtain ⟨a8, c8, rfl⟩ := hD.val)
  have z4 := hb4.size
  have hsm := (planAllF_small (kind := kind) (there := there)).1
  have hl8 := (planAllF_small (kind := kind) (there := there)).2
  have hSm := small_of hsm HL.out
  have hr8 : RD w4 (old w4.heap.size) (.sl TP) (planAllF kind there).1 [.slice a8 (planAllF kind there).1.length c8] := by
    have := hD.rd
    rw [← HL.out] at this
    exact RD.young this
  have r5 : RD w4 (old w2.heap.size) (.sl TP) (planAllF kind there).1 [v5] := RD.below (hb3.trans (hb4.mono z3)) (RD.young hr5)
  have g4 : Below w.heap.size w w4 := g3.trans (hb4.mono (by omega))
  go_wp2_with (go_at_call 15; (with_reducible refine (eqP_any hsm hl8 hr8 r5).mono ?_); rintro e w5 ⟨rfl, hb5⟩)
  have z5 := hb5.size
  have g5 : Below w.heap.size w w5 := g4.trans (hb5.mono (by omega))
  go_wp2_with (go_at_call 14; (with_reducible refine (toB_any there hl (RD.below g5 hu)).mono ?_); rintro e w6 ⟨v6, q6, rfl, hs6, _, hb6⟩)
  have z6 := hb6.size
  have k6 : Below w3.heap.size w3 w6 := (hb4.trans (hb5.mono z4)).trans (hb6.mono (by omega))
  go_wp2_with (go_at_call 16; (with_reducible refine (eqB_any hl (RD.below k6 (RD.young hs7.rd)) (RD.young hs6.rd)).mono ?_); rintro e w7 ⟨rfl, hb7⟩)
  have z7 := hb7.size
  have k7 : Below w3.heap.size w3 w7 := k6.trans (hb7.mono (by omega))
  have g6 : Below w.heap.size w w6 := g5.trans (hb6.mono (by omega))
  have g7 : Below w.heap.size w w7 := g6.trans (hb7.mono (by omega))
  have hs77 : BSl w7 there v7 q7 := hs7.kept fun r hr => k7.block r (by rw [hr] at hs7; exact hs7.lt)
  have hlt7 : ∀ r, q7 = some r → r < w3.heap.size := fun r hr => by rw [hr] at hs7; exact hs7.lt
  go_wp2_with (go_at_call 17; (with_reducible refine (mark_bools there hl hs77).mono ?_); rintro e w8 ⟨rfl, ho8⟩)
  have z8 := ho8.size
  have b8 : Below w2.heap.size w7 w8 := ho8.below hq7 (by omega)
  have g8 : Below w.heap.size w w8 := g7.trans (b8.mono (by omega))
  have hD8 : Deep w8 w3.heap.size (.slice a8 (planAllF kind there).1.length c8) (planAllF kind there).1.length D V Q g := hD.kept fun r h1 h2 => by
    rw [ho8.block r (by omega) (fun e => by have := hlt7 r e; omega), hb7.block r (by omega), hb6.block r (by omega), hb5.block r (by omega)]
  have hr88 : RD w8 (old w8.heap.size) (.sl TP) (planAllF kind there).1 [.slice a8 (planAllF kind there).1.length c8] := by
    have := hD8.rd
    rw [← HL.out] at this
    exact RD.young this
  have r58 : RD w8 (old w2.heap.size) (.sl TP) (planAllF kind there).1 [v5] := RD.below ((((hb5.mono (by omega)).trans (hb6.mono (by omega))).trans (hb7.mono (by omega))).trans b8) r5
  have hnn : (0 : Int) ≤ 1 + (there.length : Int) := by omega
  go_wp2_with (go_at_call 15; (with_reducible refine (eqP_any hsm hl8 hr88 r58).mono ?_); rintro e w9 ⟨rfl, hb9⟩)
  have z9 := hb9.size
  have g9 : Below w.heap.size w w9 := g8.trans (hb9.mono (by omega))
  have hD9 : Deep w9 w3.heap.size (.slice a8 (planAllF kind there).1.length c8) (planAllF kind there).1.length D V Q g := hD8.kept fun r h1 h2 => by
    rw [hb9.block r (by omega)]
  go_wp2_with (go_at_call 18; (with_reducible refine (mark_walk hD9 hSm hl8 (by omega) rfl).mono ?_); rintro e w10 ⟨rfl, hD10, hb10⟩)
  have z10 := hb10.size
  have g10 : Below w.heap.size w w10 := g9.trans (hb10.mono (by omega))
  obtain ⟨hk1, hk2⟩ := kAt_bd hSm (Nat.le_refl _)
  go_wp2_with (go_at_call 19; (with_reducible refine (held_any hl8 hSm (RD.young hD10.rd)).mono ?_); rintro e w11 ⟨rfl, hb11⟩)
  have z11 := hb11.size
  have g11 : Below w.heap.size w w11 := g10.trans (hb11.mono (by omega))
  go_wp2_with (go_at_call 14; (with_reducible refine (toB_any there hl (RD.below g11 hu)).mono ?_); rintro e w12 ⟨v12, q12, rfl, hs12, _, hb12⟩)
  have z12 := hb12.size
  have g12 : Below w.heap.size w w12 := g11.trans (hb12.mono (by omega))
  go_wp2_with (go_at_call 10; (with_reducible refine (planAll_dat kind there hl (RD.young hs12.rd) HB.out).mono ?_); rintro e w13 ⟨v13, rfl, hr13, hb13⟩)
  have z13 := hb13.size
  have g13 : Below w.heap.size w w13 := g12.trans (hb13.mono (by omega))
  have r513 : RD w13 (old w2.heap.size) (.sl TP) (planAllF kind there).1 [v5] := RD.below (((((hb9.mono (by omega)).trans (hb10.mono (by omega))).trans (hb11.mono (by omega))).trans (hb12.mono (by omega))).trans (hb13.mono (by omega))) r58
  go_wp2_with (go_at_call 15; (with_reducible refine (eqP_any hsm hl8 (RD.young hr13) r513).mono ?_); rintro e w14 ⟨rfl, hb14⟩)
  have z14 := hb14.size
  have g14 : Below w.heap.size w w14 := g13.trans (hb14.mono (by omega))
  have hD14 := hD10.kept (w' := w14) fun r h1 h2 => by
    rw [hb14.block r (by omega), hb13.block r (by omega), hb12.block r (by omega), hb11.block r (by omega)]
  go_wp2_with (go_at_call 19; (with_reducible refine (held_any hl8 hSm (RD.young hD14.rd)).mono ?_); rintro e w15 ⟨rfl, hb15⟩)
  go_ret
  exact ⟨rfl, g14.trans (hb15.mono (by omega))⟩

theorem c4 (kind : Int) (there : List Bool) : SC P 4 [.one (.int .i64 kind), .one (.ro .bool there)] [] [.one (.bool true)] [] := by
  intro w vs ρ A hH hA
  have key : Calls P 4 vs w (Done w) := by
    obtain ⟨l⟩ := vs
    match l, hA with
    | [x, u], .cons h1 (.cons h2 .nil) =>
      simp only [RelW, RelC] at h1
      subst h1
      have hu : RD w (old w.heap.size) (.sl .bool) there [u] := RD.young h2
      have hu' := hu
      obtain ⟨ad, c, e1, h3, _⟩ := hu'
      simp at e1
      subst e1
      by_cases hl : there.length ≤ 1048576
      · exact top_walk kind there hl hu _ rfl
      · exact top_long kind (by omega)
  refine key.mono ?_
  rintro e w' ⟨h1, h2⟩
  refine ⟨_, rho0, h1, ⟨fun _ _ _ _ _ h => by simp at h, fun _ _ h => by simp at h, fun _ _ _ h => by simp at h, fun r hr => Nat.lt_of_lt_of_le (hH.A r hr) h2.size⟩, rfl, ⟨h2.os, h2.tape, h2.output, h2.size, fun k hk _ => h2.block k hk, fun k cs e fz hk => ⟨cs, e, fz, ?_, rfl⟩⟩, Nat.le_refl _, fun _ _ h => by simp at h, fun _ _ _ h => by simp at h, fun _ _ _ _ h => by simp at h, fun _ _ h => by simp at h⟩
  rw [h2.block k (Array.getElem?_eq_some_iff.1 hk).1]
  exact hk
end Go.Proofs.Ytjoiadaogppmkaa.Sh
namespace Go.Proofs.Ytjoiadaogppmkaa.fnExactPlanAll
open Go.ChangeShapes Go.WideShapes Go.ChangeAt Go.RowKit
set_option linter.unusedVariables false
theorem own : ownKnob Try.prog.godebug = none := by kernel_rfl
theorem laidOut : laidOutB Try.prog = true := by kernel_rfl
set_option maxRecDepth 100000 in
theorem lifted (os : Os) (started : os.Started) (H : Type) (enc : TypeId × Value → H) :
    ReturnsInHanded {} Try.checked os 4 .any (Rows.fnExactPlanAllSpec.pre6 enc Try.prog Try.f4 Rows.fnExactPlanAllRow.domain false) (Rows.fnExactPlanAllSpec.post enc Try.prog Try.f4 false true false false) := by
  refine returnsInHanded_of_change_sized (C := Try.checked) own started (by kernel_rfl) Try.func4
    (ChangeSpec.witness6 (enc := enc) (C := Try.checked) false ⟨#[], #[.int .i64 0, .slice none 0 0], []⟩ 4 (by kernel_rfl) (by kernel_rfl) (by kernel_rfl) (by kernel_rfl)) ?_
  intro W base args ds gs before hval0 hW hcnd hsz0 _
  have hval : ∀ (j : Nat) t v, Try.f4.params[j]? = some t → args[j]? = some v → Value.okWide Try.prog W .any base t v := hval0
  have hW' := hW
  obtain ⟨p, q, hA0, hV, rfl, hfz, hnd⟩ := hW
  have hA : DataW.TrodAll enc Try.prog W 0 (fun _ => true) true Try.f4.params.toList args.toList ds p := hA0
  rw [Try.params4] at hA hval
  obtain ⟨v0, vs0, d0, ds0, p0, q0, hargs, rfl, rfl, h0, r0⟩ := trodAll_cons hA
  obtain ⟨v1, vs1, d1, ds1, p1, q1, rfl, rfl, rfl, h1, r1⟩ := trodAll_cons r0
  obtain ⟨rfl, rfl, rfl⟩ := trodAll_nil r1
  obtain rfl : args = #[v0, v1] := by cases args; simp_all
  obtain ⟨rfl, rfl⟩ := trodVars_none hV
  have lt0 : ∀ x ∈ p0, x.block < W.heap.size := by obtain ⟨m, hm⟩ := h0; exact DataW.trod_lt m _ _ _ hm
  obtain ⟨x0, e0, i0⟩ := Sh.open_arg 12 (.int .i64) (by kernel_rfl) h0
  have lt1 : ∀ x ∈ p1, x.block < W.heap.size := by obtain ⟨m, hm⟩ := h1; exact DataW.trod_lt m _ _ _ hm
  obtain ⟨x1, e1, i1⟩ := Sh.open_arg 12 (.sl .bool) (by kernel_rfl) h1
  clear hA0 hval0 hsz0
  refine (Sh.SC.row (Sh.c4 x0 x1) (.cons (Sh.arg_rel (ty := (.int .i64)) (by kernel_rfl) (hval 0 3 v0 rfl rfl) e0) (.cons (Sh.arg_rel (ty := (.sl .bool)) (by kernel_rfl) (hval 1 23 v1 rfl rfl) e1) (.nil)))).mono fun e W' ⟨he, bel⟩ => ?_
  subst he
  exact ⟨_, rfl, _, _, _, [], _, [], hW', trodAll_mk1 (shut_bool Try.underlying4 _), (trodAll_cons_mk (Below.trod laidOut (by kernel_rfl) (of_decide_eq_true (by kernel_rfl)) h0 bel lt0) (trodAll_cons_mk (Below.trod laidOut (by kernel_rfl) (of_decide_eq_true (by kernel_rfl)) h1 bel lt1) trodAll_mk0)), rfl, bel.frame _, fun h => by cases h⟩
set_option maxHeartbeats 8000000 in
set_option maxRecDepth 100000 in
theorem closed : joinedFacts Try.prog 4 Try.f4 Rows.fnExactPlanAllSpec Rows.fnExactPlanAllRow = true := by
  unfold joinedFacts
  simp only [Bool.and_eq_true]
  rw [Sh.mayEnter_eq, Sh.lifts_eq, Sh.make_eq]
  repeat' apply And.intro
  all_goals first | as_aux_lemma => kernel_rfl | rfl
theorem over : Rows.fnExactPlanAllRow.holds Try.pinned (OpenSpec.ofChange Rows.fnExactPlanAllSpec) :=
  OpenClaim.holds_of_wide 4 Try.f4 rfl rfl rfl rfl rfl rfl rfl ⟨rfl, rfl, rfl, rfl, rfl⟩ rfl rfl rfl rfl rfl (by as_aux_lemma => kernel_rfl) Try.func4 closed
    (of_decide_eq_true (by kernel_rfl)) (by unfold Func.isWrapper; first | (rw [if_pos (by decide +kernel)]; kernel_rfl) | (rw [if_neg (by decide +kernel)]; exact ⟨rfl, rfl⟩))
    (fun os started H enc _ => lifted os started H enc)
theorem proved : Rows.FnExactPlanAllSaid := over
#print axioms proved
end Go.Proofs.Ytjoiadaogppmkaa.fnExactPlanAll
namespace Go.Proofs.Ytjoiadaogppmkaa
/-- The row, under a short name, for the claim. -/
theorem fnExactPlanAll_holds : Rows.FnExactPlanAllSaid := fnExactPlanAll.proved
end Go.Proofs.Ytjoiadaogppmkaa
