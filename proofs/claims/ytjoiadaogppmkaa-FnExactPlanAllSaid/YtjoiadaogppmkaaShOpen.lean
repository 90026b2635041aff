/- Arguments, read as data. -/
import Derived.OpenShut
import Derived.Carry
import Derived.Handed
import Derived.SizedLaws
import Derived.ProofKit
import Derived.Test.YtjoiadaogppmkaaShSeat
namespace Go.Proofs.Ytjoiadaogppmkaa.Sh
open Go
set_option linter.unusedVariables false
set_option linter.unusedSimpArgs false

def fldIs (cells : Nat → Nat) (is : Nat → Ty → Bool) : Nat → List Field → Ty → Bool
  | off, [f], ty => Nat.beq f.offset off && Nat.beq (cells f.type) ty.size && is f.type ty
  | off, f :: r, .pair a b => Nat.beq f.offset off && Nat.beq (cells f.type) a.size && is f.type a && fldIs cells is (off + a.size) r b
  | _, _, _ => false
/-- the type's values are these data -/
def tyIs (P : Program) : Nat → Nat → Ty → Bool
  | 0, _, _ => false
  | n + 1, t, ty => match P.underlying t, ty with
    | some .bool, .bool => true
    | some (.int k), .int k' => decide (k = k')
    | some (.slice e), .sl a => tyIs P n e a && Nat.beq (P.cellsOf e) a.size
    | some (.struct fs), ty => Nat.beq (P.cellsOf t) ty.size && fldIs P.cellsOf (tyIs P n) 0 fs.toList ty
    | _, _ => false

/-- in the range of their types -/
def InR : (t : Ty) → t.D → Prop
  | .int k, n => (Lit.int k n).wf = true
  | .bool, _ => True
  | .pair a b, x => InR a x.1 ∧ InR b x.2
  | .sl a, l => List.length l ≤ maxLen ∧ ∀ x ∈ (l : List a.D), InR a x

theorem choose_list {α : Type} {R : Nat → α → Prop} : ∀ n : Nat, (∀ i, i < n → ∃ x, R i x) → ∃ l : List α, l.length = n ∧ ∀ i x, l[i]? = some x → R i x
  | 0, _ => ⟨[], rfl, fun i x h => by simp at h⟩
  | n + 1, h => by
    obtain ⟨l, hl, hR⟩ := choose_list n fun i hi => h i (by omega)
    obtain ⟨x, hx⟩ := h n (by omega)
    refine ⟨l ++ [x], by simp [hl], fun i y hi => ?_⟩
    rw [get_snoc] at hi
    split at hi
    · exact hR i y hi
    · split at hi
      · rename_i e
        cases hi
        rw [e, hl]; exact hx
      · cases hi

section
variable {H : Type} {enc : TypeId × Value → H} {P : Program} {w : World} {base : Nat} {spare : Nat → Bool} {held : Bool}

theorem fld_open {is : Nat → Ty → Bool} {fuel : Nat} {cs : List Value} (IH : ∀ (t : Nat) (ty : Ty) (cs : List Value) (x : DataW H × List MemPlace), is t ty = true → DataW.trod enc P w base spare held fuel t cs = some x → ∃ d : ty.D, RD w (fun _ => False) ty d cs ∧ InR ty d) :
    ∀ (fs : List Field) (off : Nat) (ty : Ty), fldIs P.cellsOf is off fs ty = true → (∀ f ∈ fs, ∃ x, DataW.trod enc P w base spare held fuel f.type ((cs.drop f.offset).take (P.cellsOf f.type)) = some x) →
      ∃ d : ty.D, RD w (fun _ => False) ty d ((cs.drop off).take ty.size) ∧ InR ty d
  | [], off, ty, h, _ => by simp [fldIs] at h
  | [f], off, ty, h, hf => by
    simp only [fldIs, Bool.and_eq_true] at h
    obtain ⟨x, hx⟩ := hf f (by simp)
    rw [Nat.eq_of_beq_eq_true h.1.1, Nat.eq_of_beq_eq_true h.1.2] at hx
    exact IH _ _ _ x h.2 hx
  | f :: g :: r, off, ty, h, hf => by
    cases ty with
    | pair a b =>
      simp only [fldIs, Bool.and_eq_true] at h
      obtain ⟨x, hx⟩ := hf f (by simp)
      rw [Nat.eq_of_beq_eq_true h.1.1.1, Nat.eq_of_beq_eq_true h.1.1.2] at hx
      obtain ⟨d1, h1, g1⟩ := IH _ _ _ x h.1.2 hx
      obtain ⟨d2, h2, g2⟩ := fld_open IH (g :: r) (off + a.size) b h.2 fun f' hf' => hf f' (List.mem_cons_of_mem _ hf')
      refine ⟨(d1, d2), ⟨_, _, ?_, h1, h2⟩, g1, g2⟩
      simp only [Ty.size]
      rw [List.take_add, List.drop_drop]
    | int k => simp [fldIs] at h
    | bool => simp [fldIs] at h
    | sl a => simp [fldIs] at h

theorem open_data : ∀ (n : Nat) (fuel : Nat) (t : Nat) (ty : Ty) (cs : List Value) (x : DataW H × List MemPlace), tyIs P n t ty = true → DataW.trod enc P w base spare held fuel t cs = some x → ∃ d : ty.D, RD w (fun _ => False) ty d cs ∧ InR ty d
  | 0, fuel, t, ty, cs, x, h, _ => by simp [tyIs] at h
  | n + 1, fuel, t, ty, cs, x, h, hx => by
    simp only [tyIs] at h
    split at h
    · rename_i hu
      obtain ⟨b, rfl, _⟩ := DataW.trod_bool hu hx
      exact ⟨b, rfl, trivial⟩
    · rename_i k k' hu
      have := of_decide_eq_true h
      subst this
      obtain ⟨m, rfl, _, hw⟩ := DataW.trod_int hu hx
      exact ⟨m, rfl, hw⟩
    · rename_i e a hu
      rw [Bool.and_eq_true] at h
      have hc := Nat.eq_of_beq_eq_true h.2
      rcases DataW.trod_slice hu hx with ⟨rfl, _⟩ | ⟨ad, len, cap, elems, rest, m, _, rfl, _, _, hl, hm, hlen, hel, _, _⟩
      · exact ⟨[], ⟨none, 0, rfl, Nat.le_refl _, fun i x hx => by simp at hx⟩, by simp [InR, maxLen]⟩
      · obtain ⟨b, off, spot⟩ := ad
        have hsp : 0 < len → spot = none := by
          intro h0
          have h1 := hel 0 h0
          rw [List.getElem?_eq_getElem (by omega), Option.bind_eq_some_iff] at h1
          obtain ⟨cs, hcs, htr⟩ := h1
          obtain ⟨_, hlen', hcell⟩ := World.cells?_some hcs
          have hpos : 0 < cs.length := by rw [hlen', hc]; exact a.size_pos
          have h2 := hcell 0 (by omega)
          rw [List.getElem?_eq_getElem hpos] at h2
          simpa [Addr.add] using World.cell?_spot h2
        obtain ⟨l, hll, hR⟩ := choose_list (α := a.D) (R := fun i d => InR a d ∧ ∃ r o cs, some (⟨b, off, spot⟩ : Addr) = some (⟨r, o, none⟩ : Addr) ∧ RD w (fun _ => False) a d cs ∧ ∀ j v, cs[j]? = some v → at_ w r (o + i * a.size + j) = some v) len (by
          intro i hi
          have h1 := hel i hi
          rw [List.getElem?_eq_getElem (by omega), Option.bind_eq_some_iff] at h1
          obtain ⟨cs, hcs, htr⟩ := h1
          obtain ⟨d, hd, hr⟩ := open_data n m e a cs _ h.1 htr
          obtain ⟨_, hlen', hcell⟩ := World.cells?_some hcs
          have := hsp (by omega)
          subst this
          refine ⟨d, hr, b, off, cs, rfl, hd, fun j v hj => ?_⟩
          have h3 := hcell j (by rw [← hlen']; exact lt_of_get hj)
          rw [hc, add_at, add_at, hj] at h3
          exact h3)
        refine ⟨l, ⟨some ⟨b, off, spot⟩, cap, by rw [hll], by rw [hll]; exact hl, fun i y hy => ?_⟩, by rw [hll]; omega, fun y hy => ?_⟩
        · obtain ⟨_, r, o, cs, e1, h1, h2⟩ := hR i y hy
          exact ⟨r, o, cs, e1, id, h1, h2⟩
        · obtain ⟨i, hi⟩ := List.getElem?_of_mem hy
          exact (hR i y hi).1
    · rename_i fs hu
      rw [Bool.and_eq_true] at h
      obtain ⟨xs, m, rfl, _, hlen, hxl, hf⟩ := DataW.trod_struct hu hx
      obtain ⟨d, hd, hr⟩ := fld_open (fuel := m) (cs := cs) (fun t ty cs x => open_data n m t ty cs x) fs.toList 0 _ h.2 (by
        intro f hfm
        obtain ⟨i, hi⟩ := List.getElem?_of_mem hfm
        rw [Array.getElem?_toList] at hi
        have := hf i f hi
        have hil : i < xs.length := by rw [hxl]; exact (Array.getElem?_eq_some_iff.1 hi).1
        rw [List.getElem?_eq_getElem hil] at this
        exact ⟨_, this⟩)
      rw [List.drop_zero, List.take_of_length_le (by rw [hlen, Nat.eq_of_beq_eq_true h.1]; exact Nat.le_refl _)] at hd
      exact ⟨d, hd, hr⟩
    · cases h
end

/-- An argument's value. -/
theorem open_arg {H : Type} {enc : TypeId × Value → H} {P : Program} {w : World} {base : Nat} {spare : Nat → Bool} {held : Bool} {t : Nat} {v : Value} {d0 : DataW H} {ps : List MemPlace} (n : Nat) (ty : Ty) (ht : tyIs P n t ty = true)
    (h : DataW.Trod enc P w base spare held t v d0 ps) : ∃ d : ty.D, RD w (fun _ => False) ty d v.cells.toList ∧ InR ty d := by
  obtain ⟨fuel, hf⟩ := h
  exact open_data n fuel t ty _ _ ht hf

/-! ## from ShRow -/
open Go Go.ChangeShapes Go.RowKit

def aggOk (P : Program) (t : Nat) (ty : Ty) : Bool := match P.underlying t, ty with
  | some (.struct _), .pair _ _ => true
  | some (.int _), .int _ => true
  | some .bool, .bool => true
  | some (.slice _), .sl _ => true
  | _, _ => false

/-- an argument that is data -/
def argW : (t : Ty) → t.D → W
  | .pair a b, x => .agg (cellsD (.pair a b) x)
  | t, x => .one (cell1 t x)

theorem arg_rel {P : Program} {w W : World} {av : Nat → Prop} {ρ : Rho} {h : Heap} {t base : Nat} {ty : Ty} (hg : aggOk P t ty = true) {v : Value} (hv : Value.okWide P W .any base t v) {d : ty.D} (hd : RD w av ty d v.cells.toList) :
    RelW w av ρ h (argW ty d) v := by
  unfold aggOk at hg
  unfold Value.okWide at hv
  split at hg
  · rename_i fs a b hu
    rw [hu] at hv
    obtain ⟨cs, rfl, _⟩ := hv
    exact ⟨cs, rfl, cellsD_rel _ _ _ hd⟩
  · rename_i k k' hu
    rw [hu] at hv
    cases v <;> simp [Cell.okWide, Cell.ok, hu] at hv
    simp [Value.cells, RD] at hd
    obtain ⟨rfl, rfl⟩ := hd
    rfl
  · rename_i hu
    rw [hu] at hv
    cases v <;> simp [Cell.okWide, Cell.ok, hu] at hv
    simp [Value.cells, RD] at hd
    subst hd
    rfl
  · rename_i e a hu
    rw [hu] at hv
    cases v <;> simp [Cell.okWide, Cell.ok, hu] at hv
    all_goals exact hd
  · cases hg

/-- What the caller learns: memory that stood stands. -/
theorem SC.row {P : Program} {f : Nat} {args : List W} (h : SC P f args [] [.one (.bool true)] []) {W0 : World} {vs : Array Value} (ha : All2 (RelW W0 (fun _ => False) (fun _ => none) []) args vs.toList) :
    Calls P f vs W0 fun e W' => e = .returned (.bool true) ∧ Below W0.heap.size W0 W' := by
  have hH : RelH (fun _ => False) (fun _ => none) [] W0 := ⟨fun b b' r b1 b2 hb => by simp at hb, fun b x hx => by simp at hx, fun b r b1 hb => by simp at hb, fun r hr => hr.elim⟩
  have hav : ∀ r, avs (fun _ => False) (fun _ => none) [] r → False := by
    intro r hr
    rcases hr with hr | ⟨b, x, base, hx, _⟩
    · exact hr
    · simp at hx
  refine Calls.mono (h W0 vs (fun _ => none) (fun _ => False) hH (ha.mono fun x v _ hx => RelW.mono (fun r _ h => (hav r h).elim) (fun r o v _ h => h) (fun b _ => Sim.refl _ _ _ _) hx)) ?_
  rintro e W' ⟨v, ρ', rfl, h1, h2, h3, _⟩
  have hv : v = .bool true := h2
  subst hv
  refine ⟨rfl, h3.os, h3.tape, h3.output, h3.size, fun k hk => h3.block k hk ?_⟩
  rintro ⟨b, x, base, hx, _⟩
  simp at hx

end Go.Proofs.Ytjoiadaogppmkaa.Sh
