/- From a function's contract to its row. -/
import Derived.Test.YtlebgbcoljnejaaShOpen
namespace Go.Proofs.Ytlebgbcoljnejaa.Sh
open Go Go.ChangeShapes Go.RowKit
set_option linter.unusedVariables false
set_option linter.unusedSimpArgs false

def aggOk (P : Program) (t : Nat) (ty : Ty) : Bool := match P.underlying t, ty with
  | some (.struct _), .pair _ _ => true
  | some (.int _), .int _ => true
  | some .bool, .bool => true
  | some (.slice _), .sl _ => true
  | _, _ => false

/-- an argument that is data -/
def argW : (t : Ty) → t.D → W
  | .pair a b, x => .agg (cellsD (.pair a b) x)
  | t, x => .one (cell1 t x)

theorem arg_rel {P : Program} {w W : World} {av : Nat → Prop} {ρ : Rho} {h : Heap} {t base : Nat} {ty : Ty} (hg : aggOk P t ty = true) {v : Value} (hv : Value.okWide P W .any base t v) {d : ty.D} (hd : RD w av ty d v.cells.toList) :
    RelW w av ρ h (argW ty d) v := by
  unfold aggOk at hg
  unfold Value.okWide at hv
  split at hg
  · rename_i fs a b hu
    rw [hu] at hv
    obtain ⟨cs, rfl, _⟩ := hv
    exact ⟨cs, rfl, cellsD_rel _ _ _ hd⟩
  · rename_i k k' hu
    rw [hu] at hv
    cases v <;> simp [Cell.okWide, Cell.ok, hu] at hv
    simp [Value.cells, RD] at hd
    obtain ⟨rfl, rfl⟩ := hd
    rfl
  · rename_i hu
    rw [hu] at hv
    cases v <;> simp [Cell.okWide, Cell.ok, hu] at hv
    simp [Value.cells, RD] at hd
    subst hd
    rfl
  · rename_i e a hu
    rw [hu] at hv
    cases v <;> simp [Cell.okWide, Cell.ok, hu] at hv
    all_goals exact hd
  · cases hg

/-- What the caller learns: memory that stood stands. -/
theorem SC.row {P : Program} {f : Nat} {args : List W} (h : SC P f args [] [.one (.bool true)] []) {W0 : World} {vs : Array Value} (ha : All2 (RelW W0 (fun _ => False) (fun _ => none) []) args vs.toList) :
    Calls P f vs W0 fun e W' => e = .returned (.bool true) ∧ Below W0.heap.size W0 W' := by
  have hH : RelH (fun _ => False) (fun _ => none) [] W0 := ⟨fun b b' r b1 b2 hb => by simp at hb, fun b x hx => by simp at hx, fun b r b1 hb => by simp at hb, fun r hr => hr.elim⟩
  have hav : ∀ r, avs (fun _ => False) (fun _ => none) [] r → False := by
    intro r hr
    rcases hr with hr | ⟨b, x, base, hx, _⟩
    · exact hr
    · simp at hx
  refine Calls.mono (h W0 vs (fun _ => none) (fun _ => False) hH (ha.mono fun x v _ hx => RelW.mono (fun r _ h => (hav r h).elim) (fun r o v _ h => h) (fun b _ => Sim.refl _ _ _ _) hx)) ?_
  rintro e W' ⟨v, ρ', rfl, h1, h2, h3, _⟩
  have hv : v = .bool true := h2
  subst hv
  refine ⟨rfl, h3.os, h3.tape, h3.output, h3.size, fun k hk => h3.block k hk ?_⟩
  rintro ⟨b, x, base, hx, _⟩
  simp at hx

end Go.Proofs.Ytlebgbcoljnejaa.Sh
