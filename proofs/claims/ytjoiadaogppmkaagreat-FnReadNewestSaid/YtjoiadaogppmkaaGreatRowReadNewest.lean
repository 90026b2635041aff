/- The statement FnReadNewest of the given program: proved from the contract of its function. No condition. -/
import Derived.Test.YtjoiadaogppmkaaGreatShT5
import Derived.Test.YtjoiadaogppmkaaGreatRows
import Derived.Test.YtjoiadaogppmkaaGreatShOpen
import Derived.Test.YtjoiadaogppmkaaGreatShOrder
import Derived.WalkKit
import Derived.ProofKit
import Derived.OpenShut
import Derived.ChangeOld
import Derived.Below
import Derived.SizedLaws
namespace Go.Proofs.YtjoiadaogppmkaaGreat.fnReadNewest
open Go.ChangeShapes Go.WideShapes Go.ChangeAt Go.RowKit
set_option linter.unusedVariables false
theorem own : ownKnob Tryz.prog.godebug = none := by kernel_rfl
theorem laidOut : laidOutB Tryz.prog = true := by kernel_rfl
set_option maxRecDepth 100000 in
theorem lifted (os : Os) (started : os.Started) (H : Type) (enc : TypeId × Value → H) :
    ReturnsInHanded {} Tryz.checked os 5 .any (Rows.fnReadNewestSpec.pre6 enc Tryz.prog Tryz.f5 Rows.fnReadNewestRow.domain false) (Rows.fnReadNewestSpec.post enc Tryz.prog Tryz.f5 false true false false) := by
  refine returnsInHanded_of_change_sized (C := Tryz.checked) own started (by kernel_rfl) Tryz.func5
    (ChangeSpec.witness6 (enc := enc) (C := Tryz.checked) false ⟨#[], #[.slice none 0 0], []⟩ 5 (by kernel_rfl) (by kernel_rfl) (by kernel_rfl) (by kernel_rfl)) ?_
  intro W base args ds gs before hval0 hW hcnd hsz0 _
  have hval : ∀ (j : Nat) t v, Tryz.f5.params[j]? = some t → args[j]? = some v → Value.okWide Tryz.prog W .any base t v := hval0
  have hW' := hW
  obtain ⟨p, q, hA0, hV, rfl, hfz, hnd⟩ := hW
  have hA : DataW.TrodAll enc Tryz.prog W 0 (fun _ => true) true Tryz.f5.params.toList args.toList ds p := hA0
  rw [Tryz.params5] at hA hval
  obtain ⟨v0, vs0, d0, ds0, p0, q0, hargs, rfl, rfl, h0, r0⟩ := trodAll_cons hA
  obtain ⟨rfl, rfl, rfl⟩ := trodAll_nil r0
  obtain rfl : args = #[v0] := by cases args; simp_all
  obtain ⟨rfl, rfl⟩ := trodVars_none hV
  have lt0 : ∀ x ∈ p0, x.block < W.heap.size := by obtain ⟨m, hm⟩ := h0; exact DataW.trod_lt m _ _ _ hm
  obtain ⟨x0, e0, i0⟩ := Sh.open_arg 12 (.sl (.int .u8)) (by kernel_rfl) h0
  clear hA0 hval0 hsz0
  refine (Sh.SC.row (Sh.c5 x0 (Sh.bytes_of i0)) (.cons (Sh.arg_rel (ty := (.sl (.int .u8))) (by kernel_rfl) (hval 0 36 v0 rfl rfl) e0) (.nil))).mono fun e W' ⟨he, bel⟩ => ?_
  subst he
  exact ⟨_, rfl, _, _, _, [], _, [], hW', trodAll_mk1 (shut_bool Tryz.underlying4 _), (trodAll_cons_mk (Below.trod laidOut (by kernel_rfl) (of_decide_eq_true (by kernel_rfl)) h0 bel lt0) trodAll_mk0), rfl, bel.frame _, fun h => by cases h⟩
set_option maxHeartbeats 8000000 in
set_option maxRecDepth 100000 in
theorem closed : joinedFacts Tryz.prog 5 Tryz.f5 Rows.fnReadNewestSpec Rows.fnReadNewestRow = true := by
  unfold joinedFacts
  simp only [Bool.and_eq_true]
  rw [Sh.mayEnter_eq, Sh.lifts_eq, Sh.make_eq]
  repeat' apply And.intro
  all_goals first | as_aux_lemma => kernel_rfl | rfl
theorem over : Rows.fnReadNewestRow.holds Tryz.pinned (OpenSpec.ofChange Rows.fnReadNewestSpec) :=
  OpenClaim.holds_of_wide 5 Tryz.f5 rfl rfl rfl rfl rfl rfl rfl ⟨rfl, rfl, rfl, rfl, rfl⟩ rfl rfl rfl rfl rfl (by as_aux_lemma => kernel_rfl) Tryz.func5 closed
    (of_decide_eq_true (by kernel_rfl)) (by unfold Func.isWrapper; first | (rw [if_pos (by decide +kernel)]; kernel_rfl) | (rw [if_neg (by decide +kernel)]; exact ⟨rfl, rfl⟩))
    (fun os started H enc _ => lifted os started H enc)
theorem proved : Rows.FnReadNewestSaid := over
#print axioms proved
end Go.Proofs.YtjoiadaogppmkaaGreat.fnReadNewest
namespace Go.Proofs.YtjoiadaogppmkaaGreat
/-- The row, under a short name, for the claim. -/
theorem fnReadNewest_holds : Rows.FnReadNewestSaid := fnReadNewest.proved
end Go.Proofs.YtjoiadaogppmkaaGreat
