/- The statement FnPlanAll of the given program: proved from the contract of its function. No condition. -/
import Derived.Test.YtjoiadaogppmkaaShQd
import Derived.Test.YtjoiadaogppmkaaRows
import Derived.Test.YtjoiadaogppmkaaShOpen
import Derived.Test.YtjoiadaogppmkaaShOrder
import Derived.WalkKit
import Derived.ProofKit
import Derived.OpenShut
import Derived.ChangeOld
import Derived.Below
import Derived.SizedLaws
namespace Go.Proofs.Ytjoiadaogppmkaa.fnPlanAll
open Go.ChangeShapes Go.WideShapes Go.ChangeAt Go.RowKit
set_option linter.unusedVariables false
theorem own : ownKnob Try.prog.godebug = none := by kernel_rfl
theorem laidOut : laidOutB Try.prog = true := by kernel_rfl
set_option maxRecDepth 100000 in
theorem lifted (os : Os) (started : os.Started) (H : Type) (enc : TypeId × Value → H) :
    ReturnsInHanded {} Try.checked os 3 .any (Rows.fnPlanAllSpec.pre6 enc Try.prog Try.f3 Rows.fnPlanAllRow.domain false) (Rows.fnPlanAllSpec.post enc Try.prog Try.f3 false true false false) := by
  refine returnsInHanded_of_change_sized (C := Try.checked) own started (by kernel_rfl) Try.func3
    (ChangeSpec.witness6 (enc := enc) (C := Try.checked) false ⟨#[], #[.slice none 0 0], []⟩ 3 (by kernel_rfl) (by kernel_rfl) (by kernel_rfl) (by kernel_rfl)) ?_
  intro W base args ds gs before hval0 hW hcnd hsz0 _
  have hval : ∀ (j : Nat) t v, Try.f3.params[j]? = some t → args[j]? = some v → Value.okWide Try.prog W .any base t v := hval0
  have hW' := hW
  obtain ⟨p, q, hA0, hV, rfl, hfz, hnd⟩ := hW
  have hA : DataW.TrodAll enc Try.prog W 0 (fun _ => true) true Try.f3.params.toList args.toList ds p := hA0
  rw [Try.params3] at hA hval
  obtain ⟨v0, vs0, d0, ds0, p0, q0, hargs, rfl, rfl, h0, r0⟩ := trodAll_cons hA
  obtain ⟨rfl, rfl, rfl⟩ := trodAll_nil r0
  obtain rfl : args = #[v0] := by cases args; simp_all
  obtain ⟨rfl, rfl⟩ := trodVars_none hV
  have lt0 : ∀ x ∈ p0, x.block < W.heap.size := by obtain ⟨m, hm⟩ := h0; exact DataW.trod_lt m _ _ _ hm
  obtain ⟨x0, e0, i0⟩ := Sh.open_arg 12 (.sl (.int .u8)) (by kernel_rfl) h0
  clear hA0 hval0 hsz0
  refine (Sh.SC.row (Sh.c3 x0 (Sh.bytes_of i0)) (.cons (Sh.arg_rel (ty := (.sl (.int .u8))) (by kernel_rfl) (hval 0 22 v0 rfl rfl) e0) (.nil))).mono fun e W' ⟨he, bel⟩ => ?_
  subst he
  exact ⟨_, rfl, _, _, _, [], _, [], hW', trodAll_mk1 (shut_bool Try.underlying4 _), (trodAll_cons_mk (Below.trod laidOut (by kernel_rfl) (of_decide_eq_true (by kernel_rfl)) h0 bel lt0) trodAll_mk0), rfl, bel.frame _, fun h => by cases h⟩
set_option maxHeartbeats 8000000 in
set_option maxRecDepth 100000 in
theorem closed : joinedFacts Try.prog 3 Try.f3 Rows.fnPlanAllSpec Rows.fnPlanAllRow = true := by
  unfold joinedFacts
  simp only [Bool.and_eq_true]
  rw [Sh.mayEnter_eq, Sh.lifts_eq, Sh.make_eq]
  repeat' apply And.intro
  all_goals first | as_aux_lemma => kernel_rfl | rfl
theorem over : Rows.fnPlanAllRow.holds Try.pinned (OpenSpec.ofChange Rows.fnPlanAllSpec) :=
  OpenClaim.holds_of_wide 3 Try.f3 rfl rfl rfl rfl rfl rfl rfl ⟨rfl, rfl, rfl, rfl, rfl⟩ rfl rfl rfl rfl rfl (by as_aux_lemma => kernel_rfl) Try.func3 closed
    (of_decide_eq_true (by kernel_rfl)) (by unfold Func.isWrapper; first | (rw [if_pos (by decide +kernel)]; kernel_rfl) | (rw [if_neg (by decide +kernel)]; exact ⟨rfl, rfl⟩))
    (fun os started H enc _ => lifted os started H enc)
theorem proved : Rows.FnPlanAllSaid := over
#print axioms proved
end Go.Proofs.Ytjoiadaogppmkaa.fnPlanAll
namespace Go.Proofs.Ytjoiadaogppmkaa
/-- The row, under a short name, for the claim. -/
theorem fnPlanAll_holds : Rows.FnPlanAllSaid := fnPlanAll.proved
end Go.Proofs.Ytjoiadaogppmkaa
