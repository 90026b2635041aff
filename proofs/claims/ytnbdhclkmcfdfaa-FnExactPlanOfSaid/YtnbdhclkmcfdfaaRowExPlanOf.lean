/- The statement FnExactPlanOf of the given program: proved from the contract of its function. No condition. -/
import Derived.Test.YtnbdhclkmcfdfaaShQc
import Derived.Test.YtnbdhclkmcfdfaaRows
import Derived.Test.YtnbdhclkmcfdfaaShOpen
import Derived.Test.YtnbdhclkmcfdfaaShOrder
import Derived.WalkKit
import Derived.ProofKit
import Derived.OpenShut
import Derived.ChangeOld
import Derived.Below
import Derived.SizedLaws
namespace Go.Proofs.Ytnbdhclkmcfdfaa.fnExactPlanOf
open Go.ChangeShapes Go.WideShapes Go.ChangeAt Go.RowKit
set_option linter.unusedVariables false
theorem own : ownKnob Try.prog.godebug = none := by kernel_rfl
theorem laidOut : laidOutB Try.prog = true := by kernel_rfl
set_option maxRecDepth 100000 in
theorem lifted (os : Os) (started : os.Started) (H : Type) (enc : TypeId × Value → H) :
    ReturnsInHanded {} Try.checked os 9 .any (Rows.fnExactPlanOfSpec.pre6 enc Try.prog Try.f9 Rows.fnExactPlanOfRow.domain false) (Rows.fnExactPlanOfSpec.post enc Try.prog Try.f9 false true false false) := by
  refine returnsInHanded_of_change_sized (C := Try.checked) own started (by kernel_rfl) Try.func9
    (ChangeSpec.witness6 (enc := enc) (C := Try.checked) false ⟨#[], #[.int .i64 0, .int .i64 0, .slice none 0 0], []⟩ 9 (by kernel_rfl) (by kernel_rfl) (by kernel_rfl) (by kernel_rfl)) ?_
  intro W base args ds gs before hval0 hW hcnd hsz0 _
  have hval : ∀ (j : Nat) t v, Try.f9.params[j]? = some t → args[j]? = some v → Value.okWide Try.prog W .any base t v := hval0
  have hW' := hW
  obtain ⟨p, q, hA0, hV, rfl, hfz, hnd⟩ := hW
  have hA : DataW.TrodAll enc Try.prog W 0 (fun _ => true) true Try.f9.params.toList args.toList ds p := hA0
  rw [Try.params9] at hA hval
  obtain ⟨v0, vs0, d0, ds0, p0, q0, hargs, rfl, rfl, h0, r0⟩ := trodAll_cons hA
  obtain ⟨v1, vs1, d1, ds1, p1, q1, rfl, rfl, rfl, h1, r1⟩ := trodAll_cons r0
  obtain ⟨v2, vs2, d2, ds2, p2, q2, rfl, rfl, rfl, h2, r2⟩ := trodAll_cons r1
  obtain ⟨rfl, rfl, rfl⟩ := trodAll_nil r2
  obtain rfl : args = #[v0, v1, v2] := by cases args; simp_all
  obtain ⟨rfl, rfl⟩ := trodVars_none hV
  have lt0 : ∀ x ∈ p0, x.block < W.heap.size := by obtain ⟨m, hm⟩ := h0; exact DataW.trod_lt m _ _ _ hm
  obtain ⟨x0, e0, i0⟩ := Sh.open_arg 12 (.int .i64) (by kernel_rfl) h0
  have lt1 : ∀ x ∈ p1, x.block < W.heap.size := by obtain ⟨m, hm⟩ := h1; exact DataW.trod_lt m _ _ _ hm
  obtain ⟨x1, e1, i1⟩ := Sh.open_arg 12 (.int .i64) (by kernel_rfl) h1
  have lt2 : ∀ x ∈ p2, x.block < W.heap.size := by obtain ⟨m, hm⟩ := h2; exact DataW.trod_lt m _ _ _ hm
  obtain ⟨x2, e2, i2⟩ := Sh.open_arg 12 (.sl .bool) (by kernel_rfl) h2
  clear hA0 hval0 hsz0
  refine (Sh.SC.row (Sh.c9 x0 x1 x2) (.cons (Sh.arg_rel (ty := (.int .i64)) (by kernel_rfl) (hval 0 3 v0 rfl rfl) e0) (.cons (Sh.arg_rel (ty := (.int .i64)) (by kernel_rfl) (hval 1 3 v1 rfl rfl) e1) (.cons (Sh.arg_rel (ty := (.sl .bool)) (by kernel_rfl) (hval 2 58 v2 rfl rfl) e2) (.nil))))).mono fun e W' ⟨he, bel⟩ => ?_
  subst he
  exact ⟨_, rfl, _, _, _, [], _, [], hW', trodAll_mk1 (shut_bool Try.underlying4 _), (trodAll_cons_mk (Below.trod laidOut (by kernel_rfl) (of_decide_eq_true (by kernel_rfl)) h0 bel lt0) (trodAll_cons_mk (Below.trod laidOut (by kernel_rfl) (of_decide_eq_true (by kernel_rfl)) h1 bel lt1) (trodAll_cons_mk (Below.trod laidOut (by kernel_rfl) (of_decide_eq_true (by kernel_rfl)) h2 bel lt2) trodAll_mk0))), rfl, bel.frame _, fun h => by cases h⟩
set_option maxHeartbeats 8000000 in
set_option maxRecDepth 100000 in
theorem closed : joinedFacts Try.prog 9 Try.f9 Rows.fnExactPlanOfSpec Rows.fnExactPlanOfRow = true := by
  unfold joinedFacts
  simp only [Bool.and_eq_true]
  rw [Sh.mayEnter_eq, Sh.lifts_eq, Sh.make_eq]
  repeat' apply And.intro
  all_goals first | as_aux_lemma => kernel_rfl | rfl
theorem over : Rows.fnExactPlanOfRow.holds Try.pinned (OpenSpec.ofChange Rows.fnExactPlanOfSpec) :=
  OpenClaim.holds_of_wide 9 Try.f9 rfl rfl rfl rfl rfl rfl rfl ⟨rfl, rfl, rfl, rfl, rfl⟩ rfl rfl rfl rfl rfl (by as_aux_lemma => kernel_rfl) Try.func9 closed
    (of_decide_eq_true (by kernel_rfl)) (by unfold Func.isWrapper; first | (rw [if_pos (by decide +kernel)]; kernel_rfl) | (rw [if_neg (by decide +kernel)]; exact ⟨rfl, rfl⟩))
    (fun os started H enc _ => lifted os started H enc)
theorem proved : Rows.FnExactPlanOfSaid := over
#print axioms proved
end Go.Proofs.Ytnbdhclkmcfdfaa.fnExactPlanOf
namespace Go.Proofs.Ytnbdhclkmcfdfaa
/-- The row, under a short name, for the claim. -/
theorem fnExactPlanOf_holds : Rows.FnExactPlanOfSaid := fnExactPlanOf.proved
end Go.Proofs.Ytnbdhclkmcfdfaa
