/-
  No cell of these rows narrows 'for every input' (looked for: loops, veiled, ifaces, maps, wideKeys, modest, calm, conditions, laid).
  DERIVED. THE GIVEN ROWS OF THIS SEAT. 24 by the template 'for every input the law returns true; each argument reads behind the call as it read before'; 0 by the template 'total and deterministic' (their statements: YtiagcjjobfoflaaTotals.lean).
  GIVEN WITH THE SEED: the statements are not yours to turn. If you find one false, say at which input.
  Laid BY PROGRAM, IN A SANDBOX (cutbox-rows.mjs): the forced cells as the released guide's own fill.sh prints them over the translation 2a388ae32a1a73e5… (all of the seat's roots in one cut). By AI agents, Wed Nov 11 2026. No macro, syntax, notation, axiom, sorry.
-/
import Derived.Test.YtiagcjjobfoflaaChecked
import GoSem.Claim
import GoSem.ClaimJoined
import GoSem.ClaimMapViews
import Derived.JoinedTies
import Derived.KernelRfl
namespace Go.Proofs.Ytiagcjjobfoflaa
/- THE CELL 'sum', in the pinned program and in every row, IS THE sha256 OF THE DUMP (.gsa) THAT YtiagcjjobfoflaaProg.lean LOADS. Nothing in Lean hashes anything: it is a label: what it is worth is what the hold of that sum in a sandbox is worth. -/
noncomputable def Try.pinned : Pinned := { name := "ytiagcjjobfoflaa", sum := "2a388ae32a1a73e51f2469d0d758b23ea99c4f9eca811fc301580977398a03d8", checked := Try.checked }
namespace Rows
def none {H : Type} : Left H := { results := [], args := [] }

/-- 'laws.FnExactPatchOk': WHATEVER THE INPUT: true; the input reads as it did. -/
def fnExactPatchOkSpec : ChangeSpec := { name := "fnExactPatchOk", fn := fun _ => fun
  | [d] => { results := [.lit (.bool true)], args := [d] }
  | _ => none }
def fnExactPatchOkRow : OpenClaim := { program := "ytiagcjjobfoflaa", sum := "2a388ae32a1a73e51f2469d0d758b23ea99c4f9eca811fc301580977398a03d8", func := "loop.example/keelson/laws.FnExactPatchOk", spec := "fnExactPatchOk", apart := false }
def FnExactPatchOkSaid : Prop := fnExactPatchOkRow.holds Try.pinned (OpenSpec.ofChange fnExactPatchOkSpec)

/-- ITS FALSE NEIGHBOUR: 'it returns false'. Refute it at one input. -/
def fnExactPatchOkWrong : ChangeSpec := { name := "fnExactPatchOk", fn := fun _ => fun
  | [d] => { results := [.lit (.bool false)], args := [d] }
  | _ => none }
def FnExactPatchOkWrongFalsely : Prop := fnExactPatchOkRow.holds Try.pinned (OpenSpec.ofChange fnExactPatchOkWrong)

/-- 'laws.FnExactHouseScore': WHATEVER THE INPUT: true; the input reads as it did. -/
def fnExactHouseScoreSpec : ChangeSpec := { name := "fnExactHouseScore", fn := fun _ => fun
  | [d1, d2] => { results := [.lit (.bool true)], args := [d1, d2] }
  | _ => none }
def fnExactHouseScoreRow : OpenClaim := { program := "ytiagcjjobfoflaa", sum := "2a388ae32a1a73e51f2469d0d758b23ea99c4f9eca811fc301580977398a03d8", func := "loop.example/keelson/laws.FnExactHouseScore", spec := "fnExactHouseScore", apart := false }
def FnExactHouseScoreSaid : Prop := fnExactHouseScoreRow.holds Try.pinned (OpenSpec.ofChange fnExactHouseScoreSpec)

/-- ITS FALSE NEIGHBOUR: 'it returns false'. Refute it at one input. -/
def fnExactHouseScoreWrong : ChangeSpec := { name := "fnExactHouseScore", fn := fun _ => fun
  | [d1, d2] => { results := [.lit (.bool false)], args := [d1, d2] }
  | _ => none }
def FnExactHouseScoreWrongFalsely : Prop := fnExactHouseScoreRow.holds Try.pinned (OpenSpec.ofChange fnExactHouseScoreWrong)

/-- 'laws.FnScore': WHATEVER THE INPUT: true; the input reads as it did. -/
def fnScoreSpec : ChangeSpec := { name := "fnScore", fn := fun _ => fun
  | [d] => { results := [.lit (.bool true)], args := [d] }
  | _ => none }
def fnScoreRow : OpenClaim := { program := "ytiagcjjobfoflaa", sum := "2a388ae32a1a73e51f2469d0d758b23ea99c4f9eca811fc301580977398a03d8", func := "loop.example/keelson/laws.FnScore", spec := "fnScore", apart := false }
def FnScoreSaid : Prop := fnScoreRow.holds Try.pinned (OpenSpec.ofChange fnScoreSpec)

/-- ITS FALSE NEIGHBOUR: 'it returns false'. Refute it at one input. -/
def fnScoreWrong : ChangeSpec := { name := "fnScore", fn := fun _ => fun
  | [d] => { results := [.lit (.bool false)], args := [d] }
  | _ => none }
def FnScoreWrongFalsely : Prop := fnScoreRow.holds Try.pinned (OpenSpec.ofChange fnScoreWrong)

/-- 'laws.FnHousesForm': WHATEVER THE INPUT: true; the input reads as it did. -/
def fnHousesFormSpec : ChangeSpec := { name := "fnHousesForm", fn := fun _ => fun
  | [d1, d2] => { results := [.lit (.bool true)], args := [d1, d2] }
  | _ => none }
def fnHousesFormRow : OpenClaim := { program := "ytiagcjjobfoflaa", sum := "2a388ae32a1a73e51f2469d0d758b23ea99c4f9eca811fc301580977398a03d8", func := "loop.example/keelson/laws.FnHousesForm", spec := "fnHousesForm", apart := false }
def FnHousesFormSaid : Prop := fnHousesFormRow.holds Try.pinned (OpenSpec.ofChange fnHousesFormSpec)

/-- ITS FALSE NEIGHBOUR: 'it returns false'. Refute it at one input. -/
def fnHousesFormWrong : ChangeSpec := { name := "fnHousesForm", fn := fun _ => fun
  | [d1, d2] => { results := [.lit (.bool false)], args := [d1, d2] }
  | _ => none }
def FnHousesFormWrongFalsely : Prop := fnHousesFormRow.holds Try.pinned (OpenSpec.ofChange fnHousesFormWrong)

/-- 'laws.FnExactHousesOk': WHATEVER THE INPUT: true; the input reads as it did. -/
def fnExactHousesOkSpec : ChangeSpec := { name := "fnExactHousesOk", fn := fun _ => fun
  | [d] => { results := [.lit (.bool true)], args := [d] }
  | _ => none }
def fnExactHousesOkRow : OpenClaim := { program := "ytiagcjjobfoflaa", sum := "2a388ae32a1a73e51f2469d0d758b23ea99c4f9eca811fc301580977398a03d8", func := "loop.example/keelson/laws.FnExactHousesOk", spec := "fnExactHousesOk", apart := false }
def FnExactHousesOkSaid : Prop := fnExactHousesOkRow.holds Try.pinned (OpenSpec.ofChange fnExactHousesOkSpec)

/-- ITS FALSE NEIGHBOUR: 'it returns false'. Refute it at one input. -/
def fnExactHousesOkWrong : ChangeSpec := { name := "fnExactHousesOk", fn := fun _ => fun
  | [d] => { results := [.lit (.bool false)], args := [d] }
  | _ => none }
def FnExactHousesOkWrongFalsely : Prop := fnExactHousesOkRow.holds Try.pinned (OpenSpec.ofChange fnExactHousesOkWrong)

/-- 'laws.FnHouseRack': WHATEVER THE INPUT: true; the input reads as it did. -/
def fnHouseRackSpec : ChangeSpec := { name := "fnHouseRack", fn := fun _ => fun
  | [d] => { results := [.lit (.bool true)], args := [d] }
  | _ => none }
def fnHouseRackRow : OpenClaim := { program := "ytiagcjjobfoflaa", sum := "2a388ae32a1a73e51f2469d0d758b23ea99c4f9eca811fc301580977398a03d8", func := "loop.example/keelson/laws.FnHouseRack", spec := "fnHouseRack", apart := false }
def FnHouseRackSaid : Prop := fnHouseRackRow.holds Try.pinned (OpenSpec.ofChange fnHouseRackSpec)

/-- ITS FALSE NEIGHBOUR: 'it returns false'. Refute it at one input. -/
def fnHouseRackWrong : ChangeSpec := { name := "fnHouseRack", fn := fun _ => fun
  | [d] => { results := [.lit (.bool false)], args := [d] }
  | _ => none }
def FnHouseRackWrongFalsely : Prop := fnHouseRackRow.holds Try.pinned (OpenSpec.ofChange fnHouseRackWrong)

/-- 'laws.FnExactProgOk': WHATEVER THE INPUT: true; the input reads as it did. -/
def fnExactProgOkSpec : ChangeSpec := { name := "fnExactProgOk", fn := fun _ => fun
  | [d] => { results := [.lit (.bool true)], args := [d] }
  | _ => none }
def fnExactProgOkRow : OpenClaim := { program := "ytiagcjjobfoflaa", sum := "2a388ae32a1a73e51f2469d0d758b23ea99c4f9eca811fc301580977398a03d8", func := "loop.example/keelson/laws.FnExactProgOk", spec := "fnExactProgOk", unfollowed := true, recurses := true, apart := false }
def FnExactProgOkSaid : Prop := fnExactProgOkRow.holds Try.pinned (OpenSpec.ofChange fnExactProgOkSpec)

/-- ITS FALSE NEIGHBOUR: 'it returns false'. Refute it at one input. -/
def fnExactProgOkWrong : ChangeSpec := { name := "fnExactProgOk", fn := fun _ => fun
  | [d] => { results := [.lit (.bool false)], args := [d] }
  | _ => none }
def FnExactProgOkWrongFalsely : Prop := fnExactProgOkRow.holds Try.pinned (OpenSpec.ofChange fnExactProgOkWrong)

/-- 'laws.FnExactHouseRack': WHATEVER THE INPUT: true; the input reads as it did. -/
def fnExactHouseRackSpec : ChangeSpec := { name := "fnExactHouseRack", fn := fun _ => fun
  | [d1, d2] => { results := [.lit (.bool true)], args := [d1, d2] }
  | _ => none }
def fnExactHouseRackRow : OpenClaim := { program := "ytiagcjjobfoflaa", sum := "2a388ae32a1a73e51f2469d0d758b23ea99c4f9eca811fc301580977398a03d8", func := "loop.example/keelson/laws.FnExactHouseRack", spec := "fnExactHouseRack", apart := false }
def FnExactHouseRackSaid : Prop := fnExactHouseRackRow.holds Try.pinned (OpenSpec.ofChange fnExactHouseRackSpec)

/-- ITS FALSE NEIGHBOUR: 'it returns false'. Refute it at one input. -/
def fnExactHouseRackWrong : ChangeSpec := { name := "fnExactHouseRack", fn := fun _ => fun
  | [d1, d2] => { results := [.lit (.bool false)], args := [d1, d2] }
  | _ => none }
def FnExactHouseRackWrongFalsely : Prop := fnExactHouseRackRow.holds Try.pinned (OpenSpec.ofChange fnExactHouseRackWrong)

/-- 'laws.FnExactPlaceThere': WHATEVER THE INPUT: true; the input reads as it did. -/
def fnExactPlaceThereSpec : ChangeSpec := { name := "fnExactPlaceThere", fn := fun _ => fun
  | [d1, d2] => { results := [.lit (.bool true)], args := [d1, d2] }
  | _ => none }
def fnExactPlaceThereRow : OpenClaim := { program := "ytiagcjjobfoflaa", sum := "2a388ae32a1a73e51f2469d0d758b23ea99c4f9eca811fc301580977398a03d8", func := "loop.example/keelson/laws.FnExactPlaceThere", spec := "fnExactPlaceThere", unfollowed := true, recurses := true, apart := false }
def FnExactPlaceThereSaid : Prop := fnExactPlaceThereRow.holds Try.pinned (OpenSpec.ofChange fnExactPlaceThereSpec)

/-- ITS FALSE NEIGHBOUR: 'it returns false'. Refute it at one input. -/
def fnExactPlaceThereWrong : ChangeSpec := { name := "fnExactPlaceThere", fn := fun _ => fun
  | [d1, d2] => { results := [.lit (.bool false)], args := [d1, d2] }
  | _ => none }
def FnExactPlaceThereWrongFalsely : Prop := fnExactPlaceThereRow.holds Try.pinned (OpenSpec.ofChange fnExactPlaceThereWrong)

/-- 'laws.FnExactProgMany': WHATEVER THE INPUT: true; the input reads as it did. -/
def fnExactProgManySpec : ChangeSpec := { name := "fnExactProgMany", fn := fun _ => fun
  | [d1, d2] => { results := [.lit (.bool true)], args := [d1, d2] }
  | _ => none }
def fnExactProgManyRow : OpenClaim := { program := "ytiagcjjobfoflaa", sum := "2a388ae32a1a73e51f2469d0d758b23ea99c4f9eca811fc301580977398a03d8", func := "loop.example/keelson/laws.FnExactProgMany", spec := "fnExactProgMany", unfollowed := true, recurses := true, apart := false }
def FnExactProgManySaid : Prop := fnExactProgManyRow.holds Try.pinned (OpenSpec.ofChange fnExactProgManySpec)

/-- ITS FALSE NEIGHBOUR: 'it returns false'. Refute it at one input. -/
def fnExactProgManyWrong : ChangeSpec := { name := "fnExactProgMany", fn := fun _ => fun
  | [d1, d2] => { results := [.lit (.bool false)], args := [d1, d2] }
  | _ => none }
def FnExactProgManyWrongFalsely : Prop := fnExactProgManyRow.holds Try.pinned (OpenSpec.ofChange fnExactProgManyWrong)

/-- 'laws.FnHousesLess': WHATEVER THE INPUT: true; the input reads as it did. -/
def fnHousesLessSpec : ChangeSpec := { name := "fnHousesLess", fn := fun _ => fun
  | [d] => { results := [.lit (.bool true)], args := [d] }
  | _ => none }
def fnHousesLessRow : OpenClaim := { program := "ytiagcjjobfoflaa", sum := "2a388ae32a1a73e51f2469d0d758b23ea99c4f9eca811fc301580977398a03d8", func := "loop.example/keelson/laws.FnHousesLess", spec := "fnHousesLess", unfollowed := true, recurses := true, apart := false }
def FnHousesLessSaid : Prop := fnHousesLessRow.holds Try.pinned (OpenSpec.ofChange fnHousesLessSpec)

/-- ITS FALSE NEIGHBOUR: 'it returns false'. Refute it at one input. -/
def fnHousesLessWrong : ChangeSpec := { name := "fnHousesLess", fn := fun _ => fun
  | [d] => { results := [.lit (.bool false)], args := [d] }
  | _ => none }
def FnHousesLessWrongFalsely : Prop := fnHousesLessRow.holds Try.pinned (OpenSpec.ofChange fnHousesLessWrong)

/-- 'laws.FnExactPlaceMoves': WHATEVER THE INPUT: true; the input reads as it did. -/
def fnExactPlaceMovesSpec : ChangeSpec := { name := "fnExactPlaceMoves", fn := fun _ => fun
  | [d1, d2] => { results := [.lit (.bool true)], args := [d1, d2] }
  | _ => none }
def fnExactPlaceMovesRow : OpenClaim := { program := "ytiagcjjobfoflaa", sum := "2a388ae32a1a73e51f2469d0d758b23ea99c4f9eca811fc301580977398a03d8", func := "loop.example/keelson/laws.FnExactPlaceMoves", spec := "fnExactPlaceMoves", unfollowed := true, recurses := true, apart := false }
def FnExactPlaceMovesSaid : Prop := fnExactPlaceMovesRow.holds Try.pinned (OpenSpec.ofChange fnExactPlaceMovesSpec)

/-- ITS FALSE NEIGHBOUR: 'it returns false'. Refute it at one input. -/
def fnExactPlaceMovesWrong : ChangeSpec := { name := "fnExactPlaceMoves", fn := fun _ => fun
  | [d1, d2] => { results := [.lit (.bool false)], args := [d1, d2] }
  | _ => none }
def FnExactPlaceMovesWrongFalsely : Prop := fnExactPlaceMovesRow.holds Try.pinned (OpenSpec.ofChange fnExactPlaceMovesWrong)

/-- 'laws.FnExactPlaceNext': WHATEVER THE INPUT: true; the input reads as it did. -/
def fnExactPlaceNextSpec : ChangeSpec := { name := "fnExactPlaceNext", fn := fun _ => fun
  | [d1, d2] => { results := [.lit (.bool true)], args := [d1, d2] }
  | _ => none }
def fnExactPlaceNextRow : OpenClaim := { program := "ytiagcjjobfoflaa", sum := "2a388ae32a1a73e51f2469d0d758b23ea99c4f9eca811fc301580977398a03d8", func := "loop.example/keelson/laws.FnExactPlaceNext", spec := "fnExactPlaceNext", unfollowed := true, recurses := true, apart := false }
def FnExactPlaceNextSaid : Prop := fnExactPlaceNextRow.holds Try.pinned (OpenSpec.ofChange fnExactPlaceNextSpec)

/-- ITS FALSE NEIGHBOUR: 'it returns false'. Refute it at one input. -/
def fnExactPlaceNextWrong : ChangeSpec := { name := "fnExactPlaceNext", fn := fun _ => fun
  | [d1, d2] => { results := [.lit (.bool false)], args := [d1, d2] }
  | _ => none }
def FnExactPlaceNextWrongFalsely : Prop := fnExactPlaceNextRow.holds Try.pinned (OpenSpec.ofChange fnExactPlaceNextWrong)

/-- 'laws.FnExactHousesLess': WHATEVER THE INPUT: true; the input reads as it did. -/
def fnExactHousesLessSpec : ChangeSpec := { name := "fnExactHousesLess", fn := fun _ => fun
  | [d1, d2] => { results := [.lit (.bool true)], args := [d1, d2] }
  | _ => none }
def fnExactHousesLessRow : OpenClaim := { program := "ytiagcjjobfoflaa", sum := "2a388ae32a1a73e51f2469d0d758b23ea99c4f9eca811fc301580977398a03d8", func := "loop.example/keelson/laws.FnExactHousesLess", spec := "fnExactHousesLess", unfollowed := true, recurses := true, apart := false }
def FnExactHousesLessSaid : Prop := fnExactHousesLessRow.holds Try.pinned (OpenSpec.ofChange fnExactHousesLessSpec)

/-- ITS FALSE NEIGHBOUR: 'it returns false'. Refute it at one input. -/
def fnExactHousesLessWrong : ChangeSpec := { name := "fnExactHousesLess", fn := fun _ => fun
  | [d1, d2] => { results := [.lit (.bool false)], args := [d1, d2] }
  | _ => none }
def FnExactHousesLessWrongFalsely : Prop := fnExactHousesLessRow.holds Try.pinned (OpenSpec.ofChange fnExactHousesLessWrong)

/-- 'laws.FnPlaceRack': WHATEVER THE INPUT: true; the input reads as it did. -/
def fnPlaceRackSpec : ChangeSpec := { name := "fnPlaceRack", fn := fun _ => fun
  | [d] => { results := [.lit (.bool true)], args := [d] }
  | _ => none }
def fnPlaceRackRow : OpenClaim := { program := "ytiagcjjobfoflaa", sum := "2a388ae32a1a73e51f2469d0d758b23ea99c4f9eca811fc301580977398a03d8", func := "loop.example/keelson/laws.FnPlaceRack", spec := "fnPlaceRack", unfollowed := true, recurses := true, apart := false }
def FnPlaceRackSaid : Prop := fnPlaceRackRow.holds Try.pinned (OpenSpec.ofChange fnPlaceRackSpec)

/-- ITS FALSE NEIGHBOUR: 'it returns false'. Refute it at one input. -/
def fnPlaceRackWrong : ChangeSpec := { name := "fnPlaceRack", fn := fun _ => fun
  | [d] => { results := [.lit (.bool false)], args := [d] }
  | _ => none }
def FnPlaceRackWrongFalsely : Prop := fnPlaceRackRow.holds Try.pinned (OpenSpec.ofChange fnPlaceRackWrong)

/-- 'laws.FnExactPlaceRack': WHATEVER THE INPUT: true; the input reads as it did. -/
def fnExactPlaceRackSpec : ChangeSpec := { name := "fnExactPlaceRack", fn := fun _ => fun
  | [d1, d2, d3] => { results := [.lit (.bool true)], args := [d1, d2, d3] }
  | _ => none }
def fnExactPlaceRackRow : OpenClaim := { program := "ytiagcjjobfoflaa", sum := "2a388ae32a1a73e51f2469d0d758b23ea99c4f9eca811fc301580977398a03d8", func := "loop.example/keelson/laws.FnExactPlaceRack", spec := "fnExactPlaceRack", unfollowed := true, recurses := true, apart := false }
def FnExactPlaceRackSaid : Prop := fnExactPlaceRackRow.holds Try.pinned (OpenSpec.ofChange fnExactPlaceRackSpec)

/-- ITS FALSE NEIGHBOUR: 'it returns false'. Refute it at one input. -/
def fnExactPlaceRackWrong : ChangeSpec := { name := "fnExactPlaceRack", fn := fun _ => fun
  | [d1, d2, d3] => { results := [.lit (.bool false)], args := [d1, d2, d3] }
  | _ => none }
def FnExactPlaceRackWrongFalsely : Prop := fnExactPlaceRackRow.holds Try.pinned (OpenSpec.ofChange fnExactPlaceRackWrong)

/-- 'laws.FnPlaceNext': WHATEVER THE INPUT: true; the input reads as it did. -/
def fnPlaceNextSpec : ChangeSpec := { name := "fnPlaceNext", fn := fun _ => fun
  | [d] => { results := [.lit (.bool true)], args := [d] }
  | _ => none }
def fnPlaceNextRow : OpenClaim := { program := "ytiagcjjobfoflaa", sum := "2a388ae32a1a73e51f2469d0d758b23ea99c4f9eca811fc301580977398a03d8", func := "loop.example/keelson/laws.FnPlaceNext", spec := "fnPlaceNext", unfollowed := true, recurses := true, apart := false }
def FnPlaceNextSaid : Prop := fnPlaceNextRow.holds Try.pinned (OpenSpec.ofChange fnPlaceNextSpec)

/-- ITS FALSE NEIGHBOUR: 'it returns false'. Refute it at one input. -/
def fnPlaceNextWrong : ChangeSpec := { name := "fnPlaceNext", fn := fun _ => fun
  | [d] => { results := [.lit (.bool false)], args := [d] }
  | _ => none }
def FnPlaceNextWrongFalsely : Prop := fnPlaceNextRow.holds Try.pinned (OpenSpec.ofChange fnPlaceNextWrong)

/-- 'laws.FnPlaceMoves': WHATEVER THE INPUT: true; the input reads as it did. -/
def fnPlaceMovesSpec : ChangeSpec := { name := "fnPlaceMoves", fn := fun _ => fun
  | [d] => { results := [.lit (.bool true)], args := [d] }
  | _ => none }
def fnPlaceMovesRow : OpenClaim := { program := "ytiagcjjobfoflaa", sum := "2a388ae32a1a73e51f2469d0d758b23ea99c4f9eca811fc301580977398a03d8", func := "loop.example/keelson/laws.FnPlaceMoves", spec := "fnPlaceMoves", unfollowed := true, recurses := true, apart := false }
def FnPlaceMovesSaid : Prop := fnPlaceMovesRow.holds Try.pinned (OpenSpec.ofChange fnPlaceMovesSpec)

/-- ITS FALSE NEIGHBOUR: 'it returns false'. Refute it at one input. -/
def fnPlaceMovesWrong : ChangeSpec := { name := "fnPlaceMoves", fn := fun _ => fun
  | [d] => { results := [.lit (.bool false)], args := [d] }
  | _ => none }
def FnPlaceMovesWrongFalsely : Prop := fnPlaceMovesRow.holds Try.pinned (OpenSpec.ofChange fnPlaceMovesWrong)

/-- 'laws.FnProgSteps': WHATEVER THE INPUT: true; the input reads as it did. -/
def fnProgStepsSpec : ChangeSpec := { name := "fnProgSteps", fn := fun _ => fun
  | [d] => { results := [.lit (.bool true)], args := [d] }
  | _ => none }
def fnProgStepsRow : OpenClaim := { program := "ytiagcjjobfoflaa", sum := "2a388ae32a1a73e51f2469d0d758b23ea99c4f9eca811fc301580977398a03d8", func := "loop.example/keelson/laws.FnProgSteps", spec := "fnProgSteps", unfollowed := true, recurses := true, apart := false }
def FnProgStepsSaid : Prop := fnProgStepsRow.holds Try.pinned (OpenSpec.ofChange fnProgStepsSpec)

/-- ITS FALSE NEIGHBOUR: 'it returns false'. Refute it at one input. -/
def fnProgStepsWrong : ChangeSpec := { name := "fnProgSteps", fn := fun _ => fun
  | [d] => { results := [.lit (.bool false)], args := [d] }
  | _ => none }
def FnProgStepsWrongFalsely : Prop := fnProgStepsRow.holds Try.pinned (OpenSpec.ofChange fnProgStepsWrong)

/-- 'laws.FnProgForm': WHATEVER THE INPUT: true; the input reads as it did. -/
def fnProgFormSpec : ChangeSpec := { name := "fnProgForm", fn := fun _ => fun
  | [d1, d2] => { results := [.lit (.bool true)], args := [d1, d2] }
  | _ => none }
def fnProgFormRow : OpenClaim := { program := "ytiagcjjobfoflaa", sum := "2a388ae32a1a73e51f2469d0d758b23ea99c4f9eca811fc301580977398a03d8", func := "loop.example/keelson/laws.FnProgForm", spec := "fnProgForm", unfollowed := true, recurses := true, apart := false }
def FnProgFormSaid : Prop := fnProgFormRow.holds Try.pinned (OpenSpec.ofChange fnProgFormSpec)

/-- ITS FALSE NEIGHBOUR: 'it returns false'. Refute it at one input. -/
def fnProgFormWrong : ChangeSpec := { name := "fnProgForm", fn := fun _ => fun
  | [d1, d2] => { results := [.lit (.bool false)], args := [d1, d2] }
  | _ => none }
def FnProgFormWrongFalsely : Prop := fnProgFormRow.holds Try.pinned (OpenSpec.ofChange fnProgFormWrong)

/-- 'laws.FnProgMany': WHATEVER THE INPUT: true; the input reads as it did. -/
def fnProgManySpec : ChangeSpec := { name := "fnProgMany", fn := fun _ => fun
  | [d] => { results := [.lit (.bool true)], args := [d] }
  | _ => none }
def fnProgManyRow : OpenClaim := { program := "ytiagcjjobfoflaa", sum := "2a388ae32a1a73e51f2469d0d758b23ea99c4f9eca811fc301580977398a03d8", func := "loop.example/keelson/laws.FnProgMany", spec := "fnProgMany", unfollowed := true, recurses := true, apart := false }
def FnProgManySaid : Prop := fnProgManyRow.holds Try.pinned (OpenSpec.ofChange fnProgManySpec)

/-- ITS FALSE NEIGHBOUR: 'it returns false'. Refute it at one input. -/
def fnProgManyWrong : ChangeSpec := { name := "fnProgMany", fn := fun _ => fun
  | [d] => { results := [.lit (.bool false)], args := [d] }
  | _ => none }
def FnProgManyWrongFalsely : Prop := fnProgManyRow.holds Try.pinned (OpenSpec.ofChange fnProgManyWrong)

/-- 'laws.FnRanks': WHATEVER THE INPUT: true; the input reads as it did. -/
def fnRanksSpec : ChangeSpec := { name := "fnRanks", fn := fun _ => fun
  | [d] => { results := [.lit (.bool true)], args := [d] }
  | _ => none }
def fnRanksRow : OpenClaim := { program := "ytiagcjjobfoflaa", sum := "2a388ae32a1a73e51f2469d0d758b23ea99c4f9eca811fc301580977398a03d8", func := "loop.example/keelson/laws.FnRanks", spec := "fnRanks", unfollowed := true, recurses := true, apart := false }
def FnRanksSaid : Prop := fnRanksRow.holds Try.pinned (OpenSpec.ofChange fnRanksSpec)

/-- ITS FALSE NEIGHBOUR: 'it returns false'. Refute it at one input. -/
def fnRanksWrong : ChangeSpec := { name := "fnRanks", fn := fun _ => fun
  | [d] => { results := [.lit (.bool false)], args := [d] }
  | _ => none }
def FnRanksWrongFalsely : Prop := fnRanksRow.holds Try.pinned (OpenSpec.ofChange fnRanksWrong)

/-- 'laws.FnExactHouseRanks': WHATEVER THE INPUT: true; the input reads as it did. -/
def fnExactHouseRanksSpec : ChangeSpec := { name := "fnExactHouseRanks", fn := fun _ => fun
  | [d1, d2] => { results := [.lit (.bool true)], args := [d1, d2] }
  | _ => none }
def fnExactHouseRanksRow : OpenClaim := { program := "ytiagcjjobfoflaa", sum := "2a388ae32a1a73e51f2469d0d758b23ea99c4f9eca811fc301580977398a03d8", func := "loop.example/keelson/laws.FnExactHouseRanks", spec := "fnExactHouseRanks", unfollowed := true, recurses := true, apart := false }
def FnExactHouseRanksSaid : Prop := fnExactHouseRanksRow.holds Try.pinned (OpenSpec.ofChange fnExactHouseRanksSpec)

/-- ITS FALSE NEIGHBOUR: 'it returns false'. Refute it at one input. -/
def fnExactHouseRanksWrong : ChangeSpec := { name := "fnExactHouseRanks", fn := fun _ => fun
  | [d1, d2] => { results := [.lit (.bool false)], args := [d1, d2] }
  | _ => none }
def FnExactHouseRanksWrongFalsely : Prop := fnExactHouseRanksRow.holds Try.pinned (OpenSpec.ofChange fnExactHouseRanksWrong)

/-- 'laws.FnRanksLess': WHATEVER THE INPUT: true; the input reads as it did. -/
def fnRanksLessSpec : ChangeSpec := { name := "fnRanksLess", fn := fun _ => fun
  | [d1, d2] => { results := [.lit (.bool true)], args := [d1, d2] }
  | _ => none }
def fnRanksLessRow : OpenClaim := { program := "ytiagcjjobfoflaa", sum := "2a388ae32a1a73e51f2469d0d758b23ea99c4f9eca811fc301580977398a03d8", func := "loop.example/keelson/laws.FnRanksLess", spec := "fnRanksLess", unfollowed := true, recurses := true, apart := false }
def FnRanksLessSaid : Prop := fnRanksLessRow.holds Try.pinned (OpenSpec.ofChange fnRanksLessSpec)

/-- ITS FALSE NEIGHBOUR: 'it returns false'. Refute it at one input. -/
def fnRanksLessWrong : ChangeSpec := { name := "fnRanksLess", fn := fun _ => fun
  | [d1, d2] => { results := [.lit (.bool false)], args := [d1, d2] }
  | _ => none }
def FnRanksLessWrongFalsely : Prop := fnRanksLessRow.holds Try.pinned (OpenSpec.ofChange fnRanksLessWrong)

/- THE SECOND FORM. 'bulk': how many values and letters a reading holds, each counted each time it is reached (what is shared counts as often as it is met; a slice's spare places count too). A statement '..UptoSaid' is the law's where the arguments, and the package variables that the reading takes, are together of bulk at most 1048576: NARROWER than '..Said'. Prove '..Said' where nothing that the law and all that it calls make is longer than what came in: it says more and counts as full. Else prove '..UptoSaid'. A law counts once. -/
mutual
def uptoBulk {H : Type} : DataW H → Nat
  | .lit (.string bytes) => bytes.length + 1
  | .lit _ => 1
  | .nil => 1
  | .ptr d => uptoBulk d + 1
  | .slice elems spare => uptoBulkAll elems + uptoBulkAll spare + 1
  | .agg parts => uptoBulkAll parts + 1
  | .iface _ d => uptoBulk d + 1
  | .map entries => uptoBulkEntries entries + 1
  | .held _ => 1
def uptoBulkAll {H : Type} : List (DataW H) → Nat
  | [] => 0
  | d :: r => uptoBulk d + uptoBulkAll r
def uptoBulkEntries {H : Type} : List (Lit × DataW H) → Nat
  | [] => 0
  | x :: r => uptoBulkEntry x + uptoBulkEntries r
def uptoBulkEntry {H : Type} : Lit × DataW H → Nat
  | (.string bytes, d) => bytes.length + uptoBulk d + 1
  | (_, d) => uptoBulk d + 1
 end
def uptoSmall : (H : Type) → List (DataW H) → Bool := fun _ ds => decide (uptoBulkAll ds ≤ 1048576)
def OpenSpec.upto (s : _root_.Go.ChangeSpec) : _root_.Go.OpenSpec := { _root_.Go.OpenSpec.ofChange s with cond := some uptoSmall }

/-- 'laws.FnExactPatchOk', WHERE WHAT IT READS IS OF BULK AT MOST 1048576: true; the input reads as it did. -/
def fnExactPatchOkUptoRow : OpenClaim := { program := "ytiagcjjobfoflaa", sum := "2a388ae32a1a73e51f2469d0d758b23ea99c4f9eca811fc301580977398a03d8", func := "loop.example/keelson/laws.FnExactPatchOk", spec := "fnExactPatchOk", apart := false, narrowed := true }
def FnExactPatchOkUptoSaid : Prop := fnExactPatchOkUptoRow.holds Try.pinned (OpenSpec.upto fnExactPatchOkSpec)

/-- 'laws.FnExactHouseScore', WHERE WHAT IT READS IS OF BULK AT MOST 1048576: true; the input reads as it did. -/
def fnExactHouseScoreUptoRow : OpenClaim := { program := "ytiagcjjobfoflaa", sum := "2a388ae32a1a73e51f2469d0d758b23ea99c4f9eca811fc301580977398a03d8", func := "loop.example/keelson/laws.FnExactHouseScore", spec := "fnExactHouseScore", apart := false, narrowed := true }
def FnExactHouseScoreUptoSaid : Prop := fnExactHouseScoreUptoRow.holds Try.pinned (OpenSpec.upto fnExactHouseScoreSpec)

/-- 'laws.FnScore', WHERE WHAT IT READS IS OF BULK AT MOST 1048576: true; the input reads as it did. -/
def fnScoreUptoRow : OpenClaim := { program := "ytiagcjjobfoflaa", sum := "2a388ae32a1a73e51f2469d0d758b23ea99c4f9eca811fc301580977398a03d8", func := "loop.example/keelson/laws.FnScore", spec := "fnScore", apart := false, narrowed := true }
def FnScoreUptoSaid : Prop := fnScoreUptoRow.holds Try.pinned (OpenSpec.upto fnScoreSpec)

/-- 'laws.FnHousesForm', WHERE WHAT IT READS IS OF BULK AT MOST 1048576: true; the input reads as it did. -/
def fnHousesFormUptoRow : OpenClaim := { program := "ytiagcjjobfoflaa", sum := "2a388ae32a1a73e51f2469d0d758b23ea99c4f9eca811fc301580977398a03d8", func := "loop.example/keelson/laws.FnHousesForm", spec := "fnHousesForm", apart := false, narrowed := true }
def FnHousesFormUptoSaid : Prop := fnHousesFormUptoRow.holds Try.pinned (OpenSpec.upto fnHousesFormSpec)

/-- 'laws.FnExactHousesOk', WHERE WHAT IT READS IS OF BULK AT MOST 1048576: true; the input reads as it did. -/
def fnExactHousesOkUptoRow : OpenClaim := { program := "ytiagcjjobfoflaa", sum := "2a388ae32a1a73e51f2469d0d758b23ea99c4f9eca811fc301580977398a03d8", func := "loop.example/keelson/laws.FnExactHousesOk", spec := "fnExactHousesOk", apart := false, narrowed := true }
def FnExactHousesOkUptoSaid : Prop := fnExactHousesOkUptoRow.holds Try.pinned (OpenSpec.upto fnExactHousesOkSpec)

/-- 'laws.FnHouseRack', WHERE WHAT IT READS IS OF BULK AT MOST 1048576: true; the input reads as it did. -/
def fnHouseRackUptoRow : OpenClaim := { program := "ytiagcjjobfoflaa", sum := "2a388ae32a1a73e51f2469d0d758b23ea99c4f9eca811fc301580977398a03d8", func := "loop.example/keelson/laws.FnHouseRack", spec := "fnHouseRack", apart := false, narrowed := true }
def FnHouseRackUptoSaid : Prop := fnHouseRackUptoRow.holds Try.pinned (OpenSpec.upto fnHouseRackSpec)

/-- 'laws.FnExactProgOk', WHERE WHAT IT READS IS OF BULK AT MOST 1048576: true; the input reads as it did. -/
def fnExactProgOkUptoRow : OpenClaim := { program := "ytiagcjjobfoflaa", sum := "2a388ae32a1a73e51f2469d0d758b23ea99c4f9eca811fc301580977398a03d8", func := "loop.example/keelson/laws.FnExactProgOk", spec := "fnExactProgOk", unfollowed := true, recurses := true, apart := false, narrowed := true }
def FnExactProgOkUptoSaid : Prop := fnExactProgOkUptoRow.holds Try.pinned (OpenSpec.upto fnExactProgOkSpec)

/-- 'laws.FnExactHouseRack', WHERE WHAT IT READS IS OF BULK AT MOST 1048576: true; the input reads as it did. -/
def fnExactHouseRackUptoRow : OpenClaim := { program := "ytiagcjjobfoflaa", sum := "2a388ae32a1a73e51f2469d0d758b23ea99c4f9eca811fc301580977398a03d8", func := "loop.example/keelson/laws.FnExactHouseRack", spec := "fnExactHouseRack", apart := false, narrowed := true }
def FnExactHouseRackUptoSaid : Prop := fnExactHouseRackUptoRow.holds Try.pinned (OpenSpec.upto fnExactHouseRackSpec)

/-- 'laws.FnExactPlaceThere', WHERE WHAT IT READS IS OF BULK AT MOST 1048576: true; the input reads as it did. -/
def fnExactPlaceThereUptoRow : OpenClaim := { program := "ytiagcjjobfoflaa", sum := "2a388ae32a1a73e51f2469d0d758b23ea99c4f9eca811fc301580977398a03d8", func := "loop.example/keelson/laws.FnExactPlaceThere", spec := "fnExactPlaceThere", unfollowed := true, recurses := true, apart := false, narrowed := true }
def FnExactPlaceThereUptoSaid : Prop := fnExactPlaceThereUptoRow.holds Try.pinned (OpenSpec.upto fnExactPlaceThereSpec)

/-- 'laws.FnExactProgMany', WHERE WHAT IT READS IS OF BULK AT MOST 1048576: true; the input reads as it did. -/
def fnExactProgManyUptoRow : OpenClaim := { program := "ytiagcjjobfoflaa", sum := "2a388ae32a1a73e51f2469d0d758b23ea99c4f9eca811fc301580977398a03d8", func := "loop.example/keelson/laws.FnExactProgMany", spec := "fnExactProgMany", unfollowed := true, recurses := true, apart := false, narrowed := true }
def FnExactProgManyUptoSaid : Prop := fnExactProgManyUptoRow.holds Try.pinned (OpenSpec.upto fnExactProgManySpec)

/-- 'laws.FnHousesLess', WHERE WHAT IT READS IS OF BULK AT MOST 1048576: true; the input reads as it did. -/
def fnHousesLessUptoRow : OpenClaim := { program := "ytiagcjjobfoflaa", sum := "2a388ae32a1a73e51f2469d0d758b23ea99c4f9eca811fc301580977398a03d8", func := "loop.example/keelson/laws.FnHousesLess", spec := "fnHousesLess", unfollowed := true, recurses := true, apart := false, narrowed := true }
def FnHousesLessUptoSaid : Prop := fnHousesLessUptoRow.holds Try.pinned (OpenSpec.upto fnHousesLessSpec)

/-- 'laws.FnExactPlaceMoves', WHERE WHAT IT READS IS OF BULK AT MOST 1048576: true; the input reads as it did. -/
def fnExactPlaceMovesUptoRow : OpenClaim := { program := "ytiagcjjobfoflaa", sum := "2a388ae32a1a73e51f2469d0d758b23ea99c4f9eca811fc301580977398a03d8", func := "loop.example/keelson/laws.FnExactPlaceMoves", spec := "fnExactPlaceMoves", unfollowed := true, recurses := true, apart := false, narrowed := true }
def FnExactPlaceMovesUptoSaid : Prop := fnExactPlaceMovesUptoRow.holds Try.pinned (OpenSpec.upto fnExactPlaceMovesSpec)

/-- 'laws.FnExactPlaceNext', WHERE WHAT IT READS IS OF BULK AT MOST 1048576: true; the input reads as it did. -/
def fnExactPlaceNextUptoRow : OpenClaim := { program := "ytiagcjjobfoflaa", sum := "2a388ae32a1a73e51f2469d0d758b23ea99c4f9eca811fc301580977398a03d8", func := "loop.example/keelson/laws.FnExactPlaceNext", spec := "fnExactPlaceNext", unfollowed := true, recurses := true, apart := false, narrowed := true }
def FnExactPlaceNextUptoSaid : Prop := fnExactPlaceNextUptoRow.holds Try.pinned (OpenSpec.upto fnExactPlaceNextSpec)

/-- 'laws.FnExactHousesLess', WHERE WHAT IT READS IS OF BULK AT MOST 1048576: true; the input reads as it did. -/
def fnExactHousesLessUptoRow : OpenClaim := { program := "ytiagcjjobfoflaa", sum := "2a388ae32a1a73e51f2469d0d758b23ea99c4f9eca811fc301580977398a03d8", func := "loop.example/keelson/laws.FnExactHousesLess", spec := "fnExactHousesLess", unfollowed := true, recurses := true, apart := false, narrowed := true }
def FnExactHousesLessUptoSaid : Prop := fnExactHousesLessUptoRow.holds Try.pinned (OpenSpec.upto fnExactHousesLessSpec)

/-- 'laws.FnPlaceRack', WHERE WHAT IT READS IS OF BULK AT MOST 1048576: true; the input reads as it did. -/
def fnPlaceRackUptoRow : OpenClaim := { program := "ytiagcjjobfoflaa", sum := "2a388ae32a1a73e51f2469d0d758b23ea99c4f9eca811fc301580977398a03d8", func := "loop.example/keelson/laws.FnPlaceRack", spec := "fnPlaceRack", unfollowed := true, recurses := true, apart := false, narrowed := true }
def FnPlaceRackUptoSaid : Prop := fnPlaceRackUptoRow.holds Try.pinned (OpenSpec.upto fnPlaceRackSpec)

/-- 'laws.FnExactPlaceRack', WHERE WHAT IT READS IS OF BULK AT MOST 1048576: true; the input reads as it did. -/
def fnExactPlaceRackUptoRow : OpenClaim := { program := "ytiagcjjobfoflaa", sum := "2a388ae32a1a73e51f2469d0d758b23ea99c4f9eca811fc301580977398a03d8", func := "loop.example/keelson/laws.FnExactPlaceRack", spec := "fnExactPlaceRack", unfollowed := true, recurses := true, apart := false, narrowed := true }
def FnExactPlaceRackUptoSaid : Prop := fnExactPlaceRackUptoRow.holds Try.pinned (OpenSpec.upto fnExactPlaceRackSpec)

/-- 'laws.FnPlaceNext', WHERE WHAT IT READS IS OF BULK AT MOST 1048576: true; the input reads as it did. -/
def fnPlaceNextUptoRow : OpenClaim := { program := "ytiagcjjobfoflaa", sum := "2a388ae32a1a73e51f2469d0d758b23ea99c4f9eca811fc301580977398a03d8", func := "loop.example/keelson/laws.FnPlaceNext", spec := "fnPlaceNext", unfollowed := true, recurses := true, apart := false, narrowed := true }
def FnPlaceNextUptoSaid : Prop := fnPlaceNextUptoRow.holds Try.pinned (OpenSpec.upto fnPlaceNextSpec)

/-- 'laws.FnPlaceMoves', WHERE WHAT IT READS IS OF BULK AT MOST 1048576: true; the input reads as it did. -/
def fnPlaceMovesUptoRow : OpenClaim := { program := "ytiagcjjobfoflaa", sum := "2a388ae32a1a73e51f2469d0d758b23ea99c4f9eca811fc301580977398a03d8", func := "loop.example/keelson/laws.FnPlaceMoves", spec := "fnPlaceMoves", unfollowed := true, recurses := true, apart := false, narrowed := true }
def FnPlaceMovesUptoSaid : Prop := fnPlaceMovesUptoRow.holds Try.pinned (OpenSpec.upto fnPlaceMovesSpec)

/-- 'laws.FnProgSteps', WHERE WHAT IT READS IS OF BULK AT MOST 1048576: true; the input reads as it did. -/
def fnProgStepsUptoRow : OpenClaim := { program := "ytiagcjjobfoflaa", sum := "2a388ae32a1a73e51f2469d0d758b23ea99c4f9eca811fc301580977398a03d8", func := "loop.example/keelson/laws.FnProgSteps", spec := "fnProgSteps", unfollowed := true, recurses := true, apart := false, narrowed := true }
def FnProgStepsUptoSaid : Prop := fnProgStepsUptoRow.holds Try.pinned (OpenSpec.upto fnProgStepsSpec)

/-- 'laws.FnProgForm', WHERE WHAT IT READS IS OF BULK AT MOST 1048576: true; the input reads as it did. -/
def fnProgFormUptoRow : OpenClaim := { program := "ytiagcjjobfoflaa", sum := "2a388ae32a1a73e51f2469d0d758b23ea99c4f9eca811fc301580977398a03d8", func := "loop.example/keelson/laws.FnProgForm", spec := "fnProgForm", unfollowed := true, recurses := true, apart := false, narrowed := true }
def FnProgFormUptoSaid : Prop := fnProgFormUptoRow.holds Try.pinned (OpenSpec.upto fnProgFormSpec)

/-- 'laws.FnProgMany', WHERE WHAT IT READS IS OF BULK AT MOST 1048576: true; the input reads as it did. -/
def fnProgManyUptoRow : OpenClaim := { program := "ytiagcjjobfoflaa", sum := "2a388ae32a1a73e51f2469d0d758b23ea99c4f9eca811fc301580977398a03d8", func := "loop.example/keelson/laws.FnProgMany", spec := "fnProgMany", unfollowed := true, recurses := true, apart := false, narrowed := true }
def FnProgManyUptoSaid : Prop := fnProgManyUptoRow.holds Try.pinned (OpenSpec.upto fnProgManySpec)

/-- 'laws.FnRanks', WHERE WHAT IT READS IS OF BULK AT MOST 1048576: true; the input reads as it did. -/
def fnRanksUptoRow : OpenClaim := { program := "ytiagcjjobfoflaa", sum := "2a388ae32a1a73e51f2469d0d758b23ea99c4f9eca811fc301580977398a03d8", func := "loop.example/keelson/laws.FnRanks", spec := "fnRanks", unfollowed := true, recurses := true, apart := false, narrowed := true }
def FnRanksUptoSaid : Prop := fnRanksUptoRow.holds Try.pinned (OpenSpec.upto fnRanksSpec)

/-- 'laws.FnExactHouseRanks', WHERE WHAT IT READS IS OF BULK AT MOST 1048576: true; the input reads as it did. -/
def fnExactHouseRanksUptoRow : OpenClaim := { program := "ytiagcjjobfoflaa", sum := "2a388ae32a1a73e51f2469d0d758b23ea99c4f9eca811fc301580977398a03d8", func := "loop.example/keelson/laws.FnExactHouseRanks", spec := "fnExactHouseRanks", unfollowed := true, recurses := true, apart := false, narrowed := true }
def FnExactHouseRanksUptoSaid : Prop := fnExactHouseRanksUptoRow.holds Try.pinned (OpenSpec.upto fnExactHouseRanksSpec)

/-- 'laws.FnRanksLess', WHERE WHAT IT READS IS OF BULK AT MOST 1048576: true; the input reads as it did. -/
def fnRanksLessUptoRow : OpenClaim := { program := "ytiagcjjobfoflaa", sum := "2a388ae32a1a73e51f2469d0d758b23ea99c4f9eca811fc301580977398a03d8", func := "loop.example/keelson/laws.FnRanksLess", spec := "fnRanksLess", unfollowed := true, recurses := true, apart := false, narrowed := true }
def FnRanksLessUptoSaid : Prop := fnRanksLessUptoRow.holds Try.pinned (OpenSpec.upto fnRanksLessSpec)

end Rows
end Go.Proofs.Ytiagcjjobfoflaa
