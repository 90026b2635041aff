/-
  No cell of these rows narrows 'for every input' (looked for: loops, veiled, ifaces, maps, wideKeys, modest, calm, conditions, laid).
  DERIVED. THE GIVEN ROWS OF THIS SEAT. 11 by the template 'for every input the law returns true; each argument reads behind the call as it read before'; 0 by the template 'total and deterministic' (their statements: YtnbdhclkmcfdfaaTotals.lean).
  GIVEN WITH THE SEED: the statements are not yours to turn. If you find one false, say at which input.
  Laid BY PROGRAM, IN A SANDBOX (cutbox-rows.mjs): the forced cells as the released guide's own fill.sh prints them over the translation eb4da1fe60090da7… (all of the seat's roots in one cut). By AI agents, Wed Nov 11 2026. No macro, syntax, notation, axiom, sorry.
-/
import Derived.Test.YtnbdhclkmcfdfaaChecked
import GoSem.Claim
import GoSem.ClaimJoined
import GoSem.ClaimMapViews
import Derived.JoinedTies
import Derived.KernelRfl
namespace Go.Proofs.Ytnbdhclkmcfdfaa
/- THE CELL 'sum', in the pinned program and in every row, IS THE sha256 OF THE DUMP (.gsa) THAT YtnbdhclkmcfdfaaProg.lean LOADS. Nothing in Lean hashes anything: it is a label: what it is worth is what the hold of that sum in a sandbox is worth. -/
noncomputable def Try.pinned : Pinned := { name := "ytnbdhclkmcfdfaa", sum := "eb4da1fe60090da7e6f8945c2811e33ac70ff3f55540b368fa30babdbd3c4520", checked := Try.checked }
namespace Rows
def none {H : Type} : Left H := { results := [], args := [] }

/-- 'laws.FnProgForm': WHATEVER THE INPUT: true; the input reads as it did. -/
def fnProgFormSpec : ChangeSpec := { name := "fnProgForm", fn := fun _ => fun
  | [d1, d2] => { results := [.lit (.bool true)], args := [d1, d2] }
  | _ => none }
def fnProgFormRow : OpenClaim := { program := "ytnbdhclkmcfdfaa", sum := "eb4da1fe60090da7e6f8945c2811e33ac70ff3f55540b368fa30babdbd3c4520", func := "loop.example/keelson/laws.FnProgForm", spec := "fnProgForm", unfollowed := true, recurses := true, apart := false }
def FnProgFormSaid : Prop := fnProgFormRow.holds Try.pinned (OpenSpec.ofChange fnProgFormSpec)

/-- ITS FALSE NEIGHBOUR: 'it returns false'. Refute it at one input. -/
def fnProgFormWrong : ChangeSpec := { name := "fnProgForm", fn := fun _ => fun
  | [d1, d2] => { results := [.lit (.bool false)], args := [d1, d2] }
  | _ => none }
def FnProgFormWrongFalsely : Prop := fnProgFormRow.holds Try.pinned (OpenSpec.ofChange fnProgFormWrong)

/-- 'laws.FnProgMany': WHATEVER THE INPUT: true; the input reads as it did. -/
def fnProgManySpec : ChangeSpec := { name := "fnProgMany", fn := fun _ => fun
  | [d] => { results := [.lit (.bool true)], args := [d] }
  | _ => none }
def fnProgManyRow : OpenClaim := { program := "ytnbdhclkmcfdfaa", sum := "eb4da1fe60090da7e6f8945c2811e33ac70ff3f55540b368fa30babdbd3c4520", func := "loop.example/keelson/laws.FnProgMany", spec := "fnProgMany", unfollowed := true, recurses := true, apart := false }
def FnProgManySaid : Prop := fnProgManyRow.holds Try.pinned (OpenSpec.ofChange fnProgManySpec)

/-- ITS FALSE NEIGHBOUR: 'it returns false'. Refute it at one input. -/
def fnProgManyWrong : ChangeSpec := { name := "fnProgMany", fn := fun _ => fun
  | [d] => { results := [.lit (.bool false)], args := [d] }
  | _ => none }
def FnProgManyWrongFalsely : Prop := fnProgManyRow.holds Try.pinned (OpenSpec.ofChange fnProgManyWrong)

/-- 'laws.FnProgSteps': WHATEVER THE INPUT: true; the input reads as it did. -/
def fnProgStepsSpec : ChangeSpec := { name := "fnProgSteps", fn := fun _ => fun
  | [d] => { results := [.lit (.bool true)], args := [d] }
  | _ => none }
def fnProgStepsRow : OpenClaim := { program := "ytnbdhclkmcfdfaa", sum := "eb4da1fe60090da7e6f8945c2811e33ac70ff3f55540b368fa30babdbd3c4520", func := "loop.example/keelson/laws.FnProgSteps", spec := "fnProgSteps", unfollowed := true, recurses := true, apart := false }
def FnProgStepsSaid : Prop := fnProgStepsRow.holds Try.pinned (OpenSpec.ofChange fnProgStepsSpec)

/-- ITS FALSE NEIGHBOUR: 'it returns false'. Refute it at one input. -/
def fnProgStepsWrong : ChangeSpec := { name := "fnProgSteps", fn := fun _ => fun
  | [d] => { results := [.lit (.bool false)], args := [d] }
  | _ => none }
def FnProgStepsWrongFalsely : Prop := fnProgStepsRow.holds Try.pinned (OpenSpec.ofChange fnProgStepsWrong)

/-- 'laws.FnProgRun': WHATEVER THE INPUT: true; the input reads as it did. -/
def fnProgRunSpec : ChangeSpec := { name := "fnProgRun", fn := fun _ => fun
  | [d1, d2] => { results := [.lit (.bool true)], args := [d1, d2] }
  | _ => none }
def fnProgRunRow : OpenClaim := { program := "ytnbdhclkmcfdfaa", sum := "eb4da1fe60090da7e6f8945c2811e33ac70ff3f55540b368fa30babdbd3c4520", func := "loop.example/keelson/laws.FnProgRun", spec := "fnProgRun", unfollowed := true, recurses := true, apart := false }
def FnProgRunSaid : Prop := fnProgRunRow.holds Try.pinned (OpenSpec.ofChange fnProgRunSpec)

/-- ITS FALSE NEIGHBOUR: 'it returns false'. Refute it at one input. -/
def fnProgRunWrong : ChangeSpec := { name := "fnProgRun", fn := fun _ => fun
  | [d1, d2] => { results := [.lit (.bool false)], args := [d1, d2] }
  | _ => none }
def FnProgRunWrongFalsely : Prop := fnProgRunRow.holds Try.pinned (OpenSpec.ofChange fnProgRunWrong)

/-- 'laws.FnProgRow': WHATEVER THE INPUT: true; the input reads as it did. -/
def fnProgRowSpec : ChangeSpec := { name := "fnProgRow", fn := fun _ => fun
  | [d1, d2] => { results := [.lit (.bool true)], args := [d1, d2] }
  | _ => none }
def fnProgRowRow : OpenClaim := { program := "ytnbdhclkmcfdfaa", sum := "eb4da1fe60090da7e6f8945c2811e33ac70ff3f55540b368fa30babdbd3c4520", func := "loop.example/keelson/laws.FnProgRow", spec := "fnProgRow", unfollowed := true, recurses := true, apart := false }
def FnProgRowSaid : Prop := fnProgRowRow.holds Try.pinned (OpenSpec.ofChange fnProgRowSpec)

/-- ITS FALSE NEIGHBOUR: 'it returns false'. Refute it at one input. -/
def fnProgRowWrong : ChangeSpec := { name := "fnProgRow", fn := fun _ => fun
  | [d1, d2] => { results := [.lit (.bool false)], args := [d1, d2] }
  | _ => none }
def FnProgRowWrongFalsely : Prop := fnProgRowRow.holds Try.pinned (OpenSpec.ofChange fnProgRowWrong)

/-- 'laws.FnProgPlan': WHATEVER THE INPUT: true; the input reads as it did. -/
def fnProgPlanSpec : ChangeSpec := { name := "fnProgPlan", fn := fun _ => fun
  | [d] => { results := [.lit (.bool true)], args := [d] }
  | _ => none }
def fnProgPlanRow : OpenClaim := { program := "ytnbdhclkmcfdfaa", sum := "eb4da1fe60090da7e6f8945c2811e33ac70ff3f55540b368fa30babdbd3c4520", func := "loop.example/keelson/laws.FnProgPlan", spec := "fnProgPlan", unfollowed := true, recurses := true, apart := false }
def FnProgPlanSaid : Prop := fnProgPlanRow.holds Try.pinned (OpenSpec.ofChange fnProgPlanSpec)

/-- ITS FALSE NEIGHBOUR: 'it returns false'. Refute it at one input. -/
def fnProgPlanWrong : ChangeSpec := { name := "fnProgPlan", fn := fun _ => fun
  | [d] => { results := [.lit (.bool false)], args := [d] }
  | _ => none }
def FnProgPlanWrongFalsely : Prop := fnProgPlanRow.holds Try.pinned (OpenSpec.ofChange fnProgPlanWrong)

/-- 'laws.FnExactPlanOf': WHATEVER THE INPUT: true; the input reads as it did. -/
def fnExactPlanOfSpec : ChangeSpec := { name := "fnExactPlanOf", fn := fun _ => fun
  | [d1, d2, d3] => { results := [.lit (.bool true)], args := [d1, d2, d3] }
  | _ => none }
def fnExactPlanOfRow : OpenClaim := { program := "ytnbdhclkmcfdfaa", sum := "eb4da1fe60090da7e6f8945c2811e33ac70ff3f55540b368fa30babdbd3c4520", func := "loop.example/keelson/laws.FnExactPlanOf", spec := "fnExactPlanOf", unfollowed := true, recurses := true, apart := false }
def FnExactPlanOfSaid : Prop := fnExactPlanOfRow.holds Try.pinned (OpenSpec.ofChange fnExactPlanOfSpec)

/-- ITS FALSE NEIGHBOUR: 'it returns false'. Refute it at one input. -/
def fnExactPlanOfWrong : ChangeSpec := { name := "fnExactPlanOf", fn := fun _ => fun
  | [d1, d2, d3] => { results := [.lit (.bool false)], args := [d1, d2, d3] }
  | _ => none }
def FnExactPlanOfWrongFalsely : Prop := fnExactPlanOfRow.holds Try.pinned (OpenSpec.ofChange fnExactPlanOfWrong)

/-- 'laws.FnPlanAll': WHATEVER THE INPUT: true; the input reads as it did. -/
def fnPlanAllSpec : ChangeSpec := { name := "fnPlanAll", fn := fun _ => fun
  | [d] => { results := [.lit (.bool true)], args := [d] }
  | _ => none }
def fnPlanAllRow : OpenClaim := { program := "ytnbdhclkmcfdfaa", sum := "eb4da1fe60090da7e6f8945c2811e33ac70ff3f55540b368fa30babdbd3c4520", func := "loop.example/keelson/laws.FnPlanAll", spec := "fnPlanAll", unfollowed := true, recurses := true, apart := false }
def FnPlanAllSaid : Prop := fnPlanAllRow.holds Try.pinned (OpenSpec.ofChange fnPlanAllSpec)

/-- ITS FALSE NEIGHBOUR: 'it returns false'. Refute it at one input. -/
def fnPlanAllWrong : ChangeSpec := { name := "fnPlanAll", fn := fun _ => fun
  | [d] => { results := [.lit (.bool false)], args := [d] }
  | _ => none }
def FnPlanAllWrongFalsely : Prop := fnPlanAllRow.holds Try.pinned (OpenSpec.ofChange fnPlanAllWrong)

/-- 'laws.FnExactPlanAll': WHATEVER THE INPUT: true; the input reads as it did. -/
def fnExactPlanAllSpec : ChangeSpec := { name := "fnExactPlanAll", fn := fun _ => fun
  | [d1, d2] => { results := [.lit (.bool true)], args := [d1, d2] }
  | _ => none }
def fnExactPlanAllRow : OpenClaim := { program := "ytnbdhclkmcfdfaa", sum := "eb4da1fe60090da7e6f8945c2811e33ac70ff3f55540b368fa30babdbd3c4520", func := "loop.example/keelson/laws.FnExactPlanAll", spec := "fnExactPlanAll", unfollowed := true, recurses := true, apart := false }
def FnExactPlanAllSaid : Prop := fnExactPlanAllRow.holds Try.pinned (OpenSpec.ofChange fnExactPlanAllSpec)

/-- ITS FALSE NEIGHBOUR: 'it returns false'. Refute it at one input. -/
def fnExactPlanAllWrong : ChangeSpec := { name := "fnExactPlanAll", fn := fun _ => fun
  | [d1, d2] => { results := [.lit (.bool false)], args := [d1, d2] }
  | _ => none }
def FnExactPlanAllWrongFalsely : Prop := fnExactPlanAllRow.holds Try.pinned (OpenSpec.ofChange fnExactPlanAllWrong)

/-- 'laws.FnPlanFalse': WHATEVER THE INPUT: true; the input reads as it did. -/
def fnPlanFalseSpec : ChangeSpec := { name := "fnPlanFalse", fn := fun _ => fun
  | [d] => { results := [.lit (.bool true)], args := [d] }
  | _ => none }
def fnPlanFalseRow : OpenClaim := { program := "ytnbdhclkmcfdfaa", sum := "eb4da1fe60090da7e6f8945c2811e33ac70ff3f55540b368fa30babdbd3c4520", func := "loop.example/keelson/laws.FnPlanFalse", spec := "fnPlanFalse", unfollowed := true, recurses := true, apart := false }
def FnPlanFalseSaid : Prop := fnPlanFalseRow.holds Try.pinned (OpenSpec.ofChange fnPlanFalseSpec)

/-- ITS FALSE NEIGHBOUR: 'it returns false'. Refute it at one input. -/
def fnPlanFalseWrong : ChangeSpec := { name := "fnPlanFalse", fn := fun _ => fun
  | [d] => { results := [.lit (.bool false)], args := [d] }
  | _ => none }
def FnPlanFalseWrongFalsely : Prop := fnPlanFalseRow.holds Try.pinned (OpenSpec.ofChange fnPlanFalseWrong)

/-- 'laws.FnPlanLeast': WHATEVER THE INPUT: true; the input reads as it did. -/
def fnPlanLeastSpec : ChangeSpec := { name := "fnPlanLeast", fn := fun _ => fun
  | [d] => { results := [.lit (.bool true)], args := [d] }
  | _ => none }
def fnPlanLeastRow : OpenClaim := { program := "ytnbdhclkmcfdfaa", sum := "eb4da1fe60090da7e6f8945c2811e33ac70ff3f55540b368fa30babdbd3c4520", func := "loop.example/keelson/laws.FnPlanLeast", spec := "fnPlanLeast", unfollowed := true, recurses := true, apart := false }
def FnPlanLeastSaid : Prop := fnPlanLeastRow.holds Try.pinned (OpenSpec.ofChange fnPlanLeastSpec)

/-- ITS FALSE NEIGHBOUR: 'it returns false'. Refute it at one input. -/
def fnPlanLeastWrong : ChangeSpec := { name := "fnPlanLeast", fn := fun _ => fun
  | [d] => { results := [.lit (.bool false)], args := [d] }
  | _ => none }
def FnPlanLeastWrongFalsely : Prop := fnPlanLeastRow.holds Try.pinned (OpenSpec.ofChange fnPlanLeastWrong)

/- THE SECOND FORM. 'bulk': how many values and letters a reading holds, each counted each time it is reached (what is shared counts as often as it is met; a slice's spare places count too). A statement '..UptoSaid' is the law's where the arguments, and the package variables that the reading takes, are together of bulk at most 1048576: NARROWER than '..Said'. Prove '..Said' where nothing that the law and all that it calls make is longer than what came in: it says more and counts as full. Else prove '..UptoSaid'. A law counts once. -/
mutual
def uptoBulk {H : Type} : DataW H → Nat
  | .lit (.string bytes) => bytes.length + 1
  | .lit _ => 1
  | .nil => 1
  | .ptr d => uptoBulk d + 1
  | .slice elems spare => uptoBulkAll elems + uptoBulkAll spare + 1
  | .agg parts => uptoBulkAll parts + 1
  | .iface _ d => uptoBulk d + 1
  | .map entries => uptoBulkEntries entries + 1
  | .held _ => 1
def uptoBulkAll {H : Type} : List (DataW H) → Nat
  | [] => 0
  | d :: r => uptoBulk d + uptoBulkAll r
def uptoBulkEntries {H : Type} : List (Lit × DataW H) → Nat
  | [] => 0
  | x :: r => uptoBulkEntry x + uptoBulkEntries r
def uptoBulkEntry {H : Type} : Lit × DataW H → Nat
  | (.string bytes, d) => bytes.length + uptoBulk d + 1
  | (_, d) => uptoBulk d + 1
 end
def uptoSmall : (H : Type) → List (DataW H) → Bool := fun _ ds => decide (uptoBulkAll ds ≤ 1048576)
def OpenSpec.upto (s : _root_.Go.ChangeSpec) : _root_.Go.OpenSpec := { _root_.Go.OpenSpec.ofChange s with cond := some uptoSmall }

/-- 'laws.FnProgForm', WHERE WHAT IT READS IS OF BULK AT MOST 1048576: true; the input reads as it did. -/
def fnProgFormUptoRow : OpenClaim := { program := "ytnbdhclkmcfdfaa", sum := "eb4da1fe60090da7e6f8945c2811e33ac70ff3f55540b368fa30babdbd3c4520", func := "loop.example/keelson/laws.FnProgForm", spec := "fnProgForm", unfollowed := true, recurses := true, apart := false, narrowed := true }
def FnProgFormUptoSaid : Prop := fnProgFormUptoRow.holds Try.pinned (OpenSpec.upto fnProgFormSpec)

/-- 'laws.FnProgMany', WHERE WHAT IT READS IS OF BULK AT MOST 1048576: true; the input reads as it did. -/
def fnProgManyUptoRow : OpenClaim := { program := "ytnbdhclkmcfdfaa", sum := "eb4da1fe60090da7e6f8945c2811e33ac70ff3f55540b368fa30babdbd3c4520", func := "loop.example/keelson/laws.FnProgMany", spec := "fnProgMany", unfollowed := true, recurses := true, apart := false, narrowed := true }
def FnProgManyUptoSaid : Prop := fnProgManyUptoRow.holds Try.pinned (OpenSpec.upto fnProgManySpec)

/-- 'laws.FnProgSteps', WHERE WHAT IT READS IS OF BULK AT MOST 1048576: true; the input reads as it did. -/
def fnProgStepsUptoRow : OpenClaim := { program := "ytnbdhclkmcfdfaa", sum := "eb4da1fe60090da7e6f8945c2811e33ac70ff3f55540b368fa30babdbd3c4520", func := "loop.example/keelson/laws.FnProgSteps", spec := "fnProgSteps", unfollowed := true, recurses := true, apart := false, narrowed := true }
def FnProgStepsUptoSaid : Prop := fnProgStepsUptoRow.holds Try.pinned (OpenSpec.upto fnProgStepsSpec)

/-- 'laws.FnProgRun', WHERE WHAT IT READS IS OF BULK AT MOST 1048576: true; the input reads as it did. -/
def fnProgRunUptoRow : OpenClaim := { program := "ytnbdhclkmcfdfaa", sum := "eb4da1fe60090da7e6f8945c2811e33ac70ff3f55540b368fa30babdbd3c4520", func := "loop.example/keelson/laws.FnProgRun", spec := "fnProgRun", unfollowed := true, recurses := true, apart := false, narrowed := true }
def FnProgRunUptoSaid : Prop := fnProgRunUptoRow.holds Try.pinned (OpenSpec.upto fnProgRunSpec)

/-- 'laws.FnProgRow', WHERE WHAT IT READS IS OF BULK AT MOST 1048576: true; the input reads as it did. -/
def fnProgRowUptoRow : OpenClaim := { program := "ytnbdhclkmcfdfaa", sum := "eb4da1fe60090da7e6f8945c2811e33ac70ff3f55540b368fa30babdbd3c4520", func := "loop.example/keelson/laws.FnProgRow", spec := "fnProgRow", unfollowed := true, recurses := true, apart := false, narrowed := true }
def FnProgRowUptoSaid : Prop := fnProgRowUptoRow.holds Try.pinned (OpenSpec.upto fnProgRowSpec)

/-- 'laws.FnProgPlan', WHERE WHAT IT READS IS OF BULK AT MOST 1048576: true; the input reads as it did. -/
def fnProgPlanUptoRow : OpenClaim := { program := "ytnbdhclkmcfdfaa", sum := "eb4da1fe60090da7e6f8945c2811e33ac70ff3f55540b368fa30babdbd3c4520", func := "loop.example/keelson/laws.FnProgPlan", spec := "fnProgPlan", unfollowed := true, recurses := true, apart := false, narrowed := true }
def FnProgPlanUptoSaid : Prop := fnProgPlanUptoRow.holds Try.pinned (OpenSpec.upto fnProgPlanSpec)

/-- 'laws.FnExactPlanOf', WHERE WHAT IT READS IS OF BULK AT MOST 1048576: true; the input reads as it did. -/
def fnExactPlanOfUptoRow : OpenClaim := { program := "ytnbdhclkmcfdfaa", sum := "eb4da1fe60090da7e6f8945c2811e33ac70ff3f55540b368fa30babdbd3c4520", func := "loop.example/keelson/laws.FnExactPlanOf", spec := "fnExactPlanOf", unfollowed := true, recurses := true, apart := false, narrowed := true }
def FnExactPlanOfUptoSaid : Prop := fnExactPlanOfUptoRow.holds Try.pinned (OpenSpec.upto fnExactPlanOfSpec)

/-- 'laws.FnPlanAll', WHERE WHAT IT READS IS OF BULK AT MOST 1048576: true; the input reads as it did. -/
def fnPlanAllUptoRow : OpenClaim := { program := "ytnbdhclkmcfdfaa", sum := "eb4da1fe60090da7e6f8945c2811e33ac70ff3f55540b368fa30babdbd3c4520", func := "loop.example/keelson/laws.FnPlanAll", spec := "fnPlanAll", unfollowed := true, recurses := true, apart := false, narrowed := true }
def FnPlanAllUptoSaid : Prop := fnPlanAllUptoRow.holds Try.pinned (OpenSpec.upto fnPlanAllSpec)

/-- 'laws.FnExactPlanAll', WHERE WHAT IT READS IS OF BULK AT MOST 1048576: true; the input reads as it did. -/
def fnExactPlanAllUptoRow : OpenClaim := { program := "ytnbdhclkmcfdfaa", sum := "eb4da1fe60090da7e6f8945c2811e33ac70ff3f55540b368fa30babdbd3c4520", func := "loop.example/keelson/laws.FnExactPlanAll", spec := "fnExactPlanAll", unfollowed := true, recurses := true, apart := false, narrowed := true }
def FnExactPlanAllUptoSaid : Prop := fnExactPlanAllUptoRow.holds Try.pinned (OpenSpec.upto fnExactPlanAllSpec)

/-- 'laws.FnPlanFalse', WHERE WHAT IT READS IS OF BULK AT MOST 1048576: true; the input reads as it did. -/
def fnPlanFalseUptoRow : OpenClaim := { program := "ytnbdhclkmcfdfaa", sum := "eb4da1fe60090da7e6f8945c2811e33ac70ff3f55540b368fa30babdbd3c4520", func := "loop.example/keelson/laws.FnPlanFalse", spec := "fnPlanFalse", unfollowed := true, recurses := true, apart := false, narrowed := true }
def FnPlanFalseUptoSaid : Prop := fnPlanFalseUptoRow.holds Try.pinned (OpenSpec.upto fnPlanFalseSpec)

/-- 'laws.FnPlanLeast', WHERE WHAT IT READS IS OF BULK AT MOST 1048576: true; the input reads as it did. -/
def fnPlanLeastUptoRow : OpenClaim := { program := "ytnbdhclkmcfdfaa", sum := "eb4da1fe60090da7e6f8945c2811e33ac70ff3f55540b368fa30babdbd3c4520", func := "loop.example/keelson/laws.FnPlanLeast", spec := "fnPlanLeast", unfollowed := true, recurses := true, apart := false, narrowed := true }
def FnPlanLeastUptoSaid : Prop := fnPlanLeastUptoRow.holds Try.pinned (OpenSpec.upto fnPlanLeastSpec)

end Rows
end Go.Proofs.Ytnbdhclkmcfdfaa
