/-
  No cell of these rows narrows 'for every input' (looked for: loops, veiled, ifaces, maps, wideKeys, modest, calm, conditions, laid).
  DERIVED. THE GIVEN ROWS OF THIS SEAT. 5 by the template 'for every input the law returns true; each argument reads behind the call as it read before'; 0 by the template 'total and deterministic' (their statements: YtjoiadaogppmkaaTotals.lean).
  GIVEN WITH THE SEED: the statements are not yours to turn. If you find one false, say at which input.
  Laid BY PROGRAM, IN A SANDBOX (cutbox-rows.mjs): the forced cells as the released guide's own fill.sh prints them over the translation 50dbdba05c5fe36d… (all of the seat's roots in one cut). By AI agents, Wed Nov 11 2026. No macro, syntax, notation, axiom, sorry.
-/
import Derived.Test.YtjoiadaogppmkaaChecked
import GoSem.Claim
import GoSem.ClaimJoined
import GoSem.ClaimMapViews
import Derived.JoinedTies
import Derived.KernelRfl
namespace Go.Proofs.Ytjoiadaogppmkaa
/- THE CELL 'sum', in the pinned program and in every row, IS THE sha256 OF THE DUMP (.gsa) THAT YtjoiadaogppmkaaProg.lean LOADS. Nothing in Lean hashes anything: it is a label: what it is worth is what the hold of that sum in a sandbox is worth. -/
noncomputable def Try.pinned : Pinned := { name := "ytjoiadaogppmkaa", sum := "50dbdba05c5fe36d0e330f2ee495069687712cb1c47e70ced215e7fdacde2b3d", checked := Try.checked }
namespace Rows
def none {H : Type} : Left H := { results := [], args := [] }

/-- 'laws.FnPlanAll': WHATEVER THE INPUT: true; the input reads as it did. -/
def fnPlanAllSpec : ChangeSpec := { name := "fnPlanAll", fn := fun _ => fun
  | [d] => { results := [.lit (.bool true)], args := [d] }
  | _ => none }
def fnPlanAllRow : OpenClaim := { program := "ytjoiadaogppmkaa", sum := "50dbdba05c5fe36d0e330f2ee495069687712cb1c47e70ced215e7fdacde2b3d", func := "loop.example/keelson/laws.FnPlanAll", spec := "fnPlanAll", unfollowed := true, recurses := true, apart := false }
def FnPlanAllSaid : Prop := fnPlanAllRow.holds Try.pinned (OpenSpec.ofChange fnPlanAllSpec)

/-- ITS FALSE NEIGHBOUR: 'it returns false'. Refute it at one input. -/
def fnPlanAllWrong : ChangeSpec := { name := "fnPlanAll", fn := fun _ => fun
  | [d] => { results := [.lit (.bool false)], args := [d] }
  | _ => none }
def FnPlanAllWrongFalsely : Prop := fnPlanAllRow.holds Try.pinned (OpenSpec.ofChange fnPlanAllWrong)

/-- 'laws.FnExactPlanAll': WHATEVER THE INPUT: true; the input reads as it did. -/
def fnExactPlanAllSpec : ChangeSpec := { name := "fnExactPlanAll", fn := fun _ => fun
  | [d1, d2] => { results := [.lit (.bool true)], args := [d1, d2] }
  | _ => none }
def fnExactPlanAllRow : OpenClaim := { program := "ytjoiadaogppmkaa", sum := "50dbdba05c5fe36d0e330f2ee495069687712cb1c47e70ced215e7fdacde2b3d", func := "loop.example/keelson/laws.FnExactPlanAll", spec := "fnExactPlanAll", unfollowed := true, recurses := true, apart := false }
def FnExactPlanAllSaid : Prop := fnExactPlanAllRow.holds Try.pinned (OpenSpec.ofChange fnExactPlanAllSpec)

/-- ITS FALSE NEIGHBOUR: 'it returns false'. Refute it at one input. -/
def fnExactPlanAllWrong : ChangeSpec := { name := "fnExactPlanAll", fn := fun _ => fun
  | [d1, d2] => { results := [.lit (.bool false)], args := [d1, d2] }
  | _ => none }
def FnExactPlanAllWrongFalsely : Prop := fnExactPlanAllRow.holds Try.pinned (OpenSpec.ofChange fnExactPlanAllWrong)

/-- 'laws.FnStripeNew': WHATEVER THE INPUT: true; the input reads as it did. -/
def fnStripeNewSpec : ChangeSpec := { name := "fnStripeNew", fn := fun _ => fun
  | [d] => { results := [.lit (.bool true)], args := [d] }
  | _ => none }
def fnStripeNewRow : OpenClaim := { program := "ytjoiadaogppmkaa", sum := "50dbdba05c5fe36d0e330f2ee495069687712cb1c47e70ced215e7fdacde2b3d", func := "loop.example/keelson/laws.FnStripeNew", spec := "fnStripeNew", unfollowed := true, recurses := true, apart := false }
def FnStripeNewSaid : Prop := fnStripeNewRow.holds Try.pinned (OpenSpec.ofChange fnStripeNewSpec)

/-- ITS FALSE NEIGHBOUR: 'it returns false'. Refute it at one input. -/
def fnStripeNewWrong : ChangeSpec := { name := "fnStripeNew", fn := fun _ => fun
  | [d] => { results := [.lit (.bool false)], args := [d] }
  | _ => none }
def FnStripeNewWrongFalsely : Prop := fnStripeNewRow.holds Try.pinned (OpenSpec.ofChange fnStripeNewWrong)

/-- 'laws.FnExactStripeOk': WHATEVER THE INPUT: true; the input reads as it did. -/
def fnExactStripeOkSpec : ChangeSpec := { name := "fnExactStripeOk", fn := fun _ => fun
  | [d] => { results := [.lit (.bool true)], args := [d] }
  | _ => none }
def fnExactStripeOkRow : OpenClaim := { program := "ytjoiadaogppmkaa", sum := "50dbdba05c5fe36d0e330f2ee495069687712cb1c47e70ced215e7fdacde2b3d", func := "loop.example/keelson/laws.FnExactStripeOk", spec := "fnExactStripeOk", unfollowed := true, recurses := true, apart := false }
def FnExactStripeOkSaid : Prop := fnExactStripeOkRow.holds Try.pinned (OpenSpec.ofChange fnExactStripeOkSpec)

/-- ITS FALSE NEIGHBOUR: 'it returns false'. Refute it at one input. -/
def fnExactStripeOkWrong : ChangeSpec := { name := "fnExactStripeOk", fn := fun _ => fun
  | [d] => { results := [.lit (.bool false)], args := [d] }
  | _ => none }
def FnExactStripeOkWrongFalsely : Prop := fnExactStripeOkRow.holds Try.pinned (OpenSpec.ofChange fnExactStripeOkWrong)

/-- 'laws.FnExactStripeTop': WHATEVER THE INPUT: true; the input reads as it did. -/
def fnExactStripeTopSpec : ChangeSpec := { name := "fnExactStripeTop", fn := fun _ => fun
  | [d] => { results := [.lit (.bool true)], args := [d] }
  | _ => none }
def fnExactStripeTopRow : OpenClaim := { program := "ytjoiadaogppmkaa", sum := "50dbdba05c5fe36d0e330f2ee495069687712cb1c47e70ced215e7fdacde2b3d", func := "loop.example/keelson/laws.FnExactStripeTop", spec := "fnExactStripeTop", unfollowed := true, recurses := true, apart := false }
def FnExactStripeTopSaid : Prop := fnExactStripeTopRow.holds Try.pinned (OpenSpec.ofChange fnExactStripeTopSpec)

/-- ITS FALSE NEIGHBOUR: 'it returns false'. Refute it at one input. -/
def fnExactStripeTopWrong : ChangeSpec := { name := "fnExactStripeTop", fn := fun _ => fun
  | [d] => { results := [.lit (.bool false)], args := [d] }
  | _ => none }
def FnExactStripeTopWrongFalsely : Prop := fnExactStripeTopRow.holds Try.pinned (OpenSpec.ofChange fnExactStripeTopWrong)

/- THE SECOND FORM. 'bulk': how many values and letters a reading holds, each counted each time it is reached (what is shared counts as often as it is met; a slice's spare places count too). A statement '..UptoSaid' is the law's where the arguments, and the package variables that the reading takes, are together of bulk at most 1048576: NARROWER than '..Said'. Prove '..Said' where nothing that the law and all that it calls make is longer than what came in: it says more and counts as full. Else prove '..UptoSaid'. A law counts once. -/
mutual
def uptoBulk {H : Type} : DataW H → Nat
  | .lit (.string bytes) => bytes.length + 1
  | .lit _ => 1
  | .nil => 1
  | .ptr d => uptoBulk d + 1
  | .slice elems spare => uptoBulkAll elems + uptoBulkAll spare + 1
  | .agg parts => uptoBulkAll parts + 1
  | .iface _ d => uptoBulk d + 1
  | .map entries => uptoBulkEntries entries + 1
  | .held _ => 1
def uptoBulkAll {H : Type} : List (DataW H) → Nat
  | [] => 0
  | d :: r => uptoBulk d + uptoBulkAll r
def uptoBulkEntries {H : Type} : List (Lit × DataW H) → Nat
  | [] => 0
  | x :: r => uptoBulkEntry x + uptoBulkEntries r
def uptoBulkEntry {H : Type} : Lit × DataW H → Nat
  | (.string bytes, d) => bytes.length + uptoBulk d + 1
  | (_, d) => uptoBulk d + 1
 end
def uptoSmall : (H : Type) → List (DataW H) → Bool := fun _ ds => decide (uptoBulkAll ds ≤ 1048576)
def OpenSpec.upto (s : _root_.Go.ChangeSpec) : _root_.Go.OpenSpec := { _root_.Go.OpenSpec.ofChange s with cond := some uptoSmall }

/-- 'laws.FnPlanAll', WHERE WHAT IT READS IS OF BULK AT MOST 1048576: true; the input reads as it did. -/
def fnPlanAllUptoRow : OpenClaim := { program := "ytjoiadaogppmkaa", sum := "50dbdba05c5fe36d0e330f2ee495069687712cb1c47e70ced215e7fdacde2b3d", func := "loop.example/keelson/laws.FnPlanAll", spec := "fnPlanAll", unfollowed := true, recurses := true, apart := false, narrowed := true }
def FnPlanAllUptoSaid : Prop := fnPlanAllUptoRow.holds Try.pinned (OpenSpec.upto fnPlanAllSpec)

/-- 'laws.FnExactPlanAll', WHERE WHAT IT READS IS OF BULK AT MOST 1048576: true; the input reads as it did. -/
def fnExactPlanAllUptoRow : OpenClaim := { program := "ytjoiadaogppmkaa", sum := "50dbdba05c5fe36d0e330f2ee495069687712cb1c47e70ced215e7fdacde2b3d", func := "loop.example/keelson/laws.FnExactPlanAll", spec := "fnExactPlanAll", unfollowed := true, recurses := true, apart := false, narrowed := true }
def FnExactPlanAllUptoSaid : Prop := fnExactPlanAllUptoRow.holds Try.pinned (OpenSpec.upto fnExactPlanAllSpec)

/-- 'laws.FnStripeNew', WHERE WHAT IT READS IS OF BULK AT MOST 1048576: true; the input reads as it did. -/
def fnStripeNewUptoRow : OpenClaim := { program := "ytjoiadaogppmkaa", sum := "50dbdba05c5fe36d0e330f2ee495069687712cb1c47e70ced215e7fdacde2b3d", func := "loop.example/keelson/laws.FnStripeNew", spec := "fnStripeNew", unfollowed := true, recurses := true, apart := false, narrowed := true }
def FnStripeNewUptoSaid : Prop := fnStripeNewUptoRow.holds Try.pinned (OpenSpec.upto fnStripeNewSpec)

/-- 'laws.FnExactStripeOk', WHERE WHAT IT READS IS OF BULK AT MOST 1048576: true; the input reads as it did. -/
def fnExactStripeOkUptoRow : OpenClaim := { program := "ytjoiadaogppmkaa", sum := "50dbdba05c5fe36d0e330f2ee495069687712cb1c47e70ced215e7fdacde2b3d", func := "loop.example/keelson/laws.FnExactStripeOk", spec := "fnExactStripeOk", unfollowed := true, recurses := true, apart := false, narrowed := true }
def FnExactStripeOkUptoSaid : Prop := fnExactStripeOkUptoRow.holds Try.pinned (OpenSpec.upto fnExactStripeOkSpec)

/-- 'laws.FnExactStripeTop', WHERE WHAT IT READS IS OF BULK AT MOST 1048576: true; the input reads as it did. -/
def fnExactStripeTopUptoRow : OpenClaim := { program := "ytjoiadaogppmkaa", sum := "50dbdba05c5fe36d0e330f2ee495069687712cb1c47e70ced215e7fdacde2b3d", func := "loop.example/keelson/laws.FnExactStripeTop", spec := "fnExactStripeTop", unfollowed := true, recurses := true, apart := false, narrowed := true }
def FnExactStripeTopUptoSaid : Prop := fnExactStripeTopUptoRow.holds Try.pinned (OpenSpec.upto fnExactStripeTopSpec)

end Rows
end Go.Proofs.Ytjoiadaogppmkaa
