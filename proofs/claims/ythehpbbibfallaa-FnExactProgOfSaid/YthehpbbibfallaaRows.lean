/-
  No cell of these rows narrows 'for every input' (looked for: loops, veiled, ifaces, maps, wideKeys, modest, calm, conditions, laid).
  DERIVED. THE GIVEN ROWS OF THIS SEAT. 12 by the template 'for every input the law returns true; each argument reads behind the call as it read before'; 0 by the template 'total and deterministic' (their statements: YthehpbbibfallaaTotals.lean).
  GIVEN WITH THE SEED: the statements are not yours to turn. If you find one false, say at which input.
  Laid BY PROGRAM, IN A SANDBOX (cutbox-rows.mjs): the forced cells as the released guide's own fill.sh prints them over the translation dff98d04d3cb686d… (all of the seat's roots in one cut). By AI agents, Wed Nov 11 2026. No macro, syntax, notation, axiom, sorry.
-/
import Derived.Test.YthehpbbibfallaaChecked
import GoSem.Claim
import GoSem.ClaimJoined
import GoSem.ClaimMapViews
import Derived.JoinedTies
import Derived.KernelRfl
namespace Go.Proofs.Ythehpbbibfallaa
/- THE CELL 'sum', in the pinned program and in every row, IS THE sha256 OF THE DUMP (.gsa) THAT YthehpbbibfallaaProg.lean LOADS. Nothing in Lean hashes anything: it is a label: what it is worth is what the hold of that sum in a sandbox is worth. -/
noncomputable def Try.pinned : Pinned := { name := "ythehpbbibfallaa", sum := "dff98d04d3cb686dbb54a7d129aaf15b4ca9277a48eb9242ecadfe1350065000", checked := Try.checked }
namespace Rows
def none {H : Type} : Left H := { results := [], args := [] }

/-- 'laws.FnPatchForm': WHATEVER THE INPUT: true; the input reads as it did. -/
def fnPatchFormSpec : ChangeSpec := { name := "fnPatchForm", fn := fun _ => fun
  | [d1, d2] => { results := [.lit (.bool true)], args := [d1, d2] }
  | _ => none }
def fnPatchFormRow : OpenClaim := { program := "ythehpbbibfallaa", sum := "dff98d04d3cb686dbb54a7d129aaf15b4ca9277a48eb9242ecadfe1350065000", func := "loop.example/keelson/laws.FnPatchForm", spec := "fnPatchForm", unfollowed := true, recurses := true, apart := false }
def FnPatchFormSaid : Prop := fnPatchFormRow.holds Try.pinned (OpenSpec.ofChange fnPatchFormSpec)

/-- ITS FALSE NEIGHBOUR: 'it returns false'. Refute it at one input. -/
def fnPatchFormWrong : ChangeSpec := { name := "fnPatchForm", fn := fun _ => fun
  | [d1, d2] => { results := [.lit (.bool false)], args := [d1, d2] }
  | _ => none }
def FnPatchFormWrongFalsely : Prop := fnPatchFormRow.holds Try.pinned (OpenSpec.ofChange fnPatchFormWrong)

/-- 'laws.FnPatchData': WHATEVER THE INPUT: true; the input reads as it did. -/
def fnPatchDataSpec : ChangeSpec := { name := "fnPatchData", fn := fun _ => fun
  | [d1, d2] => { results := [.lit (.bool true)], args := [d1, d2] }
  | _ => none }
def fnPatchDataRow : OpenClaim := { program := "ythehpbbibfallaa", sum := "dff98d04d3cb686dbb54a7d129aaf15b4ca9277a48eb9242ecadfe1350065000", func := "loop.example/keelson/laws.FnPatchData", spec := "fnPatchData", unfollowed := true, recurses := true, apart := false }
def FnPatchDataSaid : Prop := fnPatchDataRow.holds Try.pinned (OpenSpec.ofChange fnPatchDataSpec)

/-- ITS FALSE NEIGHBOUR: 'it returns false'. Refute it at one input. -/
def fnPatchDataWrong : ChangeSpec := { name := "fnPatchData", fn := fun _ => fun
  | [d1, d2] => { results := [.lit (.bool false)], args := [d1, d2] }
  | _ => none }
def FnPatchDataWrongFalsely : Prop := fnPatchDataRow.holds Try.pinned (OpenSpec.ofChange fnPatchDataWrong)

/-- 'laws.FnExactPatchRow': WHATEVER THE INPUT: true; the input reads as it did. -/
def fnExactPatchRowSpec : ChangeSpec := { name := "fnExactPatchRow", fn := fun _ => fun
  | [d1, d2] => { results := [.lit (.bool true)], args := [d1, d2] }
  | _ => none }
def fnExactPatchRowRow : OpenClaim := { program := "ythehpbbibfallaa", sum := "dff98d04d3cb686dbb54a7d129aaf15b4ca9277a48eb9242ecadfe1350065000", func := "loop.example/keelson/laws.FnExactPatchRow", spec := "fnExactPatchRow", apart := false }
def FnExactPatchRowSaid : Prop := fnExactPatchRowRow.holds Try.pinned (OpenSpec.ofChange fnExactPatchRowSpec)

/-- ITS FALSE NEIGHBOUR: 'it returns false'. Refute it at one input. -/
def fnExactPatchRowWrong : ChangeSpec := { name := "fnExactPatchRow", fn := fun _ => fun
  | [d1, d2] => { results := [.lit (.bool false)], args := [d1, d2] }
  | _ => none }
def FnExactPatchRowWrongFalsely : Prop := fnExactPatchRowRow.holds Try.pinned (OpenSpec.ofChange fnExactPatchRowWrong)

/-- 'laws.FnPatchNear': WHATEVER THE INPUT: true; the input reads as it did. -/
def fnPatchNearSpec : ChangeSpec := { name := "fnPatchNear", fn := fun _ => fun
  | [d] => { results := [.lit (.bool true)], args := [d] }
  | _ => none }
def fnPatchNearRow : OpenClaim := { program := "ythehpbbibfallaa", sum := "dff98d04d3cb686dbb54a7d129aaf15b4ca9277a48eb9242ecadfe1350065000", func := "loop.example/keelson/laws.FnPatchNear", spec := "fnPatchNear", apart := false }
def FnPatchNearSaid : Prop := fnPatchNearRow.holds Try.pinned (OpenSpec.ofChange fnPatchNearSpec)

/-- ITS FALSE NEIGHBOUR: 'it returns false'. Refute it at one input. -/
def fnPatchNearWrong : ChangeSpec := { name := "fnPatchNear", fn := fun _ => fun
  | [d] => { results := [.lit (.bool false)], args := [d] }
  | _ => none }
def FnPatchNearWrongFalsely : Prop := fnPatchNearRow.holds Try.pinned (OpenSpec.ofChange fnPatchNearWrong)

/-- 'laws.FnExactPatchOf': WHATEVER THE INPUT: true; the input reads as it did. -/
def fnExactPatchOfSpec : ChangeSpec := { name := "fnExactPatchOf", fn := fun _ => fun
  | [d1, d2] => { results := [.lit (.bool true)], args := [d1, d2] }
  | _ => none }
def fnExactPatchOfRow : OpenClaim := { program := "ythehpbbibfallaa", sum := "dff98d04d3cb686dbb54a7d129aaf15b4ca9277a48eb9242ecadfe1350065000", func := "loop.example/keelson/laws.FnExactPatchOf", spec := "fnExactPatchOf", unfollowed := true, recurses := true, apart := false }
def FnExactPatchOfSaid : Prop := fnExactPatchOfRow.holds Try.pinned (OpenSpec.ofChange fnExactPatchOfSpec)

/-- ITS FALSE NEIGHBOUR: 'it returns false'. Refute it at one input. -/
def fnExactPatchOfWrong : ChangeSpec := { name := "fnExactPatchOf", fn := fun _ => fun
  | [d1, d2] => { results := [.lit (.bool false)], args := [d1, d2] }
  | _ => none }
def FnExactPatchOfWrongFalsely : Prop := fnExactPatchOfRow.holds Try.pinned (OpenSpec.ofChange fnExactPatchOfWrong)

/-- 'laws.FnExactPatchData': WHATEVER THE INPUT: true; the input reads as it did. -/
def fnExactPatchDataSpec : ChangeSpec := { name := "fnExactPatchData", fn := fun _ => fun
  | [d1, d2] => { results := [.lit (.bool true)], args := [d1, d2] }
  | _ => none }
def fnExactPatchDataRow : OpenClaim := { program := "ythehpbbibfallaa", sum := "dff98d04d3cb686dbb54a7d129aaf15b4ca9277a48eb9242ecadfe1350065000", func := "loop.example/keelson/laws.FnExactPatchData", spec := "fnExactPatchData", unfollowed := true, recurses := true, apart := false }
def FnExactPatchDataSaid : Prop := fnExactPatchDataRow.holds Try.pinned (OpenSpec.ofChange fnExactPatchDataSpec)

/-- ITS FALSE NEIGHBOUR: 'it returns false'. Refute it at one input. -/
def fnExactPatchDataWrong : ChangeSpec := { name := "fnExactPatchData", fn := fun _ => fun
  | [d1, d2] => { results := [.lit (.bool false)], args := [d1, d2] }
  | _ => none }
def FnExactPatchDataWrongFalsely : Prop := fnExactPatchDataRow.holds Try.pinned (OpenSpec.ofChange fnExactPatchDataWrong)

/-- 'laws.FnPatchOf': WHATEVER THE INPUT: true; the input reads as it did. -/
def fnPatchOfSpec : ChangeSpec := { name := "fnPatchOf", fn := fun _ => fun
  | [d] => { results := [.lit (.bool true)], args := [d] }
  | _ => none }
def fnPatchOfRow : OpenClaim := { program := "ythehpbbibfallaa", sum := "dff98d04d3cb686dbb54a7d129aaf15b4ca9277a48eb9242ecadfe1350065000", func := "loop.example/keelson/laws.FnPatchOf", spec := "fnPatchOf", unfollowed := true, recurses := true, apart := false }
def FnPatchOfSaid : Prop := fnPatchOfRow.holds Try.pinned (OpenSpec.ofChange fnPatchOfSpec)

/-- ITS FALSE NEIGHBOUR: 'it returns false'. Refute it at one input. -/
def fnPatchOfWrong : ChangeSpec := { name := "fnPatchOf", fn := fun _ => fun
  | [d] => { results := [.lit (.bool false)], args := [d] }
  | _ => none }
def FnPatchOfWrongFalsely : Prop := fnPatchOfRow.holds Try.pinned (OpenSpec.ofChange fnPatchOfWrong)

/-- 'laws.FnExactProgOf': WHATEVER THE INPUT: true; the input reads as it did. -/
def fnExactProgOfSpec : ChangeSpec := { name := "fnExactProgOf", fn := fun _ => fun
  | [d] => { results := [.lit (.bool true)], args := [d] }
  | _ => none }
def fnExactProgOfRow : OpenClaim := { program := "ythehpbbibfallaa", sum := "dff98d04d3cb686dbb54a7d129aaf15b4ca9277a48eb9242ecadfe1350065000", func := "loop.example/keelson/laws.FnExactProgOf", spec := "fnExactProgOf", unfollowed := true, recurses := true, apart := false }
def FnExactProgOfSaid : Prop := fnExactProgOfRow.holds Try.pinned (OpenSpec.ofChange fnExactProgOfSpec)

/-- ITS FALSE NEIGHBOUR: 'it returns false'. Refute it at one input. -/
def fnExactProgOfWrong : ChangeSpec := { name := "fnExactProgOf", fn := fun _ => fun
  | [d] => { results := [.lit (.bool false)], args := [d] }
  | _ => none }
def FnExactProgOfWrongFalsely : Prop := fnExactProgOfRow.holds Try.pinned (OpenSpec.ofChange fnExactProgOfWrong)

/-- 'laws.FnExactProgRun': WHATEVER THE INPUT: true; the input reads as it did. -/
def fnExactProgRunSpec : ChangeSpec := { name := "fnExactProgRun", fn := fun _ => fun
  | [d1, d2] => { results := [.lit (.bool true)], args := [d1, d2] }
  | _ => none }
def fnExactProgRunRow : OpenClaim := { program := "ythehpbbibfallaa", sum := "dff98d04d3cb686dbb54a7d129aaf15b4ca9277a48eb9242ecadfe1350065000", func := "loop.example/keelson/laws.FnExactProgRun", spec := "fnExactProgRun", unfollowed := true, recurses := true, apart := false }
def FnExactProgRunSaid : Prop := fnExactProgRunRow.holds Try.pinned (OpenSpec.ofChange fnExactProgRunSpec)

/-- ITS FALSE NEIGHBOUR: 'it returns false'. Refute it at one input. -/
def fnExactProgRunWrong : ChangeSpec := { name := "fnExactProgRun", fn := fun _ => fun
  | [d1, d2] => { results := [.lit (.bool false)], args := [d1, d2] }
  | _ => none }
def FnExactProgRunWrongFalsely : Prop := fnExactProgRunRow.holds Try.pinned (OpenSpec.ofChange fnExactProgRunWrong)

/-- 'laws.FnExactProgRow': WHATEVER THE INPUT: true; the input reads as it did. -/
def fnExactProgRowSpec : ChangeSpec := { name := "fnExactProgRow", fn := fun _ => fun
  | [d1, d2] => { results := [.lit (.bool true)], args := [d1, d2] }
  | _ => none }
def fnExactProgRowRow : OpenClaim := { program := "ythehpbbibfallaa", sum := "dff98d04d3cb686dbb54a7d129aaf15b4ca9277a48eb9242ecadfe1350065000", func := "loop.example/keelson/laws.FnExactProgRow", spec := "fnExactProgRow", unfollowed := true, recurses := true, apart := false }
def FnExactProgRowSaid : Prop := fnExactProgRowRow.holds Try.pinned (OpenSpec.ofChange fnExactProgRowSpec)

/-- ITS FALSE NEIGHBOUR: 'it returns false'. Refute it at one input. -/
def fnExactProgRowWrong : ChangeSpec := { name := "fnExactProgRow", fn := fun _ => fun
  | [d1, d2] => { results := [.lit (.bool false)], args := [d1, d2] }
  | _ => none }
def FnExactProgRowWrongFalsely : Prop := fnExactProgRowRow.holds Try.pinned (OpenSpec.ofChange fnExactProgRowWrong)

/-- 'laws.FnExactStripeNew': WHATEVER THE INPUT: true; the input reads as it did. -/
def fnExactStripeNewSpec : ChangeSpec := { name := "fnExactStripeNew", fn := fun _ => fun
  | [d1, d2, d3] => { results := [.lit (.bool true)], args := [d1, d2, d3] }
  | _ => none }
def fnExactStripeNewRow : OpenClaim := { program := "ythehpbbibfallaa", sum := "dff98d04d3cb686dbb54a7d129aaf15b4ca9277a48eb9242ecadfe1350065000", func := "loop.example/keelson/laws.FnExactStripeNew", spec := "fnExactStripeNew", unfollowed := true, recurses := true, apart := false }
def FnExactStripeNewSaid : Prop := fnExactStripeNewRow.holds Try.pinned (OpenSpec.ofChange fnExactStripeNewSpec)

/-- ITS FALSE NEIGHBOUR: 'it returns false'. Refute it at one input. -/
def fnExactStripeNewWrong : ChangeSpec := { name := "fnExactStripeNew", fn := fun _ => fun
  | [d1, d2, d3] => { results := [.lit (.bool false)], args := [d1, d2, d3] }
  | _ => none }
def FnExactStripeNewWrongFalsely : Prop := fnExactStripeNewRow.holds Try.pinned (OpenSpec.ofChange fnExactStripeNewWrong)

/-- 'laws.FnExactKeepNew': WHATEVER THE INPUT: true; the input reads as it did. -/
def fnExactKeepNewSpec : ChangeSpec := { name := "fnExactKeepNew", fn := fun _ => fun
  | [d1, d2] => { results := [.lit (.bool true)], args := [d1, d2] }
  | _ => none }
def fnExactKeepNewRow : OpenClaim := { program := "ythehpbbibfallaa", sum := "dff98d04d3cb686dbb54a7d129aaf15b4ca9277a48eb9242ecadfe1350065000", func := "loop.example/keelson/laws.FnExactKeepNew", spec := "fnExactKeepNew", unfollowed := true, recurses := true, apart := false }
def FnExactKeepNewSaid : Prop := fnExactKeepNewRow.holds Try.pinned (OpenSpec.ofChange fnExactKeepNewSpec)

/-- ITS FALSE NEIGHBOUR: 'it returns false'. Refute it at one input. -/
def fnExactKeepNewWrong : ChangeSpec := { name := "fnExactKeepNew", fn := fun _ => fun
  | [d1, d2] => { results := [.lit (.bool false)], args := [d1, d2] }
  | _ => none }
def FnExactKeepNewWrongFalsely : Prop := fnExactKeepNewRow.holds Try.pinned (OpenSpec.ofChange fnExactKeepNewWrong)

/- THE SECOND FORM. 'bulk': how many values and letters a reading holds, each counted each time it is reached (what is shared counts as often as it is met; a slice's spare places count too). A statement '..UptoSaid' is the law's where the arguments, and the package variables that the reading takes, are together of bulk at most 1048576: NARROWER than '..Said'. Prove '..Said' where nothing that the law and all that it calls make is longer than what came in: it says more and counts as full. Else prove '..UptoSaid'. A law counts once. -/
mutual
def uptoBulk {H : Type} : DataW H → Nat
  | .lit (.string bytes) => bytes.length + 1
  | .lit _ => 1
  | .nil => 1
  | .ptr d => uptoBulk d + 1
  | .slice elems spare => uptoBulkAll elems + uptoBulkAll spare + 1
  | .agg parts => uptoBulkAll parts + 1
  | .iface _ d => uptoBulk d + 1
  | .map entries => uptoBulkEntries entries + 1
  | .held _ => 1
def uptoBulkAll {H : Type} : List (DataW H) → Nat
  | [] => 0
  | d :: r => uptoBulk d + uptoBulkAll r
def uptoBulkEntries {H : Type} : List (Lit × DataW H) → Nat
  | [] => 0
  | x :: r => uptoBulkEntry x + uptoBulkEntries r
def uptoBulkEntry {H : Type} : Lit × DataW H → Nat
  | (.string bytes, d) => bytes.length + uptoBulk d + 1
  | (_, d) => uptoBulk d + 1
 end
def uptoSmall : (H : Type) → List (DataW H) → Bool := fun _ ds => decide (uptoBulkAll ds ≤ 1048576)
def OpenSpec.upto (s : _root_.Go.ChangeSpec) : _root_.Go.OpenSpec := { _root_.Go.OpenSpec.ofChange s with cond := some uptoSmall }

/-- 'laws.FnPatchForm', WHERE WHAT IT READS IS OF BULK AT MOST 1048576: true; the input reads as it did. -/
def fnPatchFormUptoRow : OpenClaim := { program := "ythehpbbibfallaa", sum := "dff98d04d3cb686dbb54a7d129aaf15b4ca9277a48eb9242ecadfe1350065000", func := "loop.example/keelson/laws.FnPatchForm", spec := "fnPatchForm", unfollowed := true, recurses := true, apart := false, narrowed := true }
def FnPatchFormUptoSaid : Prop := fnPatchFormUptoRow.holds Try.pinned (OpenSpec.upto fnPatchFormSpec)

/-- 'laws.FnPatchData', WHERE WHAT IT READS IS OF BULK AT MOST 1048576: true; the input reads as it did. -/
def fnPatchDataUptoRow : OpenClaim := { program := "ythehpbbibfallaa", sum := "dff98d04d3cb686dbb54a7d129aaf15b4ca9277a48eb9242ecadfe1350065000", func := "loop.example/keelson/laws.FnPatchData", spec := "fnPatchData", unfollowed := true, recurses := true, apart := false, narrowed := true }
def FnPatchDataUptoSaid : Prop := fnPatchDataUptoRow.holds Try.pinned (OpenSpec.upto fnPatchDataSpec)

/-- 'laws.FnExactPatchRow', WHERE WHAT IT READS IS OF BULK AT MOST 1048576: true; the input reads as it did. -/
def fnExactPatchRowUptoRow : OpenClaim := { program := "ythehpbbibfallaa", sum := "dff98d04d3cb686dbb54a7d129aaf15b4ca9277a48eb9242ecadfe1350065000", func := "loop.example/keelson/laws.FnExactPatchRow", spec := "fnExactPatchRow", apart := false, narrowed := true }
def FnExactPatchRowUptoSaid : Prop := fnExactPatchRowUptoRow.holds Try.pinned (OpenSpec.upto fnExactPatchRowSpec)

/-- 'laws.FnPatchNear', WHERE WHAT IT READS IS OF BULK AT MOST 1048576: true; the input reads as it did. -/
def fnPatchNearUptoRow : OpenClaim := { program := "ythehpbbibfallaa", sum := "dff98d04d3cb686dbb54a7d129aaf15b4ca9277a48eb9242ecadfe1350065000", func := "loop.example/keelson/laws.FnPatchNear", spec := "fnPatchNear", apart := false, narrowed := true }
def FnPatchNearUptoSaid : Prop := fnPatchNearUptoRow.holds Try.pinned (OpenSpec.upto fnPatchNearSpec)

/-- 'laws.FnExactPatchOf', WHERE WHAT IT READS IS OF BULK AT MOST 1048576: true; the input reads as it did. -/
def fnExactPatchOfUptoRow : OpenClaim := { program := "ythehpbbibfallaa", sum := "dff98d04d3cb686dbb54a7d129aaf15b4ca9277a48eb9242ecadfe1350065000", func := "loop.example/keelson/laws.FnExactPatchOf", spec := "fnExactPatchOf", unfollowed := true, recurses := true, apart := false, narrowed := true }
def FnExactPatchOfUptoSaid : Prop := fnExactPatchOfUptoRow.holds Try.pinned (OpenSpec.upto fnExactPatchOfSpec)

/-- 'laws.FnExactPatchData', WHERE WHAT IT READS IS OF BULK AT MOST 1048576: true; the input reads as it did. -/
def fnExactPatchDataUptoRow : OpenClaim := { program := "ythehpbbibfallaa", sum := "dff98d04d3cb686dbb54a7d129aaf15b4ca9277a48eb9242ecadfe1350065000", func := "loop.example/keelson/laws.FnExactPatchData", spec := "fnExactPatchData", unfollowed := true, recurses := true, apart := false, narrowed := true }
def FnExactPatchDataUptoSaid : Prop := fnExactPatchDataUptoRow.holds Try.pinned (OpenSpec.upto fnExactPatchDataSpec)

/-- 'laws.FnPatchOf', WHERE WHAT IT READS IS OF BULK AT MOST 1048576: true; the input reads as it did. -/
def fnPatchOfUptoRow : OpenClaim := { program := "ythehpbbibfallaa", sum := "dff98d04d3cb686dbb54a7d129aaf15b4ca9277a48eb9242ecadfe1350065000", func := "loop.example/keelson/laws.FnPatchOf", spec := "fnPatchOf", unfollowed := true, recurses := true, apart := false, narrowed := true }
def FnPatchOfUptoSaid : Prop := fnPatchOfUptoRow.holds Try.pinned (OpenSpec.upto fnPatchOfSpec)

/-- 'laws.FnExactProgOf', WHERE WHAT IT READS IS OF BULK AT MOST 1048576: true; the input reads as it did. -/
def fnExactProgOfUptoRow : OpenClaim := { program := "ythehpbbibfallaa", sum := "dff98d04d3cb686dbb54a7d129aaf15b4ca9277a48eb9242ecadfe1350065000", func := "loop.example/keelson/laws.FnExactProgOf", spec := "fnExactProgOf", unfollowed := true, recurses := true, apart := false, narrowed := true }
def FnExactProgOfUptoSaid : Prop := fnExactProgOfUptoRow.holds Try.pinned (OpenSpec.upto fnExactProgOfSpec)

/-- 'laws.FnExactProgRun', WHERE WHAT IT READS IS OF BULK AT MOST 1048576: true; the input reads as it did. -/
def fnExactProgRunUptoRow : OpenClaim := { program := "ythehpbbibfallaa", sum := "dff98d04d3cb686dbb54a7d129aaf15b4ca9277a48eb9242ecadfe1350065000", func := "loop.example/keelson/laws.FnExactProgRun", spec := "fnExactProgRun", unfollowed := true, recurses := true, apart := false, narrowed := true }
def FnExactProgRunUptoSaid : Prop := fnExactProgRunUptoRow.holds Try.pinned (OpenSpec.upto fnExactProgRunSpec)

/-- 'laws.FnExactProgRow', WHERE WHAT IT READS IS OF BULK AT MOST 1048576: true; the input reads as it did. -/
def fnExactProgRowUptoRow : OpenClaim := { program := "ythehpbbibfallaa", sum := "dff98d04d3cb686dbb54a7d129aaf15b4ca9277a48eb9242ecadfe1350065000", func := "loop.example/keelson/laws.FnExactProgRow", spec := "fnExactProgRow", unfollowed := true, recurses := true, apart := false, narrowed := true }
def FnExactProgRowUptoSaid : Prop := fnExactProgRowUptoRow.holds Try.pinned (OpenSpec.upto fnExactProgRowSpec)

/-- 'laws.FnExactStripeNew', WHERE WHAT IT READS IS OF BULK AT MOST 1048576: true; the input reads as it did. -/
def fnExactStripeNewUptoRow : OpenClaim := { program := "ythehpbbibfallaa", sum := "dff98d04d3cb686dbb54a7d129aaf15b4ca9277a48eb9242ecadfe1350065000", func := "loop.example/keelson/laws.FnExactStripeNew", spec := "fnExactStripeNew", unfollowed := true, recurses := true, apart := false, narrowed := true }
def FnExactStripeNewUptoSaid : Prop := fnExactStripeNewUptoRow.holds Try.pinned (OpenSpec.upto fnExactStripeNewSpec)

/-- 'laws.FnExactKeepNew', WHERE WHAT IT READS IS OF BULK AT MOST 1048576: true; the input reads as it did. -/
def fnExactKeepNewUptoRow : OpenClaim := { program := "ythehpbbibfallaa", sum := "dff98d04d3cb686dbb54a7d129aaf15b4ca9277a48eb9242ecadfe1350065000", func := "loop.example/keelson/laws.FnExactKeepNew", spec := "fnExactKeepNew", unfollowed := true, recurses := true, apart := false, narrowed := true }
def FnExactKeepNewUptoSaid : Prop := fnExactKeepNewUptoRow.holds Try.pinned (OpenSpec.upto fnExactKeepNewSpec)

end Rows
end Go.Proofs.Ythehpbbibfallaa
