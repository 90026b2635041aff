/-
  No cell of these rows narrows 'for every input' (looked for: loops, veiled, ifaces, maps, wideKeys, modest, calm, conditions, laid).
  DERIVED. THE GIVEN ROWS OF THIS SEAT. 14 by the template 'for every input the law returns true; each argument reads behind the call as it read before'; 0 by the template 'total and deterministic' (their statements: YtlebgbcoljnejaaTotals.lean).
  GIVEN WITH THE SEED: the statements are not yours to turn. If you find one false, say at which input.
  Laid BY PROGRAM, IN A SANDBOX (cutbox-rows.mjs): the forced cells as the released guide's own fill.sh prints them over the translation d608760576d34985… (all of the seat's roots in one cut). By AI agents, Wed Nov 11 2026. No macro, syntax, notation, axiom, sorry.
-/
import Derived.Test.YtlebgbcoljnejaaChecked
import GoSem.Claim
import GoSem.ClaimJoined
import GoSem.ClaimMapViews
import Derived.JoinedTies
import Derived.KernelRfl
namespace Go.Proofs.Ytlebgbcoljnejaa
/- THE CELL 'sum', in the pinned program and in every row, IS THE sha256 OF THE DUMP (.gsa) THAT YtlebgbcoljnejaaProg.lean LOADS. Nothing in Lean hashes anything: it is a label: what it is worth is what the hold of that sum in a sandbox is worth. -/
noncomputable def Try.pinned : Pinned := { name := "ytlebgbcoljnejaa", sum := "d608760576d34985dea019f5637ea7a5fdaae9b59d8e4da0e4c1fd9935c59a06", checked := Try.checked }
namespace Rows
def none {H : Type} : Left H := { results := [], args := [] }

/-- 'laws.FnPlaceThere': WHATEVER THE INPUT: true; the input reads as it did. -/
def fnPlaceThereSpec : ChangeSpec := { name := "fnPlaceThere", fn := fun _ => fun
  | [d] => { results := [.lit (.bool true)], args := [d] }
  | _ => none }
def fnPlaceThereRow : OpenClaim := { program := "ytlebgbcoljnejaa", sum := "d608760576d34985dea019f5637ea7a5fdaae9b59d8e4da0e4c1fd9935c59a06", func := "loop.example/keelson/laws.FnPlaceThere", spec := "fnPlaceThere", unfollowed := true, recurses := true, apart := false }
def FnPlaceThereSaid : Prop := fnPlaceThereRow.holds Try.pinned (OpenSpec.ofChange fnPlaceThereSpec)

/-- ITS FALSE NEIGHBOUR: 'it returns false'. Refute it at one input. -/
def fnPlaceThereWrong : ChangeSpec := { name := "fnPlaceThere", fn := fun _ => fun
  | [d] => { results := [.lit (.bool false)], args := [d] }
  | _ => none }
def FnPlaceThereWrongFalsely : Prop := fnPlaceThereRow.holds Try.pinned (OpenSpec.ofChange fnPlaceThereWrong)

/-- 'laws.FnExactReadFrom': WHATEVER THE INPUT: true; the input reads as it did. -/
def fnExactReadFromSpec : ChangeSpec := { name := "fnExactReadFrom", fn := fun _ => fun
  | [d1, d2] => { results := [.lit (.bool true)], args := [d1, d2] }
  | _ => none }
def fnExactReadFromRow : OpenClaim := { program := "ytlebgbcoljnejaa", sum := "d608760576d34985dea019f5637ea7a5fdaae9b59d8e4da0e4c1fd9935c59a06", func := "loop.example/keelson/laws.FnExactReadFrom", spec := "fnExactReadFrom", unfollowed := true, recurses := true, apart := false }
def FnExactReadFromSaid : Prop := fnExactReadFromRow.holds Try.pinned (OpenSpec.ofChange fnExactReadFromSpec)

/-- ITS FALSE NEIGHBOUR: 'it returns false'. Refute it at one input. -/
def fnExactReadFromWrong : ChangeSpec := { name := "fnExactReadFrom", fn := fun _ => fun
  | [d1, d2] => { results := [.lit (.bool false)], args := [d1, d2] }
  | _ => none }
def FnExactReadFromWrongFalsely : Prop := fnExactReadFromRow.holds Try.pinned (OpenSpec.ofChange fnExactReadFromWrong)

/-- 'laws.FnPatchRow': WHATEVER THE INPUT: true; the input reads as it did. -/
def fnPatchRowSpec : ChangeSpec := { name := "fnPatchRow", fn := fun _ => fun
  | [d1, d2] => { results := [.lit (.bool true)], args := [d1, d2] }
  | _ => none }
def fnPatchRowRow : OpenClaim := { program := "ytlebgbcoljnejaa", sum := "d608760576d34985dea019f5637ea7a5fdaae9b59d8e4da0e4c1fd9935c59a06", func := "loop.example/keelson/laws.FnPatchRow", spec := "fnPatchRow", unfollowed := true, recurses := true, apart := false }
def FnPatchRowSaid : Prop := fnPatchRowRow.holds Try.pinned (OpenSpec.ofChange fnPatchRowSpec)

/-- ITS FALSE NEIGHBOUR: 'it returns false'. Refute it at one input. -/
def fnPatchRowWrong : ChangeSpec := { name := "fnPatchRow", fn := fun _ => fun
  | [d1, d2] => { results := [.lit (.bool false)], args := [d1, d2] }
  | _ => none }
def FnPatchRowWrongFalsely : Prop := fnPatchRowRow.holds Try.pinned (OpenSpec.ofChange fnPatchRowWrong)

/-- 'laws.FnReadFrom': WHATEVER THE INPUT: true; the input reads as it did. -/
def fnReadFromSpec : ChangeSpec := { name := "fnReadFrom", fn := fun _ => fun
  | [d] => { results := [.lit (.bool true)], args := [d] }
  | _ => none }
def fnReadFromRow : OpenClaim := { program := "ytlebgbcoljnejaa", sum := "d608760576d34985dea019f5637ea7a5fdaae9b59d8e4da0e4c1fd9935c59a06", func := "loop.example/keelson/laws.FnReadFrom", spec := "fnReadFrom", unfollowed := true, recurses := true, apart := false }
def FnReadFromSaid : Prop := fnReadFromRow.holds Try.pinned (OpenSpec.ofChange fnReadFromSpec)

/-- ITS FALSE NEIGHBOUR: 'it returns false'. Refute it at one input. -/
def fnReadFromWrong : ChangeSpec := { name := "fnReadFrom", fn := fun _ => fun
  | [d] => { results := [.lit (.bool false)], args := [d] }
  | _ => none }
def FnReadFromWrongFalsely : Prop := fnReadFromRow.holds Try.pinned (OpenSpec.ofChange fnReadFromWrong)

/-- 'laws.FnReadOrder': WHATEVER THE INPUT: true; the input reads as it did. -/
def fnReadOrderSpec : ChangeSpec := { name := "fnReadOrder", fn := fun _ => fun
  | [d1, d2] => { results := [.lit (.bool true)], args := [d1, d2] }
  | _ => none }
def fnReadOrderRow : OpenClaim := { program := "ytlebgbcoljnejaa", sum := "d608760576d34985dea019f5637ea7a5fdaae9b59d8e4da0e4c1fd9935c59a06", func := "loop.example/keelson/laws.FnReadOrder", spec := "fnReadOrder", unfollowed := true, recurses := true, apart := false }
def FnReadOrderSaid : Prop := fnReadOrderRow.holds Try.pinned (OpenSpec.ofChange fnReadOrderSpec)

/-- ITS FALSE NEIGHBOUR: 'it returns false'. Refute it at one input. -/
def fnReadOrderWrong : ChangeSpec := { name := "fnReadOrder", fn := fun _ => fun
  | [d1, d2] => { results := [.lit (.bool false)], args := [d1, d2] }
  | _ => none }
def FnReadOrderWrongFalsely : Prop := fnReadOrderRow.holds Try.pinned (OpenSpec.ofChange fnReadOrderWrong)

/-- 'laws.FnReadBack': WHATEVER THE INPUT: true; the input reads as it did. -/
def fnReadBackSpec : ChangeSpec := { name := "fnReadBack", fn := fun _ => fun
  | [d1, d2] => { results := [.lit (.bool true)], args := [d1, d2] }
  | _ => none }
def fnReadBackRow : OpenClaim := { program := "ytlebgbcoljnejaa", sum := "d608760576d34985dea019f5637ea7a5fdaae9b59d8e4da0e4c1fd9935c59a06", func := "loop.example/keelson/laws.FnReadBack", spec := "fnReadBack", unfollowed := true, recurses := true, apart := false }
def FnReadBackSaid : Prop := fnReadBackRow.holds Try.pinned (OpenSpec.ofChange fnReadBackSpec)

/-- ITS FALSE NEIGHBOUR: 'it returns false'. Refute it at one input. -/
def fnReadBackWrong : ChangeSpec := { name := "fnReadBack", fn := fun _ => fun
  | [d1, d2] => { results := [.lit (.bool false)], args := [d1, d2] }
  | _ => none }
def FnReadBackWrongFalsely : Prop := fnReadBackRow.holds Try.pinned (OpenSpec.ofChange fnReadBackWrong)

/-- 'laws.FnExactReadData': WHATEVER THE INPUT: true; the input reads as it did. -/
def fnExactReadDataSpec : ChangeSpec := { name := "fnExactReadData", fn := fun _ => fun
  | [d1, d2, d3] => { results := [.lit (.bool true)], args := [d1, d2, d3] }
  | _ => none }
def fnExactReadDataRow : OpenClaim := { program := "ytlebgbcoljnejaa", sum := "d608760576d34985dea019f5637ea7a5fdaae9b59d8e4da0e4c1fd9935c59a06", func := "loop.example/keelson/laws.FnExactReadData", spec := "fnExactReadData", unfollowed := true, recurses := true, apart := false }
def FnExactReadDataSaid : Prop := fnExactReadDataRow.holds Try.pinned (OpenSpec.ofChange fnExactReadDataSpec)

/-- ITS FALSE NEIGHBOUR: 'it returns false'. Refute it at one input. -/
def fnExactReadDataWrong : ChangeSpec := { name := "fnExactReadData", fn := fun _ => fun
  | [d1, d2, d3] => { results := [.lit (.bool false)], args := [d1, d2, d3] }
  | _ => none }
def FnExactReadDataWrongFalsely : Prop := fnExactReadDataRow.holds Try.pinned (OpenSpec.ofChange fnExactReadDataWrong)

/-- 'laws.FnReadFits': WHATEVER THE INPUT: true; the input reads as it did. -/
def fnReadFitsSpec : ChangeSpec := { name := "fnReadFits", fn := fun _ => fun
  | [d] => { results := [.lit (.bool true)], args := [d] }
  | _ => none }
def fnReadFitsRow : OpenClaim := { program := "ytlebgbcoljnejaa", sum := "d608760576d34985dea019f5637ea7a5fdaae9b59d8e4da0e4c1fd9935c59a06", func := "loop.example/keelson/laws.FnReadFits", spec := "fnReadFits", unfollowed := true, recurses := true, apart := false }
def FnReadFitsSaid : Prop := fnReadFitsRow.holds Try.pinned (OpenSpec.ofChange fnReadFitsSpec)

/-- ITS FALSE NEIGHBOUR: 'it returns false'. Refute it at one input. -/
def fnReadFitsWrong : ChangeSpec := { name := "fnReadFits", fn := fun _ => fun
  | [d] => { results := [.lit (.bool false)], args := [d] }
  | _ => none }
def FnReadFitsWrongFalsely : Prop := fnReadFitsRow.holds Try.pinned (OpenSpec.ofChange fnReadFitsWrong)

/-- 'laws.FnReadTwo': WHATEVER THE INPUT: true; the input reads as it did. -/
def fnReadTwoSpec : ChangeSpec := { name := "fnReadTwo", fn := fun _ => fun
  | [d1, d2] => { results := [.lit (.bool true)], args := [d1, d2] }
  | _ => none }
def fnReadTwoRow : OpenClaim := { program := "ytlebgbcoljnejaa", sum := "d608760576d34985dea019f5637ea7a5fdaae9b59d8e4da0e4c1fd9935c59a06", func := "loop.example/keelson/laws.FnReadTwo", spec := "fnReadTwo", unfollowed := true, recurses := true, apart := false }
def FnReadTwoSaid : Prop := fnReadTwoRow.holds Try.pinned (OpenSpec.ofChange fnReadTwoSpec)

/-- ITS FALSE NEIGHBOUR: 'it returns false'. Refute it at one input. -/
def fnReadTwoWrong : ChangeSpec := { name := "fnReadTwo", fn := fun _ => fun
  | [d1, d2] => { results := [.lit (.bool false)], args := [d1, d2] }
  | _ => none }
def FnReadTwoWrongFalsely : Prop := fnReadTwoRow.holds Try.pinned (OpenSpec.ofChange fnReadTwoWrong)

/-- 'laws.FnReadFind': WHATEVER THE INPUT: true; the input reads as it did. -/
def fnReadFindSpec : ChangeSpec := { name := "fnReadFind", fn := fun _ => fun
  | [d1, d2] => { results := [.lit (.bool true)], args := [d1, d2] }
  | _ => none }
def fnReadFindRow : OpenClaim := { program := "ytlebgbcoljnejaa", sum := "d608760576d34985dea019f5637ea7a5fdaae9b59d8e4da0e4c1fd9935c59a06", func := "loop.example/keelson/laws.FnReadFind", spec := "fnReadFind", unfollowed := true, recurses := true, apart := false }
def FnReadFindSaid : Prop := fnReadFindRow.holds Try.pinned (OpenSpec.ofChange fnReadFindSpec)

/-- ITS FALSE NEIGHBOUR: 'it returns false'. Refute it at one input. -/
def fnReadFindWrong : ChangeSpec := { name := "fnReadFind", fn := fun _ => fun
  | [d1, d2] => { results := [.lit (.bool false)], args := [d1, d2] }
  | _ => none }
def FnReadFindWrongFalsely : Prop := fnReadFindRow.holds Try.pinned (OpenSpec.ofChange fnReadFindWrong)

/-- 'laws.FnExactReadFind': WHATEVER THE INPUT: true; the input reads as it did. -/
def fnExactReadFindSpec : ChangeSpec := { name := "fnExactReadFind", fn := fun _ => fun
  | [d1, d2, d3] => { results := [.lit (.bool true)], args := [d1, d2, d3] }
  | _ => none }
def fnExactReadFindRow : OpenClaim := { program := "ytlebgbcoljnejaa", sum := "d608760576d34985dea019f5637ea7a5fdaae9b59d8e4da0e4c1fd9935c59a06", func := "loop.example/keelson/laws.FnExactReadFind", spec := "fnExactReadFind", unfollowed := true, recurses := true, apart := false }
def FnExactReadFindSaid : Prop := fnExactReadFindRow.holds Try.pinned (OpenSpec.ofChange fnExactReadFindSpec)

/-- ITS FALSE NEIGHBOUR: 'it returns false'. Refute it at one input. -/
def fnExactReadFindWrong : ChangeSpec := { name := "fnExactReadFind", fn := fun _ => fun
  | [d1, d2, d3] => { results := [.lit (.bool false)], args := [d1, d2, d3] }
  | _ => none }
def FnExactReadFindWrongFalsely : Prop := fnExactReadFindRow.holds Try.pinned (OpenSpec.ofChange fnExactReadFindWrong)

/-- 'laws.FnFindFits': WHATEVER THE INPUT: true; the input reads as it did. -/
def fnFindFitsSpec : ChangeSpec := { name := "fnFindFits", fn := fun _ => fun
  | [d] => { results := [.lit (.bool true)], args := [d] }
  | _ => none }
def fnFindFitsRow : OpenClaim := { program := "ytlebgbcoljnejaa", sum := "d608760576d34985dea019f5637ea7a5fdaae9b59d8e4da0e4c1fd9935c59a06", func := "loop.example/keelson/laws.FnFindFits", spec := "fnFindFits", unfollowed := true, recurses := true, apart := false }
def FnFindFitsSaid : Prop := fnFindFitsRow.holds Try.pinned (OpenSpec.ofChange fnFindFitsSpec)

/-- ITS FALSE NEIGHBOUR: 'it returns false'. Refute it at one input. -/
def fnFindFitsWrong : ChangeSpec := { name := "fnFindFits", fn := fun _ => fun
  | [d] => { results := [.lit (.bool false)], args := [d] }
  | _ => none }
def FnFindFitsWrongFalsely : Prop := fnFindFitsRow.holds Try.pinned (OpenSpec.ofChange fnFindFitsWrong)

/-- 'laws.FnExactReadSoon': WHATEVER THE INPUT: true; the input reads as it did. -/
def fnExactReadSoonSpec : ChangeSpec := { name := "fnExactReadSoon", fn := fun _ => fun
  | [d1, d2, d3] => { results := [.lit (.bool true)], args := [d1, d2, d3] }
  | _ => none }
def fnExactReadSoonRow : OpenClaim := { program := "ytlebgbcoljnejaa", sum := "d608760576d34985dea019f5637ea7a5fdaae9b59d8e4da0e4c1fd9935c59a06", func := "loop.example/keelson/laws.FnExactReadSoon", spec := "fnExactReadSoon", unfollowed := true, recurses := true, apart := false }
def FnExactReadSoonSaid : Prop := fnExactReadSoonRow.holds Try.pinned (OpenSpec.ofChange fnExactReadSoonSpec)

/-- ITS FALSE NEIGHBOUR: 'it returns false'. Refute it at one input. -/
def fnExactReadSoonWrong : ChangeSpec := { name := "fnExactReadSoon", fn := fun _ => fun
  | [d1, d2, d3] => { results := [.lit (.bool false)], args := [d1, d2, d3] }
  | _ => none }
def FnExactReadSoonWrongFalsely : Prop := fnExactReadSoonRow.holds Try.pinned (OpenSpec.ofChange fnExactReadSoonWrong)

/-- 'laws.FnReadSoon': WHATEVER THE INPUT: true; the input reads as it did. -/
def fnReadSoonSpec : ChangeSpec := { name := "fnReadSoon", fn := fun _ => fun
  | [d] => { results := [.lit (.bool true)], args := [d] }
  | _ => none }
def fnReadSoonRow : OpenClaim := { program := "ytlebgbcoljnejaa", sum := "d608760576d34985dea019f5637ea7a5fdaae9b59d8e4da0e4c1fd9935c59a06", func := "loop.example/keelson/laws.FnReadSoon", spec := "fnReadSoon", unfollowed := true, recurses := true, apart := false }
def FnReadSoonSaid : Prop := fnReadSoonRow.holds Try.pinned (OpenSpec.ofChange fnReadSoonSpec)

/-- ITS FALSE NEIGHBOUR: 'it returns false'. Refute it at one input. -/
def fnReadSoonWrong : ChangeSpec := { name := "fnReadSoon", fn := fun _ => fun
  | [d] => { results := [.lit (.bool false)], args := [d] }
  | _ => none }
def FnReadSoonWrongFalsely : Prop := fnReadSoonRow.holds Try.pinned (OpenSpec.ofChange fnReadSoonWrong)

/- THE SECOND FORM. 'bulk': how many values and letters a reading holds, each counted each time it is reached (what is shared counts as often as it is met; a slice's spare places count too). A statement '..UptoSaid' is the law's where the arguments, and the package variables that the reading takes, are together of bulk at most 1048576: NARROWER than '..Said'. Prove '..Said' where nothing that the law and all that it calls make is longer than what came in: it says more and counts as full. Else prove '..UptoSaid'. A law counts once. -/
mutual
def uptoBulk {H : Type} : DataW H → Nat
  | .lit (.string bytes) => bytes.length + 1
  | .lit _ => 1
  | .nil => 1
  | .ptr d => uptoBulk d + 1
  | .slice elems spare => uptoBulkAll elems + uptoBulkAll spare + 1
  | .agg parts => uptoBulkAll parts + 1
  | .iface _ d => uptoBulk d + 1
  | .map entries => uptoBulkEntries entries + 1
  | .held _ => 1
def uptoBulkAll {H : Type} : List (DataW H) → Nat
  | [] => 0
  | d :: r => uptoBulk d + uptoBulkAll r
def uptoBulkEntries {H : Type} : List (Lit × DataW H) → Nat
  | [] => 0
  | x :: r => uptoBulkEntry x + uptoBulkEntries r
def uptoBulkEntry {H : Type} : Lit × DataW H → Nat
  | (.string bytes, d) => bytes.length + uptoBulk d + 1
  | (_, d) => uptoBulk d + 1
 end
def uptoSmall : (H : Type) → List (DataW H) → Bool := fun _ ds => decide (uptoBulkAll ds ≤ 1048576)
def OpenSpec.upto (s : _root_.Go.ChangeSpec) : _root_.Go.OpenSpec := { _root_.Go.OpenSpec.ofChange s with cond := some uptoSmall }

/-- 'laws.FnPlaceThere', WHERE WHAT IT READS IS OF BULK AT MOST 1048576: true; the input reads as it did. -/
def fnPlaceThereUptoRow : OpenClaim := { program := "ytlebgbcoljnejaa", sum := "d608760576d34985dea019f5637ea7a5fdaae9b59d8e4da0e4c1fd9935c59a06", func := "loop.example/keelson/laws.FnPlaceThere", spec := "fnPlaceThere", unfollowed := true, recurses := true, apart := false, narrowed := true }
def FnPlaceThereUptoSaid : Prop := fnPlaceThereUptoRow.holds Try.pinned (OpenSpec.upto fnPlaceThereSpec)

/-- 'laws.FnExactReadFrom', WHERE WHAT IT READS IS OF BULK AT MOST 1048576: true; the input reads as it did. -/
def fnExactReadFromUptoRow : OpenClaim := { program := "ytlebgbcoljnejaa", sum := "d608760576d34985dea019f5637ea7a5fdaae9b59d8e4da0e4c1fd9935c59a06", func := "loop.example/keelson/laws.FnExactReadFrom", spec := "fnExactReadFrom", unfollowed := true, recurses := true, apart := false, narrowed := true }
def FnExactReadFromUptoSaid : Prop := fnExactReadFromUptoRow.holds Try.pinned (OpenSpec.upto fnExactReadFromSpec)

/-- 'laws.FnPatchRow', WHERE WHAT IT READS IS OF BULK AT MOST 1048576: true; the input reads as it did. -/
def fnPatchRowUptoRow : OpenClaim := { program := "ytlebgbcoljnejaa", sum := "d608760576d34985dea019f5637ea7a5fdaae9b59d8e4da0e4c1fd9935c59a06", func := "loop.example/keelson/laws.FnPatchRow", spec := "fnPatchRow", unfollowed := true, recurses := true, apart := false, narrowed := true }
def FnPatchRowUptoSaid : Prop := fnPatchRowUptoRow.holds Try.pinned (OpenSpec.upto fnPatchRowSpec)

/-- 'laws.FnReadFrom', WHERE WHAT IT READS IS OF BULK AT MOST 1048576: true; the input reads as it did. -/
def fnReadFromUptoRow : OpenClaim := { program := "ytlebgbcoljnejaa", sum := "d608760576d34985dea019f5637ea7a5fdaae9b59d8e4da0e4c1fd9935c59a06", func := "loop.example/keelson/laws.FnReadFrom", spec := "fnReadFrom", unfollowed := true, recurses := true, apart := false, narrowed := true }
def FnReadFromUptoSaid : Prop := fnReadFromUptoRow.holds Try.pinned (OpenSpec.upto fnReadFromSpec)

/-- 'laws.FnReadOrder', WHERE WHAT IT READS IS OF BULK AT MOST 1048576: true; the input reads as it did. -/
def fnReadOrderUptoRow : OpenClaim := { program := "ytlebgbcoljnejaa", sum := "d608760576d34985dea019f5637ea7a5fdaae9b59d8e4da0e4c1fd9935c59a06", func := "loop.example/keelson/laws.FnReadOrder", spec := "fnReadOrder", unfollowed := true, recurses := true, apart := false, narrowed := true }
def FnReadOrderUptoSaid : Prop := fnReadOrderUptoRow.holds Try.pinned (OpenSpec.upto fnReadOrderSpec)

/-- 'laws.FnReadBack', WHERE WHAT IT READS IS OF BULK AT MOST 1048576: true; the input reads as it did. -/
def fnReadBackUptoRow : OpenClaim := { program := "ytlebgbcoljnejaa", sum := "d608760576d34985dea019f5637ea7a5fdaae9b59d8e4da0e4c1fd9935c59a06", func := "loop.example/keelson/laws.FnReadBack", spec := "fnReadBack", unfollowed := true, recurses := true, apart := false, narrowed := true }
def FnReadBackUptoSaid : Prop := fnReadBackUptoRow.holds Try.pinned (OpenSpec.upto fnReadBackSpec)

/-- 'laws.FnExactReadData', WHERE WHAT IT READS IS OF BULK AT MOST 1048576: true; the input reads as it did. -/
def fnExactReadDataUptoRow : OpenClaim := { program := "ytlebgbcoljnejaa", sum := "d608760576d34985dea019f5637ea7a5fdaae9b59d8e4da0e4c1fd9935c59a06", func := "loop.example/keelson/laws.FnExactReadData", spec := "fnExactReadData", unfollowed := true, recurses := true, apart := false, narrowed := true }
def FnExactReadDataUptoSaid : Prop := fnExactReadDataUptoRow.holds Try.pinned (OpenSpec.upto fnExactReadDataSpec)

/-- 'laws.FnReadFits', WHERE WHAT IT READS IS OF BULK AT MOST 1048576: true; the input reads as it did. -/
def fnReadFitsUptoRow : OpenClaim := { program := "ytlebgbcoljnejaa", sum := "d608760576d34985dea019f5637ea7a5fdaae9b59d8e4da0e4c1fd9935c59a06", func := "loop.example/keelson/laws.FnReadFits", spec := "fnReadFits", unfollowed := true, recurses := true, apart := false, narrowed := true }
def FnReadFitsUptoSaid : Prop := fnReadFitsUptoRow.holds Try.pinned (OpenSpec.upto fnReadFitsSpec)

/-- 'laws.FnReadTwo', WHERE WHAT IT READS IS OF BULK AT MOST 1048576: true; the input reads as it did. -/
def fnReadTwoUptoRow : OpenClaim := { program := "ytlebgbcoljnejaa", sum := "d608760576d34985dea019f5637ea7a5fdaae9b59d8e4da0e4c1fd9935c59a06", func := "loop.example/keelson/laws.FnReadTwo", spec := "fnReadTwo", unfollowed := true, recurses := true, apart := false, narrowed := true }
def FnReadTwoUptoSaid : Prop := fnReadTwoUptoRow.holds Try.pinned (OpenSpec.upto fnReadTwoSpec)

/-- 'laws.FnReadFind', WHERE WHAT IT READS IS OF BULK AT MOST 1048576: true; the input reads as it did. -/
def fnReadFindUptoRow : OpenClaim := { program := "ytlebgbcoljnejaa", sum := "d608760576d34985dea019f5637ea7a5fdaae9b59d8e4da0e4c1fd9935c59a06", func := "loop.example/keelson/laws.FnReadFind", spec := "fnReadFind", unfollowed := true, recurses := true, apart := false, narrowed := true }
def FnReadFindUptoSaid : Prop := fnReadFindUptoRow.holds Try.pinned (OpenSpec.upto fnReadFindSpec)

/-- 'laws.FnExactReadFind', WHERE WHAT IT READS IS OF BULK AT MOST 1048576: true; the input reads as it did. -/
def fnExactReadFindUptoRow : OpenClaim := { program := "ytlebgbcoljnejaa", sum := "d608760576d34985dea019f5637ea7a5fdaae9b59d8e4da0e4c1fd9935c59a06", func := "loop.example/keelson/laws.FnExactReadFind", spec := "fnExactReadFind", unfollowed := true, recurses := true, apart := false, narrowed := true }
def FnExactReadFindUptoSaid : Prop := fnExactReadFindUptoRow.holds Try.pinned (OpenSpec.upto fnExactReadFindSpec)

/-- 'laws.FnFindFits', WHERE WHAT IT READS IS OF BULK AT MOST 1048576: true; the input reads as it did. -/
def fnFindFitsUptoRow : OpenClaim := { program := "ytlebgbcoljnejaa", sum := "d608760576d34985dea019f5637ea7a5fdaae9b59d8e4da0e4c1fd9935c59a06", func := "loop.example/keelson/laws.FnFindFits", spec := "fnFindFits", unfollowed := true, recurses := true, apart := false, narrowed := true }
def FnFindFitsUptoSaid : Prop := fnFindFitsUptoRow.holds Try.pinned (OpenSpec.upto fnFindFitsSpec)

/-- 'laws.FnExactReadSoon', WHERE WHAT IT READS IS OF BULK AT MOST 1048576: true; the input reads as it did. -/
def fnExactReadSoonUptoRow : OpenClaim := { program := "ytlebgbcoljnejaa", sum := "d608760576d34985dea019f5637ea7a5fdaae9b59d8e4da0e4c1fd9935c59a06", func := "loop.example/keelson/laws.FnExactReadSoon", spec := "fnExactReadSoon", unfollowed := true, recurses := true, apart := false, narrowed := true }
def FnExactReadSoonUptoSaid : Prop := fnExactReadSoonUptoRow.holds Try.pinned (OpenSpec.upto fnExactReadSoonSpec)

/-- 'laws.FnReadSoon', WHERE WHAT IT READS IS OF BULK AT MOST 1048576: true; the input reads as it did. -/
def fnReadSoonUptoRow : OpenClaim := { program := "ytlebgbcoljnejaa", sum := "d608760576d34985dea019f5637ea7a5fdaae9b59d8e4da0e4c1fd9935c59a06", func := "loop.example/keelson/laws.FnReadSoon", spec := "fnReadSoon", unfollowed := true, recurses := true, apart := false, narrowed := true }
def FnReadSoonUptoSaid : Prop := fnReadSoonUptoRow.holds Try.pinned (OpenSpec.upto fnReadSoonSpec)

end Rows
end Go.Proofs.Ytlebgbcoljnejaa
