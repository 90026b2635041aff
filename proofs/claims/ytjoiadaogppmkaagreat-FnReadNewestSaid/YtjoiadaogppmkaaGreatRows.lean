/-
  No cell of these rows narrows 'for every input' (looked for: loops, veiled, ifaces, maps, wideKeys, modest, calm, conditions, laid).
  DERIVED. THE GIVEN ROWS OF THIS SEAT. 3 by the template 'for every input the law returns true; each argument reads behind the call as it read before'; 0 by the template 'total and deterministic' (their statements: YtjoiadaogppmkaaGreatTotals.lean).
  GIVEN WITH THE SEED: the statements are not yours to turn. If you find one false, say at which input.
  Laid BY PROGRAM, IN A SANDBOX (cutbox-rows.mjs): the forced cells as the released guide's own fill.sh prints them over the translation a9afa35036b8cf5a… (all of the seat's roots in one cut). By AI agents, Wed Nov 11 2026. No macro, syntax, notation, axiom, sorry.
-/
import Derived.Test.YtjoiadaogppmkaaGreatChecked
import GoSem.Claim
import GoSem.ClaimJoined
import GoSem.ClaimMapViews
import Derived.JoinedTies
import Derived.KernelRfl
namespace Go.Proofs.YtjoiadaogppmkaaGreat
/- THE CELL 'sum', in the pinned program and in every row, IS THE sha256 OF THE DUMP (.gsa) THAT YtjoiadaogppmkaaGreatProg.lean LOADS. Nothing in Lean hashes anything: it is a label: what it is worth is what the hold of that sum in a sandbox is worth. -/
noncomputable def Tryz.pinned : Pinned := { name := "ytjoiadaogppmkaagreat", sum := "a9afa35036b8cf5a6d95c6e9e5c479075266e97c85fa9f76ef10cae5cc40f713", checked := Tryz.checked }
namespace Rows
def none {H : Type} : Left H := { results := [], args := [] }

/-- 'laws.FnExactStripeRead': WHATEVER THE INPUT: true; the input reads as it did. -/
def fnExactStripeReadSpec : ChangeSpec := { name := "fnExactStripeRead", fn := fun _ => fun
  | [d] => { results := [.lit (.bool true)], args := [d] }
  | _ => none }
def fnExactStripeReadRow : OpenClaim := { program := "ytjoiadaogppmkaagreat", sum := "a9afa35036b8cf5a6d95c6e9e5c479075266e97c85fa9f76ef10cae5cc40f713", func := "loop.example/keelson/laws.FnExactStripeRead", spec := "fnExactStripeRead", unfollowed := true, recurses := true, apart := false }
def FnExactStripeReadSaid : Prop := fnExactStripeReadRow.holds Tryz.pinned (OpenSpec.ofChange fnExactStripeReadSpec)

/-- ITS FALSE NEIGHBOUR: 'it returns false'. Refute it at one input. -/
def fnExactStripeReadWrong : ChangeSpec := { name := "fnExactStripeRead", fn := fun _ => fun
  | [d] => { results := [.lit (.bool false)], args := [d] }
  | _ => none }
def FnExactStripeReadWrongFalsely : Prop := fnExactStripeReadRow.holds Tryz.pinned (OpenSpec.ofChange fnExactStripeReadWrong)

/-- 'laws.FnReadOne': WHATEVER THE INPUT: true; the input reads as it did. -/
def fnReadOneSpec : ChangeSpec := { name := "fnReadOne", fn := fun _ => fun
  | [d] => { results := [.lit (.bool true)], args := [d] }
  | _ => none }
def fnReadOneRow : OpenClaim := { program := "ytjoiadaogppmkaagreat", sum := "a9afa35036b8cf5a6d95c6e9e5c479075266e97c85fa9f76ef10cae5cc40f713", func := "loop.example/keelson/laws.FnReadOne", spec := "fnReadOne", unfollowed := true, recurses := true, apart := false }
def FnReadOneSaid : Prop := fnReadOneRow.holds Tryz.pinned (OpenSpec.ofChange fnReadOneSpec)

/-- ITS FALSE NEIGHBOUR: 'it returns false'. Refute it at one input. -/
def fnReadOneWrong : ChangeSpec := { name := "fnReadOne", fn := fun _ => fun
  | [d] => { results := [.lit (.bool false)], args := [d] }
  | _ => none }
def FnReadOneWrongFalsely : Prop := fnReadOneRow.holds Tryz.pinned (OpenSpec.ofChange fnReadOneWrong)

/-- 'laws.FnReadNewest': WHATEVER THE INPUT: true; the input reads as it did. -/
def fnReadNewestSpec : ChangeSpec := { name := "fnReadNewest", fn := fun _ => fun
  | [d] => { results := [.lit (.bool true)], args := [d] }
  | _ => none }
def fnReadNewestRow : OpenClaim := { program := "ytjoiadaogppmkaagreat", sum := "a9afa35036b8cf5a6d95c6e9e5c479075266e97c85fa9f76ef10cae5cc40f713", func := "loop.example/keelson/laws.FnReadNewest", spec := "fnReadNewest", unfollowed := true, recurses := true, apart := false }
def FnReadNewestSaid : Prop := fnReadNewestRow.holds Tryz.pinned (OpenSpec.ofChange fnReadNewestSpec)

/-- ITS FALSE NEIGHBOUR: 'it returns false'. Refute it at one input. -/
def fnReadNewestWrong : ChangeSpec := { name := "fnReadNewest", fn := fun _ => fun
  | [d] => { results := [.lit (.bool false)], args := [d] }
  | _ => none }
def FnReadNewestWrongFalsely : Prop := fnReadNewestRow.holds Tryz.pinned (OpenSpec.ofChange fnReadNewestWrong)

/- THE SECOND FORM. 'bulk': how many values and letters a reading holds, each counted each time it is reached (what is shared counts as often as it is met; a slice's spare places count too). A statement '..UptoSaid' is the law's where the arguments, and the package variables that the reading takes, are together of bulk at most 1048576: NARROWER than '..Said'. Prove '..Said' where nothing that the law and all that it calls make is longer than what came in: it says more and counts as full. Else prove '..UptoSaid'. A law counts once. -/
mutual
def uptoBulk {H : Type} : DataW H → Nat
  | .lit (.string bytes) => bytes.length + 1
  | .lit _ => 1
  | .nil => 1
  | .ptr d => uptoBulk d + 1
  | .slice elems spare => uptoBulkAll elems + uptoBulkAll spare + 1
  | .agg parts => uptoBulkAll parts + 1
  | .iface _ d => uptoBulk d + 1
  | .map entries => uptoBulkEntries entries + 1
  | .held _ => 1
def uptoBulkAll {H : Type} : List (DataW H) → Nat
  | [] => 0
  | d :: r => uptoBulk d + uptoBulkAll r
def uptoBulkEntries {H : Type} : List (Lit × DataW H) → Nat
  | [] => 0
  | x :: r => uptoBulkEntry x + uptoBulkEntries r
def uptoBulkEntry {H : Type} : Lit × DataW H → Nat
  | (.string bytes, d) => bytes.length + uptoBulk d + 1
  | (_, d) => uptoBulk d + 1
 end
def uptoSmall : (H : Type) → List (DataW H) → Bool := fun _ ds => decide (uptoBulkAll ds ≤ 1048576)
def OpenSpec.upto (s : _root_.Go.ChangeSpec) : _root_.Go.OpenSpec := { _root_.Go.OpenSpec.ofChange s with cond := some uptoSmall }

/-- 'laws.FnExactStripeRead', WHERE WHAT IT READS IS OF BULK AT MOST 1048576: true; the input reads as it did. -/
def fnExactStripeReadUptoRow : OpenClaim := { program := "ytjoiadaogppmkaagreat", sum := "a9afa35036b8cf5a6d95c6e9e5c479075266e97c85fa9f76ef10cae5cc40f713", func := "loop.example/keelson/laws.FnExactStripeRead", spec := "fnExactStripeRead", unfollowed := true, recurses := true, apart := false, narrowed := true }
def FnExactStripeReadUptoSaid : Prop := fnExactStripeReadUptoRow.holds Tryz.pinned (OpenSpec.upto fnExactStripeReadSpec)

/-- 'laws.FnReadOne', WHERE WHAT IT READS IS OF BULK AT MOST 1048576: true; the input reads as it did. -/
def fnReadOneUptoRow : OpenClaim := { program := "ytjoiadaogppmkaagreat", sum := "a9afa35036b8cf5a6d95c6e9e5c479075266e97c85fa9f76ef10cae5cc40f713", func := "loop.example/keelson/laws.FnReadOne", spec := "fnReadOne", unfollowed := true, recurses := true, apart := false, narrowed := true }
def FnReadOneUptoSaid : Prop := fnReadOneUptoRow.holds Tryz.pinned (OpenSpec.upto fnReadOneSpec)

/-- 'laws.FnReadNewest', WHERE WHAT IT READS IS OF BULK AT MOST 1048576: true; the input reads as it did. -/
def fnReadNewestUptoRow : OpenClaim := { program := "ytjoiadaogppmkaagreat", sum := "a9afa35036b8cf5a6d95c6e9e5c479075266e97c85fa9f76ef10cae5cc40f713", func := "loop.example/keelson/laws.FnReadNewest", spec := "fnReadNewest", unfollowed := true, recurses := true, apart := false, narrowed := true }
def FnReadNewestUptoSaid : Prop := fnReadNewestUptoRow.holds Tryz.pinned (OpenSpec.upto fnReadNewestSpec)

end Rows
end Go.Proofs.YtjoiadaogppmkaaGreat
