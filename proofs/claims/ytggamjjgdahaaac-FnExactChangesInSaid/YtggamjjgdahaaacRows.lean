/-
  No cell of these rows narrows 'for every input' (looked for: loops, veiled, ifaces, maps, wideKeys, modest, calm, conditions, laid).
  DERIVED. THE GIVEN ROWS OF THIS SEAT. 7 by the template 'for every input the law returns true; each argument reads behind the call as it read before'; 0 by the template 'total and deterministic' (their statements: YtggamjjgdahaaacTotals.lean).
  GIVEN WITH THE SEED: the statements are not yours to turn. If you find one false, say at which input.
  Laid BY PROGRAM, IN A SANDBOX (cutbox-rows.mjs): the forced cells as the released guide's own fill.sh prints them over the translation 87f3d958f2b5beb5… (all of the seat's roots in one cut). By AI agents, Wed Nov 11 2026. No macro, syntax, notation, axiom, sorry.
-/
import Derived.Test.YtggamjjgdahaaacChecked
import GoSem.Claim
import GoSem.ClaimJoined
import GoSem.ClaimMapViews
import Derived.JoinedTies
import Derived.KernelRfl
namespace Go.Proofs.Ytggamjjgdahaaac
/- THE CELL 'sum', in the pinned program and in every row, IS THE sha256 OF THE DUMP (.gsa) THAT YtggamjjgdahaaacProg.lean LOADS. Nothing in Lean hashes anything: it is a label: what it is worth is what the hold of that sum in a sandbox is worth. -/
noncomputable def Try.pinned : Pinned := { name := "ytggamjjgdahaaac", sum := "87f3d958f2b5beb59951f02cf80b6ee3edfaa4f30b79fa279a88691b82693787", checked := Try.checked }
namespace Rows
def none {H : Type} : Left H := { results := [], args := [] }

/-- 'laws.FnExactLeastAnger': WHATEVER THE INPUT: true; the input reads as it did. -/
def fnExactLeastAngerSpec : ChangeSpec := { name := "fnExactLeastAnger", fn := fun _ => fun
  | [d1, d2, d3] => { results := [.lit (.bool true)], args := [d1, d2, d3] }
  | _ => none }
def fnExactLeastAngerRow : OpenClaim := { program := "ytggamjjgdahaaac", sum := "87f3d958f2b5beb59951f02cf80b6ee3edfaa4f30b79fa279a88691b82693787", func := "loop.example/g01367/laws.FnExactLeastAnger", spec := "fnExactLeastAnger", unfollowed := true, recurses := true, apart := false }
def FnExactLeastAngerSaid : Prop := fnExactLeastAngerRow.holds Try.pinned (OpenSpec.ofChange fnExactLeastAngerSpec)

/-- ITS FALSE NEIGHBOUR: 'it returns false'. Refute it at one input. -/
def fnExactLeastAngerWrong : ChangeSpec := { name := "fnExactLeastAnger", fn := fun _ => fun
  | [d1, d2, d3] => { results := [.lit (.bool false)], args := [d1, d2, d3] }
  | _ => none }
def FnExactLeastAngerWrongFalsely : Prop := fnExactLeastAngerRow.holds Try.pinned (OpenSpec.ofChange fnExactLeastAngerWrong)

/-- 'laws.FnExactSharedTilt': WHATEVER THE INPUT: true; the input reads as it did. -/
def fnExactSharedTiltSpec : ChangeSpec := { name := "fnExactSharedTilt", fn := fun _ => fun
  | [d1, d2, d3] => { results := [.lit (.bool true)], args := [d1, d2, d3] }
  | _ => none }
def fnExactSharedTiltRow : OpenClaim := { program := "ytggamjjgdahaaac", sum := "87f3d958f2b5beb59951f02cf80b6ee3edfaa4f30b79fa279a88691b82693787", func := "loop.example/g01367/laws.FnExactSharedTilt", spec := "fnExactSharedTilt", unfollowed := true, recurses := true, apart := false }
def FnExactSharedTiltSaid : Prop := fnExactSharedTiltRow.holds Try.pinned (OpenSpec.ofChange fnExactSharedTiltSpec)

/-- ITS FALSE NEIGHBOUR: 'it returns false'. Refute it at one input. -/
def fnExactSharedTiltWrong : ChangeSpec := { name := "fnExactSharedTilt", fn := fun _ => fun
  | [d1, d2, d3] => { results := [.lit (.bool false)], args := [d1, d2, d3] }
  | _ => none }
def FnExactSharedTiltWrongFalsely : Prop := fnExactSharedTiltRow.holds Try.pinned (OpenSpec.ofChange fnExactSharedTiltWrong)

/-- 'laws.FnExactIsSteady': WHATEVER THE INPUT: true; the input reads as it did. -/
def fnExactIsSteadySpec : ChangeSpec := { name := "fnExactIsSteady", fn := fun _ => fun
  | [d1, d2, d3, d4] => { results := [.lit (.bool true)], args := [d1, d2, d3, d4] }
  | _ => none }
def fnExactIsSteadyRow : OpenClaim := { program := "ytggamjjgdahaaac", sum := "87f3d958f2b5beb59951f02cf80b6ee3edfaa4f30b79fa279a88691b82693787", func := "loop.example/g01367/laws.FnExactIsSteady", spec := "fnExactIsSteady", unfollowed := true, recurses := true, apart := false }
def FnExactIsSteadySaid : Prop := fnExactIsSteadyRow.holds Try.pinned (OpenSpec.ofChange fnExactIsSteadySpec)

/-- ITS FALSE NEIGHBOUR: 'it returns false'. Refute it at one input. -/
def fnExactIsSteadyWrong : ChangeSpec := { name := "fnExactIsSteady", fn := fun _ => fun
  | [d1, d2, d3, d4] => { results := [.lit (.bool false)], args := [d1, d2, d3, d4] }
  | _ => none }
def FnExactIsSteadyWrongFalsely : Prop := fnExactIsSteadyRow.holds Try.pinned (OpenSpec.ofChange fnExactIsSteadyWrong)

/-- 'laws.FnExactInsideAt': WHATEVER THE INPUT: true; the input reads as it did. -/
def fnExactInsideAtSpec : ChangeSpec := { name := "fnExactInsideAt", fn := fun _ => fun
  | [d1, d2, d3, d4] => { results := [.lit (.bool true)], args := [d1, d2, d3, d4] }
  | _ => none }
def fnExactInsideAtRow : OpenClaim := { program := "ytggamjjgdahaaac", sum := "87f3d958f2b5beb59951f02cf80b6ee3edfaa4f30b79fa279a88691b82693787", func := "loop.example/g01367/laws.FnExactInsideAt", spec := "fnExactInsideAt", unfollowed := true, recurses := true, apart := false }
def FnExactInsideAtSaid : Prop := fnExactInsideAtRow.holds Try.pinned (OpenSpec.ofChange fnExactInsideAtSpec)

/-- ITS FALSE NEIGHBOUR: 'it returns false'. Refute it at one input. -/
def fnExactInsideAtWrong : ChangeSpec := { name := "fnExactInsideAt", fn := fun _ => fun
  | [d1, d2, d3, d4] => { results := [.lit (.bool false)], args := [d1, d2, d3, d4] }
  | _ => none }
def FnExactInsideAtWrongFalsely : Prop := fnExactInsideAtRow.holds Try.pinned (OpenSpec.ofChange fnExactInsideAtWrong)

/-- 'laws.FnExactTickOnce': WHATEVER THE INPUT: true; the input reads as it did. -/
def fnExactTickOnceSpec : ChangeSpec := { name := "fnExactTickOnce", fn := fun _ => fun
  | [d1, d2, d3, d4] => { results := [.lit (.bool true)], args := [d1, d2, d3, d4] }
  | _ => none }
def fnExactTickOnceRow : OpenClaim := { program := "ytggamjjgdahaaac", sum := "87f3d958f2b5beb59951f02cf80b6ee3edfaa4f30b79fa279a88691b82693787", func := "loop.example/g01367/laws.FnExactTickOnce", spec := "fnExactTickOnce", unfollowed := true, recurses := true, apart := false }
def FnExactTickOnceSaid : Prop := fnExactTickOnceRow.holds Try.pinned (OpenSpec.ofChange fnExactTickOnceSpec)

/-- ITS FALSE NEIGHBOUR: 'it returns false'. Refute it at one input. -/
def fnExactTickOnceWrong : ChangeSpec := { name := "fnExactTickOnce", fn := fun _ => fun
  | [d1, d2, d3, d4] => { results := [.lit (.bool false)], args := [d1, d2, d3, d4] }
  | _ => none }
def FnExactTickOnceWrongFalsely : Prop := fnExactTickOnceRow.holds Try.pinned (OpenSpec.ofChange fnExactTickOnceWrong)

/-- 'laws.FnExactSteadyFrom': WHATEVER THE INPUT: true; the input reads as it did. -/
def fnExactSteadyFromSpec : ChangeSpec := { name := "fnExactSteadyFrom", fn := fun _ => fun
  | [d1, d2, d3, d4] => { results := [.lit (.bool true)], args := [d1, d2, d3, d4] }
  | _ => none }
def fnExactSteadyFromRow : OpenClaim := { program := "ytggamjjgdahaaac", sum := "87f3d958f2b5beb59951f02cf80b6ee3edfaa4f30b79fa279a88691b82693787", func := "loop.example/g01367/laws.FnExactSteadyFrom", spec := "fnExactSteadyFrom", unfollowed := true, recurses := true, apart := false }
def FnExactSteadyFromSaid : Prop := fnExactSteadyFromRow.holds Try.pinned (OpenSpec.ofChange fnExactSteadyFromSpec)

/-- ITS FALSE NEIGHBOUR: 'it returns false'. Refute it at one input. -/
def fnExactSteadyFromWrong : ChangeSpec := { name := "fnExactSteadyFrom", fn := fun _ => fun
  | [d1, d2, d3, d4] => { results := [.lit (.bool false)], args := [d1, d2, d3, d4] }
  | _ => none }
def FnExactSteadyFromWrongFalsely : Prop := fnExactSteadyFromRow.holds Try.pinned (OpenSpec.ofChange fnExactSteadyFromWrong)

/-- 'laws.FnExactChangesIn': WHATEVER THE INPUT: true; the input reads as it did. -/
def fnExactChangesInSpec : ChangeSpec := { name := "fnExactChangesIn", fn := fun _ => fun
  | [d1, d2, d3, d4] => { results := [.lit (.bool true)], args := [d1, d2, d3, d4] }
  | _ => none }
def fnExactChangesInRow : OpenClaim := { program := "ytggamjjgdahaaac", sum := "87f3d958f2b5beb59951f02cf80b6ee3edfaa4f30b79fa279a88691b82693787", func := "loop.example/g01367/laws.FnExactChangesIn", spec := "fnExactChangesIn", unfollowed := true, recurses := true, apart := false }
def FnExactChangesInSaid : Prop := fnExactChangesInRow.holds Try.pinned (OpenSpec.ofChange fnExactChangesInSpec)

/-- ITS FALSE NEIGHBOUR: 'it returns false'. Refute it at one input. -/
def fnExactChangesInWrong : ChangeSpec := { name := "fnExactChangesIn", fn := fun _ => fun
  | [d1, d2, d3, d4] => { results := [.lit (.bool false)], args := [d1, d2, d3, d4] }
  | _ => none }
def FnExactChangesInWrongFalsely : Prop := fnExactChangesInRow.holds Try.pinned (OpenSpec.ofChange fnExactChangesInWrong)

/- THE SECOND FORM. 'bulk': how many values and letters a reading holds, each counted each time it is reached (what is shared counts as often as it is met; a slice's spare places count too). A statement '..UptoSaid' is the law's where the arguments, and the package variables that the reading takes, are together of bulk at most 1048576: NARROWER than '..Said'. Prove '..Said' where nothing that the law and all that it calls make is longer than what came in: it says more and counts as full. Else prove '..UptoSaid'. A law counts once. -/
mutual
def uptoBulk {H : Type} : DataW H → Nat
  | .lit (.string bytes) => bytes.length + 1
  | .lit _ => 1
  | .nil => 1
  | .ptr d => uptoBulk d + 1
  | .slice elems spare => uptoBulkAll elems + uptoBulkAll spare + 1
  | .agg parts => uptoBulkAll parts + 1
  | .iface _ d => uptoBulk d + 1
  | .map entries => uptoBulkEntries entries + 1
  | .held _ => 1
def uptoBulkAll {H : Type} : List (DataW H) → Nat
  | [] => 0
  | d :: r => uptoBulk d + uptoBulkAll r
def uptoBulkEntries {H : Type} : List (Lit × DataW H) → Nat
  | [] => 0
  | x :: r => uptoBulkEntry x + uptoBulkEntries r
def uptoBulkEntry {H : Type} : Lit × DataW H → Nat
  | (.string bytes, d) => bytes.length + uptoBulk d + 1
  | (_, d) => uptoBulk d + 1
 end
def uptoSmall : (H : Type) → List (DataW H) → Bool := fun _ ds => decide (uptoBulkAll ds ≤ 1048576)
def OpenSpec.upto (s : _root_.Go.ChangeSpec) : _root_.Go.OpenSpec := { _root_.Go.OpenSpec.ofChange s with cond := some uptoSmall }

/-- 'laws.FnExactLeastAnger', WHERE WHAT IT READS IS OF BULK AT MOST 1048576: true; the input reads as it did. -/
def fnExactLeastAngerUptoRow : OpenClaim := { program := "ytggamjjgdahaaac", sum := "87f3d958f2b5beb59951f02cf80b6ee3edfaa4f30b79fa279a88691b82693787", func := "loop.example/g01367/laws.FnExactLeastAnger", spec := "fnExactLeastAnger", unfollowed := true, recurses := true, apart := false, narrowed := true }
def FnExactLeastAngerUptoSaid : Prop := fnExactLeastAngerUptoRow.holds Try.pinned (OpenSpec.upto fnExactLeastAngerSpec)

/-- 'laws.FnExactSharedTilt', WHERE WHAT IT READS IS OF BULK AT MOST 1048576: true; the input reads as it did. -/
def fnExactSharedTiltUptoRow : OpenClaim := { program := "ytggamjjgdahaaac", sum := "87f3d958f2b5beb59951f02cf80b6ee3edfaa4f30b79fa279a88691b82693787", func := "loop.example/g01367/laws.FnExactSharedTilt", spec := "fnExactSharedTilt", unfollowed := true, recurses := true, apart := false, narrowed := true }
def FnExactSharedTiltUptoSaid : Prop := fnExactSharedTiltUptoRow.holds Try.pinned (OpenSpec.upto fnExactSharedTiltSpec)

/-- 'laws.FnExactIsSteady', WHERE WHAT IT READS IS OF BULK AT MOST 1048576: true; the input reads as it did. -/
def fnExactIsSteadyUptoRow : OpenClaim := { program := "ytggamjjgdahaaac", sum := "87f3d958f2b5beb59951f02cf80b6ee3edfaa4f30b79fa279a88691b82693787", func := "loop.example/g01367/laws.FnExactIsSteady", spec := "fnExactIsSteady", unfollowed := true, recurses := true, apart := false, narrowed := true }
def FnExactIsSteadyUptoSaid : Prop := fnExactIsSteadyUptoRow.holds Try.pinned (OpenSpec.upto fnExactIsSteadySpec)

/-- 'laws.FnExactInsideAt', WHERE WHAT IT READS IS OF BULK AT MOST 1048576: true; the input reads as it did. -/
def fnExactInsideAtUptoRow : OpenClaim := { program := "ytggamjjgdahaaac", sum := "87f3d958f2b5beb59951f02cf80b6ee3edfaa4f30b79fa279a88691b82693787", func := "loop.example/g01367/laws.FnExactInsideAt", spec := "fnExactInsideAt", unfollowed := true, recurses := true, apart := false, narrowed := true }
def FnExactInsideAtUptoSaid : Prop := fnExactInsideAtUptoRow.holds Try.pinned (OpenSpec.upto fnExactInsideAtSpec)

/-- 'laws.FnExactTickOnce', WHERE WHAT IT READS IS OF BULK AT MOST 1048576: true; the input reads as it did. -/
def fnExactTickOnceUptoRow : OpenClaim := { program := "ytggamjjgdahaaac", sum := "87f3d958f2b5beb59951f02cf80b6ee3edfaa4f30b79fa279a88691b82693787", func := "loop.example/g01367/laws.FnExactTickOnce", spec := "fnExactTickOnce", unfollowed := true, recurses := true, apart := false, narrowed := true }
def FnExactTickOnceUptoSaid : Prop := fnExactTickOnceUptoRow.holds Try.pinned (OpenSpec.upto fnExactTickOnceSpec)

/-- 'laws.FnExactSteadyFrom', WHERE WHAT IT READS IS OF BULK AT MOST 1048576: true; the input reads as it did. -/
def fnExactSteadyFromUptoRow : OpenClaim := { program := "ytggamjjgdahaaac", sum := "87f3d958f2b5beb59951f02cf80b6ee3edfaa4f30b79fa279a88691b82693787", func := "loop.example/g01367/laws.FnExactSteadyFrom", spec := "fnExactSteadyFrom", unfollowed := true, recurses := true, apart := false, narrowed := true }
def FnExactSteadyFromUptoSaid : Prop := fnExactSteadyFromUptoRow.holds Try.pinned (OpenSpec.upto fnExactSteadyFromSpec)

/-- 'laws.FnExactChangesIn', WHERE WHAT IT READS IS OF BULK AT MOST 1048576: true; the input reads as it did. -/
def fnExactChangesInUptoRow : OpenClaim := { program := "ytggamjjgdahaaac", sum := "87f3d958f2b5beb59951f02cf80b6ee3edfaa4f30b79fa279a88691b82693787", func := "loop.example/g01367/laws.FnExactChangesIn", spec := "fnExactChangesIn", unfollowed := true, recurses := true, apart := false, narrowed := true }
def FnExactChangesInUptoSaid : Prop := fnExactChangesInUptoRow.holds Try.pinned (OpenSpec.upto fnExactChangesInSpec)

end Rows
end Go.Proofs.Ytggamjjgdahaaac
