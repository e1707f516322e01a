/-
  No cell of these rows narrows 'for every input' (looked for: loops, veiled, ifaces, maps, wideKeys, modest, calm, conditions, laid).
  DERIVED. THE GIVEN ROWS OF THIS SEAT. 12 by the template 'for every input the law returns true; each argument reads behind the call as it read before'; 0 by the template 'total and deterministic' (their statements: YtlogdpcmahbdjaaTotals.lean).
  GIVEN WITH THE SEED: the statements are not yours to turn. If you find one false, say at which input.
  Laid BY PROGRAM, IN A SANDBOX (cutbox-rows.mjs): the forced cells as the released guide's own fill.sh prints them over the translation b1a65fc0955322f9… (all of the seat's roots in one cut). By AI agents, Wed Nov 11 2026. No macro, syntax, notation, axiom, sorry.
-/
import Derived.Test.YtlogdpcmahbdjaaChecked
import GoSem.Claim
import GoSem.ClaimJoined
import GoSem.ClaimMapViews
import Derived.JoinedTies
import Derived.KernelRfl
namespace Go.Proofs.Ytlogdpcmahbdjaa
/- THE CELL 'sum', in the pinned program and in every row, IS THE sha256 OF THE DUMP (.gsa) THAT YtlogdpcmahbdjaaProg.lean LOADS. Nothing in Lean hashes anything: it is a label: what it is worth is what the hold of that sum in a sandbox is worth. -/
noncomputable def Try.pinned : Pinned := { name := "ytlogdpcmahbdjaa", sum := "b1a65fc0955322f9b1ee91b52676351f15c12dd6b664f172d91b5409e3db6938", checked := Try.checked }
namespace Rows
def none {H : Type} : Left H := { results := [], args := [] }

/-- 'laws.FnExactValidAwning': WHATEVER THE INPUT: true; the input reads as it did. -/
def fnExactValidAwningSpec : ChangeSpec := { name := "fnExactValidAwning", fn := fun _ => fun
  | [d] => { results := [.lit (.bool true)], args := [d] }
  | _ => none }
def fnExactValidAwningRow : OpenClaim := { program := "ytlogdpcmahbdjaa", sum := "b1a65fc0955322f9b1ee91b52676351f15c12dd6b664f172d91b5409e3db6938", func := "loop.example/g01367/laws.FnExactValidAwning", spec := "fnExactValidAwning", apart := false }
def FnExactValidAwningSaid : Prop := fnExactValidAwningRow.holds Try.pinned (OpenSpec.ofChange fnExactValidAwningSpec)

/-- ITS FALSE NEIGHBOUR: 'it returns false'. Refute it at one input. -/
def fnExactValidAwningWrong : ChangeSpec := { name := "fnExactValidAwning", fn := fun _ => fun
  | [d] => { results := [.lit (.bool false)], args := [d] }
  | _ => none }
def FnExactValidAwningWrongFalsely : Prop := fnExactValidAwningRow.holds Try.pinned (OpenSpec.ofChange fnExactValidAwningWrong)

/-- 'laws.FnExactValidState': WHATEVER THE INPUT: true; the input reads as it did. -/
def fnExactValidStateSpec : ChangeSpec := { name := "fnExactValidState", fn := fun _ => fun
  | [d] => { results := [.lit (.bool true)], args := [d] }
  | _ => none }
def fnExactValidStateRow : OpenClaim := { program := "ytlogdpcmahbdjaa", sum := "b1a65fc0955322f9b1ee91b52676351f15c12dd6b664f172d91b5409e3db6938", func := "loop.example/g01367/laws.FnExactValidState", spec := "fnExactValidState", apart := false }
def FnExactValidStateSaid : Prop := fnExactValidStateRow.holds Try.pinned (OpenSpec.ofChange fnExactValidStateSpec)

/-- ITS FALSE NEIGHBOUR: 'it returns false'. Refute it at one input. -/
def fnExactValidStateWrong : ChangeSpec := { name := "fnExactValidState", fn := fun _ => fun
  | [d] => { results := [.lit (.bool false)], args := [d] }
  | _ => none }
def FnExactValidStateWrongFalsely : Prop := fnExactValidStateRow.holds Try.pinned (OpenSpec.ofChange fnExactValidStateWrong)

/-- 'laws.FnExactValidKeeper': WHATEVER THE INPUT: true; the input reads as it did. -/
def fnExactValidKeeperSpec : ChangeSpec := { name := "fnExactValidKeeper", fn := fun _ => fun
  | [d] => { results := [.lit (.bool true)], args := [d] }
  | _ => none }
def fnExactValidKeeperRow : OpenClaim := { program := "ytlogdpcmahbdjaa", sum := "b1a65fc0955322f9b1ee91b52676351f15c12dd6b664f172d91b5409e3db6938", func := "loop.example/g01367/laws.FnExactValidKeeper", spec := "fnExactValidKeeper", apart := false }
def FnExactValidKeeperSaid : Prop := fnExactValidKeeperRow.holds Try.pinned (OpenSpec.ofChange fnExactValidKeeperSpec)

/-- ITS FALSE NEIGHBOUR: 'it returns false'. Refute it at one input. -/
def fnExactValidKeeperWrong : ChangeSpec := { name := "fnExactValidKeeper", fn := fun _ => fun
  | [d] => { results := [.lit (.bool false)], args := [d] }
  | _ => none }
def FnExactValidKeeperWrongFalsely : Prop := fnExactValidKeeperRow.holds Try.pinned (OpenSpec.ofChange fnExactValidKeeperWrong)

/-- 'laws.FnExactValidTick': WHATEVER THE INPUT: true; the input reads as it did. -/
def fnExactValidTickSpec : ChangeSpec := { name := "fnExactValidTick", fn := fun _ => fun
  | [d] => { results := [.lit (.bool true)], args := [d] }
  | _ => none }
def fnExactValidTickRow : OpenClaim := { program := "ytlogdpcmahbdjaa", sum := "b1a65fc0955322f9b1ee91b52676351f15c12dd6b664f172d91b5409e3db6938", func := "loop.example/g01367/laws.FnExactValidTick", spec := "fnExactValidTick", apart := false }
def FnExactValidTickSaid : Prop := fnExactValidTickRow.holds Try.pinned (OpenSpec.ofChange fnExactValidTickSpec)

/-- ITS FALSE NEIGHBOUR: 'it returns false'. Refute it at one input. -/
def fnExactValidTickWrong : ChangeSpec := { name := "fnExactValidTick", fn := fun _ => fun
  | [d] => { results := [.lit (.bool false)], args := [d] }
  | _ => none }
def FnExactValidTickWrongFalsely : Prop := fnExactValidTickRow.holds Try.pinned (OpenSpec.ofChange fnExactValidTickWrong)

/-- 'laws.FnExactSameAwning': WHATEVER THE INPUT: true; the input reads as it did. -/
def fnExactSameAwningSpec : ChangeSpec := { name := "fnExactSameAwning", fn := fun _ => fun
  | [d1, d2] => { results := [.lit (.bool true)], args := [d1, d2] }
  | _ => none }
def fnExactSameAwningRow : OpenClaim := { program := "ytlogdpcmahbdjaa", sum := "b1a65fc0955322f9b1ee91b52676351f15c12dd6b664f172d91b5409e3db6938", func := "loop.example/g01367/laws.FnExactSameAwning", spec := "fnExactSameAwning", inPlace := ["math.Float32bits"], apart := false }
def FnExactSameAwningSaid : Prop := fnExactSameAwningRow.holds Try.pinned (OpenSpec.ofChange fnExactSameAwningSpec)

/-- ITS FALSE NEIGHBOUR: 'it returns false'. Refute it at one input. -/
def fnExactSameAwningWrong : ChangeSpec := { name := "fnExactSameAwning", fn := fun _ => fun
  | [d1, d2] => { results := [.lit (.bool false)], args := [d1, d2] }
  | _ => none }
def FnExactSameAwningWrongFalsely : Prop := fnExactSameAwningRow.holds Try.pinned (OpenSpec.ofChange fnExactSameAwningWrong)

/-- 'laws.FnExactValidControl': WHATEVER THE INPUT: true; the input reads as it did. -/
def fnExactValidControlSpec : ChangeSpec := { name := "fnExactValidControl", fn := fun _ => fun
  | [d] => { results := [.lit (.bool true)], args := [d] }
  | _ => none }
def fnExactValidControlRow : OpenClaim := { program := "ytlogdpcmahbdjaa", sum := "b1a65fc0955322f9b1ee91b52676351f15c12dd6b664f172d91b5409e3db6938", func := "loop.example/g01367/laws.FnExactValidControl", spec := "fnExactValidControl", apart := false }
def FnExactValidControlSaid : Prop := fnExactValidControlRow.holds Try.pinned (OpenSpec.ofChange fnExactValidControlSpec)

/-- ITS FALSE NEIGHBOUR: 'it returns false'. Refute it at one input. -/
def fnExactValidControlWrong : ChangeSpec := { name := "fnExactValidControl", fn := fun _ => fun
  | [d] => { results := [.lit (.bool false)], args := [d] }
  | _ => none }
def FnExactValidControlWrongFalsely : Prop := fnExactValidControlRow.holds Try.pinned (OpenSpec.ofChange fnExactValidControlWrong)

/-- 'laws.FnExactSameControl': WHATEVER THE INPUT: true; the input reads as it did. -/
def fnExactSameControlSpec : ChangeSpec := { name := "fnExactSameControl", fn := fun _ => fun
  | [d1, d2] => { results := [.lit (.bool true)], args := [d1, d2] }
  | _ => none }
def fnExactSameControlRow : OpenClaim := { program := "ytlogdpcmahbdjaa", sum := "b1a65fc0955322f9b1ee91b52676351f15c12dd6b664f172d91b5409e3db6938", func := "loop.example/g01367/laws.FnExactSameControl", spec := "fnExactSameControl", inPlace := ["math.Float32bits"], apart := false }
def FnExactSameControlSaid : Prop := fnExactSameControlRow.holds Try.pinned (OpenSpec.ofChange fnExactSameControlSpec)

/-- ITS FALSE NEIGHBOUR: 'it returns false'. Refute it at one input. -/
def fnExactSameControlWrong : ChangeSpec := { name := "fnExactSameControl", fn := fun _ => fun
  | [d1, d2] => { results := [.lit (.bool false)], args := [d1, d2] }
  | _ => none }
def FnExactSameControlWrongFalsely : Prop := fnExactSameControlRow.holds Try.pinned (OpenSpec.ofChange fnExactSameControlWrong)

/-- 'laws.FnExactLongestFor': WHATEVER THE INPUT: true; the input reads as it did. -/
def fnExactLongestForSpec : ChangeSpec := { name := "fnExactLongestFor", fn := fun _ => fun
  | [d1, d2] => { results := [.lit (.bool true)], args := [d1, d2] }
  | _ => none }
def fnExactLongestForRow : OpenClaim := { program := "ytlogdpcmahbdjaa", sum := "b1a65fc0955322f9b1ee91b52676351f15c12dd6b664f172d91b5409e3db6938", func := "loop.example/g01367/laws.FnExactLongestFor", spec := "fnExactLongestFor", apart := false }
def FnExactLongestForSaid : Prop := fnExactLongestForRow.holds Try.pinned (OpenSpec.ofChange fnExactLongestForSpec)

/-- ITS FALSE NEIGHBOUR: 'it returns false'. Refute it at one input. -/
def fnExactLongestForWrong : ChangeSpec := { name := "fnExactLongestFor", fn := fun _ => fun
  | [d1, d2] => { results := [.lit (.bool false)], args := [d1, d2] }
  | _ => none }
def FnExactLongestForWrongFalsely : Prop := fnExactLongestForRow.holds Try.pinned (OpenSpec.ofChange fnExactLongestForWrong)

/-- 'laws.FnExactStrainOf': WHATEVER THE INPUT: true; the input reads as it did. -/
def fnExactStrainOfSpec : ChangeSpec := { name := "fnExactStrainOf", fn := fun _ => fun
  | [d1, d2] => { results := [.lit (.bool true)], args := [d1, d2] }
  | _ => none }
def fnExactStrainOfRow : OpenClaim := { program := "ytlogdpcmahbdjaa", sum := "b1a65fc0955322f9b1ee91b52676351f15c12dd6b664f172d91b5409e3db6938", func := "loop.example/g01367/laws.FnExactStrainOf", spec := "fnExactStrainOf", apart := false }
def FnExactStrainOfSaid : Prop := fnExactStrainOfRow.holds Try.pinned (OpenSpec.ofChange fnExactStrainOfSpec)

/-- ITS FALSE NEIGHBOUR: 'it returns false'. Refute it at one input. -/
def fnExactStrainOfWrong : ChangeSpec := { name := "fnExactStrainOf", fn := fun _ => fun
  | [d1, d2] => { results := [.lit (.bool false)], args := [d1, d2] }
  | _ => none }
def FnExactStrainOfWrongFalsely : Prop := fnExactStrainOfRow.holds Try.pinned (OpenSpec.ofChange fnExactStrainOfWrong)

/-- 'laws.FnExactValidTrees': WHATEVER THE INPUT: true; the input reads as it did. -/
def fnExactValidTreesSpec : ChangeSpec := { name := "fnExactValidTrees", fn := fun _ => fun
  | [d] => { results := [.lit (.bool true)], args := [d] }
  | _ => none }
def fnExactValidTreesRow : OpenClaim := { program := "ytlogdpcmahbdjaa", sum := "b1a65fc0955322f9b1ee91b52676351f15c12dd6b664f172d91b5409e3db6938", func := "loop.example/g01367/laws.FnExactValidTrees", spec := "fnExactValidTrees", apart := false }
def FnExactValidTreesSaid : Prop := fnExactValidTreesRow.holds Try.pinned (OpenSpec.ofChange fnExactValidTreesSpec)

/-- ITS FALSE NEIGHBOUR: 'it returns false'. Refute it at one input. -/
def fnExactValidTreesWrong : ChangeSpec := { name := "fnExactValidTrees", fn := fun _ => fun
  | [d] => { results := [.lit (.bool false)], args := [d] }
  | _ => none }
def FnExactValidTreesWrongFalsely : Prop := fnExactValidTreesRow.holds Try.pinned (OpenSpec.ofChange fnExactValidTreesWrong)

/-- 'laws.FnExactMeanVote': WHATEVER THE INPUT: true; the input reads as it did. -/
def fnExactMeanVoteSpec : ChangeSpec := { name := "fnExactMeanVote", fn := fun _ => fun
  | [d] => { results := [.lit (.bool true)], args := [d] }
  | _ => none }
def fnExactMeanVoteRow : OpenClaim := { program := "ytlogdpcmahbdjaa", sum := "b1a65fc0955322f9b1ee91b52676351f15c12dd6b664f172d91b5409e3db6938", func := "loop.example/g01367/laws.FnExactMeanVote", spec := "fnExactMeanVote", unfollowed := true, recurses := true, apart := false }
def FnExactMeanVoteSaid : Prop := fnExactMeanVoteRow.holds Try.pinned (OpenSpec.ofChange fnExactMeanVoteSpec)

/-- ITS FALSE NEIGHBOUR: 'it returns false'. Refute it at one input. -/
def fnExactMeanVoteWrong : ChangeSpec := { name := "fnExactMeanVote", fn := fun _ => fun
  | [d] => { results := [.lit (.bool false)], args := [d] }
  | _ => none }
def FnExactMeanVoteWrongFalsely : Prop := fnExactMeanVoteRow.holds Try.pinned (OpenSpec.ofChange fnExactMeanVoteWrong)

/-- 'laws.FnExactOutHours': WHATEVER THE INPUT: true; the input reads as it did. -/
def fnExactOutHoursSpec : ChangeSpec := { name := "fnExactOutHours", fn := fun _ => fun
  | [d1, d2] => { results := [.lit (.bool true)], args := [d1, d2] }
  | _ => none }
def fnExactOutHoursRow : OpenClaim := { program := "ytlogdpcmahbdjaa", sum := "b1a65fc0955322f9b1ee91b52676351f15c12dd6b664f172d91b5409e3db6938", func := "loop.example/g01367/laws.FnExactOutHours", spec := "fnExactOutHours", apart := false }
def FnExactOutHoursSaid : Prop := fnExactOutHoursRow.holds Try.pinned (OpenSpec.ofChange fnExactOutHoursSpec)

/-- ITS FALSE NEIGHBOUR: 'it returns false'. Refute it at one input. -/
def fnExactOutHoursWrong : ChangeSpec := { name := "fnExactOutHours", fn := fun _ => fun
  | [d1, d2] => { results := [.lit (.bool false)], args := [d1, d2] }
  | _ => none }
def FnExactOutHoursWrongFalsely : Prop := fnExactOutHoursRow.holds Try.pinned (OpenSpec.ofChange fnExactOutHoursWrong)

/- THE SECOND FORM. 'bulk': how many values and letters a reading holds, each counted each time it is reached (what is shared counts as often as it is met; a slice's spare places count too). A statement '..UptoSaid' is the law's where the arguments, and the package variables that the reading takes, are together of bulk at most 1048576: NARROWER than '..Said'. Prove '..Said' where nothing that the law and all that it calls make is longer than what came in: it says more and counts as full. Else prove '..UptoSaid'. A law counts once. -/
mutual
def uptoBulk {H : Type} : DataW H → Nat
  | .lit (.string bytes) => bytes.length + 1
  | .lit _ => 1
  | .nil => 1
  | .ptr d => uptoBulk d + 1
  | .slice elems spare => uptoBulkAll elems + uptoBulkAll spare + 1
  | .agg parts => uptoBulkAll parts + 1
  | .iface _ d => uptoBulk d + 1
  | .map entries => uptoBulkEntries entries + 1
  | .held _ => 1
def uptoBulkAll {H : Type} : List (DataW H) → Nat
  | [] => 0
  | d :: r => uptoBulk d + uptoBulkAll r
def uptoBulkEntries {H : Type} : List (Lit × DataW H) → Nat
  | [] => 0
  | x :: r => uptoBulkEntry x + uptoBulkEntries r
def uptoBulkEntry {H : Type} : Lit × DataW H → Nat
  | (.string bytes, d) => bytes.length + uptoBulk d + 1
  | (_, d) => uptoBulk d + 1
 end
def uptoSmall : (H : Type) → List (DataW H) → Bool := fun _ ds => decide (uptoBulkAll ds ≤ 1048576)
def OpenSpec.upto (s : _root_.Go.ChangeSpec) : _root_.Go.OpenSpec := { _root_.Go.OpenSpec.ofChange s with cond := some uptoSmall }

/-- 'laws.FnExactValidAwning', WHERE WHAT IT READS IS OF BULK AT MOST 1048576: true; the input reads as it did. -/
def fnExactValidAwningUptoRow : OpenClaim := { program := "ytlogdpcmahbdjaa", sum := "b1a65fc0955322f9b1ee91b52676351f15c12dd6b664f172d91b5409e3db6938", func := "loop.example/g01367/laws.FnExactValidAwning", spec := "fnExactValidAwning", apart := false, narrowed := true }
def FnExactValidAwningUptoSaid : Prop := fnExactValidAwningUptoRow.holds Try.pinned (OpenSpec.upto fnExactValidAwningSpec)

/-- 'laws.FnExactValidState', WHERE WHAT IT READS IS OF BULK AT MOST 1048576: true; the input reads as it did. -/
def fnExactValidStateUptoRow : OpenClaim := { program := "ytlogdpcmahbdjaa", sum := "b1a65fc0955322f9b1ee91b52676351f15c12dd6b664f172d91b5409e3db6938", func := "loop.example/g01367/laws.FnExactValidState", spec := "fnExactValidState", apart := false, narrowed := true }
def FnExactValidStateUptoSaid : Prop := fnExactValidStateUptoRow.holds Try.pinned (OpenSpec.upto fnExactValidStateSpec)

/-- 'laws.FnExactValidKeeper', WHERE WHAT IT READS IS OF BULK AT MOST 1048576: true; the input reads as it did. -/
def fnExactValidKeeperUptoRow : OpenClaim := { program := "ytlogdpcmahbdjaa", sum := "b1a65fc0955322f9b1ee91b52676351f15c12dd6b664f172d91b5409e3db6938", func := "loop.example/g01367/laws.FnExactValidKeeper", spec := "fnExactValidKeeper", apart := false, narrowed := true }
def FnExactValidKeeperUptoSaid : Prop := fnExactValidKeeperUptoRow.holds Try.pinned (OpenSpec.upto fnExactValidKeeperSpec)

/-- 'laws.FnExactValidTick', WHERE WHAT IT READS IS OF BULK AT MOST 1048576: true; the input reads as it did. -/
def fnExactValidTickUptoRow : OpenClaim := { program := "ytlogdpcmahbdjaa", sum := "b1a65fc0955322f9b1ee91b52676351f15c12dd6b664f172d91b5409e3db6938", func := "loop.example/g01367/laws.FnExactValidTick", spec := "fnExactValidTick", apart := false, narrowed := true }
def FnExactValidTickUptoSaid : Prop := fnExactValidTickUptoRow.holds Try.pinned (OpenSpec.upto fnExactValidTickSpec)

/-- 'laws.FnExactSameAwning', WHERE WHAT IT READS IS OF BULK AT MOST 1048576: true; the input reads as it did. -/
def fnExactSameAwningUptoRow : OpenClaim := { program := "ytlogdpcmahbdjaa", sum := "b1a65fc0955322f9b1ee91b52676351f15c12dd6b664f172d91b5409e3db6938", func := "loop.example/g01367/laws.FnExactSameAwning", spec := "fnExactSameAwning", inPlace := ["math.Float32bits"], apart := false, narrowed := true }
def FnExactSameAwningUptoSaid : Prop := fnExactSameAwningUptoRow.holds Try.pinned (OpenSpec.upto fnExactSameAwningSpec)

/-- 'laws.FnExactValidControl', WHERE WHAT IT READS IS OF BULK AT MOST 1048576: true; the input reads as it did. -/
def fnExactValidControlUptoRow : OpenClaim := { program := "ytlogdpcmahbdjaa", sum := "b1a65fc0955322f9b1ee91b52676351f15c12dd6b664f172d91b5409e3db6938", func := "loop.example/g01367/laws.FnExactValidControl", spec := "fnExactValidControl", apart := false, narrowed := true }
def FnExactValidControlUptoSaid : Prop := fnExactValidControlUptoRow.holds Try.pinned (OpenSpec.upto fnExactValidControlSpec)

/-- 'laws.FnExactSameControl', WHERE WHAT IT READS IS OF BULK AT MOST 1048576: true; the input reads as it did. -/
def fnExactSameControlUptoRow : OpenClaim := { program := "ytlogdpcmahbdjaa", sum := "b1a65fc0955322f9b1ee91b52676351f15c12dd6b664f172d91b5409e3db6938", func := "loop.example/g01367/laws.FnExactSameControl", spec := "fnExactSameControl", inPlace := ["math.Float32bits"], apart := false, narrowed := true }
def FnExactSameControlUptoSaid : Prop := fnExactSameControlUptoRow.holds Try.pinned (OpenSpec.upto fnExactSameControlSpec)

/-- 'laws.FnExactLongestFor', WHERE WHAT IT READS IS OF BULK AT MOST 1048576: true; the input reads as it did. -/
def fnExactLongestForUptoRow : OpenClaim := { program := "ytlogdpcmahbdjaa", sum := "b1a65fc0955322f9b1ee91b52676351f15c12dd6b664f172d91b5409e3db6938", func := "loop.example/g01367/laws.FnExactLongestFor", spec := "fnExactLongestFor", apart := false, narrowed := true }
def FnExactLongestForUptoSaid : Prop := fnExactLongestForUptoRow.holds Try.pinned (OpenSpec.upto fnExactLongestForSpec)

/-- 'laws.FnExactStrainOf', WHERE WHAT IT READS IS OF BULK AT MOST 1048576: true; the input reads as it did. -/
def fnExactStrainOfUptoRow : OpenClaim := { program := "ytlogdpcmahbdjaa", sum := "b1a65fc0955322f9b1ee91b52676351f15c12dd6b664f172d91b5409e3db6938", func := "loop.example/g01367/laws.FnExactStrainOf", spec := "fnExactStrainOf", apart := false, narrowed := true }
def FnExactStrainOfUptoSaid : Prop := fnExactStrainOfUptoRow.holds Try.pinned (OpenSpec.upto fnExactStrainOfSpec)

/-- 'laws.FnExactValidTrees', WHERE WHAT IT READS IS OF BULK AT MOST 1048576: true; the input reads as it did. -/
def fnExactValidTreesUptoRow : OpenClaim := { program := "ytlogdpcmahbdjaa", sum := "b1a65fc0955322f9b1ee91b52676351f15c12dd6b664f172d91b5409e3db6938", func := "loop.example/g01367/laws.FnExactValidTrees", spec := "fnExactValidTrees", apart := false, narrowed := true }
def FnExactValidTreesUptoSaid : Prop := fnExactValidTreesUptoRow.holds Try.pinned (OpenSpec.upto fnExactValidTreesSpec)

/-- 'laws.FnExactMeanVote', WHERE WHAT IT READS IS OF BULK AT MOST 1048576: true; the input reads as it did. -/
def fnExactMeanVoteUptoRow : OpenClaim := { program := "ytlogdpcmahbdjaa", sum := "b1a65fc0955322f9b1ee91b52676351f15c12dd6b664f172d91b5409e3db6938", func := "loop.example/g01367/laws.FnExactMeanVote", spec := "fnExactMeanVote", unfollowed := true, recurses := true, apart := false, narrowed := true }
def FnExactMeanVoteUptoSaid : Prop := fnExactMeanVoteUptoRow.holds Try.pinned (OpenSpec.upto fnExactMeanVoteSpec)

/-- 'laws.FnExactOutHours', WHERE WHAT IT READS IS OF BULK AT MOST 1048576: true; the input reads as it did. -/
def fnExactOutHoursUptoRow : OpenClaim := { program := "ytlogdpcmahbdjaa", sum := "b1a65fc0955322f9b1ee91b52676351f15c12dd6b664f172d91b5409e3db6938", func := "loop.example/g01367/laws.FnExactOutHours", spec := "fnExactOutHours", apart := false, narrowed := true }
def FnExactOutHoursUptoSaid : Prop := fnExactOutHoursUptoRow.holds Try.pinned (OpenSpec.upto fnExactOutHoursSpec)

end Rows
end Go.Proofs.Ytlogdpcmahbdjaa
