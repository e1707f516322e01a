/-
  No cell of these rows narrows 'for every input' (looked for: loops, veiled, ifaces, maps, wideKeys, modest, calm, conditions, laid).
  DERIVED. THE GIVEN ROWS OF THIS SEAT. 6 by the template 'for every input the law returns true; each argument reads behind the call as it read before'; 0 by the template 'total and deterministic' (their statements: YtgdidmcbonkhfaaTotals.lean).
  GIVEN WITH THE SEED: the statements are not yours to turn. If you find one false, say at which input.
  Laid BY PROGRAM, IN A SANDBOX (cutbox-rows.mjs): the forced cells as the released guide's own fill.sh prints them over the translation e70752f986470fab… (all of the seat's roots in one cut). By AI agents, Wed Nov 11 2026. No macro, syntax, notation, axiom, sorry.
-/
import Derived.Test.YtgdidmcbonkhfaaChecked
import GoSem.Claim
import GoSem.ClaimJoined
import GoSem.ClaimMapViews
import Derived.JoinedTies
import Derived.KernelRfl
namespace Go.Proofs.Ytgdidmcbonkhfaa
/- THE CELL 'sum', in the pinned program and in every row, IS THE sha256 OF THE DUMP (.gsa) THAT YtgdidmcbonkhfaaProg.lean LOADS. Nothing in Lean hashes anything: it is a label: what it is worth is what the hold of that sum in a sandbox is worth. -/
noncomputable def Try.pinned : Pinned := { name := "ytgdidmcbonkhfaa", sum := "e70752f986470fab7341e3392bd278d8f1296e10d4d638496fec9e3b29f1391e", checked := Try.checked }
namespace Rows
def none {H : Type} : Left H := { results := [], args := [] }

/-- 'laws.FnExactHiddenAt': WHATEVER THE INPUT: true; the input reads as it did. -/
def fnExactHiddenAtSpec : ChangeSpec := { name := "fnExactHiddenAt", fn := fun _ => fun
  | [d1, d2, d3] => { results := [.lit (.bool true)], args := [d1, d2, d3] }
  | _ => none }
def fnExactHiddenAtRow : OpenClaim := { program := "ytgdidmcbonkhfaa", sum := "e70752f986470fab7341e3392bd278d8f1296e10d4d638496fec9e3b29f1391e", func := "loop.example/g01367/laws.FnExactHiddenAt", spec := "fnExactHiddenAt", apart := false }
def FnExactHiddenAtSaid : Prop := fnExactHiddenAtRow.holds Try.pinned (OpenSpec.ofChange fnExactHiddenAtSpec)

/-- ITS FALSE NEIGHBOUR: 'it returns false'. Refute it at one input. -/
def fnExactHiddenAtWrong : ChangeSpec := { name := "fnExactHiddenAt", fn := fun _ => fun
  | [d1, d2, d3] => { results := [.lit (.bool false)], args := [d1, d2, d3] }
  | _ => none }
def FnExactHiddenAtWrongFalsely : Prop := fnExactHiddenAtRow.holds Try.pinned (OpenSpec.ofChange fnExactHiddenAtWrong)

/-- 'laws.FnExactHiddenHours': WHATEVER THE INPUT: true; the input reads as it did. -/
def fnExactHiddenHoursSpec : ChangeSpec := { name := "fnExactHiddenHours", fn := fun _ => fun
  | [d1, d2] => { results := [.lit (.bool true)], args := [d1, d2] }
  | _ => none }
def fnExactHiddenHoursRow : OpenClaim := { program := "ytgdidmcbonkhfaa", sum := "e70752f986470fab7341e3392bd278d8f1296e10d4d638496fec9e3b29f1391e", func := "loop.example/g01367/laws.FnExactHiddenHours", spec := "fnExactHiddenHours", apart := false }
def FnExactHiddenHoursSaid : Prop := fnExactHiddenHoursRow.holds Try.pinned (OpenSpec.ofChange fnExactHiddenHoursSpec)

/-- ITS FALSE NEIGHBOUR: 'it returns false'. Refute it at one input. -/
def fnExactHiddenHoursWrong : ChangeSpec := { name := "fnExactHiddenHours", fn := fun _ => fun
  | [d1, d2] => { results := [.lit (.bool false)], args := [d1, d2] }
  | _ => none }
def FnExactHiddenHoursWrongFalsely : Prop := fnExactHiddenHoursRow.holds Try.pinned (OpenSpec.ofChange fnExactHiddenHoursWrong)

/-- 'laws.FnExactBareSun': WHATEVER THE INPUT: true; the input reads as it did. -/
def fnExactBareSunSpec : ChangeSpec := { name := "fnExactBareSun", fn := fun _ => fun
  | [d1, d2] => { results := [.lit (.bool true)], args := [d1, d2] }
  | _ => none }
def fnExactBareSunRow : OpenClaim := { program := "ytgdidmcbonkhfaa", sum := "e70752f986470fab7341e3392bd278d8f1296e10d4d638496fec9e3b29f1391e", func := "loop.example/g01367/laws.FnExactBareSun", spec := "fnExactBareSun", apart := false }
def FnExactBareSunSaid : Prop := fnExactBareSunRow.holds Try.pinned (OpenSpec.ofChange fnExactBareSunSpec)

/-- ITS FALSE NEIGHBOUR: 'it returns false'. Refute it at one input. -/
def fnExactBareSunWrong : ChangeSpec := { name := "fnExactBareSun", fn := fun _ => fun
  | [d1, d2] => { results := [.lit (.bool false)], args := [d1, d2] }
  | _ => none }
def FnExactBareSunWrongFalsely : Prop := fnExactBareSunRow.holds Try.pinned (OpenSpec.ofChange fnExactBareSunWrong)

/-- 'laws.FnExactOutHours': WHATEVER THE INPUT: true; the input reads as it did. -/
def fnExactOutHoursSpec : ChangeSpec := { name := "fnExactOutHours", fn := fun _ => fun
  | [d1, d2] => { results := [.lit (.bool true)], args := [d1, d2] }
  | _ => none }
def fnExactOutHoursRow : OpenClaim := { program := "ytgdidmcbonkhfaa", sum := "e70752f986470fab7341e3392bd278d8f1296e10d4d638496fec9e3b29f1391e", func := "loop.example/g01367/laws.FnExactOutHours", spec := "fnExactOutHours", apart := false }
def FnExactOutHoursSaid : Prop := fnExactOutHoursRow.holds Try.pinned (OpenSpec.ofChange fnExactOutHoursSpec)

/-- ITS FALSE NEIGHBOUR: 'it returns false'. Refute it at one input. -/
def fnExactOutHoursWrong : ChangeSpec := { name := "fnExactOutHours", fn := fun _ => fun
  | [d1, d2] => { results := [.lit (.bool false)], args := [d1, d2] }
  | _ => none }
def FnExactOutHoursWrongFalsely : Prop := fnExactOutHoursRow.holds Try.pinned (OpenSpec.ofChange fnExactOutHoursWrong)

/-- 'laws.FnExactMeanVote': WHATEVER THE INPUT: true; the input reads as it did. -/
def fnExactMeanVoteSpec : ChangeSpec := { name := "fnExactMeanVote", fn := fun _ => fun
  | [d] => { results := [.lit (.bool true)], args := [d] }
  | _ => none }
def fnExactMeanVoteRow : OpenClaim := { program := "ytgdidmcbonkhfaa", sum := "e70752f986470fab7341e3392bd278d8f1296e10d4d638496fec9e3b29f1391e", func := "loop.example/g01367/laws.FnExactMeanVote", spec := "fnExactMeanVote", unfollowed := true, recurses := true, apart := false }
def FnExactMeanVoteSaid : Prop := fnExactMeanVoteRow.holds Try.pinned (OpenSpec.ofChange fnExactMeanVoteSpec)

/-- ITS FALSE NEIGHBOUR: 'it returns false'. Refute it at one input. -/
def fnExactMeanVoteWrong : ChangeSpec := { name := "fnExactMeanVote", fn := fun _ => fun
  | [d] => { results := [.lit (.bool false)], args := [d] }
  | _ => none }
def FnExactMeanVoteWrongFalsely : Prop := fnExactMeanVoteRow.holds Try.pinned (OpenSpec.ofChange fnExactMeanVoteWrong)

/-- 'laws.FnExactMedianVote': WHATEVER THE INPUT: true; the input reads as it did. -/
def fnExactMedianVoteSpec : ChangeSpec := { name := "fnExactMedianVote", fn := fun _ => fun
  | [d] => { results := [.lit (.bool true)], args := [d] }
  | _ => none }
def fnExactMedianVoteRow : OpenClaim := { program := "ytgdidmcbonkhfaa", sum := "e70752f986470fab7341e3392bd278d8f1296e10d4d638496fec9e3b29f1391e", func := "loop.example/g01367/laws.FnExactMedianVote", spec := "fnExactMedianVote", unfollowed := true, recurses := true, apart := false }
def FnExactMedianVoteSaid : Prop := fnExactMedianVoteRow.holds Try.pinned (OpenSpec.ofChange fnExactMedianVoteSpec)

/-- ITS FALSE NEIGHBOUR: 'it returns false'. Refute it at one input. -/
def fnExactMedianVoteWrong : ChangeSpec := { name := "fnExactMedianVote", fn := fun _ => fun
  | [d] => { results := [.lit (.bool false)], args := [d] }
  | _ => none }
def FnExactMedianVoteWrongFalsely : Prop := fnExactMedianVoteRow.holds Try.pinned (OpenSpec.ofChange fnExactMedianVoteWrong)

/- THE SECOND FORM. 'bulk': how many values and letters a reading holds, each counted each time it is reached (what is shared counts as often as it is met; a slice's spare places count too). A statement '..UptoSaid' is the law's where the arguments, and the package variables that the reading takes, are together of bulk at most 1048576: NARROWER than '..Said'. Prove '..Said' where nothing that the law and all that it calls make is longer than what came in: it says more and counts as full. Else prove '..UptoSaid'. A law counts once. -/
mutual
def uptoBulk {H : Type} : DataW H → Nat
  | .lit (.string bytes) => bytes.length + 1
  | .lit _ => 1
  | .nil => 1
  | .ptr d => uptoBulk d + 1
  | .slice elems spare => uptoBulkAll elems + uptoBulkAll spare + 1
  | .agg parts => uptoBulkAll parts + 1
  | .iface _ d => uptoBulk d + 1
  | .map entries => uptoBulkEntries entries + 1
  | .held _ => 1
def uptoBulkAll {H : Type} : List (DataW H) → Nat
  | [] => 0
  | d :: r => uptoBulk d + uptoBulkAll r
def uptoBulkEntries {H : Type} : List (Lit × DataW H) → Nat
  | [] => 0
  | x :: r => uptoBulkEntry x + uptoBulkEntries r
def uptoBulkEntry {H : Type} : Lit × DataW H → Nat
  | (.string bytes, d) => bytes.length + uptoBulk d + 1
  | (_, d) => uptoBulk d + 1
 end
def uptoSmall : (H : Type) → List (DataW H) → Bool := fun _ ds => decide (uptoBulkAll ds ≤ 1048576)
def OpenSpec.upto (s : _root_.Go.ChangeSpec) : _root_.Go.OpenSpec := { _root_.Go.OpenSpec.ofChange s with cond := some uptoSmall }

/-- 'laws.FnExactHiddenAt', WHERE WHAT IT READS IS OF BULK AT MOST 1048576: true; the input reads as it did. -/
def fnExactHiddenAtUptoRow : OpenClaim := { program := "ytgdidmcbonkhfaa", sum := "e70752f986470fab7341e3392bd278d8f1296e10d4d638496fec9e3b29f1391e", func := "loop.example/g01367/laws.FnExactHiddenAt", spec := "fnExactHiddenAt", apart := false, narrowed := true }
def FnExactHiddenAtUptoSaid : Prop := fnExactHiddenAtUptoRow.holds Try.pinned (OpenSpec.upto fnExactHiddenAtSpec)

/-- 'laws.FnExactHiddenHours', WHERE WHAT IT READS IS OF BULK AT MOST 1048576: true; the input reads as it did. -/
def fnExactHiddenHoursUptoRow : OpenClaim := { program := "ytgdidmcbonkhfaa", sum := "e70752f986470fab7341e3392bd278d8f1296e10d4d638496fec9e3b29f1391e", func := "loop.example/g01367/laws.FnExactHiddenHours", spec := "fnExactHiddenHours", apart := false, narrowed := true }
def FnExactHiddenHoursUptoSaid : Prop := fnExactHiddenHoursUptoRow.holds Try.pinned (OpenSpec.upto fnExactHiddenHoursSpec)

/-- 'laws.FnExactBareSun', WHERE WHAT IT READS IS OF BULK AT MOST 1048576: true; the input reads as it did. -/
def fnExactBareSunUptoRow : OpenClaim := { program := "ytgdidmcbonkhfaa", sum := "e70752f986470fab7341e3392bd278d8f1296e10d4d638496fec9e3b29f1391e", func := "loop.example/g01367/laws.FnExactBareSun", spec := "fnExactBareSun", apart := false, narrowed := true }
def FnExactBareSunUptoSaid : Prop := fnExactBareSunUptoRow.holds Try.pinned (OpenSpec.upto fnExactBareSunSpec)

/-- 'laws.FnExactOutHours', WHERE WHAT IT READS IS OF BULK AT MOST 1048576: true; the input reads as it did. -/
def fnExactOutHoursUptoRow : OpenClaim := { program := "ytgdidmcbonkhfaa", sum := "e70752f986470fab7341e3392bd278d8f1296e10d4d638496fec9e3b29f1391e", func := "loop.example/g01367/laws.FnExactOutHours", spec := "fnExactOutHours", apart := false, narrowed := true }
def FnExactOutHoursUptoSaid : Prop := fnExactOutHoursUptoRow.holds Try.pinned (OpenSpec.upto fnExactOutHoursSpec)

/-- 'laws.FnExactMeanVote', WHERE WHAT IT READS IS OF BULK AT MOST 1048576: true; the input reads as it did. -/
def fnExactMeanVoteUptoRow : OpenClaim := { program := "ytgdidmcbonkhfaa", sum := "e70752f986470fab7341e3392bd278d8f1296e10d4d638496fec9e3b29f1391e", func := "loop.example/g01367/laws.FnExactMeanVote", spec := "fnExactMeanVote", unfollowed := true, recurses := true, apart := false, narrowed := true }
def FnExactMeanVoteUptoSaid : Prop := fnExactMeanVoteUptoRow.holds Try.pinned (OpenSpec.upto fnExactMeanVoteSpec)

/-- 'laws.FnExactMedianVote', WHERE WHAT IT READS IS OF BULK AT MOST 1048576: true; the input reads as it did. -/
def fnExactMedianVoteUptoRow : OpenClaim := { program := "ytgdidmcbonkhfaa", sum := "e70752f986470fab7341e3392bd278d8f1296e10d4d638496fec9e3b29f1391e", func := "loop.example/g01367/laws.FnExactMedianVote", spec := "fnExactMedianVote", unfollowed := true, recurses := true, apart := false, narrowed := true }
def FnExactMedianVoteUptoSaid : Prop := fnExactMedianVoteUptoRow.holds Try.pinned (OpenSpec.upto fnExactMedianVoteSpec)

end Rows
end Go.Proofs.Ytgdidmcbonkhfaa
