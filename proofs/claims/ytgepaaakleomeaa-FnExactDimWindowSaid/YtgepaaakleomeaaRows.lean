/-
  No cell of these rows narrows 'for every input' (looked for: loops, veiled, ifaces, maps, wideKeys, modest, calm, conditions, laid).
  DERIVED. THE GIVEN ROWS OF THIS SEAT. 7 by the template 'for every input the law returns true; each argument reads behind the call as it read before'; 0 by the template 'total and deterministic' (their statements: YtgepaaakleomeaaTotals.lean).
  GIVEN WITH THE SEED: the statements are not yours to turn. If you find one false, say at which input.
  Laid BY PROGRAM, IN A SANDBOX (cutbox-rows.mjs): the forced cells as the released guide's own fill.sh prints them over the translation 2662247c0a83e397… (all of the seat's roots in one cut). By AI agents, Wed Nov 11 2026. No macro, syntax, notation, axiom, sorry.
-/
import Derived.Test.YtgepaaakleomeaaChecked
import GoSem.Claim
import GoSem.ClaimJoined
import GoSem.ClaimMapViews
import Derived.JoinedTies
import Derived.KernelRfl
namespace Go.Proofs.Ytgepaaakleomeaa
/- THE CELL 'sum', in the pinned program and in every row, IS THE sha256 OF THE DUMP (.gsa) THAT YtgepaaakleomeaaProg.lean LOADS. Nothing in Lean hashes anything: it is a label: what it is worth is what the hold of that sum in a sandbox is worth. -/
noncomputable def Try.pinned : Pinned := { name := "ytgepaaakleomeaa", sum := "2662247c0a83e3970968b612ba56c64a42b20b0220b6b741036660041ec058fb", checked := Try.checked }
namespace Rows
def none {H : Type} : Left H := { results := [], args := [] }

/-- 'laws.FnExactLightAt': WHATEVER THE INPUT: true; the input reads as it did. -/
def fnExactLightAtSpec : ChangeSpec := { name := "fnExactLightAt", fn := fun _ => fun
  | [d1, d2] => { results := [.lit (.bool true)], args := [d1, d2] }
  | _ => none }
def fnExactLightAtRow : OpenClaim := { program := "ytgepaaakleomeaa", sum := "2662247c0a83e3970968b612ba56c64a42b20b0220b6b741036660041ec058fb", func := "loop.example/g01367/laws.FnExactLightAt", spec := "fnExactLightAt", apart := false }
def FnExactLightAtSaid : Prop := fnExactLightAtRow.holds Try.pinned (OpenSpec.ofChange fnExactLightAtSpec)

/-- ITS FALSE NEIGHBOUR: 'it returns false'. Refute it at one input. -/
def fnExactLightAtWrong : ChangeSpec := { name := "fnExactLightAt", fn := fun _ => fun
  | [d1, d2] => { results := [.lit (.bool false)], args := [d1, d2] }
  | _ => none }
def FnExactLightAtWrongFalsely : Prop := fnExactLightAtRow.holds Try.pinned (OpenSpec.ofChange fnExactLightAtWrong)

/-- 'laws.FnExactMeanLight': WHATEVER THE INPUT: true; the input reads as it did. -/
def fnExactMeanLightSpec : ChangeSpec := { name := "fnExactMeanLight", fn := fun _ => fun
  | [d] => { results := [.lit (.bool true)], args := [d] }
  | _ => none }
def fnExactMeanLightRow : OpenClaim := { program := "ytgepaaakleomeaa", sum := "2662247c0a83e3970968b612ba56c64a42b20b0220b6b741036660041ec058fb", func := "loop.example/g01367/laws.FnExactMeanLight", spec := "fnExactMeanLight", apart := false }
def FnExactMeanLightSaid : Prop := fnExactMeanLightRow.holds Try.pinned (OpenSpec.ofChange fnExactMeanLightSpec)

/-- ITS FALSE NEIGHBOUR: 'it returns false'. Refute it at one input. -/
def fnExactMeanLightWrong : ChangeSpec := { name := "fnExactMeanLight", fn := fun _ => fun
  | [d] => { results := [.lit (.bool false)], args := [d] }
  | _ => none }
def FnExactMeanLightWrongFalsely : Prop := fnExactMeanLightRow.holds Try.pinned (OpenSpec.ofChange fnExactMeanLightWrong)

/-- 'laws.FnExactLightMap': WHATEVER THE INPUT: true; the input reads as it did. -/
def fnExactLightMapSpec : ChangeSpec := { name := "fnExactLightMap", fn := fun _ => fun
  | [d] => { results := [.lit (.bool true)], args := [d] }
  | _ => none }
def fnExactLightMapRow : OpenClaim := { program := "ytgepaaakleomeaa", sum := "2662247c0a83e3970968b612ba56c64a42b20b0220b6b741036660041ec058fb", func := "loop.example/g01367/laws.FnExactLightMap", spec := "fnExactLightMap", apart := false }
def FnExactLightMapSaid : Prop := fnExactLightMapRow.holds Try.pinned (OpenSpec.ofChange fnExactLightMapSpec)

/-- ITS FALSE NEIGHBOUR: 'it returns false'. Refute it at one input. -/
def fnExactLightMapWrong : ChangeSpec := { name := "fnExactLightMap", fn := fun _ => fun
  | [d] => { results := [.lit (.bool false)], args := [d] }
  | _ => none }
def FnExactLightMapWrongFalsely : Prop := fnExactLightMapRow.holds Try.pinned (OpenSpec.ofChange fnExactLightMapWrong)

/-- 'laws.FnExactBrightest': WHATEVER THE INPUT: true; the input reads as it did. -/
def fnExactBrightestSpec : ChangeSpec := { name := "fnExactBrightest", fn := fun _ => fun
  | [d] => { results := [.lit (.bool true)], args := [d] }
  | _ => none }
def fnExactBrightestRow : OpenClaim := { program := "ytgepaaakleomeaa", sum := "2662247c0a83e3970968b612ba56c64a42b20b0220b6b741036660041ec058fb", func := "loop.example/g01367/laws.FnExactBrightest", spec := "fnExactBrightest", unfollowed := true, recurses := true, apart := false }
def FnExactBrightestSaid : Prop := fnExactBrightestRow.holds Try.pinned (OpenSpec.ofChange fnExactBrightestSpec)

/-- ITS FALSE NEIGHBOUR: 'it returns false'. Refute it at one input. -/
def fnExactBrightestWrong : ChangeSpec := { name := "fnExactBrightest", fn := fun _ => fun
  | [d] => { results := [.lit (.bool false)], args := [d] }
  | _ => none }
def FnExactBrightestWrongFalsely : Prop := fnExactBrightestRow.holds Try.pinned (OpenSpec.ofChange fnExactBrightestWrong)

/-- 'laws.FnExactLitTiles': WHATEVER THE INPUT: true; the input reads as it did. -/
def fnExactLitTilesSpec : ChangeSpec := { name := "fnExactLitTiles", fn := fun _ => fun
  | [d1, d2] => { results := [.lit (.bool true)], args := [d1, d2] }
  | _ => none }
def fnExactLitTilesRow : OpenClaim := { program := "ytgepaaakleomeaa", sum := "2662247c0a83e3970968b612ba56c64a42b20b0220b6b741036660041ec058fb", func := "loop.example/g01367/laws.FnExactLitTiles", spec := "fnExactLitTiles", apart := false }
def FnExactLitTilesSaid : Prop := fnExactLitTilesRow.holds Try.pinned (OpenSpec.ofChange fnExactLitTilesSpec)

/-- ITS FALSE NEIGHBOUR: 'it returns false'. Refute it at one input. -/
def fnExactLitTilesWrong : ChangeSpec := { name := "fnExactLitTiles", fn := fun _ => fun
  | [d1, d2] => { results := [.lit (.bool false)], args := [d1, d2] }
  | _ => none }
def FnExactLitTilesWrongFalsely : Prop := fnExactLitTilesRow.holds Try.pinned (OpenSpec.ofChange fnExactLitTilesWrong)

/-- 'laws.FnExactMirrorRoom': WHATEVER THE INPUT: true; the input reads as it did. -/
def fnExactMirrorRoomSpec : ChangeSpec := { name := "fnExactMirrorRoom", fn := fun _ => fun
  | [d] => { results := [.lit (.bool true)], args := [d] }
  | _ => none }
def fnExactMirrorRoomRow : OpenClaim := { program := "ytgepaaakleomeaa", sum := "2662247c0a83e3970968b612ba56c64a42b20b0220b6b741036660041ec058fb", func := "loop.example/g01367/laws.FnExactMirrorRoom", spec := "fnExactMirrorRoom", unfollowed := true, recurses := true, apart := false }
def FnExactMirrorRoomSaid : Prop := fnExactMirrorRoomRow.holds Try.pinned (OpenSpec.ofChange fnExactMirrorRoomSpec)

/-- ITS FALSE NEIGHBOUR: 'it returns false'. Refute it at one input. -/
def fnExactMirrorRoomWrong : ChangeSpec := { name := "fnExactMirrorRoom", fn := fun _ => fun
  | [d] => { results := [.lit (.bool false)], args := [d] }
  | _ => none }
def FnExactMirrorRoomWrongFalsely : Prop := fnExactMirrorRoomRow.holds Try.pinned (OpenSpec.ofChange fnExactMirrorRoomWrong)

/-- 'laws.FnExactDimWindow': WHATEVER THE INPUT: true; the input reads as it did. -/
def fnExactDimWindowSpec : ChangeSpec := { name := "fnExactDimWindow", fn := fun _ => fun
  | [d1, d2, d3] => { results := [.lit (.bool true)], args := [d1, d2, d3] }
  | _ => none }
def fnExactDimWindowRow : OpenClaim := { program := "ytgepaaakleomeaa", sum := "2662247c0a83e3970968b612ba56c64a42b20b0220b6b741036660041ec058fb", func := "loop.example/g01367/laws.FnExactDimWindow", spec := "fnExactDimWindow", unfollowed := true, recurses := true, apart := false }
def FnExactDimWindowSaid : Prop := fnExactDimWindowRow.holds Try.pinned (OpenSpec.ofChange fnExactDimWindowSpec)

/-- ITS FALSE NEIGHBOUR: 'it returns false'. Refute it at one input. -/
def fnExactDimWindowWrong : ChangeSpec := { name := "fnExactDimWindow", fn := fun _ => fun
  | [d1, d2, d3] => { results := [.lit (.bool false)], args := [d1, d2, d3] }
  | _ => none }
def FnExactDimWindowWrongFalsely : Prop := fnExactDimWindowRow.holds Try.pinned (OpenSpec.ofChange fnExactDimWindowWrong)

/- THE SECOND FORM. 'bulk': how many values and letters a reading holds, each counted each time it is reached (what is shared counts as often as it is met; a slice's spare places count too). A statement '..UptoSaid' is the law's where the arguments, and the package variables that the reading takes, are together of bulk at most 1048576: NARROWER than '..Said'. Prove '..Said' where nothing that the law and all that it calls make is longer than what came in: it says more and counts as full. Else prove '..UptoSaid'. A law counts once. -/
mutual
def uptoBulk {H : Type} : DataW H → Nat
  | .lit (.string bytes) => bytes.length + 1
  | .lit _ => 1
  | .nil => 1
  | .ptr d => uptoBulk d + 1
  | .slice elems spare => uptoBulkAll elems + uptoBulkAll spare + 1
  | .agg parts => uptoBulkAll parts + 1
  | .iface _ d => uptoBulk d + 1
  | .map entries => uptoBulkEntries entries + 1
  | .held _ => 1
def uptoBulkAll {H : Type} : List (DataW H) → Nat
  | [] => 0
  | d :: r => uptoBulk d + uptoBulkAll r
def uptoBulkEntries {H : Type} : List (Lit × DataW H) → Nat
  | [] => 0
  | x :: r => uptoBulkEntry x + uptoBulkEntries r
def uptoBulkEntry {H : Type} : Lit × DataW H → Nat
  | (.string bytes, d) => bytes.length + uptoBulk d + 1
  | (_, d) => uptoBulk d + 1
 end
def uptoSmall : (H : Type) → List (DataW H) → Bool := fun _ ds => decide (uptoBulkAll ds ≤ 1048576)
def OpenSpec.upto (s : _root_.Go.ChangeSpec) : _root_.Go.OpenSpec := { _root_.Go.OpenSpec.ofChange s with cond := some uptoSmall }

/-- 'laws.FnExactLightAt', WHERE WHAT IT READS IS OF BULK AT MOST 1048576: true; the input reads as it did. -/
def fnExactLightAtUptoRow : OpenClaim := { program := "ytgepaaakleomeaa", sum := "2662247c0a83e3970968b612ba56c64a42b20b0220b6b741036660041ec058fb", func := "loop.example/g01367/laws.FnExactLightAt", spec := "fnExactLightAt", apart := false, narrowed := true }
def FnExactLightAtUptoSaid : Prop := fnExactLightAtUptoRow.holds Try.pinned (OpenSpec.upto fnExactLightAtSpec)

/-- 'laws.FnExactMeanLight', WHERE WHAT IT READS IS OF BULK AT MOST 1048576: true; the input reads as it did. -/
def fnExactMeanLightUptoRow : OpenClaim := { program := "ytgepaaakleomeaa", sum := "2662247c0a83e3970968b612ba56c64a42b20b0220b6b741036660041ec058fb", func := "loop.example/g01367/laws.FnExactMeanLight", spec := "fnExactMeanLight", apart := false, narrowed := true }
def FnExactMeanLightUptoSaid : Prop := fnExactMeanLightUptoRow.holds Try.pinned (OpenSpec.upto fnExactMeanLightSpec)

/-- 'laws.FnExactLightMap', WHERE WHAT IT READS IS OF BULK AT MOST 1048576: true; the input reads as it did. -/
def fnExactLightMapUptoRow : OpenClaim := { program := "ytgepaaakleomeaa", sum := "2662247c0a83e3970968b612ba56c64a42b20b0220b6b741036660041ec058fb", func := "loop.example/g01367/laws.FnExactLightMap", spec := "fnExactLightMap", apart := false, narrowed := true }
def FnExactLightMapUptoSaid : Prop := fnExactLightMapUptoRow.holds Try.pinned (OpenSpec.upto fnExactLightMapSpec)

/-- 'laws.FnExactBrightest', WHERE WHAT IT READS IS OF BULK AT MOST 1048576: true; the input reads as it did. -/
def fnExactBrightestUptoRow : OpenClaim := { program := "ytgepaaakleomeaa", sum := "2662247c0a83e3970968b612ba56c64a42b20b0220b6b741036660041ec058fb", func := "loop.example/g01367/laws.FnExactBrightest", spec := "fnExactBrightest", unfollowed := true, recurses := true, apart := false, narrowed := true }
def FnExactBrightestUptoSaid : Prop := fnExactBrightestUptoRow.holds Try.pinned (OpenSpec.upto fnExactBrightestSpec)

/-- 'laws.FnExactLitTiles', WHERE WHAT IT READS IS OF BULK AT MOST 1048576: true; the input reads as it did. -/
def fnExactLitTilesUptoRow : OpenClaim := { program := "ytgepaaakleomeaa", sum := "2662247c0a83e3970968b612ba56c64a42b20b0220b6b741036660041ec058fb", func := "loop.example/g01367/laws.FnExactLitTiles", spec := "fnExactLitTiles", apart := false, narrowed := true }
def FnExactLitTilesUptoSaid : Prop := fnExactLitTilesUptoRow.holds Try.pinned (OpenSpec.upto fnExactLitTilesSpec)

/-- 'laws.FnExactMirrorRoom', WHERE WHAT IT READS IS OF BULK AT MOST 1048576: true; the input reads as it did. -/
def fnExactMirrorRoomUptoRow : OpenClaim := { program := "ytgepaaakleomeaa", sum := "2662247c0a83e3970968b612ba56c64a42b20b0220b6b741036660041ec058fb", func := "loop.example/g01367/laws.FnExactMirrorRoom", spec := "fnExactMirrorRoom", unfollowed := true, recurses := true, apart := false, narrowed := true }
def FnExactMirrorRoomUptoSaid : Prop := fnExactMirrorRoomUptoRow.holds Try.pinned (OpenSpec.upto fnExactMirrorRoomSpec)

/-- 'laws.FnExactDimWindow', WHERE WHAT IT READS IS OF BULK AT MOST 1048576: true; the input reads as it did. -/
def fnExactDimWindowUptoRow : OpenClaim := { program := "ytgepaaakleomeaa", sum := "2662247c0a83e3970968b612ba56c64a42b20b0220b6b741036660041ec058fb", func := "loop.example/g01367/laws.FnExactDimWindow", spec := "fnExactDimWindow", unfollowed := true, recurses := true, apart := false, narrowed := true }
def FnExactDimWindowUptoSaid : Prop := fnExactDimWindowUptoRow.holds Try.pinned (OpenSpec.upto fnExactDimWindowSpec)

end Rows
end Go.Proofs.Ytgepaaakleomeaa
