/-
  No cell of these rows narrows 'for every input' (looked for: loops, veiled, ifaces, maps, wideKeys, modest, calm, conditions, laid).
  DERIVED. THE GIVEN ROWS OF THIS SEAT. 7 by the template 'for every input the law returns true; each argument reads behind the call as it read before'; 0 by the template 'total and deterministic' (their statements: YtgdidmcbonkhfabTotals.lean).
  GIVEN WITH THE SEED: the statements are not yours to turn. If you find one false, say at which input.
  Laid BY PROGRAM, IN A SANDBOX (cutbox-rows.mjs): the forced cells as the released guide's own fill.sh prints them over the translation 24c3c15efb39b0c9… (all of the seat's roots in one cut). By AI agents, Wed Nov 11 2026. No macro, syntax, notation, axiom, sorry.
-/
import Derived.Test.YtgdidmcbonkhfabChecked
import GoSem.Claim
import GoSem.ClaimJoined
import GoSem.ClaimMapViews
import Derived.JoinedTies
import Derived.KernelRfl
namespace Go.Proofs.Ytgdidmcbonkhfab
/- THE CELL 'sum', in the pinned program and in every row, IS THE sha256 OF THE DUMP (.gsa) THAT YtgdidmcbonkhfabProg.lean LOADS. Nothing in Lean hashes anything: it is a label: what it is worth is what the hold of that sum in a sandbox is worth. -/
noncomputable def Try.pinned : Pinned := { name := "ytgdidmcbonkhfab", sum := "24c3c15efb39b0c90a3f9068873b2115006fa83a2f5d785672d547cb24318bef", checked := Try.checked }
namespace Rows
def none {H : Type} : Left H := { results := [], args := [] }

/-- 'laws.FnExactShadedPart': WHATEVER THE INPUT: true; the input reads as it did. -/
def fnExactShadedPartSpec : ChangeSpec := { name := "fnExactShadedPart", fn := fun _ => fun
  | [d1, d2, d3, d4] => { results := [.lit (.bool true)], args := [d1, d2, d3, d4] }
  | _ => none }
def fnExactShadedPartRow : OpenClaim := { program := "ytgdidmcbonkhfab", sum := "24c3c15efb39b0c90a3f9068873b2115006fa83a2f5d785672d547cb24318bef", func := "loop.example/g01367/laws.FnExactShadedPart", spec := "fnExactShadedPart", recurses := true, apart := false }
def FnExactShadedPartSaid : Prop := fnExactShadedPartRow.holds Try.pinned (OpenSpec.ofChange fnExactShadedPartSpec)

/-- ITS FALSE NEIGHBOUR: 'it returns false'. Refute it at one input. -/
def fnExactShadedPartWrong : ChangeSpec := { name := "fnExactShadedPart", fn := fun _ => fun
  | [d1, d2, d3, d4] => { results := [.lit (.bool false)], args := [d1, d2, d3, d4] }
  | _ => none }
def FnExactShadedPartWrongFalsely : Prop := fnExactShadedPartRow.holds Try.pinned (OpenSpec.ofChange fnExactShadedPartWrong)

/-- 'laws.FnExactLightBehind': WHATEVER THE INPUT: true; the input reads as it did. -/
def fnExactLightBehindSpec : ChangeSpec := { name := "fnExactLightBehind", fn := fun _ => fun
  | [d1, d2, d3, d4] => { results := [.lit (.bool true)], args := [d1, d2, d3, d4] }
  | _ => none }
def fnExactLightBehindRow : OpenClaim := { program := "ytgdidmcbonkhfab", sum := "24c3c15efb39b0c90a3f9068873b2115006fa83a2f5d785672d547cb24318bef", func := "loop.example/g01367/laws.FnExactLightBehind", spec := "fnExactLightBehind", recurses := true, apart := false }
def FnExactLightBehindSaid : Prop := fnExactLightBehindRow.holds Try.pinned (OpenSpec.ofChange fnExactLightBehindSpec)

/-- ITS FALSE NEIGHBOUR: 'it returns false'. Refute it at one input. -/
def fnExactLightBehindWrong : ChangeSpec := { name := "fnExactLightBehind", fn := fun _ => fun
  | [d1, d2, d3, d4] => { results := [.lit (.bool false)], args := [d1, d2, d3, d4] }
  | _ => none }
def FnExactLightBehindWrongFalsely : Prop := fnExactLightBehindRow.holds Try.pinned (OpenSpec.ofChange fnExactLightBehindWrong)

/-- 'laws.FnExactShadedHours': WHATEVER THE INPUT: true; the input reads as it did. -/
def fnExactShadedHoursSpec : ChangeSpec := { name := "fnExactShadedHours", fn := fun _ => fun
  | [d1, d2, d3, d4] => { results := [.lit (.bool true)], args := [d1, d2, d3, d4] }
  | _ => none }
def fnExactShadedHoursRow : OpenClaim := { program := "ytgdidmcbonkhfab", sum := "24c3c15efb39b0c90a3f9068873b2115006fa83a2f5d785672d547cb24318bef", func := "loop.example/g01367/laws.FnExactShadedHours", spec := "fnExactShadedHours", recurses := true, apart := false }
def FnExactShadedHoursSaid : Prop := fnExactShadedHoursRow.holds Try.pinned (OpenSpec.ofChange fnExactShadedHoursSpec)

/-- ITS FALSE NEIGHBOUR: 'it returns false'. Refute it at one input. -/
def fnExactShadedHoursWrong : ChangeSpec := { name := "fnExactShadedHours", fn := fun _ => fun
  | [d1, d2, d3, d4] => { results := [.lit (.bool false)], args := [d1, d2, d3, d4] }
  | _ => none }
def FnExactShadedHoursWrongFalsely : Prop := fnExactShadedHoursRow.holds Try.pinned (OpenSpec.ofChange fnExactShadedHoursWrong)

/-- 'laws.FnExactGustyDay': WHATEVER THE INPUT: true; the input reads as it did. -/
def fnExactGustyDaySpec : ChangeSpec := { name := "fnExactGustyDay", fn := fun _ => fun
  | [d1, d2, d3, d4] => { results := [.lit (.bool true)], args := [d1, d2, d3, d4] }
  | _ => none }
def fnExactGustyDayRow : OpenClaim := { program := "ytgdidmcbonkhfab", sum := "24c3c15efb39b0c90a3f9068873b2115006fa83a2f5d785672d547cb24318bef", func := "loop.example/g01367/laws.FnExactGustyDay", spec := "fnExactGustyDay", unfollowed := true, recurses := true, apart := false }
def FnExactGustyDaySaid : Prop := fnExactGustyDayRow.holds Try.pinned (OpenSpec.ofChange fnExactGustyDaySpec)

/-- ITS FALSE NEIGHBOUR: 'it returns false'. Refute it at one input. -/
def fnExactGustyDayWrong : ChangeSpec := { name := "fnExactGustyDay", fn := fun _ => fun
  | [d1, d2, d3, d4] => { results := [.lit (.bool false)], args := [d1, d2, d3, d4] }
  | _ => none }
def FnExactGustyDayWrongFalsely : Prop := fnExactGustyDayRow.holds Try.pinned (OpenSpec.ofChange fnExactGustyDayWrong)

/-- 'laws.FnExactDayBehind': WHATEVER THE INPUT: true; the input reads as it did. -/
def fnExactDayBehindSpec : ChangeSpec := { name := "fnExactDayBehind", fn := fun _ => fun
  | [d1, d2, d3] => { results := [.lit (.bool true)], args := [d1, d2, d3] }
  | _ => none }
def fnExactDayBehindRow : OpenClaim := { program := "ytgdidmcbonkhfab", sum := "24c3c15efb39b0c90a3f9068873b2115006fa83a2f5d785672d547cb24318bef", func := "loop.example/g01367/laws.FnExactDayBehind", spec := "fnExactDayBehind", unfollowed := true, recurses := true, apart := false }
def FnExactDayBehindSaid : Prop := fnExactDayBehindRow.holds Try.pinned (OpenSpec.ofChange fnExactDayBehindSpec)

/-- ITS FALSE NEIGHBOUR: 'it returns false'. Refute it at one input. -/
def fnExactDayBehindWrong : ChangeSpec := { name := "fnExactDayBehind", fn := fun _ => fun
  | [d1, d2, d3] => { results := [.lit (.bool false)], args := [d1, d2, d3] }
  | _ => none }
def FnExactDayBehindWrongFalsely : Prop := fnExactDayBehindRow.holds Try.pinned (OpenSpec.ofChange fnExactDayBehindWrong)

/-- 'laws.FnExactOutFor': WHATEVER THE INPUT: true; the input reads as it did. -/
def fnExactOutForSpec : ChangeSpec := { name := "fnExactOutFor", fn := fun _ => fun
  | [d1, d2, d3, d4, d5] => { results := [.lit (.bool true)], args := [d1, d2, d3, d4, d5] }
  | _ => none }
def fnExactOutForRow : OpenClaim := { program := "ytgdidmcbonkhfab", sum := "24c3c15efb39b0c90a3f9068873b2115006fa83a2f5d785672d547cb24318bef", func := "loop.example/g01367/laws.FnExactOutFor", spec := "fnExactOutFor", unfollowed := true, recurses := true, apart := false }
def FnExactOutForSaid : Prop := fnExactOutForRow.holds Try.pinned (OpenSpec.ofChange fnExactOutForSpec)

/-- ITS FALSE NEIGHBOUR: 'it returns false'. Refute it at one input. -/
def fnExactOutForWrong : ChangeSpec := { name := "fnExactOutFor", fn := fun _ => fun
  | [d1, d2, d3, d4, d5] => { results := [.lit (.bool false)], args := [d1, d2, d3, d4, d5] }
  | _ => none }
def FnExactOutForWrongFalsely : Prop := fnExactOutForRow.holds Try.pinned (OpenSpec.ofChange fnExactOutForWrong)

/-- 'laws.FnExactBestAwning': WHATEVER THE INPUT: true; the input reads as it did. -/
def fnExactBestAwningSpec : ChangeSpec := { name := "fnExactBestAwning", fn := fun _ => fun
  | [d1, d2, d3] => { results := [.lit (.bool true)], args := [d1, d2, d3] }
  | _ => none }
def fnExactBestAwningRow : OpenClaim := { program := "ytgdidmcbonkhfab", sum := "24c3c15efb39b0c90a3f9068873b2115006fa83a2f5d785672d547cb24318bef", func := "loop.example/g01367/laws.FnExactBestAwning", spec := "fnExactBestAwning", unfollowed := true, recurses := true, apart := false }
def FnExactBestAwningSaid : Prop := fnExactBestAwningRow.holds Try.pinned (OpenSpec.ofChange fnExactBestAwningSpec)

/-- ITS FALSE NEIGHBOUR: 'it returns false'. Refute it at one input. -/
def fnExactBestAwningWrong : ChangeSpec := { name := "fnExactBestAwning", fn := fun _ => fun
  | [d1, d2, d3] => { results := [.lit (.bool false)], args := [d1, d2, d3] }
  | _ => none }
def FnExactBestAwningWrongFalsely : Prop := fnExactBestAwningRow.holds Try.pinned (OpenSpec.ofChange fnExactBestAwningWrong)

/- THE SECOND FORM. 'bulk': how many values and letters a reading holds, each counted each time it is reached (what is shared counts as often as it is met; a slice's spare places count too). A statement '..UptoSaid' is the law's where the arguments, and the package variables that the reading takes, are together of bulk at most 1048576: NARROWER than '..Said'. Prove '..Said' where nothing that the law and all that it calls make is longer than what came in: it says more and counts as full. Else prove '..UptoSaid'. A law counts once. -/
mutual
def uptoBulk {H : Type} : DataW H → Nat
  | .lit (.string bytes) => bytes.length + 1
  | .lit _ => 1
  | .nil => 1
  | .ptr d => uptoBulk d + 1
  | .slice elems spare => uptoBulkAll elems + uptoBulkAll spare + 1
  | .agg parts => uptoBulkAll parts + 1
  | .iface _ d => uptoBulk d + 1
  | .map entries => uptoBulkEntries entries + 1
  | .held _ => 1
def uptoBulkAll {H : Type} : List (DataW H) → Nat
  | [] => 0
  | d :: r => uptoBulk d + uptoBulkAll r
def uptoBulkEntries {H : Type} : List (Lit × DataW H) → Nat
  | [] => 0
  | x :: r => uptoBulkEntry x + uptoBulkEntries r
def uptoBulkEntry {H : Type} : Lit × DataW H → Nat
  | (.string bytes, d) => bytes.length + uptoBulk d + 1
  | (_, d) => uptoBulk d + 1
 end
def uptoSmall : (H : Type) → List (DataW H) → Bool := fun _ ds => decide (uptoBulkAll ds ≤ 1048576)
def OpenSpec.upto (s : _root_.Go.ChangeSpec) : _root_.Go.OpenSpec := { _root_.Go.OpenSpec.ofChange s with cond := some uptoSmall }

/-- 'laws.FnExactShadedPart', WHERE WHAT IT READS IS OF BULK AT MOST 1048576: true; the input reads as it did. -/
def fnExactShadedPartUptoRow : OpenClaim := { program := "ytgdidmcbonkhfab", sum := "24c3c15efb39b0c90a3f9068873b2115006fa83a2f5d785672d547cb24318bef", func := "loop.example/g01367/laws.FnExactShadedPart", spec := "fnExactShadedPart", recurses := true, apart := false, narrowed := true }
def FnExactShadedPartUptoSaid : Prop := fnExactShadedPartUptoRow.holds Try.pinned (OpenSpec.upto fnExactShadedPartSpec)

/-- 'laws.FnExactLightBehind', WHERE WHAT IT READS IS OF BULK AT MOST 1048576: true; the input reads as it did. -/
def fnExactLightBehindUptoRow : OpenClaim := { program := "ytgdidmcbonkhfab", sum := "24c3c15efb39b0c90a3f9068873b2115006fa83a2f5d785672d547cb24318bef", func := "loop.example/g01367/laws.FnExactLightBehind", spec := "fnExactLightBehind", recurses := true, apart := false, narrowed := true }
def FnExactLightBehindUptoSaid : Prop := fnExactLightBehindUptoRow.holds Try.pinned (OpenSpec.upto fnExactLightBehindSpec)

/-- 'laws.FnExactShadedHours', WHERE WHAT IT READS IS OF BULK AT MOST 1048576: true; the input reads as it did. -/
def fnExactShadedHoursUptoRow : OpenClaim := { program := "ytgdidmcbonkhfab", sum := "24c3c15efb39b0c90a3f9068873b2115006fa83a2f5d785672d547cb24318bef", func := "loop.example/g01367/laws.FnExactShadedHours", spec := "fnExactShadedHours", recurses := true, apart := false, narrowed := true }
def FnExactShadedHoursUptoSaid : Prop := fnExactShadedHoursUptoRow.holds Try.pinned (OpenSpec.upto fnExactShadedHoursSpec)

/-- 'laws.FnExactGustyDay', WHERE WHAT IT READS IS OF BULK AT MOST 1048576: true; the input reads as it did. -/
def fnExactGustyDayUptoRow : OpenClaim := { program := "ytgdidmcbonkhfab", sum := "24c3c15efb39b0c90a3f9068873b2115006fa83a2f5d785672d547cb24318bef", func := "loop.example/g01367/laws.FnExactGustyDay", spec := "fnExactGustyDay", unfollowed := true, recurses := true, apart := false, narrowed := true }
def FnExactGustyDayUptoSaid : Prop := fnExactGustyDayUptoRow.holds Try.pinned (OpenSpec.upto fnExactGustyDaySpec)

/-- 'laws.FnExactDayBehind', WHERE WHAT IT READS IS OF BULK AT MOST 1048576: true; the input reads as it did. -/
def fnExactDayBehindUptoRow : OpenClaim := { program := "ytgdidmcbonkhfab", sum := "24c3c15efb39b0c90a3f9068873b2115006fa83a2f5d785672d547cb24318bef", func := "loop.example/g01367/laws.FnExactDayBehind", spec := "fnExactDayBehind", unfollowed := true, recurses := true, apart := false, narrowed := true }
def FnExactDayBehindUptoSaid : Prop := fnExactDayBehindUptoRow.holds Try.pinned (OpenSpec.upto fnExactDayBehindSpec)

/-- 'laws.FnExactOutFor', WHERE WHAT IT READS IS OF BULK AT MOST 1048576: true; the input reads as it did. -/
def fnExactOutForUptoRow : OpenClaim := { program := "ytgdidmcbonkhfab", sum := "24c3c15efb39b0c90a3f9068873b2115006fa83a2f5d785672d547cb24318bef", func := "loop.example/g01367/laws.FnExactOutFor", spec := "fnExactOutFor", unfollowed := true, recurses := true, apart := false, narrowed := true }
def FnExactOutForUptoSaid : Prop := fnExactOutForUptoRow.holds Try.pinned (OpenSpec.upto fnExactOutForSpec)

/-- 'laws.FnExactBestAwning', WHERE WHAT IT READS IS OF BULK AT MOST 1048576: true; the input reads as it did. -/
def fnExactBestAwningUptoRow : OpenClaim := { program := "ytgdidmcbonkhfab", sum := "24c3c15efb39b0c90a3f9068873b2115006fa83a2f5d785672d547cb24318bef", func := "loop.example/g01367/laws.FnExactBestAwning", spec := "fnExactBestAwning", unfollowed := true, recurses := true, apart := false, narrowed := true }
def FnExactBestAwningUptoSaid : Prop := fnExactBestAwningUptoRow.holds Try.pinned (OpenSpec.upto fnExactBestAwningSpec)

end Rows
end Go.Proofs.Ytgdidmcbonkhfab
