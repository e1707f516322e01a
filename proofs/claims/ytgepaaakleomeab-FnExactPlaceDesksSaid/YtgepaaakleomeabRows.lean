/-
  No cell of these rows narrows 'for every input' (looked for: loops, veiled, ifaces, maps, wideKeys, modest, calm, conditions, laid).
  DERIVED. THE GIVEN ROWS OF THIS SEAT. 7 by the template 'for every input the law returns true; each argument reads behind the call as it read before'; 0 by the template 'total and deterministic' (their statements: YtgepaaakleomeabTotals.lean).
  GIVEN WITH THE SEED: the statements are not yours to turn. If you find one false, say at which input.
  Laid BY PROGRAM, IN A SANDBOX (cutbox-rows.mjs): the forced cells as the released guide's own fill.sh prints them over the translation a50e6d414978cbc6… (all of the seat's roots in one cut). By AI agents, Wed Nov 11 2026. No macro, syntax, notation, axiom, sorry.
-/
import Derived.Test.YtgepaaakleomeabChecked
import GoSem.Claim
import GoSem.ClaimJoined
import GoSem.ClaimMapViews
import Derived.JoinedTies
import Derived.KernelRfl
namespace Go.Proofs.Ytgepaaakleomeab
/- THE CELL 'sum', in the pinned program and in every row, IS THE sha256 OF THE DUMP (.gsa) THAT YtgepaaakleomeabProg.lean LOADS. Nothing in Lean hashes anything: it is a label: what it is worth is what the hold of that sum in a sandbox is worth. -/
noncomputable def Try.pinned : Pinned := { name := "ytgepaaakleomeab", sum := "a50e6d414978cbc62ee2731364b32f7f9ec290784e959803a04c2a710df9571a", checked := Try.checked }
namespace Rows
def none {H : Type} : Left H := { results := [], args := [] }

/-- 'laws.FnExactLeastGlare': WHATEVER THE INPUT: true; the input reads as it did. -/
def fnExactLeastGlareSpec : ChangeSpec := { name := "fnExactLeastGlare", fn := fun _ => fun
  | [d1, d2] => { results := [.lit (.bool true)], args := [d1, d2] }
  | _ => none }
def fnExactLeastGlareRow : OpenClaim := { program := "ytgepaaakleomeab", sum := "a50e6d414978cbc62ee2731364b32f7f9ec290784e959803a04c2a710df9571a", func := "loop.example/g01367/laws.FnExactLeastGlare", spec := "fnExactLeastGlare", apart := false }
def FnExactLeastGlareSaid : Prop := fnExactLeastGlareRow.holds Try.pinned (OpenSpec.ofChange fnExactLeastGlareSpec)

/-- ITS FALSE NEIGHBOUR: 'it returns false'. Refute it at one input. -/
def fnExactLeastGlareWrong : ChangeSpec := { name := "fnExactLeastGlare", fn := fun _ => fun
  | [d1, d2] => { results := [.lit (.bool false)], args := [d1, d2] }
  | _ => none }
def FnExactLeastGlareWrongFalsely : Prop := fnExactLeastGlareRow.holds Try.pinned (OpenSpec.ofChange fnExactLeastGlareWrong)

/-- 'laws.FnExactGlareAt': WHATEVER THE INPUT: true; the input reads as it did. -/
def fnExactGlareAtSpec : ChangeSpec := { name := "fnExactGlareAt", fn := fun _ => fun
  | [d1, d2] => { results := [.lit (.bool true)], args := [d1, d2] }
  | _ => none }
def fnExactGlareAtRow : OpenClaim := { program := "ytgepaaakleomeab", sum := "a50e6d414978cbc62ee2731364b32f7f9ec290784e959803a04c2a710df9571a", func := "loop.example/g01367/laws.FnExactGlareAt", spec := "fnExactGlareAt", apart := false }
def FnExactGlareAtSaid : Prop := fnExactGlareAtRow.holds Try.pinned (OpenSpec.ofChange fnExactGlareAtSpec)

/-- ITS FALSE NEIGHBOUR: 'it returns false'. Refute it at one input. -/
def fnExactGlareAtWrong : ChangeSpec := { name := "fnExactGlareAt", fn := fun _ => fun
  | [d1, d2] => { results := [.lit (.bool false)], args := [d1, d2] }
  | _ => none }
def FnExactGlareAtWrongFalsely : Prop := fnExactGlareAtRow.holds Try.pinned (OpenSpec.ofChange fnExactGlareAtWrong)

/-- 'laws.FnExactGlareBits': WHATEVER THE INPUT: true; the input reads as it did. -/
def fnExactGlareBitsSpec : ChangeSpec := { name := "fnExactGlareBits", fn := fun _ => fun
  | [d1, d2, d3] => { results := [.lit (.bool true)], args := [d1, d2, d3] }
  | _ => none }
def fnExactGlareBitsRow : OpenClaim := { program := "ytgepaaakleomeab", sum := "a50e6d414978cbc62ee2731364b32f7f9ec290784e959803a04c2a710df9571a", func := "loop.example/g01367/laws.FnExactGlareBits", spec := "fnExactGlareBits", apart := false }
def FnExactGlareBitsSaid : Prop := fnExactGlareBitsRow.holds Try.pinned (OpenSpec.ofChange fnExactGlareBitsSpec)

/-- ITS FALSE NEIGHBOUR: 'it returns false'. Refute it at one input. -/
def fnExactGlareBitsWrong : ChangeSpec := { name := "fnExactGlareBits", fn := fun _ => fun
  | [d1, d2, d3] => { results := [.lit (.bool false)], args := [d1, d2, d3] }
  | _ => none }
def FnExactGlareBitsWrongFalsely : Prop := fnExactGlareBitsRow.holds Try.pinned (OpenSpec.ofChange fnExactGlareBitsWrong)

/-- 'laws.FnExactSuits': WHATEVER THE INPUT: true; the input reads as it did. -/
def fnExactSuitsSpec : ChangeSpec := { name := "fnExactSuits", fn := fun _ => fun
  | [d1, d2, d3] => { results := [.lit (.bool true)], args := [d1, d2, d3] }
  | _ => none }
def fnExactSuitsRow : OpenClaim := { program := "ytgepaaakleomeab", sum := "a50e6d414978cbc62ee2731364b32f7f9ec290784e959803a04c2a710df9571a", func := "loop.example/g01367/laws.FnExactSuits", spec := "fnExactSuits", apart := false }
def FnExactSuitsSaid : Prop := fnExactSuitsRow.holds Try.pinned (OpenSpec.ofChange fnExactSuitsSpec)

/-- ITS FALSE NEIGHBOUR: 'it returns false'. Refute it at one input. -/
def fnExactSuitsWrong : ChangeSpec := { name := "fnExactSuits", fn := fun _ => fun
  | [d1, d2, d3] => { results := [.lit (.bool false)], args := [d1, d2, d3] }
  | _ => none }
def FnExactSuitsWrongFalsely : Prop := fnExactSuitsRow.holds Try.pinned (OpenSpec.ofChange fnExactSuitsWrong)

/-- 'laws.FnExactSuitBits': WHATEVER THE INPUT: true; the input reads as it did. -/
def fnExactSuitBitsSpec : ChangeSpec := { name := "fnExactSuitBits", fn := fun _ => fun
  | [d1, d2, d3] => { results := [.lit (.bool true)], args := [d1, d2, d3] }
  | _ => none }
def fnExactSuitBitsRow : OpenClaim := { program := "ytgepaaakleomeab", sum := "a50e6d414978cbc62ee2731364b32f7f9ec290784e959803a04c2a710df9571a", func := "loop.example/g01367/laws.FnExactSuitBits", spec := "fnExactSuitBits", apart := false }
def FnExactSuitBitsSaid : Prop := fnExactSuitBitsRow.holds Try.pinned (OpenSpec.ofChange fnExactSuitBitsSpec)

/-- ITS FALSE NEIGHBOUR: 'it returns false'. Refute it at one input. -/
def fnExactSuitBitsWrong : ChangeSpec := { name := "fnExactSuitBits", fn := fun _ => fun
  | [d1, d2, d3] => { results := [.lit (.bool false)], args := [d1, d2, d3] }
  | _ => none }
def FnExactSuitBitsWrongFalsely : Prop := fnExactSuitBitsRow.holds Try.pinned (OpenSpec.ofChange fnExactSuitBitsWrong)

/-- 'laws.FnExactSeatPeople': WHATEVER THE INPUT: true; the input reads as it did. -/
def fnExactSeatPeopleSpec : ChangeSpec := { name := "fnExactSeatPeople", fn := fun _ => fun
  | [d1, d2, d3] => { results := [.lit (.bool true)], args := [d1, d2, d3] }
  | _ => none }
def fnExactSeatPeopleRow : OpenClaim := { program := "ytgepaaakleomeab", sum := "a50e6d414978cbc62ee2731364b32f7f9ec290784e959803a04c2a710df9571a", func := "loop.example/g01367/laws.FnExactSeatPeople", spec := "fnExactSeatPeople", recurses := true, apart := false }
def FnExactSeatPeopleSaid : Prop := fnExactSeatPeopleRow.holds Try.pinned (OpenSpec.ofChange fnExactSeatPeopleSpec)

/-- ITS FALSE NEIGHBOUR: 'it returns false'. Refute it at one input. -/
def fnExactSeatPeopleWrong : ChangeSpec := { name := "fnExactSeatPeople", fn := fun _ => fun
  | [d1, d2, d3] => { results := [.lit (.bool false)], args := [d1, d2, d3] }
  | _ => none }
def FnExactSeatPeopleWrongFalsely : Prop := fnExactSeatPeopleRow.holds Try.pinned (OpenSpec.ofChange fnExactSeatPeopleWrong)

/-- 'laws.FnExactPlaceDesks': WHATEVER THE INPUT: true; the input reads as it did. -/
def fnExactPlaceDesksSpec : ChangeSpec := { name := "fnExactPlaceDesks", fn := fun _ => fun
  | [d1, d2, d3] => { results := [.lit (.bool true)], args := [d1, d2, d3] }
  | _ => none }
def fnExactPlaceDesksRow : OpenClaim := { program := "ytgepaaakleomeab", sum := "a50e6d414978cbc62ee2731364b32f7f9ec290784e959803a04c2a710df9571a", func := "loop.example/g01367/laws.FnExactPlaceDesks", spec := "fnExactPlaceDesks", recurses := true, apart := false }
def FnExactPlaceDesksSaid : Prop := fnExactPlaceDesksRow.holds Try.pinned (OpenSpec.ofChange fnExactPlaceDesksSpec)

/-- ITS FALSE NEIGHBOUR: 'it returns false'. Refute it at one input. -/
def fnExactPlaceDesksWrong : ChangeSpec := { name := "fnExactPlaceDesks", fn := fun _ => fun
  | [d1, d2, d3] => { results := [.lit (.bool false)], args := [d1, d2, d3] }
  | _ => none }
def FnExactPlaceDesksWrongFalsely : Prop := fnExactPlaceDesksRow.holds Try.pinned (OpenSpec.ofChange fnExactPlaceDesksWrong)

/- THE SECOND FORM. 'bulk': how many values and letters a reading holds, each counted each time it is reached (what is shared counts as often as it is met; a slice's spare places count too). A statement '..UptoSaid' is the law's where the arguments, and the package variables that the reading takes, are together of bulk at most 1048576: NARROWER than '..Said'. Prove '..Said' where nothing that the law and all that it calls make is longer than what came in: it says more and counts as full. Else prove '..UptoSaid'. A law counts once. -/
mutual
def uptoBulk {H : Type} : DataW H → Nat
  | .lit (.string bytes) => bytes.length + 1
  | .lit _ => 1
  | .nil => 1
  | .ptr d => uptoBulk d + 1
  | .slice elems spare => uptoBulkAll elems + uptoBulkAll spare + 1
  | .agg parts => uptoBulkAll parts + 1
  | .iface _ d => uptoBulk d + 1
  | .map entries => uptoBulkEntries entries + 1
  | .held _ => 1
def uptoBulkAll {H : Type} : List (DataW H) → Nat
  | [] => 0
  | d :: r => uptoBulk d + uptoBulkAll r
def uptoBulkEntries {H : Type} : List (Lit × DataW H) → Nat
  | [] => 0
  | x :: r => uptoBulkEntry x + uptoBulkEntries r
def uptoBulkEntry {H : Type} : Lit × DataW H → Nat
  | (.string bytes, d) => bytes.length + uptoBulk d + 1
  | (_, d) => uptoBulk d + 1
 end
def uptoSmall : (H : Type) → List (DataW H) → Bool := fun _ ds => decide (uptoBulkAll ds ≤ 1048576)
def OpenSpec.upto (s : _root_.Go.ChangeSpec) : _root_.Go.OpenSpec := { _root_.Go.OpenSpec.ofChange s with cond := some uptoSmall }

/-- 'laws.FnExactLeastGlare', WHERE WHAT IT READS IS OF BULK AT MOST 1048576: true; the input reads as it did. -/
def fnExactLeastGlareUptoRow : OpenClaim := { program := "ytgepaaakleomeab", sum := "a50e6d414978cbc62ee2731364b32f7f9ec290784e959803a04c2a710df9571a", func := "loop.example/g01367/laws.FnExactLeastGlare", spec := "fnExactLeastGlare", apart := false, narrowed := true }
def FnExactLeastGlareUptoSaid : Prop := fnExactLeastGlareUptoRow.holds Try.pinned (OpenSpec.upto fnExactLeastGlareSpec)

/-- 'laws.FnExactGlareAt', WHERE WHAT IT READS IS OF BULK AT MOST 1048576: true; the input reads as it did. -/
def fnExactGlareAtUptoRow : OpenClaim := { program := "ytgepaaakleomeab", sum := "a50e6d414978cbc62ee2731364b32f7f9ec290784e959803a04c2a710df9571a", func := "loop.example/g01367/laws.FnExactGlareAt", spec := "fnExactGlareAt", apart := false, narrowed := true }
def FnExactGlareAtUptoSaid : Prop := fnExactGlareAtUptoRow.holds Try.pinned (OpenSpec.upto fnExactGlareAtSpec)

/-- 'laws.FnExactGlareBits', WHERE WHAT IT READS IS OF BULK AT MOST 1048576: true; the input reads as it did. -/
def fnExactGlareBitsUptoRow : OpenClaim := { program := "ytgepaaakleomeab", sum := "a50e6d414978cbc62ee2731364b32f7f9ec290784e959803a04c2a710df9571a", func := "loop.example/g01367/laws.FnExactGlareBits", spec := "fnExactGlareBits", apart := false, narrowed := true }
def FnExactGlareBitsUptoSaid : Prop := fnExactGlareBitsUptoRow.holds Try.pinned (OpenSpec.upto fnExactGlareBitsSpec)

/-- 'laws.FnExactSuits', WHERE WHAT IT READS IS OF BULK AT MOST 1048576: true; the input reads as it did. -/
def fnExactSuitsUptoRow : OpenClaim := { program := "ytgepaaakleomeab", sum := "a50e6d414978cbc62ee2731364b32f7f9ec290784e959803a04c2a710df9571a", func := "loop.example/g01367/laws.FnExactSuits", spec := "fnExactSuits", apart := false, narrowed := true }
def FnExactSuitsUptoSaid : Prop := fnExactSuitsUptoRow.holds Try.pinned (OpenSpec.upto fnExactSuitsSpec)

/-- 'laws.FnExactSuitBits', WHERE WHAT IT READS IS OF BULK AT MOST 1048576: true; the input reads as it did. -/
def fnExactSuitBitsUptoRow : OpenClaim := { program := "ytgepaaakleomeab", sum := "a50e6d414978cbc62ee2731364b32f7f9ec290784e959803a04c2a710df9571a", func := "loop.example/g01367/laws.FnExactSuitBits", spec := "fnExactSuitBits", apart := false, narrowed := true }
def FnExactSuitBitsUptoSaid : Prop := fnExactSuitBitsUptoRow.holds Try.pinned (OpenSpec.upto fnExactSuitBitsSpec)

/-- 'laws.FnExactSeatPeople', WHERE WHAT IT READS IS OF BULK AT MOST 1048576: true; the input reads as it did. -/
def fnExactSeatPeopleUptoRow : OpenClaim := { program := "ytgepaaakleomeab", sum := "a50e6d414978cbc62ee2731364b32f7f9ec290784e959803a04c2a710df9571a", func := "loop.example/g01367/laws.FnExactSeatPeople", spec := "fnExactSeatPeople", recurses := true, apart := false, narrowed := true }
def FnExactSeatPeopleUptoSaid : Prop := fnExactSeatPeopleUptoRow.holds Try.pinned (OpenSpec.upto fnExactSeatPeopleSpec)

/-- 'laws.FnExactPlaceDesks', WHERE WHAT IT READS IS OF BULK AT MOST 1048576: true; the input reads as it did. -/
def fnExactPlaceDesksUptoRow : OpenClaim := { program := "ytgepaaakleomeab", sum := "a50e6d414978cbc62ee2731364b32f7f9ec290784e959803a04c2a710df9571a", func := "loop.example/g01367/laws.FnExactPlaceDesks", spec := "fnExactPlaceDesks", recurses := true, apart := false, narrowed := true }
def FnExactPlaceDesksUptoSaid : Prop := fnExactPlaceDesksUptoRow.holds Try.pinned (OpenSpec.upto fnExactPlaceDesksSpec)

end Rows
end Go.Proofs.Ytgepaaakleomeab
