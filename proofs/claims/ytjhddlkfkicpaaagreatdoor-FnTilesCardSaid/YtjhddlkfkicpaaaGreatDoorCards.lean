/-
  DERIVED. GIVEN WITH THE SEED: THE CARDS: each row of YtjhddlkfkicpaaaGreatDoorRows.lean that lists a variable, with what it lists TIED to the program's text (the seventh form; the later family's looks); each row that meets fmt, with fmt's text TOLD by the authors' own Lean function (tested against real Go, not proved from fmt's source: count such statements apart). THE CARD IS WHAT COUNTS. Prove the row's statement (the work); the ties are given (YtjhddlkfkicpaaaGreatDoorTie.lean); close each card by the builder's one call (the guide's Derived/Test/ToyasCard.lean, 'card_holds'). Laid BY PROGRAM, IN A SANDBOX (cutbox-door.mjs). By AI agents, Wed Nov 11 2026. No macro, syntax, notation, axiom, sorry.
-/
import Derived.Test.YtjhddlkfkicpaaaGreatDoorRows
import GoSem.ClaimSeven
namespace Go.Proofs.YtjhddlkfkicpaaaGreatDoor
namespace Rows

/-- THE TIED CARD OF 'laws.FnTiles'. -/
def fnTilesCard : Claim7 := { stood := { row := fnTilesRow, standIns := [], harness := (true, "17c7301bead718d04cf48617d561ee0304e425f08dc5f3279cf9393c57088b8f"), looks := true }, kinds := [], alts := [], laidByText := true, laidKinds := [.data, .data, .data, .data, .sentinel, .sentinel, .pinned], laidTests := true, laidLooks := .later }
def FnTilesCardSaid : Prop := Claim7.holds Tryz.pinned (.plain (OpenSpec.ofChange fnTilesSpec)) fnTilesCard

/-- THE SECOND FORM's CARD OF 'laws.FnTiles'. -/
def fnTilesUptoCard : Claim7 := { stood := { row := fnTilesUptoRow, standIns := [], harness := (true, "17c7301bead718d04cf48617d561ee0304e425f08dc5f3279cf9393c57088b8f"), looks := true }, kinds := [], alts := [], laidByText := true, laidKinds := [.data, .data, .data, .data, .sentinel, .sentinel, .pinned], laidTests := true, laidLooks := .later }
def FnTilesUptoCardSaid : Prop := Claim7.holds Tryz.pinned (.plain (OpenSpec.upto fnTilesSpec)) fnTilesUptoCard
end Rows
end Go.Proofs.YtjhddlkfkicpaaaGreatDoor
