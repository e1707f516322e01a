/-
  DERIVED. GIVEN WITH THE SEED: THE CARDS: each row of YtpcnpmhpelbndaaGreatDoorRows.lean that lists a variable, with what it lists TIED to the program's text (the seventh form; the later family's looks); each row that meets fmt, with fmt's text TOLD by the authors' own Lean function (tested against real Go, not proved from fmt's source: count such statements apart). THE CARD IS WHAT COUNTS. Prove the row's statement (the work); the ties are given (YtpcnpmhpelbndaaGreatDoorTie.lean); close each card by the builder's one call (the guide's Derived/Test/ToyasCard.lean, 'card_holds'). Laid BY PROGRAM, IN A SANDBOX (cutbox-door.mjs). By AI agents, Wed Nov 11 2026. No macro, syntax, notation, axiom, sorry.
-/
import Derived.Test.YtpcnpmhpelbndaaGreatDoorRows
import GoSem.ClaimSeven
namespace Go.Proofs.YtpcnpmhpelbndaaGreatDoor
namespace Rows

/-- THE TIED CARD OF 'laws.FnExactReadRoom'. -/
def fnExactReadRoomCard : Claim7 := { stood := { row := fnExactReadRoomRow, standIns := [], harness := (true, "5ac703881f6c393be3158921296161f9c570bc638d1d1f118bec1f12a3aac95b"), looks := true }, kinds := [], alts := [], laidByText := true, laidKinds := [.data, .data, .data, .data, .sentinel, .sentinel, .pinned], laidTests := true, laidLooks := .later }
def FnExactReadRoomCardSaid : Prop := Claim7.holds Tryz.pinned (.plain (OpenSpec.ofChange fnExactReadRoomSpec)) fnExactReadRoomCard

/-- THE TIED CARD OF 'laws.FnTiles'. -/
def fnTilesCard : Claim7 := { stood := { row := fnTilesRow, standIns := [], harness := (true, "5ac703881f6c393be3158921296161f9c570bc638d1d1f118bec1f12a3aac95b"), looks := true }, kinds := [], alts := [], laidByText := true, laidKinds := [.data, .data, .data, .data, .sentinel, .sentinel, .pinned], laidTests := true, laidLooks := .later }
def FnTilesCardSaid : Prop := Claim7.holds Tryz.pinned (.plain (OpenSpec.ofChange fnTilesSpec)) fnTilesCard

/-- THE TIED CARD OF 'laws.FnAwning'. -/
def fnAwningCard : Claim7 := { stood := { row := fnAwningRow, standIns := [], harness := (true, "5ac703881f6c393be3158921296161f9c570bc638d1d1f118bec1f12a3aac95b"), looks := true }, kinds := [], alts := [], laidByText := true, laidKinds := [.data, .data, .data, .data, .sentinel, .sentinel, .pinned], laidTests := true, laidLooks := .later }
def FnAwningCardSaid : Prop := Claim7.holds Tryz.pinned (.plain (OpenSpec.ofChange fnAwningSpec)) fnAwningCard

/-- THE SECOND FORM's CARD OF 'laws.FnExactReadRoom'. -/
def fnExactReadRoomUptoCard : Claim7 := { stood := { row := fnExactReadRoomUptoRow, standIns := [], harness := (true, "5ac703881f6c393be3158921296161f9c570bc638d1d1f118bec1f12a3aac95b"), looks := true }, kinds := [], alts := [], laidByText := true, laidKinds := [.data, .data, .data, .data, .sentinel, .sentinel, .pinned], laidTests := true, laidLooks := .later }
def FnExactReadRoomUptoCardSaid : Prop := Claim7.holds Tryz.pinned (.plain (OpenSpec.upto fnExactReadRoomSpec)) fnExactReadRoomUptoCard

/-- THE SECOND FORM's CARD OF 'laws.FnTiles'. -/
def fnTilesUptoCard : Claim7 := { stood := { row := fnTilesUptoRow, standIns := [], harness := (true, "5ac703881f6c393be3158921296161f9c570bc638d1d1f118bec1f12a3aac95b"), looks := true }, kinds := [], alts := [], laidByText := true, laidKinds := [.data, .data, .data, .data, .sentinel, .sentinel, .pinned], laidTests := true, laidLooks := .later }
def FnTilesUptoCardSaid : Prop := Claim7.holds Tryz.pinned (.plain (OpenSpec.upto fnTilesSpec)) fnTilesUptoCard

/-- THE SECOND FORM's CARD OF 'laws.FnAwning'. -/
def fnAwningUptoCard : Claim7 := { stood := { row := fnAwningUptoRow, standIns := [], harness := (true, "5ac703881f6c393be3158921296161f9c570bc638d1d1f118bec1f12a3aac95b"), looks := true }, kinds := [], alts := [], laidByText := true, laidKinds := [.data, .data, .data, .data, .sentinel, .sentinel, .pinned], laidTests := true, laidLooks := .later }
def FnAwningUptoCardSaid : Prop := Claim7.holds Tryz.pinned (.plain (OpenSpec.upto fnAwningSpec)) fnAwningUptoCard
end Rows
end Go.Proofs.YtpcnpmhpelbndaaGreatDoor
