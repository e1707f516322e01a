/-
  DERIVED. GIVEN WITH THE SEED: THE CARDS: each row of YtpcnpmhpelbndaaDoorRows.lean that lists a variable, with what it lists TIED to the program's text (the seventh form; the later family's looks); each row that meets fmt, with fmt's text TOLD by the authors' own Lean function (tested against real Go, not proved from fmt's source: count such statements apart). THE CARD IS WHAT COUNTS. Prove the row's statement (the work); the ties are given (YtpcnpmhpelbndaaDoorTie.lean); close each card by the builder's one call (the guide's Derived/Test/ToyasCard.lean, 'card_holds'). Laid BY PROGRAM, IN A SANDBOX (cutbox-door.mjs). By AI agents, Wed Nov 11 2026. No macro, syntax, notation, axiom, sorry.
-/
import Derived.Test.YtpcnpmhpelbndaaDoorRows
import GoSem.ClaimSeven
namespace Go.Proofs.YtpcnpmhpelbndaaDoor
namespace Rows

/-- THE TIED CARD OF 'laws.FnExactStateText'. -/
def fnExactStateTextCard : Claim7 := { stood := { row := fnExactStateTextRow, standIns := [], harness := (true, "c40e9228dfd883c1d04da5e1ca36ac165cd5ee3ccc13477a13d66024da8aca86"), looks := true }, kinds := [], alts := [], laidByText := true, laidKinds := [.data, .data, .data], laidTests := true, laidLooks := .later }
def FnExactStateTextCardSaid : Prop := Claim7.holds Tryd.pinned (.plain (OpenSpec.ofChange fnExactStateTextSpec)) fnExactStateTextCard

/-- THE TIED CARD OF 'laws.FnExactAwningText'. -/
def fnExactAwningTextCard : Claim7 := { stood := { row := fnExactAwningTextRow, standIns := [], harness := (true, "c40e9228dfd883c1d04da5e1ca36ac165cd5ee3ccc13477a13d66024da8aca86"), looks := true }, kinds := [], alts := [], laidByText := true, laidKinds := [.data, .data, .data], laidTests := true, laidLooks := .later }
def FnExactAwningTextCardSaid : Prop := Claim7.holds Tryd.pinned (.plain (OpenSpec.ofChange fnExactAwningTextSpec)) fnExactAwningTextCard

/-- THE TIED CARD OF 'laws.FnExactRoomText'. -/
def fnExactRoomTextCard : Claim7 := { stood := { row := fnExactRoomTextRow, standIns := [], harness := (true, "c40e9228dfd883c1d04da5e1ca36ac165cd5ee3ccc13477a13d66024da8aca86"), looks := true }, kinds := [], alts := [], laidByText := true, laidKinds := [.data, .data, .data], laidTests := true, laidLooks := .later }
def FnExactRoomTextCardSaid : Prop := Claim7.holds Tryd.pinned (.plain (OpenSpec.ofChange fnExactRoomTextSpec)) fnExactRoomTextCard

/-- THE TIED CARD OF 'laws.FnExactReadAwning'. -/
def fnExactReadAwningCard : Claim7 := { stood := { row := fnExactReadAwningRow, standIns := [], harness := (true, "c40e9228dfd883c1d04da5e1ca36ac165cd5ee3ccc13477a13d66024da8aca86"), looks := true }, kinds := [], alts := [], laidByText := true, laidKinds := [.data, .data, .data, .data, .sentinel, .sentinel, .pinned], laidTests := true, laidLooks := .later }
def FnExactReadAwningCardSaid : Prop := Claim7.holds Tryd.pinned (.plain (OpenSpec.ofChange fnExactReadAwningSpec)) fnExactReadAwningCard

/-- THE SECOND FORM's CARD OF 'laws.FnExactStateText'. -/
def fnExactStateTextUptoCard : Claim7 := { stood := { row := fnExactStateTextUptoRow, standIns := [], harness := (true, "c40e9228dfd883c1d04da5e1ca36ac165cd5ee3ccc13477a13d66024da8aca86"), looks := true }, kinds := [], alts := [], laidByText := true, laidKinds := [.data, .data, .data], laidTests := true, laidLooks := .later }
def FnExactStateTextUptoCardSaid : Prop := Claim7.holds Tryd.pinned (.plain (OpenSpec.upto fnExactStateTextSpec)) fnExactStateTextUptoCard

/-- THE SECOND FORM's CARD OF 'laws.FnExactAwningText'. -/
def fnExactAwningTextUptoCard : Claim7 := { stood := { row := fnExactAwningTextUptoRow, standIns := [], harness := (true, "c40e9228dfd883c1d04da5e1ca36ac165cd5ee3ccc13477a13d66024da8aca86"), looks := true }, kinds := [], alts := [], laidByText := true, laidKinds := [.data, .data, .data], laidTests := true, laidLooks := .later }
def FnExactAwningTextUptoCardSaid : Prop := Claim7.holds Tryd.pinned (.plain (OpenSpec.upto fnExactAwningTextSpec)) fnExactAwningTextUptoCard

/-- THE SECOND FORM's CARD OF 'laws.FnExactRoomText'. -/
def fnExactRoomTextUptoCard : Claim7 := { stood := { row := fnExactRoomTextUptoRow, standIns := [], harness := (true, "c40e9228dfd883c1d04da5e1ca36ac165cd5ee3ccc13477a13d66024da8aca86"), looks := true }, kinds := [], alts := [], laidByText := true, laidKinds := [.data, .data, .data], laidTests := true, laidLooks := .later }
def FnExactRoomTextUptoCardSaid : Prop := Claim7.holds Tryd.pinned (.plain (OpenSpec.upto fnExactRoomTextSpec)) fnExactRoomTextUptoCard

/-- THE SECOND FORM's CARD OF 'laws.FnExactReadAwning'. -/
def fnExactReadAwningUptoCard : Claim7 := { stood := { row := fnExactReadAwningUptoRow, standIns := [], harness := (true, "c40e9228dfd883c1d04da5e1ca36ac165cd5ee3ccc13477a13d66024da8aca86"), looks := true }, kinds := [], alts := [], laidByText := true, laidKinds := [.data, .data, .data, .data, .sentinel, .sentinel, .pinned], laidTests := true, laidLooks := .later }
def FnExactReadAwningUptoCardSaid : Prop := Claim7.holds Tryd.pinned (.plain (OpenSpec.upto fnExactReadAwningSpec)) fnExactReadAwningUptoCard
end Rows
end Go.Proofs.YtpcnpmhpelbndaaDoor
