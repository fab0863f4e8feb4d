/-
  DERIVED. GIVEN WITH THE SEED: THE CARDS: each row of YthnennleblgjeaaDoorRows.lean that lists a variable, with what it lists TIED to the program's text (the seventh form; the later family's looks); each row that meets fmt, with fmt's text TOLD by the authors' own Lean function (tested against real Go, not proved from fmt's source: count such statements apart). THE CARD IS WHAT COUNTS. Prove the row's statement (the work); the ties are given (YthnennleblgjeaaDoorTie.lean); close each card by the builder's one call (the guide's Derived/Test/ToyasCard.lean, 'card_holds'). Laid BY PROGRAM, IN A SANDBOX (cutbox-door.mjs). By AI agents, Wed Nov 11 2026. No macro, syntax, notation, axiom, sorry.
-/
import Derived.Test.YthnennleblgjeaaDoorRows
import GoSem.ClaimSeven
namespace Go.Proofs.YthnennleblgjeaaDoor
namespace Rows

/-- THE TIED CARD OF 'ferrybridgelaw08.SegmentSize'. -/
def segmentSizeCard : Claim7 := { stood := { row := segmentSizeRow, standIns := [], harness := (true, "ddc8b72e4e1216c18dbce3046c7bdc87803aae52b84240f0a12d9b59cd0ce6ee"), looks := false }, kinds := [], alts := [], laidByText := true, laidKinds := [.data], laidTests := true, laidLooks := .later }
def SegmentSizeCardSaid : Prop := Claim7.holds Tryd.pinned (.plain (OpenSpec.ofChange segmentSizeSpec)) segmentSizeCard

/-- THE TIED CARD OF 'ferrybridgelaw08.SegmentReplies'. -/
def segmentRepliesCard : Claim7 := { stood := { row := segmentRepliesRow, standIns := [], harness := (true, "ddc8b72e4e1216c18dbce3046c7bdc87803aae52b84240f0a12d9b59cd0ce6ee"), looks := false }, kinds := [], alts := [], laidByText := true, laidKinds := [.data], laidTests := true, laidLooks := .later }
def SegmentRepliesCardSaid : Prop := Claim7.holds Tryd.pinned (.plain (OpenSpec.ofChange segmentRepliesSpec)) segmentRepliesCard

/-- THE TIED CARD OF 'ferrybridgelaw08.SegmentChanged'. -/
def segmentChangedCard : Claim7 := { stood := { row := segmentChangedRow, standIns := [], harness := (true, "ddc8b72e4e1216c18dbce3046c7bdc87803aae52b84240f0a12d9b59cd0ce6ee"), looks := false }, kinds := [], alts := [], laidByText := true, laidKinds := [.data], laidTests := true, laidLooks := .later }
def SegmentChangedCardSaid : Prop := Claim7.holds Tryd.pinned (.plain (OpenSpec.ofChange segmentChangedSpec)) segmentChangedCard

/-- THE TIED CARD OF 'ferrybridgelaw08.SegmentPuts'. -/
def segmentPutsCard : Claim7 := { stood := { row := segmentPutsRow, standIns := [], harness := (true, "ddc8b72e4e1216c18dbce3046c7bdc87803aae52b84240f0a12d9b59cd0ce6ee"), looks := false }, kinds := [], alts := [], laidByText := true, laidKinds := [.data], laidTests := true, laidLooks := .later }
def SegmentPutsCardSaid : Prop := Claim7.holds Tryd.pinned (.plain (OpenSpec.ofChange segmentPutsSpec)) segmentPutsCard

/-- THE TIED CARD OF 'ferrybridgelaw22.NetFull'. -/
def netFullCard : Claim7 := { stood := { row := netFullRow, standIns := [], harness := (true, "ddc8b72e4e1216c18dbce3046c7bdc87803aae52b84240f0a12d9b59cd0ce6ee"), looks := false }, kinds := [], alts := [], laidByText := true, laidKinds := [.data], laidTests := true, laidLooks := .later }
def NetFullCardSaid : Prop := Claim7.holds Tryd.pinned (.plain (OpenSpec.ofChange netFullSpec)) netFullCard

/-- THE TIED CARD OF 'ferrybridgelaw22.NetOrder'. -/
def netOrderCard : Claim7 := { stood := { row := netOrderRow, standIns := [], harness := (true, "ddc8b72e4e1216c18dbce3046c7bdc87803aae52b84240f0a12d9b59cd0ce6ee"), looks := false }, kinds := [], alts := [], laidByText := true, laidKinds := [.data], laidTests := true, laidLooks := .later }
def NetOrderCardSaid : Prop := Claim7.holds Tryd.pinned (.plain (OpenSpec.ofChange netOrderSpec)) netOrderCard

/-- THE TIED CARD OF 'ferrybridgelaw22.NetSpoils'. -/
def netSpoilsCard : Claim7 := { stood := { row := netSpoilsRow, standIns := [], harness := (true, "ddc8b72e4e1216c18dbce3046c7bdc87803aae52b84240f0a12d9b59cd0ce6ee"), looks := false }, kinds := [], alts := [], laidByText := true, laidKinds := [.data], laidTests := true, laidLooks := .later }
def NetSpoilsCardSaid : Prop := Claim7.holds Tryd.pinned (.plain (OpenSpec.ofChange netSpoilsSpec)) netSpoilsCard

/-- THE TIED CARD OF 'ferrybridgelaw22.NetCopies'. -/
def netCopiesCard : Claim7 := { stood := { row := netCopiesRow, standIns := [], harness := (true, "ddc8b72e4e1216c18dbce3046c7bdc87803aae52b84240f0a12d9b59cd0ce6ee"), looks := false }, kinds := [], alts := [], laidByText := true, laidKinds := [.data], laidTests := true, laidLooks := .later }
def NetCopiesCardSaid : Prop := Claim7.holds Tryd.pinned (.plain (OpenSpec.ofChange netCopiesSpec)) netCopiesCard

/-- THE TIED CARD OF 'ferrybridgelaw22.NetNil'. -/
def netNilCard : Claim7 := { stood := { row := netNilRow, standIns := [], harness := (true, "ddc8b72e4e1216c18dbce3046c7bdc87803aae52b84240f0a12d9b59cd0ce6ee"), looks := false }, kinds := [], alts := [], laidByText := true, laidKinds := [.data], laidTests := true, laidLooks := .later }
def NetNilCardSaid : Prop := Claim7.holds Tryd.pinned (.plain (OpenSpec.ofChange netNilSpec)) netNilCard

/-- THE SECOND FORM's CARD OF 'ferrybridgelaw08.SegmentSize'. -/
def segmentSizeUptoCard : Claim7 := { stood := { row := segmentSizeUptoRow, standIns := [], harness := (true, "ddc8b72e4e1216c18dbce3046c7bdc87803aae52b84240f0a12d9b59cd0ce6ee"), looks := false }, kinds := [], alts := [], laidByText := true, laidKinds := [.data], laidTests := true, laidLooks := .later }
def SegmentSizeUptoCardSaid : Prop := Claim7.holds Tryd.pinned (.plain (OpenSpec.upto segmentSizeSpec)) segmentSizeUptoCard

/-- THE SECOND FORM's CARD OF 'ferrybridgelaw08.SegmentReplies'. -/
def segmentRepliesUptoCard : Claim7 := { stood := { row := segmentRepliesUptoRow, standIns := [], harness := (true, "ddc8b72e4e1216c18dbce3046c7bdc87803aae52b84240f0a12d9b59cd0ce6ee"), looks := false }, kinds := [], alts := [], laidByText := true, laidKinds := [.data], laidTests := true, laidLooks := .later }
def SegmentRepliesUptoCardSaid : Prop := Claim7.holds Tryd.pinned (.plain (OpenSpec.upto segmentRepliesSpec)) segmentRepliesUptoCard

/-- THE SECOND FORM's CARD OF 'ferrybridgelaw08.SegmentChanged'. -/
def segmentChangedUptoCard : Claim7 := { stood := { row := segmentChangedUptoRow, standIns := [], harness := (true, "ddc8b72e4e1216c18dbce3046c7bdc87803aae52b84240f0a12d9b59cd0ce6ee"), looks := false }, kinds := [], alts := [], laidByText := true, laidKinds := [.data], laidTests := true, laidLooks := .later }
def SegmentChangedUptoCardSaid : Prop := Claim7.holds Tryd.pinned (.plain (OpenSpec.upto segmentChangedSpec)) segmentChangedUptoCard

/-- THE SECOND FORM's CARD OF 'ferrybridgelaw08.SegmentPuts'. -/
def segmentPutsUptoCard : Claim7 := { stood := { row := segmentPutsUptoRow, standIns := [], harness := (true, "ddc8b72e4e1216c18dbce3046c7bdc87803aae52b84240f0a12d9b59cd0ce6ee"), looks := false }, kinds := [], alts := [], laidByText := true, laidKinds := [.data], laidTests := true, laidLooks := .later }
def SegmentPutsUptoCardSaid : Prop := Claim7.holds Tryd.pinned (.plain (OpenSpec.upto segmentPutsSpec)) segmentPutsUptoCard

/-- THE SECOND FORM's CARD OF 'ferrybridgelaw22.NetFull'. -/
def netFullUptoCard : Claim7 := { stood := { row := netFullUptoRow, standIns := [], harness := (true, "ddc8b72e4e1216c18dbce3046c7bdc87803aae52b84240f0a12d9b59cd0ce6ee"), looks := false }, kinds := [], alts := [], laidByText := true, laidKinds := [.data], laidTests := true, laidLooks := .later }
def NetFullUptoCardSaid : Prop := Claim7.holds Tryd.pinned (.plain (OpenSpec.upto netFullSpec)) netFullUptoCard

/-- THE SECOND FORM's CARD OF 'ferrybridgelaw22.NetOrder'. -/
def netOrderUptoCard : Claim7 := { stood := { row := netOrderUptoRow, standIns := [], harness := (true, "ddc8b72e4e1216c18dbce3046c7bdc87803aae52b84240f0a12d9b59cd0ce6ee"), looks := false }, kinds := [], alts := [], laidByText := true, laidKinds := [.data], laidTests := true, laidLooks := .later }
def NetOrderUptoCardSaid : Prop := Claim7.holds Tryd.pinned (.plain (OpenSpec.upto netOrderSpec)) netOrderUptoCard

/-- THE SECOND FORM's CARD OF 'ferrybridgelaw22.NetSpoils'. -/
def netSpoilsUptoCard : Claim7 := { stood := { row := netSpoilsUptoRow, standIns := [], harness := (true, "ddc8b72e4e1216c18dbce3046c7bdc87803aae52b84240f0a12d9b59cd0ce6ee"), looks := false }, kinds := [], alts := [], laidByText := true, laidKinds := [.data], laidTests := true, laidLooks := .later }
def NetSpoilsUptoCardSaid : Prop := Claim7.holds Tryd.pinned (.plain (OpenSpec.upto netSpoilsSpec)) netSpoilsUptoCard

/-- THE SECOND FORM's CARD OF 'ferrybridgelaw22.NetCopies'. -/
def netCopiesUptoCard : Claim7 := { stood := { row := netCopiesUptoRow, standIns := [], harness := (true, "ddc8b72e4e1216c18dbce3046c7bdc87803aae52b84240f0a12d9b59cd0ce6ee"), looks := false }, kinds := [], alts := [], laidByText := true, laidKinds := [.data], laidTests := true, laidLooks := .later }
def NetCopiesUptoCardSaid : Prop := Claim7.holds Tryd.pinned (.plain (OpenSpec.upto netCopiesSpec)) netCopiesUptoCard

/-- THE SECOND FORM's CARD OF 'ferrybridgelaw22.NetNil'. -/
def netNilUptoCard : Claim7 := { stood := { row := netNilUptoRow, standIns := [], harness := (true, "ddc8b72e4e1216c18dbce3046c7bdc87803aae52b84240f0a12d9b59cd0ce6ee"), looks := false }, kinds := [], alts := [], laidByText := true, laidKinds := [.data], laidTests := true, laidLooks := .later }
def NetNilUptoCardSaid : Prop := Claim7.holds Tryd.pinned (.plain (OpenSpec.upto netNilSpec)) netNilUptoCard
end Rows
end Go.Proofs.YthnennleblgjeaaDoor
