/-
  DERIVED. GIVEN WITH THE SEED: THE CARDS: each row of YtgfahpnndmocbaaGreatDoorRows.lean that lists a variable, with what it lists TIED to the program's text (the seventh form; the later family's looks); each row that meets fmt, with fmt's text TOLD by the authors' own Lean function (tested against real Go, not proved from fmt's source: count such statements apart). THE CARD IS WHAT COUNTS. Prove the row's statement (the work); the ties are given (YtgfahpnndmocbaaGreatDoorTie.lean); close each card by the builder's one call (the guide's Derived/Test/ToyasCard.lean, 'card_holds'). Laid BY PROGRAM, IN A SANDBOX (cutbox-door.mjs). By AI agents, Wed Nov 11 2026. No macro, syntax, notation, axiom, sorry.
-/
import Derived.Test.YtgfahpnndmocbaaGreatDoorRows
import GoSem.ClaimSeven
namespace Go.Proofs.YtgfahpnndmocbaaGreatDoor
namespace Rows

/-- THE TIED CARD OF 'ferrybridgetop.TopAlive'. -/
def topAliveCard : Claim7 := { stood := { row := topAliveRow, standIns := [], harness := (true, "1a21c9c01f079705d05db63b06b4c58bf860d882024e22aa0711f660df09a561"), looks := true }, kinds := [], alts := [], laidByText := true, laidKinds := [.data, .data, .data, .data, .sentinel, .sentinel, .data, .data, .pinned], laidTests := true, laidLooks := .later }
def TopAliveCardSaid : Prop := Claim7.holds Tryz.pinned (.plain (OpenSpec.ofChange topAliveSpec)) topAliveCard

/-- THE SECOND FORM's CARD OF 'ferrybridgetop.TopAlive'. -/
def topAliveUptoCard : Claim7 := { stood := { row := topAliveUptoRow, standIns := [], harness := (true, "1a21c9c01f079705d05db63b06b4c58bf860d882024e22aa0711f660df09a561"), looks := true }, kinds := [], alts := [], laidByText := true, laidKinds := [.data, .data, .data, .data, .sentinel, .sentinel, .data, .data, .pinned], laidTests := true, laidLooks := .later }
def TopAliveUptoCardSaid : Prop := Claim7.holds Tryz.pinned (.plain (OpenSpec.upto topAliveSpec)) topAliveUptoCard
end Rows
end Go.Proofs.YtgfahpnndmocbaaGreatDoor
