/-
  DERIVED. GIVEN WITH THE SEED: THE CARDS: each row of YtmlecinneceniaaGreatDoorRows.lean that lists a variable, with what it lists TIED to the program's text (the seventh form; the later family's looks); each row that meets fmt, with fmt's text TOLD by the authors' own Lean function (tested against real Go, not proved from fmt's source: count such statements apart). THE CARD IS WHAT COUNTS. Prove the row's statement (the work); the ties are given (YtmlecinneceniaaGreatDoorTie.lean); close each card by the builder's one call (the guide's Derived/Test/ToyasCard.lean, 'card_holds'). Laid BY PROGRAM, IN A SANDBOX (cutbox-door.mjs). By AI agents, Wed Nov 11 2026. No macro, syntax, notation, axiom, sorry.
-/
import Derived.Test.YtmlecinneceniaaGreatDoorRows
import GoSem.ClaimSeven
namespace Go.Proofs.YtmlecinneceniaaGreatDoor
namespace Rows

/-- THE TIED CARD OF 'ferrybridgetop.TopBoth'. -/
def topBothCard : Claim7 := { stood := { row := topBothRow, standIns := [], harness := (true, "6111eb9fb31a3247c0ced751183ece03178595db53907f0c1719f8130abedbfc"), looks := true }, kinds := [], alts := [], laidByText := true, laidKinds := [.data, .data, .data, .data, .sentinel, .sentinel, .data, .data, .pinned], laidTests := true, laidLooks := .later }
def TopBothCardSaid : Prop := Claim7.holds Tryz.pinned (.plain (OpenSpec.ofChange topBothSpec)) topBothCard

/-- THE SECOND FORM's CARD OF 'ferrybridgetop.TopBoth'. -/
def topBothUptoCard : Claim7 := { stood := { row := topBothUptoRow, standIns := [], harness := (true, "6111eb9fb31a3247c0ced751183ece03178595db53907f0c1719f8130abedbfc"), looks := true }, kinds := [], alts := [], laidByText := true, laidKinds := [.data, .data, .data, .data, .sentinel, .sentinel, .data, .data, .pinned], laidTests := true, laidLooks := .later }
def TopBothUptoCardSaid : Prop := Claim7.holds Tryz.pinned (.plain (OpenSpec.upto topBothSpec)) topBothUptoCard
end Rows
end Go.Proofs.YtmlecinneceniaaGreatDoor
