/-
  DERIVED. GIVEN WITH THE SEED: THE CARDS: each row of YtbhledflfejdmaaDoorRows.lean that lists a variable, with what it lists TIED to the program's text (the seventh form; the later family's looks); each row that meets fmt, with fmt's text TOLD by the authors' own Lean function (tested against real Go, not proved from fmt's source: count such statements apart). THE CARD IS WHAT COUNTS. Prove the row's statement (the work); the ties are given (YtbhledflfejdmaaDoorTie.lean); close each card by the builder's one call (the guide's Derived/Test/ToyasCard.lean, 'card_holds'). Laid BY PROGRAM, IN A SANDBOX (cutbox-door.mjs). By AI agents, Wed Nov 11 2026. No macro, syntax, notation, axiom, sorry.
-/
import Derived.Test.YtbhledflfejdmaaDoorRows
import GoSem.ClaimSeven
namespace Go.Proofs.YtbhledflfejdmaaDoor
namespace Rows

/-- THE TIED CARD OF 'ferrybridgelaw19.CloseSteps'. -/
def closeStepsCard : Claim7 := { stood := { row := closeStepsRow, standIns := [], harness := (true, "598de222d3e9bedeee9768981beb404879980dd17e44e47852149ada1032a54b"), looks := false }, kinds := [], alts := [], laidByText := true, laidKinds := [.data], laidTests := true, laidLooks := .later }
def CloseStepsCardSaid : Prop := Claim7.holds Tryd.pinned (.plain (OpenSpec.ofChange closeStepsSpec)) closeStepsCard

/-- THE TIED CARD OF 'ferrybridgelaw19.CloseSides'. -/
def closeSidesCard : Claim7 := { stood := { row := closeSidesRow, standIns := [], harness := (true, "598de222d3e9bedeee9768981beb404879980dd17e44e47852149ada1032a54b"), looks := false }, kinds := [], alts := [], laidByText := true, laidKinds := [.data], laidTests := true, laidLooks := .later }
def CloseSidesCardSaid : Prop := Claim7.holds Tryd.pinned (.plain (OpenSpec.ofChange closeSidesSpec)) closeSidesCard

/-- THE TIED CARD OF 'ferrybridgelaw19.ClosePaths'. -/
def closePathsCard : Claim7 := { stood := { row := closePathsRow, standIns := [], harness := (true, "598de222d3e9bedeee9768981beb404879980dd17e44e47852149ada1032a54b"), looks := false }, kinds := [], alts := [], laidByText := true, laidKinds := [.data], laidTests := true, laidLooks := .later }
def ClosePathsCardSaid : Prop := Claim7.holds Tryd.pinned (.plain (OpenSpec.ofChange closePathsSpec)) closePathsCard

/-- THE TIED CARD OF 'ferrybridgelaw19.CloseEnds'. -/
def closeEndsCard : Claim7 := { stood := { row := closeEndsRow, standIns := [], harness := (true, "598de222d3e9bedeee9768981beb404879980dd17e44e47852149ada1032a54b"), looks := false }, kinds := [], alts := [], laidByText := true, laidKinds := [.data], laidTests := true, laidLooks := .later }
def CloseEndsCardSaid : Prop := Claim7.holds Tryd.pinned (.plain (OpenSpec.ofChange closeEndsSpec)) closeEndsCard

/-- THE SECOND FORM's CARD OF 'ferrybridgelaw19.CloseSteps'. -/
def closeStepsUptoCard : Claim7 := { stood := { row := closeStepsUptoRow, standIns := [], harness := (true, "598de222d3e9bedeee9768981beb404879980dd17e44e47852149ada1032a54b"), looks := false }, kinds := [], alts := [], laidByText := true, laidKinds := [.data], laidTests := true, laidLooks := .later }
def CloseStepsUptoCardSaid : Prop := Claim7.holds Tryd.pinned (.plain (OpenSpec.upto closeStepsSpec)) closeStepsUptoCard

/-- THE SECOND FORM's CARD OF 'ferrybridgelaw19.CloseSides'. -/
def closeSidesUptoCard : Claim7 := { stood := { row := closeSidesUptoRow, standIns := [], harness := (true, "598de222d3e9bedeee9768981beb404879980dd17e44e47852149ada1032a54b"), looks := false }, kinds := [], alts := [], laidByText := true, laidKinds := [.data], laidTests := true, laidLooks := .later }
def CloseSidesUptoCardSaid : Prop := Claim7.holds Tryd.pinned (.plain (OpenSpec.upto closeSidesSpec)) closeSidesUptoCard

/-- THE SECOND FORM's CARD OF 'ferrybridgelaw19.ClosePaths'. -/
def closePathsUptoCard : Claim7 := { stood := { row := closePathsUptoRow, standIns := [], harness := (true, "598de222d3e9bedeee9768981beb404879980dd17e44e47852149ada1032a54b"), looks := false }, kinds := [], alts := [], laidByText := true, laidKinds := [.data], laidTests := true, laidLooks := .later }
def ClosePathsUptoCardSaid : Prop := Claim7.holds Tryd.pinned (.plain (OpenSpec.upto closePathsSpec)) closePathsUptoCard

/-- THE SECOND FORM's CARD OF 'ferrybridgelaw19.CloseEnds'. -/
def closeEndsUptoCard : Claim7 := { stood := { row := closeEndsUptoRow, standIns := [], harness := (true, "598de222d3e9bedeee9768981beb404879980dd17e44e47852149ada1032a54b"), looks := false }, kinds := [], alts := [], laidByText := true, laidKinds := [.data], laidTests := true, laidLooks := .later }
def CloseEndsUptoCardSaid : Prop := Claim7.holds Tryd.pinned (.plain (OpenSpec.upto closeEndsSpec)) closeEndsUptoCard
end Rows
end Go.Proofs.YtbhledflfejdmaaDoor
