/- The law SegmentPuts, of a segment as it is handed over. -/
import Derived.Test.YthnennleblgjeaaDoorXSeg19
namespace Go.Proofs.YthnennleblgjeaaDoor
set_option linter.unusedVariables false
set_option linter.unusedSimpArgs false
open Go.ChangeShapes Go.WideShapes Go.ChangeAt Go.RowKit
set_option linter.unusedVariables false
theorem lawSegmentPuts (w : World) (hT : TabW w) (s : Sg) (hs : s.At w) : Calls Tryd.prog 6 #[.agg s.cells.toArray] w fun r w' => r = .returned (.bool true) ∧ Fine w w' :=
  segPuts_any s.N s.A s.B s.l.length s.xs.length s.c s.d w hT s.l s.xs rfl rfl hs.num hs.ok hs.opts hs.data
end Go.Proofs.YthnennleblgjeaaDoor
