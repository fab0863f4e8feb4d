/- The law SegmentReplies, of segments as they are handed over. -/
import Derived.Test.YthnennleblgjeaaDoorSeg10
import Derived.Test.YthnennleblgjeaaDoorSegOpen
namespace Go.Proofs.YthnennleblgjeaaDoor
open Go.ChangeShapes Go.WideShapes Go.ChangeAt Go.RowKit
set_option linter.unusedVariables false
theorem lawSegmentReplies (w : World) (hT : TabW w) (s : Sg) (hs : s.At w) (o : Sg) (ho : o.At w) : Calls Tryd.prog 4 #[.agg s.cells.toArray, .agg o.cells.toArray] w fun r w' => r = .returned (.bool true) ∧ Fine w w' :=
  segReplies_any s.N o.N s.A s.B o.A o.B s.l.length o.l.length s.xs.length o.xs.length s.c s.d o.c o.d w hT s.l o.l s.xs o.xs rfl rfl rfl rfl hs.opts ho.opts hs.data ho.data
end Go.Proofs.YthnennleblgjeaaDoor
