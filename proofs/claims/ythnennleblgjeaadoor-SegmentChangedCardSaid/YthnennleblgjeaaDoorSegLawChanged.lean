/- The law SegmentChanged, of a segment as it is handed over. -/
import Derived.Test.YthnennleblgjeaaDoorSeg13
namespace Go.Proofs.YthnennleblgjeaaDoor
open Go.ChangeShapes Go.WideShapes Go.ChangeAt Go.RowKit
set_option linter.unusedVariables false
theorem lawSegmentChanged (w : World) (hT : TabW w) (s : Sg) (hs : s.At w) (n : Int) (wn : (Lit.int .u16 n).wf = true) (y : Int) (wy : (Lit.int .u8 y).wf = true) : Calls Tryd.prog 5 #[.agg s.cells.toArray, .int .u16 n, .int .u8 y] w fun r w' => r = .returned (.bool true) ∧ Fine w w' := by
  have hn := bounds_u16 wn
  have hy := bounds_u8 wy
  exact segChanged_any s.N s.A s.B s.l.length s.xs.length s.c s.d w hT s.l s.xs rfl rfl hs.num hs.ok hs.opts hs.data n y (by omega) (by omega)
end Go.Proofs.YthnennleblgjeaaDoor
