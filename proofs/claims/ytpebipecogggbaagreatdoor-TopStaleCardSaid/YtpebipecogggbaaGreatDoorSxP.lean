/-
  The law's code, in parts; the first part: what the package wakes to.
-/
import Derived.Test.YtpebipecogggbaaGreatDoorProg
import Derived.Test.YtpebipecogggbaaGreatDoorSx27
import Derived.KernelRfl
namespace Go.Proofs.YtpebipecogggbaaGreatDoor.Sx
open Go Go.RowKit
noncomputable section
set_option linter.unusedVariables false

noncomputable def Ii : List Int → List SV
  | [] => []
  | z :: r => .int .i64 z :: Ii r
noncomputable def movesL : List Int := [0,0,1, 1,1,2, 1,3,4, 2,2,3, 2,3,5, 3,3,7, 4,1,6, 5,2,7, 6,2,7, 7,4,8]
noncomputable def widthsL : List Int := [1, 1, 2, 2, 4, 4, 1, 2, 1, 1]
/-- the package's variables -/
noncomputable def G0 (g : Nat) : Option (List SV) := match g with
  | 0 => some (Ii movesL)
  | 1 => some (Ii widthsL)
  | _ => none
noncomputable abbrev hk0 : FuncId → Option (List SV → Hp → Option (SV × Hp)) := hooks 185 360
noncomputable abbrev ex0 : FuncId → Option (List SV → Option SV) := exts 398 439
noncomputable def sq1 : Code → Code
  | .seq a _ => a
  | c => c
noncomputable def sq2 : Code → Code
  | .seq _ b => b
  | c => c
noncomputable def inB : Code → Code
  | .block _ c => c
  | c => c
noncomputable def inL : Code → Code
  | .loop c => c
  | c => c
noncomputable def bodyOf (f : Nat) : Code := match Tryz.prog.funcs[f]? with
  | some fn => (match fn.body with
    | some c => c
    | none => .skip)
  | none => .skip
/-- the law's -/
noncomputable def bd0 : Code := bodyOf 3
noncomputable def bd1 : Code := sq2 (sq2 bd0)
noncomputable def bd2 : Code := sq2 (sq2 (sq2 (sq2 (sq2 (sq2 (sq2 bd1))))))
noncomputable def ls1 : List Code := [sq1 bd0, sq1 (sq2 bd0)]
noncomputable def cd14 : Code := sq1 (sq1 bd2)
noncomputable def rnd : Code := inL (inB (sq2 (sq1 bd2)))
noncomputable def cd15 : Code := sq1 rnd
noncomputable def bdR : Code := sq2 (sq2 rnd)
noncomputable def tlC : Code := sq2 bd2
/-- 'all' -/
noncomputable def bd9 : Code := bodyOf 9
noncomputable def r9 : Code := sq1 bd9
noncomputable def X9 : Code := inL (inB (sq2 bd9))
noncomputable def T0 : Tp := args0 [.agg [.sym .u64 (.v 0), .sym .u64 (.v 1)], .sym .u32 (.pl (.v 4) 0), .sym .u8 (.bt (.v 3) 0)] 0 .nil
noncomputable def h0 : Hp := ⟨.nil, 0⟩
noncomputable def sAT : List (Nat × SV) := [(1, .sym .u32 (.pl (.v 4) 0)), (2, .sym .u8 (.bt (.v 3) 0)), (3, .ptr 0 0), (6, .bool false)]
noncomputable def sAH : List (Nat × Blk) := [
  (0, .cells [.sym .u64 (.v 0), .sym .u64 (.v 1)])]
noncomputable def sAN : Nat := 265
theorem stepA : chkF Tryz.prog G0 hk0 ex0 100000 ls1 T0 h0 sAT sAH sAN = true := by kernel_rfl
end
end Go.Proofs.YtpebipecogggbaaGreatDoor.Sx
