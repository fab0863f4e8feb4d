/-
  The law's code, in parts.
-/
import Derived.Test.YtgfahpnndmocbaaGreatDoorProg
import Derived.Test.YtgfahpnndmocbaaGreatDoorSx27
import Derived.KernelRfl
namespace Go.Proofs.YtgfahpnndmocbaaGreatDoor.Sx
open Go Go.RowKit
noncomputable section
set_option linter.unusedVariables false

noncomputable def Ii : List Int → List SV
  | [] => []
  | z :: r => .int .i64 z :: Ii r
noncomputable def movesL : List Int := [0,0,1, 1,1,2, 1,3,4, 2,2,3, 2,3,5, 3,3,7, 4,1,6, 5,2,7, 6,2,7, 7,4,8]
noncomputable def widthsL : List Int := [1, 1, 2, 2, 4, 4, 1, 2, 1, 1]
/-- the package's variables -/
noncomputable def G0 (g : Nat) : Option (List SV) := match g with
  | 0 => some (Ii widthsL)
  | 3 => some (Ii movesL)
  | _ => none
noncomputable abbrev hk0 : FuncId → Option (List SV → Hp → Option (SV × Hp)) := hooks 247 200
noncomputable abbrev ex0 : FuncId → Option (List SV → Option SV) := exts 283 392
noncomputable def sq1 : Code → Code
  | .seq a _ => a
  | c => c
noncomputable def sq2 : Code → Code
  | .seq _ b => b
  | c => c
noncomputable def inB : Code → Code
  | .block _ c => c
  | c => c
noncomputable def inL : Code → Code
  | .loop c => c
  | c => c
noncomputable def bodyOf (f : Nat) : Code := match Tryz.prog.funcs[f]? with
  | some fn => (match fn.body with
    | some c => c
    | none => .skip)
  | none => .skip
/-- the law's -/
noncomputable def bd0 : Code := bodyOf 3
noncomputable def bd1 : Code := sq2 (sq2 bd0)
noncomputable def ls1 : List Code := [sq1 bd0, sq1 (sq2 bd0)]
noncomputable def ls2 : List Code := [sq1 bd1]
noncomputable def bd4 : Code := sq2 bd1
noncomputable def cd4 : Code := sq1 (sq1 bd4)
noncomputable def rnd : Code := inL (inB (sq2 (sq1 bd4)))
noncomputable def tlC : Code := sq2 bd4
/-- 'all' -/
noncomputable def bdA : Code := bodyOf 9
noncomputable def rA : Code := sq1 bdA
noncomputable def XA : Code := inL (inB (sq2 bdA))
noncomputable def T0 (v : Bool) : Tp := args0 [.sym .u64 (.v 0), .sym .u64 (.v 1), .bool v] 0 .nil
noncomputable def h0 : Hp := ⟨.nil, 0⟩
noncomputable def a0T : List (Nat × SV) := [(0, .ptr 271 0), (2, .int .i64 (.ofNat 0))]
end
end Go.Proofs.YtgfahpnndmocbaaGreatDoor.Sx
