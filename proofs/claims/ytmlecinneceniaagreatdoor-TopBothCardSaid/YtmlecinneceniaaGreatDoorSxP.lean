/-
  The law's code, in parts.
-/
import Derived.Test.YtmlecinneceniaaGreatDoorProg
import Derived.Test.YtmlecinneceniaaGreatDoorSx27
import Derived.KernelRfl
namespace Go.Proofs.YtmlecinneceniaaGreatDoor.Sx
open Go Go.RowKit
noncomputable section
set_option linter.unusedVariables false

noncomputable def Ii : List Int → List SV
  | [] => []
  | z :: r => .int .i64 z :: Ii r
noncomputable def movesL : List Int := [0,0,1, 1,1,2, 1,3,4, 2,2,3, 2,3,5, 3,3,7, 4,1,6, 5,2,7, 6,2,7, 7,4,8]
noncomputable def widthsL : List Int := [1, 1, 2, 2, 4, 4, 1, 2, 1, 1]
/-- the package's variables -/
noncomputable def G0 (g : Nat) : Option (List SV) := match g with
  | 0 => some (Ii widthsL)
  | 3 => some (Ii movesL)
  | _ => none
noncomputable abbrev hk0 : FuncId → Option (List SV → Hp → Option (SV × Hp)) := hooks 255 219
noncomputable abbrev ex0 : FuncId → Option (List SV → Option SV) := exts 286 392
noncomputable def sq1 : Code → Code
  | .seq a _ => a
  | c => c
noncomputable def sq2 : Code → Code
  | .seq _ b => b
  | c => c
noncomputable def inB : Code → Code
  | .block _ c => c
  | c => c
noncomputable def inL : Code → Code
  | .loop c => c
  | c => c
noncomputable def bodyOf (f : Nat) : Code := match Tryz.prog.funcs[f]? with
  | some fn => (match fn.body with
    | some c => c
    | none => .skip)
  | none => .skip
/-- the law's -/
noncomputable def bd0 : Code := bodyOf 3
noncomputable def bd1 : Code := sq2 (sq2 bd0)
noncomputable def ls1 : List Code := [sq1 bd0, sq1 (sq2 bd0)]
noncomputable def ls2 : List Code := [sq1 bd1]
noncomputable def cd4 : Code := sq1 (sq2 bd1)
noncomputable def ls5 : List Code := [sq1 (sq2 (sq2 bd1))]
noncomputable def bd6 : Code := sq2 (sq2 (sq2 bd1))
noncomputable def cd6 : Code := sq1 (sq1 bd6)
noncomputable def rnd : Code := inL (inB (sq2 (sq1 bd6)))
noncomputable def tlC : Code := sq2 bd6
/-- 'all' -/
noncomputable def bdA : Code := bodyOf 7
noncomputable def rA : Code := sq1 bdA
noncomputable def XA : Code := inL (inB (sq2 bdA))
noncomputable def T0 : Tp := args0 [.sym .u64 (.v 0), .sym .u64 (.v 1), .sym .u8 (.bt (.v 3) 0)] 0 .nil
noncomputable def h0 : Hp := ⟨.nil, 0⟩
noncomputable def belowB (p : Nat → Bool) : Nat → Bool := Nat.rec true (fun n r => p n && r)
theorem belowB_ok {p : Nat → Bool} : ∀ {n i : Nat}, belowB p n = true → i < n → p i = true
  | 0, i, _, hi => by omega
  | n + 1, i, h, hi => by
    have h : (p n && belowB p n) = true := h
    rw [Bool.and_eq_true] at h
    by_cases e : i = n
    · subst e; exact h.1
    · exact belowB_ok h.2 (by omega)
noncomputable def sAT : List (Nat × SV) := [(0, .sym .u64 (.v 0)), (1, .sym .u64 (.v 1)), (2, .sym .u8 (.bt (.v 3) 0)), (6, .bool false)]
noncomputable def sAH : List (Nat × Blk) := [
]
noncomputable def sAN : Nat := 264
noncomputable def s3T : List (Nat × SV) := [(2, .sym .u8 (.bt (.v 3) 0)), (6, .bool false), (7, .ptr 271 0)]
noncomputable def s3H : List (Nat × Blk) := [
  (264, .mp [(.sym .u32 (.tok (.key (.tok (.xr (.v 0) 1)) 1)), .agg [.sym .u32 (.tok (.key (.tok (.xr (.v 0) 1)) 1)), .int .i64 (.ofNat 1), .bool true, .int .i64 (.ofNat 0)], 0)] 1),
  (265, .cells [.int .i64 (.ofNat 4), .map 264]),
  (266, .cells [.sym .u64 (.v 0), .int .u64 (.ofNat 1), .nils, .slu 273 0 1 1, .slu 345 0 1 1, .int .i64 (.ofNat 1), .ptr 265 0, .int .i64 (.ofNat 0), .nils]),
  (267, .mp [(.sym .u32 (.tok (.key (.tok (.xr (.v 1) 1)) 1)), .agg [.sym .u32 (.tok (.key (.tok (.xr (.v 1) 1)) 1)), .int .i64 (.ofNat 1), .bool true, .int .i64 (.ofNat 0)], 0)] 1),
  (268, .cells [.int .i64 (.ofNat 4), .map 267]),
  (269, .cells [.sym .u64 (.v 1), .int .u64 (.ofNat 1), .nils, .slu 275 0 1 1, .slu 854 0 1 1, .int .i64 (.ofNat 1), .ptr 268 0, .int .i64 (.ofNat 0), .nils]),
  (270, .cells [.sli 1547 0 0 0]),
  (271, .cells [.ptr 266 0, .ptr 269 0, .ptr 270 0, .int .i64 (.ofNat 0), .int .i64 (.ofNat 0), .slu 2148 0 2 7, .map 276]),
  (273, .cells [.int .i64 (.ofNat 80)]),
  (275, .cells [.int .i64 (.ofNat 80)]),
  (276, .mp [(.int .i64 (.ofNat 0), .fn (.func 36) [.ptr 271 0] [], 0), (.int .i64 (.ofNat 1), .fn (.func 37) [.ptr 271 0] [], 1), (.int .i64 (.ofNat 2), .fn (.func 38) [.ptr 271 0] [], 2), (.int .i64 (.ofNat 3), .fn (.func 39) [.ptr 271 0] [], 3), (.int .i64 (.ofNat 4), .fn (.func 40) [.ptr 271 0] [], 4), (.int .i64 (.ofNat 5), .fn (.func 41) [.ptr 271 0] [], 5), (.int .i64 (.ofNat 6), .fn (.func 42) [.ptr 271 0] [], 6), (.int .i64 (.ofNat 7), .fn (.func 43) [.ptr 271 0] [], 7), (.int .i64 (.ofNat 8), .fn (.func 44) [.ptr 271 0] [], 8), (.int .i64 (.ofNat 9), .fn (.func 45) [.ptr 271 0] [], 9), (.int .i64 (.ofNat 10), .fn (.func 46) [.ptr 271 0] [], 10), (.int .i64 (.ofNat 11), .fn (.func 47) [.ptr 271 0] [], 11), (.int .i64 (.ofNat 12), .fn (.func 48) [.ptr 271 0] [], 12), (.int .i64 (.ofNat 13), .fn (.func 49) [.ptr 271 0] [], 13), (.int .i64 (.ofNat 14), .fn (.func 50) [.ptr 271 0] [], 14), (.int .i64 (.ofNat 15), .fn (.func 51) [.ptr 271 0] [], 15)] 16),
  (288, .cells [.bool true, .bool false, .bool false, .bool false, .bool false, .bool true, .bool false, .bool false, .bool false, .bool true, .bool false, .bool false, .bool false, .bool false, .bool false, .bool false, .bool false, .bool false, .bool false, .bool false, .bool false, .bool false, .bool false, .bool false, .int .i64 (.ofNat 8)]),
  (289, .cells [.sym .u64 (.key (.tok (.xr (.v 0) 1)) 1), .sym .u64 (.key (.tok (.xr (.v 1) 1)) 1), .bool true, .int .i64 (.ofNat 0), .int .i64 (.ofNat 1), .int .i64 (.ofNat 1025), .int .i64 (.ofNat 80), .int .i64 (.ofNat 1), .int .i64 (.ofNat 0), .ptr 291 0, .ptr 294 0, .ptr 288 0, .ptr 297 0, .nilp, .nilp, .nilp, .nilp, .nilp, .nilp, .nilp, .int .i64 (.ofNat 0), .int .i64 (.ofNat 0), .ptr 296 0, .int .u64 (.ofNat 1), .int .i64 (.ofNat 0), .int .i64 (.ofNat 0), .bool false, .int .i64 (.ofNat 0), .bool true, .nils, .bool false, .bool false]),
  (290, .cells [.nils]),
  (291, .cells [.ptr 290 0, .int .i64 (.ofNat 1), .int .i64 (.ofNat 1), .int .i64 (.ofNat 33), .nils, .bool false, .bool false]),
  (292, .mp [] 0),
  (293, .cells [.nils]),
  (294, .cells [.int .i64 (.ofNat 1), .nils, .map 292, .ptr 293 0, .int .i64 (.ofNat 0)]),
  (295, .mp [(.int .i64 (.ofNat 11), .int .i64 (.ofNat 40), 1)] 2),
  (296, .cells [.nils, .nils, .nils, .nils, .slu 326 0 0 2, .nils, .nils, .nils, .nils, .nils, .nils, .nils, .nils, .nils, .nils, .nils, .nils, .nils, .slu 1399 0 1 2, .nils, .nils, .nils, .nils, .nils, .nils, .nils, .nils, .nils, .nils, .nils, .nils, .nils, .nils, .nils, .nils, .nils, .nils, .nils, .nils, .nils, .nils, .nils, .nils, .nils, .nils, .nils, .nils, .nils, .nils, .int .i64 (.ofNat 0), .map 295]),
  (297, .cells [.ptr 299 0, .int .i64 (.ofNat 0), .int .i64 (.ofNat 1), .bool true, .bool false, .bool false, .int .u32 (.ofNat 0), .int .u32 (.ofNat 0), .int .u64 (.ofNat 0)]),
  (298, .cells [.sli 1311 0 0 0, .sym .u32 (.pl (.tok (.xr (.key (.tok (.xr (.v 0) 1)) 1) 4294967296)) 1)]),
  (299, .cells [.ptr 298 0, .bool true, .int .i64 (.ofNat 0), .int .i64 (.ofNat 0), .int .i64 (.ofNat 0), .int .i64 (.ofNat 3), .sym .u32 (.pl (.tok (.xr (.key (.tok (.xr (.v 1) 1)) 1) 4294967296)) 1), .int .i64 (.ofNat 0), .int .i64 (.ofNat 0), .bool false, .int .i64 (.ofNat 0), .bool true, .nils]),
  (326, .cells [.int .i64 (.ofNat 0), .int .i64 (.ofNat 0)]),
  (343, .cells [.ptr 289 0, .int .i64 (.ofNat 1), .int .i64 (.ofNat 0), .bool false, .int .i64 (.ofNat 0), .bool false, .bool false]),
  (345, .cells [.ptr 343 0]),
  (796, .cells [.bool false, .bool true, .bool false, .bool false, .bool true, .bool false, .bool false, .bool false, .bool false, .bool false, .bool false, .bool false, .bool true, .bool false, .bool false, .bool false, .bool false, .bool false, .bool false, .bool false, .bool false, .bool false, .bool false, .bool false, .int .i64 (.ofNat 8)]),
  (797, .cells [.sym .u64 (.key (.tok (.xr (.v 1) 1)) 1), .sym .u64 (.key (.tok (.xr (.v 0) 1)) 1), .bool true, .int .i64 (.ofNat 1), .int .i64 (.ofNat 0), .int .i64 (.ofNat 80), .int .i64 (.ofNat 1025), .int .i64 (.ofNat 1), .int .i64 (.ofNat 0), .ptr 799 0, .ptr 802 0, .ptr 796 0, .ptr 805 0, .nilp, .nilp, .nilp, .nilp, .nilp, .nilp, .nilp, .int .i64 (.ofNat 0), .int .i64 (.ofNat 0), .ptr 804 0, .int .u64 (.ofNat 1), .int .i64 (.ofNat 0), .int .i64 (.ofNat 0), .bool false, .int .i64 (.ofNat 0), .bool true, .nils, .bool false, .bool false]),
  (798, .cells [.nils]),
  (799, .cells [.ptr 798 0, .int .i64 (.ofNat 1), .int .i64 (.ofNat 1), .int .i64 (.ofNat 33), .nils, .bool false, .bool false]),
  (800, .mp [] 0),
  (801, .cells [.nils]),
  (802, .cells [.int .i64 (.ofNat 1), .nils, .map 800, .ptr 801 0, .int .i64 (.ofNat 0)]),
  (803, .mp [(.int .i64 (.ofNat 11), .int .i64 (.ofNat 40), 1)] 2),
  (804, .cells [.nils, .nils, .nils, .nils, .slu 835 0 0 2, .nils, .nils, .nils, .nils, .nils, .nils, .nils, .nils, .nils, .nils, .nils, .nils, .nils, .slu 2138 0 1 2, .nils, .nils, .nils, .nils, .nils, .nils, .nils, .nils, .nils, .nils, .nils, .nils, .nils, .nils, .nils, .nils, .nils, .nils, .nils, .nils, .nils, .nils, .nils, .nils, .nils, .nils, .nils, .nils, .nils, .nils, .int .i64 (.ofNat 0), .map 803]),
  (805, .cells [.ptr 807 0, .int .i64 (.ofNat 1), .int .i64 (.ofNat 0), .bool false, .bool false, .bool false, .int .u32 (.ofNat 0), .int .u32 (.ofNat 0), .int .u64 (.ofNat 0)]),
  (807, .cells [.ptr 808 0, .bool true, .int .i64 (.ofNat 0), .int .i64 (.ofNat 0), .int .i64 (.ofNat 0), .int .i64 (.ofNat 3), .sym .u32 (.pl (.tok (.xr (.key (.tok (.xr (.v 0) 1)) 1) 4294967296)) 1), .int .i64 (.ofNat 0), .int .i64 (.ofNat 0), .bool false, .int .i64 (.ofNat 0), .bool true, .nils]),
  (808, .cells [.sli 2052 0 0 0, .sym .u32 (.pl (.tok (.xr (.key (.tok (.xr (.v 1) 1)) 1) 4294967296)) 1)]),
  (835, .cells [.int .i64 (.ofNat 0), .int .i64 (.ofNat 0)]),
  (852, .cells [.ptr 797 0, .int .i64 (.ofNat 1), .int .i64 (.ofNat 80), .bool false, .int .i64 (.ofNat 0), .bool false, .bool false]),
  (854, .cells [.ptr 852 0]),
  (1311, .cells []),
  (1399, .cells [.int .i64 (.ofNat 11), .int .i64 (.ofNat 40)]),
  (1545, .cells [.int .u8 (.ofNat 0), .int .u8 (.ofNat 1), .int .u8 (.ofNat 4), .int .u8 (.ofNat 1), .int .u8 (.ofNat 0), .int .u8 (.ofNat 80), .sym .u8 (.hi (.pl (.tok (.xr (.key (.tok (.xr (.v 0) 1)) 1) 4294967296)) 1) 3), .sym .u8 (.bt (.pl (.tok (.xr (.key (.tok (.xr (.v 0) 1)) 1) 4294967296)) 1) 2), .sym .u8 (.bt (.pl (.tok (.xr (.key (.tok (.xr (.v 0) 1)) 1) 4294967296)) 1) 1), .sym .u8 (.bt (.pl (.tok (.xr (.key (.tok (.xr (.v 0) 1)) 1) 4294967296)) 1) 0), .sym .u8 (.hi (.pl (.tok (.xr (.key (.tok (.xr (.v 1) 1)) 1) 4294967296)) 1) 3), .sym .u8 (.bt (.pl (.tok (.xr (.key (.tok (.xr (.v 1) 1)) 1) 4294967296)) 1) 2), .sym .u8 (.bt (.pl (.tok (.xr (.key (.tok (.xr (.v 1) 1)) 1) 4294967296)) 1) 1), .sym .u8 (.bt (.pl (.tok (.xr (.key (.tok (.xr (.v 1) 1)) 1) 4294967296)) 1) 0), .int .u8 (.ofNat 2), .int .u8 (.ofNat 0), .int .u8 (.ofNat 32), .int .u8 (.ofNat 1), .int .u8 (.ofNat 0), .int .u8 (.ofNat 5), .int .u8 (.ofNat 1), .int .u8 (.ofNat 0), .int .u8 (.ofNat 0), .int .u8 (.ofNat 0), .int .u8 (.ofNat 1), .int .u8 (.ofNat 0), .int .u8 (.ofNat 0), .int .u8 (.ofNat 0), .int .u8 (.ofNat 0), .int .u8 (.ofNat 0), .int .u8 (.ofNat 0), .int .u8 (.ofNat 0), .sym .u8 (.hi (.su [(.c 0), (.c 1), (.c 4), (.c 1), (.c 0), (.c 80), (.hi (.pl (.tok (.xr (.key (.tok (.xr (.v 0) 1)) 1) 4294967296)) 1) 3), (.bt (.pl (.tok (.xr (.key (.tok (.xr (.v 0) 1)) 1) 4294967296)) 1) 2), (.bt (.pl (.tok (.xr (.key (.tok (.xr (.v 0) 1)) 1) 4294967296)) 1) 1), (.bt (.pl (.tok (.xr (.key (.tok (.xr (.v 0) 1)) 1) 4294967296)) 1) 0), (.hi (.pl (.tok (.xr (.key (.tok (.xr (.v 1) 1)) 1) 4294967296)) 1) 3), (.bt (.pl (.tok (.xr (.key (.tok (.xr (.v 1) 1)) 1) 4294967296)) 1) 2), (.bt (.pl (.tok (.xr (.key (.tok (.xr (.v 1) 1)) 1) 4294967296)) 1) 1), (.bt (.pl (.tok (.xr (.key (.tok (.xr (.v 1) 1)) 1) 4294967296)) 1) 0), (.c 2), (.c 0), (.c 32), (.c 1), (.c 0), (.c 5), (.c 1), (.c 0), (.c 0), (.c 0), (.c 1), (.c 0), (.c 0), (.c 0), (.c 0), (.c 0), (.c 0), (.c 0)]) 1), .sym .u8 (.bt (.su [(.c 0), (.c 1), (.c 4), (.c 1), (.c 0), (.c 80), (.hi (.pl (.tok (.xr (.key (.tok (.xr (.v 0) 1)) 1) 4294967296)) 1) 3), (.bt (.pl (.tok (.xr (.key (.tok (.xr (.v 0) 1)) 1) 4294967296)) 1) 2), (.bt (.pl (.tok (.xr (.key (.tok (.xr (.v 0) 1)) 1) 4294967296)) 1) 1), (.bt (.pl (.tok (.xr (.key (.tok (.xr (.v 0) 1)) 1) 4294967296)) 1) 0), (.hi (.pl (.tok (.xr (.key (.tok (.xr (.v 1) 1)) 1) 4294967296)) 1) 3), (.bt (.pl (.tok (.xr (.key (.tok (.xr (.v 1) 1)) 1) 4294967296)) 1) 2), (.bt (.pl (.tok (.xr (.key (.tok (.xr (.v 1) 1)) 1) 4294967296)) 1) 1), (.bt (.pl (.tok (.xr (.key (.tok (.xr (.v 1) 1)) 1) 4294967296)) 1) 0), (.c 2), (.c 0), (.c 32), (.c 1), (.c 0), (.c 5), (.c 1), (.c 0), (.c 0), (.c 0), (.c 1), (.c 0), (.c 0), (.c 0), (.c 0), (.c 0), (.c 0), (.c 0)]) 0)]),
  (1547, .cells [.int .i64 (.ofNat 1), .sli 1545 0 34 34]),
  (2052, .cells []),
  (2138, .cells [.int .i64 (.ofNat 11), .int .i64 (.ofNat 40)]),
  (2148, .cells [.int .i64 (.ofNat 0), .int .i64 (.ofNat 0), .int .i64 (.ofNat 5), .int .i64 (.ofNat 1), .int .i64 (.ofNat 0), .nils, .int .i64 (.ofNat 0), .int .i64 (.ofNat 1), .int .i64 (.ofNat 0), .int .i64 (.ofNat 6), .int .i64 (.ofNat 1), .int .i64 (.ofNat 0), .nils, .int .i64 (.ofNat 0)])]
noncomputable def s3N : Nat := 2149
noncomputable def s4T (k : Nat) : List (Nat × SV) := [(6, .bool false), (7, .ptr 271 0), (8, .int .i64 (.ofNat k))]
end
end Go.Proofs.YtmlecinneceniaaGreatDoor.Sx
