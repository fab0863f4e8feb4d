/-
  The fifth part: nine ticks.
-/
import Derived.Test.YtpebipecogggbaaGreatDoorSxQ2
namespace Go.Proofs.YtpebipecogggbaaGreatDoor.Sx
open Go Go.RowKit
noncomputable section
set_option linter.unusedVariables false

noncomputable def sBT : List (Nat × SV) := [(1, .sym .u32 (.pl (.v 4) 0)), (2, .sym .u8 (.bt (.v 3) 0)), (6, .bool false), (7, .ptr 272 0), (8, .ptr 270 0), (9, .sym .u32 (.tok (.key (.tok (.xr (.v 1) 1)) 1)))]
noncomputable def sBH : List (Nat × Blk) := [
  (265, .mp [(.sym .u32 (.tok (.key (.tok (.xr (.v 0) 1)) 1)), .agg [.sym .u32 (.tok (.key (.tok (.xr (.v 0) 1)) 1)), .int .i64 (.ofNat 0), .bool false, .int .i64 (.ofNat 18)], 0)] 1),
  (266, .cells [.int .i64 (.ofNat 4), .map 265]),
  (267, .cells [.sym .u64 (.v 0), .int .u64 (.ofNat 1), .nils, .slu 274 0 1 1, .slu 346 0 0 1, .int .i64 (.ofNat 1), .ptr 266 0, .int .i64 (.ofNat 9), .nils]),
  (268, .mp [(.sym .u32 (.tok (.key (.tok (.xr (.v 1) 1)) 1)), .agg [.sym .u32 (.tok (.key (.tok (.xr (.v 1) 1)) 1)), .int .i64 (.ofNat 0), .bool false, .int .i64 (.ofNat 18)], 0)] 1),
  (269, .cells [.int .i64 (.ofNat 4), .map 268]),
  (270, .cells [.sym .u64 (.v 1), .int .u64 (.ofNat 1), .nils, .slu 276 0 1 1, .slu 855 0 0 1, .int .i64 (.ofNat 1), .ptr 269 0, .int .i64 (.ofNat 9), .nils]),
  (271, .cells [.sli 7054 0 0 0]),
  (272, .cells [.ptr 267 0, .ptr 270 0, .ptr 271 0, .int .i64 (.ofNat 0), .int .i64 (.ofNat 0), .slu 2488 0 4 7, .map 277]),
  (274, .cells [.int .i64 (.ofNat 80)]),
  (276, .cells [.int .i64 (.ofNat 80)]),
  (277, .mp [(.int .i64 (.ofNat 0), .fn (.func 49) [.ptr 272 0] [], 0), (.int .i64 (.ofNat 1), .fn (.func 50) [.ptr 272 0] [], 1), (.int .i64 (.ofNat 2), .fn (.func 51) [.ptr 272 0] [], 2), (.int .i64 (.ofNat 3), .fn (.func 52) [.ptr 272 0] [], 3), (.int .i64 (.ofNat 4), .fn (.func 53) [.ptr 272 0] [], 4), (.int .i64 (.ofNat 5), .fn (.func 54) [.ptr 272 0] [], 5), (.int .i64 (.ofNat 6), .fn (.func 55) [.ptr 272 0] [], 6), (.int .i64 (.ofNat 7), .fn (.func 56) [.ptr 272 0] [], 7), (.int .i64 (.ofNat 8), .fn (.func 57) [.ptr 272 0] [], 8), (.int .i64 (.ofNat 9), .fn (.func 58) [.ptr 272 0] [], 9), (.int .i64 (.ofNat 10), .fn (.func 59) [.ptr 272 0] [], 10), (.int .i64 (.ofNat 11), .fn (.func 60) [.ptr 272 0] [], 11), (.int .i64 (.ofNat 12), .fn (.func 61) [.ptr 272 0] [], 12), (.int .i64 (.ofNat 13), .fn (.func 62) [.ptr 272 0] [], 13), (.int .i64 (.ofNat 14), .fn (.func 63) [.ptr 272 0] [], 14), (.int .i64 (.ofNat 15), .fn (.func 64) [.ptr 272 0] [], 15)] 16),
  (346, .cells [.nilp]),
  (855, .cells [.nilp]),
  (2488, .cells [.int .i64 (.ofNat 0), .int .i64 (.ofNat 0), .int .i64 (.ofNat 5), .int .i64 (.ofNat 1), .int .i64 (.ofNat 0), .nils, .int .i64 (.ofNat 0), .int .i64 (.ofNat 1), .int .i64 (.ofNat 0), .int .i64 (.ofNat 6), .int .i64 (.ofNat 1), .int .i64 (.ofNat 0), .nils, .int .i64 (.ofNat 0), .int .i64 (.ofNat 1), .int .i64 (.ofNat 0), .int .i64 (.ofNat 10), .int .i64 (.ofNat 1), .int .i64 (.ofNat 0), .nils, .int .i64 (.ofNat 0), .int .i64 (.ofNat 0), .int .i64 (.ofNat 0), .int .i64 (.ofNat 10), .int .i64 (.ofNat 1), .int .i64 (.ofNat 0), .nils, .int .i64 (.ofNat 0)]),
  (7041, .cells [.int .u8 (.ofNat 1), .int .u8 (.ofNat 0), .int .u8 (.ofNat 0), .int .u8 (.ofNat 80), .int .u8 (.ofNat 4), .int .u8 (.ofNat 1), .sym .u8 (.hi (.pl (.tok (.xr (.key (.tok (.xr (.v 1) 1)) 1) 4294967296)) 2) 3), .sym .u8 (.bt (.pl (.tok (.xr (.key (.tok (.xr (.v 1) 1)) 1) 4294967296)) 2) 2), .sym .u8 (.bt (.pl (.tok (.xr (.key (.tok (.xr (.v 1) 1)) 1) 4294967296)) 2) 1), .sym .u8 (.bt (.pl (.tok (.xr (.key (.tok (.xr (.v 1) 1)) 1) 4294967296)) 2) 0), .sym .u8 (.hi (.pl (.tok (.xr (.key (.tok (.xr (.v 0) 1)) 1) 4294967296)) 2) 3), .sym .u8 (.bt (.pl (.tok (.xr (.key (.tok (.xr (.v 0) 1)) 1) 4294967296)) 2) 2), .sym .u8 (.bt (.pl (.tok (.xr (.key (.tok (.xr (.v 0) 1)) 1) 4294967296)) 2) 1), .sym .u8 (.bt (.pl (.tok (.xr (.key (.tok (.xr (.v 0) 1)) 1) 4294967296)) 2) 0), .int .u8 (.ofNat 2), .int .u8 (.ofNat 0), .int .u8 (.ofNat 32), .int .u8 (.ofNat 1), .int .u8 (.ofNat 0), .int .u8 (.ofNat 5), .int .u8 (.ofNat 1), .int .u8 (.ofNat 0), .int .u8 (.ofNat 0), .int .u8 (.ofNat 0), .int .u8 (.ofNat 2), .int .u8 (.ofNat 0), .int .u8 (.ofNat 0), .int .u8 (.ofNat 0), .int .u8 (.ofNat 0), .int .u8 (.ofNat 0), .int .u8 (.ofNat 0), .int .u8 (.ofNat 0), .sym .u8 (.hi (.su [(.c 1), (.c 0), (.c 0), (.c 80), (.c 4), (.c 1), (.hi (.pl (.tok (.xr (.key (.tok (.xr (.v 1) 1)) 1) 4294967296)) 2) 3), (.bt (.pl (.tok (.xr (.key (.tok (.xr (.v 1) 1)) 1) 4294967296)) 2) 2), (.bt (.pl (.tok (.xr (.key (.tok (.xr (.v 1) 1)) 1) 4294967296)) 2) 1), (.bt (.pl (.tok (.xr (.key (.tok (.xr (.v 1) 1)) 1) 4294967296)) 2) 0), (.hi (.pl (.tok (.xr (.key (.tok (.xr (.v 0) 1)) 1) 4294967296)) 2) 3), (.bt (.pl (.tok (.xr (.key (.tok (.xr (.v 0) 1)) 1) 4294967296)) 2) 2), (.bt (.pl (.tok (.xr (.key (.tok (.xr (.v 0) 1)) 1) 4294967296)) 2) 1), (.bt (.pl (.tok (.xr (.key (.tok (.xr (.v 0) 1)) 1) 4294967296)) 2) 0), (.c 2), (.c 0), (.c 32), (.c 1), (.c 0), (.c 5), (.c 1), (.c 0), (.c 0), (.c 0), (.c 2), (.c 0), (.c 0), (.c 0), (.c 0), (.c 0), (.c 0), (.c 0)]) 1), .sym .u8 (.bt (.su [(.c 1), (.c 0), (.c 0), (.c 80), (.c 4), (.c 1), (.hi (.pl (.tok (.xr (.key (.tok (.xr (.v 1) 1)) 1) 4294967296)) 2) 3), (.bt (.pl (.tok (.xr (.key (.tok (.xr (.v 1) 1)) 1) 4294967296)) 2) 2), (.bt (.pl (.tok (.xr (.key (.tok (.xr (.v 1) 1)) 1) 4294967296)) 2) 1), (.bt (.pl (.tok (.xr (.key (.tok (.xr (.v 1) 1)) 1) 4294967296)) 2) 0), (.hi (.pl (.tok (.xr (.key (.tok (.xr (.v 0) 1)) 1) 4294967296)) 2) 3), (.bt (.pl (.tok (.xr (.key (.tok (.xr (.v 0) 1)) 1) 4294967296)) 2) 2), (.bt (.pl (.tok (.xr (.key (.tok (.xr (.v 0) 1)) 1) 4294967296)) 2) 1), (.bt (.pl (.tok (.xr (.key (.tok (.xr (.v 0) 1)) 1) 4294967296)) 2) 0), (.c 2), (.c 0), (.c 32), (.c 1), (.c 0), (.c 5), (.c 1), (.c 0), (.c 0), (.c 0), (.c 2), (.c 0), (.c 0), (.c 0), (.c 0), (.c 0), (.c 0), (.c 0)]) 0)]),
  (7054, .cells [.int .i64 (.ofNat 0), .sli 7041 0 34 34])]
noncomputable def sBN : Nat := 8724
noncomputable def ls5 : List Code := [sq1 (sq2 (sq2 (sq2 (sq2 (sq2 (sq2 bd1))))))]
theorem stepB3 : chkF Tryz.prog G0 hk0 ex0 100000 ls5 (mkT s8T) ⟨mkB s8H, s8N⟩ sBT sBH sBN = true := by kernel_rfl
end
end Go.Proofs.YtpebipecogggbaaGreatDoor.Sx
