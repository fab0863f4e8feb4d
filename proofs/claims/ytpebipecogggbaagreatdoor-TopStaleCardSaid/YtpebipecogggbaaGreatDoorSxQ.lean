/-
  The second part: two hosts that have dialed.
-/
import Derived.Test.YtpebipecogggbaaGreatDoorSxP
namespace Go.Proofs.YtpebipecogggbaaGreatDoor.Sx
open Go Go.RowKit
noncomputable section
set_option linter.unusedVariables false

noncomputable def s3T : List (Nat × SV) := [(1, .sym .u32 (.pl (.v 4) 0)), (2, .sym .u8 (.bt (.v 3) 0)), (6, .bool false), (7, .ptr 272 0)]
noncomputable def s3H : List (Nat × Blk) := [
  (265, .mp [(.sym .u32 (.tok (.key (.tok (.xr (.v 0) 1)) 1)), .agg [.sym .u32 (.tok (.key (.tok (.xr (.v 0) 1)) 1)), .int .i64 (.ofNat 1), .bool true, .int .i64 (.ofNat 0)], 0)] 1),
  (266, .cells [.int .i64 (.ofNat 4), .map 265]),
  (267, .cells [.sym .u64 (.v 0), .int .u64 (.ofNat 1), .nils, .slu 274 0 1 1, .slu 346 0 1 1, .int .i64 (.ofNat 1), .ptr 266 0, .int .i64 (.ofNat 0), .nils]),
  (268, .mp [(.sym .u32 (.tok (.key (.tok (.xr (.v 1) 1)) 1)), .agg [.sym .u32 (.tok (.key (.tok (.xr (.v 1) 1)) 1)), .int .i64 (.ofNat 1), .bool true, .int .i64 (.ofNat 0)], 0)] 1),
  (269, .cells [.int .i64 (.ofNat 4), .map 268]),
  (270, .cells [.sym .u64 (.v 1), .int .u64 (.ofNat 1), .nils, .slu 276 0 1 1, .slu 855 0 1 1, .int .i64 (.ofNat 1), .ptr 269 0, .int .i64 (.ofNat 0), .nils]),
  (271, .cells [.sli 1548 0 0 0]),
  (272, .cells [.ptr 267 0, .ptr 270 0, .ptr 271 0, .int .i64 (.ofNat 0), .int .i64 (.ofNat 0), .slu 2149 0 2 7, .map 277]),
  (274, .cells [.int .i64 (.ofNat 80)]),
  (276, .cells [.int .i64 (.ofNat 80)]),
  (277, .mp [(.int .i64 (.ofNat 0), .fn (.func 49) [.ptr 272 0] [], 0), (.int .i64 (.ofNat 1), .fn (.func 50) [.ptr 272 0] [], 1), (.int .i64 (.ofNat 2), .fn (.func 51) [.ptr 272 0] [], 2), (.int .i64 (.ofNat 3), .fn (.func 52) [.ptr 272 0] [], 3), (.int .i64 (.ofNat 4), .fn (.func 53) [.ptr 272 0] [], 4), (.int .i64 (.ofNat 5), .fn (.func 54) [.ptr 272 0] [], 5), (.int .i64 (.ofNat 6), .fn (.func 55) [.ptr 272 0] [], 6), (.int .i64 (.ofNat 7), .fn (.func 56) [.ptr 272 0] [], 7), (.int .i64 (.ofNat 8), .fn (.func 57) [.ptr 272 0] [], 8), (.int .i64 (.ofNat 9), .fn (.func 58) [.ptr 272 0] [], 9), (.int .i64 (.ofNat 10), .fn (.func 59) [.ptr 272 0] [], 10), (.int .i64 (.ofNat 11), .fn (.func 60) [.ptr 272 0] [], 11), (.int .i64 (.ofNat 12), .fn (.func 61) [.ptr 272 0] [], 12), (.int .i64 (.ofNat 13), .fn (.func 62) [.ptr 272 0] [], 13), (.int .i64 (.ofNat 14), .fn (.func 63) [.ptr 272 0] [], 14), (.int .i64 (.ofNat 15), .fn (.func 64) [.ptr 272 0] [], 15)] 16),
  (289, .cells [.bool true, .bool false, .bool false, .bool false, .bool false, .bool true, .bool false, .bool false, .bool false, .bool true, .bool false, .bool false, .bool false, .bool false, .bool false, .bool false, .bool false, .bool false, .bool false, .bool false, .bool false, .bool false, .bool false, .bool false, .int .i64 (.ofNat 8)]),
  (290, .cells [.sym .u64 (.key (.tok (.xr (.v 0) 1)) 1), .sym .u64 (.key (.tok (.xr (.v 1) 1)) 1), .bool true, .int .i64 (.ofNat 0), .int .i64 (.ofNat 1), .int .i64 (.ofNat 1025), .int .i64 (.ofNat 80), .int .i64 (.ofNat 1), .int .i64 (.ofNat 0), .ptr 292 0, .ptr 295 0, .ptr 289 0, .ptr 298 0, .nilp, .nilp, .nilp, .nilp, .nilp, .nilp, .nilp, .int .i64 (.ofNat 0), .int .i64 (.ofNat 0), .ptr 297 0, .int .u64 (.ofNat 1), .int .i64 (.ofNat 0), .int .i64 (.ofNat 0), .bool false, .int .i64 (.ofNat 0), .bool true, .nils, .bool false, .bool false]),
  (291, .cells [.nils]),
  (292, .cells [.ptr 291 0, .int .i64 (.ofNat 1), .int .i64 (.ofNat 1), .int .i64 (.ofNat 33), .nils, .bool false, .bool false]),
  (293, .mp [] 0),
  (294, .cells [.nils]),
  (295, .cells [.int .i64 (.ofNat 1), .nils, .map 293, .ptr 294 0, .int .i64 (.ofNat 0)]),
  (296, .mp [(.int .i64 (.ofNat 11), .int .i64 (.ofNat 40), 1)] 2),
  (297, .cells [.nils, .nils, .nils, .nils, .slu 327 0 0 2, .nils, .nils, .nils, .nils, .nils, .nils, .nils, .nils, .nils, .nils, .nils, .nils, .nils, .slu 1400 0 1 2, .nils, .nils, .nils, .nils, .nils, .nils, .nils, .nils, .nils, .nils, .nils, .nils, .nils, .nils, .nils, .nils, .nils, .nils, .nils, .nils, .nils, .nils, .nils, .nils, .nils, .nils, .nils, .nils, .nils, .nils, .int .i64 (.ofNat 0), .map 296]),
  (298, .cells [.ptr 300 0, .int .i64 (.ofNat 0), .int .i64 (.ofNat 1), .bool true, .bool false, .bool false, .int .u32 (.ofNat 0), .int .u32 (.ofNat 0), .int .u64 (.ofNat 0)]),
  (299, .cells [.sli 1312 0 0 0, .sym .u32 (.pl (.tok (.xr (.key (.tok (.xr (.v 0) 1)) 1) 4294967296)) 1)]),
  (300, .cells [.ptr 299 0, .bool true, .int .i64 (.ofNat 0), .int .i64 (.ofNat 0), .int .i64 (.ofNat 0), .int .i64 (.ofNat 3), .sym .u32 (.pl (.tok (.xr (.key (.tok (.xr (.v 1) 1)) 1) 4294967296)) 1), .int .i64 (.ofNat 0), .int .i64 (.ofNat 0), .bool false, .int .i64 (.ofNat 0), .bool true, .nils]),
  (327, .cells [.int .i64 (.ofNat 0), .int .i64 (.ofNat 0)]),
  (344, .cells [.ptr 290 0, .int .i64 (.ofNat 1), .int .i64 (.ofNat 0), .bool false, .int .i64 (.ofNat 0), .bool false, .bool false]),
  (346, .cells [.ptr 344 0]),
  (797, .cells [.bool false, .bool true, .bool false, .bool false, .bool true, .bool false, .bool false, .bool false, .bool false, .bool false, .bool false, .bool false, .bool true, .bool false, .bool false, .bool false, .bool false, .bool false, .bool false, .bool false, .bool false, .bool false, .bool false, .bool false, .int .i64 (.ofNat 8)]),
  (798, .cells [.sym .u64 (.key (.tok (.xr (.v 1) 1)) 1), .sym .u64 (.key (.tok (.xr (.v 0) 1)) 1), .bool true, .int .i64 (.ofNat 1), .int .i64 (.ofNat 0), .int .i64 (.ofNat 80), .int .i64 (.ofNat 1025), .int .i64 (.ofNat 1), .int .i64 (.ofNat 0), .ptr 800 0, .ptr 803 0, .ptr 797 0, .ptr 806 0, .nilp, .nilp, .nilp, .nilp, .nilp, .nilp, .nilp, .int .i64 (.ofNat 0), .int .i64 (.ofNat 0), .ptr 805 0, .int .u64 (.ofNat 1), .int .i64 (.ofNat 0), .int .i64 (.ofNat 0), .bool false, .int .i64 (.ofNat 0), .bool true, .nils, .bool false, .bool false]),
  (799, .cells [.nils]),
  (800, .cells [.ptr 799 0, .int .i64 (.ofNat 1), .int .i64 (.ofNat 1), .int .i64 (.ofNat 33), .nils, .bool false, .bool false]),
  (801, .mp [] 0),
  (802, .cells [.nils]),
  (803, .cells [.int .i64 (.ofNat 1), .nils, .map 801, .ptr 802 0, .int .i64 (.ofNat 0)]),
  (804, .mp [(.int .i64 (.ofNat 11), .int .i64 (.ofNat 40), 1)] 2),
  (805, .cells [.nils, .nils, .nils, .nils, .slu 836 0 0 2, .nils, .nils, .nils, .nils, .nils, .nils, .nils, .nils, .nils, .nils, .nils, .nils, .nils, .slu 2139 0 1 2, .nils, .nils, .nils, .nils, .nils, .nils, .nils, .nils, .nils, .nils, .nils, .nils, .nils, .nils, .nils, .nils, .nils, .nils, .nils, .nils, .nils, .nils, .nils, .nils, .nils, .nils, .nils, .nils, .nils, .nils, .int .i64 (.ofNat 0), .map 804]),
  (806, .cells [.ptr 808 0, .int .i64 (.ofNat 1), .int .i64 (.ofNat 0), .bool false, .bool false, .bool false, .int .u32 (.ofNat 0), .int .u32 (.ofNat 0), .int .u64 (.ofNat 0)]),
  (808, .cells [.ptr 809 0, .bool true, .int .i64 (.ofNat 0), .int .i64 (.ofNat 0), .int .i64 (.ofNat 0), .int .i64 (.ofNat 3), .sym .u32 (.pl (.tok (.xr (.key (.tok (.xr (.v 0) 1)) 1) 4294967296)) 1), .int .i64 (.ofNat 0), .int .i64 (.ofNat 0), .bool false, .int .i64 (.ofNat 0), .bool true, .nils]),
  (809, .cells [.sli 2053 0 0 0, .sym .u32 (.pl (.tok (.xr (.key (.tok (.xr (.v 1) 1)) 1) 4294967296)) 1)]),
  (836, .cells [.int .i64 (.ofNat 0), .int .i64 (.ofNat 0)]),
  (853, .cells [.ptr 798 0, .int .i64 (.ofNat 1), .int .i64 (.ofNat 80), .bool false, .int .i64 (.ofNat 0), .bool false, .bool false]),
  (855, .cells [.ptr 853 0]),
  (1312, .cells []),
  (1400, .cells [.int .i64 (.ofNat 11), .int .i64 (.ofNat 40)]),
  (1546, .cells [.int .u8 (.ofNat 0), .int .u8 (.ofNat 1), .int .u8 (.ofNat 4), .int .u8 (.ofNat 1), .int .u8 (.ofNat 0), .int .u8 (.ofNat 80), .sym .u8 (.hi (.pl (.tok (.xr (.key (.tok (.xr (.v 0) 1)) 1) 4294967296)) 1) 3), .sym .u8 (.bt (.pl (.tok (.xr (.key (.tok (.xr (.v 0) 1)) 1) 4294967296)) 1) 2), .sym .u8 (.bt (.pl (.tok (.xr (.key (.tok (.xr (.v 0) 1)) 1) 4294967296)) 1) 1), .sym .u8 (.bt (.pl (.tok (.xr (.key (.tok (.xr (.v 0) 1)) 1) 4294967296)) 1) 0), .sym .u8 (.hi (.pl (.tok (.xr (.key (.tok (.xr (.v 1) 1)) 1) 4294967296)) 1) 3), .sym .u8 (.bt (.pl (.tok (.xr (.key (.tok (.xr (.v 1) 1)) 1) 4294967296)) 1) 2), .sym .u8 (.bt (.pl (.tok (.xr (.key (.tok (.xr (.v 1) 1)) 1) 4294967296)) 1) 1), .sym .u8 (.bt (.pl (.tok (.xr (.key (.tok (.xr (.v 1) 1)) 1) 4294967296)) 1) 0), .int .u8 (.ofNat 2), .int .u8 (.ofNat 0), .int .u8 (.ofNat 32), .int .u8 (.ofNat 1), .int .u8 (.ofNat 0), .int .u8 (.ofNat 5), .int .u8 (.ofNat 1), .int .u8 (.ofNat 0), .int .u8 (.ofNat 0), .int .u8 (.ofNat 0), .int .u8 (.ofNat 1), .int .u8 (.ofNat 0), .int .u8 (.ofNat 0), .int .u8 (.ofNat 0), .int .u8 (.ofNat 0), .int .u8 (.ofNat 0), .int .u8 (.ofNat 0), .int .u8 (.ofNat 0), .sym .u8 (.hi (.su [(.c 0), (.c 1), (.c 4), (.c 1), (.c 0), (.c 80), (.hi (.pl (.tok (.xr (.key (.tok (.xr (.v 0) 1)) 1) 4294967296)) 1) 3), (.bt (.pl (.tok (.xr (.key (.tok (.xr (.v 0) 1)) 1) 4294967296)) 1) 2), (.bt (.pl (.tok (.xr (.key (.tok (.xr (.v 0) 1)) 1) 4294967296)) 1) 1), (.bt (.pl (.tok (.xr (.key (.tok (.xr (.v 0) 1)) 1) 4294967296)) 1) 0), (.hi (.pl (.tok (.xr (.key (.tok (.xr (.v 1) 1)) 1) 4294967296)) 1) 3), (.bt (.pl (.tok (.xr (.key (.tok (.xr (.v 1) 1)) 1) 4294967296)) 1) 2), (.bt (.pl (.tok (.xr (.key (.tok (.xr (.v 1) 1)) 1) 4294967296)) 1) 1), (.bt (.pl (.tok (.xr (.key (.tok (.xr (.v 1) 1)) 1) 4294967296)) 1) 0), (.c 2), (.c 0), (.c 32), (.c 1), (.c 0), (.c 5), (.c 1), (.c 0), (.c 0), (.c 0), (.c 1), (.c 0), (.c 0), (.c 0), (.c 0), (.c 0), (.c 0), (.c 0)]) 1), .sym .u8 (.bt (.su [(.c 0), (.c 1), (.c 4), (.c 1), (.c 0), (.c 80), (.hi (.pl (.tok (.xr (.key (.tok (.xr (.v 0) 1)) 1) 4294967296)) 1) 3), (.bt (.pl (.tok (.xr (.key (.tok (.xr (.v 0) 1)) 1) 4294967296)) 1) 2), (.bt (.pl (.tok (.xr (.key (.tok (.xr (.v 0) 1)) 1) 4294967296)) 1) 1), (.bt (.pl (.tok (.xr (.key (.tok (.xr (.v 0) 1)) 1) 4294967296)) 1) 0), (.hi (.pl (.tok (.xr (.key (.tok (.xr (.v 1) 1)) 1) 4294967296)) 1) 3), (.bt (.pl (.tok (.xr (.key (.tok (.xr (.v 1) 1)) 1) 4294967296)) 1) 2), (.bt (.pl (.tok (.xr (.key (.tok (.xr (.v 1) 1)) 1) 4294967296)) 1) 1), (.bt (.pl (.tok (.xr (.key (.tok (.xr (.v 1) 1)) 1) 4294967296)) 1) 0), (.c 2), (.c 0), (.c 32), (.c 1), (.c 0), (.c 5), (.c 1), (.c 0), (.c 0), (.c 0), (.c 1), (.c 0), (.c 0), (.c 0), (.c 0), (.c 0), (.c 0), (.c 0)]) 0)]),
  (1548, .cells [.int .i64 (.ofNat 1), .sli 1546 0 34 34]),
  (2053, .cells []),
  (2139, .cells [.int .i64 (.ofNat 11), .int .i64 (.ofNat 40)]),
  (2149, .cells [.int .i64 (.ofNat 0), .int .i64 (.ofNat 0), .int .i64 (.ofNat 5), .int .i64 (.ofNat 1), .int .i64 (.ofNat 0), .nils, .int .i64 (.ofNat 0), .int .i64 (.ofNat 1), .int .i64 (.ofNat 0), .int .i64 (.ofNat 6), .int .i64 (.ofNat 1), .int .i64 (.ofNat 0), .nils, .int .i64 (.ofNat 0)])]
noncomputable def s3N : Nat := 2150
noncomputable def ls2 : List Code := [sq1 bd1]
theorem stepB : chkF Tryz.prog G0 hk0 ex0 100000 ls2 (mkT sAT) ⟨mkB sAH, sAN⟩ s3T s3H s3N = true := by kernel_rfl
end
end Go.Proofs.YtpebipecogggbaaGreatDoor.Sx
