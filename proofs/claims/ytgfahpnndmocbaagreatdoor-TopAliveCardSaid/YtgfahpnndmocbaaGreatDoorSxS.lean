/-
  The law's function answers 'true', whatever it is asked, where the package's variables are as they were laid.
-/
import Derived.Test.YtgfahpnndmocbaaGreatDoorSxQ0
import Derived.Test.YtgfahpnndmocbaaGreatDoorSxR0a
import Derived.Test.YtgfahpnndmocbaaGreatDoorSxR0b
import Derived.Test.YtgfahpnndmocbaaGreatDoorSxR0c
import Derived.Test.YtgfahpnndmocbaaGreatDoorSxR0d
import Derived.Test.YtgfahpnndmocbaaGreatDoorSxB39
import Derived.Test.YtgfahpnndmocbaaGreatDoorSxB79
import Derived.Test.YtgfahpnndmocbaaGreatDoorSxQ1
import Derived.Test.YtgfahpnndmocbaaGreatDoorSxR1a
import Derived.Test.YtgfahpnndmocbaaGreatDoorSxR1b
import Derived.Test.YtgfahpnndmocbaaGreatDoorSxR1c
import Derived.Test.YtgfahpnndmocbaaGreatDoorSxT
import Derived.Test.YtgfahpnndmocbaaGreatDoorSumX
namespace Go.Proofs.YtgfahpnndmocbaaGreatDoor.Sx
open Go Go.RowKit
noncomputable section
set_option linter.unusedVariables false

attribute [local irreducible] tkF tokT
/-- the own token of the host that is joined -/
noncomputable def ownF (b : Nat) : Nat := tkF ((tkF ((b % 2 ^ 64 ^^^ 1) % 2 ^ 64) % 2 ^ 32 * 2 ^ 32 + 1) % 2 ^ 64) % 2 ^ 32
noncomputable def uF (a b : Nat) (i : Nat) : Nat := match i with
  | 0 => a
  | 1 => b
  | 2 => ownF b + 1
    | _ => 0
noncomputable def EF (a b : Nat) : En := ⟨uF a b, tkF, by
  show (ownF b + 1) % 2 ^ 32 ≠ ownF b
  have : ownF b < 2 ^ 32 := Nat.mod_lt _ (by decide)
  omega⟩

theorem shape : bd0 = seqL ls1 (seqL ls2 (.seq (.seq cd4 (.block 0 (.loop rnd))) tlC)) := by kernel_rfl
theorem shapeA : bdA = seqL [rA] (.block 0 (.loop XA)) := by kernel_rfl
theorem body_of : ∃ fn c, Tryz.prog.funcs[200]? = some fn ∧ fn.body = some c := ⟨fnOf 200, cdOf 200, by kernel_rfl, by kernel_rfl⟩
theorem fn3_is : Tryz.prog.funcs[3]? = some (fnOf 3) := by kernel_rfl
theorem fn3_body : (fnOf 3).body = some bd0 := by kernel_rfl
theorem fn3_res : (fnOf 3).results.toList = [.tmp 6] := by kernel_rfl
theorem fn3_args : Nat.ble 3 (fnOf 3).ntmps = true := by kernel_rfl
theorem fits1 : ls1.all (fitsC (fnOf 3).ntmps) = true := by kernel_rfl
theorem fits2 : ls2.all (fitsC (fnOf 3).ntmps) = true := by kernel_rfl
theorem fits4 : [cd4].all (fitsC (fnOf 3).ntmps) = true := by kernel_rfl
theorem fits7 : fitsC (fnOf 3).ntmps rnd = true := by kernel_rfl
theorem fits8 : fitsC (fnOf 3).ntmps tlC = true := by kernel_rfl
theorem fnA_is : Tryz.prog.funcs[9]? = some (fnOf 9) := by kernel_rfl
theorem fnA_body : (fnOf 9).body = some bdA := by kernel_rfl
theorem fnA_fits : fitsC (fnOf 9).ntmps bdA = true := by kernel_rfl
theorem fnA_res : (fnOf 9).results.toList = [] := by kernel_rfl

section
variable {E : En} {N : Nat} {W : World}
set_option maxRecDepth 20000 in
/-- 'all', at the tick 39 -/
theorem all_39 (hG : Gok E N W G0) (hS : SoundC Tryz.prog E N W (exec Tryz.prog G0 hk0 ex0 100000)) (F : Nat → Option Blk) (β : Bm) (w : World) (vs : Array Value) (m : Mem E N W F β ⟨mkB v0b39H, v0b39N⟩ w) (hv : VRs E β [.ptr 271 0] vs.toList) :
    Calls Tryz.prog 9 vs w (fun e w' => match e with | .returned v => ∃ β', Post E N W F β ⟨mkB v0b39H, v0b39N⟩ ⟨mkB v0b39EH, v0b39EN⟩ β' w' ∧ VR E β' (.tup []) v | .panicked _ => False | .outgrown => False) := by
  have hF := soundF hS
  refine call_by (l := []) (T1 := mkT []) (h1 := ⟨mkB v0b39EH, v0b39EN⟩) hG noCount fnA_is fnA_body fnA_fits (by rw [fnA_res]; rfl) (fun F β a w m hT hf => ?_) m hv
  rw [shapeA] at hf ⊢
  have hf1 : [rA].all (fitsC a.tmps.size) = true := by
    simp only [seqL, fitsC, Bool.and_eq_true] at hf
    simp [hf.1]
  have hf2 : fitsC a.tmps.size XA = true := by
    simp only [seqL, fitsC, Bool.and_eq_true] at hf
    exact hf.2
  refine chkF_ok hF (d := a) v0b39rc0 (Post.same m) hT hf1 rfl rfl fun β1 a1 w1 p1 t1 d1 z1 => wp_block (wpIn_of ?_)
  refine chkR_ok hF v0b39rc2 p1 t1 hf2 d1 z1 fun β1 a1 w1 p1 t1 d1 z1 => ?_
  refine chkR_ok hF v0b39rc4 p1 t1 hf2 d1 z1 fun β1 a1 w1 p1 t1 d1 z1 => ?_
  exact chkE_ok hF v0b39rcE p1 t1 hf2 d1 z1 fun β6 a6 w6 p6 t6 d6 z6 => ⟨β6, p6, t6, d6, z6⟩
theorem hook_39 (hG : Gok E N W G0) (hS : SoundC Tryz.prog E N W (exec Tryz.prog G0 hk0 ex0 100000)) (hH : HookOk Tryz.prog E N W hk0) : HookOk Tryz.prog E N W v0hk39 := by
  intro f k hf
  unfold v0hk39 at hf
  cases h9 : Nat.beq f 9
  · rw [h9] at hf; exact hH f k hf
  · rw [h9] at hf
    simp only [cond_true, Option.some.injEq] at hf; subst hf
    have := Nat.eq_of_beq_eq_true h9; subst this
    exact ⟨⟨fnOf 9, bdA, fnA_is, fnA_body⟩, fun args h r h' hk F β w vs m hv => memoH_ok (fun F β w vs m hv => all_39 hG hS F β w vs m hv) hk m hv⟩
set_option maxRecDepth 20000 in
/-- 'all', at the tick 79 -/
theorem all_79 (hG : Gok E N W G0) (hS : SoundC Tryz.prog E N W (exec Tryz.prog G0 hk0 ex0 100000)) (F : Nat → Option Blk) (β : Bm) (w : World) (vs : Array Value) (m : Mem E N W F β ⟨mkB v0b79H, v0b79N⟩ w) (hv : VRs E β [.ptr 271 0] vs.toList) :
    Calls Tryz.prog 9 vs w (fun e w' => match e with | .returned v => ∃ β', Post E N W F β ⟨mkB v0b79H, v0b79N⟩ ⟨mkB v0b79EH, v0b79EN⟩ β' w' ∧ VR E β' (.tup []) v | .panicked _ => False | .outgrown => False) := by
  have hF := soundF hS
  refine call_by (l := []) (T1 := mkT []) (h1 := ⟨mkB v0b79EH, v0b79EN⟩) hG noCount fnA_is fnA_body fnA_fits (by rw [fnA_res]; rfl) (fun F β a w m hT hf => ?_) m hv
  rw [shapeA] at hf ⊢
  have hf1 : [rA].all (fitsC a.tmps.size) = true := by
    simp only [seqL, fitsC, Bool.and_eq_true] at hf
    simp [hf.1]
  have hf2 : fitsC a.tmps.size XA = true := by
    simp only [seqL, fitsC, Bool.and_eq_true] at hf
    exact hf.2
  refine chkF_ok hF (d := a) v0b79rc0 (Post.same m) hT hf1 rfl rfl fun β1 a1 w1 p1 t1 d1 z1 => wp_block (wpIn_of ?_)
  refine chkR_ok hF v0b79rc2 p1 t1 hf2 d1 z1 fun β1 a1 w1 p1 t1 d1 z1 => ?_
  refine chkR_ok hF v0b79rc4 p1 t1 hf2 d1 z1 fun β1 a1 w1 p1 t1 d1 z1 => ?_
  exact chkE_ok hF v0b79rcE p1 t1 hf2 d1 z1 fun β6 a6 w6 p6 t6 d6 z6 => ⟨β6, p6, t6, d6, z6⟩
theorem hook_79 (hG : Gok E N W G0) (hS : SoundC Tryz.prog E N W (exec Tryz.prog G0 hk0 ex0 100000)) (hH : HookOk Tryz.prog E N W hk0) : HookOk Tryz.prog E N W v0hk79 := by
  intro f k hf
  unfold v0hk79 at hf
  cases h9 : Nat.beq f 9
  · rw [h9] at hf; exact hH f k hf
  · rw [h9] at hf
    simp only [cond_true, Option.some.injEq] at hf; subst hf
    have := Nat.eq_of_beq_eq_true h9; subst this
    exact ⟨⟨fnOf 9, bdA, fnA_is, fnA_body⟩, fun args h r h' hk F β w vs m hv => memoH_ok (fun F β w vs m hv => all_79 hG hS F β w vs m hv) hk m hv⟩
set_option maxRecDepth 20000 in
/-- the law's code (lost: false) -/
theorem v0rest {F : Nat → Option Blk} (hG : Gok E N W G0) (hH : HookOk Tryz.prog E N W hk0) (hX : ExtOk Tryz.prog E ex0) {d : Act} {β : Bm} {w : World} (hz : d.tmps.size = (fnOf 3).ntmps) (m : Mem E N W F β h0 w) (t : TR E β (T0 false) d) :
    bd0.wp Tryz.prog (Qf E N W 6 d) d w := by
  have hS : SoundC Tryz.prog E N W (exec Tryz.prog G0 hk0 ex0 100000) := (exec_ok mixed hG hH hX noCount 100000).1
  have hF := soundF hS
  have hF39 := soundF (exec_ok mixed hG (hook_39 hG hS hH) hX noCount 100000).1
  have hF79 := soundF (exec_ok mixed hG (hook_79 hG hS hH) hX noCount 100000).1
  rw [shape]
  refine chkF_ok hF v0stepA (Post.same m) t (by rw [hz]; exact fits1) rfl rfl fun β1 a1 w1 p1 t1 d1 z1 => ?_
  refine chkF_ok hF v0stepB p1 t1 (by rw [hz]; exact fits2) d1 z1 fun β1 a1 w1 p1 t1 d1 z1 => ?_
  refine wp_seq ?_
  refine chkF_ok hF (l := [cd4]) v0step4 p1 t1 (by rw [hz]; exact fits4) d1 z1 fun β1 a1 w1 p1 t1 d1 z1 => ?_
  refine wp_block (wpIn_of ?_)
  refine chkR_ok hF v0runs10 p1 t1 (by rw [hz]; exact fits7) d1 z1 fun β1 a1 w1 p1 t1 d1 z1 => ?_
  refine chkR_ok hF v0runs20 p1 t1 (by rw [hz]; exact fits7) d1 z1 fun β1 a1 w1 p1 t1 d1 z1 => ?_
  refine chkR_ok hF v0runs30 p1 t1 (by rw [hz]; exact fits7) d1 z1 fun β1 a1 w1 p1 t1 d1 z1 => ?_
  refine chkR_ok hF v0runs39 p1 t1 (by rw [hz]; exact fits7) d1 z1 fun β1 a1 w1 p1 t1 d1 z1 => ?_
  refine chkR_ok hF39 v0runs40 p1 t1 (by rw [hz]; exact fits7) d1 z1 fun β1 a1 w1 p1 t1 d1 z1 => ?_
  refine chkR_ok hF v0runs50 p1 t1 (by rw [hz]; exact fits7) d1 z1 fun β1 a1 w1 p1 t1 d1 z1 => ?_
  refine chkR_ok hF v0runs60 p1 t1 (by rw [hz]; exact fits7) d1 z1 fun β1 a1 w1 p1 t1 d1 z1 => ?_
  refine chkR_ok hF v0runs70 p1 t1 (by rw [hz]; exact fits7) d1 z1 fun β1 a1 w1 p1 t1 d1 z1 => ?_
  refine chkR_ok hF v0runs79 p1 t1 (by rw [hz]; exact fits7) d1 z1 fun β1 a1 w1 p1 t1 d1 z1 => ?_
  refine chkR_ok hF79 v0runs80 p1 t1 (by rw [hz]; exact fits7) d1 z1 fun β1 a1 w1 p1 t1 d1 z1 => ?_
  refine chkR_ok hF v0runs90 p1 t1 (by rw [hz]; exact fits7) d1 z1 fun β1 a1 w1 p1 t1 d1 z1 => ?_
  refine chkE_ok hF v0runsE p1 t1 (by rw [hz]; exact fits7) d1 z1 fun β4 a4 w4 p4 t4 d4 z4 => ?_
  have hr := v0runsF
  rw [retF_eq] at hr
  exact chkRet_ok hS hr p4.mem t4 (by rw [z4, hz]; exact fits8) d4 z4
set_option maxRecDepth 20000 in
/-- the law's code (lost: true) -/
theorem v1rest {F : Nat → Option Blk} (hG : Gok E N W G0) (hH : HookOk Tryz.prog E N W hk0) (hX : ExtOk Tryz.prog E ex0) {d : Act} {β : Bm} {w : World} (hz : d.tmps.size = (fnOf 3).ntmps) (m : Mem E N W F β h0 w) (t : TR E β (T0 true) d) :
    bd0.wp Tryz.prog (Qf E N W 6 d) d w := by
  have hS : SoundC Tryz.prog E N W (exec Tryz.prog G0 hk0 ex0 100000) := (exec_ok mixed hG hH hX noCount 100000).1
  have hF := soundF hS
  rw [shape]
  refine chkF_ok hF v1stepA (Post.same m) t (by rw [hz]; exact fits1) rfl rfl fun β1 a1 w1 p1 t1 d1 z1 => ?_
  refine chkF_ok hF v1stepB p1 t1 (by rw [hz]; exact fits2) d1 z1 fun β1 a1 w1 p1 t1 d1 z1 => ?_
  refine wp_seq ?_
  refine chkF_ok hF (l := [cd4]) v1step4 p1 t1 (by rw [hz]; exact fits4) d1 z1 fun β1 a1 w1 p1 t1 d1 z1 => ?_
  refine wp_block (wpIn_of ?_)
  refine chkR_ok hF v1runs10 p1 t1 (by rw [hz]; exact fits7) d1 z1 fun β1 a1 w1 p1 t1 d1 z1 => ?_
  refine chkR_ok hF v1runs20 p1 t1 (by rw [hz]; exact fits7) d1 z1 fun β1 a1 w1 p1 t1 d1 z1 => ?_
  refine chkR_ok hF v1runs30 p1 t1 (by rw [hz]; exact fits7) d1 z1 fun β1 a1 w1 p1 t1 d1 z1 => ?_
  refine chkR_ok hF v1runs39 p1 t1 (by rw [hz]; exact fits7) d1 z1 fun β1 a1 w1 p1 t1 d1 z1 => ?_
  refine chkR_ok hF v1runs47 p1 t1 (by rw [hz]; exact fits7) d1 z1 fun β1 a1 w1 p1 t1 d1 z1 => ?_
  refine chkR_ok hF v1runs55 p1 t1 (by rw [hz]; exact fits7) d1 z1 fun β1 a1 w1 p1 t1 d1 z1 => ?_
  refine chkR_ok hF v1runs64 p1 t1 (by rw [hz]; exact fits7) d1 z1 fun β1 a1 w1 p1 t1 d1 z1 => ?_
  refine chkR_ok hF v1runs78 p1 t1 (by rw [hz]; exact fits7) d1 z1 fun β1 a1 w1 p1 t1 d1 z1 => ?_
  refine chkR_ok hF v1runs90 p1 t1 (by rw [hz]; exact fits7) d1 z1 fun β1 a1 w1 p1 t1 d1 z1 => ?_
  refine chkE_ok hF v1runsE p1 t1 (by rw [hz]; exact fits7) d1 z1 fun β4 a4 w4 p4 t4 d4 z4 => ?_
  have hr := v1runsF
  rw [retF_eq] at hr
  exact chkRet_ok hS hr p4.mem t4 (by rw [z4, hz]; exact fits8) d4 z4
end

set_option maxRecDepth 20000 in
theorem lawTopAlive (w : World) (hG : ∀ E : En, Gok E w.heap.size w G0) (a b : Nat) (lost : Bool) (ha : a < 2 ^ 64) (hb : b < 2 ^ 64) :
    Calls Tryz.prog 3 #[.int .u64 (a : Nat), .int .u64 (b : Nat), .bool lost] w (fun e w' => e = .returned (.bool true) ∧ Below w.heap.size w w') := by
  obtain ⟨E, htk, h0', h1⟩ : ∃ E : En, E.tk = tkF ∧ E.u 0 = a ∧ E.u 1 = b := ⟨EF a b, rfl, rfl, rfl⟩
  have hH : HookOk Tryz.prog E w.heap.size w hk0 := hooks_ok body_tok body_of (by rw [htk]; exact token_any) sum_any
  have e0 : den E (.v 0) = a := by
    show E.u 0 % 2 ^ 64 = a
    rw [h0', Nat.mod_eq_of_lt ha]
  have e1 : den E (.v 1) = b := by
    show E.u 1 % 2 ^ 64 = b
    rw [h1, Nat.mod_eq_of_lt hb]
  have v0 := VR.sym (E := E) (β := fun _ => none) .u64 (.v 0) (by decide)
  have v1 := VR.sym (E := E) (β := fun _ => none) .u64 (.v 1) (by decide)
  rw [e0] at v0; rw [e1] at v1
  refine call_parts (hG E) fn3_is fn3_body fn3_res (args := [.sym .u64 (.v 0), .sym .u64 (.v 1), .bool lost])
    (.cons _ _ _ _ v0 (.cons _ _ _ _ v1 (.cons _ _ _ _ (.bool lost) .nil))) (Nat.le_of_ble_eq_true fn3_args) fun a0 t0 z0 => ?_
  cases lost
  · exact v0rest (hG E) hH (natives E) z0 (Mem.start E w) t0
  · exact v1rest (hG E) hH (natives E) z0 (Mem.start E w) t0
end
end Go.Proofs.YtgfahpnndmocbaaGreatDoor.Sx
