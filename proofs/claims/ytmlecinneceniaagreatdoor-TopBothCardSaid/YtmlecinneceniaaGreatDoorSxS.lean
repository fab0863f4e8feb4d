/-
  The law's function answers 'true', whatever it is asked, where the package's variables are as they were laid.
-/
import Derived.Test.YtmlecinneceniaaGreatDoorSxQ
import Derived.Test.YtmlecinneceniaaGreatDoorSxA0
import Derived.Test.YtmlecinneceniaaGreatDoorSxB0
import Derived.Test.YtmlecinneceniaaGreatDoorSxC0
import Derived.Test.YtmlecinneceniaaGreatDoorSxA1
import Derived.Test.YtmlecinneceniaaGreatDoorSxB1
import Derived.Test.YtmlecinneceniaaGreatDoorSxC1
import Derived.Test.YtmlecinneceniaaGreatDoorSxT
import Derived.Test.YtmlecinneceniaaGreatDoorSumX
namespace Go.Proofs.YtmlecinneceniaaGreatDoor.Sx
open Go Go.RowKit
noncomputable section
set_option linter.unusedVariables false

attribute [local irreducible] tkF tokT
/-- the own token of the host that is joined -/
noncomputable def ownF (b : Nat) : Nat := tkF ((tkF ((b % 2 ^ 64 ^^^ 1) % 2 ^ 64) % 2 ^ 32 * 2 ^ 32 + 1) % 2 ^ 64) % 2 ^ 32
noncomputable def uF (a b l : Nat) (i : Nat) : Nat := match i with
  | 0 => a
  | 1 => b
  | 2 => ownF b + 1
  | 3 => l
  | _ => 0
noncomputable def EF (a b l : Nat) : En := ⟨uF a b l, tkF, by
  show (ownF b + 1) % 2 ^ 32 ≠ ownF b
  have : ownF b < 2 ^ 32 := Nat.mod_lt _ (by decide)
  omega⟩

theorem shape : bd0 = seqL ls1 (seqL ls2 (.seq cd4 (seqL ls5 (.seq (.seq cd6 (.block 0 (.loop rnd))) tlC)))) := by kernel_rfl
theorem shapeA : bdA = seqL [rA] (.block 0 (.loop XA)) := by kernel_rfl
theorem body_of : ∃ fn c, Tryz.prog.funcs[219]? = some fn ∧ fn.body = some c := ⟨fnOf 219, cdOf 219, by kernel_rfl, by kernel_rfl⟩
theorem fn3_is : Tryz.prog.funcs[3]? = some (fnOf 3) := by kernel_rfl
theorem fn3_body : (fnOf 3).body = some bd0 := by kernel_rfl
theorem fn3_res : (fnOf 3).results.toList = [.tmp 6] := by kernel_rfl
theorem fn3_args : Nat.ble 3 (fnOf 3).ntmps = true := by kernel_rfl
theorem fits1 : ls1.all (fitsC (fnOf 3).ntmps) = true := by kernel_rfl
theorem fits2 : ls2.all (fitsC (fnOf 3).ntmps) = true := by kernel_rfl
theorem fits4 : fitsC (fnOf 3).ntmps cd4 = true := by kernel_rfl
theorem fits5 : ls5.all (fitsC (fnOf 3).ntmps) = true := by kernel_rfl
theorem fits6 : [cd6].all (fitsC (fnOf 3).ntmps) = true := by kernel_rfl
theorem fits7 : fitsC (fnOf 3).ntmps rnd = true := by kernel_rfl
theorem fits8 : fitsC (fnOf 3).ntmps tlC = true := by kernel_rfl
theorem fnA_is : Tryz.prog.funcs[7]? = some (fnOf 7) := by kernel_rfl
theorem fnA_body : (fnOf 7).body = some bdA := by kernel_rfl
theorem fnA_fits : fitsC (fnOf 7).ntmps bdA = true := by kernel_rfl
theorem fnA_res : (fnOf 7).results.toList = [] := by kernel_rfl

section
variable {E : En} {N : Nat} {W : World}
set_option maxRecDepth 20000 in
/-- 'all', from where it is called (first: 0) -/
theorem k0all_ok (hG : Gok E N W G0) (hS : SoundC Tryz.prog E N W (exec Tryz.prog G0 hk0 ex0 100000)) (F : Nat → Option Blk) (β : Bm) (w : World) (vs : Array Value) (m : Mem E N W F β ⟨mkB k0s5H, k0s5N⟩ w) (hv : VRs E β [.ptr 271 0] vs.toList) :
    Calls Tryz.prog 7 vs w (fun e w' => match e with | .returned v => ∃ β', Post E N W F β ⟨mkB k0s5H, k0s5N⟩ ⟨mkB k0aEH, k0aEN⟩ β' w' ∧ VR E β' (.tup []) v | .panicked _ => False | .outgrown => False) := by
  have hF := soundF hS
  refine call_by (l := []) (T1 := mkT []) (h1 := ⟨mkB k0aEH, k0aEN⟩) hG noCount fnA_is fnA_body fnA_fits (by rw [fnA_res]; rfl) (fun F β a w m hT hf => ?_) m hv
  rw [shapeA] at hf ⊢
  have hf1 : [rA].all (fitsC a.tmps.size) = true := by
    simp only [seqL, fitsC, Bool.and_eq_true] at hf
    simp [hf.1]
  have hf2 : fitsC a.tmps.size XA = true := by
    simp only [seqL, fitsC, Bool.and_eq_true] at hf
    exact hf.2
  refine chkF_ok hF (d := a) k0rc0 (Post.same m) hT hf1 rfl rfl fun β1 a1 w1 p1 t1 d1 z1 => wp_block (wpIn_of ?_)
  refine chkR_ok hF k0rc2 p1 t1 hf2 d1 z1 fun β2 a2 w2 p2 t2 d2 z2 => ?_
  refine chkR_ok hF k0rc4 p2 t2 hf2 d2 z2 fun β3 a3 w3 p3 t3 d3 z3 => ?_
  refine chkR_ok hF k0rc6 p3 t3 hf2 d3 z3 fun β4 a4 w4 p4 t4 d4 z4 => ?_
  refine chkR_ok hF k0rc8 p4 t4 hf2 d4 z4 fun β5 a5 w5 p5 t5 d5 z5 => ?_
  exact chkE_ok hF k0rc9 p5 t5 hf2 d5 z5 fun β6 a6 w6 p6 t6 d6 z6 => ⟨β6, p6, t6, d6, z6⟩
theorem k0hook (hG : Gok E N W G0) (hS : SoundC Tryz.prog E N W (exec Tryz.prog G0 hk0 ex0 100000)) (hH : HookOk Tryz.prog E N W hk0) : HookOk Tryz.prog E N W k0hk := by
  intro f k hf
  unfold k0hk at hf
  cases h9 : Nat.beq f 7
  · rw [h9] at hf; exact hH f k hf
  · rw [h9] at hf
    simp only [cond_true, Option.some.injEq] at hf; subst hf
    have := Nat.eq_of_beq_eq_true h9; subst this
    exact ⟨⟨fnOf 7, bdA, fnA_is, fnA_body⟩, fun args h r h' hk F β w vs m hv => memoH_ok (fun F β w vs m hv => k0all_ok hG hS F β w vs m hv) hk m hv⟩
set_option maxRecDepth 20000 in
/-- from where it is known who closes first (0) -/
theorem k0rest {F : Nat → Option Blk} (hG : Gok E N W G0) (hH : HookOk Tryz.prog E N W hk0) (hX : ExtOk Tryz.prog E ex0) {d a : Act} {β : Bm} {w : World} (hz : d.tmps.size = (fnOf 3).ntmps) (m : Mem E N W F β ⟨mkB s3H, s3N⟩ w) (t : TR E β (mkT (s4T 0)) a)
    (d0 : a.defers = d.defers) (z0 : a.tmps.size = d.tmps.size) : (seqL ls5 (.seq (.seq cd6 (.block 0 (.loop rnd))) tlC)).wp Tryz.prog (Qf E N W 6 d) a w := by
  have hS : SoundC Tryz.prog E N W (exec Tryz.prog G0 hk0 ex0 100000) := (exec_ok mixed hG hH hX noCount 100000).1
  have hS9 : SoundC Tryz.prog E N W (exec Tryz.prog G0 k0hk ex0 100000) := (exec_ok mixed hG (k0hook hG hS hH) hX noCount 100000).1
  have hF := soundF hS
  refine chkF_ok hF k0stepD (Post.same m) t (by rw [hz]; exact fits5) d0 z0 fun β1 a1 w1 p1 t1 d1 z1 => ?_
  refine wp_seq ?_
  refine chkF_ok hF (l := [cd6]) k0stepE p1 t1 (by rw [hz]; exact fits6) d1 z1 fun β2 a2 w2 p2 t2 d2 z2 => ?_
  refine wp_block (wpIn_of ?_)
  refine chkR_ok (soundF hS9) k0runs1 p2 t2 (by rw [hz]; exact fits7) d2 z2 fun β2 a2 w2 p2 t2 d2 z2 => ?_
  refine chkR_ok hF k0runsR p2 t2 (by rw [hz]; exact fits7) d2 z2 fun β3 a3 w3 p3 t3 d3 z3 => ?_
  refine chkE_ok hF k0runsE p3 t3 (by rw [hz]; exact fits7) d3 z3 fun β4 a4 w4 p4 t4 d4 z4 => ?_
  have hr := k0runsF
  rw [retF_eq] at hr
  exact chkRet_ok hS hr p4.mem t4 (by rw [z4, hz]; exact fits8) d4 z4
set_option maxRecDepth 20000 in
/-- 'all', from where it is called (first: 1) -/
theorem k1all_ok (hG : Gok E N W G0) (hS : SoundC Tryz.prog E N W (exec Tryz.prog G0 hk0 ex0 100000)) (F : Nat → Option Blk) (β : Bm) (w : World) (vs : Array Value) (m : Mem E N W F β ⟨mkB k1s5H, k1s5N⟩ w) (hv : VRs E β [.ptr 271 0] vs.toList) :
    Calls Tryz.prog 7 vs w (fun e w' => match e with | .returned v => ∃ β', Post E N W F β ⟨mkB k1s5H, k1s5N⟩ ⟨mkB k1aEH, k1aEN⟩ β' w' ∧ VR E β' (.tup []) v | .panicked _ => False | .outgrown => False) := by
  have hF := soundF hS
  refine call_by (l := []) (T1 := mkT []) (h1 := ⟨mkB k1aEH, k1aEN⟩) hG noCount fnA_is fnA_body fnA_fits (by rw [fnA_res]; rfl) (fun F β a w m hT hf => ?_) m hv
  rw [shapeA] at hf ⊢
  have hf1 : [rA].all (fitsC a.tmps.size) = true := by
    simp only [seqL, fitsC, Bool.and_eq_true] at hf
    simp [hf.1]
  have hf2 : fitsC a.tmps.size XA = true := by
    simp only [seqL, fitsC, Bool.and_eq_true] at hf
    exact hf.2
  refine chkF_ok hF (d := a) k1rc0 (Post.same m) hT hf1 rfl rfl fun β1 a1 w1 p1 t1 d1 z1 => wp_block (wpIn_of ?_)
  refine chkR_ok hF k1rc2 p1 t1 hf2 d1 z1 fun β2 a2 w2 p2 t2 d2 z2 => ?_
  refine chkR_ok hF k1rc4 p2 t2 hf2 d2 z2 fun β3 a3 w3 p3 t3 d3 z3 => ?_
  refine chkR_ok hF k1rc6 p3 t3 hf2 d3 z3 fun β4 a4 w4 p4 t4 d4 z4 => ?_
  refine chkR_ok hF k1rc8 p4 t4 hf2 d4 z4 fun β5 a5 w5 p5 t5 d5 z5 => ?_
  exact chkE_ok hF k1rc9 p5 t5 hf2 d5 z5 fun β6 a6 w6 p6 t6 d6 z6 => ⟨β6, p6, t6, d6, z6⟩
theorem k1hook (hG : Gok E N W G0) (hS : SoundC Tryz.prog E N W (exec Tryz.prog G0 hk0 ex0 100000)) (hH : HookOk Tryz.prog E N W hk0) : HookOk Tryz.prog E N W k1hk := by
  intro f k hf
  unfold k1hk at hf
  cases h9 : Nat.beq f 7
  · rw [h9] at hf; exact hH f k hf
  · rw [h9] at hf
    simp only [cond_true, Option.some.injEq] at hf; subst hf
    have := Nat.eq_of_beq_eq_true h9; subst this
    exact ⟨⟨fnOf 7, bdA, fnA_is, fnA_body⟩, fun args h r h' hk F β w vs m hv => memoH_ok (fun F β w vs m hv => k1all_ok hG hS F β w vs m hv) hk m hv⟩
set_option maxRecDepth 20000 in
/-- from where it is known who closes first (1) -/
theorem k1rest {F : Nat → Option Blk} (hG : Gok E N W G0) (hH : HookOk Tryz.prog E N W hk0) (hX : ExtOk Tryz.prog E ex0) {d a : Act} {β : Bm} {w : World} (hz : d.tmps.size = (fnOf 3).ntmps) (m : Mem E N W F β ⟨mkB s3H, s3N⟩ w) (t : TR E β (mkT (s4T 1)) a)
    (d0 : a.defers = d.defers) (z0 : a.tmps.size = d.tmps.size) : (seqL ls5 (.seq (.seq cd6 (.block 0 (.loop rnd))) tlC)).wp Tryz.prog (Qf E N W 6 d) a w := by
  have hS : SoundC Tryz.prog E N W (exec Tryz.prog G0 hk0 ex0 100000) := (exec_ok mixed hG hH hX noCount 100000).1
  have hS9 : SoundC Tryz.prog E N W (exec Tryz.prog G0 k1hk ex0 100000) := (exec_ok mixed hG (k1hook hG hS hH) hX noCount 100000).1
  have hF := soundF hS
  refine chkF_ok hF k1stepD (Post.same m) t (by rw [hz]; exact fits5) d0 z0 fun β1 a1 w1 p1 t1 d1 z1 => ?_
  refine wp_seq ?_
  refine chkF_ok hF (l := [cd6]) k1stepE p1 t1 (by rw [hz]; exact fits6) d1 z1 fun β2 a2 w2 p2 t2 d2 z2 => ?_
  refine wp_block (wpIn_of ?_)
  refine chkR_ok (soundF hS9) k1runs1 p2 t2 (by rw [hz]; exact fits7) d2 z2 fun β2 a2 w2 p2 t2 d2 z2 => ?_
  refine chkR_ok hF k1runsR p2 t2 (by rw [hz]; exact fits7) d2 z2 fun β3 a3 w3 p3 t3 d3 z3 => ?_
  refine chkE_ok hF k1runsE p3 t3 (by rw [hz]; exact fits7) d3 z3 fun β4 a4 w4 p4 t4 d4 z4 => ?_
  have hr := k1runsF
  rw [retF_eq] at hr
  exact chkRet_ok hS hr p4.mem t4 (by rw [z4, hz]; exact fits8) d4 z4
end

set_option maxRecDepth 20000 in
theorem lawTopBoth (w : World) (hG : ∀ E : En, Gok E w.heap.size w G0) (a b l : Nat) (ha : a < 2 ^ 64) (hb : b < 2 ^ 64) (hl : l < 256) :
    Calls Tryz.prog 3 #[.int .u64 (a : Nat), .int .u64 (b : Nat), .int .u8 (l : Nat)] w (fun e w' => e = .returned (.bool true) ∧ Below w.heap.size w w') := by
  obtain ⟨E, htk, h0, h1, h3⟩ : ∃ E : En, E.tk = tkF ∧ E.u 0 = a ∧ E.u 1 = b ∧ E.u 3 = l := ⟨EF a b l, rfl, rfl, rfl, rfl⟩
  have hH : HookOk Tryz.prog E w.heap.size w hk0 := hooks_ok body_tok body_of (by rw [htk]; exact token_any) sum_any
  have hS : SoundC Tryz.prog E w.heap.size w (exec Tryz.prog G0 hk0 ex0 100000) := (exec_ok mixed (hG E) hH (natives E) noCount 100000).1
  have hF := soundF hS
  have e0 : den E (.v 0) = a := by
    show E.u 0 % 2 ^ 64 = a
    rw [h0, Nat.mod_eq_of_lt ha]
  have e1 : den E (.v 1) = b := by
    show E.u 1 % 2 ^ 64 = b
    rw [h1, Nat.mod_eq_of_lt hb]
  have e3 : den E (.bt (.v 3) 0) = l := by
    show E.u 3 % 2 ^ 64 / 256 ^ 0 % 256 = l
    rw [h3, Nat.pow_zero, Nat.div_one, Nat.mod_eq_of_lt (Nat.lt_trans hl (by decide)), Nat.mod_eq_of_lt hl]
  have v0 := VR.sym (E := E) (β := fun _ => none) .u64 (.v 0) (by decide)
  have v1 := VR.sym (E := E) (β := fun _ => none) .u64 (.v 1) (by decide)
  have v3 := VR.sym (E := E) (β := fun _ => none) .u8 (.bt (.v 3) 0) (by decide)
  rw [e0] at v0; rw [e1] at v1; rw [e3] at v3
  refine call_parts (hG E) fn3_is fn3_body fn3_res (args := [.sym .u64 (.v 0), .sym .u64 (.v 1), .sym .u8 (.bt (.v 3) 0)])
    (.cons _ _ _ _ v0 (.cons _ _ _ _ v1 (.cons _ _ _ _ v3 .nil))) (Nat.le_of_ble_eq_true fn3_args) fun a0 t0 z0 => ?_
  rw [shape]
  refine chkF_ok hF (d := a0) stepA (Post.same (Mem.start E w)) t0 (by rw [z0]; exact fits1) rfl rfl fun β1 a1 w1 p1 t1 d1 z1 => ?_
  refine chkF_ok hF stepB p1 t1 (by rw [z0]; exact fits2) d1 z1 fun β2 a2 w2 p2 t2 d2 z2 => ?_
  have m2 := p2.mem
  refine wp_seq ?_
  have t2' : TR E β2 ((mkT s3T).set 2 (some (.int .u8 (.ofNat l)))) a2 := t2.other (x := .sym .u8 (.bt (.v 3) 0)) (by kernel_rfl) fun v hv => by
    cases hv
    rw [e3]
    exact .int _ _
  have hc := belowB_ok stepC hl
  have hrun : ∃ T3 h3, execF Tryz.prog G0 hk0 ex0 100000 cd4 ((mkT s3T).set 2 (some (.int .u8 (.ofNat l)))) ⟨mkB s3H, s3N⟩ = some (.norm T3 h3) ∧ subT T3 (s4T (Nat.mod l 2)) = true ∧ subB h3.t s3H = true ∧ h3.n ≤ s3N := by
    unfold chk4 chkF at hc
    simp only [runF] at hc
    split at hc
    · rename_i T' h' he
      split at he
      · rename_i T3 h3 he3
        simp only [Option.some.injEq, Prod.mk.injEq] at he
        obtain ⟨rfl, rfl⟩ := he
        simp only [Bool.and_eq_true] at hc
        exact ⟨T3, h3, he3, hc.1.1, hc.1.2, Nat.le_of_ble_eq_true hc.2⟩
      · cases he
    · cases hc
  obtain ⟨T3, h3', hr3, q1, q2, q3⟩ := hrun
  refine wp_mono (hF _ _ _ _ hr3 _ β2 a2 w2 m2 t2' (by rw [z2, z0]; exact fits4)) fun e a3 w3 q => ?_
  cases e <;> first
    | exact q.elim
    | skip
  obtain ⟨β3, p3, t3, d3, z3⟩ := q
  have m3 : Mem E w.heap.size w (fun _ => none) β3 ⟨mkB s3H, s3N⟩ w3 := p3.mem.sub (mkB_sub q2) q3
  have t3' : TR E β3 (mkT (s4T (Nat.mod l 2))) a3 := t3.sub (mkT_sub q1)
  show (seqL ls5 _).wp Tryz.prog _ a3 w3
  rcases Nat.mod_two_eq_zero_or_one l with h | h
  · rw [show Nat.mod l 2 = 0 from h] at t3'
    exact k0rest (hG E) hH (natives E) z0 m3 t3' (d3.trans d2) (z3.trans z2)
  · rw [show Nat.mod l 2 = 1 from h] at t3'
    exact k1rest (hG E) hH (natives E) z0 m3 t3' (d3.trans d2) (z3.trans z2)
end
end Go.Proofs.YtmlecinneceniaaGreatDoor.Sx
