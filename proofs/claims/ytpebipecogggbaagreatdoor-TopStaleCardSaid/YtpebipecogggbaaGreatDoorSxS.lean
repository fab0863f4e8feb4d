/-
  The law's function answers 'true', whatever it is asked, where the package's variables are as they were laid.
-/
import Derived.Test.YtpebipecogggbaaGreatDoorSxR2
import Derived.Test.YtpebipecogggbaaGreatDoorSxT
import Derived.Test.YtpebipecogggbaaGreatDoorSumX
namespace Go.Proofs.YtpebipecogggbaaGreatDoor.Sx
open Go Go.RowKit
noncomputable section
set_option linter.unusedVariables false

attribute [local irreducible] tkF tokT
/-- the own token of the host that is joined -/
noncomputable def ownF (b : Nat) : Nat := tkF ((tkF ((b % 2 ^ 64 ^^^ 1) % 2 ^ 64) % 2 ^ 32 * 2 ^ 32 + 1) % 2 ^ 64) % 2 ^ 32
noncomputable def uF (a b n l : Nat) (i : Nat) : Nat := match i with
  | 0 => a
  | 1 => b
  | 2 => if n = ownF b then ownF b + 1 else n
  | 3 => l
  | 4 => n
  | 9 => l % 30
  | _ => 0
noncomputable def EF (a b n l : Nat) (hn : n < 2 ^ 32) : En := ⟨uF a b n l, tkF, by
  show (if n = ownF b then ownF b + 1 else n) % 2 ^ 32 ≠ ownF b
  have : ownF b < 2 ^ 32 := Nat.mod_lt _ (by decide)
  split
  · omega
  · rw [Nat.mod_eq_of_lt hn]; assumption⟩

theorem shape : bd0 = seqL ls1 (seqL ls2 (seqL ls3 (seqL ls4 (seqL ls5 (.seq (.seq cd14 (.block 2 (.loop (.seq cd15 (.seq (.cond (.tmp 47) .skip (.exit 2)) bdR))))) tlC))))) := by kernel_rfl
theorem shape9 : bd9 = seqL [r9] (.block 0 (.loop X9)) := by kernel_rfl
theorem body_of : ∃ fn c, Tryz.prog.funcs[360]? = some fn ∧ fn.body = some c := ⟨fnOf 360, cdOf 360, by kernel_rfl, by kernel_rfl⟩
theorem fn3_is : Tryz.prog.funcs[3]? = some (fnOf 3) := by kernel_rfl
theorem fn3_body : (fnOf 3).body = some bd0 := by kernel_rfl
theorem fn3_res : (fnOf 3).results.toList = [.tmp 6] := by kernel_rfl
theorem fn3_args : Nat.ble 3 (fnOf 3).ntmps = true := by kernel_rfl
theorem fits1 : ls1.all (fitsC (fnOf 3).ntmps) = true := by kernel_rfl
theorem fits2 : ls2.all (fitsC (fnOf 3).ntmps) = true := by kernel_rfl
theorem fits2b : ls3.all (fitsC (fnOf 3).ntmps) = true := by kernel_rfl
theorem fits2c : ls4.all (fitsC (fnOf 3).ntmps) = true := by kernel_rfl
theorem fits2d : ls5.all (fitsC (fnOf 3).ntmps) = true := by kernel_rfl
theorem fits3 : [cd14].all (fitsC (fnOf 3).ntmps) = true := by kernel_rfl
theorem fits4 : fitsC (fnOf 3).ntmps cd15 = true := by kernel_rfl
theorem fits5 : fitsC (fnOf 3).ntmps bdR = true := by kernel_rfl
theorem fits6 : fitsC (fnOf 3).ntmps tlC = true := by kernel_rfl
theorem test15 : isTest L0 cd15 = true := by kernel_rfl
theorem fn9_is : Tryz.prog.funcs[9]? = some (fnOf 9) := by kernel_rfl
theorem fn9_body : (fnOf 9).body = some bd9 := by kernel_rfl
theorem fn9_fits : fitsC (fnOf 9).ntmps bd9 = true := by kernel_rfl
theorem fn9_res : (fnOf 9).results.toList = [] := by kernel_rfl

section
variable {E : En} {N : Nat} {W : World}
set_option maxRecDepth 20000 in
/-- 'all', from where it is called -/
theorem all_ok (hG : Gok E N W G0) (hS : SoundC Tryz.prog E N W (exec Tryz.prog G0 hk0 ex0 100000)) (F : Nat → Option Blk) (β : Bm) (w : World) (vs : Array Value) (m : Mem E N W F β ⟨mkB s7H, s7N⟩ w) (hv : VRs E β [.ptr 272 0] vs.toList) :
    Calls Tryz.prog 9 vs w (fun e w' => match e with | .returned v => ∃ β', Post E N W F β ⟨mkB s7H, s7N⟩ ⟨mkB s8H, s8N⟩ β' w' ∧ VR E β' (.tup []) v | .panicked _ => False | .outgrown => False) := by
  have hF := soundF hS
  refine call_by (l := []) (T1 := mkT []) (h1 := ⟨mkB s8H, s8N⟩) hG noCount fn9_is fn9_body fn9_fits (by rw [fn9_res]; rfl) (fun F β a w m hT hf => ?_) m hv
  rw [shape9] at hf ⊢
  have hf1 : [r9].all (fitsC a.tmps.size) = true := by
    simp only [seqL, fitsC, Bool.and_eq_true] at hf
    simp [hf.1]
  have hf2 : fitsC a.tmps.size X9 = true := by
    simp only [seqL, fitsC, Bool.and_eq_true] at hf
    exact hf.2
  refine chkF_ok hF (d := a) rc0 (Post.same m) hT hf1 rfl rfl fun β1 a1 w1 p1 t1 d1 z1 => wp_block (wpIn_of ?_)
  refine chkR_ok hF rc2 p1 t1 hf2 d1 z1 fun β2 a2 w2 p2 t2 d2 z2 => ?_
  refine chkR_ok hF rc4 p2 t2 hf2 d2 z2 fun β3 a3 w3 p3 t3 d3 z3 => ?_
  refine chkR_ok hF rc6 p3 t3 hf2 d3 z3 fun β4 a4 w4 p4 t4 d4 z4 => ?_
  refine chkR_ok hF rc8 p4 t4 hf2 d4 z4 fun β5 a5 w5 p5 t5 d5 z5 => ?_
  exact chkE_ok hF rc9 p5 t5 hf2 d5 z5 fun β6 a6 w6 p6 t6 d6 z6 => ⟨β6, p6, t6, d6, z6⟩
theorem hook9 (hG : Gok E N W G0) (hS : SoundC Tryz.prog E N W (exec Tryz.prog G0 hk0 ex0 100000)) (hH : HookOk Tryz.prog E N W hk0) : HookOk Tryz.prog E N W hk9 := by
  intro f k hf
  unfold hk9 at hf
  cases h9 : Nat.beq f 9
  · rw [h9] at hf; exact hH f k hf
  · rw [h9] at hf
    simp only [cond_true, Option.some.injEq] at hf; subst hf
    have := Nat.eq_of_beq_eq_true h9; subst this
    exact ⟨⟨fnOf 9, bd9, fn9_is, fn9_body⟩, fun args h r h' hk F β w vs m hv => memoH_ok (fun F β w vs m hv => all_ok hG hS F β w vs m hv) hk m hv⟩
end

set_option maxRecDepth 20000 in
theorem lawTopStale (w : World) (hG : ∀ E : En, Gok E w.heap.size w G0) (a b n l : Nat) (ha : a < 2 ^ 64) (hb : b < 2 ^ 64) (hn : n < 2 ^ 32) (hl : l < 256) :
    Calls Tryz.prog 3 #[.agg #[.int .u64 (a : Nat), .int .u64 (b : Nat)], .int .u32 (n : Nat), .int .u8 (l : Nat)] w (fun e w' => e = .returned (.bool true) ∧ Below w.heap.size w w') := by
  obtain ⟨E, htk, h0, h1, h2, h3, h4, hu9⟩ : ∃ E : En, E.tk = tkF ∧ E.u 0 = a ∧ E.u 1 = b ∧ E.u 2 = (if n = ownF b then ownF b + 1 else n) ∧ E.u 3 = l ∧ E.u 4 = n ∧ E.u 9 = l % 30 := ⟨EF a b n l hn, rfl, rfl, rfl, rfl, rfl, rfl, rfl⟩
  have hH : HookOk Tryz.prog E w.heap.size w hk0 := hooks_ok body_tok body_of (by rw [htk]; exact token_any) sum_any
  have hS : SoundC Tryz.prog E w.heap.size w (exec Tryz.prog G0 hk0 ex0 100000) := (exec_ok mixed (hG E) hH (natives E) noCount 100000).1
  have hS9 : SoundC Tryz.prog E w.heap.size w (exec Tryz.prog G0 hk9 ex0 100000) := (exec_ok mixed (hG E) (hook9 (hG E) hS hH) (natives E) noCount 100000).1
  have hF := soundF hS
  have e0 : den E (.v 0) = a := by
    show E.u 0 % 2 ^ 64 = a
    rw [h0, Nat.mod_eq_of_lt ha]
  have e1 : den E (.v 1) = b := by
    show E.u 1 % 2 ^ 64 = b
    rw [h1, Nat.mod_eq_of_lt hb]
  have e4 : den E (.pl (.v 4) 0) = n := by
    show (E.u 4 % 2 ^ 64 + 0) % 2 ^ 32 = n
    rw [h4, Nat.add_zero, Nat.mod_eq_of_lt (Nat.lt_trans hn (by decide)), Nat.mod_eq_of_lt hn]
  have e3 : den E (.bt (.v 3) 0) = l := by
    show E.u 3 % 2 ^ 64 / 256 ^ 0 % 256 = l
    rw [h3, Nat.pow_zero, Nat.div_one, Nat.mod_eq_of_lt (Nat.lt_trans hl (by decide)), Nat.mod_eq_of_lt hl]
  have hown : E.u 4 % 2 ^ 64 % 2 ^ 32 = E.u 2 % 2 ^ 32 ∨ E.u 4 % 2 ^ 64 % 2 ^ 32 = den E (.tok ownT) := by
    have k1 : E.u 4 % 2 ^ 64 % 2 ^ 32 = n := by
      rw [h4, Nat.mod_eq_of_lt (Nat.lt_trans hn (by decide)), Nat.mod_eq_of_lt hn]
    have k2 : den E (.tok ownT) = ownF b := by
      show E.tk ((E.tk ((E.u 1 % 2 ^ 64 ^^^ 1) % 2 ^ 64) % 2 ^ 32 * 2 ^ 32 + 1) % 2 ^ 64) % 2 ^ 32 = ownF b
      rw [htk, h1]
      rfl
    rw [k1, k2, h2]
    by_cases h : n = ownF b
    · exact .inr h
    · left
      rw [if_neg h, Nat.mod_eq_of_lt hn]
  have v0 := VR.sym (E := E) (β := fun _ => none) .u64 (.v 0) (by decide)
  have v1 := VR.sym (E := E) (β := fun _ => none) .u64 (.v 1) (by decide)
  have v4 := VR.sym (E := E) (β := fun _ => none) .u32 (.pl (.v 4) 0) (by decide)
  have v3 := VR.sym (E := E) (β := fun _ => none) .u8 (.bt (.v 3) 0) (by decide)
  rw [e0] at v0; rw [e1] at v1; rw [e4] at v4; rw [e3] at v3
  refine call_parts (hG E) fn3_is fn3_body fn3_res (args := [.agg [.sym .u64 (.v 0), .sym .u64 (.v 1)], .sym .u32 (.pl (.v 4) 0), .sym .u8 (.bt (.v 3) 0)])
    (.cons _ _ _ _ (.agg _ _ (.cons _ _ _ _ v0 (.cons _ _ _ _ v1 .nil)) rfl) (.cons _ _ _ _ v4 (.cons _ _ _ _ v3 .nil))) (Nat.le_of_ble_eq_true fn3_args) fun a0 t0 z0 => ?_
  rw [shape]
  refine chkF_ok hF (d := a0) stepA (Post.same (Mem.start E w)) t0 (by rw [z0]; exact fits1) rfl rfl fun β1 a1 w1 p1 t1 d1 z1 => ?_
  refine chkF_ok hF stepB p1 t1 (by rw [z0]; exact fits2) d1 z1 fun β1 a1 w1 p1 t1 d1 z1 => ?_
  refine chkF_ok hF stepB1 p1 t1 (by rw [z0]; exact fits2b) d1 z1 fun β1 a1 w1 p1 t1 d1 z1 => ?_
  refine chkF_ok (soundF hS9) stepB2 p1 t1 (by rw [z0]; exact fits2c) d1 z1 fun β1 a1 w1 p1 t1 d1 z1 => ?_
  refine chkF_ok hF stepB3 p1 t1 (by rw [z0]; exact fits2d) d1 z1 fun β2 a2 w2 p2 t2 d2 z2 => ?_
  have m2 := p2.mem
  refine wp_seq (wp_seq ?_)
  -- how many rounds
  have t2' : TR E β2 ((mkT sBT).set 2 (some (.int .u8 (.ofNat l)))) a2 := t2.other (x := .sym .u8 (.bt (.v 3) 0)) (by kernel_rfl) fun v hv => by
    cases hv
    rw [e3]
    exact .int _ _
  have hc := belowB_ok stepC hl
  have hrun : ∃ T3 h3, execF Tryz.prog G0 hk0 ex0 100000 cd14 ((mkT sBT).set 2 (some (.int .u8 (.ofNat l)))) ⟨mkB sBH, sBN⟩ = some (.norm T3 h3) ∧ subT T3 (sDT l) = true ∧ subB h3.t sBH = true ∧ h3.n ≤ sBN := by
    unfold chk14 chkF at hc
    simp only [runF] at hc
    split at hc
    · rename_i T' h' he
      split at he
      · rename_i T3 h3 he3
        simp only [Option.some.injEq, Prod.mk.injEq] at he
        obtain ⟨rfl, rfl⟩ := he
        simp only [Bool.and_eq_true] at hc
        exact ⟨T3, h3, he3, hc.1.1, hc.1.2, Nat.le_of_ble_eq_true hc.2⟩
      · cases he
    · cases hc
  obtain ⟨T3, h3, hr3, q1, q2, q3⟩ := hrun
  refine wp_mono (hF _ _ _ _ hr3 _ β2 a2 w2 m2 t2' (by rw [z2, z0]; simpa using fits3)) fun e a3 w3 q => ?_
  cases e <;> first
    | exact q.elim
    | skip
  obtain ⟨β3, p3, t3, d3, z3⟩ := q
  have m3 : Mem E w.heap.size w (fun _ => none) β3 ⟨mkB sBH, sBN⟩ w3 := p3.mem.sub (mkB_sub q2) q3
  have t3' : TR E β3 (mkT (sDT l)) a3 := t3.sub (mkT_sub q1)
  have t4 : TR E β3 ((mkT (sDT l)).set 45 (some (.sym .i64 (.v 9)))) a3 := t3'.other (x := .int .i64 (.ofNat (Nat.mod l 30))) (by
    unfold sDT
    simp only [mkT, Tr.get_set]
    rfl) fun v hv => by
    cases hv
    have := VR.sym (E := E) (β := β3) .i64 (.v 9) (by decide)
    have e9 : den E (.v 9) = l % 30 := by
      show E.u 9 % 2 ^ 64 = l % 30
      rw [hu9, Nat.mod_eq_of_lt (by omega)]
    rw [e9] at this
    exact this
  have t5 : TR E β3 T9 a3 := t4.sub fun t x hx => by
    unfold T9 at hx
    unfold sDT
    simp only [mkT, Tr.get_set] at hx ⊢
    by_cases h46 : t = 46
    · subst h46; simpa using hx
    · rw [if_neg h46] at hx
      by_cases h45 : t = 45
      · rw [if_pos h45] at hx ⊢; exact hx
      · rw [if_neg h45] at hx ⊢
        rw [if_neg h46, if_neg h45]; exact hx
  show (Code.block 2 _).wp Tryz.prog _ a3 w3
  refine wp_block (wpIn_of ?_)
  have hR : ∀ T h i l, T.get L0.si = some (.int .i64 (.ofNat i)) → T.get L0.sL = some (.int .i64 (.ofNat l)) → exec Tryz.prog G0 hk0 ex0 L0.n cd15 T h = some (.norm (T.set L0.sb (some (.bool (Nat.blt i l)))) h) :=
    fun T h i l hi hl => isTest_ok (n := 99999) test15 hi hl
  exact goN_ok (E := E) (N := w.heap.size) (W := w) (L := L0) (R := cd15) (id := 2) (u := false) (d := a0) hS (by decide) hown (by decide) hR (by rw [z0]; exact fits4) (by rw [z0]; exact fits5) (by rw [z0]; exact fits6)
    (by rw [hu9]; omega) 9 (fun h9 β a w m t d z =>
      goL_ok (E := E) (L := L0) (R := cd15) (id := 2) (u := true) (d := a0) hS (by decide) hown (by decide) hR (by rw [z0]; exact fits4) (by rw [z0]; exact fits5) (by rw [z0]; exact fits6)
        (by rw [hu9]; omega) 20 9 (mkT sGT) ⟨mkB sGH, sGN⟩ β a w stepG atG h9 (by rw [hu9]; omega) m t d z)
    9 0 T9 ⟨mkB sBH, sBN⟩ β3 a3 w3 runsD atD rfl (Nat.zero_le _) m3 t5 (d3.trans d2) (z3.trans z2)
end
end Go.Proofs.YtpebipecogggbaaGreatDoor.Sx
