/- The law DsendActs. The law DsendActs: act 0. The law DsendActs: act 1. The law DsendActs: act 2. The law DsendActs: act 4. -/
import Derived.Test.YtnigfdldfmiaiaaXSre3
import Derived.Test.YtnigfdldfmiaiaaMf
import Derived.Deep.RegionHeld3
namespace Go.Proofs.Ytnigfdldfmiaiaa
set_option linter.unusedVariables false
set_option linter.unusedSimpArgs false
open Go.ChangeShapes Go.WideShapes Go.ChangeAt Go.RowKit Go.Maps
set_option linter.unusedVariables false
set_option linter.unusedSimpArgs false
/-- What is taken is told by what was there. -/
theorem takeP_uniq {T : Sn} {L L1 L2 : Int → Bool} {most d1 d2 x1 x2 : Int} {n1 n2 : Nat} (h1 : TakeP T L most d1 n1 x1 L1) (h2 : TakeP T L most d2 n2 x2 L2) : d1 = d2 ∧ n1 = n2 ∧ x1 = x2 ∧ ∀ m, L1 m = L2 m := by
  rcases h1 with ⟨⟨q, hq⟩, a2, a3, a4, a5, a6, a7, a8, a9, a10⟩ | ⟨a1, a2, a3, a4, a5⟩
  · rcases h2 with ⟨_, b2, b3, b4, b5, b6, b7, b8, b9, b10⟩ | ⟨b1, _⟩
    · have hd : d1 = d2 := by
        rcases Int.lt_trichotomy d1 d2 with h | h | h
        · have := b6 d1 h
          rw [a7 d1 (Int.le_refl _) (by omega)] at this
          cases this
        · exact h
        · have := a6 d2 h
          rw [b7 d2 (Int.le_refl _) (by omega)] at this
          cases this
      subst hd
      have hn : n1 = n2 := by
        rcases Nat.lt_trichotomy n1 n2 with h | h | h
        · rcases a8 with g | g
          · omega
          · rw [b7 _ (by omega) (by omega)] at g
            cases g
        · exact h
        · rcases b8 with g | g
          · omega
          · rw [a7 _ (by omega) (by omega)] at g
            cases g
      subst hn
      exact ⟨rfl, rfl, a9.trans b9.symm, fun m => (a10 m).trans (b10 m).symm⟩
    · rw [b1] at hq
      cases hq
  · rcases h2 with ⟨⟨q, hq⟩, _⟩ | ⟨b1, b2, b3, b4, b5⟩
    · rw [a1] at hq
      cases hq
    · have hn : n1 = n2 := by omega
      subst hn
      exact ⟨a5.trans b5.symm, rfl, a4.trans b4.symm, fun m => (a2 m).trans (b2 m).symm⟩
/-- The sender and the document's, side by side. -/
structure PrS (w0 w : World) (s x : Nat) (F G : Nat → Prop) (T : Sn) (L : Int → Bool) (K : Int) : Prop where
  s : SnI F w s T L
  r : RsI G w x T L
  ok : T.Ok L K
  dj : ∀ y, F y → ¬ G y
  fo : ∀ y, F y → w0.heap.size ≤ y
  go : ∀ y, G y → w0.heap.size ≤ y
  fine : Fine w0 w
section
variable {w0 w w1 w2 w3 : World} {s x : Nat} {F G F' G' : Nat → Prop} {T T' : Sn} {L L' : Int → Bool} {K K' : Int}
theorem PrS.wfine (h : PrS w0 w s x F G T L K) (f : Fine w w1) : PrS w0 w1 s x F G T L K := ⟨h.s.fine f, h.r.fine f, h.ok, h.dj, h.fo, h.go, h.fine.trans f⟩
theorem PrS.more (h : PrS w0 w s x F G T L K) (hK : K ≤ K') : PrS w0 w s x F G T L K' := ⟨h.s, h.r, h.ok.more hK, h.dj, h.fo, h.go, h.fine⟩
/-- First the one has moved, then the other. -/
theorem PrS.moved (h : PrS w0 w s x F G T L K) (k1 : Kept F w w1) (s1 : SnI F' w1 s T' L') (hF : ∀ y, F' y → F y ∨ w.heap.size ≤ y) (f : Fine w1 w2) (k2 : Kept G w2 w3) (r3 : RsI G' w3 x T' L') (hG : ∀ y, G' y → G y ∨ w2.heap.size ≤ y) (ok : T'.Ok L' K') :
    PrS w0 w3 s x F' G' T' L' K' := by
  have l1 := s1.lt
  have hs := h.fine.size
  have h1 := k1.size
  have h2 := f.size
  have hd : ∀ y, F' y → ¬ G y := fun y hy hg => by
    rcases hF y hy with a | a
    · exact h.dj y a hg
    · have := h.r.lt y hg
      omega
  refine ⟨(s1.fine f).kept k2 hd, r3, ok, fun y hy hg => ?_, fun y hy => ?_, fun y hy => ?_, ?_⟩
  · rcases hG y hg with a | a
    · exact hd y hy a
    · have := l1 y hy
      omega
  · rcases hF y hy with a | a
    · exact h.fo y a
    · omega
  · rcases hG y hy with a | a
    · exact h.go y a
    · omega
  · exact ((h.fine.kept k1 (fun y hy hf => by have := h.fo y hf; omega)).trans f).kept k2 (fun y hy hf => by have := h.go y hf; omega)
/-- The document's, while the one has moved. -/
theorem PrS.rkept (h : PrS w0 w s x F G T L K) (k1 : Kept F w w1) (f : Fine w1 w2) : RsI G w2 x T L := (h.r.kept k1 (fun y hy hf => h.dj y hf hy)).fine f
theorem PrS.wkept (h : PrS w0 w s x F G T L K) (k1 : Kept F w w1) (f : Fine w1 w2) : Fine w0 w2 := (h.fine.kept k1 (fun y hy hf => by have := h.fo y hf; omega)).trans f
end
theorem nearS_same (n : Int) (w : World) : Calls Try.prog 58 #[.int .i64 n] w fun r w' => r = .returned (.int .i64 (nearS n)) ∧ w = w' := by
  obtain ⟨a, ha⟩ : ∃ z, (if n < -1073741824 then -1073741824 else n) = z := ⟨_, rfl⟩
  obtain ⟨b, hb⟩ : ∃ z, (if 1073741824 < a then 1073741824 else a) = z := ⟨_, rfl⟩
  have e : nearS n = b := by unfold nearS; rw [← hb, ← ha]; simp only [Int.min_def, Int.max_def]; split <;> split <;> split <;> split <;> omega
  rw [e]
  clear e
  go_enter Try.func58, Try.ntmps58
  go_wp2_with fail
  go_ret
  exact ⟨rfl, rfl⟩
/-- The law's loop. -/
def firstLoop7 : Code → Option Code
  | .loop c => some c
  | .seq a b => match firstLoop7 a with
    | some c => some c
    | none => firstLoop7 b
  | .block _ c => firstLoop7 c
  | .scope c => firstLoop7 c
  | .cond _ a b => match firstLoop7 a with
    | some c => some c
    | none => firstLoop7 b
  | _ => none
noncomputable def body16 : Code := ((Try.f16.body.bind firstLoop7).getD .skip)
end Go.Proofs.Ytnigfdldfmiaiaa
namespace Go.Proofs.Ytnigfdldfmiaiaa
set_option linter.unusedVariables false
set_option linter.unusedSimpArgs false
open Go.ChangeShapes Go.WideShapes Go.ChangeAt Go.RowKit Go.Maps
set_option linter.unusedVariables false
set_option linter.unusedSimpArgs false
set_option maxHeartbeats 8000000 in
set_option maxRecDepth 1000000 in
theorem dsendActs_0 (w wr : World) (A : Option Addr) (n cap : Nat) (acts : List Ds) (hn100 : n ≤ 100) (HR : Hid (RS layDs w A cap acts)) (HOK : Hid (∀ x ∈ acts, DsOk w x)) (HN : Hid (acts.length = n)) (hz2 : ¬ (n : Int) > 100) (s x i : Nat) (hi : i ≤ n) (hlt : i < n) (F G : Nat → Prop) (T : Sn) (L : Int → Bool) (J1 : Hid (PrS w wr s x F G T L (1 + 100 * (i : Int)))) (r : Ds) (hr0 : acts[i]? = some r) (hkind : r.k = 0) (hbig : r.len ≤ 100) (K : Act → World → Prop)
    (u2 u6 u7 u8 u9 u10 u11 u12 u13 u14 u15 u16 u17 u28 u29 u30 u31 u32 u33 u34 u35 u36 u37 u38 u39 u40 u41 u42 u43 u44 u45 u46 u47 u48 u49 u50 u51 u52 u53 u54 u55 u56 u57 u58 u59 u60 u61 u62 u63 u64 u65 u66 u67 u68 u69 u70 u71 u72 u73 u74 u75 u76 u77 u78 u79 u80 u81 u82 u83 u84 u85 u86 u87 u88 u89 u90 u91 u92 u93 u94 u95 u96 u97 u98 u99 u100 u101 u102 u103 u104 u105 u106 u107 u108 u109 u110 u111 u112 u113 u114 u115 u116 u117 u118 u119 u120 u121 u122 u123 u124 u125 u126 u127 u128 u129 u130 u131 u132 u133 u134 u135 u136 u137 u138 u139 u140 u141 u142 u143 u144 u145 u146 u147 u148 u149 u150 u151 u152 u153 u154 u155 u156 u157 u158 u159 u160 u161 u162 u163 u164 u165 u166 u167 u168 u169 u170 u171 u172 u173 u174 : Value) :
    Code.wp Try.prog body16 (Exit.then (fun a' w' => (∃ u2 u6 u7 u8 u9 u10 u11 u12 u13 u14 u15 u16 u17 u27 u28 u29 u30 u31 u32 u33 u34 u35 u36 u37 u38 u39 u40 u41 u42 u43 u44 u45 u46 u47 u48 u49 u50 u51 u52 u53 u54 u55 u56 u57 u58 u59 u60 u61 u62 u63 u64 u65 u66 u67 u68 u69 u70 u71 u72 u73 u74 u75 u76 u77 u78 u79 u80 u81 u82 u83 u84 u85 u86 u87 u88 u89 u90 u91 u92 u93 u94 u95 u96 u97 u98 u99 u100 u101 u102 u103 u104 u105 u106 u107 u108 u109 u110 u111 u112 u113 u114 u115 u116 u117 u118 u119 u120 u121 u122 u123 u124 u125 u126 u127 u128 u129 u130 u131 u132 u133 u134 u135 u136 u137 u138 u139 u140 u141 u142 u143 u144 u145 u146 u147 u148 u149 u150 u151 u152 u153 u154 u155 u156 u157 u158 u159 u160 u161 u162 u163 u164 u165 u166 u167 u168 u169 u170 u171 u172 u173 u174, (∃ i : Nat, i ≤ n ∧ u27 = .int .i64 i ∧ Hid (∃ F G T L, PrS w w' s x F G T L (1 + 100 * (i : Int)))) ∧ a' = ⟨#[.slice A n cap, undef, u2, .pointer (some ⟨s, 0, none⟩), .pointer (some ⟨x, 0, none⟩), undef, u6, u7, u8, u9, u10, u11, u12, u13, u14, u15, u16, u17, .bool true, .bool false, .slice A n cap, .int .i64 n, .bool (decide (100 < (n : Int))), .pointer (some ⟨s, 0, none⟩), .pointer (some ⟨x, 0, none⟩), .slice A n cap, .int .i64 n, u27, u28, u29, u30, u31, u32, u33, u34, u35, u36, u37, u38, u39, u40, u41, u42, u43, u44, u45, u46, u47, u48, u49, u50, u51, u52, u53, u54, u55, u56, u57, u58, u59, u60, u61, u62, u63, u64, u65, u66, u67, u68, u69, u70, u71, u72, u73, u74, u75, u76, u77, u78, u79, u80, u81, u82, u83, u84, u85, u86, u87, u88, u89, u90, u91, u92, u93, u94, u95, u96, u97, u98, u99, u100, u101, u102, u103, u104, u105, u106, u107, u108, u109, u110, u111, u112, u113, u114, u115, u116, u117, u118, u119, u120, u121, u122, u123, u124, u125, u126, u127, u128, u129, u130, u131, u132, u133, u134, u135, u136, u137, u138, u139, u140, u141, u142, u143, u144, u145, u146, u147, u148, u149, u150, u151, u152, u153, u154, u155, u156, u157, u158, u159, u160, u161, u162, u163, u164, u165, u166, u167, u168, u169, u170, u171, u172, u173, u174], []⟩) ∧ n - (intOf (a'.tmps.getD 27 undef)).toNat < n - (intOf (#[.slice A n cap, undef, u2, .pointer (some ⟨s, 0, none⟩), .pointer (some ⟨x, 0, none⟩), undef, u6, u7, u8, u9, u10, u11, u12, u13, u14, u15, u16, u17, .bool true, .bool false, .slice A n cap, .int .i64 n, .bool (decide (100 < (n : Int))), .pointer (some ⟨s, 0, none⟩), .pointer (some ⟨x, 0, none⟩), .slice A n cap, .int .i64 n, .int .i64 i, u28, u29, u30, u31, u32, u33, u34, u35, u36, u37, u38, u39, u40, u41, u42, u43, u44, u45, u46, u47, u48, u49, u50, u51, u52, u53, u54, u55, u56, u57, u58, u59, u60, u61, u62, u63, u64, u65, u66, u67, u68, u69, u70, u71, u72, u73, u74, u75, u76, u77, u78, u79, u80, u81, u82, u83, u84, u85, u86, u87, u88, u89, u90, u91, u92, u93, u94, u95, u96, u97, u98, u99, u100, u101, u102, u103, u104, u105, u106, u107, u108, u109, u110, u111, u112, u113, u114, u115, u116, u117, u118, u119, u120, u121, u122, u123, u124, u125, u126, u127, u128, u129, u130, u131, u132, u133, u134, u135, u136, u137, u138, u139, u140, u141, u142, u143, u144, u145, u146, u147, u148, u149, u150, u151, u152, u153, u154, u155, u156, u157, u158, u159, u160, u161, u162, u163, u164, u165, u166, u167, u168, u169, u170, u171, u172, u173, u174].getD 27 undef)).toNat) (Exit.inBlock 0 (Exit.then K (bodyPost Try.prog Try.f16 fun r w' => r = .returned (.bool true) ∧ Fine w w')))) ⟨#[.slice A n cap, undef, u2, .pointer (some ⟨s, 0, none⟩), .pointer (some ⟨x, 0, none⟩), undef, u6, u7, u8, u9, u10, u11, u12, u13, u14, u15, u16, u17, .bool true, .bool false, .slice A n cap, .int .i64 n, .bool (decide (100 < (n : Int))), .pointer (some ⟨s, 0, none⟩), .pointer (some ⟨x, 0, none⟩), .slice A n cap, .int .i64 n, .int .i64 i, u28, u29, u30, u31, u32, u33, u34, u35, u36, u37, u38, u39, u40, u41, u42, u43, u44, u45, u46, u47, u48, u49, u50, u51, u52, u53, u54, u55, u56, u57, u58, u59, u60, u61, u62, u63, u64, u65, u66, u67, u68, u69, u70, u71, u72, u73, u74, u75, u76, u77, u78, u79, u80, u81, u82, u83, u84, u85, u86, u87, u88, u89, u90, u91, u92, u93, u94, u95, u96, u97, u98, u99, u100, u101, u102, u103, u104, u105, u106, u107, u108, u109, u110, u111, u112, u113, u114, u115, u116, u117, u118, u119, u120, u121, u122, u123, u124, u125, u126, u127, u128, u129, u130, u131, u132, u133, u134, u135, u136, u137, u138, u139, u140, u141, u142, u143, u144, u145, u146, u147, u148, u149, u150, u151, u152, u153, u154, u155, u156, u157, u158, u159, u160, u161, u162, u163, u164, u165, u166, u167, u168, u169, u170, u171, u172, u173, u174], []⟩ wr := by
  conv => arg 2; whnf
  have e22 : decide (100 < (n : Int)) = false := decide_eq_false (by omega)
  rw [e22]
  clear e22
  have hrok := HOK.out r (List.mem_of_getElem? hr0)
  obtain ⟨bb, o, rfl, hb, hc⟩ := (HR.out.fine J1.out.fine).at_ hr0
  obtain ⟨rk, rn, rm, rA, rl, rc, zs⟩ := r
  have d0 := hc 0 (.int .i64 rk) rfl
  have d1 := hc 1 (.int .i64 rn) rfl
  have d2 := hc 2 (.int .i64 rm) rfl
  have d3 := hc 3 (.slice rA rl rc) rfl
  simp only [← Nat.add_assoc, Nat.add_zero] at d0 d1 d2 d3
  have HD := Lib.hid hrok
  obtain ⟨xr, hxr⟩ : ∃ x, wr.heap.size = x := ⟨_, rfl⟩
  have b5 := Blk.newAt (w := wr) (t := 76) (cs := #[.int .i64 rk, .int .i64 rn, .int .i64 rm, .slice rA rl rc]) hxr.symm
  have f5 := (Fine.refl wr).alloc (.cells #[.int .i64 rk, .int .i64 rn, .int .i64 rm, .slice rA rl rc] 76)
  have hxF : ¬ F xr := fun hf => by have := J1.out.s.lt _ hf; omega
  have hxG : ¬ G xr := fun hf => by have := J1.out.r.lt _ hf; omega
  clear hc hr0 hrok
  go_upto_region 9 with fail
  generalize wr.alloc (.cells #[.int .i64 rk, .int .i64 rn, .int .i64 rm, .slice rA rl rc] 76) = w5 at b5 f5 ⊢
  have B5 := Lib.hid b5; have J5 := Lib.hid (J1.out.wfine f5)
  have c0 : w5.cell? ⟨xr, 0, none⟩ = some (.int .i64 rk) := b5.cell 0
  have c1 : w5.cell? ⟨xr, 1, none⟩ = some (.int .i64 rn) := b5.cell 1
  have c2 : w5.cell? ⟨xr, 2, none⟩ = some (.int .i64 rm) := b5.cell 2
  have c3 : w5.cell? ⟨xr, 3, none⟩ = some (.slice rA rl rc) := b5.cell 3
  clear b5 f5 hxr d0 d1 d2 d3
  obtain ⟨una, huna⟩ : ∃ z, T.una = z := ⟨_, rfl⟩
  have hub : 1 ≤ una ∧ una ≤ 20000 := by have h1 := J1.out.ok.u1; have h2 := J1.out.ok.ub; omega
  have HUNA := Lib.hid huna
  have hKb : 1 + 100 * (i : Int) ≤ 20000 := by omega
  have hKi : (1 + 100 * (i : Int)) + 100 = 1 + 100 * ((i + 1 : Nat) : Int) := by omega
  have hKm : (1 + 100 * (i : Int)) ≤ 1 + 100 * ((i + 1 : Nat) : Int) := by omega
  have HKI := Lib.hid hKi
  clear huna hKi
  have hkind : rk = 0 := hkind
  subst hkind
  have hbig : rl ≤ 100 := hbig
  have hbig2 : ¬ (rl : Int) > 100 := by omega
  go_wp2_with fail
  refine (sn_write rl rc rA zs HD.out.2.2.2.1 (by omega) J5.out.ok.b64 w5 (HD.out.2.2.2.2.1.fine J5.out.fine) J5.out.s).mono ?_
  rintro r w6 ⟨F9, rfl, x6, k6, hF6⟩
  have hwn := wrN_le T zs
  have hfar : 0 < rl → ∀ b o, rA = some ⟨b, o, none⟩ → ¬ G b := fun h0 b o e hg => by
    obtain ⟨b', o', e', h, _⟩ := HD.out.2.2.2.2.1.2.2.2 (by have := HD.out.2.2.2.1; dsimp only at this ⊢; omega)
    dsimp only at e'
    rw [e] at e'; injection e' with e'; injection e' with e' _ _
    have := J5.out.go b hg
    omega
  have HRW := Lib.hid (rswrite_any (K := 1 + 100 * (i : Int)) rl rc rA zs HD.out.2.2.2.1 (by omega) (by omega) J5.out.ok w6 (HD.out.2.2.2.2.1.fine (J5.out.wkept k6 (Fine.refl w6))) hfar (J5.out.rkept k6 (Fine.refl w6)))
  have X6 := Lib.hid x6; have K6 := Lib.hid k6; have HF6 := Lib.hid hF6
  have c3' : w6.cell? ⟨xr, 3, none⟩ = some (.slice rA rl rc) := (B5.out.kept k6 hxF).cell 3
  obtain ⟨wn, hwne⟩ : ∃ z, wrN T zs = z := ⟨_, rfl⟩
  obtain ⟨we, hwee⟩ : ∃ z, wrE T zs = z := ⟨_, rfl⟩
  have HWN := Lib.hid hwne; have HWE := Lib.hid hwee
  rw [hwne, hwee]
  clear x6 k6 hF6 hfar hwne hwee hwn c0 c1 c2 c3
  go_wp2_with fail
  refine HRW.out.mono ?_
  rintro r w7 ⟨rfl, G9, r7, k7, hG7⟩
  rw [HWN.out, HWE.out]
  have hk9 := J5.out.ok.wrote zs
  rw [HKI.out] at hk9
  have P7 := Lib.hid (J5.out.moved K6.out X6.out HF6.out (Fine.refl w6) k7 r7 hG7 hk9)
  clear r7 k7 hG7 hk9 HRW X6 K6 HF6 c3'
  obtain ⟨x9, hx9⟩ : ∃ y, w7.heap.size = y := ⟨_, rfl⟩
  have b9 := Blk.newAt (w := w7) (t := 84) (cs := #[.int .i64 (wn : Int), .int .i64 we]) hx9.symm
  have f9 := (Fine.refl w7).alloc (.cells #[.int .i64 (wn : Int), .int .i64 we] 84)
  have g1 : ((wn : Int) != (wn : Int)) = false := by simp
  have g2 : (we != we) = false := by simp
  go_upto_region 15 with fail
  generalize w7.alloc (.cells #[.int .i64 (wn : Int), .int .i64 we] 84) = w9 at b9 f9 ⊢
  have J9' := Lib.hid (P7.out.wfine f9)
  have y0 : w9.cell? ⟨x9, 0, none⟩ = some (.int .i64 (wn : Int)) := b9.cell 0
  have y1 : w9.cell? ⟨x9, 1, none⟩ = some (.int .i64 we) := b9.cell 1
  clear b9 f9 hx9 P7
  obtain ⟨T9, hT9⟩ : ∃ z, z = T.wrote zs := ⟨_, rfl⟩
  obtain ⟨L9, hL9⟩ : ∃ z, z = L := ⟨_, rfl⟩
  have J9 := J9'
  rw [← hT9, ← hL9] at J9
  clear hT9 hL9 J9'
  go_upto_region 36 with fail
  clear y0 y1 g1 g2
  go_wp2_with fail
  refine (ssame_any (by omega) J9.out.ok w9 J9.out.s J9.out.r).mono ?_
  rintro e v1 ⟨rfl, f1⟩
  have K1 := Lib.hid f1
  clear f1
  go_wp2_with fail
  exact ⟨⟨i + 1, hlt, by simp, Lib.hid ⟨F9, G9, T9, L9, J9.out.wfine K1.out⟩⟩, by simp only [intOf]; omega⟩
end Go.Proofs.Ytnigfdldfmiaiaa
namespace Go.Proofs.Ytnigfdldfmiaiaa
set_option linter.unusedVariables false
set_option linter.unusedSimpArgs false
open Go.ChangeShapes Go.WideShapes Go.ChangeAt Go.RowKit Go.Maps
set_option linter.unusedVariables false
set_option linter.unusedSimpArgs false
set_option maxHeartbeats 8000000 in
set_option maxRecDepth 1000000 in
theorem dsendActs_1 (w wr : World) (A : Option Addr) (n cap : Nat) (acts : List Ds) (hn100 : n ≤ 100) (HR : Hid (RS layDs w A cap acts)) (HOK : Hid (∀ x ∈ acts, DsOk w x)) (HN : Hid (acts.length = n)) (hz2 : ¬ (n : Int) > 100) (s x i : Nat) (hi : i ≤ n) (hlt : i < n) (F G : Nat → Prop) (T : Sn) (L : Int → Bool) (J1 : Hid (PrS w wr s x F G T L (1 + 100 * (i : Int)))) (r : Ds) (hr0 : acts[i]? = some r) (hkind : r.k = 1) (K : Act → World → Prop)
    (u2 u6 u7 u8 u9 u10 u11 u12 u13 u14 u15 u16 u17 u28 u29 u30 u31 u32 u33 u34 u35 u36 u37 u38 u39 u40 u41 u42 u43 u44 u45 u46 u47 u48 u49 u50 u51 u52 u53 u54 u55 u56 u57 u58 u59 u60 u61 u62 u63 u64 u65 u66 u67 u68 u69 u70 u71 u72 u73 u74 u75 u76 u77 u78 u79 u80 u81 u82 u83 u84 u85 u86 u87 u88 u89 u90 u91 u92 u93 u94 u95 u96 u97 u98 u99 u100 u101 u102 u103 u104 u105 u106 u107 u108 u109 u110 u111 u112 u113 u114 u115 u116 u117 u118 u119 u120 u121 u122 u123 u124 u125 u126 u127 u128 u129 u130 u131 u132 u133 u134 u135 u136 u137 u138 u139 u140 u141 u142 u143 u144 u145 u146 u147 u148 u149 u150 u151 u152 u153 u154 u155 u156 u157 u158 u159 u160 u161 u162 u163 u164 u165 u166 u167 u168 u169 u170 u171 u172 u173 u174 : Value) :
    Code.wp Try.prog body16 (Exit.then (fun a' w' => (∃ u2 u6 u7 u8 u9 u10 u11 u12 u13 u14 u15 u16 u17 u27 u28 u29 u30 u31 u32 u33 u34 u35 u36 u37 u38 u39 u40 u41 u42 u43 u44 u45 u46 u47 u48 u49 u50 u51 u52 u53 u54 u55 u56 u57 u58 u59 u60 u61 u62 u63 u64 u65 u66 u67 u68 u69 u70 u71 u72 u73 u74 u75 u76 u77 u78 u79 u80 u81 u82 u83 u84 u85 u86 u87 u88 u89 u90 u91 u92 u93 u94 u95 u96 u97 u98 u99 u100 u101 u102 u103 u104 u105 u106 u107 u108 u109 u110 u111 u112 u113 u114 u115 u116 u117 u118 u119 u120 u121 u122 u123 u124 u125 u126 u127 u128 u129 u130 u131 u132 u133 u134 u135 u136 u137 u138 u139 u140 u141 u142 u143 u144 u145 u146 u147 u148 u149 u150 u151 u152 u153 u154 u155 u156 u157 u158 u159 u160 u161 u162 u163 u164 u165 u166 u167 u168 u169 u170 u171 u172 u173 u174, (∃ i : Nat, i ≤ n ∧ u27 = .int .i64 i ∧ Hid (∃ F G T L, PrS w w' s x F G T L (1 + 100 * (i : Int)))) ∧ a' = ⟨#[.slice A n cap, undef, u2, .pointer (some ⟨s, 0, none⟩), .pointer (some ⟨x, 0, none⟩), undef, u6, u7, u8, u9, u10, u11, u12, u13, u14, u15, u16, u17, .bool true, .bool false, .slice A n cap, .int .i64 n, .bool (decide (100 < (n : Int))), .pointer (some ⟨s, 0, none⟩), .pointer (some ⟨x, 0, none⟩), .slice A n cap, .int .i64 n, u27, u28, u29, u30, u31, u32, u33, u34, u35, u36, u37, u38, u39, u40, u41, u42, u43, u44, u45, u46, u47, u48, u49, u50, u51, u52, u53, u54, u55, u56, u57, u58, u59, u60, u61, u62, u63, u64, u65, u66, u67, u68, u69, u70, u71, u72, u73, u74, u75, u76, u77, u78, u79, u80, u81, u82, u83, u84, u85, u86, u87, u88, u89, u90, u91, u92, u93, u94, u95, u96, u97, u98, u99, u100, u101, u102, u103, u104, u105, u106, u107, u108, u109, u110, u111, u112, u113, u114, u115, u116, u117, u118, u119, u120, u121, u122, u123, u124, u125, u126, u127, u128, u129, u130, u131, u132, u133, u134, u135, u136, u137, u138, u139, u140, u141, u142, u143, u144, u145, u146, u147, u148, u149, u150, u151, u152, u153, u154, u155, u156, u157, u158, u159, u160, u161, u162, u163, u164, u165, u166, u167, u168, u169, u170, u171, u172, u173, u174], []⟩) ∧ n - (intOf (a'.tmps.getD 27 undef)).toNat < n - (intOf (#[.slice A n cap, undef, u2, .pointer (some ⟨s, 0, none⟩), .pointer (some ⟨x, 0, none⟩), undef, u6, u7, u8, u9, u10, u11, u12, u13, u14, u15, u16, u17, .bool true, .bool false, .slice A n cap, .int .i64 n, .bool (decide (100 < (n : Int))), .pointer (some ⟨s, 0, none⟩), .pointer (some ⟨x, 0, none⟩), .slice A n cap, .int .i64 n, .int .i64 i, u28, u29, u30, u31, u32, u33, u34, u35, u36, u37, u38, u39, u40, u41, u42, u43, u44, u45, u46, u47, u48, u49, u50, u51, u52, u53, u54, u55, u56, u57, u58, u59, u60, u61, u62, u63, u64, u65, u66, u67, u68, u69, u70, u71, u72, u73, u74, u75, u76, u77, u78, u79, u80, u81, u82, u83, u84, u85, u86, u87, u88, u89, u90, u91, u92, u93, u94, u95, u96, u97, u98, u99, u100, u101, u102, u103, u104, u105, u106, u107, u108, u109, u110, u111, u112, u113, u114, u115, u116, u117, u118, u119, u120, u121, u122, u123, u124, u125, u126, u127, u128, u129, u130, u131, u132, u133, u134, u135, u136, u137, u138, u139, u140, u141, u142, u143, u144, u145, u146, u147, u148, u149, u150, u151, u152, u153, u154, u155, u156, u157, u158, u159, u160, u161, u162, u163, u164, u165, u166, u167, u168, u169, u170, u171, u172, u173, u174].getD 27 undef)).toNat) (Exit.inBlock 0 (Exit.then K (bodyPost Try.prog Try.f16 fun r w' => r = .returned (.bool true) ∧ Fine w w')))) ⟨#[.slice A n cap, undef, u2, .pointer (some ⟨s, 0, none⟩), .pointer (some ⟨x, 0, none⟩), undef, u6, u7, u8, u9, u10, u11, u12, u13, u14, u15, u16, u17, .bool true, .bool false, .slice A n cap, .int .i64 n, .bool (decide (100 < (n : Int))), .pointer (some ⟨s, 0, none⟩), .pointer (some ⟨x, 0, none⟩), .slice A n cap, .int .i64 n, .int .i64 i, u28, u29, u30, u31, u32, u33, u34, u35, u36, u37, u38, u39, u40, u41, u42, u43, u44, u45, u46, u47, u48, u49, u50, u51, u52, u53, u54, u55, u56, u57, u58, u59, u60, u61, u62, u63, u64, u65, u66, u67, u68, u69, u70, u71, u72, u73, u74, u75, u76, u77, u78, u79, u80, u81, u82, u83, u84, u85, u86, u87, u88, u89, u90, u91, u92, u93, u94, u95, u96, u97, u98, u99, u100, u101, u102, u103, u104, u105, u106, u107, u108, u109, u110, u111, u112, u113, u114, u115, u116, u117, u118, u119, u120, u121, u122, u123, u124, u125, u126, u127, u128, u129, u130, u131, u132, u133, u134, u135, u136, u137, u138, u139, u140, u141, u142, u143, u144, u145, u146, u147, u148, u149, u150, u151, u152, u153, u154, u155, u156, u157, u158, u159, u160, u161, u162, u163, u164, u165, u166, u167, u168, u169, u170, u171, u172, u173, u174], []⟩ wr := by
  conv => arg 2; whnf
  have e22 : decide (100 < (n : Int)) = false := decide_eq_false (by omega)
  rw [e22]
  clear e22
  have hrok := HOK.out r (List.mem_of_getElem? hr0)
  obtain ⟨bb, o, rfl, hb, hc⟩ := (HR.out.fine J1.out.fine).at_ hr0
  obtain ⟨rk, rn, rm, rA, rl, rc, zs⟩ := r
  have d0 := hc 0 (.int .i64 rk) rfl
  have d1 := hc 1 (.int .i64 rn) rfl
  have d2 := hc 2 (.int .i64 rm) rfl
  have d3 := hc 3 (.slice rA rl rc) rfl
  simp only [← Nat.add_assoc, Nat.add_zero] at d0 d1 d2 d3
  have HD := Lib.hid hrok
  obtain ⟨xr, hxr⟩ : ∃ x, wr.heap.size = x := ⟨_, rfl⟩
  have b5 := Blk.newAt (w := wr) (t := 76) (cs := #[.int .i64 rk, .int .i64 rn, .int .i64 rm, .slice rA rl rc]) hxr.symm
  have f5 := (Fine.refl wr).alloc (.cells #[.int .i64 rk, .int .i64 rn, .int .i64 rm, .slice rA rl rc] 76)
  have hxF : ¬ F xr := fun hf => by have := J1.out.s.lt _ hf; omega
  have hxG : ¬ G xr := fun hf => by have := J1.out.r.lt _ hf; omega
  clear hc hr0 hrok
  go_upto_region 9 with fail
  generalize wr.alloc (.cells #[.int .i64 rk, .int .i64 rn, .int .i64 rm, .slice rA rl rc] 76) = w5 at b5 f5 ⊢
  have B5 := Lib.hid b5; have J5 := Lib.hid (J1.out.wfine f5)
  have c0 : w5.cell? ⟨xr, 0, none⟩ = some (.int .i64 rk) := b5.cell 0
  have c1 : w5.cell? ⟨xr, 1, none⟩ = some (.int .i64 rn) := b5.cell 1
  have c2 : w5.cell? ⟨xr, 2, none⟩ = some (.int .i64 rm) := b5.cell 2
  have c3 : w5.cell? ⟨xr, 3, none⟩ = some (.slice rA rl rc) := b5.cell 3
  clear b5 f5 hxr d0 d1 d2 d3
  obtain ⟨una, huna⟩ : ∃ z, T.una = z := ⟨_, rfl⟩
  have hub : 1 ≤ una ∧ una ≤ 20000 := by have h1 := J1.out.ok.u1; have h2 := J1.out.ok.ub; omega
  have HUNA := Lib.hid huna
  have hKb : 1 + 100 * (i : Int) ≤ 20000 := by omega
  have hKi : (1 + 100 * (i : Int)) + 100 = 1 + 100 * ((i + 1 : Nat) : Int) := by omega
  have hKm : (1 + 100 * (i : Int)) ≤ 1 + 100 * ((i + 1 : Nat) : Int) := by omega
  have HKI := Lib.hid hKi
  clear huna hKi
  have hkind : rk = 1 := hkind
  subst hkind
  go_wp2_with fail
  refine (sn_take rn (by omega) J5.out.ok w5 J5.out.s).mono ?_
  rintro r w6 ⟨dsn, k, A7, c7, F9, nx9, L9, rfl, o7, x7, k7, hF7, hp, hd7⟩
  obtain ⟨ok7, _, _, _, hlen⟩ := J5.out.ok.took hp
  have HRT := Lib.hid (rstake_any (K := 1 + 100 * (i : Int)) rn (by omega) J5.out.ok w6 (J5.out.rkept k7 (Fine.refl w6)))
  have X6 := Lib.hid x7; have K6 := Lib.hid k7; have HF6 := Lib.hid hF7; have HP := Lib.hid hp; have OK7 := Lib.hid ok7
  obtain ⟨bs, hbs⟩ : ∃ z, (T.buf.drop (dsn - T.una).toNat).take k = z := ⟨_, rfl⟩
  rw [hbs] at o7 hlen
  have HBS := Lib.hid hbs; have HLEN := Lib.hid hlen
  have RS6 := Lib.hid o7.rs.1
  have FRM : Hid (∀ b o, A7 = some ⟨b, o, none⟩ → ¬ G b) := Lib.hid (fun b o e hg => by have := (o7.from_ b o e).1; have := J5.out.r.lt b hg; omega)
  have c1' : w6.cell? ⟨xr, 1, none⟩ = some (.int .i64 rn) := (B5.out.kept k7 hxF).cell 1
  clear o7 x7 k7 hF7 hp ok7 hlen hbs hd7 c0 c1 c2 c3
  go_wp2_with fail
  refine HRT.out.mono ?_
  rintro r w7 ⟨dsn2, k2, A8, c8, nx8, L8, rfl, rs8, r8, k8, hp8, _⟩
  obtain ⟨h1, h2, h3, h4⟩ := takeP_uniq HP.out hp8
  subst h1 h2 h3
  have h5 : L9 = L8 := funext h4
  subst h5
  rw [HBS.out] at rs8
  have RS8 := Lib.hid rs8
  have P7 := Lib.hid ((J5.out.moved K6.out X6.out HF6.out (Fine.refl w6) k8 r8 (fun y hy => .inl hy) OK7.out).more hKm)
  have RS67 := Lib.hid (RS6.out.kept k8 (fun b o e hg => FRM.out b o e hg))
  clear rs8 r8 k8 hp8 h4 HRT X6 K6 HF6 HP OK7 RS6 FRM c1'
  obtain ⟨x9, hx9⟩ : ∃ y, w7.heap.size = y := ⟨_, rfl⟩
  have b9 := Blk.newAt (w := w7) (t := 87) (cs := #[.int .i64 dsn, .slice A8 k c8]) hx9.symm
  have f9 := (Fine.refl w7).alloc (.cells #[.int .i64 dsn, .slice A8 k c8] 87)
  have g1 : (dsn != dsn) = false := by simp
  go_upto_region 20 with fail
  generalize w7.alloc (.cells #[.int .i64 dsn, .slice A8 k c8] 87) = w8 at b9 f9 ⊢
  have J8 := Lib.hid (P7.out.wfine f9)
  have y0 : w8.cell? ⟨x9, 0, none⟩ = some (.int .i64 dsn) := b9.cell 0
  have y1 : w8.cell? ⟨x9, 1, none⟩ = some (.slice A8 k c8) := b9.cell 1
  have HSA := Lib.hid (same_any A7 A8 c7 c8 k k bs bs HLEN.out HLEN.out w8 (RS67.out.fine f9) (RS8.out.fine f9))
  rw [decide_eq_true (rfl : bs = bs)] at HSA
  clear b9 f9 hx9 P7 RS67 RS8
  go_wp2_with fail
  refine HSA.out.mono ?_
  rintro r w9 ⟨rfl, f9⟩
  have J9' := Lib.hid (J8.out.wfine f9)
  clear f9 HSA J8 y0 y1 g1
  obtain ⟨T9, hT9⟩ : ∃ z, z = ({ T with nx := nx9 } : Sn) := ⟨_, rfl⟩
  obtain ⟨G9, hG9⟩ : ∃ z, z = G := ⟨_, rfl⟩
  have J9 := J9'
  rw [← hT9, ← hG9] at J9
  clear hT9 hG9 J9'
  go_wp2_with fail
  refine (ssame_any (by omega) J9.out.ok w9 J9.out.s J9.out.r).mono ?_
  rintro e v1 ⟨rfl, f1⟩
  have K1 := Lib.hid f1
  clear f1
  go_wp2_with fail
  exact ⟨⟨i + 1, hlt, by simp, Lib.hid ⟨F9, G9, T9, L9, J9.out.wfine K1.out⟩⟩, by simp only [intOf]; omega⟩
end Go.Proofs.Ytnigfdldfmiaiaa
namespace Go.Proofs.Ytnigfdldfmiaiaa
set_option linter.unusedVariables false
set_option linter.unusedSimpArgs false
open Go.ChangeShapes Go.WideShapes Go.ChangeAt Go.RowKit Go.Maps
set_option linter.unusedVariables false
set_option linter.unusedSimpArgs false
set_option maxHeartbeats 8000000 in
set_option maxRecDepth 1000000 in
theorem dsendActs_2 (w wr : World) (A : Option Addr) (n cap : Nat) (acts : List Ds) (hn100 : n ≤ 100) (HR : Hid (RS layDs w A cap acts)) (HOK : Hid (∀ x ∈ acts, DsOk w x)) (HN : Hid (acts.length = n)) (hz2 : ¬ (n : Int) > 100) (s x i : Nat) (hi : i ≤ n) (hlt : i < n) (F G : Nat → Prop) (T : Sn) (L : Int → Bool) (J1 : Hid (PrS w wr s x F G T L (1 + 100 * (i : Int)))) (r : Ds) (hr0 : acts[i]? = some r) (hkind : r.k = 2) (K : Act → World → Prop)
    (u2 u6 u7 u8 u9 u10 u11 u12 u13 u14 u15 u16 u17 u28 u29 u30 u31 u32 u33 u34 u35 u36 u37 u38 u39 u40 u41 u42 u43 u44 u45 u46 u47 u48 u49 u50 u51 u52 u53 u54 u55 u56 u57 u58 u59 u60 u61 u62 u63 u64 u65 u66 u67 u68 u69 u70 u71 u72 u73 u74 u75 u76 u77 u78 u79 u80 u81 u82 u83 u84 u85 u86 u87 u88 u89 u90 u91 u92 u93 u94 u95 u96 u97 u98 u99 u100 u101 u102 u103 u104 u105 u106 u107 u108 u109 u110 u111 u112 u113 u114 u115 u116 u117 u118 u119 u120 u121 u122 u123 u124 u125 u126 u127 u128 u129 u130 u131 u132 u133 u134 u135 u136 u137 u138 u139 u140 u141 u142 u143 u144 u145 u146 u147 u148 u149 u150 u151 u152 u153 u154 u155 u156 u157 u158 u159 u160 u161 u162 u163 u164 u165 u166 u167 u168 u169 u170 u171 u172 u173 u174 : Value) :
    Code.wp Try.prog body16 (Exit.then (fun a' w' => (∃ u2 u6 u7 u8 u9 u10 u11 u12 u13 u14 u15 u16 u17 u27 u28 u29 u30 u31 u32 u33 u34 u35 u36 u37 u38 u39 u40 u41 u42 u43 u44 u45 u46 u47 u48 u49 u50 u51 u52 u53 u54 u55 u56 u57 u58 u59 u60 u61 u62 u63 u64 u65 u66 u67 u68 u69 u70 u71 u72 u73 u74 u75 u76 u77 u78 u79 u80 u81 u82 u83 u84 u85 u86 u87 u88 u89 u90 u91 u92 u93 u94 u95 u96 u97 u98 u99 u100 u101 u102 u103 u104 u105 u106 u107 u108 u109 u110 u111 u112 u113 u114 u115 u116 u117 u118 u119 u120 u121 u122 u123 u124 u125 u126 u127 u128 u129 u130 u131 u132 u133 u134 u135 u136 u137 u138 u139 u140 u141 u142 u143 u144 u145 u146 u147 u148 u149 u150 u151 u152 u153 u154 u155 u156 u157 u158 u159 u160 u161 u162 u163 u164 u165 u166 u167 u168 u169 u170 u171 u172 u173 u174, (∃ i : Nat, i ≤ n ∧ u27 = .int .i64 i ∧ Hid (∃ F G T L, PrS w w' s x F G T L (1 + 100 * (i : Int)))) ∧ a' = ⟨#[.slice A n cap, undef, u2, .pointer (some ⟨s, 0, none⟩), .pointer (some ⟨x, 0, none⟩), undef, u6, u7, u8, u9, u10, u11, u12, u13, u14, u15, u16, u17, .bool true, .bool false, .slice A n cap, .int .i64 n, .bool (decide (100 < (n : Int))), .pointer (some ⟨s, 0, none⟩), .pointer (some ⟨x, 0, none⟩), .slice A n cap, .int .i64 n, u27, u28, u29, u30, u31, u32, u33, u34, u35, u36, u37, u38, u39, u40, u41, u42, u43, u44, u45, u46, u47, u48, u49, u50, u51, u52, u53, u54, u55, u56, u57, u58, u59, u60, u61, u62, u63, u64, u65, u66, u67, u68, u69, u70, u71, u72, u73, u74, u75, u76, u77, u78, u79, u80, u81, u82, u83, u84, u85, u86, u87, u88, u89, u90, u91, u92, u93, u94, u95, u96, u97, u98, u99, u100, u101, u102, u103, u104, u105, u106, u107, u108, u109, u110, u111, u112, u113, u114, u115, u116, u117, u118, u119, u120, u121, u122, u123, u124, u125, u126, u127, u128, u129, u130, u131, u132, u133, u134, u135, u136, u137, u138, u139, u140, u141, u142, u143, u144, u145, u146, u147, u148, u149, u150, u151, u152, u153, u154, u155, u156, u157, u158, u159, u160, u161, u162, u163, u164, u165, u166, u167, u168, u169, u170, u171, u172, u173, u174], []⟩) ∧ n - (intOf (a'.tmps.getD 27 undef)).toNat < n - (intOf (#[.slice A n cap, undef, u2, .pointer (some ⟨s, 0, none⟩), .pointer (some ⟨x, 0, none⟩), undef, u6, u7, u8, u9, u10, u11, u12, u13, u14, u15, u16, u17, .bool true, .bool false, .slice A n cap, .int .i64 n, .bool (decide (100 < (n : Int))), .pointer (some ⟨s, 0, none⟩), .pointer (some ⟨x, 0, none⟩), .slice A n cap, .int .i64 n, .int .i64 i, u28, u29, u30, u31, u32, u33, u34, u35, u36, u37, u38, u39, u40, u41, u42, u43, u44, u45, u46, u47, u48, u49, u50, u51, u52, u53, u54, u55, u56, u57, u58, u59, u60, u61, u62, u63, u64, u65, u66, u67, u68, u69, u70, u71, u72, u73, u74, u75, u76, u77, u78, u79, u80, u81, u82, u83, u84, u85, u86, u87, u88, u89, u90, u91, u92, u93, u94, u95, u96, u97, u98, u99, u100, u101, u102, u103, u104, u105, u106, u107, u108, u109, u110, u111, u112, u113, u114, u115, u116, u117, u118, u119, u120, u121, u122, u123, u124, u125, u126, u127, u128, u129, u130, u131, u132, u133, u134, u135, u136, u137, u138, u139, u140, u141, u142, u143, u144, u145, u146, u147, u148, u149, u150, u151, u152, u153, u154, u155, u156, u157, u158, u159, u160, u161, u162, u163, u164, u165, u166, u167, u168, u169, u170, u171, u172, u173, u174].getD 27 undef)).toNat) (Exit.inBlock 0 (Exit.then K (bodyPost Try.prog Try.f16 fun r w' => r = .returned (.bool true) ∧ Fine w w')))) ⟨#[.slice A n cap, undef, u2, .pointer (some ⟨s, 0, none⟩), .pointer (some ⟨x, 0, none⟩), undef, u6, u7, u8, u9, u10, u11, u12, u13, u14, u15, u16, u17, .bool true, .bool false, .slice A n cap, .int .i64 n, .bool (decide (100 < (n : Int))), .pointer (some ⟨s, 0, none⟩), .pointer (some ⟨x, 0, none⟩), .slice A n cap, .int .i64 n, .int .i64 i, u28, u29, u30, u31, u32, u33, u34, u35, u36, u37, u38, u39, u40, u41, u42, u43, u44, u45, u46, u47, u48, u49, u50, u51, u52, u53, u54, u55, u56, u57, u58, u59, u60, u61, u62, u63, u64, u65, u66, u67, u68, u69, u70, u71, u72, u73, u74, u75, u76, u77, u78, u79, u80, u81, u82, u83, u84, u85, u86, u87, u88, u89, u90, u91, u92, u93, u94, u95, u96, u97, u98, u99, u100, u101, u102, u103, u104, u105, u106, u107, u108, u109, u110, u111, u112, u113, u114, u115, u116, u117, u118, u119, u120, u121, u122, u123, u124, u125, u126, u127, u128, u129, u130, u131, u132, u133, u134, u135, u136, u137, u138, u139, u140, u141, u142, u143, u144, u145, u146, u147, u148, u149, u150, u151, u152, u153, u154, u155, u156, u157, u158, u159, u160, u161, u162, u163, u164, u165, u166, u167, u168, u169, u170, u171, u172, u173, u174], []⟩ wr := by
  conv => arg 2; whnf
  have e22 : decide (100 < (n : Int)) = false := decide_eq_false (by omega)
  rw [e22]
  clear e22
  have hrok := HOK.out r (List.mem_of_getElem? hr0)
  obtain ⟨bb, o, rfl, hb, hc⟩ := (HR.out.fine J1.out.fine).at_ hr0
  obtain ⟨rk, rn, rm, rA, rl, rc, zs⟩ := r
  have d0 := hc 0 (.int .i64 rk) rfl
  have d1 := hc 1 (.int .i64 rn) rfl
  have d2 := hc 2 (.int .i64 rm) rfl
  have d3 := hc 3 (.slice rA rl rc) rfl
  simp only [← Nat.add_assoc, Nat.add_zero] at d0 d1 d2 d3
  have HD := Lib.hid hrok
  obtain ⟨xr, hxr⟩ : ∃ x, wr.heap.size = x := ⟨_, rfl⟩
  have b5 := Blk.newAt (w := wr) (t := 76) (cs := #[.int .i64 rk, .int .i64 rn, .int .i64 rm, .slice rA rl rc]) hxr.symm
  have f5 := (Fine.refl wr).alloc (.cells #[.int .i64 rk, .int .i64 rn, .int .i64 rm, .slice rA rl rc] 76)
  have hxF : ¬ F xr := fun hf => by have := J1.out.s.lt _ hf; omega
  have hxG : ¬ G xr := fun hf => by have := J1.out.r.lt _ hf; omega
  clear hc hr0 hrok
  go_upto_region 9 with fail
  generalize wr.alloc (.cells #[.int .i64 rk, .int .i64 rn, .int .i64 rm, .slice rA rl rc] 76) = w5 at b5 f5 ⊢
  have B5 := Lib.hid b5; have J5 := Lib.hid (J1.out.wfine f5)
  have c0 : w5.cell? ⟨xr, 0, none⟩ = some (.int .i64 rk) := b5.cell 0
  have c1 : w5.cell? ⟨xr, 1, none⟩ = some (.int .i64 rn) := b5.cell 1
  have c2 : w5.cell? ⟨xr, 2, none⟩ = some (.int .i64 rm) := b5.cell 2
  have c3 : w5.cell? ⟨xr, 3, none⟩ = some (.slice rA rl rc) := b5.cell 3
  clear b5 f5 hxr d0 d1 d2 d3
  obtain ⟨una, huna⟩ : ∃ z, T.una = z := ⟨_, rfl⟩
  have hub : 1 ≤ una ∧ una ≤ 20000 := by have h1 := J1.out.ok.u1; have h2 := J1.out.ok.ub; omega
  have HUNA := Lib.hid huna
  have hKb : 1 + 100 * (i : Int) ≤ 20000 := by omega
  have hKi : (1 + 100 * (i : Int)) + 100 = 1 + 100 * ((i + 1 : Nat) : Int) := by omega
  have hKm : (1 + 100 * (i : Int)) ≤ 1 + 100 * ((i + 1 : Nat) : Int) := by omega
  have HKI := Lib.hid hKi
  clear huna hKi
  have hkind : rk = 2 := hkind
  subst hkind
  have hnb := nearS_bd rn
  have hmb := nearS_bd rm
  obtain ⟨nv, hnv⟩ : ∃ z, nearS rn = z := ⟨_, rfl⟩
  obtain ⟨mv, hmv⟩ : ∃ z, nearS rm = z := ⟨_, rfl⟩
  rw [hnv] at hnb
  rw [hmv] at hmb
  have HNV := Lib.hid hnv
  have HMV := Lib.hid hmv
  obtain ⟨fr, hfr⟩ : ∃ z, una + nv = z := ⟨_, rfl⟩
  have e2 : IntKind.i64.wrap (una + nv) = fr := by rw [hfr]; exact IntWalk.i64_in _ (by omega)
  have hfrb : -1099511627776 ≤ fr ∧ fr ≤ 1099511627776 := by omega
  have HNR : Hid (∀ w', Calls Try.prog 58 #[.int .i64 rn] w' fun r w'' => r = .returned (.int .i64 nv) ∧ w' = w'') := Lib.hid (fun w' => by have := nearS_same rn w'; rw [HNV.out] at this; exact this)
  have HNM : Hid (∀ w', Calls Try.prog 58 #[.int .i64 rm] w' fun r w'' => r = .returned (.int .i64 mv) ∧ w' = w'') := Lib.hid (fun w' => by have := nearS_same rm w'; rw [HMV.out] at this; exact this)
  have HX2 : Hid (∀ w' T' L', RsI G w' x T' L' → T'.una = una → w'.cell? ⟨x, 2, none⟩ = some (.int .i64 una)) := Lib.hid (fun w' T' L' h e => by obtain ⟨Ab, cb, Ai, ci, all, LL, hX, _⟩ := h; have := hX.box.cell 2; rw [e] at this; exact this)
  have x2 : w5.cell? ⟨x, 2, none⟩ = some (.int .i64 una) := HX2.out w5 T L J5.out.r HUNA.out
  clear hnv hmv hfr
  go_upto_region 23 with fail
  go_cut [13] (fun s13 wx => s13 = .int .i64 fr ∧ Hid (Fine w5 wx))
  case first =>
    go_region_law (first | (go_simp; go_at_call 58; refine (HNR.out _).mono ?_; rintro e wA ⟨rfl, rfl⟩))
    all_goals
      go_wp2_with fail
      go_meet
      exact ⟨rfl, Lib.hid (Fine.refl w5).drew⟩
  case rest =>
  obtain ⟨rfl, HF⟩ := hcut
  obtain ⟨w6, hw6⟩ : ∃ z, z = wc := ⟨_, rfl⟩
  subst hw6
  have J6 := Lib.hid (J5.out.wfine HF.out)
  have B6 := Lib.hid (B5.out.fine HF.out)
  have c2 : w6.cell? ⟨xr, 2, none⟩ = some (.int .i64 rm) := B6.out.cell 2
  clear c0 c1 c3 x2 HF
  obtain ⟨L9, hL9⟩ : ∃ z : Int → Bool, z = (fun m => L m || lostB T.una T.nx fr mv m) := ⟨_, rfl⟩
  obtain ⟨cc, hcc⟩ : ∃ z : Int, z = cntZ L9 T.nx.toNat - cntZ L T.nx.toNat := ⟨_, rfl⟩
  have HLOST : Hid (Calls Try.prog 55 #[.pointer (some ⟨s, 0, none⟩), .int .i64 fr, .int .i64 mv] w6.drew fun r w' => r = .returned (.int .i64 cc) ∧ ∃ F', SnI F' w' s T L9 ∧ Kept F w6.drew w' ∧ ∀ y, F' y → F y ∨ w6.heap.size ≤ y) := Lib.hid ((sn_lost fr mv hfrb (by omega) (by omega) J6.out.ok w6.drew (J6.out.s.fine (Fine.refl w6).drew)).mono (fun r w' h => by
    obtain ⟨F', L', h1, h2, h3, h4, h5⟩ := h
    have e : L' = L9 := funext (fun m => by rw [h2, hL9])
    subst e
    exact ⟨by rw [h1, hcc], F', h3, h4, h5⟩))
  have HLOSE : Hid (∀ w', Kept F w6.drew w' → Calls Try.prog 66 #[.pointer (some ⟨x, 0, none⟩), .int .i64 fr, .int .i64 mv] w' fun r w'' => r = .returned (.int .i64 cc) ∧ RsI G w'' x T L9 ∧ Kept G w' w'') := Lib.hid (fun w' kf => (rslose_any fr mv hfrb (by omega) (by omega) J6.out.ok w' ((J6.out.r.fine (Fine.refl w6).drew).kept kf (fun y hy hf => J6.out.dj y hf hy))).mono (fun r w'' h => by
    obtain ⟨L', h1, h2, h3, h4⟩ := h
    have e : L' = L9 := funext (fun m => by rw [h2, hL9])
    subst e
    exact ⟨by rw [h1, hcc], h3, h4⟩))
  have HOK9 : Hid (T.Ok L9 (1 + 100 * (i : Int))) := Lib.hid (J6.out.ok.lost_ (fun m => by rw [hL9]))
  have gc : (cc != cc) = false := by simp
  clear hL9 hcc
  go_upto_region 24 with fail
  go_cut [106] (fun s106 wx => s106 = .bool false ∧ Hid (∃ F9, PrS w wx s x F9 G T L9 (1 + 100 * (i : Int))))
  case first =>
    go_region_law (first | (go_simp; go_at_call 66; refine (HLOSE.out _ kC).mono ?_; rintro e wF ⟨rfl, r9, kF⟩) | (go_simp; go_at_call 55; refine HLOST.out.mono ?_; rintro e wC ⟨rfl, F9, h9, kC, hF9⟩; have s2 : wC.cell? ⟨xr, 2, none⟩ = some (.int .i64 rm) := ((B6.out.fine (Fine.refl w6).drew).kept kC hxF).cell 2) | (go_simp; go_at_call 58; refine (HNM.out _).mono ?_; rintro e wA ⟨rfl, rfl⟩))
    all_goals
      have P9 := Lib.hid ((J6.out.wfine (Fine.refl w6).drew).moved kC h9 hF9 (Fine.refl _) kF r9 (fun y hy => .inl hy) HOK9.out)
      clear kC h9 hF9 kF r9
      go_wp2_with fail
      go_meet
      exact ⟨rfl, Lib.hid ⟨F9, P9.out⟩⟩
  case rest =>
  obtain ⟨rfl, HC⟩ := hcut
  obtain ⟨w9, hw9⟩ : ∃ z, z = wc := ⟨_, rfl⟩
  subst hw9
  obtain ⟨F9, j9⟩ := HC.out
  have J9' := Lib.hid (j9.more hKm)
  obtain ⟨T9, hT9⟩ : ∃ z, z = T := ⟨_, rfl⟩
  obtain ⟨G9, hG9⟩ : ∃ z, z = G := ⟨_, rfl⟩
  have J9 := J9'
  rw [← hT9, ← hG9] at J9
  clear hT9 hG9 J9' j9 HC HLOST HLOSE c2 gc
  go_wp2_with fail
  refine (ssame_any (by omega) J9.out.ok w9 J9.out.s J9.out.r).mono ?_
  rintro e v1 ⟨rfl, f1⟩
  have K1 := Lib.hid f1
  clear f1
  go_wp2_with fail
  exact ⟨⟨i + 1, hlt, by simp, Lib.hid ⟨F9, G9, T9, L9, J9.out.wfine K1.out⟩⟩, by simp only [intOf]; omega⟩
end Go.Proofs.Ytnigfdldfmiaiaa
namespace Go.Proofs.Ytnigfdldfmiaiaa
set_option linter.unusedVariables false
set_option linter.unusedSimpArgs false
open Go.ChangeShapes Go.WideShapes Go.ChangeAt Go.RowKit Go.Maps
set_option linter.unusedVariables false
set_option linter.unusedSimpArgs false
set_option maxHeartbeats 8000000 in
set_option maxRecDepth 1000000 in
theorem dsendActs_4 (w wr : World) (A : Option Addr) (n cap : Nat) (acts : List Ds) (hn100 : n ≤ 100) (HR : Hid (RS layDs w A cap acts)) (HOK : Hid (∀ x ∈ acts, DsOk w x)) (HN : Hid (acts.length = n)) (hz2 : ¬ (n : Int) > 100) (s x i : Nat) (hi : i ≤ n) (hlt : i < n) (F G : Nat → Prop) (T : Sn) (L : Int → Bool) (J1 : Hid (PrS w wr s x F G T L (1 + 100 * (i : Int)))) (r : Ds) (hr0 : acts[i]? = some r) (hkind : r.k = 4) (K : Act → World → Prop)
    (u2 u6 u7 u8 u9 u10 u11 u12 u13 u14 u15 u16 u17 u28 u29 u30 u31 u32 u33 u34 u35 u36 u37 u38 u39 u40 u41 u42 u43 u44 u45 u46 u47 u48 u49 u50 u51 u52 u53 u54 u55 u56 u57 u58 u59 u60 u61 u62 u63 u64 u65 u66 u67 u68 u69 u70 u71 u72 u73 u74 u75 u76 u77 u78 u79 u80 u81 u82 u83 u84 u85 u86 u87 u88 u89 u90 u91 u92 u93 u94 u95 u96 u97 u98 u99 u100 u101 u102 u103 u104 u105 u106 u107 u108 u109 u110 u111 u112 u113 u114 u115 u116 u117 u118 u119 u120 u121 u122 u123 u124 u125 u126 u127 u128 u129 u130 u131 u132 u133 u134 u135 u136 u137 u138 u139 u140 u141 u142 u143 u144 u145 u146 u147 u148 u149 u150 u151 u152 u153 u154 u155 u156 u157 u158 u159 u160 u161 u162 u163 u164 u165 u166 u167 u168 u169 u170 u171 u172 u173 u174 : Value) :
    Code.wp Try.prog body16 (Exit.then (fun a' w' => (∃ u2 u6 u7 u8 u9 u10 u11 u12 u13 u14 u15 u16 u17 u27 u28 u29 u30 u31 u32 u33 u34 u35 u36 u37 u38 u39 u40 u41 u42 u43 u44 u45 u46 u47 u48 u49 u50 u51 u52 u53 u54 u55 u56 u57 u58 u59 u60 u61 u62 u63 u64 u65 u66 u67 u68 u69 u70 u71 u72 u73 u74 u75 u76 u77 u78 u79 u80 u81 u82 u83 u84 u85 u86 u87 u88 u89 u90 u91 u92 u93 u94 u95 u96 u97 u98 u99 u100 u101 u102 u103 u104 u105 u106 u107 u108 u109 u110 u111 u112 u113 u114 u115 u116 u117 u118 u119 u120 u121 u122 u123 u124 u125 u126 u127 u128 u129 u130 u131 u132 u133 u134 u135 u136 u137 u138 u139 u140 u141 u142 u143 u144 u145 u146 u147 u148 u149 u150 u151 u152 u153 u154 u155 u156 u157 u158 u159 u160 u161 u162 u163 u164 u165 u166 u167 u168 u169 u170 u171 u172 u173 u174, (∃ i : Nat, i ≤ n ∧ u27 = .int .i64 i ∧ Hid (∃ F G T L, PrS w w' s x F G T L (1 + 100 * (i : Int)))) ∧ a' = ⟨#[.slice A n cap, undef, u2, .pointer (some ⟨s, 0, none⟩), .pointer (some ⟨x, 0, none⟩), undef, u6, u7, u8, u9, u10, u11, u12, u13, u14, u15, u16, u17, .bool true, .bool false, .slice A n cap, .int .i64 n, .bool (decide (100 < (n : Int))), .pointer (some ⟨s, 0, none⟩), .pointer (some ⟨x, 0, none⟩), .slice A n cap, .int .i64 n, u27, u28, u29, u30, u31, u32, u33, u34, u35, u36, u37, u38, u39, u40, u41, u42, u43, u44, u45, u46, u47, u48, u49, u50, u51, u52, u53, u54, u55, u56, u57, u58, u59, u60, u61, u62, u63, u64, u65, u66, u67, u68, u69, u70, u71, u72, u73, u74, u75, u76, u77, u78, u79, u80, u81, u82, u83, u84, u85, u86, u87, u88, u89, u90, u91, u92, u93, u94, u95, u96, u97, u98, u99, u100, u101, u102, u103, u104, u105, u106, u107, u108, u109, u110, u111, u112, u113, u114, u115, u116, u117, u118, u119, u120, u121, u122, u123, u124, u125, u126, u127, u128, u129, u130, u131, u132, u133, u134, u135, u136, u137, u138, u139, u140, u141, u142, u143, u144, u145, u146, u147, u148, u149, u150, u151, u152, u153, u154, u155, u156, u157, u158, u159, u160, u161, u162, u163, u164, u165, u166, u167, u168, u169, u170, u171, u172, u173, u174], []⟩) ∧ n - (intOf (a'.tmps.getD 27 undef)).toNat < n - (intOf (#[.slice A n cap, undef, u2, .pointer (some ⟨s, 0, none⟩), .pointer (some ⟨x, 0, none⟩), undef, u6, u7, u8, u9, u10, u11, u12, u13, u14, u15, u16, u17, .bool true, .bool false, .slice A n cap, .int .i64 n, .bool (decide (100 < (n : Int))), .pointer (some ⟨s, 0, none⟩), .pointer (some ⟨x, 0, none⟩), .slice A n cap, .int .i64 n, .int .i64 i, u28, u29, u30, u31, u32, u33, u34, u35, u36, u37, u38, u39, u40, u41, u42, u43, u44, u45, u46, u47, u48, u49, u50, u51, u52, u53, u54, u55, u56, u57, u58, u59, u60, u61, u62, u63, u64, u65, u66, u67, u68, u69, u70, u71, u72, u73, u74, u75, u76, u77, u78, u79, u80, u81, u82, u83, u84, u85, u86, u87, u88, u89, u90, u91, u92, u93, u94, u95, u96, u97, u98, u99, u100, u101, u102, u103, u104, u105, u106, u107, u108, u109, u110, u111, u112, u113, u114, u115, u116, u117, u118, u119, u120, u121, u122, u123, u124, u125, u126, u127, u128, u129, u130, u131, u132, u133, u134, u135, u136, u137, u138, u139, u140, u141, u142, u143, u144, u145, u146, u147, u148, u149, u150, u151, u152, u153, u154, u155, u156, u157, u158, u159, u160, u161, u162, u163, u164, u165, u166, u167, u168, u169, u170, u171, u172, u173, u174].getD 27 undef)).toNat) (Exit.inBlock 0 (Exit.then K (bodyPost Try.prog Try.f16 fun r w' => r = .returned (.bool true) ∧ Fine w w')))) ⟨#[.slice A n cap, undef, u2, .pointer (some ⟨s, 0, none⟩), .pointer (some ⟨x, 0, none⟩), undef, u6, u7, u8, u9, u10, u11, u12, u13, u14, u15, u16, u17, .bool true, .bool false, .slice A n cap, .int .i64 n, .bool (decide (100 < (n : Int))), .pointer (some ⟨s, 0, none⟩), .pointer (some ⟨x, 0, none⟩), .slice A n cap, .int .i64 n, .int .i64 i, u28, u29, u30, u31, u32, u33, u34, u35, u36, u37, u38, u39, u40, u41, u42, u43, u44, u45, u46, u47, u48, u49, u50, u51, u52, u53, u54, u55, u56, u57, u58, u59, u60, u61, u62, u63, u64, u65, u66, u67, u68, u69, u70, u71, u72, u73, u74, u75, u76, u77, u78, u79, u80, u81, u82, u83, u84, u85, u86, u87, u88, u89, u90, u91, u92, u93, u94, u95, u96, u97, u98, u99, u100, u101, u102, u103, u104, u105, u106, u107, u108, u109, u110, u111, u112, u113, u114, u115, u116, u117, u118, u119, u120, u121, u122, u123, u124, u125, u126, u127, u128, u129, u130, u131, u132, u133, u134, u135, u136, u137, u138, u139, u140, u141, u142, u143, u144, u145, u146, u147, u148, u149, u150, u151, u152, u153, u154, u155, u156, u157, u158, u159, u160, u161, u162, u163, u164, u165, u166, u167, u168, u169, u170, u171, u172, u173, u174], []⟩ wr := by
  conv => arg 2; whnf
  have e22 : decide (100 < (n : Int)) = false := decide_eq_false (by omega)
  rw [e22]
  clear e22
  have hrok := HOK.out r (List.mem_of_getElem? hr0)
  obtain ⟨bb, o, rfl, hb, hc⟩ := (HR.out.fine J1.out.fine).at_ hr0
  obtain ⟨rk, rn, rm, rA, rl, rc, zs⟩ := r
  have d0 := hc 0 (.int .i64 rk) rfl
  have d1 := hc 1 (.int .i64 rn) rfl
  have d2 := hc 2 (.int .i64 rm) rfl
  have d3 := hc 3 (.slice rA rl rc) rfl
  simp only [← Nat.add_assoc, Nat.add_zero] at d0 d1 d2 d3
  have HD := Lib.hid hrok
  obtain ⟨xr, hxr⟩ : ∃ x, wr.heap.size = x := ⟨_, rfl⟩
  have b5 := Blk.newAt (w := wr) (t := 76) (cs := #[.int .i64 rk, .int .i64 rn, .int .i64 rm, .slice rA rl rc]) hxr.symm
  have f5 := (Fine.refl wr).alloc (.cells #[.int .i64 rk, .int .i64 rn, .int .i64 rm, .slice rA rl rc] 76)
  have hxF : ¬ F xr := fun hf => by have := J1.out.s.lt _ hf; omega
  have hxG : ¬ G xr := fun hf => by have := J1.out.r.lt _ hf; omega
  clear hc hr0 hrok
  go_upto_region 9 with fail
  generalize wr.alloc (.cells #[.int .i64 rk, .int .i64 rn, .int .i64 rm, .slice rA rl rc] 76) = w5 at b5 f5 ⊢
  have B5 := Lib.hid b5; have J5 := Lib.hid (J1.out.wfine f5)
  have c0 : w5.cell? ⟨xr, 0, none⟩ = some (.int .i64 rk) := b5.cell 0
  have c1 : w5.cell? ⟨xr, 1, none⟩ = some (.int .i64 rn) := b5.cell 1
  have c2 : w5.cell? ⟨xr, 2, none⟩ = some (.int .i64 rm) := b5.cell 2
  have c3 : w5.cell? ⟨xr, 3, none⟩ = some (.slice rA rl rc) := b5.cell 3
  clear b5 f5 hxr d0 d1 d2 d3
  obtain ⟨una, huna⟩ : ∃ z, T.una = z := ⟨_, rfl⟩
  have hub : 1 ≤ una ∧ una ≤ 20000 := by have h1 := J1.out.ok.u1; have h2 := J1.out.ok.ub; omega
  have HUNA := Lib.hid huna
  have hKb : 1 + 100 * (i : Int) ≤ 20000 := by omega
  have hKi : (1 + 100 * (i : Int)) + 100 = 1 + 100 * ((i + 1 : Nat) : Int) := by omega
  have hKm : (1 + 100 * (i : Int)) ≤ 1 + 100 * ((i + 1 : Nat) : Int) := by omega
  have HKI := Lib.hid hKi
  clear huna hKi
  have hkind : rk = 4 := hkind
  subst hkind
  have HEND := Lib.hid (sn_end w5 J5.out.s)
  go_wp2_with fail
  refine HEND.out.mono ?_
  rintro r w6 ⟨rfl, s6, k6⟩
  have S6 := Lib.hid s6; have K6 := Lib.hid k6
  have R6 := Lib.hid (J5.out.rkept k6 (Fine.refl w6))
  clear s6 k6 HEND c0 c1 c2 c3
  obtain ⟨told, htold⟩ : ∃ z, T.told = z := ⟨_, rfl⟩
  have HTOLD := Lib.hid htold
  rw [htold]
  have x5 : w6.cell? ⟨x, 5, none⟩ = some (.bool told) := by obtain ⟨Ab, cb, Ai, ci, all, LL, hX, _⟩ := R6.out; have := hX.box.cell 5; rw [htold] at this; exact this
  have zx5 : w6.frozen? ⟨x, 5, none⟩ = false := by obtain ⟨Ab, cb, Ai, ci, all, LL, hX, _⟩ := R6.out; exact hX.box.frozen 5
  have R9 : Hid (RsI G (w6.setCell ⟨x, 5, none⟩ (.bool true)) x { T with told := true } L) := Lib.hid (by
    obtain ⟨Ab, cb, Ai, ci, all, LL, hX, h2, h3, h4, h5⟩ := R6.out
    exact ⟨Ab, cb, Ai, ci, all, LL, hX.setJ 5 (.bool true) (una' := T.una) (nx' := T.nx) (ed' := T.ed) (told' := true) (done' := T.done) rfl, h2, h3, h4, h5⟩)
  have K9 : Hid (Kept G w6 (w6.setCell ⟨x, 5, none⟩ (.bool true))) := Lib.hid ((Kept.refl G w6).setIn (p := ⟨x, 5, none⟩) R6.out.gx _)
  have OK9 : Hid (Sn.Ok { T with told := true } L (1 + 100 * (i : Int))) := Lib.hid (by obtain ⟨o1, o2, o3, o4, o5, o6, o7, o8⟩ := J5.out.ok; exact ⟨o1, o2, o3, o4, o5, o6, o7, o8⟩)
  have P9 := Lib.hid ((J5.out.moved K6.out S6.out (fun y hy => .inl hy) (Fine.refl w6) K9.out R9.out (fun y hy => .inl hy) OK9.out).more hKm)
  clear htold
  cases told with
  | true =>
    rw [if_pos rfl]
    go_upto_region 36 with fail
    generalize w6.setCell ⟨x, 5, none⟩ (.bool true) = w9 at P9 ⊢
    clear x5 zx5 R9 K9 OK9 S6 K6 R6
    obtain ⟨T9, hT9⟩ : ∃ z, z = ({ T with told := true } : Sn) := ⟨_, rfl⟩
    obtain ⟨F9, hF9⟩ : ∃ z, z = F := ⟨_, rfl⟩
    obtain ⟨G9, hG9⟩ : ∃ z, z = G := ⟨_, rfl⟩
    obtain ⟨L9, hL9⟩ : ∃ z, z = L := ⟨_, rfl⟩
    have J9 := P9
    rw [← hT9, ← hF9, ← hG9, ← hL9] at J9
    clear hT9 hF9 hG9 hL9 P9
    go_wp2_with fail
    refine (ssame_any (by omega) J9.out.ok w9 J9.out.s J9.out.r).mono ?_
    rintro e v1 ⟨rfl, f1⟩
    have K1 := Lib.hid f1
    clear f1
    go_wp2_with fail
    exact ⟨⟨i + 1, hlt, by simp, Lib.hid ⟨F9, G9, T9, L9, J9.out.wfine K1.out⟩⟩, by simp only [intOf]; omega⟩
  | false =>
    rw [if_neg (by decide)]
    go_upto_region 36 with fail
    generalize w6.setCell ⟨x, 5, none⟩ (.bool true) = w9 at P9 ⊢
    clear x5 zx5 R9 K9 OK9 S6 K6 R6
    obtain ⟨T9, hT9⟩ : ∃ z, z = ({ T with told := true } : Sn) := ⟨_, rfl⟩
    obtain ⟨F9, hF9⟩ : ∃ z, z = F := ⟨_, rfl⟩
    obtain ⟨G9, hG9⟩ : ∃ z, z = G := ⟨_, rfl⟩
    obtain ⟨L9, hL9⟩ : ∃ z, z = L := ⟨_, rfl⟩
    have J9 := P9
    rw [← hT9, ← hF9, ← hG9, ← hL9] at J9
    clear hT9 hF9 hG9 hL9 P9
    go_wp2_with fail
    refine (ssame_any (by omega) J9.out.ok w9 J9.out.s J9.out.r).mono ?_
    rintro e v1 ⟨rfl, f1⟩
    have K1 := Lib.hid f1
    clear f1
    go_wp2_with fail
    exact ⟨⟨i + 1, hlt, by simp, Lib.hid ⟨F9, G9, T9, L9, J9.out.wfine K1.out⟩⟩, by simp only [intOf]; omega⟩
end Go.Proofs.Ytnigfdldfmiaiaa
