/- The law DsendActs: one statement of act 3. -/
import Derived.Test.YtnigfdldfmiaiaaMg
import Derived.Deep.RegionLaw
namespace Go.Proofs.Ytnigfdldfmiaiaa
set_option linter.unusedVariables false
set_option linter.unusedSimpArgs false
open Go.ChangeShapes Go.WideShapes Go.ChangeAt Go.RowKit Go.Maps
set_option linter.unusedVariables false
set_option linter.unusedSimpArgs false
/-- A statement of the law's. -/
def regionOf (n : Nat) : Code → Option Code
  | .region id ops d => if id = n then some (.region id ops d) else none
  | .seq a b => match regionOf n a with
    | some c => some c
    | none => regionOf n b
  | .block _ c => regionOf n c
  | .loop c => regionOf n c
  | .scope c => regionOf n c
  | .cond _ a b => match regionOf n a with
    | some c => some c
    | none => regionOf n b
  | _ => none
noncomputable def reg28 : Code := ((Try.f16.body.bind (regionOf 28)).getD .skip)
set_option maxHeartbeats 8000000 in
set_option maxRecDepth 1000000 in
theorem reg28_wp (w6 : World) (x xr : Nat) (rn rm una nv mv fr an : Int) (ai : Bool) (G : Nat → Prop) (T TA : Sn) (L LA : Int → Bool) (e2 : IntKind.i64.wrap (una + nv) = fr)
    (c1' : w6.cell? ⟨xr, 1, none⟩ = some (.int .i64 rn)) (c2' : w6.cell? ⟨xr, 2, none⟩ = some (.int .i64 rm)) (x2' : w6.cell? ⟨x, 2, none⟩ = some (.int .i64 una))
    (u1f : ∀ w', Fine w6 w' → w'.cell? ⟨xr, 1, none⟩ = some (.int .i64 rn) ∧ w'.cell? ⟨xr, 2, none⟩ = some (.int .i64 rm) ∧ w'.cell? ⟨x, 2, none⟩ = some (.int .i64 una))
    (R6 : Hid (RsI G w6 x T L)) (HNR : Hid (∀ w', Calls Try.prog 58 #[.int .i64 rn] w' fun r w'' => r = .returned (.int .i64 nv) ∧ w' = w'')) (HNM : Hid (∀ w', Calls Try.prog 58 #[.int .i64 rm] w' fun r w'' => r = .returned (.int .i64 mv) ∧ w' = w''))
    (HA3 : Hid (∀ w', Fine w6 w' → Calls Try.prog 67 #[.pointer (some ⟨x, 0, none⟩), .int .i64 fr, .int .i64 mv] w' fun r w'' => r = .returned (.agg #[.int .i64 an, .bool ai]) ∧ RsI G w'' x TA LA ∧ Kept G w' w'' ∧ w''.cell? ⟨xr, 1, none⟩ = some (.int .i64 rn) ∧ w''.cell? ⟨xr, 2, none⟩ = some (.int .i64 rm) ∧ ∀ cs, Blk w' w6.heap.size 92 cs → Blk w'' w6.heap.size 92 cs)) (hn6 : w6.heap.size ≠ xr) (Q : Exit → Act → World → Prop)
    (u0 u1 u2 u3 u5 u7 u8 u9 u10 u11 u12 u13 u14 u15 u16 u17 u18 u19 u20 u21 u22 u23 u24 u25 u26 u27 u28 u29 u30 u31 u32 u33 u34 u35 u36 u37 u38 u39 u40 u41 u42 u43 u44 u45 u46 u47 u48 u49 u50 u51 u52 u53 u54 u55 u56 u57 u58 u59 u60 u61 u62 u63 u64 u65 u66 u67 u68 u69 u70 u71 u72 u73 u74 u75 u76 u77 u78 u79 u80 u81 u82 u83 u84 u85 u86 u87 u88 u89 u90 u91 u92 u93 u94 u95 u96 u97 u98 u99 u100 u101 u102 u103 u104 u105 u106 u107 u108 u109 u110 u111 u112 u113 u114 u115 u116 u117 u118 u119 u120 u121 u122 u123 u124 u125 u126 u127 u128 u129 u130 u131 u132 u133 u134 u135 u136 u137 u138 u139 u140 u141 u142 u143 u144 u145 u146 u147 u148 u149 u150 u151 u152 u153 u154 u155 u156 u157 u158 u159 u160 u161 u162 u163 u164 u165 u166 u167 u168 u169 u170 u171 u172 u173 u174 : Value)
    (hQ : ∀ x9 wx, Hid (Blk wx x9 92 #[.int .i64 an, .bool ai] ∧ RsI G wx x TA LA ∧ Kept G w6 wx) → Q .normal ⟨#[u0, u1, u2, u3, .pointer (some ⟨x, 0, none⟩), u5, .pointer (some ⟨xr, 0, none⟩), u7, u8, u9, u10, u11, u12, u13, u14, u15, .pointer (some ⟨x9, 0, none⟩), u17, u18, u19, u20, u21, u22, u23, u24, u25, u26, u27, u28, u29, u30, u31, u32, u33, u34, u35, u36, u37, u38, u39, u40, u41, u42, u43, u44, u45, u46, u47, u48, u49, u50, u51, u52, u53, u54, u55, u56, u57, u58, u59, u60, u61, u62, u63, u64, u65, u66, u67, u68, u69, u70, u71, u72, u73, u74, u75, u76, u77, u78, u79, u80, u81, u82, u83, u84, u85, u86, u87, u88, u89, u90, u91, u92, u93, u94, u95, u96, u97, u98, u99, u100, u101, u102, u103, u104, u105, u106, u107, u108, u109, u110, u111, u112, u113, u114, u115, u116, u117, u118, u119, u120, u121, u122, u123, u124, .pointer (some ⟨x, 0, none⟩), .pointer (some ⟨x, 0, none⟩), .pointer (some ⟨x, 0, none⟩), .pointer (some ⟨x, 2, none⟩), .int .i64 una, .pointer (some ⟨xr, 1, none⟩), .int .i64 rn, .int .i64 nv, .int .i64 fr, .pointer (some ⟨xr, 2, none⟩), .int .i64 rm, .int .i64 mv, .agg #[.int .i64 an, .bool ai], u138, u139, u140, u141, u142, u143, u144, u145, u146, u147, u148, u149, u150, u151, u152, u153, u154, u155, u156, u157, u158, u159, u160, u161, u162, u163, u164, u165, u166, u167, u168, u169, u170, u171, u172, u173, u174], []⟩ wx) :
    Code.wp Try.prog reg28 Q ⟨#[u0, u1, u2, u3, .pointer (some ⟨x, 0, none⟩), u5, .pointer (some ⟨xr, 0, none⟩), u7, u8, u9, u10, u11, u12, u13, u14, u15, u16, u17, u18, u19, u20, u21, u22, u23, u24, u25, u26, u27, u28, u29, u30, u31, u32, u33, u34, u35, u36, u37, u38, u39, u40, u41, u42, u43, u44, u45, u46, u47, u48, u49, u50, u51, u52, u53, u54, u55, u56, u57, u58, u59, u60, u61, u62, u63, u64, u65, u66, u67, u68, u69, u70, u71, u72, u73, u74, u75, u76, u77, u78, u79, u80, u81, u82, u83, u84, u85, u86, u87, u88, u89, u90, u91, u92, u93, u94, u95, u96, u97, u98, u99, u100, u101, u102, u103, u104, u105, u106, u107, u108, u109, u110, u111, u112, u113, u114, u115, u116, u117, u118, u119, u120, u121, u122, u123, u124, u125, u126, u127, u128, u129, u130, u131, u132, u133, u134, u135, u136, u137, u138, u139, u140, u141, u142, u143, u144, u145, u146, u147, u148, u149, u150, u151, u152, u153, u154, u155, u156, u157, u158, u159, u160, u161, u162, u163, u164, u165, u166, u167, u168, u169, u170, u171, u172, u173, u174], []⟩ w6 := by
  conv => arg 2; whnf
  have HQ := Lib.hid hQ
  have v3 : ∀ o, (w6.alloc o).cell? ⟨x, 2, none⟩ = some (.int .i64 una) := fun o => (u1f _ ((Fine.refl w6).alloc o)).2.2
  have v3' : ∀ o, (w6.drew.alloc o).cell? ⟨x, 2, none⟩ = some (.int .i64 una) := fun o => (u1f _ ((Fine.refl w6).drew.alloc o)).2.2
  have u1 : ∀ o, (w6.alloc o).cell? ⟨xr, 1, none⟩ = some (.int .i64 rn) := fun o => (u1f _ ((Fine.refl w6).alloc o)).1
  have u1' : ∀ o, (w6.drew.alloc o).cell? ⟨xr, 1, none⟩ = some (.int .i64 rn) := fun o => (u1f _ ((Fine.refl w6).drew.alloc o)).1
  have u2 : ∀ o, (w6.alloc o).cell? ⟨xr, 2, none⟩ = some (.int .i64 rm) := fun o => (u1f _ ((Fine.refl w6).alloc o)).2.1
  have u2' : ∀ o, (w6.drew.alloc o).cell? ⟨xr, 2, none⟩ = some (.int .i64 rm) := fun o => (u1f _ ((Fine.refl w6).drew.alloc o)).2.1
  clear hQ u1f
  have HFB : Hid (∀ wm wF, Fine w6 wm → Kept G wm wF → RsI G wF x TA LA → Blk (wF.alloc (.cells #[.int .i64 an, .bool ai] 92)) wF.heap.size 92 #[.int .i64 an, .bool ai] ∧ RsI G (wF.alloc (.cells #[.int .i64 an, .bool ai] 92)) x TA LA ∧ Kept G w6 (wF.alloc (.cells #[.int .i64 an, .bool ai] 92))) := Lib.hid (fun wm wF f k r => ⟨Blk.new _ _ _, r.fine ((Fine.refl wF).alloc _), ((Kept.of_fine f).trans k).alloc _⟩)
  have HFA : Hid (∀ wm wF, Fine w6 wm → Kept G wm wF → RsI G wF x TA LA → Blk wF w6.heap.size 92 #[.int .i64 0, .bool false] → Blk ((wF.setCell ⟨w6.heap.size, 0, none⟩ (.int .i64 an)).setCell ⟨w6.heap.size, 1, none⟩ (.bool ai)) w6.heap.size 92 #[.int .i64 an, .bool ai] ∧ RsI G ((wF.setCell ⟨w6.heap.size, 0, none⟩ (.int .i64 an)).setCell ⟨w6.heap.size, 1, none⟩ (.bool ai)) x TA LA ∧ Kept G w6 ((wF.setCell ⟨w6.heap.size, 0, none⟩ (.int .i64 an)).setCell ⟨w6.heap.size, 1, none⟩ (.bool ai))) := Lib.hid (fun wm wF f k r b => ⟨((b.set_ 0 (.int .i64 an)).set_ 1 (.bool ai)).cast (by simp), r.kept (((Kept.refl (· = w6.heap.size) wF).setIn (p := ⟨w6.heap.size, 0, none⟩) rfl _).setIn (p := ⟨w6.heap.size, 1, none⟩) rfl _) (fun y hy hf => by have hf : y = w6.heap.size := hf; have := R6.out.lt y hy; omega), (((Kept.of_fine f).trans k).setCell (p := ⟨w6.heap.size, 0, none⟩) (fun h => absurd h (Nat.lt_irrefl _)) _).setCell (p := ⟨w6.heap.size, 1, none⟩) (fun h => absurd h (Nat.lt_irrefl _)) _⟩)
  refine wp_region_noPanic ?_
  go_region_law (first | (go_simp; go_at_call 67; refine (HA3.out _ (by first | exact (Fine.refl w6).drew | exact (Fine.refl w6).drew.alloc _ | exact ((Fine.refl w6).alloc _).drew)).mono ?_; rintro e wF ⟨rfl, r9, kF, s1, s2, kb⟩; have hn7 : wF.heap.size ≠ xr := World.new_ne wF _ s1; (first | (have b9 := kb _ (Blk.newAt rfl); have y0 : wF.cell? ⟨w6.heap.size, 0, none⟩ = some (.int .i64 0) := b9.cell 0; have y1 : wF.cell? ⟨w6.heap.size, 1, none⟩ = some (.bool false) := b9.cell 1; have z0 := b9.frozen 0; have z1 := b9.frozen 1) | skip); clear kb) | (go_simp; go_at_call 58; refine (HNR.out _).mono ?_; rintro e wA ⟨rfl, rfl⟩) | (go_simp; go_at_call 58; refine (HNM.out _).mono ?_; rintro e wA ⟨rfl, rfl⟩))
  all_goals
    first
    | exact HQ.out _ _ (Lib.hid (HFB.out _ _ (by first | exact (Fine.refl w6).drew | exact (Fine.refl w6).drew.alloc _ | exact ((Fine.refl w6).alloc _).drew) kF r9))
    | exact HQ.out _ _ (Lib.hid (HFA.out _ _ (by first | exact (Fine.refl w6).drew.alloc _ | exact ((Fine.refl w6).alloc _).drew | exact (Fine.refl w6).drew) kF r9 b9))
end Go.Proofs.Ytnigfdldfmiaiaa
