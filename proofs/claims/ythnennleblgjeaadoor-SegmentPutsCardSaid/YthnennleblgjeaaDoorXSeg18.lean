/- segment.Long. -/
import Derived.Test.YthnennleblgjeaaDoorXSeg17
import Derived.Test.YthnennleblgjeaaDoorXSeg16
import Derived.Test.YthnennleblgjeaaDoorMf
namespace Go.Proofs.YthnennleblgjeaaDoor
set_option linter.unusedVariables false
set_option linter.unusedSimpArgs false
open Go.ChangeShapes Go.WideShapes Go.ChangeAt Go.RowKit
set_option linter.unusedVariables false
set_option linter.unusedSimpArgs false
theorem segset1v (t : Bool) (v : Int) (hv : (if t then (1 : Int) else 0) = v) (g : Nat) (w : World) (h : Blk w g 4 #[.bool t]) : Calls Tryd.prog 33 #[.slice (some ⟨g, 0, none⟩) 1 1] w fun r w' => r = .returned (.int .u64 v) ∧ Fine w w' := by
  subst hv
  exact segset1 t g w h
theorem Blk.fst1 {w : World} {cs : Array Value} {t : TypeId} {o : Obj} : Blk ((w.alloc (.cells cs t)).alloc o) w.heap.size t cs := (Blk.new w t cs).alloc o
theorem Blk.snd1 {w : World} {cs : Array Value} {t : TypeId} {o : Obj} : Blk ((w.alloc o).alloc (.cells cs t)) (w.heap.size + 1) t cs := Blk.newAt (by simp)
theorem Blk.fst2 {w : World} {cs : Array Value} {t : TypeId} {o : Obj} : Blk ((w.alloc (.cells cs t)).alloc o).drew w.heap.size t cs := Blk.fst1
theorem Blk.snd2 {w : World} {cs : Array Value} {t : TypeId} {o : Obj} : Blk ((w.alloc o).alloc (.cells cs t)).drew (w.heap.size + 1) t cs := Blk.snd1
set_option maxHeartbeats 4000000 in
set_option maxRecDepth 100000 in
theorem slong_any (N : Nat → Int) (p6 p7 p8 p9 : Bool) (u v s1 s2 : Int) (hu : (if p6 then (1 : Int) else 0) = u) (hv : (if p8 then (1 : Int) else 0) = v) (A B : Option Addr) (n m c d : Nat) (hm : m ≤ 1000) (h1 : (m : Int) + u = s1) (h2 : s1 + v = s2) (w : World) :
    Calls Tryd.prog 20 #[.agg #[.int .i64 (N 0), .int .i64 (N 1), .int .i64 (N 2), .int .i64 (N 3), .int .u32 (N 4), .int .u32 (N 5), .bool p6, .bool p7, .bool p8, .bool p9, .int .i64 (N 10), .slice A n c, .slice B m d]] w fun r w' => r = .returned (.int .i64 s2) ∧ Fine w w' := by
  have hu1 : u = 0 ∨ u = 1 := by rw [← hu]; split <;> simp
  have hv1 : v = 0 ∨ v = 1 := by rw [← hv]; split <;> simp
  have i1 : IntKind.i64.wrap u = u := IntWalk.i64_in _ (by omega)
  have i2 : IntKind.i64.wrap v = v := IntWalk.i64_in _ (by omega)
  have i3 : IntKind.i64.wrap ((m : Int) + u) = s1 := by rw [h1]; exact IntWalk.i64_in _ (by omega)
  have i4 : IntKind.i64.wrap (s1 + v) = s2 := by rw [h2]; exact IntWalk.i64_in _ (by omega)
  have HU := Lib.hid hu; have HV := Lib.hid hv
  clear hu hv hu1 hv1 h1 h2
  go_enter Tryd.func20, Tryd.ntmps20
  go_upto_region 1 with (fail)
  have b1 : Blk (w.alloc (.cells #[.int .i64 (N 0), .int .i64 (N 1), .int .i64 (N 2), .int .i64 (N 3), .int .u32 (N 4), .int .u32 (N 5), .bool p6, .bool p7, .bool p8, .bool p9, .int .i64 (N 10), .slice A n c, .slice B m d] 26)) w.heap.size 26 #[.int .i64 (N 0), .int .i64 (N 1), .int .i64 (N 2), .int .i64 (N 3), .int .u32 (N 4), .int .u32 (N 5), .bool p6, .bool p7, .bool p8, .bool p9, .int .i64 (N 10), .slice A n c, .slice B m d] := Blk.new w 26 _
  have f1 : Fine w (w.alloc (.cells #[.int .i64 (N 0), .int .i64 (N 1), .int .i64 (N 2), .int .i64 (N 3), .int .u32 (N 4), .int .u32 (N 5), .bool p6, .bool p7, .bool p8, .bool p9, .int .i64 (N 10), .slice A n c, .slice B m d] 26)) := (Fine.refl w).alloc _
  generalize (w.alloc (.cells #[.int .i64 (N 0), .int .i64 (N 1), .int .i64 (N 2), .int .i64 (N 3), .int .u32 (N 4), .int .u32 (N 5), .bool p6, .bool p7, .bool p8, .bool p9, .int .i64 (N 10), .slice A n c, .slice B m d] 26)) = w1 at b1 f1 ⊢
  generalize w.heap.size = x1 at b1 ⊢
  have HK : Hid (∀ w', Fine w1 w' → w'.cell? ⟨x1, 6, none⟩ = some (.bool p6) ∧ w'.cell? ⟨x1, 8, none⟩ = some (.bool p8) ∧ w'.cell? ⟨x1, 12, none⟩ = some (.slice B m d)) := Lib.hid (fun w' f => by
    have b := b1.fine f
    exact ⟨b.cell 6, b.cell 8, b.cell 12⟩)
  clear b1
  go_region_held3 (fun w' => w'.cell? ⟨x1, 6, none⟩ = some (.bool p6) ∧ w'.cell? ⟨x1, 8, none⟩ = some (.bool p8) ∧ w'.cell? ⟨x1, 12, none⟩ = some (.slice B m d)) ((with_reducible refine HK.out _ ?_; repeat (first | with_reducible refine Fine.trans ?_ fA | with_reducible refine Fine.trans ?_ fB | with_reducible refine Fine.drew ?_ | with_reducible refine Fine.alloc ?_ _ | with_reducible exact Fine.refl _))) (first | (go_at_call 33; refine (segset1v p6 u HU.out _ _ ?_).mono ?_; (first | (with_reducible exact Blk.new _ 4 #[.bool p6]) | (with_reducible exact (Blk.new _ 4 #[.bool p6]).drew) | (with_reducible exact Blk.fst2 (cs := #[.bool p6]) (t := 4)) | (with_reducible exact Blk.snd2 (cs := #[.bool p6]) (t := 4)) | (with_reducible exact Blk.fst1 (cs := #[.bool p6]) (t := 4)) | (with_reducible exact Blk.snd1 (cs := #[.bool p6]) (t := 4)) | (with_reducible exact Blk.fine (Blk.new _ 4 #[.bool p6]) fB) | (with_reducible exact Blk.fine ((Blk.new _ 4 #[.bool p6]).drew) fB) | (with_reducible exact Blk.fine (Blk.fst2 (cs := #[.bool p6]) (t := 4)) fB) | (with_reducible exact Blk.fine (Blk.snd2 (cs := #[.bool p6]) (t := 4)) fB) | (with_reducible exact Blk.fine (Blk.fst1 (cs := #[.bool p6]) (t := 4)) fB) | (with_reducible exact Blk.fine (Blk.snd1 (cs := #[.bool p6]) (t := 4)) fB) | (with_reducible exact Blk.fine (Blk.alloc (Blk.new _ 4 #[.bool p6]) _) fB) | (with_reducible exact Blk.alloc (Blk.fine (Blk.new _ 4 #[.bool p6]) fB) _) | (with_reducible exact Blk.drew (Blk.alloc (Blk.fine (Blk.new _ 4 #[.bool p6]) fB) _))); rintro x wA ⟨rfl, fA⟩) | (go_at_call 33; refine (segset1v p8 v HV.out _ _ ?_).mono ?_; (first | (with_reducible exact Blk.new _ 4 #[.bool p8]) | (with_reducible exact (Blk.new _ 4 #[.bool p8]).drew) | (with_reducible exact Blk.fst2 (cs := #[.bool p8]) (t := 4)) | (with_reducible exact Blk.snd2 (cs := #[.bool p8]) (t := 4)) | (with_reducible exact Blk.fst1 (cs := #[.bool p8]) (t := 4)) | (with_reducible exact Blk.snd1 (cs := #[.bool p8]) (t := 4)) | (with_reducible exact Blk.fine (Blk.new _ 4 #[.bool p8]) fA) | (with_reducible exact Blk.fine ((Blk.new _ 4 #[.bool p8]).drew) fA) | (with_reducible exact Blk.fine (Blk.fst2 (cs := #[.bool p8]) (t := 4)) fA) | (with_reducible exact Blk.fine (Blk.snd2 (cs := #[.bool p8]) (t := 4)) fA) | (with_reducible exact Blk.fine (Blk.fst1 (cs := #[.bool p8]) (t := 4)) fA) | (with_reducible exact Blk.fine (Blk.snd1 (cs := #[.bool p8]) (t := 4)) fA) | (with_reducible exact Blk.fine (Blk.alloc (Blk.new _ 4 #[.bool p8]) _) fA) | (with_reducible exact Blk.alloc (Blk.fine (Blk.new _ 4 #[.bool p8]) fA) _) | (with_reducible exact Blk.drew (Blk.alloc (Blk.fine (Blk.new _ 4 #[.bool p8]) fA) _))); rintro x wB ⟨rfl, fB⟩))
  all_goals go_wp2_with fail
  all_goals go_ret
  all_goals exact ⟨rfl, f1.trans (by repeat (first | with_reducible refine Fine.trans ?_ fA | with_reducible refine Fine.trans ?_ fB | with_reducible refine Fine.drew ?_ | with_reducible refine Fine.alloc ?_ _ | with_reducible exact Fine.refl _))⟩
end Go.Proofs.YthnennleblgjeaaDoor
