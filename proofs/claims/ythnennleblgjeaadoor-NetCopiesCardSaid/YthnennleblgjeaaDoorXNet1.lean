/- Nets: packets on their way; contracts of New, Len, Clear, All, wrong, own, Copy. -/
import Derived.Test.YthnennleblgjeaaDoorXSeg13
import Derived.Test.YthnennleblgjeaaDoorXSeg14
import Derived.Deep.RegionLawGrows
import Derived.Deep.CutBlock
import Derived.Deep.DeepCutAuto
namespace Go.Proofs.YthnennleblgjeaaDoor
set_option linter.unusedVariables false
set_option linter.unusedSimpArgs false
open Go.ChangeShapes Go.WideShapes Go.ChangeAt Go.RowKit
set_option linter.unusedVariables false
set_option linter.unusedSimpArgs false
/-- A packet as it lies. -/
structure Pk where
  side : Int
  A : Option Addr
  c : Nat
  xs : List Int
def layK : Lay Pk 2 := { cs := fun p => [.int .i64 p.side, .slice p.A p.xs.length p.c], len := fun _ => rfl, one := fun p u hu => by simp at hu; rcases hu with rfl | rfl <;> rfl, pos := by decide }
def layS : Lay Sg 13 := { cs := fun s => s.cells, len := fun _ => rfl, one := fun s u hu => by simp [Sg.cells, segL] at hu; rcases hu with rfl | rfl | rfl | rfl | rfl | rfl | rfl | rfl | rfl | rfl | rfl | rfl | rfl <;> rfl, pos := by decide }
theorem sliceK : SliceTy Tryd.prog 54 48 2 32 := SliceTy.mk' (z := .agg #[.int .i64 0, .slice none 0 0]) Tryd.underlying54 (by kernel_rfl) rfl
def Pks (w : World) (base : Nat) (ps : List Pk) : Prop := ∀ p ∈ ps, OwnB w base (.slice p.A p.xs.length p.c) p.xs
theorem Pks.fine {w w' : World} {base : Nat} {ps : List Pk} (h : Pks w base ps) (f : Fine w w') : Pks w' base ps := fun p hp => (h p hp).fine f
theorem Pks.far {w w' : World} {base x : Nat} {ps : List Pk} {t : TypeId} {cs : Array Value} (h : Pks w base ps) (ht : t ≠ 5) (hx : Blk w x t cs) (hk : Kept (fun k => k = x) w w') : Pks w' base ps := fun p hp => (h p hp).farT ht hx hk
/-- A net that may be read. -/
def NetR (w : World) (base g : Nat) (ps : List Pk) : Prop := ∃ A c, base ≤ g ∧ Blk w g 81 #[.slice A ps.length c] ∧ RS layK w A c ps ∧ (∀ b off, A = some ⟨b, off, none⟩ → base ≤ b ∧ b ≠ g) ∧ Pks w base ps
/-- A net whose row is its own: it may grow. -/
def NetO (w : World) (base g : Nat) (ps : List Pk) : Prop := ∃ v, base ≤ g ∧ Blk w g 81 #[v] ∧ Own layK 48 w base v ps ∧ Pks w base ps
theorem NetR.fine {w w' : World} {base g : Nat} {ps : List Pk} (h : NetR w base g ps) (f : Fine w w') : NetR w' base g ps := by
  obtain ⟨A, c, h1, h2, h3, h4, h5⟩ := h
  exact ⟨A, c, h1, h2.fine f, h3.fine f, h4, h5.fine f⟩
theorem NetO.fine {w w' : World} {base g : Nat} {ps : List Pk} (h : NetO w base g ps) (f : Fine w w') : NetO w' base g ps := by
  obtain ⟨v, h1, h2, h3, h5⟩ := h
  exact ⟨v, h1, h2.fine f, h3.fine f, h5.fine f⟩
theorem own_ne {w : World} {base g : Nat} {v : Value} {ps : List Pk} {cs : Array Value} {t : TypeId} (h : Own layK 48 w base v ps) (hg : Blk w g t cs) (ht : t ≠ 48) : ∀ k, v.ownBlock = some k → k ≠ g := by
  intro k hk e
  subst e
  rcases h.2 with ⟨rfl, _⟩ | ⟨q, cap, cur, rfl, _, hgg, _⟩
  · cases hk
  · injection hk with hk
    subst hk
    have h2 : Blk w q 48 cur := hgg
    exact hg.ne_ h2 ht rfl
theorem NetO.r {w : World} {base g : Nat} {ps : List Pk} (h : NetO w base g ps) : NetR w base g ps := by
  obtain ⟨v, h1, h2, h3, h5⟩ := h
  have hne := own_ne h3 h2 (by decide)
  obtain ⟨A, c, rfl, h6, h7⟩ := h3.form
  exact ⟨A, c, h1, h2, h6, fun b off e => ⟨h7 b off e, hne b (by subst e; rfl)⟩, h5⟩
set_option maxHeartbeats 1000000 in
theorem new_any (w : World) : Calls Tryd.prog 25 #[] w fun r w' => ∃ g, r = .returned (.pointer (some ⟨g, 0, none⟩)) ∧ NetO w' w.heap.size g [] ∧ Fine w w' := by
  go_enter Tryd.func25, Tryd.ntmps25
  go_wp2_with fail
  go_ret
  exact ⟨_, rfl, ⟨.slice none 0 0, Nat.le_refl _, Blk.new w 81 _, Own.nil_ _ _ _ _, fun p hp => by cases hp⟩, (Fine.refl w).alloc _⟩
set_option maxHeartbeats 1000000 in
theorem len_nil (w : World) : Calls Tryd.prog 27 #[.pointer none] w fun r w' => r = .returned (.int .i64 0) ∧ Fine w w' := by
  go_enter Tryd.func27, Tryd.ntmps27
  go_wp2_with fail
  go_ret
  exact ⟨rfl, Fine.refl w⟩
set_option maxHeartbeats 1000000 in
theorem len_any (base g : Nat) (ps : List Pk) (w : World) (h : NetR w base g ps) : Calls Tryd.prog 27 #[.pointer (some ⟨g, 0, none⟩)] w fun r w' => r = .returned (.int .i64 ps.length) ∧ Fine w w' := by
  obtain ⟨A, c, h1, h2, h3, h4, h5⟩ := h
  have c0 : w.cell? ⟨g, 0, none⟩ = some (.slice A ps.length c) := h2.cell 0
  clear h1 h2 h3 h4 h5
  go_enter Tryd.func27, Tryd.ntmps27
  go_wp2_with fail
  go_ret
  exact ⟨rfl, Fine.refl w⟩
set_option maxHeartbeats 1000000 in
theorem clear_nil (w : World) : Calls Tryd.prog 31 #[.pointer none] w fun r w' => r = .returned (.tuple #[]) ∧ Fine w w' := by
  go_enter Tryd.func31, Tryd.ntmps31
  go_wp2_with fail
  go_end0
  exact ⟨rfl, Fine.refl w⟩
set_option maxHeartbeats 1000000 in
theorem all_nil (w : World) : Calls Tryd.prog 32 #[.pointer none] w fun r w' => r = .returned (.slice none 0 0) ∧ Fine w w' := by
  go_enter Tryd.func32, Tryd.ntmps32
  go_wp2_with fail
  go_ret
  exact ⟨rfl, Fine.refl w⟩
set_option maxHeartbeats 1000000 in
theorem send_nil (sd : Int) (v : Value) (w : World) : Calls Tryd.prog 26 #[.pointer none, .int .i64 sd, v] w fun r w' => r = .returned (.int .i64 0) ∧ Fine w w' := by
  go_enter Tryd.func26, Tryd.ntmps26
  go_wp2_with fail
  go_ret
  exact ⟨rfl, Fine.refl w⟩
set_option maxHeartbeats 1000000 in
theorem wrong_nil (i : Int) (w : World) : Calls Tryd.prog 52 #[.pointer none, .int .i64 i] w fun r w' => r = .returned (.int .i64 2) ∧ Fine w w' := by
  go_enter Tryd.func52, Tryd.ntmps52
  go_wp2_with fail
  go_ret
  exact ⟨rfl, Fine.refl w⟩
set_option maxHeartbeats 1000000 in
theorem wrong_any (base g : Nat) (ps : List Pk) (i : Nat) (hi : i < ps.length) (hl : ps.length ≤ 1000) (w : World) (h : NetR w base g ps) : Calls Tryd.prog 52 #[.pointer (some ⟨g, 0, none⟩), .int .i64 i] w fun r w' => r = .returned (.int .i64 0) ∧ Fine w w' := by
  obtain ⟨A, c, h1, h2, h3, h4, h5⟩ := h
  have c0 : w.cell? ⟨g, 0, none⟩ = some (.slice A ps.length c) := h2.cell 0
  obtain ⟨n, hn⟩ : ∃ n, ps.length = n := ⟨_, rfl⟩
  rw [hn] at c0 hi hl
  have e1 : ¬ (i : Int) < 0 := by omega
  have e2 : ¬ (i : Int) ≥ (n : Int) := by omega
  clear h1 h2 h3 h4 h5 hn
  go_enter Tryd.func52, Tryd.ntmps52
  go_wp2_with fail
  go_ret
  exact ⟨rfl, Fine.refl w⟩
set_option maxHeartbeats 1000000 in
theorem copy_nil (i : Int) (w : World) : Calls Tryd.prog 29 #[.pointer none, .int .i64 i] w fun r w' => r = .returned (.tuple #[.agg #[.int .i64 0, .slice none 0 0], .int .i64 2]) ∧ Fine w w' := by
  go_enter Tryd.func29, Tryd.ntmps29
  go_wp2_with fail
  have f1 : Fine w (w.alloc (.cells #[.int .i64 0, .slice none 0 0] 48)) := (Fine.refl w).alloc _
  have b1 : Blk (w.alloc (.cells #[.int .i64 0, .slice none 0 0] 48)) w.heap.size 48 #[.int .i64 0, .slice none 0 0] := Blk.new w 48 _
  have hx : w.heap.size ≤ w.heap.size := Nat.le_refl _
  generalize (w.alloc (.cells #[.int .i64 0, .slice none 0 0] 48)) = w1 at f1 b1 ⊢
  obtain ⟨x1, hx1⟩ : ∃ x1, w.heap.size = x1 := ⟨_, rfl⟩
  have hxx : w.heap.size ≤ x1 := by omega
  rw [hx1] at b1 ⊢
  clear hx1 hx
  refine (wrong_nil i w1).mono ?_
  rintro x w2 ⟨rfl, f⟩
  have b2 := b1.fine f; have f2 := f1.trans f
  clear b1 f1 f
  have c0 : w2.cell? ⟨x1, 0, none⟩ = some (.int .i64 0) := b2.cell 0
  have z0 : w2.frozen? ⟨x1, 0, none⟩ = false := b2.frozen 0
  have c1 : w2.cell? ⟨x1, 1, none⟩ = some (.slice none 0 0) := b2.cell 1
  have z1 : w2.frozen? ⟨x1, 1, none⟩ = false := b2.frozen 1
  clear b2
  go_wp2_with fail
  exact bodyPost_ret (v := .tuple #[.agg #[.int .i64 0, .slice none 0 0], .int .i64 2]) (by simp [results, Tryd.results29, go_sem, c0, c1]) rfl ⟨rfl, by repeat (first | with_reducible exact f2 | with_reducible refine Fine.setCell ?_ hxx _)⟩
set_option maxHeartbeats 1000000 in
theorem take_nil (i : Int) (w : World) : Calls Tryd.prog 28 #[.pointer none, .int .i64 i] w fun r w' => r = .returned (.tuple #[.agg #[.int .i64 0, .slice none 0 0], .int .i64 2]) ∧ Fine w w' := by
  go_enter Tryd.func28, Tryd.ntmps28
  go_wp2_with fail
  have f1 : Fine w (w.alloc (.cells #[.int .i64 0, .slice none 0 0] 48)) := (Fine.refl w).alloc _
  have b1 : Blk (w.alloc (.cells #[.int .i64 0, .slice none 0 0] 48)) w.heap.size 48 #[.int .i64 0, .slice none 0 0] := Blk.new w 48 _
  generalize (w.alloc (.cells #[.int .i64 0, .slice none 0 0] 48)) = w1 at f1 b1 ⊢
  obtain ⟨x1, hx1⟩ : ∃ x1, w.heap.size = x1 := ⟨_, rfl⟩
  have hxx : w.heap.size ≤ x1 := by omega
  rw [hx1] at b1 ⊢
  clear hx1
  refine (copy_nil i w1).mono ?_
  rintro x w2 ⟨rfl, f⟩
  have b2 := b1.fine f; have f2 := f1.trans f
  clear b1 f1 f
  go_upto_region 4 with (fail)
  have f3 := f2.alloc (.cells #[.int .i64 0, .slice none 0 0] 48)
  have b3 := b2.alloc (.cells #[.int .i64 0, .slice none 0 0] 48)
  have b4 : Blk (w2.alloc (.cells #[.int .i64 0, .slice none 0 0] 48)) w2.heap.size 48 #[.int .i64 0, .slice none 0 0] := Blk.new w2 48 _
  generalize (w2.alloc (.cells #[.int .i64 0, .slice none 0 0] 48)) = w3 at f3 b3 b4 ⊢
  generalize w2.heap.size = x2 at b4 ⊢
  have c0 : w3.cell? ⟨x1, 0, none⟩ = some (.int .i64 0) := b3.cell 0
  have c1 : w3.cell? ⟨x1, 1, none⟩ = some (.slice none 0 0) := b3.cell 1
  have z0 : w3.frozen? ⟨x1, 0, none⟩ = false := b3.frozen 0
  have z1 : w3.frozen? ⟨x1, 1, none⟩ = false := b3.frozen 1
  have d0 : w3.cell? ⟨x2, 0, none⟩ = some (.int .i64 0) := b4.cell 0
  have d1 : w3.cell? ⟨x2, 1, none⟩ = some (.slice none 0 0) := b4.cell 1
  clear b2 f2 b3 b4
  go_wp2_with fail
  exact bodyPost_ret (v := .tuple #[.agg #[.int .i64 0, .slice none 0 0], .int .i64 2]) (by simp [results, Tryd.results28, go_sem, c0, c1]) rfl ⟨rfl, by repeat (first | with_reducible exact f3 | with_reducible refine Fine.setCell ?_ hxx _)⟩
set_option maxHeartbeats 1000000 in
theorem spoil_nil (i j k : Int) (w : World) : Calls Tryd.prog 30 #[.pointer none, .int .i64 i, .int .i64 j, .int .i64 k] w fun r w' => r = .returned (.int .i64 2) ∧ Fine w w' := by
  go_enter Tryd.func30, Tryd.ntmps30
  go_wp2_with fail
  refine (wrong_nil i w).mono ?_
  rintro x w2 ⟨rfl, f⟩
  go_wp2_with fail
  go_ret
  exact ⟨rfl, f⟩
set_option maxHeartbeats 2000000 in
set_option maxRecDepth 50000 in
/-- A packet of its own. -/
theorem own_any (sd : Int) (A : Option Addr) (n c : Nat) (xs : List Int) (hn : n = xs.length) (hl : xs.length ≤ 100000) (w : World) (h : BS w A c xs) :
    Calls Tryd.prog 53 #[.agg #[.int .i64 sd, .slice A n c]] w fun r w' => ∃ A' c', r = .returned (.agg #[.int .i64 sd, .slice A' n c']) ∧ OwnB w' w.heap.size (.slice A' n c') xs ∧ Fine w w' := by
  have H := Lib.hid h; clear h
  have HN := Lib.hid hn; clear hn
  have hnl : n ≤ 100000 := by have := HN.out; omega
  have HL := Lib.hid hnl; clear hnl
  go_enter Tryd.func53, Tryd.ntmps53
  go_upto_region 1 with (fail)
  have b1 : Blk ((w.alloc (.cells #[.int .i64 sd, .slice A n c] 48)).alloc (.cells #[.int .i64 0, .slice none 0 0] 48)) w.heap.size 48 #[.int .i64 sd, .slice A n c] := (Blk.new w 48 _).alloc _
  have b2 : Blk ((w.alloc (.cells #[.int .i64 sd, .slice A n c] 48)).alloc (.cells #[.int .i64 0, .slice none 0 0] 48)) (w.heap.size + 1) 48 #[.int .i64 0, .slice none 0 0] := Blk.newAt (by simp)
  have f1 : Fine w ((w.alloc (.cells #[.int .i64 sd, .slice A n c] 48)).alloc (.cells #[.int .i64 0, .slice none 0 0] 48)) := ((Fine.refl w).alloc _).alloc _
  have hss := f1.size
  generalize ((w.alloc (.cells #[.int .i64 sd, .slice A n c] 48)).alloc (.cells #[.int .i64 0, .slice none 0 0] 48)) = w1 at b1 b2 f1 hss ⊢
  obtain ⟨x1, hx1⟩ : ∃ x, w.heap.size = x := ⟨_, rfl⟩
  obtain ⟨x2, hx2⟩ : ∃ x, w.heap.size + 1 = x := ⟨_, rfl⟩
  rw [hx2] at b2 ⊢
  rw [hx1] at b1 ⊢
  have HX2 := Lib.hid hx2; have HX1 := Lib.hid hx1
  clear hx1 hx2
  have HF1 := Lib.hid f1; have HSS := Lib.hid hss
  have c1 : w1.cell? ⟨x1, 1, none⟩ = some (.slice A n c) := b1.cell 1
  go_upto_region 2 with (at_make; refine wpList_makeB rfl (.tmp 6) (.tmp 6) rfl n _ _ rfl rfl rfl rfl (by have := HL.out; omega) ?_; intro w2 hrow2 f2)
  have l1 := b1.lt; have l2 := b2.lt
  have b1 := b1.fine f2; have b2 := b2.fine f2
  obtain ⟨g, hg⟩ : ∃ x, w1.heap.size = x := ⟨_, rfl⟩
  rw [hg] at hrow2 ⊢
  have HLT : Hid (x1 ≠ g ∧ x2 ≠ g) := Lib.hid (by omega)
  have HGE : Hid (w.heap.size ≤ g ∧ w.heap.size ≤ x2) := Lib.hid (by have := HX2.out; omega)
  clear l1 l2
  have c1 : w2.cell? ⟨x1, 1, none⟩ = some (.slice A n c) := b1.cell 1
  have HR2 := Lib.hid hrow2; have HF2 := Lib.hid f2
  have HBS := Lib.hid ((H.out.fine HF1.out).fine f2)
  clear hrow2 f2 hg f1 hss
  go_upto_region 3 with (refine wpList_copyB (o := ⟨some 11, _, _, _, _, _⟩) rfl (.tmp 8) (.tmp 10) rfl g _ HR2.out _ _ rfl (by simp) _ _ _ xs rfl HN.out HBS.out (by have := HN.out; simp; omega) ?_; intro w3 hrow3 k3)
  have b1 := b1.kept k3 HLT.out.1; have b2 := b2.kept k3 HLT.out.2
  have e0 : w3.cell? ⟨x1, 0, none⟩ = some (.int .i64 sd) := b1.cell 0
  have d0 : w3.cell? ⟨x2, 0, none⟩ = some (.int .i64 0) := b2.cell 0
  have d1 : w3.cell? ⟨x2, 1, none⟩ = some (.slice none 0 0) := b2.cell 1
  have z0 : w3.frozen? ⟨x2, 0, none⟩ = false := b2.frozen 0
  have z1 : w3.frozen? ⟨x2, 1, none⟩ = false := b2.frozen 1
  have f3 : Fine w w3 := (HF1.out.trans HF2.out).kept k3 (fun x hx e => by have := HGE.out.1; omega)
  have hx2 := HGE.out.2
  have eL : xs ++ (List.replicate n (0 : Int)).drop xs.length = xs := by rw [List.drop_eq_nil_of_le (by rw [List.length_replicate]; have := HN.out; omega), List.append_nil]
  have hO : OwnB w3 w.heap.size (.slice (some ⟨g, 0, none⟩) n n) xs := by
    rw [eL] at hrow3
    have h := hrow3.own HGE.out.1 (by unfold maxLen; have := HN.out; have := HL.out; omega)
    rw [← HN.out] at h
    exact h
  have HO := Lib.hid ((hO.farT (by decide) b2 ((Kept.refl _ _).setC (i := 0) (u := .int .i64 sd))).farT (by decide) (b2.set_ 0 (.int .i64 sd)) ((Kept.refl _ _).setC (i := 1) (u := .slice (some ⟨g, 0, none⟩) n n)))
  clear b1 b2 hrow3 hO eL c1 HBS HR2 HX1 HX2 HSS k3
  go_wp2_with fail
  exact bodyPost_ret (v := .agg #[.int .i64 sd, .slice (some ⟨g, 0, none⟩) n n]) (by simp [results, Tryd.results53, go_sem, d0, d1]) rfl ⟨some ⟨g, 0, none⟩, n, rfl, HO.out, by repeat (first | with_reducible exact f3 | with_reducible refine Fine.setCell ?_ hx2 _)⟩
end Go.Proofs.YthnennleblgjeaaDoor
