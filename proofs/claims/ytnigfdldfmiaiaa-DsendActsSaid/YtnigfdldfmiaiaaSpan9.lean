/- Contracts: Add: nothing to add. -/
import Derived.Test.YtnigfdldfmiaiaaSpan8
import Derived.Deep.DeepCutAuto
namespace Go.Proofs.Ytnigfdldfmiaiaa
open Go.ChangeShapes Go.WideShapes Go.ChangeAt Go.RowKit
set_option linter.unusedVariables false
set_option linter.unusedSimpArgs false
def SetA (base : Nat) (w : World) (g : Nat) (v : Value) (l : List Rn) : Prop := ∃ A c, v = .slice A l.length c ∧ Blk w g 97 #[v] ∧ Own layR 32 w base v l ∧ v.ownBlock ≠ some g
theorem SetA.set {base : Nat} {w : World} {g : Nat} {v : Value} {l : List Rn} (h : SetA base w g v l) : SetR w g l := by
  obtain ⟨A, c, rfl, h1, h2, _⟩ := h
  exact ⟨A, c, h1, h2.rs.1⟩
theorem SetA.lt {base : Nat} {w : World} {g : Nat} {v : Value} {l : List Rn} (h : SetA base w g v l) : g < w.heap.size := by
  obtain ⟨A, c, rfl, h1, h2, _⟩ := h
  exact h1.lt
theorem SetA.kept {S : Nat → Prop} {base : Nat} {w w' : World} {g : Nat} {v : Value} {l : List Rn} (h : SetA base w g v l) (k : Kept S w w') (hg : ¬ S g) (hv : ∀ x, v.ownBlock = some x → ¬ S x) : SetA base w' g v l := by
  obtain ⟨A, c, rfl, h1, h2, h3⟩ := h
  exact ⟨A, c, rfl, h1.kept k hg, h2.kept k hv, h3⟩
theorem SetA.fine {base : Nat} {w w' : World} {g : Nat} {v : Value} {l : List Rn} (h : SetA base w g v l) (k : Fine w w') : SetA base w' g v l := by
  obtain ⟨A, c, rfl, h1, h2, h3⟩ := h
  exact ⟨A, c, rfl, h1.fine k, h2.fine k, h3⟩
set_option maxHeartbeats 2000000 in
set_option maxRecDepth 20000 in
/-- Add's head: the set's box, what is held, its box. -/
theorem add_nil (f b : Int) (hf : -9223372036854775808 ≤ f ∧ f ≤ 9223372036854775807) (hb : -9223372036854775808 ≤ b ∧ b ≤ 9223372036854775807) (w : World) : Calls Try.prog 20 #[.pointer none, .int .i64 f, .int .i64 b] w fun r w' => r = .returned (.int .i64 0) ∧ Fine w w' := by
  obtain ⟨xs, hxs⟩ : ∃ x, w.heap.size = x := ⟨_, rfl⟩
  have hw1 : Fine w (w.alloc (.cells #[.pointer none] 24)) := (Fine.refl w).alloc _
  have hbx := Blk.newAt (w := w) (t := 24) (cs := #[.pointer none]) hxs.symm
  go_enter Try.func20, Try.ntmps20
  go_wp2_with fail
  generalize w.alloc (.cells #[.pointer none] 24) = w1 at hw1 hbx ⊢
  obtain ⟨r, hr⟩ : ∃ r, heldR f b = r := ⟨_, rfl⟩
  refine (held_any f b hf hb _).mono ?_
  rintro x w2 ⟨rfl, f2⟩
  rw [hr]
  have hb2 := hbx.fine f2
  have hw2 := hw1.trans f2
  obtain ⟨xr, hxr⟩ : ∃ x, w2.heap.size = x := ⟨_, rfl⟩
  go_upto_region 2 with fail
  have hw3 := Lib.hid (hw2.alloc (.cells #[.int .i64 r.1, .int .i64 r.2] 32))
  have c0 := (hb2.alloc (.cells #[.int .i64 r.1, .int .i64 r.2] 32)).cell1
  generalize w2.alloc (.cells #[.int .i64 r.1, .int .i64 r.2] 32) = w3 at hw3 c0 ⊢
  clear hw2 hb2 f2 hxr hbx hw1
  go_wp2_with fail
  go_ret
  exact ⟨rfl, hw3.out⟩
set_option maxHeartbeats 2000000 in
set_option maxRecDepth 20000 in
theorem add_void (g : Nat) (f b : Int) (hf : -9223372036854775808 ≤ f ∧ f ≤ 9223372036854775807) (hb : -9223372036854775808 ≤ b ∧ b ≤ 9223372036854775807) (h0 : heldR f b = (0, 0)) (w : World) : Calls Try.prog 20 #[.pointer (some ⟨g, 0, none⟩), .int .i64 f, .int .i64 b] w fun r w' => r = .returned (.int .i64 0) ∧ Fine w w' := by
  obtain ⟨xs, hxs⟩ : ∃ x, w.heap.size = x := ⟨_, rfl⟩
  have hw1 : Fine w (w.alloc (.cells #[.pointer (some ⟨g, 0, none⟩)] 24)) := (Fine.refl w).alloc _
  have hbx := Blk.newAt (w := w) (t := 24) (cs := #[.pointer (some ⟨g, 0, none⟩)]) hxs.symm
  go_enter Try.func20, Try.ntmps20
  go_wp2_with fail
  generalize w.alloc (.cells #[.pointer (some ⟨g, 0, none⟩)] 24) = w1 at hw1 hbx ⊢
  refine (held_any f b hf hb _).mono ?_
  rintro x w2 ⟨rfl, f2⟩
  rw [h0]
  have hb2 := hbx.fine f2
  have hw2 := hw1.trans f2
  obtain ⟨xr, hxr⟩ : ∃ x, w2.heap.size = x := ⟨_, rfl⟩
  go_upto_region 2 with fail
  have hw3 := Lib.hid (hw2.alloc (.cells #[.int .i64 0, .int .i64 0] 32))
  have c0 := (hb2.alloc (.cells #[.int .i64 0, .int .i64 0] 32)).cell1
  have hb4 : Blk (w2.alloc (.cells #[.int .i64 0, .int .i64 0] 32)) xr 32 #[.int .i64 0, .int .i64 0] := Blk.newAt hxr.symm
  have c1 := hb4.cell 0
  have c2 := hb4.cell 1
  generalize w2.alloc (.cells #[.int .i64 0, .int .i64 0] 32) = w3 at hw3 c0 c1 c2 ⊢
  clear hw2 hb2 f2 hxr hbx hw1 hb4
  go_wp2_with fail
  go_ret
  exact ⟨rfl, hw3.out⟩
end Go.Proofs.Ytnigfdldfmiaiaa
