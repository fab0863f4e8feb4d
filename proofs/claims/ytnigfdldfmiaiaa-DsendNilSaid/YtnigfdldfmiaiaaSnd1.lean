/- A sender: one that is not there; how it lies; New, slices.Clone of bytes. -/
import Derived.Test.YtnigfdldfmiaiaaDrv9
namespace Go.Proofs.Ytnigfdldfmiaiaa
open Go.ChangeShapes Go.WideShapes Go.ChangeAt Go.RowKit Go.Maps
set_option linter.unusedVariables false
set_option linter.unusedSimpArgs false
theorem write_nil (v : Value) (w : World) : Calls Try.prog 51 #[.pointer none, v] w fun r w' => r = .returned (.tuple #[.int .i64 0, .int .i64 2]) ∧ Fine w w' := by
  go_enter Try.func51, Try.ntmps51
  go_wp2_with fail
  exact bodyPost_ret (v := .tuple #[.int .i64 0, .int .i64 2]) (by simp [results, Try.results51, go_sem]) rfl ⟨rfl, Fine.refl w⟩
theorem take_nil (m : Int) (w : World) : Calls Try.prog 52 #[.pointer none, .int .i64 m] w fun r w' => r = .returned (.tuple #[.int .i64 0, .slice none 0 0]) ∧ Fine w w' := by
  go_enter Try.func52, Try.ntmps52
  go_wp2_with fail
  exact bodyPost_ret (v := .tuple #[.int .i64 0, .slice none 0 0]) (by simp [results, Try.results52, go_sem]) rfl ⟨rfl, Fine.refl w⟩
theorem sack_nil (a b : Int) (w : World) : Calls Try.prog 53 #[.pointer none, .int .i64 a, .int .i64 b] w fun r w' => r = .returned (.tuple #[.int .i64 0, .bool false]) ∧ Fine w w' := by
  go_enter Try.func53, Try.ntmps53
  go_wp2_with fail
  exact bodyPost_ret (v := .tuple #[.int .i64 0, .bool false]) (by simp [results, Try.results53, go_sem]) rfl ⟨rfl, Fine.refl w⟩
theorem due_nil (w : World) : Calls Try.prog 61 #[.pointer none] w fun r w' => r = .returned (.tuple #[.int .i64 0, .bool false]) ∧ Fine w w' := by
  go_enter Try.func61, Try.ntmps61
  go_upto_region 1 with fail
  go_quiet (fail)
  go_wp2_with fail
  exact bodyPost_ret (v := .tuple #[.int .i64 0, .bool false]) (by simp [results, Try.results61, go_sem]) rfl ⟨rfl, (Fine.refl w).drewN _⟩
theorem send_nil (w : World) : Calls Try.prog 60 #[.pointer none] w fun r w' => r = .returned (.int .i64 2) ∧ Fine w w' := by
  go_enter Try.func60, Try.ntmps60
  go_wp2_with fail
  go_ret
  exact ⟨rfl, Fine.refl w⟩
theorem lost_nil (a b : Int) (w : World) : Calls Try.prog 55 #[.pointer none, .int .i64 a, .int .i64 b] w fun r w' => r = .returned (.int .i64 0) ∧ Fine w w' := by
  go_enter Try.func55, Try.ntmps55
  go_wp2_with fail
  go_ret
  exact ⟨rfl, Fine.refl w⟩
theorem una_nil (w : World) : Calls Try.prog 56 #[.pointer none] w fun r w' => r = .returned (.int .i64 0) ∧ Fine w w' := by
  go_enter Try.func56, Try.ntmps56
  go_wp2_with fail
  go_ret
  exact ⟨rfl, Fine.refl w⟩
theorem snext_nil (w : World) : Calls Try.prog 54 #[.pointer none] w fun r w' => r = .returned (.int .i64 0) ∧ Fine w w' := by
  go_enter Try.func54, Try.ntmps54
  go_wp2_with fail
  go_ret
  exact ⟨rfl, Fine.refl w⟩
theorem sedge_nil (w : World) : Calls Try.prog 57 #[.pointer none] w fun r w' => r = .returned (.int .i64 0) ∧ Fine w w' := by
  go_enter Try.func57, Try.ntmps57
  go_wp2_with fail
  go_ret
  exact ⟨rfl, Fine.refl w⟩
theorem sheld_nil (w : World) : Calls Try.prog 59 #[.pointer none] w fun r w' => r = .returned (.int .i64 0) ∧ Fine w w' := by
  go_enter Try.func59, Try.ntmps59
  go_wp2_with fail
  go_ret
  exact ⟨rfl, Fine.refl w⟩
theorem done_nil (w : World) : Calls Try.prog 62 #[.pointer none] w fun r w' => r = .returned (.bool false) ∧ Fine w w' := by
  go_enter Try.func62, Try.ntmps62
  go_wp2_with fail
  go_ret
  exact ⟨rfl, Fine.refl w⟩
set_option maxHeartbeats 2000000 in
set_option maxRecDepth 20000 in
theorem cloneB_any (A : Option Addr) (n c : Nat) (l : List Int) (hn : n = l.length) (hl : l.length ≤ 8589934592) (w : World) (h : RS layB w A c l) :
    Calls Try.prog 95 #[.slice A n c] w fun r w' => ∃ v, r = .returned v ∧ Own layB 5 w' w.heap.size v l ∧ Fine w w' := by
  subst hn
  cases A with
  | none =>
    have hc := h.2.2.1 rfl
    have hl0 : l = [] := List.eq_nil_of_length_eq_zero (by have := h.1; omega)
    subst hl0
    clear h
    subst hc
    have hq : ∀ w, (binOp .eql 46 (.slice none 0 0) (.slice none 0 0)).run Try.prog w = .ok (.bool true) w := fun w => Lib.run_eql_slice_nil w 46 5 none 0 0 0 0 Try.underlying46
    go_enter Try.func95, Try.ntmps95
    go_wp2_with fail
    go_ret
    exact ⟨_, rfl, Own.nil_ _ _ _ _, Fine.refl w⟩
  | some ad =>
    have hO : Hid (Own layB 5 (w.alloc (.cells #[] 5)) w.heap.size (.slice (some ⟨w.heap.size, 0, none⟩) 0 0) []) := Lib.hid (Own.lit (xs := []) w #[] rfl (Nat.le_refl _) (by simp))
    have f1 : Fine w (w.alloc (.cells #[] 5)) := (Fine.refl w).alloc _
    have H := Lib.hid (h.fine f1)
    have HL := Lib.hid hl
    have HF := Lib.hid f1
    have hsz : Hid (w.heap.size ≤ (w.alloc (.cells #[] 5)).heap.size) := Lib.hid f1.size
    clear h hl f1
    obtain ⟨n, hn⟩ : ∃ n, l.length = n := ⟨_, rfl⟩
    have HN := Lib.hid hn
    rw [hn]
    clear hn
    have hq : ∀ w, (binOp .eql 46 (.slice (some ad) n c) (.slice none 0 0)).run Try.prog w = .ok (.bool false) w := fun w => Lib.run_eql_slice_nil w 46 5 (some ad) n c 0 0 Try.underlying46
    go_enter Try.func95, Try.ntmps95
    go_wp2_with (at_builtin; refine wpList_appE rfl sliceB (.tmp 5) (.tmp 6) rfl w.heap.size _ [] rfl hO.out (some ad) n c l rfl HN.out.symm H.out (by simp; have := HL.out; omega) (by simp; unfold maxLen; have := HL.out; omega) hsz.out ?_; intro A' c' w2 ho kk hgr)
    have h : Own layB 5 w2 w.heap.size (.slice A' l.length c') l := by simpa using ho.out
    go_ret
    exact ⟨_, rfl, h, HF.out.kept kk (fun x hx e => by omega)⟩
/-- A sender at s: its bytes, the set of what is lost; all its blocks are F's. -/
structure SnX (F : Nat → Prop) (w : World) (s : Nat) (A : Option Addr) (c gs : Nat) (v : Value) (l : List Rn) (una nx ed : Int) (buf : List Int) (told done : Bool) : Prop where
  box : Blk w s 114 #[.pointer (some ⟨gs, 0, none⟩), .int .i64 una, .int .i64 nx, .int .i64 ed, .slice A buf.length c, .bool told, .bool done]
  own : Own layB 5 w 0 (.slice A buf.length c) buf
  set : SetA 0 w gs v l
  tidy : Tidy l
  fg : F s
  fs : F gs
  fa : ∀ x, (Value.slice A buf.length c).ownBlock = some x → F x
  fv : ∀ x, v.ownBlock = some x → F x
  lt : ∀ x, F x → x < w.heap.size
section
variable {F : Nat → Prop} {w w' w1 : World} {s : Nat} {A : Option Addr} {c gs : Nat} {v : Value} {l : List Rn} {una nx ed : Int} {buf : List Int} {told done : Bool}
theorem SnX.kept {S : Nat → Prop} (h : SnX F w s A c gs v l una nx ed buf told done) (k : Kept S w w') (hd : ∀ x, F x → ¬ S x) : SnX F w' s A c gs v l una nx ed buf told done :=
  ⟨h.box.kept k (hd _ h.fg), h.own.kept k (fun x hx => hd x (h.fa x hx)), h.set.kept k (hd _ h.fs) (fun x hx => hd x (h.fv x hx)), h.tidy, h.fg, h.fs, h.fa, h.fv, fun x hx => Nat.lt_of_lt_of_le (h.lt x hx) k.size⟩
theorem SnX.fine (h : SnX F w s A c gs v l una nx ed buf told done) (k : Fine w w') : SnX F w' s A c gs v l una nx ed buf told done := h.kept (S := fun _ => False) (Kept.of_fine k) (fun _ _ f => f)
theorem SnX.ne_am (h : SnX F w s A c gs v l una nx ed buf told done) : ∀ x, (Value.slice A buf.length c).ownBlock = some x → x ≠ s ∧ x ≠ gs ∧ v.ownBlock ≠ some x := fun x hx =>
  ⟨h.own.ne_blk hx h.box (by decide), h.own.ne_blk hx h.set.blk (by decide), h.own.ne_own h.set.ow (by decide) hx⟩
theorem SnX.ne_v (h : SnX F w s A c gs v l una nx ed buf told done) : ∀ x, v.ownBlock = some x → x ≠ s ∧ x ≠ gs := fun x hx =>
  ⟨h.set.ow.ne_blk hx h.box (by decide), h.set.ow.ne_blk hx h.set.blk (by decide)⟩
theorem SnX.ne_g (h : SnX F w s A c gs v l una nx ed buf told done) : gs ≠ s := h.set.blk.ne_ h.box (by decide)
/-- A cell of its own that is no other block's has turned. -/
theorem SnX.setNx (h : SnX F w s A c gs v l una nx ed buf told done) (m : Int) : SnX F (w.setCell ⟨s, 2, none⟩ (.int .i64 m)) s A c gs v l una m ed buf told done := by
  have k : Kept (· = s) w (w.setCell ⟨s, 2, none⟩ (.int .i64 m)) := (Kept.refl (· = s) w).setIn (p := ⟨s, 2, none⟩) rfl _
  exact ⟨h.box.set_ 2 (.int .i64 m), h.own.kept k (fun x hx e => (h.ne_am x hx).1 e), h.set.kept k h.ne_g (fun x hx e => (h.ne_v x hx).1 e), h.tidy, h.fg, h.fs, h.fa, h.fv, fun x hx => Nat.lt_of_lt_of_le (h.lt x hx) k.size⟩
/-- Its bytes have grown. -/
theorem SnX.wrote {A2 : Option Addr} {n2 c2 : Nat} {b2 : List Int} (h : SnX F w s A c gs v l una nx ed buf told done) (k : Kept (fun y => (Value.slice A buf.length c).ownBlock = some y) w w1) (hn : n2 = b2.length) (ho : Own layB 5 w1 0 (.slice A2 n2 c2) b2) (hv : (Value.slice A2 n2 c2).ownBlock = (Value.slice A buf.length c).ownBlock ∨ ∀ k, (Value.slice A2 n2 c2).ownBlock = some k → w.heap.size ≤ k) :
    SnX (Grew F w w1) (w1.setCell ⟨s, 4, none⟩ (.slice A2 n2 c2)) s A2 c2 gs v l una nx ed b2 told done := by
  subst hn
  have hbx := h.box.kept k (fun e => (h.ne_am s e).1 rfl)
  have hs1 : SetA 0 w1 gs v l := h.set.kept k (fun e => (h.ne_am gs e).2.1 rfl) (fun x hx e => (h.ne_am x e).2.2 hx)
  have k2 : Kept (· = s) w1 (w1.setCell ⟨s, 4, none⟩ (.slice A2 b2.length c2)) := (Kept.refl (· = s) w1).setIn (p := ⟨s, 4, none⟩) rfl _
  refine ⟨hbx.set_ 4 _, ho.kept k2 (fun y hy e => ho.ne_blk hy hbx (by decide) e), hs1.kept k2 h.ne_g (fun x hx e => (h.ne_v x hx).1 e), h.tidy, .inl h.fg, .inl h.fs, fun y hy => ?_, fun y hy => .inl (h.fv y hy), fun y hy => ?_⟩
  · rcases hv with h1 | h1
    · exact .inl (h.fa y (h1 ▸ hy))
    · exact .inr ⟨h1 y hy, (ho.lt y hy).2⟩
  · refine Nat.lt_of_lt_of_le ?_ k2.size
    rcases hy with h1 | h1
    · exact Nat.lt_of_lt_of_le (h.lt y h1) k.size
    · exact h1.2
end
set_option maxHeartbeats 1000000 in
set_option maxRecDepth 20000 in
theorem snew_any (w : World) : Calls Try.prog 50 #[] w fun r w' => ∃ s gs v l, r = .returned (.pointer (some ⟨s, 0, none⟩)) ∧ (∀ m, inB l m = false) ∧ SnX (fun x => w.heap.size ≤ x ∧ x < w'.heap.size) w' s none 0 gs v l 1 1 33 [] false false ∧ Fine w w' := by
  have hN := Lib.hid (new_any none 0 0 [] rfl (by omega) (fun r hr => by cases hr) w (Own.nil_ layR 32 w 0).rs.1)
  go_enter Try.func50, Try.ntmps50
  go_wp2_with fail
  refine hN.out.mono ?_
  rintro r w1 ⟨gs, v, l, rfl, hgs, hT, hin, hS, f1⟩
  obtain ⟨s, hs⟩ : ∃ s, w1.heap.size = s := ⟨_, rfl⟩
  have b1 := Blk.newAt (w := w1) (t := 114) (cs := #[.pointer (some ⟨gs, 0, none⟩), .int .i64 1, .int .i64 1, .int .i64 33, .slice none 0 0, .bool false, .bool false]) hs.symm
  have f2 := (Fine.refl w1).alloc (.cells #[.pointer (some ⟨gs, 0, none⟩), .int .i64 1, .int .i64 1, .int .i64 33, .slice none 0 0, .bool false, .bool false] 114)
  have X := Lib.hid (And.intro (fun m => by rw [hin m]; rfl : ∀ m, inB l m = false) (And.intro (SnX.mk (F := fun x => w.heap.size ≤ x ∧ x < (w1.alloc (.cells #[.pointer (some ⟨gs, 0, none⟩), .int .i64 1, .int .i64 1, .int .i64 33, .slice none 0 0, .bool false, .bool false] 114)).heap.size) (buf := []) b1 (Own.nil_ _ _ _ _) (hS.lower.fine f2) hT ⟨by rw [← hs]; exact f1.size, b1.lt⟩ ⟨hgs, Nat.lt_of_lt_of_le hS.lt f2.size⟩ (fun x hx => by cases hx) (fun x hx => by have := hS.own x hx; exact ⟨this.1, Nat.lt_of_lt_of_le this.2 f2.size⟩) (fun x hx => hx.2)) (f1.trans f2)))
  clear b1 f2 hS hin hT hN f1 hgs
  go_wp2_with fail
  go_ret
  exact ⟨s, gs, v, l, rfl, X.out⟩
end Go.Proofs.Ytnigfdldfmiaiaa
