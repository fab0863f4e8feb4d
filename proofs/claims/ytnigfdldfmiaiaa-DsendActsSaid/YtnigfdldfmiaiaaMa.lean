/- A sender: one that is not there; how it lies; New, slices.Clone of bytes. A sender: Write; last, data, Take where nothing is lost. A sender: data, Take where nothing is lost. A sender: wakes; the law DsendNil. A sender: Lost; its set has turned. A sender: keep. -/
import Derived.Test.YtnigfdldfmiaiaaDrv9
import Derived.Test.YtnigfdldfmiaiaaDrv10
import Derived.Laws.Cover1
import Derived.Test.YtnigfdldfmiaiaaDrv7
namespace Go.Proofs.Ytnigfdldfmiaiaa
set_option linter.unusedVariables false
set_option linter.unusedSimpArgs false
open Go.ChangeShapes Go.WideShapes Go.ChangeAt Go.RowKit Go.Maps
set_option linter.unusedVariables false
set_option linter.unusedSimpArgs false
theorem write_nil (v : Value) (w : World) : Calls Try.prog 51 #[.pointer none, v] w fun r w' => r = .returned (.tuple #[.int .i64 0, .int .i64 2]) ∧ Fine w w' := by
  go_enter Try.func51, Try.ntmps51
  go_wp2_with fail
  exact bodyPost_ret (v := .tuple #[.int .i64 0, .int .i64 2]) (by simp [results, Try.results51, go_sem]) rfl ⟨rfl, Fine.refl w⟩
theorem take_nil (m : Int) (w : World) : Calls Try.prog 52 #[.pointer none, .int .i64 m] w fun r w' => r = .returned (.tuple #[.int .i64 0, .slice none 0 0]) ∧ Fine w w' := by
  go_enter Try.func52, Try.ntmps52
  go_wp2_with fail
  exact bodyPost_ret (v := .tuple #[.int .i64 0, .slice none 0 0]) (by simp [results, Try.results52, go_sem]) rfl ⟨rfl, Fine.refl w⟩
theorem sack_nil (a b : Int) (w : World) : Calls Try.prog 53 #[.pointer none, .int .i64 a, .int .i64 b] w fun r w' => r = .returned (.tuple #[.int .i64 0, .bool false]) ∧ Fine w w' := by
  go_enter Try.func53, Try.ntmps53
  go_wp2_with fail
  exact bodyPost_ret (v := .tuple #[.int .i64 0, .bool false]) (by simp [results, Try.results53, go_sem]) rfl ⟨rfl, Fine.refl w⟩
theorem due_nil (w : World) : Calls Try.prog 61 #[.pointer none] w fun r w' => r = .returned (.tuple #[.int .i64 0, .bool false]) ∧ Fine w w' := by
  go_enter Try.func61, Try.ntmps61
  go_upto_region 1 with fail
  go_quiet (fail)
  go_wp2_with fail
  exact bodyPost_ret (v := .tuple #[.int .i64 0, .bool false]) (by simp [results, Try.results61, go_sem]) rfl ⟨rfl, (Fine.refl w).drewN _⟩
theorem send_nil (w : World) : Calls Try.prog 60 #[.pointer none] w fun r w' => r = .returned (.int .i64 2) ∧ Fine w w' := by
  go_enter Try.func60, Try.ntmps60
  go_wp2_with fail
  go_ret
  exact ⟨rfl, Fine.refl w⟩
theorem lost_nil (a b : Int) (w : World) : Calls Try.prog 55 #[.pointer none, .int .i64 a, .int .i64 b] w fun r w' => r = .returned (.int .i64 0) ∧ Fine w w' := by
  go_enter Try.func55, Try.ntmps55
  go_wp2_with fail
  go_ret
  exact ⟨rfl, Fine.refl w⟩
theorem una_nil (w : World) : Calls Try.prog 56 #[.pointer none] w fun r w' => r = .returned (.int .i64 0) ∧ Fine w w' := by
  go_enter Try.func56, Try.ntmps56
  go_wp2_with fail
  go_ret
  exact ⟨rfl, Fine.refl w⟩
theorem snext_nil (w : World) : Calls Try.prog 54 #[.pointer none] w fun r w' => r = .returned (.int .i64 0) ∧ Fine w w' := by
  go_enter Try.func54, Try.ntmps54
  go_wp2_with fail
  go_ret
  exact ⟨rfl, Fine.refl w⟩
theorem sedge_nil (w : World) : Calls Try.prog 57 #[.pointer none] w fun r w' => r = .returned (.int .i64 0) ∧ Fine w w' := by
  go_enter Try.func57, Try.ntmps57
  go_wp2_with fail
  go_ret
  exact ⟨rfl, Fine.refl w⟩
theorem sheld_nil (w : World) : Calls Try.prog 59 #[.pointer none] w fun r w' => r = .returned (.int .i64 0) ∧ Fine w w' := by
  go_enter Try.func59, Try.ntmps59
  go_wp2_with fail
  go_ret
  exact ⟨rfl, Fine.refl w⟩
theorem done_nil (w : World) : Calls Try.prog 62 #[.pointer none] w fun r w' => r = .returned (.bool false) ∧ Fine w w' := by
  go_enter Try.func62, Try.ntmps62
  go_wp2_with fail
  go_ret
  exact ⟨rfl, Fine.refl w⟩
set_option maxHeartbeats 2000000 in
set_option maxRecDepth 20000 in
theorem cloneB_any (A : Option Addr) (n c : Nat) (l : List Int) (hn : n = l.length) (hl : l.length ≤ 8589934592) (w : World) (h : RS layB w A c l) :
    Calls Try.prog 95 #[.slice A n c] w fun r w' => ∃ v, r = .returned v ∧ Own layB 5 w' w.heap.size v l ∧ Fine w w' := by
  subst hn
  cases A with
  | none =>
    have hc := h.2.2.1 rfl
    have hl0 : l = [] := List.eq_nil_of_length_eq_zero (by have := h.1; omega)
    subst hl0
    clear h
    subst hc
    have hq : ∀ w, (binOp .eql 46 (.slice none 0 0) (.slice none 0 0)).run Try.prog w = .ok (.bool true) w := fun w => Lib.run_eql_slice_nil w 46 5 none 0 0 0 0 Try.underlying46
    go_enter Try.func95, Try.ntmps95
    go_wp2_with fail
    go_ret
    exact ⟨_, rfl, Own.nil_ _ _ _ _, Fine.refl w⟩
  | some ad =>
    have hO : Hid (Own layB 5 (w.alloc (.cells #[] 5)) w.heap.size (.slice (some ⟨w.heap.size, 0, none⟩) 0 0) []) := Lib.hid (Own.lit (xs := []) w #[] rfl (Nat.le_refl _) (by simp))
    have f1 : Fine w (w.alloc (.cells #[] 5)) := (Fine.refl w).alloc _
    have H := Lib.hid (h.fine f1)
    have HL := Lib.hid hl
    have HF := Lib.hid f1
    have hsz : Hid (w.heap.size ≤ (w.alloc (.cells #[] 5)).heap.size) := Lib.hid f1.size
    clear h hl f1
    obtain ⟨n, hn⟩ : ∃ n, l.length = n := ⟨_, rfl⟩
    have HN := Lib.hid hn
    rw [hn]
    clear hn
    have hq : ∀ w, (binOp .eql 46 (.slice (some ad) n c) (.slice none 0 0)).run Try.prog w = .ok (.bool false) w := fun w => Lib.run_eql_slice_nil w 46 5 (some ad) n c 0 0 Try.underlying46
    go_enter Try.func95, Try.ntmps95
    go_wp2_with (at_builtin; refine wpList_appE rfl sliceB (.tmp 5) (.tmp 6) rfl w.heap.size _ [] rfl hO.out (some ad) n c l rfl HN.out.symm H.out (by simp; have := HL.out; omega) (by simp; unfold maxLen; have := HL.out; omega) hsz.out ?_; intro A' c' w2 ho kk hgr)
    have h : Own layB 5 w2 w.heap.size (.slice A' l.length c') l := by simpa using ho.out
    go_ret
    exact ⟨_, rfl, h, HF.out.kept kk (fun x hx e => by omega)⟩
/-- A sender at s: its bytes, the set of what is lost; all its blocks are F's. -/
structure SnX (F : Nat → Prop) (w : World) (s : Nat) (A : Option Addr) (c gs : Nat) (v : Value) (l : List Rn) (una nx ed : Int) (buf : List Int) (told done : Bool) : Prop where
  box : Blk w s 114 #[.pointer (some ⟨gs, 0, none⟩), .int .i64 una, .int .i64 nx, .int .i64 ed, .slice A buf.length c, .bool told, .bool done]
  own : Own layB 5 w 0 (.slice A buf.length c) buf
  set : SetA 0 w gs v l
  tidy : Tidy l
  fg : F s
  fs : F gs
  fa : ∀ x, (Value.slice A buf.length c).ownBlock = some x → F x
  fv : ∀ x, v.ownBlock = some x → F x
  lt : ∀ x, F x → x < w.heap.size
section
variable {F : Nat → Prop} {w w' w1 : World} {s : Nat} {A : Option Addr} {c gs : Nat} {v : Value} {l : List Rn} {una nx ed : Int} {buf : List Int} {told done : Bool}
theorem SnX.kept {S : Nat → Prop} (h : SnX F w s A c gs v l una nx ed buf told done) (k : Kept S w w') (hd : ∀ x, F x → ¬ S x) : SnX F w' s A c gs v l una nx ed buf told done :=
  ⟨h.box.kept k (hd _ h.fg), h.own.kept k (fun x hx => hd x (h.fa x hx)), h.set.kept k (hd _ h.fs) (fun x hx => hd x (h.fv x hx)), h.tidy, h.fg, h.fs, h.fa, h.fv, fun x hx => Nat.lt_of_lt_of_le (h.lt x hx) k.size⟩
theorem SnX.fine (h : SnX F w s A c gs v l una nx ed buf told done) (k : Fine w w') : SnX F w' s A c gs v l una nx ed buf told done := h.kept (S := fun _ => False) (Kept.of_fine k) (fun _ _ f => f)
theorem SnX.ne_am (h : SnX F w s A c gs v l una nx ed buf told done) : ∀ x, (Value.slice A buf.length c).ownBlock = some x → x ≠ s ∧ x ≠ gs ∧ v.ownBlock ≠ some x := fun x hx =>
  ⟨h.own.ne_blk hx h.box (by decide), h.own.ne_blk hx h.set.blk (by decide), h.own.ne_own h.set.ow (by decide) hx⟩
theorem SnX.ne_v (h : SnX F w s A c gs v l una nx ed buf told done) : ∀ x, v.ownBlock = some x → x ≠ s ∧ x ≠ gs := fun x hx =>
  ⟨h.set.ow.ne_blk hx h.box (by decide), h.set.ow.ne_blk hx h.set.blk (by decide)⟩
theorem SnX.ne_g (h : SnX F w s A c gs v l una nx ed buf told done) : gs ≠ s := h.set.blk.ne_ h.box (by decide)
/-- A cell of its own that is no other block's has turned. -/
theorem SnX.setNx (h : SnX F w s A c gs v l una nx ed buf told done) (m : Int) : SnX F (w.setCell ⟨s, 2, none⟩ (.int .i64 m)) s A c gs v l una m ed buf told done := by
  have k : Kept (· = s) w (w.setCell ⟨s, 2, none⟩ (.int .i64 m)) := (Kept.refl (· = s) w).setIn (p := ⟨s, 2, none⟩) rfl _
  exact ⟨h.box.set_ 2 (.int .i64 m), h.own.kept k (fun x hx e => (h.ne_am x hx).1 e), h.set.kept k h.ne_g (fun x hx e => (h.ne_v x hx).1 e), h.tidy, h.fg, h.fs, h.fa, h.fv, fun x hx => Nat.lt_of_lt_of_le (h.lt x hx) k.size⟩
/-- Its bytes have grown. -/
theorem SnX.wrote {A2 : Option Addr} {n2 c2 : Nat} {b2 : List Int} (h : SnX F w s A c gs v l una nx ed buf told done) (k : Kept (fun y => (Value.slice A buf.length c).ownBlock = some y) w w1) (hn : n2 = b2.length) (ho : Own layB 5 w1 0 (.slice A2 n2 c2) b2) (hv : (Value.slice A2 n2 c2).ownBlock = (Value.slice A buf.length c).ownBlock ∨ ∀ k, (Value.slice A2 n2 c2).ownBlock = some k → w.heap.size ≤ k) :
    SnX (Grew F w w1) (w1.setCell ⟨s, 4, none⟩ (.slice A2 n2 c2)) s A2 c2 gs v l una nx ed b2 told done := by
  subst hn
  have hbx := h.box.kept k (fun e => (h.ne_am s e).1 rfl)
  have hs1 : SetA 0 w1 gs v l := h.set.kept k (fun e => (h.ne_am gs e).2.1 rfl) (fun x hx e => (h.ne_am x e).2.2 hx)
  have k2 : Kept (· = s) w1 (w1.setCell ⟨s, 4, none⟩ (.slice A2 b2.length c2)) := (Kept.refl (· = s) w1).setIn (p := ⟨s, 4, none⟩) rfl _
  refine ⟨hbx.set_ 4 _, ho.kept k2 (fun y hy e => ho.ne_blk hy hbx (by decide) e), hs1.kept k2 h.ne_g (fun x hx e => (h.ne_v x hx).1 e), h.tidy, .inl h.fg, .inl h.fs, fun y hy => ?_, fun y hy => .inl (h.fv y hy), fun y hy => ?_⟩
  · rcases hv with h1 | h1
    · exact .inl (h.fa y (h1 ▸ hy))
    · exact .inr ⟨h1 y hy, (ho.lt y hy).2⟩
  · refine Nat.lt_of_lt_of_le ?_ k2.size
    rcases hy with h1 | h1
    · exact Nat.lt_of_lt_of_le (h.lt y h1) k.size
    · exact h1.2
end
set_option maxHeartbeats 1000000 in
set_option maxRecDepth 20000 in
theorem snew_any (w : World) : Calls Try.prog 50 #[] w fun r w' => ∃ s gs v l, r = .returned (.pointer (some ⟨s, 0, none⟩)) ∧ (∀ m, inB l m = false) ∧ SnX (fun x => w.heap.size ≤ x ∧ x < w'.heap.size) w' s none 0 gs v l 1 1 33 [] false false ∧ Fine w w' := by
  have hN := Lib.hid (new_any none 0 0 [] rfl (by omega) (fun r hr => by cases hr) w (Own.nil_ layR 32 w 0).rs.1)
  go_enter Try.func50, Try.ntmps50
  go_wp2_with fail
  refine hN.out.mono ?_
  rintro r w1 ⟨gs, v, l, rfl, hgs, hT, hin, hS, f1⟩
  obtain ⟨s, hs⟩ : ∃ s, w1.heap.size = s := ⟨_, rfl⟩
  have b1 := Blk.newAt (w := w1) (t := 114) (cs := #[.pointer (some ⟨gs, 0, none⟩), .int .i64 1, .int .i64 1, .int .i64 33, .slice none 0 0, .bool false, .bool false]) hs.symm
  have f2 := (Fine.refl w1).alloc (.cells #[.pointer (some ⟨gs, 0, none⟩), .int .i64 1, .int .i64 1, .int .i64 33, .slice none 0 0, .bool false, .bool false] 114)
  have X := Lib.hid (And.intro (fun m => by rw [hin m]; rfl : ∀ m, inB l m = false) (And.intro (SnX.mk (F := fun x => w.heap.size ≤ x ∧ x < (w1.alloc (.cells #[.pointer (some ⟨gs, 0, none⟩), .int .i64 1, .int .i64 1, .int .i64 33, .slice none 0 0, .bool false, .bool false] 114)).heap.size) (buf := []) b1 (Own.nil_ _ _ _ _) (hS.lower.fine f2) hT ⟨by rw [← hs]; exact f1.size, b1.lt⟩ ⟨hgs, Nat.lt_of_lt_of_le hS.lt f2.size⟩ (fun x hx => by cases hx) (fun x hx => by have := hS.own x hx; exact ⟨this.1, Nat.lt_of_lt_of_le this.2 f2.size⟩) (fun x hx => hx.2)) (f1.trans f2)))
  clear b1 f2 hS hin hT hN f1 hgs
  go_wp2_with fail
  go_ret
  exact ⟨s, gs, v, l, rfl, X.out⟩
end Go.Proofs.Ytnigfdldfmiaiaa
namespace Go.Proofs.Ytnigfdldfmiaiaa
set_option linter.unusedVariables false
set_option linter.unusedSimpArgs false
open Go.ChangeShapes Go.WideShapes Go.ChangeAt Go.RowKit Go.Maps
set_option linter.unusedVariables false
set_option linter.unusedSimpArgs false
section
variable {F : Nat → Prop} {s : Nat} {A : Option Addr} {c gs : Nat} {v : Value} {l : List Rn} {una nx ed : Int} {buf : List Int} {told done : Bool}
/-- What Write answers where there is room, and the end wasn't told. -/
def WriteOf (F : Nat → Prop) (s gs : Nat) (v : Value) (l : List Rn) (una nx ed : Int) (buf : List Int) (done : Bool) (bs : List Int) (w : World) (r : Ending) (w' : World) : Prop :=
  ∃ F' A' c', r = .returned (.tuple #[.int .i64 ((min bs.length (64 - buf.length) : Nat) : Int), .int .i64 0]) ∧ SnX F' w' s A' c' gs v l una nx ed (buf ++ bs.take (64 - buf.length)) false done ∧ Kept F w w' ∧ ∀ y, F' y → F y ∨ w.heap.size ≤ y
set_option maxHeartbeats 2000000 in
set_option maxRecDepth 20000 in
theorem swrite_any (n cb : Nat) (Ab : Option Addr) (bs : List Int) (hn : bs.length = n) (hnb : n ≤ 100000) (hb64 : buf.length < 64) (w : World) (hrs : RS layB w Ab cb bs) (h : SnX F w s A c gs v l una nx ed buf false done) :
    Calls Try.prog 51 #[.pointer (some ⟨s, 0, none⟩), .slice Ab n cb] w (WriteOf F s gs v l una nx ed buf done bs w) := by
  obtain ⟨nb, hnbf⟩ : ∃ z, buf.length = z := ⟨_, rfl⟩
  obtain ⟨rm, hrm⟩ : ∃ z, 64 - nb = z := ⟨_, rfl⟩
  obtain ⟨k, hk⟩ : ∃ k : Nat, (if rm < n then (rm : Int) else (n : Int)) = (k : Int) := ⟨if rm < n then rm else n, by split <;> rfl⟩
  have hk2 : k = min n rm := by split at hk <;> omega
  have hkn : k ≤ n := by omega
  have c4 : w.cell? ⟨s, 4, none⟩ = some (.slice A nb c) := by have := h.box.cell 4; rw [hnbf] at this; exact this
  have c5 : w.cell? ⟨s, 5, none⟩ = some (.bool false) := h.box.cell 5
  have e1 : IntKind.i64.wrap (64 - (nb : Int)) = (rm : Int) := by rw [show (64 : Int) - (nb : Int) = (rm : Int) by omega]; exact IntWalk.i64_in _ (by omega)
  have g1 : ¬ (nb : Int) ≥ 64 := by omega
  have g2 : decide (64 ≤ (nb : Int)) = false := decide_eq_false g1
  have q1 := hrs.run_front sliceB k (by rw [hn]; exact hkn)
  rw [hn] at q1
  have htk : (bs.take k).length = k := by rw [List.length_take, hn]; omega
  have HRF : Hid (RS layB w.drew Ab cb (bs.take k)) := Lib.hid ((hrs.front k (by rw [hn]; exact hkn)).fine (Fine.refl w).drew)
  have HO : Hid (Own layB 5 w.drew 0 (.slice A nb c) buf) := Lib.hid (by have := h.own.fine (Fine.refl w).drew; rw [hnbf] at this; exact this)
  have HTK := Lib.hid htk
  have H := Lib.hid h; have HNB := Lib.hid hnbf; have HN := Lib.hid hn; have HK2 := Lib.hid hk2; have HRM := Lib.hid hrm
  have hnb64 : nb < 64 := by omega
  have HEL : Hid ((buf ++ bs.take k).length = nb + k) := Lib.hid (by rw [List.length_append, hnbf, htk])
  clear hrs h hnbf hn hk2 hrm htk hb64
  go_enter Try.func51, Try.ntmps51
  go_upto_region 8 with fail
  go_region_law (first | (refine step_appE rfl sliceB (.tmp 40) (.tmp 43) rfl 0 (.slice A nb c) buf rfl HO.out Ab k cb (bs.take k) rfl HTK.out.symm HRF.out (by rw [HTK.out, HNB.out]; omega) (by rw [HTK.out, HNB.out]; unfold maxLen; omega) (Nat.zero_le _) ?_; intro x2 wB oB kB0 gB0 bB; obtain ⟨A3, c3, hx2, _, _⟩ := oB.form; rw [HEL.out] at hx2; subst hx2; have KB : Kept (fun q => (Value.slice A nb c).ownBlock = some q) w.drew wB := Kept.grown (Kept.refl _ _) gB0 (fun k hk _ => hk); have BA := H.out.box.fine (Fine.refl w).drew; have BB := BA.kept KB (fun e => HO.out.ne_blk e BA (by decide) rfl); have yB0 := BB.cell 4; have yB1 := BB.frozen 4))
  all_goals
    have XD := H.out.fine (Fine.refl w).drew
    have KB' : Kept (fun q => (Value.slice A buf.length c).ownBlock = some q) w.drew wB := by rw [HNB.out]; exact KB
    have J9 := Lib.hid (XD.wrote (n2 := nb + k) KB' HEL.out.symm oB (by
      rw [HNB.out]
      exact bB.imp id (fun h y hy => by have h2 := h.symm.trans hy; injection h2 with h2; omega)))
    have K9 : Hid (Kept F w (wB.setCell ⟨s, 4, none⟩ (.slice A3 (nb + k) c3))) := Lib.hid ((((Kept.refl F w).drew).trans (KB'.mono (fun y _ e => H.out.fa y e))).setIn (p := ⟨s, 4, none⟩) H.out.fg _)
    have E9 : Hid (bs.take (64 - buf.length) = bs.take k) := Lib.hid (by
      rw [HNB.out, HRM.out, HK2.out, ← HN.out, List.take_eq_take_iff]
      omega)
    have E8 : Hid (((min bs.length (64 - buf.length) : Nat) : Int) = (k : Int)) := Lib.hid (by rw [HNB.out, HN.out, HRM.out, HK2.out])
    clear XD KB' oB bB gB0 kB0 KB BA BB yB0 yB1
    go_wp2_with fail
    refine bodyPost_ret (v := .tuple #[.int .i64 (k : Int), .int .i64 0]) (by simp [results, Try.results51, go_sem]) rfl ⟨_, A3, c3, by rw [E8.out], by rw [E9.out]; exact J9.out, K9.out, fun y hy => ?_⟩
    rcases hy with h | h
    · exact .inl h
    · exact .inr h.1
set_option maxHeartbeats 1000000 in
set_option maxRecDepth 20000 in
theorem slast_any (w : World) (hb : 0 ≤ una ∧ una ≤ 1099511627776 ∧ buf.length ≤ 64) (h : SnX F w s A c gs v l una nx ed buf told done) : Calls Try.prog 84 #[.pointer (some ⟨s, 0, none⟩)] w fun r w' => r = .returned (.int .i64 (una + buf.length)) ∧ Fine w w' := by
  have c1 : w.cell? ⟨s, 1, none⟩ = some (.int .i64 una) := h.box.cell 1
  have c4 : w.cell? ⟨s, 4, none⟩ = some (.slice A buf.length c) := h.box.cell 4
  obtain ⟨nb, hnb⟩ : ∃ z, buf.length = z := ⟨_, rfl⟩
  rw [hnb] at c4 hb ⊢
  have e1 : IntKind.i64.wrap (una + (nb : Int)) = una + (nb : Int) := IntWalk.i64_in _ (by omega)
  clear h hnb hb
  go_enter Try.func84, Try.ntmps84
  go_upto_region 1 with fail
  go_quiet (fail)
  go_wp2_with fail
  go_ret
  exact ⟨rfl, (Fine.refl w).drewN _⟩
end
end Go.Proofs.Ytnigfdldfmiaiaa
namespace Go.Proofs.Ytnigfdldfmiaiaa
set_option linter.unusedVariables false
set_option linter.unusedSimpArgs false
open Go.ChangeShapes Go.WideShapes Go.ChangeAt Go.RowKit Go.Maps
set_option linter.unusedVariables false
set_option linter.unusedSimpArgs false
section
variable {F : Nat → Prop} {s : Nat} {A : Option Addr} {c gs : Nat} {v : Value} {l : List Rn} {una nx ed : Int} {buf : List Int} {told done : Bool}
set_option maxHeartbeats 2000000 in
set_option maxRecDepth 20000 in
theorem sdata_any (o k : Nat) (d : Int) (hd : d = una + o) (hok : o + k ≤ buf.length) (hb : 0 ≤ una ∧ una ≤ 1099511627776 ∧ buf.length ≤ 64) (w : World) (h : SnX F w s A c gs v l una nx ed buf told done) :
    Calls Try.prog 83 #[.pointer (some ⟨s, 0, none⟩), .int .i64 d, .int .i64 (k : Int)] w fun r w' => ∃ A' c', r = .returned (.slice A' k c') ∧ Own layB 5 w' w.heap.size (.slice A' k c') ((buf.drop o).take k) ∧ Fine w w' := by
  obtain ⟨nb, hnb⟩ : ∃ z, buf.length = z := ⟨_, rfl⟩
  have c1 : ∀ p : FineBy w, p.W.cell? ⟨s, 1, none⟩ = some (.int .i64 una) := fun p => (h.box.fine p.h).cell 1
  have c4 : ∀ p : FineBy w, p.W.cell? ⟨s, 4, none⟩ = some (.slice A nb c) := fun p => by have := (h.box.fine p.h).cell 4; rw [hnb] at this; exact this
  obtain ⟨o2, ho2⟩ : ∃ z : Nat, o + k = z := ⟨_, rfl⟩
  have e1 : IntKind.i64.wrap (d - una) = (o : Int) := by rw [show d - una = (o : Int) by omega]; exact IntWalk.i64_in _ (by omega)
  have e2 : IntKind.i64.wrap ((o : Int) + (k : Int)) = (o2 : Int) := by rw [show (o : Int) + (k : Int) = (o2 : Int) by omega]; exact IntWalk.i64_in _ (by omega)
  have hcap : nb ≤ c := by have := h.own.rs.1.1; rw [hnb] at this; exact this
  obtain ⟨A2, q1, q2, _⟩ := run_mid2 (P := Try.prog) (E := layB) sliceB A nb c o o2 (by omega) (by omega) hcap
  have hlen : Hid (((buf.drop o).take k).length = k) := Lib.hid (by rw [List.length_take, List.length_drop]; omega)
  have hko : o2 - o = k := by omega
  rw [hko] at q1 q2
  have HRS : Hid (∀ w', Fine w w' → RS layB w' A2 (c - o) ((buf.drop o).take k)) := Lib.hid (fun w' f => q2 w' buf hnb (h.own.fine f).rs.1)
  have hk64 : k ≤ 64 := by omega
  clear h hd hok hb hnb ho2 hcap q2 hko
  go_enter Try.func83, Try.ntmps83
  go_upto_region 1 with fail
  refine wp_region_quiet_fine_tail 19 (by kernel_rfl) (by kernel_rfl) ?_
  simp only [List.take_succ_cons, List.take_zero, List.drop_succ_cons, List.drop_zero]
  repeat (quiet_step (fail))
  refine wpQuiet_nil ?_
  intro wf hwf'
  have hwf := Lib.hid (FineBy.of hwf')
  clear hwf' c1 c4
  go_wp2_with fail
  refine (cloneB_any A2 k (c - o) ((buf.drop o).take k) hlen.out.symm (by rw [hlen.out]; omega) wf (HRS.out wf hwf.out)).mono ?_
  rintro r w2 ⟨v2, rfl, o2', f2⟩
  obtain ⟨A3, c3, rfl, _, _⟩ := o2'.form
  have O2 : Hid (Own layB 5 w2 w.heap.size (.slice A3 k c3) ((buf.drop o).take k)) := Lib.hid (by
    have := o2'.lower hwf.out.size
    rw [hlen.out] at this
    exact this)
  rw [hlen.out]
  have F2 := Lib.hid (hwf.out.trans f2)
  clear o2' f2
  go_wp2_with fail
  go_ret
  exact ⟨A3, c3, rfl, O2.out, F2.out⟩
set_option maxHeartbeats 2000000 in
set_option maxRecDepth 20000 in
theorem stake_some (most : Int) (o n : Nat) (hnx : nx = una + o) (hn : (n : Int) = min (min (una + buf.length - nx) (ed - nx)) (min (max most 1) 8)) (hn0 : 0 < n) (hb : 0 ≤ una ∧ una ≤ 1099511627776 ∧ buf.length ≤ 64) (hed : 0 ≤ ed ∧ ed ≤ 1099511627776) (w : World) (h : SnX F w s A c gs v [] una nx ed buf told done) :
    Calls Try.prog 52 #[.pointer (some ⟨s, 0, none⟩), .int .i64 most] w fun r w' => ∃ A' c', r = .returned (.tuple #[.int .i64 nx, .slice A' n c']) ∧ Own layB 5 w' w.heap.size (.slice A' n c') ((buf.drop o).take n) ∧ SnX F w' s A c gs v [] una (nx + n) ed buf told done ∧ Kept F w w' := by
  obtain ⟨m1, hm1⟩ : ∃ z, (if most < 1 then 1 else most) = z := ⟨_, rfl⟩
  obtain ⟨m2, hm2⟩ : ∃ z, (if 8 < m1 then 8 else m1) = z := ⟨_, rfl⟩
  have hm3 : m2 = min (max most 1) 8 := by rw [← hm2, ← hm1]; simp only [Int.min_def, Int.max_def]; split <;> split <;> split <;> split <;> omega
  obtain ⟨la, hla⟩ : ∃ z, una + (buf.length : Int) = z := ⟨_, rfl⟩
  obtain ⟨a, ha⟩ : ∃ z, la - nx = z := ⟨_, rfl⟩
  obtain ⟨b, hb'⟩ : ∃ z, ed - nx = z := ⟨_, rfl⟩
  rw [← hm3, hla, ha, hb'] at hn
  obtain ⟨t, ht⟩ : ∃ z, (if b < a then b else a) = z := ⟨_, rfl⟩
  have ht2 : (if m2 < t then m2 else t) = (n : Int) := by rw [hn, ← ht]; simp only [Int.min_def]; split <;> split <;> split <;> omega
  have hon : o + n ≤ buf.length := by omega
  have e1 : IntKind.i64.wrap (la - nx) = a := by rw [ha]; exact IntWalk.i64_in _ (by omega)
  have e2 : IntKind.i64.wrap (ed - nx) = b := by rw [hb']; exact IntWalk.i64_in _ (by omega)
  have e3 : IntKind.i64.wrap (nx + (n : Int)) = nx + (n : Int) := IntWalk.i64_in _ (by omega)
  have g0 : ¬ (n : Int) ≤ 0 := by omega
  have H := Lib.hid h; have HNX := Lib.hid hnx; have HON := Lib.hid hon; have HB := Lib.hid hb
  have c0 : w.cell? ⟨s, 0, none⟩ = some (.pointer (some ⟨gs, 0, none⟩)) := h.box.cell 0
  have HLA : Hid (∀ w', Fine w w' → Calls Try.prog 84 #[.pointer (some ⟨s, 0, none⟩)] w' fun r w'' => r = .returned (.int .i64 la) ∧ Fine w' w'') := Lib.hid (fun w' f => by have := slast_any w' hb (h.fine f); rw [hla] at this; exact this)
  clear h hnx hon hb hm3 hn hla ha hb' hn0
  go_enter Try.func52, Try.ntmps52
  go_wp2_with fail
  refine (runs_any gs [] (by simp) w H.out.set.set).mono ?_
  rintro r w1 ⟨v1, rfl, o1, f1⟩
  obtain ⟨A1, c1, rfl, _, _⟩ := o1.form
  have F1 := Lib.hid f1
  clear o1 f1 c0
  go_upto_region 9 with fail
  have q2 : ∀ p : FineBy w1, p.W.cell? ⟨s, 2, none⟩ = some (.int .i64 nx) := fun p => ((H.out.box.fine F1.out).fine p.h).cell 2
  have q3 : ∀ p : FineBy w1, p.W.cell? ⟨s, 3, none⟩ = some (.int .i64 ed) := fun p => ((H.out.box.fine F1.out).fine p.h).cell 3
  have QLA : Hid (∀ p : FineBy w1, Calls Try.prog 84 #[.pointer (some ⟨s, 0, none⟩)] p.W fun r w'' => r = .returned (.int .i64 la) ∧ Fine p.W w'') := Lib.hid (fun p => HLA.out p.W (F1.out.trans p.h))
  refine wp_region_quiet_fine (by kernel_rfl) (by kernel_rfl) ?_
  repeat (quiet_step (exact Calls.fine_of (QLA.out _)))
  refine wpQuiet_nil ?_
  intro wf hwf'
  have F2 := Lib.hid (F1.out.trans (FineBy.of hwf'))
  clear hwf' q2 q3 QLA HLA
  have X2 := Lib.hid (H.out.fine F2.out)
  have c2 : wf.cell? ⟨s, 2, none⟩ = some (.int .i64 nx) := X2.out.box.cell 2
  have z2 := X2.out.box.frozen 2
  go_upto_region 14 with fail
  have X3 := Lib.hid (X2.out.setNx (nx + (n : Int)))
  have K3 : Hid (Kept F w (wf.setCell ⟨s, 2, none⟩ (.int .i64 (nx + (n : Int))))) := Lib.hid ((Kept.of_fine F2.out).setIn (p := ⟨s, 2, none⟩) H.out.fg _)
  have sz3 := K3.out.size
  generalize wf.setCell ⟨s, 2, none⟩ (.int .i64 (nx + (n : Int))) = w3 at X3 K3 sz3 ⊢
  clear c2 z2
  go_wp2_with fail
  refine (sdata_any o n nx HNX.out HON.out HB.out w3 X3.out).mono ?_
  rintro r w4 ⟨A4, c4, rfl, o4, f4⟩
  have R := Lib.hid (And.intro (o4.lower sz3) (And.intro (X3.out.fine f4) (K3.out.trans (Kept.of_fine f4))))
  clear o4 f4
  go_wp2_with fail
  exact bodyPost_ret (v := .tuple #[.int .i64 nx, .slice A4 n c4]) (by simp [results, Try.results52, go_sem]) rfl ⟨A4, c4, rfl, R.out⟩
end
end Go.Proofs.Ytnigfdldfmiaiaa
namespace Go.Proofs.Ytnigfdldfmiaiaa
set_option linter.unusedVariables false
set_option linter.unusedSimpArgs false
open Go.ChangeShapes Go.WideShapes Go.ChangeAt Go.RowKit Go.Maps
set_option linter.unusedVariables false
set_option linter.unusedSimpArgs false
theorem tidy_void {l : List Rn} (hT : Tidy l) (h : ∀ m, inB l m = false) : l = [] := Tidy.uniq hT Tidy.nil (fun n => by rw [h n]; rfl)
theorem cells_bytes {w : World} {A : Option Addr} {c n : Nat} {xs : List Int} (hn : xs.length = n) (h0 : 0 < n) (h : RS layB w A c xs) : ∃ b off, A = some ⟨b, off, none⟩ ∧ ∀ i, i < n → w.cell? ⟨b, off + i, none⟩ = some (.int .u8 (xs.getD i 0)) := by
  obtain ⟨b, off, rfl, _, _⟩ := h.atI (i := 0) (by omega)
  refine ⟨b, off, rfl, fun i hi => ?_⟩
  obtain ⟨b', off', e, _, hc⟩ := h.atI (i := i) (by omega)
  injection e with e
  injection e with e1 e2 _
  subst e1 e2
  exact hc
set_option maxHeartbeats 2000000 in
set_option maxRecDepth 20000 in
theorem dsendWakes_any (w : World) : Calls Try.prog 49 #[] w fun x w' => x = .returned (.bool true) ∧ Fine w w' := by
  have kc := fun (w : World) (C : Array Value) (n c : Nat) => Lib.run_convert_bytes_const (P := Try.prog) w 46 5 C n c Try.underlying46 Try.underlying5
  go_enter Try.func49, Try.ntmps49
  go_wp2_with fail
  refine (snew_any w).mono ?_
  rintro r w1 ⟨s, gs, v, l, rfl, hl, h1, f1⟩
  have hl0 := tidy_void h1.tidy hl
  subst hl0
  have H1 := Lib.hid h1; have F1 := Lib.hid f1
  clear h1 f1 hl
  go_wp2_with fail
  refine (swrite_any 3 3 (some ⟨w1.heap.size, 0, none⟩) [97, 98, 99] rfl (by omega) (by simp) _ (RS.constB w1 _ _ _ [97, 98, 99] 3 rfl rfl (by simp; unfold maxLen; omega)) (H1.out.fine ((Fine.refl w1).alloc _))).mono ?_
  rintro r w2 ⟨F2, A2, c2, rfl, h2, k2, hF2⟩
  have f2 : Fine w w2 := (F1.out.alloc _).kept k2 (fun x hx hf => by have := hf.1; omega)
  have hB2 : ∀ x, F2 x → w.heap.size ≤ x := fun x hx => by
    rcases hF2 x hx with h | h
    · exact h.1
    · have := (F1.out.alloc (.cells #[.int .u8 97, .int .u8 98, .int .u8 99] 5 (3, 4))).size
      exact Nat.le_trans this h
  have H2 := Lib.hid (show SnX F2 w2 s A2 c2 gs v [] 1 1 33 [97, 98, 99] false false from h2); have HB2 := Lib.hid hB2; have FW2 := Lib.hid f2
  rw [show ((min [(97 : Int), 98, 99].length (64 - ([] : List Int).length) : Nat) : Int) = 3 by decide]
  clear h2 k2 hF2 f2 hB2
  go_wp2_with fail
  refine (stake_some 2 0 2 (by simp) (by decide) (by omega) (by simp) (by omega) w2 H2.out).mono ?_
  rintro r w3 ⟨A3, c3, rfl, o3, h3, k3⟩
  have H3 := Lib.hid h3
  have FW3 : Hid (Fine w w3) := Lib.hid (FW2.out.kept k3 (fun x hx hf => by have := HB2.out x hf; omega))
  have O3 := Lib.hid o3.rs.1
  have O3f : Hid (∀ b o, A3 = some ⟨b, o, none⟩ → ¬ F2 b) := Lib.hid (fun b o e hf => by have := (o3.from_ b o e).1; have := H2.out.lt b hf; omega)
  clear h3 k3 o3
  go_wp2_with fail
  refine (stake_some 2 2 1 (by simp) (by decide) (by omega) (by simp) (by omega) w3 H3.out).mono ?_
  rintro r w4 ⟨A4, c4, rfl, o4, h4, k4⟩
  have FW4 : Hid (Fine w w4) := Lib.hid (FW3.out.kept k4 (fun x hx hf => by have := HB2.out x hf; omega))
  have O4 := o4.rs.1
  have O34 := O3.out.kept k4 O3f.out
  obtain ⟨b4, f4, rfl, hc4⟩ := cells_bytes (n := 1) (xs := [99]) rfl (by omega) O4
  obtain ⟨b3, f3, rfl, hc3⟩ := cells_bytes (n := 2) (xs := [97, 98]) rfl (by omega) O34
  have hconv4 := run_convert_bytes_arg (P := Try.prog) w4 46 5 Try.underlying46 Try.underlying5 b4 f4 1 c4 [99] rfl hc4 9 Try.underlying9
  have hconv3 := run_convert_bytes_arg (P := Try.prog) w4 46 5 Try.underlying46 Try.underlying5 b3 f3 2 c3 [97, 98] rfl hc3 9 Try.underlying9
  rw [show strOfNums [99] = ⟨#[99]⟩ from rfl] at hconv4
  rw [show strOfNums [97, 98] = ⟨#[97, 98]⟩ from rfl] at hconv3
  clear hc4 hc3 O4 O34 o4 h4 k4 kc O3 O3f H3
  go_wp2_with fail
  go_ret
  exact ⟨rfl, FW4.out⟩
set_option maxHeartbeats 2000000 in
set_option maxRecDepth 20000 in
theorem lawDsendNil (w : World) (A : Option Addr) (len cap : Nat) (zs : List Int) (hz : IntsIn .u8 w A len cap zs) (a : Int) (wa : (Lit.int .i64 a).wf = true) :
    Calls Try.prog 17 #[.slice A len cap, .int .i64 a] w fun e w' => e = .returned (.bool true) ∧ Below w.heap.size w w' := by
  show Calls _ _ _ _ fun e w' => e = .returned (.bool true) ∧ Fine w w'
  clear hz wa
  go_enter Try.func17, Try.ntmps17
  go_wp2_with fail
  refine (dsendWakes_any w).mono ?_
  rintro r w1 ⟨rfl, f1⟩
  have F1 := Lib.hid f1
  clear f1
  go_wp2_with fail
  refine (write_nil _ w1).mono ?_
  rintro r w2 ⟨rfl, f2⟩
  have F2 := Lib.hid (F1.out.trans f2)
  clear f2
  go_wp2_with fail
  refine (take_nil a w2).mono ?_
  rintro r w3 ⟨rfl, f3⟩
  have F3 := Lib.hid (F2.out.trans f3)
  clear f3
  go_wp2_with fail
  refine (sack_nil a a w3).mono ?_
  rintro r w4 ⟨rfl, f4⟩
  have F4 := Lib.hid (F3.out.trans f4)
  clear f4
  go_wp2_with fail
  refine (due_nil w4).mono ?_
  rintro r w5 ⟨rfl, f5⟩
  have F5 := Lib.hid (F4.out.trans f5)
  clear f5
  go_wp2_with fail
  refine (send_nil w5).mono ?_
  rintro r w6 ⟨rfl, f6⟩
  have F6 := Lib.hid (F5.out.trans f6)
  clear f6
  go_wp2_with fail
  refine (lost_nil a a w6).mono ?_
  rintro r w7 ⟨rfl, f7⟩
  have F7 := Lib.hid (F6.out.trans f7)
  clear f7
  go_wp2_with fail
  refine (una_nil w7).mono ?_
  rintro r w8 ⟨rfl, f8⟩
  have F8 := Lib.hid (F7.out.trans f8)
  clear f8
  go_wp2_with fail
  refine (snext_nil w8).mono ?_
  rintro r w9 ⟨rfl, f9⟩
  have F9 := Lib.hid (F8.out.trans f9)
  clear f9
  go_wp2_with fail
  refine (sedge_nil w9).mono ?_
  rintro r w10 ⟨rfl, f10⟩
  have F10 := Lib.hid (F9.out.trans f10)
  clear f10
  go_wp2_with fail
  refine (sheld_nil w10).mono ?_
  rintro r w11 ⟨rfl, f11⟩
  have F11 := Lib.hid (F10.out.trans f11)
  clear f11
  go_wp2_with fail
  refine (done_nil w11).mono ?_
  rintro r w12 ⟨rfl, f12⟩
  have F12 := Lib.hid (F11.out.trans f12)
  clear f12
  go_wp2_with fail
  go_ret
  exact ⟨rfl, F12.out⟩
end Go.Proofs.Ytnigfdldfmiaiaa
namespace Go.Proofs.Ytnigfdldfmiaiaa
set_option linter.unusedVariables false
set_option linter.unusedSimpArgs false
open Go.ChangeShapes Go.WideShapes Go.ChangeAt Go.RowKit Go.Maps
set_option linter.unusedVariables false
set_option linter.unusedSimpArgs false
/-- What is lost newly. -/
def lostB (una nx dsn long : Int) (m : Int) : Bool := (decide (una ≤ m) && decide (m < nx)) && (decide (dsn ≤ m) && decide (m < dsn + long))
theorem held_lost {f b : Int} (h0 : 0 ≤ f) (h1 : f + b ≤ 4294967296) (m : Int) : hasR (heldR f b) m = (decide (f ≤ m) && decide (m < f + b)) := by
  unfold heldR
  rw [if_neg (by omega)]
  by_cases hb : b ≤ 0
  · rw [if_pos (.inl hb)]
    unfold hasR rto
    rw [Bool.eq_iff_iff]
    simp
    omega
  · by_cases hf : 4294967296 ≤ f
    · omega
    · rw [if_neg (by omega), Int.min_eq_left (by omega)]
      unfold hasR rto
      rfl
section
variable {F : Nat → Prop} {w w' w1 : World} {s : Nat} {A : Option Addr} {c gs : Nat} {v : Value} {l : List Rn} {una nx ed : Int} {buf : List Int} {told done : Bool}
/-- Its set has turned. -/
theorem SnX.came {v' : Value} {l' : List Rn} (h : SnX F w s A c gs v l una nx ed buf told done) (k : Kept (fun x => x = gs ∨ v.ownBlock = some x) w w') (hs : SetA 0 w' gs v' l') (hT : Tidy l') (hv : v'.ownBlock = v.ownBlock ∨ ∀ k, v'.ownBlock = some k → w.heap.size ≤ k) :
    SnX (Grew F w w') w' s A c gs v' l' una nx ed buf told done := by
  refine ⟨h.box.kept k (fun e => e.elim (fun e => h.ne_g e.symm) (fun e => (h.ne_v _ e).1 rfl)), h.own.kept k (fun x hx e => e.elim (fun e => (h.ne_am x hx).2.1 e) (fun e => (h.ne_am x hx).2.2 e)), hs, hT, .inl h.fg, .inl h.fs, fun x hx => .inl (h.fa x hx), fun x hx => ?_, fun x hx => ?_⟩
  · rcases hv with h1 | h1
    · exact .inl (h.fv x (h1 ▸ hx))
    · exact .inr ⟨h1 x hx, (hs.own x hx).2⟩
  · rcases hx with h1 | h1
    · exact Nat.lt_of_lt_of_le (h.lt x h1) k.size
    · exact h1.2
/-- What Lost answers. -/
def SLostOf (F : Nat → Prop) (s : Nat) (A : Option Addr) (c gs : Nat) (l : List Rn) (una nx ed : Int) (buf : List Int) (told done : Bool) (dsn long : Int) (w : World) (r : Ending) (w' : World) : Prop :=
  ∃ F' v' l', r = .returned (.int .i64 (total l' - total l)) ∧ (∀ m, inB l' m = (inB l m || lostB una nx dsn long m)) ∧ SnX F' w' s A c gs v' l' una nx ed buf told done ∧ Kept F w w' ∧ ∀ y, F' y → F y ∨ w.heap.size ≤ y
set_option maxHeartbeats 4000000 in
set_option maxRecDepth 20000 in
theorem slost_any (dsn long : Int) (hd : -1099511627776 ≤ dsn ∧ dsn ≤ 1099511627776) (hl : -1099511627776 ≤ long ∧ long ≤ 1099511627776) (hb : 0 ≤ una ∧ una ≤ nx ∧ nx ≤ 4294967296) (w : World) (h : SnX F w s A c gs v l una nx ed buf told done) :
    Calls Try.prog 55 #[.pointer (some ⟨s, 0, none⟩), .int .i64 dsn, .int .i64 long] w (SLostOf F s A c gs l una nx ed buf told done dsn long w) := by
  have c0 : w.cell? ⟨s, 0, none⟩ = some (.pointer (some ⟨gs, 0, none⟩)) := h.box.cell 0
  have c1 : w.cell? ⟨s, 1, none⟩ = some (.int .i64 una) := h.box.cell 1
  have c2 : w.cell? ⟨s, 2, none⟩ = some (.int .i64 nx) := h.box.cell 2
  have H := Lib.hid h
  clear h
  have none_ : (∀ m, lostB una nx dsn long m = false) → SLostOf F s A c gs l una nx ed buf told done dsn long w (.returned (.int .i64 0)) w := fun hz =>
    ⟨F, v, l, by rw [Int.sub_self], fun m => by rw [hz m, Bool.or_false], H.out, Kept.refl _ _, fun y hy => .inl hy⟩
  have NONE := Lib.hid none_
  clear none_
  by_cases h1 : long ≤ 0
  · have HZ : Hid (∀ m, lostB una nx dsn long m = false) := Lib.hid (fun m => by unfold lostB; rw [Bool.eq_false_iff]; simp; omega)
    go_enter Try.func55, Try.ntmps55
    go_wp2_with fail
    go_ret
    exact NONE.out HZ.out
  · by_cases h2 : nx ≤ dsn
    · have HZ : Hid (∀ m, lostB una nx dsn long m = false) := Lib.hid (fun m => by unfold lostB; rw [Bool.eq_false_iff]; simp; omega)
      have h2' : dsn ≥ nx := h2
      go_enter Try.func55, Try.ntmps55
      go_wp2_with fail
      go_ret
      exact NONE.out HZ.out
    · have h2' : ¬ dsn ≥ nx := h2
      by_cases h3 : dsn < 0 ∨ long < nx
      · obtain ⟨e0, he0⟩ : ∃ z, dsn + long = z := ⟨_, rfl⟩
        obtain ⟨en, hen⟩ : ∃ z, (if e0 < nx then e0 else nx) = z := ⟨_, rfl⟩
        have e5 : IntKind.i64.wrap (dsn + long) = e0 := by rw [he0]; exact IntWalk.i64_in _ (by omega)
        have hen2 : en = min nx (dsn + long) := by rw [← hen, he0]; simp only [Int.min_def]; split <;> split <;> omega
        have HEN := Lib.hid hen2
        have henb : -2199023255552 ≤ en ∧ en ≤ 4294967296 := by omega
        clear hen2 he0
        by_cases h4 : dsn < 0
        · have h4' : decide (dsn < 0) = true := decide_eq_true h4
          clear h3
          by_cases hf : dsn < una
          · skip
            go_enter Try.func55, Try.ntmps55
            go_wp2_with fail
            refine (add_any 0 gs v l H.out.tidy _ _ (by omega) (by omega) w (Nat.zero_le _) H.out.set).mono ?_
            rintro r w2 ⟨v', l', rfl, hT, hm, hs, kk, hv⟩
            have X := H.out.came kk hs hT hv
            have K : Kept F w w2 := kk.mono (fun y _ e => e.elim (fun e => e ▸ H.out.fs) (fun e => H.out.fv y e))
            have M : ∀ m, inB l' m = (inB l m || lostB una nx dsn long m) := fun m => by
              rw [hm m, held_lost (by omega) (by omega)]
              congr 1
              unfold lostB
              rw [Bool.eq_iff_iff]
              have := HEN.out
              simp
              omega
            have R := Lib.hid (And.intro M (And.intro X (And.intro K (fun y hy => hy.imp id And.left : ∀ y, Grew F w w2 y → F y ∨ w.heap.size ≤ y))))
            clear X K hT hm hs kk hv M
            go_wp2_with fail
            go_ret
            exact ⟨_, v', l', rfl, R.out⟩
          · exfalso; omega
        · have h4' : decide (dsn < 0) = false := decide_eq_false h4
          have h5 : long < nx := h3.resolve_left h4
          clear h3
          by_cases hf : dsn < una
          · skip
            go_enter Try.func55, Try.ntmps55
            go_wp2_with fail
            refine (add_any 0 gs v l H.out.tidy _ _ (by omega) (by omega) w (Nat.zero_le _) H.out.set).mono ?_
            rintro r w2 ⟨v', l', rfl, hT, hm, hs, kk, hv⟩
            have X := H.out.came kk hs hT hv
            have K : Kept F w w2 := kk.mono (fun y _ e => e.elim (fun e => e ▸ H.out.fs) (fun e => H.out.fv y e))
            have M : ∀ m, inB l' m = (inB l m || lostB una nx dsn long m) := fun m => by
              rw [hm m, held_lost (by omega) (by omega)]
              congr 1
              unfold lostB
              rw [Bool.eq_iff_iff]
              have := HEN.out
              simp
              omega
            have R := Lib.hid (And.intro M (And.intro X (And.intro K (fun y hy => hy.imp id And.left : ∀ y, Grew F w w2 y → F y ∨ w.heap.size ≤ y))))
            clear X K hT hm hs kk hv M
            go_wp2_with fail
            go_ret
            exact ⟨_, v', l', rfl, R.out⟩
          · skip
            go_enter Try.func55, Try.ntmps55
            go_wp2_with fail
            refine (add_any 0 gs v l H.out.tidy _ _ (by omega) (by omega) w (Nat.zero_le _) H.out.set).mono ?_
            rintro r w2 ⟨v', l', rfl, hT, hm, hs, kk, hv⟩
            have X := H.out.came kk hs hT hv
            have K : Kept F w w2 := kk.mono (fun y _ e => e.elim (fun e => e ▸ H.out.fs) (fun e => H.out.fv y e))
            have M : ∀ m, inB l' m = (inB l m || lostB una nx dsn long m) := fun m => by
              rw [hm m, held_lost (by omega) (by omega)]
              congr 1
              unfold lostB
              rw [Bool.eq_iff_iff]
              have := HEN.out
              simp
              omega
            have R := Lib.hid (And.intro M (And.intro X (And.intro K (fun y hy => hy.imp id And.left : ∀ y, Grew F w w2 y → F y ∨ w.heap.size ≤ y))))
            clear X K hT hm hs kk hv M
            go_wp2_with fail
            go_ret
            exact ⟨_, v', l', rfl, R.out⟩
      · have h4 : ¬ dsn < 0 := fun e => h3 (.inl e)
        have h5 : ¬ long < nx := fun e => h3 (.inr e)
        have h4' : decide (dsn < 0) = false := decide_eq_false h4
        have HEN : Hid (nx = min nx (dsn + long)) := Lib.hid (by omega)
        clear h3
        by_cases hf : dsn < una
        · skip
          go_enter Try.func55, Try.ntmps55
          go_wp2_with fail
          refine (add_any 0 gs v l H.out.tidy _ _ (by omega) (by omega) w (Nat.zero_le _) H.out.set).mono ?_
          rintro r w2 ⟨v', l', rfl, hT, hm, hs, kk, hv⟩
          have X := H.out.came kk hs hT hv
          have K : Kept F w w2 := kk.mono (fun y _ e => e.elim (fun e => e ▸ H.out.fs) (fun e => H.out.fv y e))
          have M : ∀ m, inB l' m = (inB l m || lostB una nx dsn long m) := fun m => by
            rw [hm m, held_lost (by omega) (by omega)]
            congr 1
            unfold lostB
            rw [Bool.eq_iff_iff]
            have := HEN.out
            simp
            omega
          have R := Lib.hid (And.intro M (And.intro X (And.intro K (fun y hy => hy.imp id And.left : ∀ y, Grew F w w2 y → F y ∨ w.heap.size ≤ y))))
          clear X K hT hm hs kk hv M
          go_wp2_with fail
          go_ret
          exact ⟨_, v', l', rfl, R.out⟩
        · skip
          go_enter Try.func55, Try.ntmps55
          go_wp2_with fail
          refine (add_any 0 gs v l H.out.tidy _ _ (by omega) (by omega) w (Nat.zero_le _) H.out.set).mono ?_
          rintro r w2 ⟨v', l', rfl, hT, hm, hs, kk, hv⟩
          have X := H.out.came kk hs hT hv
          have K : Kept F w w2 := kk.mono (fun y _ e => e.elim (fun e => e ▸ H.out.fs) (fun e => H.out.fv y e))
          have M : ∀ m, inB l' m = (inB l m || lostB una nx dsn long m) := fun m => by
            rw [hm m, held_lost (by omega) (by omega)]
            congr 1
            unfold lostB
            rw [Bool.eq_iff_iff]
            have := HEN.out
            simp
            omega
          have R := Lib.hid (And.intro M (And.intro X (And.intro K (fun y hy => hy.imp id And.left : ∀ y, Grew F w w2 y → F y ∨ w.heap.size ≤ y))))
          clear X K hT hm hs kk hv M
          go_wp2_with fail
          go_ret
          exact ⟨_, v', l', rfl, R.out⟩
end
end Go.Proofs.Ytnigfdldfmiaiaa
namespace Go.Proofs.Ytnigfdldfmiaiaa
set_option linter.unusedVariables false
set_option linter.unusedSimpArgs false
open Go.ChangeShapes Go.WideShapes Go.ChangeAt Go.RowKit Go.Maps
set_option linter.unusedVariables false
set_option linter.unusedSimpArgs false
def keepR (f n : Int) (r : Rn) : Rn := if r.1 = f then (r.1 + n, r.2 - n) else r
section
variable {F : Nat → Prop} {w w' w1 : World} {s : Nat} {A : Option Addr} {c gs : Nat} {v : Value} {l : List Rn} {una nx ed : Int} {buf : List Int} {told done : Bool}
/-- Another set is its. -/
theorem SnX.newSet {gs2 n0 : Nat} {v2 : Value} {l2 : List Rn} (h : SnX F w s A c gs v l una nx ed buf told done) (h2 : SetA n0 w gs2 v2 l2) (hg : n0 ≤ gs2) (hT : Tidy l2) :
    SnX (fun y => F y ∨ (n0 ≤ y ∧ y < w.heap.size)) (w.setCell ⟨s, 0, none⟩ (.pointer (some ⟨gs2, 0, none⟩))) s A c gs2 v2 l2 una nx ed buf told done := by
  have k : Kept (· = s) w (w.setCell ⟨s, 0, none⟩ (.pointer (some ⟨gs2, 0, none⟩))) := (Kept.refl (· = s) w).setIn (p := ⟨s, 0, none⟩) rfl _
  refine ⟨h.box.set_ 0 (.pointer (some ⟨gs2, 0, none⟩)), h.own.kept k (fun x hx e => (h.ne_am x hx).1 e), (h2.kept k (fun e => (h2.blk.ne_ h.box (by decide)) e) (fun x hx e => h2.ow.ne_blk hx h.box (by decide) e)).lower, hT, .inl h.fg, .inr ⟨hg, h2.lt⟩, fun x hx => .inl (h.fa x hx), fun x hx => .inr (h2.own x hx), fun x hx => ?_⟩
  refine Nat.lt_of_lt_of_le ?_ k.size
  rcases hx with h1 | h1
  · exact h.lt x h1
  · exact h1.2
set_option maxHeartbeats 4000000 in
set_option maxRecDepth 20000 in
theorem skeep_any (f n : Int) (hf : 0 ≤ f ∧ f ≤ 4294967296) (hn : 0 ≤ n ∧ n ≤ 100) (hfn : ∀ r ∈ l, r.1 = f → n ≤ r.2) (w : World) (h : SnX F w s A c gs v l una nx ed buf told done) :
    Calls Try.prog 82 #[.pointer (some ⟨s, 0, none⟩), .int .i64 f, .int .i64 n] w fun r w' => r = .returned (.tuple #[]) ∧ ∃ F' g' v' l', SnX F' w' s A c g' v' l' una nx ed buf told done ∧ (∀ m, inB l' m = l.any (fun r => hasR (keepR f n r) m)) ∧ Kept F w w' ∧ ∀ y, F' y → F y ∨ w.heap.size ≤ y := by
  have c0 : w.cell? ⟨s, 0, none⟩ = some (.pointer (some ⟨gs, 0, none⟩)) := h.box.cell 0
  have hll := h.tidy.length_le
  have HRN := Lib.hid (runs_any gs l (by omega) w h.set.set)
  have H := Lib.hid h; have HFN := Lib.hid hfn
  obtain ⟨ll, hlen⟩ : ∃ z, l.length = z := ⟨_, rfl⟩
  have HLL := Lib.hid hlen
  have hllb : ll ≤ 8589934592 := by omega
  clear h hfn hll hlen
  go_enter Try.func82, Try.ntmps82
  go_wp2_with fail
  refine HRN.out.mono ?_
  rintro r w1 ⟨v1, rfl, o1, f1⟩
  obtain ⟨A1, c1, rfl, rs1, from1⟩ := o1.form
  rw [HLL.out]
  have X1 := Lib.hid (H.out.fine f1); have F1 := Lib.hid f1; have RS1 := Lib.hid rs1; have FR1 := Lib.hid from1
  have hlt1 : Hid (∀ b o, A1 = some ⟨b, o, none⟩ → b < w1.heap.size) := Lib.hid (fun b o e => (o1.from_ b o e).2)
  clear o1 rs1 from1 f1 c0
  have hN := Lib.hid (new_any none 0 0 [] rfl (by omega) (fun r hr => by cases hr) w1 (Own.nil_ layR 32 w1 0).rs.1)
  go_wp2_with fail
  refine hN.out.mono ?_
  rintro r w2 ⟨g2, v2, l2, rfl, hg2, hT2, hin2, hS2, f2⟩
  have X2 := Lib.hid ((X1.out.fine f2).newSet hS2 hg2 hT2)
  have z0 := (X1.out.box.fine f2).frozen 0
  have K2 : Hid (Kept F w (w2.setCell ⟨s, 0, none⟩ (.pointer (some ⟨g2, 0, none⟩)))) := Lib.hid ((Kept.of_fine (F1.out.trans f2)).setIn (p := ⟨s, 0, none⟩) H.out.fg _)
  have M2 : Hid (∀ m, inB l2 m = (l.take 0).any (fun r => hasR (keepR f n r) m)) := Lib.hid (fun m => by rw [hin2 m]; rfl)
  have d0 : w2.cell? ⟨s, 0, none⟩ = some (.pointer (some ⟨gs, 0, none⟩)) := (X1.out.box.fine f2).cell 0
  have Q2 : Hid (∀ y, (F y ∨ (w1.heap.size ≤ y ∧ y < w2.heap.size)) → F y ∨ w1.heap.size ≤ y) := Lib.hid (fun y hy => hy.imp id And.left)
  have S2 : Hid (w1.heap.size ≤ (w2.setCell ⟨s, 0, none⟩ (.pointer (some ⟨g2, 0, none⟩))).heap.size) := Lib.hid (Nat.le_trans f2.size ((Kept.refl (· = s) w2).setIn (p := ⟨s, 0, none⟩) rfl (.pointer (some ⟨g2, 0, none⟩))).size)
  have RS2 : Hid (RS layR (w2.setCell ⟨s, 0, none⟩ (.pointer (some ⟨g2, 0, none⟩))) A1 c1 l) := Lib.hid ((RS1.out.fine f2).kept (S := (· = s)) ((Kept.refl (· = s) w2).setIn (p := ⟨s, 0, none⟩) rfl _) (fun b o e e2 => by have := FR1.out b o e; have := H.out.lt s H.out.fg; have e2 : b = s := e2; omega))
  clear hg2 hT2 hin2 hS2 f2 hN
  go_upto_region 2 with fail
  generalize w2.setCell ⟨s, 0, none⟩ (.pointer (some ⟨g2, 0, none⟩)) = w3 at X2 K2 S2 RS2 ⊢
  clear d0 z0
  go_wp2_with fail
  go_loopw [22] (fun s22 wr => ∃ (i : Nat), i ≤ ll ∧ s22 = .int .i64 i ∧ Hid (∃ F2 g2 v2 l2, SnX F2 wr s A c g2 v2 l2 una nx ed buf told done ∧ Kept F w wr ∧ (∀ y, F2 y → F y ∨ w1.heap.size ≤ y) ∧ (∀ m, inB l2 m = (l.take i).any (fun r => hasR (keepR f n r) m)) ∧ w1.heap.size ≤ wr.heap.size ∧ RS layR wr A1 c1 l)) (fun s22 _ => ll - (intOf s22).toNat)
  case atStart => exact ⟨0, Nat.zero_le _, rfl, Lib.hid ⟨_, g2, v2, l2, X2.out, K2.out, Q2.out, M2.out, S2.out, RS2.out⟩⟩
  case round =>
    obtain ⟨i, hi, rfl, HJ⟩ := hrel
    obtain ⟨F2, g2, v2, l2, j1, j2, j3, j4, j5, j6⟩ := HJ.out
    have J1 := Lib.hid j1; have J2 := Lib.hid j2; have HF2 := Lib.hid j3; have HM := Lib.hid j4; have HSZr := Lib.hid j5; have RSr := Lib.hid j6
    have HSZ : Hid (w.heap.size ≤ w1.heap.size) := Lib.hid F1.out.size
    clear j1 j2 j3 j4 j5 j6 HJ X2 K2 Q2 M2 S2 RS2
    by_cases hlt : i < ll
    · obtain ⟨r, hr0⟩ : ∃ r, l[i]? = some r := ⟨_, List.getElem?_eq_getElem (by have := HLL.out; omega)⟩
      have hrm := List.mem_of_getElem? hr0
      have hok := H.out.tidy.ok r hrm
      have hfr := HFN.out r hrm
      have HTK : Hid (l.take (i + 1) = l.take i ++ [r]) := Lib.hid (by rw [List.take_add_one, hr0]; rfl)
      obtain ⟨r1, r2⟩ := r
      obtain ⟨bb, o, hbo, _, hc⟩ := RSr.out.at_ hr0
      have d0 := hc 0 (.int .i64 r1) rfl
      have d1 := hc 1 (.int .i64 r2) rfl
      simp only [← Nat.add_assoc, Nat.add_zero, Nat.zero_add] at d0 d1
      have hok2 : 0 ≤ r1 ∧ 1 ≤ r2 ∧ r1 + r2 ≤ 4294967296 := hok
      have hfr2 : r1 = f → n ≤ r2 := hfr
      obtain ⟨A1', hA1'⟩ : ∃ z, z = A1 := ⟨_, rfl⟩
      rw [← hA1'] at RSr FR1 hlt1 RS1
      subst hbo
      obtain ⟨xb, hxb⟩ : ∃ x, wr.heap.size = x := ⟨_, rfl⟩
      have b4 := Blk.newAt (w := wr) (t := 32) (cs := #[.int .i64 r1, .int .i64 r2]) hxb.symm
      have f4 := (Fine.refl wr).alloc (.cells #[.int .i64 r1, .int .i64 r2] 32)
      have hxF : ¬ F2 xb := fun hf => by have := J1.out.lt _ hf; omega
      have hxw : w1.heap.size ≤ xb := by have := HSZr.out; omega
      clear hc hr0 hrm hok hfr
      go_upto_region 5 with fail
      subst hA1'
      generalize wr.alloc (.cells #[.int .i64 r1, .int .i64 r2] 32) = w4 at b4 f4 ⊢
      have X4 := Lib.hid (J1.out.fine f4); have B4 := Lib.hid b4; have K4 := Lib.hid (J2.out.trans (Kept.of_fine f4)); have RS4 := Lib.hid (RSr.out.fine f4)
      have HSZ4 : Hid (w1.heap.size ≤ w4.heap.size) := Lib.hid (Nat.le_trans HSZr.out f4.size)
      have p0 : w4.cell? ⟨xb, 0, none⟩ = some (.int .i64 r1) := b4.cell 0
      have p1 : w4.cell? ⟨xb, 1, none⟩ = some (.int .i64 r2) := b4.cell 1
      have z0 := b4.frozen 0
      have z1 := b4.frozen 1
      clear b4 f4 d0 d1 hxb
      by_cases hrf : r1 = f
      · subst hrf
        have hnr := hfr2 rfl
        obtain ⟨k1, hk1⟩ : ∃ z, r1 + n = z := ⟨_, rfl⟩
        obtain ⟨k2, hk2⟩ : ∃ z, r2 - n = z := ⟨_, rfl⟩
        have e1 : IntKind.i64.wrap (r1 + n) = k1 := by rw [hk1]; exact IntWalk.i64_in _ (by omega)
        have e2 : IntKind.i64.wrap (r2 - n) = k2 := by rw [hk2]; exact IntWalk.i64_in _ (by omega)
        have g1 : (r1 == r1) = true := by simp
        have HKR : Hid (keepR r1 n (r1, r2) = (k1, k2)) := Lib.hid (by unfold keepR; rw [if_pos rfl, hk1, hk2])
        have hkb : 0 ≤ k1 ∧ 0 ≤ k2 ∧ k1 + k2 ≤ 4294967296 := by omega
        clear hk1 hk2
        go_upto_region 7 with fail
        have kx : Kept (· = xb) w4 ((w4.setCell ⟨xb, 0, none⟩ (.int .i64 k1)).setCell ⟨xb, 1, none⟩ (.int .i64 k2)) := ((Kept.refl (· = xb) w4).setIn (p := ⟨xb, 0, none⟩) rfl _).setIn (p := ⟨xb, 1, none⟩) rfl _
        have B5 := Lib.hid ((B4.out.set_ 0 (.int .i64 k1)).set_ 1 (.int .i64 k2))
        have X5 := Lib.hid (X4.out.kept kx (fun y hy e => hxF (e ▸ hy)))
        have K5 : Hid (Kept F w ((w4.setCell ⟨xb, 0, none⟩ (.int .i64 k1)).setCell ⟨xb, 1, none⟩ (.int .i64 k2))) := Lib.hid (K4.out.transG kx (fun _ _ h => h) (fun y hy e => by have := HSZ.out; have e : y = xb := e; omega))
        have RS5 := Lib.hid (RS4.out.kept kx (fun b o e e2 => by have := hlt1.out b o e; have e2 : b = xb := e2; omega))
        have HSZ5 := Lib.hid (Nat.le_trans HSZ4.out kx.size)
        generalize (w4.setCell ⟨xb, 0, none⟩ (.int .i64 k1)).setCell ⟨xb, 1, none⟩ (.int .i64 k2) = w5 at B5 X5 K5 RS5 HSZ5 ⊢
        clear p0 p1 z0 z1 kx B4 X4 K4 RS4 HSZ4
        obtain ⟨f, hf'⟩ : ∃ z, z = r1 := ⟨_, rfl⟩
        subst hf'
        have q0 : ∀ p : FineBy w5, p.W.cell? ⟨s, 0, none⟩ = some (.pointer (some ⟨g2, 0, none⟩)) := fun p => (X5.out.box.fine p.h).cell 0
        have q1 : ∀ p : FineBy w5, p.W.cell? ⟨xb, 0, none⟩ = some (.int .i64 k1) := fun p => (B5.out.fine p.h).cell 0
        have q2 : ∀ p : FineBy w5, p.W.cell? ⟨xb, 1, none⟩ = some (.int .i64 k2) := fun p => (B5.out.fine p.h).cell 1
        refine wp_region_quiet_fine_tail 9 (by kernel_rfl) (by kernel_rfl) ?_
        simp only [List.take_succ_cons, List.take_zero, List.drop_succ_cons, List.drop_zero]
        repeat (quiet_step (fail))
        refine wpQuiet_nil ?_
        intro wf hwf'
        have hwf := Lib.hid (FineBy.of hwf')
        clear hwf' q0 q1 q2
        have X6 := Lib.hid (X5.out.fine hwf.out); have K6 := Lib.hid (K5.out.trans (Kept.of_fine hwf.out))
        go_wp2_with fail
        refine (add_any 0 g2 v2 l2 X6.out.tidy k1 k2 (by omega) (by omega) wf (Nat.zero_le _) X6.out.set).mono ?_
        rintro r w7 ⟨v', l', rfl, hT, hm, hs, kk, hv⟩
        have X7 := X6.out.came kk hs hT hv
        have KK : Kept F w w7 := K6.out.transG kk (fun _ _ h => h) (fun y hy e => e.elim (fun e => (HF2.out _ X6.out.fs).elim (fun h => e ▸ h) (fun h => by have := HSZ.out; omega)) (fun e => (HF2.out _ (X6.out.fv y e)).elim id (fun h => by have := HSZ.out; omega)))
        have F7 : ∀ y, Grew F2 wf w7 y → F y ∨ w1.heap.size ≤ y := fun y hy => hy.elim (HF2.out y) (fun h => .inr (by have := hwf.out.size; have := HSZ5.out; omega))
        have M7 : ∀ m, inB l' m = (l.take (i + 1)).any (fun r => hasR (keepR f n r) m) := fun m => by
          rw [hm m, HM.out m, held_lost (by omega) (by omega), HTK.out, List.any_append, List.any_cons, List.any_nil, Bool.or_false, HKR.out]
          rfl
        have SZ7 : w1.heap.size ≤ w7.heap.size := by have := hwf.out.size; have := HSZ5.out; have := kk.size; omega
        have RS7 : RS layR w7 (some ⟨bb, o, none⟩) c1 l := (RS5.out.fine hwf.out).kept kk (fun b o e hy => by
          have h1 := FR1.out b o e
          have h2 := hlt1.out b o e
          have h3 : F2 b := hy.elim (fun e => e ▸ X6.out.fs) (fun e => X6.out.fv b e)
          rcases HF2.out b h3 with h4 | h4
          · have := H.out.lt b h4; omega
          · omega)
        have R := Lib.hid (And.intro X7 (And.intro KK (And.intro F7 (And.intro M7 (And.intro SZ7 RS7)))))
        clear X7 KK F7 M7 hT hm hs kk hv SZ7 RS7
        go_wp2_with fail
        exact ⟨⟨i + 1, by omega, by simp, Lib.hid ⟨_, g2, v', l', R.out⟩⟩, by simp only [intOf]; omega⟩
      · have g1 : (r1 == f) = false := by simpa using hrf
        obtain ⟨k1, hk1⟩ : ∃ z, r1 = z := ⟨_, rfl⟩
        obtain ⟨k2, hk2⟩ : ∃ z, r2 = z := ⟨_, rfl⟩
        have HKR : Hid (keepR f n (r1, r2) = (k1, k2)) := Lib.hid (by unfold keepR; rw [if_neg hrf, hk1, hk2])
        subst hk1 hk2
        have hkb : 0 ≤ r1 ∧ 0 ≤ r2 ∧ r1 + r2 ≤ 4294967296 := by omega
        obtain ⟨k1, hk1⟩ : ∃ z, z = r1 := ⟨_, rfl⟩
        obtain ⟨k2, hk2⟩ : ∃ z, z = r2 := ⟨_, rfl⟩
        go_upto_region 7 with fail
        obtain ⟨w5, hw5⟩ : ∃ z, z = w4 := ⟨_, rfl⟩
        subst hw5 hk1 hk2
        have B5 := B4; have X5 := X4; have K5 := K4; have RS5 := RS4; have HSZ5 := HSZ4
        clear p0 p1 z0 z1 B4 X4 K4 RS4 HSZ4
        have q0 : ∀ p : FineBy w5, p.W.cell? ⟨s, 0, none⟩ = some (.pointer (some ⟨g2, 0, none⟩)) := fun p => (X5.out.box.fine p.h).cell 0
        have q1 : ∀ p : FineBy w5, p.W.cell? ⟨xb, 0, none⟩ = some (.int .i64 k1) := fun p => (B5.out.fine p.h).cell 0
        have q2 : ∀ p : FineBy w5, p.W.cell? ⟨xb, 1, none⟩ = some (.int .i64 k2) := fun p => (B5.out.fine p.h).cell 1
        refine wp_region_quiet_fine_tail 9 (by kernel_rfl) (by kernel_rfl) ?_
        simp only [List.take_succ_cons, List.take_zero, List.drop_succ_cons, List.drop_zero]
        repeat (quiet_step (fail))
        refine wpQuiet_nil ?_
        intro wf hwf'
        have hwf := Lib.hid (FineBy.of hwf')
        clear hwf' q0 q1 q2
        have X6 := Lib.hid (X5.out.fine hwf.out); have K6 := Lib.hid (K5.out.trans (Kept.of_fine hwf.out))
        go_wp2_with fail
        refine (add_any 0 g2 v2 l2 X6.out.tidy k1 k2 (by omega) (by omega) wf (Nat.zero_le _) X6.out.set).mono ?_
        rintro r w7 ⟨v', l', rfl, hT, hm, hs, kk, hv⟩
        have X7 := X6.out.came kk hs hT hv
        have KK : Kept F w w7 := K6.out.transG kk (fun _ _ h => h) (fun y hy e => e.elim (fun e => (HF2.out _ X6.out.fs).elim (fun h => e ▸ h) (fun h => by have := HSZ.out; omega)) (fun e => (HF2.out _ (X6.out.fv y e)).elim id (fun h => by have := HSZ.out; omega)))
        have F7 : ∀ y, Grew F2 wf w7 y → F y ∨ w1.heap.size ≤ y := fun y hy => hy.elim (HF2.out y) (fun h => .inr (by have := hwf.out.size; have := HSZ5.out; omega))
        have M7 : ∀ m, inB l' m = (l.take (i + 1)).any (fun r => hasR (keepR f n r) m) := fun m => by
          rw [hm m, HM.out m, held_lost (by omega) (by omega), HTK.out, List.any_append, List.any_cons, List.any_nil, Bool.or_false, HKR.out]
          rfl
        have SZ7 : w1.heap.size ≤ w7.heap.size := by have := hwf.out.size; have := HSZ5.out; have := kk.size; omega
        have RS7 : RS layR w7 (some ⟨bb, o, none⟩) c1 l := (RS5.out.fine hwf.out).kept kk (fun b o e hy => by
          have h1 := FR1.out b o e
          have h2 := hlt1.out b o e
          have h3 : F2 b := hy.elim (fun e => e ▸ X6.out.fs) (fun e => X6.out.fv b e)
          rcases HF2.out b h3 with h4 | h4
          · have := H.out.lt b h4; omega
          · omega)
        have R := Lib.hid (And.intro X7 (And.intro KK (And.intro F7 (And.intro M7 (And.intro SZ7 RS7)))))
        clear X7 KK F7 M7 hT hm hs kk hv SZ7 RS7
        go_wp2_with fail
        exact ⟨⟨i + 1, by omega, by simp, Lib.hid ⟨_, g2, v', l', R.out⟩⟩, by simp only [intOf]; omega⟩
    · have hie : i = ll := by omega
      subst hie
      go_wp2_with fail
      refine bodyPost_end (v := .tuple #[]) (by simp [results, Try.results82, go_sem]) rfl ?_
      exact ⟨rfl, F2, g2, v2, l2, J1.out, fun m => by rw [HM.out m, ← HLL.out, List.take_length], J2.out, fun y hy => (HF2.out y hy).imp id (fun h => Nat.le_trans HSZ.out h)⟩
end
end Go.Proofs.Ytnigfdldfmiaiaa
