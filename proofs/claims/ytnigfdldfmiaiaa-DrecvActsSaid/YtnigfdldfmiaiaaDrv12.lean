/- The document's receiver: how it lies; Next, Edge, New, Tell. -/
import Derived.Test.YtnigfdldfmiaiaaDrv9
namespace Go.Proofs.Ytnigfdldfmiaiaa
open Go.ChangeShapes Go.WideShapes Go.ChangeAt Go.RowKit Go.Maps
set_option linter.unusedVariables false
set_option linter.unusedSimpArgs false
def layT : Lay Bool 1 := { cs := fun x => [.bool x], len := fun _ => rfl, one := fun x u hu => by simp at hu; subst hu; rfl, pos := by decide }
theorem sliceT : SliceTy Try.prog 37 4 1 1 := SliceTy.mk' (z := .bool false) Try.underlying37 (by kernel_rfl) rfl
def il (In : Int → Bool) (k : Nat) : List Bool := (List.range k).map (fun i : Nat => In (i + 1))
def bl (In : Int → Bool) (B : Int → Int) (k : Nat) : List Int := (List.range k).map (fun i : Nat => if In (i + 1) = true then B (i + 1) else 0)
theorem il_len (In : Int → Bool) (k : Nat) : (il In k).length = k := by simp [il]
theorem bl_len (In : Int → Bool) (B : Int → Int) (k : Nat) : (bl In B k).length = k := by simp [bl]
theorem il_at (In : Int → Bool) {k i : Nat} (h : i < k) : (il In k)[i]? = some (In (i + 1)) := by simp [il, h]
theorem bl_at (In : Int → Bool) (B : Int → Int) {k i : Nat} (h : i < k) : (bl In B k)[i]? = some (if In (i + 1) = true then B (i + 1) else 0) := by simp [bl, h]
theorem il_congr {In In' : Int → Bool} {k : Nat} (h : ∀ i : Nat, i < k → In (i + 1) = In' (i + 1)) : il In k = il In' k := List.map_congr_left (fun i hi => h i (List.mem_range.mp hi))
theorem il_set (In In' : Int → Bool) (k j : Nat) (b : Bool) (h1 : In' (j + 1) = b) (h2 : ∀ i : Nat, i < k → i ≠ j → In' (i + 1) = In (i + 1)) : (il In k).set j b = il In' k := by
  apply List.ext_getElem?
  intro i
  rw [List.getElem?_set]
  by_cases hj : j = i
  · subst hj
    by_cases hk : j < k
    · rw [if_pos rfl, il_len, if_pos hk, il_at In' hk, h1]
    · rw [if_pos rfl, il_len, if_neg hk, List.getElem?_eq_none (by rw [il_len]; omega)]
  · rw [if_neg hj]
    by_cases hk : i < k
    · rw [il_at In hk, il_at In' hk, h2 i hk (fun e => hj e.symm)]
    · rw [List.getElem?_eq_none (by rw [il_len]; omega), List.getElem?_eq_none (by rw [il_len]; omega)]
theorem bl_set (In In' : Int → Bool) (B B' : Int → Int) (k j : Nat) (c : Int) (h0 : In' (j + 1) = true) (h1 : B' (j + 1) = c) (h2 : ∀ i : Nat, i < k → i ≠ j → In' (i + 1) = In (i + 1) ∧ (In (i + 1) = true → B' (i + 1) = B (i + 1))) : (bl In B k).set j c = bl In' B' k := by
  apply List.ext_getElem?
  intro i
  rw [List.getElem?_set]
  by_cases hj : j = i
  · subst hj
    by_cases hk : j < k
    · rw [if_pos rfl, bl_len, if_pos hk, bl_at In' B' hk, h0, if_pos rfl, h1]
    · rw [if_pos rfl, bl_len, if_neg hk, List.getElem?_eq_none (by rw [bl_len]; omega)]
  · rw [if_neg hj]
    by_cases hk : i < k
    · have h3 := h2 i hk (fun e => hj e.symm)
      rw [bl_at In B hk, bl_at In' B' hk, h3.1]
      by_cases hin : In (i + 1) = true
      · rw [if_pos hin, if_pos hin, h3.2 hin]
      · rw [if_neg hin, if_neg hin]
    · rw [List.getElem?_eq_none (by rw [bl_len]; omega), List.getElem?_eq_none (by rw [bl_len]; omega)]
/-- The document's receiver at x: all its blocks are G's. -/
structure ReX (G : Nat → Prop) (w : World) (x : Nat) (Ab : Option Addr) (cb : Nat) (Ai : Option Addr) (ci : Nat) (lb : List Int) (li : List Bool) (rd e : Int) : Prop where
  box : Blk w x 110 #[.slice Ab lb.length cb, .slice Ai li.length ci, .int .i64 rd, .int .i64 e]
  ob : Own layB 5 w 0 (.slice Ab lb.length cb) lb
  oi : Own layT 4 w 0 (.slice Ai li.length ci) li
  gx : G x
  gb : ∀ y, (Value.slice Ab lb.length cb).ownBlock = some y → G y
  gi : ∀ y, (Value.slice Ai li.length ci).ownBlock = some y → G y
  lt : ∀ y, G y → y < w.heap.size
section
variable {G : Nat → Prop} {w w' w1 : World} {x : Nat} {Ab : Option Addr} {cb : Nat} {Ai : Option Addr} {ci : Nat} {lb : List Int} {li : List Bool} {rd e : Int}
theorem ReX.kept {S : Nat → Prop} (h : ReX G w x Ab cb Ai ci lb li rd e) (k : Kept S w w') (hd : ∀ y, G y → ¬ S y) : ReX G w' x Ab cb Ai ci lb li rd e :=
  ⟨h.box.kept k (hd _ h.gx), h.ob.kept k (fun y hy => hd y (h.gb y hy)), h.oi.kept k (fun y hy => hd y (h.gi y hy)), h.gx, h.gb, h.gi, fun y hy => Nat.lt_of_lt_of_le (h.lt y hy) k.size⟩
theorem ReX.fine (h : ReX G w x Ab cb Ai ci lb li rd e) (f : Fine w w') : ReX G w' x Ab cb Ai ci lb li rd e := h.kept (S := fun _ => False) (Kept.of_fine f) (fun _ _ f => f)
theorem ReX.nb (h : ReX G w x Ab cb Ai ci lb li rd e) : ∀ y, (Value.slice Ab lb.length cb).ownBlock = some y → y ≠ x ∧ (Value.slice Ai li.length ci).ownBlock ≠ some y := fun y hy => ⟨h.ob.ne_blk hy h.box (by decide), h.ob.ne_own h.oi (by decide) hy⟩
theorem ReX.ni (h : ReX G w x Ab cb Ai ci lb li rd e) : ∀ y, (Value.slice Ai li.length ci).ownBlock = some y → y ≠ x := fun y hy => h.oi.ne_blk hy h.box (by decide)
/-- Its cell j is set. -/
theorem ReX.setRd (h : ReX G w x Ab cb Ai ci lb li rd e) (m : Int) : ReX G (w.setCell ⟨x, 2, none⟩ (.int .i64 m)) x Ab cb Ai ci lb li m e := by
  have k : Kept (· = x) w (w.setCell ⟨x, 2, none⟩ (.int .i64 m)) := (Kept.refl (· = x) w).setIn (p := ⟨x, 2, none⟩) rfl _
  exact ⟨h.box.set_ 2 (.int .i64 m), h.ob.kept k (fun y hy e => (h.nb y hy).1 e), h.oi.kept k (fun y hy e => h.ni y hy e), h.gx, h.gb, h.gi, fun y hy => Nat.lt_of_lt_of_le (h.lt y hy) k.size⟩
theorem ReX.setE (h : ReX G w x Ab cb Ai ci lb li rd e) (m : Int) : ReX G (w.setCell ⟨x, 3, none⟩ (.int .i64 m)) x Ab cb Ai ci lb li rd m := by
  have k : Kept (· = x) w (w.setCell ⟨x, 3, none⟩ (.int .i64 m)) := (Kept.refl (· = x) w).setIn (p := ⟨x, 3, none⟩) rfl _
  exact ⟨h.box.set_ 3 (.int .i64 m), h.ob.kept k (fun y hy e => (h.nb y hy).1 e), h.oi.kept k (fun y hy e => h.ni y hy e), h.gx, h.gb, h.gi, fun y hy => Nat.lt_of_lt_of_le (h.lt y hy) k.size⟩
/-- Its bytes, its truths have grown. -/
theorem ReX.moreB {A2 : Option Addr} {n2 c2 : Nat} {l2 : List Int} (h : ReX G w x Ab cb Ai ci lb li rd e) (k : Kept (fun y => (Value.slice Ab lb.length cb).ownBlock = some y) w w1) (hn : n2 = l2.length) (ho : Own layB 5 w1 0 (.slice A2 n2 c2) l2) (hv : (Value.slice A2 n2 c2).ownBlock = (Value.slice Ab lb.length cb).ownBlock ∨ ∀ k, (Value.slice A2 n2 c2).ownBlock = some k → w.heap.size ≤ k) :
    ReX (Grew G w w1) (w1.setCell ⟨x, 0, none⟩ (.slice A2 n2 c2)) x A2 c2 Ai ci l2 li rd e := by
  subst hn
  have hbx : Blk w1 x 110 #[.slice Ab lb.length cb, .slice Ai li.length ci, .int .i64 rd, .int .i64 e] := h.box.kept k (fun e => (h.nb x e).1 rfl)
  have hi1 : Own layT 4 w1 0 (.slice Ai li.length ci) li := h.oi.kept k (fun y hy e => (h.nb y e).2 hy)
  have k2 : Kept (· = x) w1 (w1.setCell ⟨x, 0, none⟩ (.slice A2 l2.length c2)) := (Kept.refl (· = x) w1).setIn (p := ⟨x, 0, none⟩) rfl _
  refine ⟨hbx.set_ 0 _, ho.kept k2 (fun y hy e => ho.ne_blk hy hbx (by decide) e), hi1.kept k2 (fun y hy e => h.ni y hy e), .inl h.gx, fun y hy => ?_, fun y hy => .inl (h.gi y hy), fun y hy => ?_⟩
  · rcases hv with h1 | h1
    · exact .inl (h.gb y (h1 ▸ hy))
    · exact .inr ⟨h1 y hy, (ho.lt y hy).2⟩
  · refine Nat.lt_of_lt_of_le ?_ k2.size
    rcases hy with h1 | h1
    · exact Nat.lt_of_lt_of_le (h.lt y h1) k.size
    · exact h1.2
theorem ReX.moreI {A2 : Option Addr} {n2 c2 : Nat} {l2 : List Bool} (h : ReX G w x Ab cb Ai ci lb li rd e) (k : Kept (fun y => (Value.slice Ai li.length ci).ownBlock = some y) w w1) (hn : n2 = l2.length) (ho : Own layT 4 w1 0 (.slice A2 n2 c2) l2) (hv : (Value.slice A2 n2 c2).ownBlock = (Value.slice Ai li.length ci).ownBlock ∨ ∀ k, (Value.slice A2 n2 c2).ownBlock = some k → w.heap.size ≤ k) :
    ReX (Grew G w w1) (w1.setCell ⟨x, 1, none⟩ (.slice A2 n2 c2)) x Ab cb A2 c2 lb l2 rd e := by
  subst hn
  have hbx : Blk w1 x 110 #[.slice Ab lb.length cb, .slice Ai li.length ci, .int .i64 rd, .int .i64 e] := h.box.kept k (fun e => h.ni x e rfl)
  have hb1 : Own layB 5 w1 0 (.slice Ab lb.length cb) lb := h.ob.kept k (fun y hy e => (h.nb y hy).2 e)
  have k2 : Kept (· = x) w1 (w1.setCell ⟨x, 1, none⟩ (.slice A2 l2.length c2)) := (Kept.refl (· = x) w1).setIn (p := ⟨x, 1, none⟩) rfl _
  refine ⟨hbx.set_ 1 _, hb1.kept k2 (fun y hy e => (h.nb y hy).1 e), ho.kept k2 (fun y hy e => ho.ne_blk hy hbx (by decide) e), .inl h.gx, fun y hy => .inl (h.gb y hy), fun y hy => ?_, fun y hy => ?_⟩
  · rcases hv with h1 | h1
    · exact .inl (h.gi y (h1 ▸ hy))
    · exact .inr ⟨h1 y hy, (ho.lt y hy).2⟩
  · refine Nat.lt_of_lt_of_le ?_ k2.size
    rcases hy with h1 | h1
    · exact Nat.lt_of_lt_of_le (h.lt y h1) k.size
    · exact h1.2
end
/-- .. by its numbers: k of them are told of. -/
def ReS (G : Nat → Prop) (w : World) (x : Nat) (In : Int → Bool) (B : Int → Int) (rd e : Int) (k : Nat) : Prop :=
  ∃ Ab cb Ai ci, ReX G w x Ab cb Ai ci (bl In B k) (il In k) rd e ∧ ∀ n, In n = true → n ≤ (k : Int)
section
variable {G : Nat → Prop} {w w' : World} {x : Nat} {In : Int → Bool} {B : Int → Int} {rd nx e : Int} {k : Nat}
theorem ReS.kept {S : Nat → Prop} (h : ReS G w x In B rd e k) (kk : Kept S w w') (hd : ∀ y, G y → ¬ S y) : ReS G w' x In B rd e k := by
  obtain ⟨Ab, cb, Ai, ci, h1, h2⟩ := h
  exact ⟨Ab, cb, Ai, ci, h1.kept kk hd, h2⟩
theorem ReS.fine (h : ReS G w x In B rd e k) (f : Fine w w') : ReS G w' x In B rd e k := h.kept (S := fun _ => False) (Kept.of_fine f) (fun _ _ f => f)
theorem ReS.lt (h : ReS G w x In B rd e k) : ∀ y, G y → y < w.heap.size := by
  obtain ⟨Ab, cb, Ai, ci, h1, h2⟩ := h
  exact h1.lt
theorem renew_any (w : World) : Calls Try.prog 42 #[] w fun r w' => r = .returned (.pointer (some ⟨w.heap.size, 0, none⟩)) ∧ ReS (· = w.heap.size) w' w.heap.size (fun _ => false) (fun _ => 0) 0 0 0 ∧ Fine w w' := by
  have f1 := (Fine.refl w).alloc (.cells #[.slice none 0 0, .slice none 0 0, .int .i64 0, .int .i64 0] 110)
  have hb := Blk.new w 110 #[.slice none 0 0, .slice none 0 0, .int .i64 0, .int .i64 0]
  have hS : Hid (ReS (· = w.heap.size) (w.alloc (.cells #[.slice none 0 0, .slice none 0 0, .int .i64 0, .int .i64 0] 110)) w.heap.size (fun _ => false) (fun _ => 0) 0 0 0) := Lib.hid ⟨none, 0, none, 0, ⟨hb, Own.nil_ _ _ _ _, Own.nil_ _ _ _ _, rfl, (fun y hy => by cases hy), (fun y hy => by cases hy), (fun y hy => by subst hy; exact hb.lt)⟩, (fun n h => by cases h)⟩
  have F1 := Lib.hid f1
  clear f1 hb
  go_enter Try.func42, Try.ntmps42
  go_wp2_with fail
  go_ret
  exact ⟨rfl, hS.out, F1.out⟩
theorem reedge_any (w : World) (hr : 0 ≤ rd ∧ rd ≤ 1000000) (h : ReS G w x In B rd e k) : Calls Try.prog 81 #[.pointer (some ⟨x, 0, none⟩)] w fun r w' => r = .returned (.int .i64 (rd + 33)) ∧ Fine w w' := by
  obtain ⟨Ab, cb, Ai, ci, h1, h2⟩ := h
  have c2 : w.cell? ⟨x, 2, none⟩ = some (.int .i64 rd) := h1.box.cell 2
  have e1 : IntKind.i64.wrap (rd + 33) = rd + 33 := IntWalk.i64_in _ (by omega)
  clear h1 h2
  go_enter Try.func81, Try.ntmps81
  go_wp2_with fail
  go_ret
  exact ⟨rfl, Fine.refl w⟩
set_option maxHeartbeats 1000000 in
set_option maxRecDepth 20000 in
theorem renext_any (w : World) (hn : 1 ≤ nx) (hlow : ∀ n, 1 ≤ n → n < nx → In n = true) (hno : In nx = false) (hk : k ≤ 1000000) (h : ReS G w x In B rd e k) :
    Calls Try.prog 43 #[.pointer (some ⟨x, 0, none⟩)] w fun r w' => r = .returned (.int .i64 nx) ∧ Fine w w' := by
  obtain ⟨Ab, cb, Ai, ci, h1, h2⟩ := h
  have c1 : w.cell? ⟨x, 1, none⟩ = some (.slice Ai k ci) := by have := h1.box.cell 1; rw [il_len] at this; exact this
  have HI := Lib.hid h1.oi.rs.1
  have hnk : nx ≤ (k : Int) + 1 := by
    rcases Int.lt_or_le ((k : Int) + 1) nx with h3 | h3
    · have := h2 ((k : Int) + 1) (hlow _ (by omega) h3)
      omega
    · exact h3
  have HL := Lib.hid hlow; have HNO := Lib.hid hno
  clear h1 h2 hlow hno
  go_enter Try.func43, Try.ntmps43
  go_wp2_with fail
  go_loopw [3] (fun s3 wr => ∃ n : Int, 1 ≤ n ∧ n ≤ nx ∧ s3 = .int .i64 n ∧ wr = w) (fun s3 _ => (nx - intOf s3).toNat)
  case atStart => exact ⟨1, by omega, hn, (by first | rfl | trivial), (by first | rfl | trivial)⟩
  case round =>
    obtain ⟨n, h3, h4, rfl, rfl⟩ := hrel
    obtain ⟨j, hj⟩ : ∃ j : Nat, n = (j : Int) + 1 := ⟨(n - 1).toNat, by omega⟩
    by_cases hlt : n < nx
    · have hjk : j < k := by omega
      obtain ⟨b, o, hA, _, hc⟩ := HI.out.at_ (il_at In hjk)
      have d0 := hc 0 (.bool (In ((j : Int) + 1))) rfl
      have hin : In ((j : Int) + 1) = true := HL.out _ (by omega) (by omega)
      rw [hin] at d0
      simp only [Nat.mul_one, Nat.add_zero] at d0
      subst hA
      have e1 : IntKind.i64.wrap (n - 1) = (j : Int) := by rw [show n - 1 = (j : Int) by omega]; exact IntWalk.i64_in _ (by omega)
      have e2 : IntKind.i64.wrap (n + 1) = n + 1 := IntWalk.i64_in _ (by omega)
      have g1 : n ≤ (k : Int) := by omega
      clear hc hin hj
      go_wp2_with fail
      exact ⟨⟨n + 1, by omega, by omega, (by first | rfl | trivial), (by first | rfl | trivial)⟩, by simp only [intOf]; omega⟩
    · have hne : n = nx := by omega
      subst hne
      by_cases hjk : j < k
      · obtain ⟨b, o, hA, _, hc⟩ := HI.out.at_ (il_at In hjk)
        have d0 := hc 0 (.bool (In ((j : Int) + 1))) rfl
        have hin : In ((j : Int) + 1) = false := by rw [← hj]; exact HNO.out
        rw [hin] at d0
        simp only [Nat.mul_one, Nat.add_zero] at d0
        subst hA
        have e1 : IntKind.i64.wrap (n - 1) = (j : Int) := by rw [show n - 1 = (j : Int) by omega]; exact IntWalk.i64_in _ (by omega)
        have g1 : n ≤ (k : Int) := by omega
        clear hc hin hj
        go_wp2_with fail
        go_ret
        exact ⟨rfl, Fine.refl _⟩
      · have g1 : ¬ n ≤ (k : Int) := by omega
        clear hj
        go_wp2_with fail
        go_ret
        exact ⟨rfl, Fine.refl _⟩
end
end Go.Proofs.Ytnigfdldfmiaiaa
