/- The document's receiver: how it lies; Next, Edge, New, Tell. The document's receiver: Tell, Put. The document's receiver: Put. The document's receiver: Get. -/
import Derived.Test.YtnigfdldfmiaiaaDrv9
namespace Go.Proofs.Ytnigfdldfmiaiaa
set_option linter.unusedVariables false
set_option linter.unusedSimpArgs false
open Go.ChangeShapes Go.WideShapes Go.ChangeAt Go.RowKit Go.Maps
set_option linter.unusedVariables false
set_option linter.unusedSimpArgs false
def layT : Lay Bool 1 := { cs := fun x => [.bool x], len := fun _ => rfl, one := fun x u hu => by simp at hu; subst hu; rfl, pos := by decide }
theorem sliceT : SliceTy Try.prog 37 4 1 1 := SliceTy.mk' (z := .bool false) Try.underlying37 (by kernel_rfl) rfl
def il (In : Int → Bool) (k : Nat) : List Bool := (List.range k).map (fun i : Nat => In (i + 1))
def bl (In : Int → Bool) (B : Int → Int) (k : Nat) : List Int := (List.range k).map (fun i : Nat => if In (i + 1) = true then B (i + 1) else 0)
theorem il_len (In : Int → Bool) (k : Nat) : (il In k).length = k := by simp [il]
theorem bl_len (In : Int → Bool) (B : Int → Int) (k : Nat) : (bl In B k).length = k := by simp [bl]
theorem il_at (In : Int → Bool) {k i : Nat} (h : i < k) : (il In k)[i]? = some (In (i + 1)) := by simp [il, h]
theorem bl_at (In : Int → Bool) (B : Int → Int) {k i : Nat} (h : i < k) : (bl In B k)[i]? = some (if In (i + 1) = true then B (i + 1) else 0) := by simp [bl, h]
theorem il_congr {In In' : Int → Bool} {k : Nat} (h : ∀ i : Nat, i < k → In (i + 1) = In' (i + 1)) : il In k = il In' k := List.map_congr_left (fun i hi => h i (List.mem_range.mp hi))
theorem il_set (In In' : Int → Bool) (k j : Nat) (b : Bool) (h1 : In' (j + 1) = b) (h2 : ∀ i : Nat, i < k → i ≠ j → In' (i + 1) = In (i + 1)) : (il In k).set j b = il In' k := by
  apply List.ext_getElem?
  intro i
  rw [List.getElem?_set]
  by_cases hj : j = i
  · subst hj
    by_cases hk : j < k
    · rw [if_pos rfl, il_len, if_pos hk, il_at In' hk, h1]
    · rw [if_pos rfl, il_len, if_neg hk, List.getElem?_eq_none (by rw [il_len]; omega)]
  · rw [if_neg hj]
    by_cases hk : i < k
    · rw [il_at In hk, il_at In' hk, h2 i hk (fun e => hj e.symm)]
    · rw [List.getElem?_eq_none (by rw [il_len]; omega), List.getElem?_eq_none (by rw [il_len]; omega)]
theorem bl_set (In In' : Int → Bool) (B B' : Int → Int) (k j : Nat) (c : Int) (h0 : In' (j + 1) = true) (h1 : B' (j + 1) = c) (h2 : ∀ i : Nat, i < k → i ≠ j → In' (i + 1) = In (i + 1) ∧ (In (i + 1) = true → B' (i + 1) = B (i + 1))) : (bl In B k).set j c = bl In' B' k := by
  apply List.ext_getElem?
  intro i
  rw [List.getElem?_set]
  by_cases hj : j = i
  · subst hj
    by_cases hk : j < k
    · rw [if_pos rfl, bl_len, if_pos hk, bl_at In' B' hk, h0, if_pos rfl, h1]
    · rw [if_pos rfl, bl_len, if_neg hk, List.getElem?_eq_none (by rw [bl_len]; omega)]
  · rw [if_neg hj]
    by_cases hk : i < k
    · have h3 := h2 i hk (fun e => hj e.symm)
      rw [bl_at In B hk, bl_at In' B' hk, h3.1]
      by_cases hin : In (i + 1) = true
      · rw [if_pos hin, if_pos hin, h3.2 hin]
      · rw [if_neg hin, if_neg hin]
    · rw [List.getElem?_eq_none (by rw [bl_len]; omega), List.getElem?_eq_none (by rw [bl_len]; omega)]
/-- The document's receiver at x: all its blocks are G's. -/
structure ReX (G : Nat → Prop) (w : World) (x : Nat) (Ab : Option Addr) (cb : Nat) (Ai : Option Addr) (ci : Nat) (lb : List Int) (li : List Bool) (rd e : Int) : Prop where
  box : Blk w x 110 #[.slice Ab lb.length cb, .slice Ai li.length ci, .int .i64 rd, .int .i64 e]
  ob : Own layB 5 w 0 (.slice Ab lb.length cb) lb
  oi : Own layT 4 w 0 (.slice Ai li.length ci) li
  gx : G x
  gb : ∀ y, (Value.slice Ab lb.length cb).ownBlock = some y → G y
  gi : ∀ y, (Value.slice Ai li.length ci).ownBlock = some y → G y
  lt : ∀ y, G y → y < w.heap.size
section
variable {G : Nat → Prop} {w w' w1 : World} {x : Nat} {Ab : Option Addr} {cb : Nat} {Ai : Option Addr} {ci : Nat} {lb : List Int} {li : List Bool} {rd e : Int}
theorem ReX.kept {S : Nat → Prop} (h : ReX G w x Ab cb Ai ci lb li rd e) (k : Kept S w w') (hd : ∀ y, G y → ¬ S y) : ReX G w' x Ab cb Ai ci lb li rd e :=
  ⟨h.box.kept k (hd _ h.gx), h.ob.kept k (fun y hy => hd y (h.gb y hy)), h.oi.kept k (fun y hy => hd y (h.gi y hy)), h.gx, h.gb, h.gi, fun y hy => Nat.lt_of_lt_of_le (h.lt y hy) k.size⟩
theorem ReX.fine (h : ReX G w x Ab cb Ai ci lb li rd e) (f : Fine w w') : ReX G w' x Ab cb Ai ci lb li rd e := h.kept (S := fun _ => False) (Kept.of_fine f) (fun _ _ f => f)
theorem ReX.nb (h : ReX G w x Ab cb Ai ci lb li rd e) : ∀ y, (Value.slice Ab lb.length cb).ownBlock = some y → y ≠ x ∧ (Value.slice Ai li.length ci).ownBlock ≠ some y := fun y hy => ⟨h.ob.ne_blk hy h.box (by decide), h.ob.ne_own h.oi (by decide) hy⟩
theorem ReX.ni (h : ReX G w x Ab cb Ai ci lb li rd e) : ∀ y, (Value.slice Ai li.length ci).ownBlock = some y → y ≠ x := fun y hy => h.oi.ne_blk hy h.box (by decide)
/-- Its cell j is set. -/
theorem ReX.setRd (h : ReX G w x Ab cb Ai ci lb li rd e) (m : Int) : ReX G (w.setCell ⟨x, 2, none⟩ (.int .i64 m)) x Ab cb Ai ci lb li m e := by
  have k : Kept (· = x) w (w.setCell ⟨x, 2, none⟩ (.int .i64 m)) := (Kept.refl (· = x) w).setIn (p := ⟨x, 2, none⟩) rfl _
  exact ⟨h.box.set_ 2 (.int .i64 m), h.ob.kept k (fun y hy e => (h.nb y hy).1 e), h.oi.kept k (fun y hy e => h.ni y hy e), h.gx, h.gb, h.gi, fun y hy => Nat.lt_of_lt_of_le (h.lt y hy) k.size⟩
theorem ReX.setE (h : ReX G w x Ab cb Ai ci lb li rd e) (m : Int) : ReX G (w.setCell ⟨x, 3, none⟩ (.int .i64 m)) x Ab cb Ai ci lb li rd m := by
  have k : Kept (· = x) w (w.setCell ⟨x, 3, none⟩ (.int .i64 m)) := (Kept.refl (· = x) w).setIn (p := ⟨x, 3, none⟩) rfl _
  exact ⟨h.box.set_ 3 (.int .i64 m), h.ob.kept k (fun y hy e => (h.nb y hy).1 e), h.oi.kept k (fun y hy e => h.ni y hy e), h.gx, h.gb, h.gi, fun y hy => Nat.lt_of_lt_of_le (h.lt y hy) k.size⟩
/-- Its bytes, its truths have grown. -/
theorem ReX.moreB {A2 : Option Addr} {n2 c2 : Nat} {l2 : List Int} (h : ReX G w x Ab cb Ai ci lb li rd e) (k : Kept (fun y => (Value.slice Ab lb.length cb).ownBlock = some y) w w1) (hn : n2 = l2.length) (ho : Own layB 5 w1 0 (.slice A2 n2 c2) l2) (hv : (Value.slice A2 n2 c2).ownBlock = (Value.slice Ab lb.length cb).ownBlock ∨ ∀ k, (Value.slice A2 n2 c2).ownBlock = some k → w.heap.size ≤ k) :
    ReX (Grew G w w1) (w1.setCell ⟨x, 0, none⟩ (.slice A2 n2 c2)) x A2 c2 Ai ci l2 li rd e := by
  subst hn
  have hbx : Blk w1 x 110 #[.slice Ab lb.length cb, .slice Ai li.length ci, .int .i64 rd, .int .i64 e] := h.box.kept k (fun e => (h.nb x e).1 rfl)
  have hi1 : Own layT 4 w1 0 (.slice Ai li.length ci) li := h.oi.kept k (fun y hy e => (h.nb y e).2 hy)
  have k2 : Kept (· = x) w1 (w1.setCell ⟨x, 0, none⟩ (.slice A2 l2.length c2)) := (Kept.refl (· = x) w1).setIn (p := ⟨x, 0, none⟩) rfl _
  refine ⟨hbx.set_ 0 _, ho.kept k2 (fun y hy e => ho.ne_blk hy hbx (by decide) e), hi1.kept k2 (fun y hy e => h.ni y hy e), .inl h.gx, fun y hy => ?_, fun y hy => .inl (h.gi y hy), fun y hy => ?_⟩
  · rcases hv with h1 | h1
    · exact .inl (h.gb y (h1 ▸ hy))
    · exact .inr ⟨h1 y hy, (ho.lt y hy).2⟩
  · refine Nat.lt_of_lt_of_le ?_ k2.size
    rcases hy with h1 | h1
    · exact Nat.lt_of_lt_of_le (h.lt y h1) k.size
    · exact h1.2
theorem ReX.moreI {A2 : Option Addr} {n2 c2 : Nat} {l2 : List Bool} (h : ReX G w x Ab cb Ai ci lb li rd e) (k : Kept (fun y => (Value.slice Ai li.length ci).ownBlock = some y) w w1) (hn : n2 = l2.length) (ho : Own layT 4 w1 0 (.slice A2 n2 c2) l2) (hv : (Value.slice A2 n2 c2).ownBlock = (Value.slice Ai li.length ci).ownBlock ∨ ∀ k, (Value.slice A2 n2 c2).ownBlock = some k → w.heap.size ≤ k) :
    ReX (Grew G w w1) (w1.setCell ⟨x, 1, none⟩ (.slice A2 n2 c2)) x Ab cb A2 c2 lb l2 rd e := by
  subst hn
  have hbx : Blk w1 x 110 #[.slice Ab lb.length cb, .slice Ai li.length ci, .int .i64 rd, .int .i64 e] := h.box.kept k (fun e => h.ni x e rfl)
  have hb1 : Own layB 5 w1 0 (.slice Ab lb.length cb) lb := h.ob.kept k (fun y hy e => (h.nb y hy).2 e)
  have k2 : Kept (· = x) w1 (w1.setCell ⟨x, 1, none⟩ (.slice A2 l2.length c2)) := (Kept.refl (· = x) w1).setIn (p := ⟨x, 1, none⟩) rfl _
  refine ⟨hbx.set_ 1 _, hb1.kept k2 (fun y hy e => (h.nb y hy).1 e), ho.kept k2 (fun y hy e => ho.ne_blk hy hbx (by decide) e), .inl h.gx, fun y hy => .inl (h.gb y hy), fun y hy => ?_, fun y hy => ?_⟩
  · rcases hv with h1 | h1
    · exact .inl (h.gi y (h1 ▸ hy))
    · exact .inr ⟨h1 y hy, (ho.lt y hy).2⟩
  · refine Nat.lt_of_lt_of_le ?_ k2.size
    rcases hy with h1 | h1
    · exact Nat.lt_of_lt_of_le (h.lt y h1) k.size
    · exact h1.2
end
/-- .. by its numbers: k of them are told of. -/
def ReS (G : Nat → Prop) (w : World) (x : Nat) (In : Int → Bool) (B : Int → Int) (rd e : Int) (k : Nat) : Prop :=
  ∃ Ab cb Ai ci, ReX G w x Ab cb Ai ci (bl In B k) (il In k) rd e ∧ ∀ n, In n = true → n ≤ (k : Int)
section
variable {G : Nat → Prop} {w w' : World} {x : Nat} {In : Int → Bool} {B : Int → Int} {rd nx e : Int} {k : Nat}
theorem ReS.kept {S : Nat → Prop} (h : ReS G w x In B rd e k) (kk : Kept S w w') (hd : ∀ y, G y → ¬ S y) : ReS G w' x In B rd e k := by
  obtain ⟨Ab, cb, Ai, ci, h1, h2⟩ := h
  exact ⟨Ab, cb, Ai, ci, h1.kept kk hd, h2⟩
theorem ReS.fine (h : ReS G w x In B rd e k) (f : Fine w w') : ReS G w' x In B rd e k := h.kept (S := fun _ => False) (Kept.of_fine f) (fun _ _ f => f)
theorem ReS.lt (h : ReS G w x In B rd e k) : ∀ y, G y → y < w.heap.size := by
  obtain ⟨Ab, cb, Ai, ci, h1, h2⟩ := h
  exact h1.lt
theorem renew_any (w : World) : Calls Try.prog 42 #[] w fun r w' => r = .returned (.pointer (some ⟨w.heap.size, 0, none⟩)) ∧ ReS (· = w.heap.size) w' w.heap.size (fun _ => false) (fun _ => 0) 0 0 0 ∧ Fine w w' := by
  have f1 := (Fine.refl w).alloc (.cells #[.slice none 0 0, .slice none 0 0, .int .i64 0, .int .i64 0] 110)
  have hb := Blk.new w 110 #[.slice none 0 0, .slice none 0 0, .int .i64 0, .int .i64 0]
  have hS : Hid (ReS (· = w.heap.size) (w.alloc (.cells #[.slice none 0 0, .slice none 0 0, .int .i64 0, .int .i64 0] 110)) w.heap.size (fun _ => false) (fun _ => 0) 0 0 0) := Lib.hid ⟨none, 0, none, 0, ⟨hb, Own.nil_ _ _ _ _, Own.nil_ _ _ _ _, rfl, (fun y hy => by cases hy), (fun y hy => by cases hy), (fun y hy => by subst hy; exact hb.lt)⟩, (fun n h => by cases h)⟩
  have F1 := Lib.hid f1
  clear f1 hb
  go_enter Try.func42, Try.ntmps42
  go_wp2_with fail
  go_ret
  exact ⟨rfl, hS.out, F1.out⟩
theorem reedge_any (w : World) (hr : 0 ≤ rd ∧ rd ≤ 1000000) (h : ReS G w x In B rd e k) : Calls Try.prog 81 #[.pointer (some ⟨x, 0, none⟩)] w fun r w' => r = .returned (.int .i64 (rd + 33)) ∧ Fine w w' := by
  obtain ⟨Ab, cb, Ai, ci, h1, h2⟩ := h
  have c2 : w.cell? ⟨x, 2, none⟩ = some (.int .i64 rd) := h1.box.cell 2
  have e1 : IntKind.i64.wrap (rd + 33) = rd + 33 := IntWalk.i64_in _ (by omega)
  clear h1 h2
  go_enter Try.func81, Try.ntmps81
  go_wp2_with fail
  go_ret
  exact ⟨rfl, Fine.refl w⟩
set_option maxHeartbeats 1000000 in
set_option maxRecDepth 20000 in
theorem renext_any (w : World) (hn : 1 ≤ nx) (hlow : ∀ n, 1 ≤ n → n < nx → In n = true) (hno : In nx = false) (hk : k ≤ 1000000) (h : ReS G w x In B rd e k) :
    Calls Try.prog 43 #[.pointer (some ⟨x, 0, none⟩)] w fun r w' => r = .returned (.int .i64 nx) ∧ Fine w w' := by
  obtain ⟨Ab, cb, Ai, ci, h1, h2⟩ := h
  have c1 : w.cell? ⟨x, 1, none⟩ = some (.slice Ai k ci) := by have := h1.box.cell 1; rw [il_len] at this; exact this
  have HI := Lib.hid h1.oi.rs.1
  have hnk : nx ≤ (k : Int) + 1 := by
    rcases Int.lt_or_le ((k : Int) + 1) nx with h3 | h3
    · have := h2 ((k : Int) + 1) (hlow _ (by omega) h3)
      omega
    · exact h3
  have HL := Lib.hid hlow; have HNO := Lib.hid hno
  clear h1 h2 hlow hno
  go_enter Try.func43, Try.ntmps43
  go_wp2_with fail
  go_loopw [3] (fun s3 wr => ∃ n : Int, 1 ≤ n ∧ n ≤ nx ∧ s3 = .int .i64 n ∧ wr = w) (fun s3 _ => (nx - intOf s3).toNat)
  case atStart => exact ⟨1, by omega, hn, (by first | rfl | trivial), (by first | rfl | trivial)⟩
  case round =>
    obtain ⟨n, h3, h4, rfl, rfl⟩ := hrel
    obtain ⟨j, hj⟩ : ∃ j : Nat, n = (j : Int) + 1 := ⟨(n - 1).toNat, by omega⟩
    by_cases hlt : n < nx
    · have hjk : j < k := by omega
      obtain ⟨b, o, hA, _, hc⟩ := HI.out.at_ (il_at In hjk)
      have d0 := hc 0 (.bool (In ((j : Int) + 1))) rfl
      have hin : In ((j : Int) + 1) = true := HL.out _ (by omega) (by omega)
      rw [hin] at d0
      simp only [Nat.mul_one, Nat.add_zero] at d0
      subst hA
      have e1 : IntKind.i64.wrap (n - 1) = (j : Int) := by rw [show n - 1 = (j : Int) by omega]; exact IntWalk.i64_in _ (by omega)
      have e2 : IntKind.i64.wrap (n + 1) = n + 1 := IntWalk.i64_in _ (by omega)
      have g1 : n ≤ (k : Int) := by omega
      clear hc hin hj
      go_wp2_with fail
      exact ⟨⟨n + 1, by omega, by omega, (by first | rfl | trivial), (by first | rfl | trivial)⟩, by simp only [intOf]; omega⟩
    · have hne : n = nx := by omega
      subst hne
      by_cases hjk : j < k
      · obtain ⟨b, o, hA, _, hc⟩ := HI.out.at_ (il_at In hjk)
        have d0 := hc 0 (.bool (In ((j : Int) + 1))) rfl
        have hin : In ((j : Int) + 1) = false := by rw [← hj]; exact HNO.out
        rw [hin] at d0
        simp only [Nat.mul_one, Nat.add_zero] at d0
        subst hA
        have e1 : IntKind.i64.wrap (n - 1) = (j : Int) := by rw [show n - 1 = (j : Int) by omega]; exact IntWalk.i64_in _ (by omega)
        have g1 : n ≤ (k : Int) := by omega
        clear hc hin hj
        go_wp2_with fail
        go_ret
        exact ⟨rfl, Fine.refl _⟩
      · have g1 : ¬ n ≤ (k : Int) := by omega
        clear hj
        go_wp2_with fail
        go_ret
        exact ⟨rfl, Fine.refl _⟩
end
end Go.Proofs.Ytnigfdldfmiaiaa
namespace Go.Proofs.Ytnigfdldfmiaiaa
set_option linter.unusedVariables false
set_option linter.unusedSimpArgs false
open Go.ChangeShapes Go.WideShapes Go.ChangeAt Go.RowKit Go.Maps
set_option linter.unusedVariables false
set_option linter.unusedSimpArgs false
section
variable {G : Nat → Prop} {x : Nat} {In : Int → Bool} {B : Int → Int} {rd nx e : Int} {k : Nat}
/-- What Tell answers. -/
def TellOf (G : Nat → Prop) (x : Nat) (In : Int → Bool) (B : Int → Int) (rd nx e : Int) (k : Nat) (dsn : Int) (w : World) (r : Ending) (w' : World) : Prop :=
  Kept G w w' ∧ ((r = .returned (.bool true) ∧ endB In rd nx e dsn ∧ ReS G w' x In B rd dsn k) ∨ (r = .returned (.bool false) ∧ ¬ endB In rd nx e dsn ∧ ReS G w' x In B rd e k))
set_option maxHeartbeats 2000000 in
set_option maxRecDepth 20000 in
theorem retell_any (dsn : Int) (hd : -9223372036854775808 ≤ dsn ∧ dsn ≤ 9223372036854775807) (hi : Inv In B rd nx e) (hk : k ≤ 1000000) (w : World) (h : ReS G w x In B rd e k) :
    Calls Try.prog 45 #[.pointer (some ⟨x, 0, none⟩), .int .i64 dsn] w (TellOf G x In B rd nx e k dsn w) := by
  have hrn := hi.rn; have hr0 := hi.r0; have hbig := hi.big; have hen := hi.en
  have HNX := Lib.hid (fun w' (f : Fine w w') => renext_any (nx := nx) w' (by omega) hi.low hi.no hk (h.fine f))
  have HED := Lib.hid (fun w' (f : Fine w w') => reedge_any w' (by omega) (h.fine f))
  have H := Lib.hid h; have HI := Lib.hid hi
  obtain ⟨ed, hed⟩ : ∃ z, rd + 33 = z := ⟨_, rfl⟩
  rw [hed] at HED
  have HE := Lib.hid hed
  have no : ∀ w', Fine w w' → ¬ endB In rd nx e dsn → TellOf G x In B rd nx e k dsn w (.returned (.bool false)) w' := fun w' f hn => ⟨Kept.of_fine f, .inr ⟨rfl, hn, H.out.fine f⟩⟩
  have NO := Lib.hid no
  have he0 : 0 ≤ e := by omega
  have hnx1 : 1 ≤ nx := by omega
  clear h hi hed no hen
  go_enter Try.func45, Try.ntmps45
  go_wp2_with fail
  refine (HNX.out w (Fine.refl w)).mono ?_
  rintro r w1 ⟨rfl, f1⟩
  have F1 := Lib.hid f1
  clear f1
  by_cases h1 : dsn < nx
  · go_wp2_with fail
    go_ret
    exact NO.out w1 F1.out (fun hh => by have := hh.1; omega)
  · go_wp2_with fail
    refine (HED.out w1 F1.out).mono ?_
    rintro r w2 ⟨rfl, f2⟩
    have F2 := Lib.hid (F1.out.trans f2)
    obtain ⟨Ab, cb, Ai, ci, hX, hkk⟩ := H.out.fine F2.out
    have c3 : w2.cell? ⟨x, 3, none⟩ = some (.int .i64 e) := hX.box.cell 3
    have c1 : w2.cell? ⟨x, 1, none⟩ = some (.slice Ai k ci) := by have := hX.box.cell 1; rw [il_len] at this; exact this
    have z3 := hX.box.frozen 3
    have HX := Lib.hid hX; have HKK := Lib.hid hkk
    clear f2 hX hkk
    by_cases h2 : ed < dsn
    · have h2' : dsn > ed := h2
      go_wp2_with fail
      go_ret
      exact NO.out w2 F2.out (fun hh => by have := hh.2.1; have := HE.out; omega)
    · have h2' : ¬ dsn > ed := h2
      by_cases h3 : 0 < e ∧ e ≠ dsn
      · have h3a : e > 0 := h3.1
        have h3b : (e != dsn) = true := by simpa using h3.2
        have h3c : (e == dsn) = false := by simpa using h3.2
        have H3 := Lib.hid h3
        clear h3
        go_wp2_with fail
        go_ret
        exact NO.out w2 F2.out (fun hh => by have := hh.2.2.1; have := H3.out; omega)
      · have h4 : e = 0 ∨ e = dsn := by omega
        have H4 := Lib.hid h4
        have key : ∀ K : Prop, (e = 0 → K) → (0 < e → e = dsn → K) → K := fun K a b => by
          by_cases h0 : e = 0
          · exact a h0
          · exact b (by omega) (h4.resolve_left h0)
        have KEY := Lib.hid key
        clear key h3 h4
        refine KEY.out _ (fun q => ?_) (fun q1 q2 => ?_)
        · have q3 : ¬ e > 0 := by omega
          have q4 : decide (0 < e) = false := by simp; omega
          have HQ := Lib.hid q
          clear q
          go_wp2_with fail
          go_loopw [5] (fun s5 wr => ∃ n : Int, dsn ≤ n ∧ n ≤ (k : Int) + 1 + dsn ∧ s5 = .int .i64 n ∧ wr = w2 ∧ Hid (∀ m, dsn ≤ m → m < n → In m = false)) (fun s5 _ => ((k : Int) + 1 + dsn - intOf s5).toNat)
          case atStart => exact ⟨dsn, by omega, by omega, (by first | rfl | trivial), (by first | rfl | trivial), Lib.hid (fun m a b => by omega)⟩
          case round =>
            obtain ⟨n, h5, h6, rfl, rfl, HM⟩ := hrel
            by_cases hle : n ≤ (k : Int)
            · obtain ⟨j, hj⟩ : ∃ j : Nat, n = (j : Int) + 1 := ⟨(n - 1).toNat, by omega⟩
              have hjk : j < k := by omega
              obtain ⟨b, o, hA, _, hc⟩ := HX.out.oi.rs.1.at_ (il_at In hjk)
              have d0 := hc 0 (.bool (In ((j : Int) + 1))) rfl
              obtain ⟨q, hq⟩ : ∃ q, In ((j : Int) + 1) = q := ⟨_, rfl⟩
              rw [hq] at d0
              simp only [Nat.mul_one, Nat.add_zero] at d0
              subst hA
              have HQQ : Hid (In n = q) := Lib.hid (by rw [hj]; exact hq)
              have e1 : IntKind.i64.wrap (n - 1) = (j : Int) := by rw [show n - 1 = (j : Int) by omega]; exact IntWalk.i64_in _ (by omega)
              have e2 : IntKind.i64.wrap (n + 1) = n + 1 := IntWalk.i64_in _ (by omega)
              clear hc hq hj
              cases q
              · go_wp2_with fail
                refine ⟨⟨n + 1, by omega, by omega, (by first | rfl | trivial), (by first | rfl | trivial), Lib.hid (fun m a b => ?_)⟩, by simp only [intOf]; omega⟩
                by_cases hmn : m = n
                · rw [hmn]; exact HQQ.out
                · exact HM.out m a (by omega)
              · go_wp2_with fail
                go_ret
                exact NO.out _ F2.out (fun hh => by have := hh.2.2.2 n HQQ.out; omega)
            · have hb : Hid (endB In rd nx e dsn) := Lib.hid ⟨by omega, by have := HE.out; omega, H4.out, fun m hm => by
                rcases Int.lt_or_le m dsn with h7 | h7
                · exact h7
                · have h8 := HKK.out m hm
                  rw [HM.out m h7 (by omega)] at hm
                  cases hm⟩
              go_wp2_with fail
              go_ret
              have hx1 := HX.out.setE dsn
              exact ⟨(Kept.of_fine F2.out).setIn (p := ⟨x, 3, none⟩) HX.out.gx _, .inl ⟨rfl, hb.out, ⟨Ab, cb, _, ci, hx1, HKK.out⟩⟩⟩
        · have q3 : e > 0 := q1
          have q5 : (e == dsn) = true := by simpa using q2
          have q6 : (e != dsn) = false := by simpa using q2
          clear q1 q2
          go_wp2_with fail
          go_loopw [5] (fun s5 wr => ∃ n : Int, dsn ≤ n ∧ n ≤ (k : Int) + 1 + dsn ∧ s5 = .int .i64 n ∧ wr = w2 ∧ Hid (∀ m, dsn ≤ m → m < n → In m = false)) (fun s5 _ => ((k : Int) + 1 + dsn - intOf s5).toNat)
          case atStart => exact ⟨dsn, by omega, by omega, (by first | rfl | trivial), (by first | rfl | trivial), Lib.hid (fun m a b => by omega)⟩
          case round =>
            obtain ⟨n, h5, h6, rfl, rfl, HM⟩ := hrel
            by_cases hle : n ≤ (k : Int)
            · obtain ⟨j, hj⟩ : ∃ j : Nat, n = (j : Int) + 1 := ⟨(n - 1).toNat, by omega⟩
              have hjk : j < k := by omega
              obtain ⟨b, o, hA, _, hc⟩ := HX.out.oi.rs.1.at_ (il_at In hjk)
              have d0 := hc 0 (.bool (In ((j : Int) + 1))) rfl
              obtain ⟨q, hq⟩ : ∃ q, In ((j : Int) + 1) = q := ⟨_, rfl⟩
              rw [hq] at d0
              simp only [Nat.mul_one, Nat.add_zero] at d0
              subst hA
              have HQQ : Hid (In n = q) := Lib.hid (by rw [hj]; exact hq)
              have e1 : IntKind.i64.wrap (n - 1) = (j : Int) := by rw [show n - 1 = (j : Int) by omega]; exact IntWalk.i64_in _ (by omega)
              have e2 : IntKind.i64.wrap (n + 1) = n + 1 := IntWalk.i64_in _ (by omega)
              clear hc hq hj
              cases q
              · go_wp2_with fail
                refine ⟨⟨n + 1, by omega, by omega, (by first | rfl | trivial), (by first | rfl | trivial), Lib.hid (fun m a b => ?_)⟩, by simp only [intOf]; omega⟩
                by_cases hmn : m = n
                · rw [hmn]; exact HQQ.out
                · exact HM.out m a (by omega)
              · go_wp2_with fail
                go_ret
                exact NO.out _ F2.out (fun hh => by have := hh.2.2.2 n HQQ.out; omega)
            · have hb : Hid (endB In rd nx e dsn) := Lib.hid ⟨by omega, by have := HE.out; omega, H4.out, fun m hm => by
                rcases Int.lt_or_le m dsn with h7 | h7
                · exact h7
                · have h8 := HKK.out m hm
                  rw [HM.out m h7 (by omega)] at hm
                  cases hm⟩
              go_wp2_with fail
              go_ret
              have hx1 := HX.out.setE dsn
              exact ⟨(Kept.of_fine F2.out).setIn (p := ⟨x, 3, none⟩) HX.out.gx _, .inl ⟨rfl, hb.out, ⟨Ab, cb, _, ci, hx1, HKK.out⟩⟩⟩
def lenAt (w : World) (x : Nat) : Nat := match w.cell? ⟨x, 1, none⟩ with | some (.slice _ n _) => n | _ => 0
theorem lenAt_eq {w : World} {x : Nat} {A : Option Addr} {n c : Nat} (h : w.cell? ⟨x, 1, none⟩ = some (.slice A n c)) : lenAt w x = n := by
  unfold lenAt
  rw [h]
theorem il_succ (In : Int → Bool) (k : Nat) : il In (k + 1) = il In k ++ [In ((k : Int) + 1)] := by unfold il; rw [List.range_succ, List.map_append]; rfl
theorem bl_succ (In : Int → Bool) (B : Int → Int) (k : Nat) : bl In B (k + 1) = bl In B k ++ [if In ((k : Int) + 1) = true then B ((k : Int) + 1) else 0] := by unfold bl; rw [List.range_succ, List.map_append]; rfl
/-- What Put has done by its i-th byte. -/
def prI (In : Int → Bool) (rd nx e dsn : Int) (i : Nat) (m : Int) : Bool := In m || (tkB In rd nx e m && (decide (dsn ≤ m) && decide (m < dsn + i)))
def prV (In : Int → Bool) (rd nx e dsn : Int) (bs : List Int) (i : Nat) (B : Int → Int) (m : Int) : Int := if (tkB In rd nx e m && (decide (dsn ≤ m) && decide (m < dsn + i))) = true then bs.getD (m - dsn).toNat 0 else B m
theorem pr_rng (dsn : Int) (i : Nat) (m : Int) : (decide (dsn ≤ m) && decide (m < dsn + ((i + 1 : Nat) : Int))) = ((decide (dsn ≤ m) && decide (m < dsn + (i : Int))) || decide (m = dsn + i)) := by
  rw [Bool.eq_iff_iff]
  simp
  omega
end
end Go.Proofs.Ytnigfdldfmiaiaa
namespace Go.Proofs.Ytnigfdldfmiaiaa
set_option linter.unusedVariables false
set_option linter.unusedSimpArgs false
open Go.ChangeShapes Go.WideShapes Go.ChangeAt Go.RowKit Go.Maps
set_option linter.unusedVariables false
set_option linter.unusedSimpArgs false
section
variable {In : Int → Bool} {B : Int → Int} {rd nx e dsn : Int} {bs : List Int} {i : Nat}
theorem prI_zero : prI In rd nx e dsn 0 = In := funext fun m => by
  unfold prI
  rw [show (decide (dsn ≤ m) && decide (m < dsn + ((0 : Nat) : Int))) = false by simp]
  simp
theorem prV_zero : prV In rd nx e dsn bs 0 B = B := funext fun m => by
  unfold prV
  rw [show (decide (dsn ≤ m) && decide (m < dsn + ((0 : Nat) : Int))) = false by simp]
  simp
theorem prI_skip (h : tkB In rd nx e (dsn + i) = false) : prI In rd nx e dsn (i + 1) = prI In rd nx e dsn i := funext fun m => by
  unfold prI
  rw [pr_rng]
  by_cases hm : m = dsn + i
  · subst hm
    rw [h]; simp
  · rw [decide_eq_false hm, Bool.or_false]
theorem prV_skip (h : tkB In rd nx e (dsn + i) = false) : prV In rd nx e dsn bs (i + 1) B = prV In rd nx e dsn bs i B := funext fun m => by
  unfold prV
  rw [pr_rng]
  by_cases hm : m = dsn + i
  · subst hm
    rw [h]; simp
  · rw [decide_eq_false hm, Bool.or_false]
theorem pr_here : prI In rd nx e dsn i (dsn + i) = In (dsn + i) := by
  unfold prI
  rw [show decide (dsn + (i : Int) < dsn + (i : Int)) = false by simp]
  simp
theorem pr_take (h : tkB In rd nx e (dsn + i) = true) : prI In rd nx e dsn (i + 1) (dsn + i) = true ∧ prV In rd nx e dsn bs (i + 1) B (dsn + i) = bs.getD i 0 := by
  unfold prI prV
  rw [pr_rng, h]
  simp [show (dsn + (i : Int) - dsn).toNat = i by omega]
theorem pr_far {m : Int} (h : m ≠ dsn + i) : prI In rd nx e dsn (i + 1) m = prI In rd nx e dsn i m ∧ prV In rd nx e dsn bs (i + 1) B m = prV In rd nx e dsn bs i B m := by
  unfold prI prV
  rw [pr_rng, decide_eq_false h, Bool.or_false]
  exact ⟨rfl, rfl⟩
theorem prI_le {k : Int} (h : ∀ n, In n = true → n ≤ k) (hk : rd + 33 ≤ k) : ∀ n, prI In rd nx e dsn i n = true → n ≤ k := fun n hn => by
  unfold prI at hn
  rw [Bool.or_eq_true, Bool.and_eq_true] at hn
  rcases hn with hn | hn
  · exact h n hn
  · have := tkB_iff.mp hn.1
    omega
end
section
variable {G : Nat → Prop} {w : World} {x gi : Nat} {Ab Ai : Option Addr} {cb ci : Nat} {lb : List Int} {li : List Bool} {rd e : Int}
theorem ReX.putI (h : ReX G w x Ab cb (some ⟨gi, 0, none⟩) ci lb li rd e) {j : Nat} {b0 : Bool} (hj : li[j]? = some b0) (b : Bool) : ReX G (w.setCell ⟨gi, j, none⟩ (.bool b)) x Ab cb (some ⟨gi, 0, none⟩) ci lb (li.set j b) rd e := by
  have k : Kept (· = gi) w (w.setCell ⟨gi, j, none⟩ (.bool b)) := (Kept.refl (· = gi) w).setIn (p := ⟨gi, j, none⟩) rfl _
  have h1 := h.oi.stored (i := j) (j := 0) hj (by omega) (u := .bool b) (y := b) rfl
  have hbx := h.box.kept k (fun e => h.ni gi rfl e.symm)
  refine ⟨?_, h.ob.kept k (fun y hy e => (h.nb y hy).2 (by rw [e]; rfl)), ?_, h.gx, h.gb, ?_, fun y hy => Nat.lt_of_lt_of_le (h.lt y hy) k.size⟩
  · rw [List.length_set]; exact hbx
  · rw [List.length_set]
    simpa using h1
  · rw [List.length_set]; exact h.gi
theorem ReX.putB {gb : Nat} (h : ReX G w x (some ⟨gb, 0, none⟩) cb Ai ci lb li rd e) {j : Nat} {b0 : Int} (hj : lb[j]? = some b0) (b : Int) : ReX G (w.setCell ⟨gb, j, none⟩ (.int .u8 b)) x (some ⟨gb, 0, none⟩) cb Ai ci (lb.set j b) li rd e := by
  have k : Kept (· = gb) w (w.setCell ⟨gb, j, none⟩ (.int .u8 b)) := (Kept.refl (· = gb) w).setIn (p := ⟨gb, j, none⟩) rfl _
  have h1 := h.ob.stored (i := j) (j := 0) hj (by omega) (u := .int .u8 b) (y := b) rfl
  have hbx := h.box.kept k (fun e => (h.nb gb rfl).1 e.symm)
  refine ⟨?_, ?_, h.oi.kept k (fun y hy e => (h.nb gb rfl).2 (by rw [← e]; exact hy)), h.gx, ?_, h.gi, fun y hy => Nat.lt_of_lt_of_le (h.lt y hy) k.size⟩
  · rw [List.length_set]; exact hbx
  · rw [List.length_set]
    simpa using h1
  · rw [List.length_set]; exact h.gb
end
theorem tk_no {In : Int → Bool} {rd nx e m : Int} (h : ¬ (nx ≤ m ∧ m < rd + 33 ∧ (e = 0 ∨ m < e) ∧ In m = false)) : tkB In rd nx e m = false := by
  cases e5 : tkB In rd nx e m with
  | false => rfl
  | true => exact absurd (tkB_iff.mp e5) h
set_option maxHeartbeats 4000000 in
set_option maxRecDepth 20000 in
theorem reput_any {G : Nat → Prop} {x : Nat} {In : Int → Bool} {B : Int → Int} {rd nx e : Int} {k : Nat} (dsn : Int) (hd : -1000 ≤ dsn ∧ dsn ≤ 1099511627776) (hi : Inv In B rd nx e) (hk : k ≤ 900000) (bs : List Int) (n cB : Nat) (AB : Option Addr) (hn : bs.length = n) (hnb : n ≤ 100000) (w : World) (hrs : RS layB w AB cB bs) (hab : 0 < n → ∀ b o, AB = some ⟨b, o, none⟩ → ¬ G b) (h : ReS G w x In B rd e k) :
    Calls Try.prog 44 #[.pointer (some ⟨x, 0, none⟩), .int .i64 dsn, .slice AB n cB] w fun r w' => r = .returned (.int .i64 (cntP (fun j => tkB In rd nx e (dsn + j)) n)) ∧ (∃ G' k', ReS G' w' x (prI In rd nx e dsn n) (prV In rd nx e dsn bs n B) rd e k' ∧ k' ≤ 1000000 ∧ k' ≤ max k (rd + 33).toNat ∧ ∀ y, G' y → G y ∨ w.heap.size ≤ y) ∧ Kept G w w' := by
  have hrn := hi.rn; have hr0 := hi.r0; have hbig := hi.big; have hen := hi.en; have hnr := hi.nr
  have H := Lib.hid h; have HI := Lib.hid hi; have HN := Lib.hid hn; have HRS := Lib.hid hrs; have HAB := Lib.hid hab
  obtain ⟨ed, hed⟩ : ∃ z : Nat, rd + 33 = (z : Int) := ⟨(rd + 33).toNat, by omega⟩
  have HE := Lib.hid hed
  have hedb : ed ≤ 1000000 := by omega
  have hg0 : ¬ dsn < -1000 := by omega
  have he0 : 0 ≤ e := by omega
  clear h hi hn hrs hab hed hen
  go_enter Try.func44, Try.ntmps44
  go_wp2_with fail
  go_loopw [] (fun wr => Hid (∃ G2 k2, ReS G2 wr x In B rd e k2 ∧ k ≤ k2 ∧ k2 ≤ max k ed ∧ Kept G w wr ∧ (∀ y, G2 y → G y ∨ w.heap.size ≤ y))) (fun wr => ed - lenAt wr x)
  case atStart => exact Lib.hid ⟨G, k, H.out, Nat.le_refl _, by omega, Kept.refl _ _, fun y hy => .inl hy⟩
  case round =>
    obtain ⟨G2, k2, j1, j2, j3, j4, j5⟩ := hrel.out
    obtain ⟨Ab, cb, Ai, ci, hX, hkk⟩ := j1
    have HX := Lib.hid hX; have HKK := Lib.hid hkk; have J4 := Lib.hid j4; have J5 := Lib.hid j5
    have c1 : wr.cell? ⟨x, 1, none⟩ = some (.slice Ai k2 ci) := by have := hX.box.cell 1; rw [il_len] at this; exact this
    have HLA := Lib.hid (lenAt_eq c1)
    have q1 : ∀ p : FineBy wr, p.W.cell? ⟨x, 1, none⟩ = some (.slice Ai k2 ci) := fun p => by have := (HX.out.box.fine p.h).cell 1; rw [il_len] at this; exact this
    have HED : Hid (∀ p : FineBy wr, Calls Try.prog 81 #[.pointer (some ⟨x, 0, none⟩)] p.W fun r w' => r = .returned (.int .i64 (ed : Int)) ∧ Fine p.W w') := Lib.hid (fun p => by rw [← HE.out]; exact reedge_any p.W (by omega) ⟨Ab, cb, Ai, ci, HX.out.fine p.h, HKK.out⟩)
    clear j4 j5 hX hkk hrel c1
    go_upto_region 2 with fail
    refine wp_region_quiet_fine (by kernel_rfl) (by kernel_rfl) ?_
    repeat (quiet_step (exact Calls.fine_of (HED.out _)))
    refine wpQuiet_nil ?_
    intro wf hwf'
    have hwf := FineBy.of hwf'
    clear hwf' q1
    have X1 := Lib.hid (HX.out.fine hwf); have K1 := Lib.hid (J4.out.trans (Kept.of_fine hwf))
    clear hwf
    by_cases hlt : k2 < ed
    · have hlt2 : (k2 : Int) < (ed : Int) := by omega
      have hin0 : In ((k2 : Int) + 1) = false := by
        cases e : In ((k2 : Int) + 1) with
        | false => rfl
        | true => have := HKK.out _ e; omega
      have HI0 := Lib.hid hin0
      have c1 : wf.cell? ⟨x, 1, none⟩ = some (.slice Ai k2 ci) := by have := X1.out.box.cell 1; rw [il_len] at this; exact this
      have hil : Hid ((il In k2).length = k2) := Lib.hid (il_len In k2)
      have hbl : Hid ((bl In B k2).length = k2) := Lib.hid (bl_len In B k2)
      clear hin0
      go_upto_region 4 with (at_builtin; refine wpList_appE rfl sliceT (.tmp 22) (.tmp 23) rfl 0 (.slice Ai k2 ci) (il In k2) rfl (by have := (X1.out.fine ((Fine.refl wf).alloc (.cells #[.bool false] 4))).oi; rw [hil.out] at this; exact this) (some ⟨wf.heap.size, 0, none⟩) 1 1 [false] rfl rfl (RS.ofBlk (Blk.newAt rfl) rfl rfl (by unfold maxLen; omega)) (by rw [hil.out]; simp; omega) (by rw [hil.out]; simp; unfold maxLen; omega) (Nat.zero_le _) ?_; intro A3 c3 w3 ho3 kk3 gg3; have XA := Lib.hid (X1.out.fine ((Fine.refl wf).alloc (.cells #[.bool false] 4))); have K3 : Hid (Kept (fun y => (Value.slice Ai (il In k2).length ci).ownBlock = some y) (wf.alloc (.cells #[.bool false] 4)) w3) := Lib.hid (by rw [hil.out]; exact Kept.grown (Kept.refl _ _) gg3.out.1 (fun k hk _ => hk)); have bx3 := XA.out.box.kept K3.out (fun e => XA.out.ni x e rfl); have d1 := bx3.cell 1; have z1 := bx3.frozen 1; have BX3 := Lib.hid bx3; clear bx3)
      have XI : ReX (Grew G2 (wf.alloc (.cells #[.bool false] 4)) w3) (w3.setCell ⟨x, 1, none⟩ (.slice A3 ((il In k2).length + 1) c3)) x Ab cb A3 c3 (bl In B k2) (il In (k2 + 1)) rd e := by
        rw [il_succ, HI0.out]
        exact XA.out.moreI K3.out (by simp) ho3.out (gg3.out.2.imp (fun h => by rw [hil.out] at h ⊢; exact h) (fun h y hy => by have h2 := h.symm.trans hy; injection h2 with h2; omega))
      have sz1 := K1.out.size; have sz2 := ((Fine.refl wf).alloc (.cells #[.bool false] 4)).size
      have GI : ∀ y, Grew G2 (wf.alloc (.cells #[.bool false] 4)) w3 y → G y ∨ w.heap.size ≤ y := fun y hy => hy.elim (J5.out y) (fun h => .inr (by omega))
      have KI : Kept G w (w3.setCell ⟨x, 1, none⟩ (.slice A3 ((il In k2).length + 1) c3)) := ((K1.out.trans (Kept.of_fine ((Fine.refl wf).alloc _))).transG K3.out (fun _ _ h => h) (fun y hy e => (J5.out y (XA.out.gi y e)).elim id (fun h => by omega))).setCell (p := ⟨x, 1, none⟩) (fun hh => (J5.out x XA.out.gx).elim id (fun h => by have hh : x < w.heap.size := hh; omega)) _
      have hl1 : Hid (lenAt (w3.setCell ⟨x, 1, none⟩ (.slice A3 ((il In k2).length + 1) c3)) x = k2 + 1) := Lib.hid (by have := XI.box.cell 1; rw [il_len In (k2 + 1)] at this; exact lenAt_eq this)
      have XIH := Lib.hid XI; have GIH := Lib.hid GI; have KIH := Lib.hid KI
      clear XI GI KI sz1 sz2 gg3 kk3 ho3 K3 BX3 d1 z1 XA c1 J5 X1 K1
      generalize hW : w3.setCell ⟨x, 1, none⟩ (.slice A3 ((il In k2).length + 1) c3) = w4 at XIH KIH hl1 ⊢
      generalize Grew G2 (wf.alloc (.cells #[.bool false] 4)) w3 = G4 at XIH GIH
      clear hW
      have c0 : w4.cell? ⟨x, 0, none⟩ = some (.slice Ab k2 cb) := by have := XIH.out.box.cell 0; rw [bl_len] at this; exact this
      go_wp2_with (at_builtin; refine wpList_appE rfl sliceB (.tmp 31) (.tmp 32) rfl 0 (.slice Ab k2 cb) (bl In B k2) rfl (by have := (XIH.out.fine ((Fine.refl w4).alloc (.cells #[.int .u8 0] 5))).ob; rw [hbl.out] at this; exact this) (some ⟨w4.heap.size, 0, none⟩) 1 1 [0] rfl rfl (RS.ofBlk (Blk.newAt rfl) rfl rfl (by unfold maxLen; omega)) (by rw [hbl.out]; simp; omega) (by rw [hbl.out]; simp; unfold maxLen; omega) (Nat.zero_le _) ?_; intro A5 c5 w5 ho5 kk5 gg5; have XB := Lib.hid (XIH.out.fine ((Fine.refl w4).alloc (.cells #[.int .u8 0] 5))); have K5 : Hid (Kept (fun y => (Value.slice Ab (bl In B k2).length cb).ownBlock = some y) (w4.alloc (.cells #[.int .u8 0] 5)) w5) := Lib.hid (by rw [hbl.out]; exact Kept.grown (Kept.refl _ _) gg5.out.1 (fun k hk _ => hk)); have bx5 := XB.out.box.kept K5.out (fun e => (XB.out.nb x e).1 rfl); have d0 := bx5.cell 0; have z0 := bx5.frozen 0; clear bx5)
      have XJ : ReX (Grew G4 (w4.alloc (.cells #[.int .u8 0] 5)) w5) (w5.setCell ⟨x, 0, none⟩ (.slice A5 ((bl In B k2).length + 1) c5)) x A5 c5 A3 c3 (bl In B (k2 + 1)) (il In (k2 + 1)) rd e := by
        rw [bl_succ, HI0.out]
        exact XB.out.moreB K5.out (by simp) ho5.out (gg5.out.2.imp (fun h => by rw [hbl.out] at h ⊢; exact h) (fun h y hy => by have h2 := h.symm.trans hy; injection h2 with h2; omega))
      have sz1 := KIH.out.size; have sz2 := ((Fine.refl w4).alloc (.cells #[.int .u8 0] 5)).size
      have GJ : ∀ y, Grew G4 (w4.alloc (.cells #[.int .u8 0] 5)) w5 y → G y ∨ w.heap.size ≤ y := fun y hy => hy.elim (GIH.out y) (fun h => .inr (by omega))
      have KJ : Kept G w (w5.setCell ⟨x, 0, none⟩ (.slice A5 ((bl In B k2).length + 1) c5)) := ((KIH.out.trans (Kept.of_fine ((Fine.refl w4).alloc _))).transG K5.out (fun _ _ h => h) (fun y hy e => (GIH.out y (XB.out.gb y e)).elim id (fun h => by omega))).setCell (p := ⟨x, 0, none⟩) (fun hh => (GIH.out x XB.out.gx).elim id (fun h => by have hh : x < w.heap.size := hh; omega)) _
      have hl2 : lenAt (w5.setCell ⟨x, 0, none⟩ (.slice A5 ((bl In B k2).length + 1) c5)) x = k2 + 1 := by have := XJ.box.cell 1; rw [il_len In (k2 + 1)] at this; exact lenAt_eq this
      exact ⟨Lib.hid ⟨_, k2 + 1, ⟨A5, c5, A3, c3, XJ, fun n hn => by have := HKK.out n hn; omega⟩, by omega, by omega, KJ, GJ⟩, by rw [hl2, HLA.out]; omega⟩
    · obtain ⟨w1, hw1⟩ : ∃ w1, w1 = wf := ⟨_, rfl⟩
      subst hw1
      have hedk : rd + 33 ≤ (k2 : Int) := by have := HE.out; omega
      clear HX J4 HLA HED
      go_wp2_with fail
      have hg1 : ¬ dsn < -1000 := by omega
      simp only [decide_eq_false hlt, decide_eq_false hg1]
      go_loopw [7, 8] (fun s7 s8 wq => ∃ (i : Nat) (t : Int), i ≤ n ∧ s8 = .int .i64 i ∧ s7 = .int .i64 t ∧ (0 ≤ t ∧ t ≤ i) ∧ Hid (t = cntP (fun j => tkB In rd nx e (dsn + j)) i ∧ ReX G2 wq x Ab cb Ai ci (bl (prI In rd nx e dsn i) (prV In rd nx e dsn bs i B) k2) (il (prI In rd nx e dsn i) k2) rd e ∧ Kept G w wq)) (fun _ s8 _ => ((n : Int) - intOf s8).toNat)
      case atStart => exact ⟨0, 0, Nat.zero_le _, by simp, (by first | rfl | trivial), by omega, Lib.hid ⟨by rw [cntP_zero], by rw [prI_zero, prV_zero]; exact X1.out, K1.out⟩⟩
      case round =>
        obtain ⟨i, t, hi, rfl, rfl, ht, hI⟩ := hrel
        obtain ⟨i1, i2, i3⟩ := hI.out
        have C1 := Lib.hid i1; have Y1 := Lib.hid i2; have L1 := Lib.hid i3
        clear i1 i2 i3 hI X1 K1
        have e2 : IntKind.i64.wrap ((i : Int) + 1) = (i : Int) + 1 := IntWalk.i64_in _ (by omega)
        have e4 : IntKind.i64.wrap (t + 1) = t + 1 := IntWalk.i64_in _ (by omega)
        by_cases hlt : i < n
        · have hlt2 : (i : Int) < (n : Int) := by omega
          obtain ⟨m, hm⟩ : ∃ m, dsn + (i : Int) = m := ⟨_, rfl⟩
          have e1 : IntKind.i64.wrap (dsn + (i : Int)) = m := by rw [hm]; exact IntWalk.i64_in _ (by omega)
          have hmb : -1099511627776 ≤ m ∧ m ≤ 2199023255552 := by omega
          have HM := Lib.hid hm
          clear hm
          by_cases hm1 : m < 1
          · have YC := Y1; have LC := L1
            have HT : Hid (tkB In rd nx e (dsn + i) = false) := Lib.hid (by rw [HM.out]; exact tk_no (fun h => by omega))
            go_wp2_with fail
            exact ⟨⟨i + 1, t, hlt, by simp, (by first | rfl | trivial), by omega, Lib.hid ⟨by rw [cntP_succ, HT.out, ← C1.out]; simp, by rw [prI_skip HT.out, prV_skip HT.out]; exact YC.out, LC.out⟩⟩, by simp only [intOf]; omega⟩
          · have YS : ReS G2 wr x (prI In rd nx e dsn i) (prV In rd nx e dsn bs i B) rd e k2 := ⟨Ab, cb, Ai, ci, Y1.out, prI_le HKK.out hedk⟩
            have HED := Lib.hid (reedge_any wr (by omega) YS)
            rw [HE.out] at HED
            clear YS
            go_wp2_with fail
            refine HED.out.mono ?_
            rintro r w2 ⟨rfl, f2⟩
            have Y2 := Lib.hid (Y1.out.fine f2); have L2 := Lib.hid (L1.out.trans (Kept.of_fine f2))
            clear f2 HED
            by_cases hB : (ed : Int) ≤ m
            · have YC := Y2; have LC := L2
              have HT : Hid (tkB In rd nx e (dsn + i) = false) := Lib.hid (by rw [HM.out]; exact tk_no (fun h => by have := HE.out; omega))
              have hB' : m ≥ (ed : Int) := hB
              go_wp2_with fail
              exact ⟨⟨i + 1, t, hlt, by simp, (by first | rfl | trivial), by omega, Lib.hid ⟨by rw [cntP_succ, HT.out, ← C1.out]; simp, by rw [prI_skip HT.out, prV_skip HT.out]; exact YC.out, LC.out⟩⟩, by simp only [intOf]; omega⟩
            · have hB' : ¬ m ≥ (ed : Int) := hB
              obtain ⟨j, hj⟩ : ∃ j : Nat, (j : Int) + 1 = m := ⟨(m - 1).toNat, by omega⟩
              have hjk : j < k2 := by omega
              obtain ⟨gi, hgi, _, _⟩ := Y2.out.oi.head (by rw [il_len]; omega)
              subst hgi
              obtain ⟨_, _, hgi2, _, hc⟩ := Y2.out.oi.rs.1.at_ (il_at (prI In rd nx e dsn i) hjk)
              injection hgi2 with hgi2
              injection hgi2 with g1 g2
              subst g1 g2
              have d0 := hc 0 (.bool (prI In rd nx e dsn i ((j : Int) + 1))) rfl
              simp only [Nat.mul_one, Nat.add_zero, Nat.zero_add] at d0
              rw [hj, ← HM.out, pr_here, HM.out] at d0
              obtain ⟨q, hq⟩ : ∃ q, In m = q := ⟨_, rfl⟩
              rw [hq] at d0
              have HQ := Lib.hid hq
              have HJ := Lib.hid hj
              have e3 : IntKind.i64.wrap (m - 1) = (j : Int) := by rw [show m - 1 = (j : Int) by omega]; exact IntWalk.i64_in _ (by omega)
              have z0 := Y2.out.oi.frozen j
              have c3 : w2.cell? ⟨x, 3, none⟩ = some (.int .i64 e) := Y2.out.box.cell 3
              have c1 : w2.cell? ⟨x, 1, none⟩ = some (.slice (some ⟨gi, 0, none⟩) k2 ci) := by have := Y2.out.box.cell 1; rw [il_len] at this; exact this
              have key : ∀ K : Prop, (e = 0 → K) → (0 < e → m < e → K) → (0 < e → e ≤ m → K) → K := fun K a b c => by
                by_cases h0 : e = 0
                · exact a h0
                · rcases Int.lt_or_le m e with h9 | h9
                  · exact b (by omega) h9
                  · exact c (by omega) h9
              have KEY := Lib.hid key
              clear hc hq hj key Y1 L1
              refine KEY.out _ (fun p1 => ?_) (fun p1 p2 => ?_) (fun p1 p2 => ?_)
              · have q3 : ¬ e > 0 := by omega
                have q4 : decide (0 < e) = false := by simp; omega
                clear KEY
                have HP := Lib.hid p1
                clear p1
                cases q
                · go_upto_region 13 with fail
                  have hT : tkB In rd nx e m = true := tkB_iff.mpr ⟨by
                    rcases Int.lt_or_le m nx with h7 | h7
                    · have := HI.out.low m (by omega) h7
                      rw [HQ.out] at this
                      cases this
                    · exact h7, by have := HE.out; omega, by omega, HQ.out⟩
                  have HT : Hid (tkB In rd nx e (dsn + i) = true) := Lib.hid (by rw [HM.out]; exact hT)
                  have Z1 := Lib.hid (Y2.out.putI (j := j) (b0 := prI In rd nx e dsn i ((j : Int) + 1)) (il_at _ hjk) true)
                  have KZ : Hid (Kept G w (w2.setCell ⟨gi, j, none⟩ (.bool true))) := Lib.hid (L2.out.setCell (p := ⟨gi, j, none⟩) (fun hh => (J5.out gi (Y2.out.gi gi rfl)).elim id (fun h => by have hh : gi < w.heap.size := hh; omega)) _)
                  clear d0 z0 c1 c3 Y2 L2 hT
                  generalize w2.setCell ⟨gi, j, none⟩ (.bool true) = w4 at Z1 KZ ⊢
                  obtain ⟨gb, hgb, _, _⟩ := Z1.out.ob.head (by rw [bl_len]; omega)
                  subst hgb
                  have c0 : w4.cell? ⟨x, 0, none⟩ = some (.slice (some ⟨gb, 0, none⟩) k2 cb) := by have := Z1.out.box.cell 0; rw [bl_len] at this; exact this
                  obtain ⟨bb, o, hA, _, hcl⟩ := (HRS.out.kept KZ.out (HAB.out (by omega))).atI (i := i) (by rw [HN.out]; exact hlt)
                  obtain ⟨AB', hAB'⟩ : ∃ z, AB = z := ⟨_, rfl⟩
                  subst hA
                  obtain ⟨y, hy⟩ : ∃ y, bs.getD i 0 = y := ⟨_, rfl⟩
                  rw [hy] at hcl
                  have HY := Lib.hid hy
                  clear hy hAB'
                  go_still_tail 11, (by kernel_rfl)
                  change wpList _ _ _ _ _ w4.drew
                  have Z5 := Lib.hid (Z1.out.fine (Fine.refl w4).drew); have K5 := Lib.hid KZ.out.drew
                  generalize w4.drew = w5 at Z5 K5 ⊢
                  clear c0 hcl Z1 KZ
                  obtain ⟨_, _, hgb2, _, hc5⟩ := Z5.out.ob.rs.1.at_ (bl_at _ _ hjk)
                  injection hgb2 with hgb2
                  injection hgb2 with g1 g2
                  subst g1 g2
                  obtain ⟨old, hold⟩ : ∃ v, w5.cell? ⟨gb, j, none⟩ = some v := by
                    have := hc5 0 _ rfl
                    simp only [Nat.mul_one, Nat.add_zero, Nat.zero_add] at this
                    exact ⟨_, this⟩
                  have z5 := Z5.out.ob.frozen j
                  clear hc5
                  go_wp2_with fail
                  have Z6 := Z5.out.putB (j := j) (bl_at _ _ hjk) y
                  have PT := pr_take (bs := bs) (B := B) HT.out
                  have hij : ((j : Int) + 1) = dsn + i := by rw [HM.out, HJ.out]
                  refine ⟨⟨i + 1, t + 1, hlt, by simp, (by first | rfl | trivial), by omega, Lib.hid ⟨by rw [cntP_succ, HT.out, ← C1.out]; simp, ?_, K5.out.setCell (p := ⟨gb, j, none⟩) (fun hh => (J5.out gb (Z5.out.gb gb rfl)).elim id (fun h => by have hh : gb < w.heap.size := hh; omega)) _⟩⟩, by simp only [intOf]; omega⟩
                  rw [bl_set (prI In rd nx e dsn i) (prI In rd nx e dsn (i + 1)) (prV In rd nx e dsn bs i B) (prV In rd nx e dsn bs (i + 1) B) k2 j y (by rw [hij]; exact PT.1) (by rw [hij, ← HY.out]; exact PT.2) (fun z hz hzj => ⟨(pr_far (bs := bs) (B := B) (by omega)).1, fun _ => (pr_far (bs := bs) (B := B) (by omega)).2⟩), il_set (prI In rd nx e dsn i) (prI In rd nx e dsn (i + 1)) k2 j true (by rw [hij]; exact PT.1) (fun z hz hzj => (pr_far (bs := bs) (B := B) (by omega)).1)] at Z6
                  exact Z6
                · have HT : Hid (tkB In rd nx e (dsn + i) = false) := Lib.hid (by rw [HM.out]; exact tk_no (fun h => by rw [HQ.out] at h; exact absurd h.2.2.2 (by decide)))
                  have YC := Y2.out; have LC := L2.out
                  have YC := Lib.hid YC; have LC := Lib.hid LC
                  go_wp2_with fail
                  exact ⟨⟨i + 1, t, hlt, by simp, (by first | rfl | trivial), by omega, Lib.hid ⟨by rw [cntP_succ, HT.out, ← C1.out]; simp, by rw [prI_skip HT.out, prV_skip HT.out]; exact YC.out, LC.out⟩⟩, by simp only [intOf]; omega⟩
              · have q3 : e > 0 := p1
                have q5 : ¬ m ≥ e := by omega
                clear KEY
                cases q
                · go_upto_region 13 with fail
                  have hT : tkB In rd nx e m = true := tkB_iff.mpr ⟨by
                    rcases Int.lt_or_le m nx with h7 | h7
                    · have := HI.out.low m (by omega) h7
                      rw [HQ.out] at this
                      cases this
                    · exact h7, by have := HE.out; omega, by omega, HQ.out⟩
                  have HT : Hid (tkB In rd nx e (dsn + i) = true) := Lib.hid (by rw [HM.out]; exact hT)
                  have Z1 := Lib.hid (Y2.out.putI (j := j) (b0 := prI In rd nx e dsn i ((j : Int) + 1)) (il_at _ hjk) true)
                  have KZ : Hid (Kept G w (w2.setCell ⟨gi, j, none⟩ (.bool true))) := Lib.hid (L2.out.setCell (p := ⟨gi, j, none⟩) (fun hh => (J5.out gi (Y2.out.gi gi rfl)).elim id (fun h => by have hh : gi < w.heap.size := hh; omega)) _)
                  clear d0 z0 c1 c3 Y2 L2 hT
                  generalize w2.setCell ⟨gi, j, none⟩ (.bool true) = w4 at Z1 KZ ⊢
                  obtain ⟨gb, hgb, _, _⟩ := Z1.out.ob.head (by rw [bl_len]; omega)
                  subst hgb
                  have c0 : w4.cell? ⟨x, 0, none⟩ = some (.slice (some ⟨gb, 0, none⟩) k2 cb) := by have := Z1.out.box.cell 0; rw [bl_len] at this; exact this
                  obtain ⟨bb, o, hA, _, hcl⟩ := (HRS.out.kept KZ.out (HAB.out (by omega))).atI (i := i) (by rw [HN.out]; exact hlt)
                  obtain ⟨AB', hAB'⟩ : ∃ z, AB = z := ⟨_, rfl⟩
                  subst hA
                  obtain ⟨y, hy⟩ : ∃ y, bs.getD i 0 = y := ⟨_, rfl⟩
                  rw [hy] at hcl
                  have HY := Lib.hid hy
                  clear hy hAB'
                  go_still_tail 11, (by kernel_rfl)
                  change wpList _ _ _ _ _ w4.drew
                  have Z5 := Lib.hid (Z1.out.fine (Fine.refl w4).drew); have K5 := Lib.hid KZ.out.drew
                  generalize w4.drew = w5 at Z5 K5 ⊢
                  clear c0 hcl Z1 KZ
                  obtain ⟨_, _, hgb2, _, hc5⟩ := Z5.out.ob.rs.1.at_ (bl_at _ _ hjk)
                  injection hgb2 with hgb2
                  injection hgb2 with g1 g2
                  subst g1 g2
                  obtain ⟨old, hold⟩ : ∃ v, w5.cell? ⟨gb, j, none⟩ = some v := by
                    have := hc5 0 _ rfl
                    simp only [Nat.mul_one, Nat.add_zero, Nat.zero_add] at this
                    exact ⟨_, this⟩
                  have z5 := Z5.out.ob.frozen j
                  clear hc5
                  go_wp2_with fail
                  have Z6 := Z5.out.putB (j := j) (bl_at _ _ hjk) y
                  have PT := pr_take (bs := bs) (B := B) HT.out
                  have hij : ((j : Int) + 1) = dsn + i := by rw [HM.out, HJ.out]
                  refine ⟨⟨i + 1, t + 1, hlt, by simp, (by first | rfl | trivial), by omega, Lib.hid ⟨by rw [cntP_succ, HT.out, ← C1.out]; simp, ?_, K5.out.setCell (p := ⟨gb, j, none⟩) (fun hh => (J5.out gb (Z5.out.gb gb rfl)).elim id (fun h => by have hh : gb < w.heap.size := hh; omega)) _⟩⟩, by simp only [intOf]; omega⟩
                  rw [bl_set (prI In rd nx e dsn i) (prI In rd nx e dsn (i + 1)) (prV In rd nx e dsn bs i B) (prV In rd nx e dsn bs (i + 1) B) k2 j y (by rw [hij]; exact PT.1) (by rw [hij, ← HY.out]; exact PT.2) (fun z hz hzj => ⟨(pr_far (bs := bs) (B := B) (by omega)).1, fun _ => (pr_far (bs := bs) (B := B) (by omega)).2⟩), il_set (prI In rd nx e dsn i) (prI In rd nx e dsn (i + 1)) k2 j true (by rw [hij]; exact PT.1) (fun z hz hzj => (pr_far (bs := bs) (B := B) (by omega)).1)] at Z6
                  exact Z6
                · have HT : Hid (tkB In rd nx e (dsn + i) = false) := Lib.hid (by rw [HM.out]; exact tk_no (fun h => by rw [HQ.out] at h; exact absurd h.2.2.2 (by decide)))
                  have YC := Y2.out; have LC := L2.out
                  have YC := Lib.hid YC; have LC := Lib.hid LC
                  go_wp2_with fail
                  exact ⟨⟨i + 1, t, hlt, by simp, (by first | rfl | trivial), by omega, Lib.hid ⟨by rw [cntP_succ, HT.out, ← C1.out]; simp, by rw [prI_skip HT.out, prV_skip HT.out]; exact YC.out, LC.out⟩⟩, by simp only [intOf]; omega⟩
              · have q3 : e > 0 := p1
                have q5 : m ≥ e := p2
                have YC := Y2; have LC := L2
                have HT : Hid (tkB In rd nx e (dsn + i) = false) := Lib.hid (by rw [HM.out]; exact tk_no (fun h => by omega))
                clear KEY
                go_wp2_with fail
                exact ⟨⟨i + 1, t, hlt, by simp, (by first | rfl | trivial), by omega, Lib.hid ⟨by rw [cntP_succ, HT.out, ← C1.out]; simp, by rw [prI_skip HT.out, prV_skip HT.out]; exact YC.out, LC.out⟩⟩, by simp only [intOf]; omega⟩
        · have hie : i = n := by omega
          have hlt2 : ¬ (i : Int) < (n : Int) := by omega
          subst hie
          go_wp2_with fail
          go_ret
          exact ⟨by rw [C1.out]; rfl, ⟨G2, k2, ⟨Ab, cb, Ai, ci, Y1.out, prI_le HKK.out hedk⟩, by omega, by have := HE.out; omega, J5.out⟩, L1.out⟩
end Go.Proofs.Ytnigfdldfmiaiaa
namespace Go.Proofs.Ytnigfdldfmiaiaa
set_option linter.unusedVariables false
set_option linter.unusedSimpArgs false
open Go.ChangeShapes Go.WideShapes Go.ChangeAt Go.RowKit Go.Maps
set_option linter.unusedVariables false
set_option linter.unusedSimpArgs false
theorem size62 : (Try.prog.info? 62).map (·.size) = some 2 := by kernel_rfl
def len0At (w : World) (x : Nat) : Nat := match w.cell? ⟨x, 0, none⟩ with | some (.slice _ n _) => n | _ => 0
theorem len0At_eq {w : World} {x : Nat} {A : Option Addr} {n c : Nat} (h : w.cell? ⟨x, 0, none⟩ = some (.slice A n c)) : len0At w x = n := by
  unfold len0At
  rw [h]
theorem bufL_snoc (B : Int → Int) (rd : Int) (j : Nat) : bufL B rd (rd + j + 1 + 1) = bufL B rd (rd + j + 1) ++ [B (rd + j + 1)] := by
  unfold bufL
  rw [show (rd + j + 1 + 1 - 1 - rd).toNat = j + 1 by omega, show (rd + j + 1 - 1 - rd).toNat = j by omega, List.range_succ, List.map_append, List.map_singleton]
  congr 3
  omega
/-- What Get answers. -/
def GetOf (G : Nat → Prop) (x : Nat) (In : Int → Bool) (B : Int → Int) (rd nx e : Int) (k : Nat) (most : Int) (w : World) (r : Ending) (w' : World) : Prop :=
  ∃ A n c er xs rd', r = .returned (.agg #[.slice A n c, .int .i64 er]) ∧ RS layB w' A c xs ∧ xs.length = n ∧ (rd + 1 = nx → xs = [] ∧ er = (if e = nx then 11 else 10) ∧ rd' = rd) ∧ (rd + 1 ≠ nx → er = 0 ∧ rd' = rd + min (max most 0) (nx - 1 - rd) ∧ xs = bufL B rd (rd' + 1)) ∧
    ReS G w' x In B rd' e k ∧ Kept G w w'
set_option maxHeartbeats 4000000 in
set_option maxRecDepth 20000 in
theorem reget_any {G : Nat → Prop} {x : Nat} {In : Int → Bool} {B : Int → Int} {rd nx e : Int} {k : Nat} (most : Int) (hm : -9223372036854775808 ≤ most ∧ most ≤ 9223372036854775807) (hi : Inv In B rd nx e) (hk : k ≤ 1000000) (w : World) (h : ReS G w x In B rd e k) :
    Calls Try.prog 46 #[.pointer (some ⟨x, 0, none⟩), .int .i64 most] w (GetOf G x In B rd nx e k most w) := by
  have hrn := hi.rn; have hr0 := hi.r0; have hbig := hi.big; have hen := hi.en; have hnr := hi.nr
  have HNX := Lib.hid (fun w' (f : Fine w w') => renext_any (nx := nx) w' (by omega) hi.low hi.no hk (h.fine f))
  obtain ⟨x4, hx4⟩ : ∃ y, w.heap.size = y := ⟨_, rfl⟩
  have b4 := Blk.newAt (w := w) (t := 62) (cs := #[.slice none 0 0, .int .i64 0]) hx4.symm
  have f4 := (Fine.refl w).alloc (.cells #[.slice none 0 0, .int .i64 0] 62)
  have H := Lib.hid h; have HI := Lib.hid hi; have HX4 := Lib.hid hx4
  have hg4 : ¬ G x4 := fun hf => by have := h.lt _ hf; omega
  have HG4 := Lib.hid hg4
  clear h hi hg4 hen
  go_enter Try.func46, Try.ntmps46
  go_upto_region 1 with fail
  generalize w.alloc (.cells #[.slice none 0 0, .int .i64 0] 62) = w1 at b4 f4 ⊢
  have F1 := Lib.hid f4; have B1 := Lib.hid b4
  clear f4 b4 hx4
  go_wp2_with fail
  refine (HNX.out w1 F1.out).mono ?_
  rintro r w2 ⟨rfl, f2⟩
  have F2 := Lib.hid (F1.out.trans f2); have B2 := Lib.hid (B1.out.fine f2)
  clear f2
  obtain ⟨Ab, cb, Ai, ci, hX, hkk⟩ := H.out.fine F2.out
  have HX := Lib.hid hX; have HKK := Lib.hid hkk
  have c2 : w2.cell? ⟨x, 2, none⟩ = some (.int .i64 rd) := hX.box.cell 2
  have c3 : w2.cell? ⟨x, 3, none⟩ = some (.int .i64 e) := hX.box.cell 3
  have e1 : IntKind.i64.wrap (rd + 1) = rd + 1 := IntWalk.i64_in _ (by omega)
  have d0 : w2.cell? ⟨x4, 0, none⟩ = some (.slice none 0 0) := B2.out.cell 0
  have d1 : w2.cell? ⟨x4, 1, none⟩ = some (.int .i64 0) := B2.out.cell 1
  have z0 := B2.out.frozen 0
  have z1 := B2.out.frozen 1
  clear hX hkk
  by_cases h0 : rd + 1 = nx
  · have hz : (rd + 1 == nx) = true := by simpa using h0
    have H0 := Lib.hid h0
    clear h0
    have fin : ∀ er, er = (if e = nx then (11 : Int) else 10) → ∀ r, r = .returned (.agg #[.slice none 0 0, .int .i64 er]) → GetOf G x In B rd nx e k most w r ((w2.setCell ⟨x4, 0, none⟩ (.slice none 0 0)).setCell ⟨x4, 1, none⟩ (.int .i64 er)) := fun er her r hr => by
      have kk : Kept (· = x4) w2 ((w2.setCell ⟨x4, 0, none⟩ (.slice none 0 0)).setCell ⟨x4, 1, none⟩ (.int .i64 er)) := ((Kept.refl (· = x4) w2).setIn (p := ⟨x4, 0, none⟩) rfl _).setIn (p := ⟨x4, 1, none⟩) rfl _
      refine ⟨none, 0, 0, er, [], rd, hr, (Own.nil_ layB 5 _ 0).rs.1, rfl, fun _ => ⟨rfl, her, rfl⟩, fun hne => absurd H0.out hne, ?_, ?_⟩
      · exact ReS.kept ⟨Ab, cb, Ai, ci, HX.out, HKK.out⟩ kk (fun y hy e => HG4.out (e ▸ hy))
      · exact (Kept.of_fine F2.out).transG kk (fun _ _ h => h) (fun y hy e => by have := HX4.out; have e : y = x4 := e; omega)
    have FIN := Lib.hid fin
    have r1 : ∀ er, Blk ((w2.setCell ⟨x4, 0, none⟩ (.slice none 0 0)).setCell ⟨x4, 1, none⟩ (.int .i64 er)) x4 62 #[.slice none 0 0, .int .i64 er] := fun er => (B2.out.set_ 0 (.slice none 0 0)).set_ 1 (.int .i64 er)
    have R1 := Lib.hid r1
    clear fin r1
    by_cases hq : e = nx
    · have hq2 : (e == nx) = true := by simpa using hq
      have HQ := Lib.hid hq
      clear hq
      go_wp2_with fail
      refine bodyPost_ret (results_cell_row rfl _ _ x4 62 _ (0, 0) _ rfl (R1.out 11) Try.underlying62 rfl size62) rfl ?_
      exact FIN.out 11 (by rw [if_pos HQ.out]) _ rfl
    · have hq2 : (e == nx) = false := by simpa using hq
      have HQ := Lib.hid hq
      clear hq
      go_wp2_with fail
      refine bodyPost_ret (results_cell_row rfl _ _ x4 62 _ (0, 0) _ rfl (R1.out 10) Try.underlying62 rfl size62) rfl ?_
      exact FIN.out 10 (by rw [if_neg HQ.out]) _ rfl
  · have hz : (rd + 1 == nx) = false := by simpa using h0
    have hlt0 : rd + 1 < nx := by omega
    have H0 := Lib.hid h0
    clear h0
    obtain ⟨x6, hx6⟩ : ∃ y, w2.heap.size = y := ⟨_, rfl⟩
    have b6 := Blk.newAt (w := w2) (t := 62) (cs := #[.slice none 0 0, .int .i64 0]) hx6.symm
    have f6 := (Fine.refl w2).alloc (.cells #[.slice none 0 0, .int .i64 0] 62)
    have hg6 : ¬ G x6 := fun hf => by have := HX.out.lt _ hf; omega
    have h46 : x4 < x6 := by rw [← hx6]; exact B2.out.lt
    have hwx : w.heap.size ≤ x6 := by have := F2.out.size; omega
    have e0 : #[Value.slice none 0 0, Value.int .i64 0] = #[.slice none 0 0, .int .i64 0] := rfl
    have HG6 := Lib.hid hg6
    clear hg6 e0
    go_upto_region 7 with fail
    generalize w2.alloc (.cells #[.slice none 0 0, .int .i64 0] 62) = w3 at b6 f6 ⊢
    have F3 := Lib.hid (F2.out.trans f6); have B3 := Lib.hid (B2.out.fine f6); have D3 := Lib.hid b6
    have X3 := Lib.hid (HX.out.fine f6)
    have HGL : Hid (∀ y, G y → y < w.heap.size) := Lib.hid H.out.lt
    clear f6 b6 hx6 c2 c3 d0 d1 z0 z1 B2 HX e1
    have O3 : Hid (Own layB 5 w3 w.heap.size (.slice none 0 0) (bufL B rd (rd + ((0 : Nat) : Int) + 1))) := Lib.hid (by
      rw [show bufL B rd (rd + ((0 : Nat) : Int) + 1) = [] by unfold bufL; rw [show (rd + ((0 : Nat) : Int) + 1 - 1 - rd).toNat = 0 by omega]; rfl]
      exact Own.nil_ _ _ _ _)
    go_loopw [] (fun wr => Hid (∃ (j : Nat) (A : Option Addr) (c : Nat), (j : Int) ≤ min (max most 0) (nx - 1 - rd) ∧ Blk wr x6 62 #[.slice A j c, .int .i64 0] ∧ Own layB 5 wr w.heap.size (.slice A j c) (bufL B rd (rd + (j : Int) + 1)) ∧ ReX G wr x Ab cb Ai ci (bl In B k) (il In k) (rd + (j : Int)) e ∧ Kept G w wr ∧ Blk wr x4 62 #[.slice none 0 0, .int .i64 0])) (fun wr => (nx - 1 - rd).toNat - len0At wr x6)
    case atStart => exact Lib.hid ⟨0, none, 0, by omega, D3.out, O3.out, by simpa using X3.out, Kept.of_fine F3.out, B3.out⟩
    case round =>
      obtain ⟨j, A, c, j1, j2, j3, j4, j5, j6⟩ := hrel.out
      have J2 := Lib.hid j2; have J3 := Lib.hid j3; have J4 := Lib.hid j4; have J5 := Lib.hid j5; have J6 := Lib.hid j6
      obtain ⟨rj, hrj⟩ : ∃ z, rd + (j : Int) = z := ⟨_, rfl⟩
      rw [hrj] at J3 J4
      have HRJ := Lib.hid hrj
      have HL0 := Lib.hid (len0At_eq (j2.cell 0))
      have c0 : wr.cell? ⟨x6, 0, none⟩ = some (.slice A j c) := J2.out.cell 0
      have c2 : wr.cell? ⟨x, 2, none⟩ = some (.int .i64 rj) := J4.out.box.cell 2
      have e1 : IntKind.i64.wrap (rj + 1) = rj + 1 := IntWalk.i64_in _ (by omega)
      clear j2 j3 j4 j5 j6 hrel
      have key : ∀ K : Prop, (most ≤ (j : Int) → K) → ((j : Int) < most → nx ≤ rj + 1 → K) → ((j : Int) < most → rj + 1 < nx → K) → K := fun K a b c => by
        by_cases h0 : most ≤ (j : Int)
        · exact a h0
        · by_cases h1 : nx ≤ rj + 1
          · exact b (by omega) h1
          · exact c (by omega) (by omega)
      have KEY := Lib.hid key
      clear key
      refine KEY.out _ (fun p1 => ?_) (fun p1 p2 => ?_) (fun p1 p2 => ?_)
      · have q1 : ¬ (j : Int) < most := by omega
        have q2 : decide ((j : Int) < most) = false := decide_eq_false q1
        have hfin : Hid (rj = rd + min (max most 0) (nx - 1 - rd)) := Lib.hid (by omega)
        clear KEY hrj
        have c1 : wr.cell? ⟨x6, 1, none⟩ = some (.int .i64 0) := J2.out.cell 1
        have d0 : wr.cell? ⟨x4, 0, none⟩ = some (.slice none 0 0) := J6.out.cell 0
        have d1 : wr.cell? ⟨x4, 1, none⟩ = some (.int .i64 0) := J6.out.cell 1
        have z0 := J6.out.frozen 0
        have z1 := J6.out.frozen 1
        go_wp2_with fail
        have kk : Kept (· = x4) wr ((wr.setCell ⟨x4, 0, none⟩ (.slice A j c)).setCell ⟨x4, 1, none⟩ (.int .i64 0)) := ((Kept.refl (· = x4) wr).setIn (p := ⟨x4, 0, none⟩) rfl _).setIn (p := ⟨x4, 1, none⟩) rfl _
        have hbl : (bufL B rd (rj + 1)).length = j := by rw [bufL_len]; have := HRJ.out; omega
        refine bodyPost_ret (results_cell_row rfl _ _ x4 62 _ (0, 0) _ rfl ((J6.out.set_ 0 (.slice A j c)).set_ 1 (.int .i64 0)) Try.underlying62 rfl size62) rfl ?_
        exact ⟨A, j, c, 0, _, rj, rfl, (J3.out.kept kk (fun y hy e => J3.out.ne_blk hy J6.out (by decide) e)).rs.1, hbl, fun hne => absurd hne H0.out, fun _ => ⟨rfl, hfin.out, rfl⟩, ReS.kept ⟨Ab, cb, Ai, ci, J4.out, HKK.out⟩ kk (fun y hy e => HG4.out (e ▸ hy)), J5.out.transG kk (fun _ _ h => h) (fun y hy e => by have := HX4.out; have e : y = x4 := e; omega)⟩
      · have q1 : ¬ rj + 1 < nx := by omega
        have q2 : decide ((j : Int) < most) = true := decide_eq_true p1
        have hfin : Hid (rj = rd + min (max most 0) (nx - 1 - rd)) := Lib.hid (by omega)
        clear KEY hrj
        have c1 : wr.cell? ⟨x6, 1, none⟩ = some (.int .i64 0) := J2.out.cell 1
        have d0 : wr.cell? ⟨x4, 0, none⟩ = some (.slice none 0 0) := J6.out.cell 0
        have d1 : wr.cell? ⟨x4, 1, none⟩ = some (.int .i64 0) := J6.out.cell 1
        have z0 := J6.out.frozen 0
        have z1 := J6.out.frozen 1
        go_wp2_with fail
        have kk : Kept (· = x4) wr ((wr.setCell ⟨x4, 0, none⟩ (.slice A j c)).setCell ⟨x4, 1, none⟩ (.int .i64 0)) := ((Kept.refl (· = x4) wr).setIn (p := ⟨x4, 0, none⟩) rfl _).setIn (p := ⟨x4, 1, none⟩) rfl _
        have hbl : (bufL B rd (rj + 1)).length = j := by rw [bufL_len]; have := HRJ.out; omega
        refine bodyPost_ret (results_cell_row rfl _ _ x4 62 _ (0, 0) _ rfl ((J6.out.set_ 0 (.slice A j c)).set_ 1 (.int .i64 0)) Try.underlying62 rfl size62) rfl ?_
        exact ⟨A, j, c, 0, _, rj, rfl, (J3.out.kept kk (fun y hy e => J3.out.ne_blk hy J6.out (by decide) e)).rs.1, hbl, fun hne => absurd hne H0.out, fun _ => ⟨rfl, hfin.out, rfl⟩, ReS.kept ⟨Ab, cb, Ai, ci, J4.out, HKK.out⟩ kk (fun y hy e => HG4.out (e ▸ hy)), J5.out.transG kk (fun _ _ h => h) (fun y hy e => by have := HX4.out; have e : y = x4 := e; omega)⟩
      · have q2 : decide ((j : Int) < most) = true := decide_eq_true p1
        clear KEY hrj
        obtain ⟨m, rfl⟩ : ∃ m : Nat, rj = (m : Int) := ⟨rj.toNat, by have := HRJ.out; omega⟩
        have hin : In ((m : Int) + 1) = true := HI.out.low _ (by omega) p2
        have hmk : m < k := by have := HKK.out _ hin; omega
        obtain ⟨gb, hgb, _, _⟩ := J4.out.ob.head (by rw [bl_len]; omega)
        subst hgb
        have hby : ∀ w', ReX G w' x (some ⟨gb, 0, none⟩) cb Ai ci (bl In B k) (il In k) (m : Int) e → w'.cell? ⟨gb, m, none⟩ = some (.int .u8 (B ((m : Int) + 1))) := fun w' h => by
          obtain ⟨_, _, hgb2, _, hc⟩ := h.ob.rs.1.at_ (bl_at _ _ hmk)
          injection hgb2 with hgb2
          injection hgb2 with g1 g2
          subst g1 g2
          have := hc 0 _ rfl
          simp only [Nat.mul_one, Nat.add_zero, Nat.zero_add] at this
          rw [hin, if_pos rfl] at this
          exact this
        obtain ⟨y, hy⟩ : ∃ y, B ((m : Int) + 1) = y := ⟨_, rfl⟩
        rw [hy] at hby
        have HY := Lib.hid hy
        have d1 : wr.cell? ⟨x, 0, none⟩ = some (.slice (some ⟨gb, 0, none⟩) k cb) := by have := J4.out.box.cell 0; rw [bl_len] at this; exact this
        have d4 : wr.cell? ⟨gb, m, none⟩ = some (.int .u8 y) := hby _ J4.out
        have e2 : ∀ o, (wr.alloc o).cell? ⟨x6, 0, none⟩ = some (.slice A j c) := fun o => (J2.out.fine ((Fine.refl wr).alloc o)).cell 0
        have z1 : ∀ o, (wr.alloc o).frozen? ⟨x6, 0, none⟩ = false := fun o => (J2.out.fine ((Fine.refl wr).alloc o)).frozen 0
        have J2d := Lib.hid (J2.out.fine (Fine.refl wr).drew); have J3d := Lib.hid (J3.out.fine (Fine.refl wr).drew); have J4d := Lib.hid (J4.out.fine (Fine.refl wr).drew); have J5d := Lib.hid J5.out.drew; have J6d := Lib.hid (J6.out.fine (Fine.refl wr).drew)
        have hbl : Hid ((bufL B rd ((m : Int) + 1)).length = j) := Lib.hid (by rw [bufL_len]; have := HRJ.out; omega)
        have HEL : Hid ((bufL B rd ((m : Int) + 1) ++ [y]).length = j + 1) := Lib.hid (by rw [List.length_append, hbl.out]; rfl)
        have HSN : Hid (bufL B rd ((m : Int) + 1 + 1) = bufL B rd ((m : Int) + 1) ++ [y]) := Lib.hid (by rw [← HRJ.out, bufL_snoc, HRJ.out, hy])
        have hj100 : j ≤ 1000000 := by omega
        have hwr : w.heap.size ≤ wr.heap.size := J5.out.size
        clear hin hby hy
        go_upto_region 8 with fail
        go_cut [] (fun wx => Hid (∃ A' c', Blk wx x6 62 #[.slice A' (j + 1) c', .int .i64 0] ∧ Own layB 5 wx w.heap.size (.slice A' (j + 1) c') (bufL B rd ((m : Int) + 1 + 1)) ∧ ReX G wx x (some ⟨gb, 0, none⟩) cb Ai ci (bl In B k) (il In k) (m : Int) e ∧ Kept G w wx ∧ Blk wx x4 62 #[.slice none 0 0, .int .i64 0]))
        case first =>
          go_region_law (first | (refine step_appE rfl sliceB (.tmp 40) (.tmp 51) rfl w.heap.size (.slice A j c) (bufL B rd ((m : Int) + 1)) rfl (J3d.out.fine ((Fine.refl _).alloc (.cells #[.int .u8 y] 5))) (some ⟨wr.heap.size, 0, none⟩) 1 1 [y] rfl rfl (RS.ofBlk (Blk.newAt rfl) rfl rfl (by unfold maxLen; omega)) (by rw [hbl.out]; simp; omega) (by rw [hbl.out]; simp; unfold maxLen; omega) (Nat.le_trans hwr ((Fine.refl wr).drew.alloc (.cells #[.int .u8 y] 5)).size) ?_; intro x2 wB oB kB0 gB0 bB; obtain ⟨A3, c3, hx2, _, _⟩ := oB.form; rw [HEL.out] at hx2; subst hx2; have KB : Kept (fun q => (Value.slice A j c).ownBlock = some q) (wr.drew.alloc (.cells #[.int .u8 y] 5)) wB := Kept.grown (Kept.refl _ _) gB0 (fun k hk _ => hk); have JA := J3d.out.fine ((Fine.refl wr.drew).alloc (.cells #[.int .u8 y] 5)); have BA := J2d.out.fine ((Fine.refl wr.drew).alloc (.cells #[.int .u8 y] 5)); have BB := BA.kept KB (fun e => JA.ne_blk e BA (by decide) rfl); have yB0 := BB.cell 0; have yB1 := BB.frozen 0))
          all_goals
            have fa := (Fine.refl wr.drew).alloc (.cells #[.int .u8 y] 5)
            have kx : Kept (· = x6) wB (wB.setCell ⟨x6, 0, none⟩ (.slice A3 (j + 1) c3)) := (Kept.refl (· = x6) wB).setIn (p := ⟨x6, 0, none⟩) rfl _
            have R1 : Blk (wB.setCell ⟨x6, 0, none⟩ (.slice A3 (j + 1) c3)) x6 62 #[.slice A3 (j + 1) c3, .int .i64 0] := BB.set_ 0 _
            have R2 : Own layB 5 (wB.setCell ⟨x6, 0, none⟩ (.slice A3 (j + 1) c3)) w.heap.size (.slice A3 (j + 1) c3) (bufL B rd ((m : Int) + 1 + 1)) := by
              rw [HSN.out]
              exact oB.kept kx (fun q hq e => oB.ne_blk hq BB (by decide) e)
            have R3 : ReX G (wB.setCell ⟨x6, 0, none⟩ (.slice A3 (j + 1) c3)) x (some ⟨gb, 0, none⟩) cb Ai ci (bl In B k) (il In k) (m : Int) e := ((J4d.out.fine fa).kept KB (fun q hq e => by have := HGL.out q hq; have := (JA.lt q e).1; omega)).kept kx (fun q hq e => HG6.out (e ▸ hq))
            have R4 : Kept G w (wB.setCell ⟨x6, 0, none⟩ (.slice A3 (j + 1) c3)) := ((J5d.out.trans (Kept.of_fine fa)).transG KB (fun _ _ h => h) (fun q hq e => by have := (JA.lt q e).1; omega)).setCell (p := ⟨x6, 0, none⟩) (fun hh => by have hh : x6 < w.heap.size := hh; omega) _
            have R5 : Blk (wB.setCell ⟨x6, 0, none⟩ (.slice A3 (j + 1) c3)) x4 62 #[.slice none 0 0, .int .i64 0] := ((J6d.out.fine fa).kept KB (fun e => JA.ne_blk e (J6d.out.fine fa) (by decide) rfl)).kept kx (fun e => by have e : x4 = x6 := e; omega)
            have RR := Lib.hid (And.intro R1 (And.intro R2 (And.intro R3 (And.intro R4 R5))))
            clear R1 R2 R3 R4 R5 kx fa yB0 yB1 BB BA JA KB oB gB0 bB kB0
            go_wp2_with fail
            go_meet
            exact Lib.hid ⟨A3, c3, RR.out⟩
        case rest =>
          obtain ⟨A', c', k1, k2, k3, k4, k5⟩ := hcut.out
          obtain ⟨w5, hw5⟩ : ∃ w5, w5 = wc := ⟨_, rfl⟩
          subst hw5
          have K1 := Lib.hid k1; have K2 := Lib.hid k2; have K3 := Lib.hid k3; have K4 := Lib.hid k4; have K5 := Lib.hid k5
          have c2' : w5.cell? ⟨x, 2, none⟩ = some (.int .i64 (m : Int)) := K3.out.box.cell 2
          have z2' := K3.out.box.frozen 2
          clear k1 k2 k3 k4 k5 hcut c0 c2 d1 d4 e2 z1 J2d J3d J4d J5d J6d J2 J3 J4 J5 J6
          go_wp2_with fail
          have kx : Kept (· = x) w5 (w5.setCell ⟨x, 2, none⟩ (.int .i64 ((m : Int) + 1))) := (Kept.refl (· = x) w5).setIn (p := ⟨x, 2, none⟩) rfl _
          have hrj2 : rd + ((j + 1 : Nat) : Int) = (m : Int) + 1 := by have := HRJ.out; omega
          have B6 : Blk (w5.setCell ⟨x, 2, none⟩ (.int .i64 ((m : Int) + 1))) x6 62 #[.slice A' (j + 1) c', .int .i64 0] := K1.out.kept kx (fun e => HG6.out (e ▸ K3.out.gx))
          refine ⟨Lib.hid ⟨j + 1, A', c', by have := HRJ.out; omega, B6, by rw [hrj2]; exact K2.out.kept kx (fun q hq e => K2.out.ne_blk hq K3.out.box (by decide) e), by rw [hrj2]; exact K3.out.setRd _, K4.out.setIn (p := ⟨x, 2, none⟩) K3.out.gx _, K5.out.kept kx (fun e => HG4.out (e ▸ K3.out.gx))⟩, ?_⟩
          rw [HL0.out, len0At_eq (B6.cell 0)]
          have := HRJ.out
          omega
end Go.Proofs.Ytnigfdldfmiaiaa
