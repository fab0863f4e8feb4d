/- The document's sender: how it lies; New, Last. The document's sender: Write. -/
import Derived.Test.YtnigfdldfmiaiaaXSnd16
import Derived.Test.YtnigfdldfmiaiaaMd
namespace Go.Proofs.Ytnigfdldfmiaiaa
set_option linter.unusedVariables false
set_option linter.unusedSimpArgs false
open Go.ChangeShapes Go.WideShapes Go.ChangeAt Go.RowKit Go.Maps
set_option linter.unusedVariables false
set_option linter.unusedSimpArgs false
/-- The document's sender at x: all its blocks are G's. -/
structure RsX (G : Nat → Prop) (w : World) (x : Nat) (Ab : Option Addr) (cb : Nat) (Ai : Option Addr) (ci : Nat) (lb : List Int) (li : List Bool) (una nx ed : Int) (told done : Bool) : Prop where
  box : Blk w x 90 #[.slice Ab lb.length cb, .slice Ai li.length ci, .int .i64 una, .int .i64 nx, .int .i64 ed, .bool told, .bool done]
  ob : Own layB 5 w 0 (.slice Ab lb.length cb) lb
  oi : Own layT 4 w 0 (.slice Ai li.length ci) li
  gx : G x
  gb : ∀ y, (Value.slice Ab lb.length cb).ownBlock = some y → G y
  gi : ∀ y, (Value.slice Ai li.length ci).ownBlock = some y → G y
  lt : ∀ y, G y → y < w.heap.size
section
variable {G : Nat → Prop} {w w' w1 : World} {x : Nat} {Ab : Option Addr} {cb : Nat} {Ai : Option Addr} {ci : Nat} {lb : List Int} {li : List Bool} {una nx ed : Int} {told done : Bool}
theorem RsX.kept {S : Nat → Prop} (h : RsX G w x Ab cb Ai ci lb li una nx ed told done) (k : Kept S w w') (hd : ∀ y, G y → ¬ S y) : RsX G w' x Ab cb Ai ci lb li una nx ed told done :=
  ⟨h.box.kept k (hd _ h.gx), h.ob.kept k (fun y hy => hd y (h.gb y hy)), h.oi.kept k (fun y hy => hd y (h.gi y hy)), h.gx, h.gb, h.gi, fun y hy => Nat.lt_of_lt_of_le (h.lt y hy) k.size⟩
theorem RsX.fine (h : RsX G w x Ab cb Ai ci lb li una nx ed told done) (f : Fine w w') : RsX G w' x Ab cb Ai ci lb li una nx ed told done := h.kept (S := fun _ => False) (Kept.of_fine f) (fun _ _ f => f)
theorem RsX.nb (h : RsX G w x Ab cb Ai ci lb li una nx ed told done) : ∀ y, (Value.slice Ab lb.length cb).ownBlock = some y → y ≠ x ∧ (Value.slice Ai li.length ci).ownBlock ≠ some y := fun y hy => ⟨h.ob.ne_blk hy h.box (by decide), h.ob.ne_own h.oi (by decide) hy⟩
theorem RsX.ni (h : RsX G w x Ab cb Ai ci lb li una nx ed told done) : ∀ y, (Value.slice Ai li.length ci).ownBlock = some y → y ≠ x := fun y hy => h.oi.ne_blk hy h.box (by decide)
/-- One of its numbers is set. -/
theorem RsX.setJ (h : RsX G w x Ab cb Ai ci lb li una nx ed told done) (j : Nat) (u : Value) {una' nx' ed' : Int} {told' done' : Bool} (e : #[Value.slice Ab lb.length cb, .slice Ai li.length ci, .int .i64 una, .int .i64 nx, .int .i64 ed, .bool told, .bool done].setIfInBounds j u = #[.slice Ab lb.length cb, .slice Ai li.length ci, .int .i64 una', .int .i64 nx', .int .i64 ed', .bool told', .bool done']) : RsX G (w.setCell ⟨x, j, none⟩ u) x Ab cb Ai ci lb li una' nx' ed' told' done' := by
  have k : Kept (· = x) w (w.setCell ⟨x, j, none⟩ u) := (Kept.refl (· = x) w).setIn (p := ⟨x, j, none⟩) rfl _
  exact ⟨(h.box.set_ j u).cast e, h.ob.kept k (fun y hy e => (h.nb y hy).1 e), h.oi.kept k (fun y hy e => h.ni y hy e), h.gx, h.gb, h.gi, fun y hy => Nat.lt_of_lt_of_le (h.lt y hy) k.size⟩
/-- Its bytes, its truths have grown. -/
theorem RsX.moreB {A2 : Option Addr} {n2 c2 : Nat} {l2 : List Int} (h : RsX G w x Ab cb Ai ci lb li una nx ed told done) (k : Kept (fun y => (Value.slice Ab lb.length cb).ownBlock = some y) w w1) (hn : n2 = l2.length) (ho : Own layB 5 w1 0 (.slice A2 n2 c2) l2) (hv : (Value.slice A2 n2 c2).ownBlock = (Value.slice Ab lb.length cb).ownBlock ∨ ∀ k, (Value.slice A2 n2 c2).ownBlock = some k → w.heap.size ≤ k) :
    RsX (Grew G w w1) (w1.setCell ⟨x, 0, none⟩ (.slice A2 n2 c2)) x A2 c2 Ai ci l2 li una nx ed told done := by
  subst hn
  have hbx : Blk w1 x 90 #[.slice Ab lb.length cb, .slice Ai li.length ci, .int .i64 una, .int .i64 nx, .int .i64 ed, .bool told, .bool done] := h.box.kept k (fun e => (h.nb x e).1 rfl)
  have hi1 : Own layT 4 w1 0 (.slice Ai li.length ci) li := h.oi.kept k (fun y hy e => (h.nb y e).2 hy)
  have k2 : Kept (· = x) w1 (w1.setCell ⟨x, 0, none⟩ (.slice A2 l2.length c2)) := (Kept.refl (· = x) w1).setIn (p := ⟨x, 0, none⟩) rfl _
  refine ⟨hbx.set_ 0 _, ho.kept k2 (fun y hy e => ho.ne_blk hy hbx (by decide) e), hi1.kept k2 (fun y hy e => h.ni y hy e), .inl h.gx, fun y hy => ?_, fun y hy => .inl (h.gi y hy), fun y hy => ?_⟩
  · rcases hv with h1 | h1
    · exact .inl (h.gb y (h1 ▸ hy))
    · exact .inr ⟨h1 y hy, (ho.lt y hy).2⟩
  · refine Nat.lt_of_lt_of_le ?_ k2.size
    rcases hy with h1 | h1
    · exact Nat.lt_of_lt_of_le (h.lt y h1) k.size
    · exact h1.2
theorem RsX.moreI {A2 : Option Addr} {n2 c2 : Nat} {l2 : List Bool} (h : RsX G w x Ab cb Ai ci lb li una nx ed told done) (k : Kept (fun y => (Value.slice Ai li.length ci).ownBlock = some y) w w1) (hn : n2 = l2.length) (ho : Own layT 4 w1 0 (.slice A2 n2 c2) l2) (hv : (Value.slice A2 n2 c2).ownBlock = (Value.slice Ai li.length ci).ownBlock ∨ ∀ k, (Value.slice A2 n2 c2).ownBlock = some k → w.heap.size ≤ k) :
    RsX (Grew G w w1) (w1.setCell ⟨x, 1, none⟩ (.slice A2 n2 c2)) x Ab cb A2 c2 lb l2 una nx ed told done := by
  subst hn
  have hbx : Blk w1 x 90 #[.slice Ab lb.length cb, .slice Ai li.length ci, .int .i64 una, .int .i64 nx, .int .i64 ed, .bool told, .bool done] := h.box.kept k (fun e => h.ni x e rfl)
  have hb1 : Own layB 5 w1 0 (.slice Ab lb.length cb) lb := h.ob.kept k (fun y hy e => (h.nb y hy).2 e)
  have k2 : Kept (· = x) w1 (w1.setCell ⟨x, 1, none⟩ (.slice A2 l2.length c2)) := (Kept.refl (· = x) w1).setIn (p := ⟨x, 1, none⟩) rfl _
  refine ⟨hbx.set_ 1 _, hb1.kept k2 (fun y hy e => (h.nb y hy).1 e), ho.kept k2 (fun y hy e => ho.ne_blk hy hbx (by decide) e), .inl h.gx, fun y hy => .inl (h.gb y hy), fun y hy => ?_, fun y hy => ?_⟩
  · rcases hv with h1 | h1
    · exact .inl (h.gi y (h1 ▸ hy))
    · exact .inr ⟨h1 y hy, (ho.lt y hy).2⟩
  · refine Nat.lt_of_lt_of_le ?_ k2.size
    rcases hy with h1 | h1
    · exact Nat.lt_of_lt_of_le (h.lt y h1) k.size
    · exact h1.2
/-- One of its truths is set. -/
theorem RsX.putI {gi : Nat} (h : RsX G w x Ab cb (some ⟨gi, 0, none⟩) ci lb li una nx ed told done) {j : Nat} {b0 : Bool} (hj : li[j]? = some b0) (b : Bool) : RsX G (w.setCell ⟨gi, j, none⟩ (.bool b)) x Ab cb (some ⟨gi, 0, none⟩) ci lb (li.set j b) una nx ed told done := by
  have k : Kept (· = gi) w (w.setCell ⟨gi, j, none⟩ (.bool b)) := (Kept.refl (· = gi) w).setIn (p := ⟨gi, j, none⟩) rfl _
  have h1 := h.oi.stored (i := j) (j := 0) hj (by omega) (u := .bool b) (y := b) rfl
  have hbx := h.box.kept k (fun e => h.ni gi rfl e.symm)
  refine ⟨?_, h.ob.kept k (fun y hy e => (h.nb y hy).2 (by rw [e]; rfl)), ?_, h.gx, h.gb, ?_, fun y hy => Nat.lt_of_lt_of_le (h.lt y hy) k.size⟩
  · rw [List.length_set]; exact hbx
  · rw [List.length_set]
    simpa using h1
  · rw [List.length_set]; exact h.gi
end
/-- .. by its numbers. -/
def RsI (G : Nat → Prop) (w : World) (x : Nat) (T : Sn) (L : Int → Bool) : Prop :=
  ∃ Ab cb Ai ci all LL, RsX G w x Ab cb Ai ci all (il LL all.length) T.una T.nx T.ed T.told T.done ∧ (all.length : Int) + 1 = T.una + T.buf.length ∧ T.buf = all.drop (T.una - 1).toNat ∧ (∀ m, T.una ≤ m → LL m = L m) ∧ ∀ m, (all.length : Int) < m → LL m = false
section
variable {G : Nat → Prop} {w w' : World} {x : Nat} {T : Sn} {L L' : Int → Bool} {K : Int}
theorem RsI.kept {S : Nat → Prop} (h : RsI G w x T L) (k : Kept S w w') (hd : ∀ y, G y → ¬ S y) : RsI G w' x T L := by
  obtain ⟨Ab, cb, Ai, ci, all, LL, h1, h2⟩ := h
  exact ⟨Ab, cb, Ai, ci, all, LL, h1.kept k hd, h2⟩
theorem RsI.fine (h : RsI G w x T L) (f : Fine w w') : RsI G w' x T L := h.kept (S := fun _ => False) (Kept.of_fine f) (fun _ _ f => f)
theorem RsI.lt (h : RsI G w x T L) : ∀ y, G y → y < w.heap.size := by
  obtain ⟨Ab, cb, Ai, ci, all, LL, h1, h2⟩ := h
  exact h1.lt
theorem RsI.gx (h : RsI G w x T L) : G x := by
  obtain ⟨Ab, cb, Ai, ci, all, LL, h1, h2⟩ := h
  exact h1.gx
theorem RsI.congr (h : RsI G w x T L) (e : ∀ m, L m = L' m) : RsI G w x T L' := by
  have : L = L' := funext e
  exact this ▸ h
theorem rsnew_any (w : World) : Calls Try.prog 63 #[] w fun r w' => r = .returned (.pointer (some ⟨w.heap.size, 0, none⟩)) ∧ RsI (· = w.heap.size) w' w.heap.size ⟨1, 1, 33, [], false, false⟩ (fun _ => false) ∧ Fine w w' := by
  have f1 := (Fine.refl w).alloc (.cells #[.slice none 0 0, .slice none 0 0, .int .i64 1, .int .i64 1, .int .i64 33, .bool false, .bool false] 90)
  have hb := Blk.new w 90 #[.slice none 0 0, .slice none 0 0, .int .i64 1, .int .i64 1, .int .i64 33, .bool false, .bool false]
  have hS : Hid (RsI (· = w.heap.size) (w.alloc (.cells #[.slice none 0 0, .slice none 0 0, .int .i64 1, .int .i64 1, .int .i64 33, .bool false, .bool false] 90)) w.heap.size ⟨1, 1, 33, [], false, false⟩ (fun _ => false)) := Lib.hid ⟨none, 0, none, 0, [], fun _ => false, ⟨hb, Own.nil_ _ _ _ _, Own.nil_ _ _ _ _, rfl, (fun y hy => by cases hy), (fun y hy => by cases hy), (fun y hy => by subst hy; exact hb.lt)⟩, by simp, by simp, fun m hm => rfl, fun m hm => rfl⟩
  have F1 := Lib.hid f1
  clear f1 hb
  go_enter Try.func63, Try.ntmps63
  go_wp2_with fail
  go_ret
  exact ⟨rfl, hS.out, F1.out⟩
theorem rslast_any {la : Int} (hla : T.una + T.buf.length = la) (hK : K ≤ 2147483648) (hT : T.Ok L' K) (w : World) (h : RsI G w x T L) : Calls Try.prog 87 #[.pointer (some ⟨x, 0, none⟩)] w fun r w' => r = .returned (.int .i64 la) ∧ Fine w w' := by
  obtain ⟨Ab, cb, Ai, ci, all, LL, h1, h2, h3⟩ := h
  obtain ⟨n, hn⟩ : ∃ n, all.length = n := ⟨_, rfl⟩
  rw [hn] at h2
  have c0 : w.cell? ⟨x, 0, none⟩ = some (.slice Ab n cb) := by have := h1.box.cell 0; rw [hn] at this; exact this
  have e1 : IntKind.i64.wrap ((n : Int) + 1) = la := by
    have := hT.ub
    rw [h2, hla]
    exact IntWalk.i64_in _ (by have := hT.u1; omega)
  clear h1 h2 h3 hn hT hla
  go_enter Try.func87, Try.ntmps87
  go_wp2_with fail
  go_ret
  exact ⟨rfl, Fine.refl w⟩
end
end Go.Proofs.Ytnigfdldfmiaiaa
namespace Go.Proofs.Ytnigfdldfmiaiaa
set_option linter.unusedVariables false
set_option linter.unusedSimpArgs false
open Go.ChangeShapes Go.WideShapes Go.ChangeAt Go.RowKit Go.Maps
set_option linter.unusedVariables false
set_option linter.unusedSimpArgs false
theorem size84 : (Try.prog.info? 84).map (·.size) = some 2 := by kernel_rfl
theorem bl_all_succ (bs : List Int) (i : Nat) (h : i < bs.length) : bs.take (i + 1) = bs.take i ++ [bs.getD i 0] := by
  rw [List.take_add_one, List.getElem?_eq_getElem h]
  simp [List.getD, h]
/-- What Write answers. -/
def RsWr (G : Nat → Prop) (x : Nat) (T : Sn) (L : Int → Bool) (bs : List Int) (w : World) (r : Ending) (w' : World) : Prop :=
  r = .returned (.agg #[.int .i64 (wrN T bs : Nat), .int .i64 (wrE T bs)]) ∧ ∃ G', RsI G' w' x (T.wrote bs) L ∧ Kept G w w' ∧ ∀ y, G' y → G y ∨ w.heap.size ≤ y
set_option maxHeartbeats 8000000 in
set_option maxRecDepth 20000 in
theorem rswrite_any {G : Nat → Prop} {x : Nat} {T : Sn} {L : Int → Bool} {K : Int} (n cB : Nat) (AB : Option Addr) (bs : List Int) (hn : bs.length = n) (hnb : n ≤ 100000) (hK : K ≤ 2147483648) (hT : T.Ok L K) (w : World) (hrs : RS layB w AB cB bs) (hab : 0 < n → ∀ b o, AB = some ⟨b, o, none⟩ → ¬ G b) (h : RsI G w x T L) :
    Calls Try.prog 64 #[.pointer (some ⟨x, 0, none⟩), .slice AB n cB] w (RsWr G x T L bs w) := by
  obtain ⟨x4, hx4⟩ : ∃ y, w.heap.size = y := ⟨_, rfl⟩
  have b4 := Blk.newAt (w := w) (t := 84) (cs := #[.int .i64 0, .int .i64 0]) hx4.symm
  have f4 := (Fine.refl w).alloc (.cells #[.int .i64 0, .int .i64 0] 84)
  have H := Lib.hid h; have HT := Lib.hid hT; have HX4 := Lib.hid hx4; have HN := Lib.hid hn; have HRS := Lib.hid hrs; have HAB := Lib.hid hab
  have hg4 : ¬ G x4 := fun hf => by have := h.lt _ hf; omega
  have HG4 := Lib.hid hg4
  obtain ⟨una, huna⟩ : ∃ z, T.una = z := ⟨_, rfl⟩
  obtain ⟨nb, hnbf⟩ : ∃ z, T.buf.length = z := ⟨_, rfl⟩
  obtain ⟨told, htold⟩ : ∃ z, T.told = z := ⟨_, rfl⟩
  obtain ⟨la, hla⟩ : ∃ z, una + (nb : Int) = z := ⟨_, rfl⟩
  obtain ⟨rm, hrm⟩ : ∃ z : Nat, 64 - nb = z := ⟨_, rfl⟩
  have hb1 := hT.u1; have hb2 := hT.ub; have hb3 := hT.b64
  rw [huna] at hb1 hb2
  rw [hnbf] at hb2 hb3
  have e1 : IntKind.i64.wrap (la - una) = (nb : Int) := by rw [show la - una = (nb : Int) by omega]; exact IntWalk.i64_in _ (by omega)
  have e2 : IntKind.i64.wrap (64 - (nb : Int)) = (rm : Int) := by rw [show 64 - (nb : Int) = (rm : Int) by omega]; exact IntWalk.i64_in _ (by omega)
  have HUNA := Lib.hid huna; have HNB := Lib.hid hnbf; have HTOLD := Lib.hid htold; have HLA := Lib.hid hla; have HRM := Lib.hid hrm
  have hrmb : rm ≤ 64 := by omega
  have QLA : Hid (∀ w', Fine w w' → Calls Try.prog 87 #[.pointer (some ⟨x, 0, none⟩)] w' fun r w'' => r = .returned (.int .i64 la) ∧ Fine w' w'') := Lib.hid (fun w' f => rslast_any (by rw [HUNA.out, HNB.out, HLA.out]) hK HT.out w' (H.out.fine f))
  clear h hT hn hrs hab hg4 huna hnbf htold hla hrm hb1 hb2 hb3
  go_enter Try.func64, Try.ntmps64
  go_upto_region 1 with fail
  generalize w.alloc (.cells #[.int .i64 0, .int .i64 0] 84) = w1 at b4 f4 ⊢
  have F1 := Lib.hid f4; have B1 := Lib.hid b4
  clear f4 b4 hx4
  obtain ⟨Ab, cb, Ai, ci, all, LL, hX, hlen, hbuf, hLL, hL0⟩ := H.out.fine F1.out
  rw [HUNA.out, HTOLD.out] at hX
  have X1 := Lib.hid hX; have HLEN := Lib.hid hlen; have HBUF := Lib.hid hbuf; have HLL := Lib.hid hLL; have HL0 := Lib.hid hL0
  have c5 : w1.cell? ⟨x, 5, none⟩ = some (.bool told) := hX.box.cell 5
  clear hX hlen hbuf hLL hL0
  cases told with
  | true =>
    obtain ⟨w2, hw2⟩ : ∃ z, z = w1 := ⟨_, rfl⟩
    subst hw2
    have F2 := F1; have B2 := B1
    have HWN : Hid (wrN T bs = 0) := Lib.hid (by unfold wrN; rw [if_pos HTOLD.out])
    have HWE : Hid (wrE T bs = 11) := Lib.hid (by unfold wrE; rw [if_pos HTOLD.out])
    have HWR : Hid (T.wrote bs = T) := Lib.hid (by unfold Sn.wrote; rw [HWN.out]; simp)
    have c40 : w2.cell? ⟨x4, 0, none⟩ = some (.int .i64 0) := B2.out.cell 0
    have c41 : w2.cell? ⟨x4, 1, none⟩ = some (.int .i64 0) := B2.out.cell 1
    have z40 := B2.out.frozen 0
    have z41 := B2.out.frozen 1
    have R4 : Blk ((w2.setCell ⟨x4, 0, none⟩ (.int .i64 0)).setCell ⟨x4, 1, none⟩ (.int .i64 11)) x4 84 #[.int .i64 0, .int .i64 11] := (B2.out.set_ 0 (.int .i64 0)).set_ 1 (.int .i64 11)
    have kk : Kept (· = x4) w2 ((w2.setCell ⟨x4, 0, none⟩ (.int .i64 0)).setCell ⟨x4, 1, none⟩ (.int .i64 11)) := ((Kept.refl (· = x4) w2).setIn (p := ⟨x4, 0, none⟩) rfl _).setIn (p := ⟨x4, 1, none⟩) rfl _
    have R4H := Lib.hid R4; have KK := Lib.hid kk
    clear R4 kk
    go_wp2_with fail
    refine bodyPost_ret (results_cell_row rfl _ _ x4 84 _ (0, 0) _ rfl R4H.out Try.underlying84 rfl size84) rfl ?_
    refine ⟨by rw [HWN.out, HWE.out]; rfl, G, ?_, F2.out.kept KK.out (fun y hy e => by have := HX4.out; have e : y = x4 := e; omega) |> Kept.of_fine, fun y hy => .inl hy⟩
    have := (H.out.fine F2.out).kept KK.out (fun y hy e => HG4.out (e ▸ hy))
    rw [HWR.out]
    exact this
  | false =>
    have q2 : ∀ p : FineBy w1, p.W.cell? ⟨x, 2, none⟩ = some (.int .i64 una) := fun p => (X1.out.box.fine p.h).cell 2
    have Q : Hid (∀ p : FineBy w1, Calls Try.prog 87 #[.pointer (some ⟨x, 0, none⟩)] p.W fun r w'' => r = .returned (.int .i64 la) ∧ Fine p.W w'') := Lib.hid (fun p => QLA.out p.W (F1.out.trans p.h))
    go_upto_region 3 with fail
    refine wp_region_quiet_fine (by kernel_rfl) (by kernel_rfl) ?_
    repeat (quiet_step (exact Calls.fine_of (Q.out _)))
    refine wpQuiet_nil ?_
    intro wf hwf'
    have hwf := FineBy.of hwf'
    clear hwf' q2 Q c5
    have F2' := Lib.hid (F1.out.trans hwf); have B2' := Lib.hid (B1.out.fine hwf); have X2 := Lib.hid (X1.out.fine hwf)
    clear hwf B1 X1 F1
    by_cases hfull : rm = 0 ∧ 0 < n
    · have g1 : (rm : Int) ≤ 0 := by omega
      have g2 : decide ((rm : Int) ≤ 0) = true := decide_eq_true g1
      have g3 : (n : Int) > 0 := by omega
      have g4 : decide (0 < (n : Int)) = true := decide_eq_true g3
      obtain ⟨w2, hw2⟩ : ∃ z, z = wf := ⟨_, rfl⟩
      subst hw2
      have F2 := F2'; have B2 := B2'
      have HWN : Hid (wrN T bs = 0) := Lib.hid (by unfold wrN; rw [if_neg (by rw [HTOLD.out]; decide), HNB.out]; have := HRM.out; omega)
      have HWE : Hid (wrE T bs = 7) := Lib.hid (by unfold wrE; rw [if_neg (by rw [HTOLD.out]; decide), HNB.out, HN.out, if_pos (by have := HRM.out; omega)])
      have HWR : Hid (T.wrote bs = T) := Lib.hid (by unfold Sn.wrote; rw [HWN.out]; simp)
      clear hfull
      have c40 : w2.cell? ⟨x4, 0, none⟩ = some (.int .i64 0) := B2.out.cell 0
      have c41 : w2.cell? ⟨x4, 1, none⟩ = some (.int .i64 0) := B2.out.cell 1
      have z40 := B2.out.frozen 0
      have z41 := B2.out.frozen 1
      have R4 : Blk ((w2.setCell ⟨x4, 0, none⟩ (.int .i64 0)).setCell ⟨x4, 1, none⟩ (.int .i64 7)) x4 84 #[.int .i64 0, .int .i64 7] := (B2.out.set_ 0 (.int .i64 0)).set_ 1 (.int .i64 7)
      have kk : Kept (· = x4) w2 ((w2.setCell ⟨x4, 0, none⟩ (.int .i64 0)).setCell ⟨x4, 1, none⟩ (.int .i64 7)) := ((Kept.refl (· = x4) w2).setIn (p := ⟨x4, 0, none⟩) rfl _).setIn (p := ⟨x4, 1, none⟩) rfl _
      have R4H := Lib.hid R4; have KK := Lib.hid kk
      clear R4 kk
      go_wp2_with fail
      refine bodyPost_ret (results_cell_row rfl _ _ x4 84 _ (0, 0) _ rfl R4H.out Try.underlying84 rfl size84) rfl ?_
      refine ⟨by rw [HWN.out, HWE.out]; rfl, G, ?_, F2.out.kept KK.out (fun y hy e => by have := HX4.out; have e : y = x4 := e; omega) |> Kept.of_fine, fun y hy => .inl hy⟩
      have := (H.out.fine F2.out).kept KK.out (fun y hy e => HG4.out (e ▸ hy))
      rw [HWR.out]
      exact this
    · obtain ⟨mn, hmn⟩ : ∃ z : Nat, min n rm = z := ⟨_, rfl⟩
      have HMN := Lib.hid hmn
      obtain ⟨na, hna⟩ : ∃ z, all.length = z := ⟨_, rfl⟩
      have HNA := Lib.hid hna
      have hnab : na ≤ 2147483648 := by have h1 := HLEN.out; have h2 := HT.out.ub; omega
      clear hna
      have key : ∀ K : Prop, (¬ (rm : Int) ≤ 0 → decide ((rm : Int) ≤ 0) = false → K) → ((rm : Int) ≤ 0 → decide ((rm : Int) ≤ 0) = true → ¬ (n : Int) > 0 → decide (0 < (n : Int)) = false → K) → K := fun K a b => by
        by_cases h0 : rm = 0
        · exact b (by omega) (by simp; omega) (by omega) (by simp; omega)
        · exact a (by omega) (by simp; omega)
      have START : Hid (∃ G2 Ab2 cb2 Ai2 ci2, RsX G2 wf x Ab2 cb2 Ai2 ci2 (all ++ bs.take 0) (il LL (na + 0)) una T.nx T.ed false T.done ∧ Kept G w wf ∧ (∀ y, G2 y → G y ∨ w.heap.size ≤ y) ∧ Blk wf x4 84 #[.int .i64 0, .int .i64 0] ∧ ¬ G2 x4) := Lib.hid ⟨G, Ab, cb, Ai, ci, by rw [List.take_zero, List.append_nil, Nat.add_zero, ← HNA.out]; exact X2.out, Kept.of_fine F2'.out, fun y hy => .inl hy, B2'.out, HG4.out⟩
      have HNF := Lib.hid hfull
      clear hfull hmn X2 F2' B2'
      have KEY := Lib.hid key
      clear key
      refine KEY.out _ (fun g0 g1 => ?_) (fun g0 g1 g2 g3 => ?_)
      · skip
        clear KEY
        go_wp2_with fail
        go_loopw [6] (fun s6 wr => ∃ (i : Nat), i ≤ mn ∧ s6 = .int .i64 i ∧ Hid (∃ G2 Ab2 cb2 Ai2 ci2, RsX G2 wr x Ab2 cb2 Ai2 ci2 (all ++ bs.take i) (il LL (na + i)) una T.nx T.ed false T.done ∧ Kept G w wr ∧ (∀ y, G2 y → G y ∨ w.heap.size ≤ y) ∧ Blk wr x4 84 #[.int .i64 0, .int .i64 0] ∧ ¬ G2 x4)) (fun s6 _ => mn - (intOf s6).toNat)
        case atStart => exact ⟨0, Nat.zero_le _, rfl, START.out⟩
        case round =>
          obtain ⟨i, hi, rfl, HJ⟩ := hrel
          obtain ⟨G2, Ab2, cb2, Ai2, ci2, j1, j2, j3, j4, j5⟩ := HJ.out
          have J1 := Lib.hid j1; have J2 := Lib.hid j2; have J3 := Lib.hid j3; have J4 := Lib.hid j4; have J5 := Lib.hid j5
          clear j1 j2 j3 j4 j5 HJ START
          by_cases hlt : i < mn
          · have hin : i < n ∧ i < rm := by have := HMN.out; omega
            have q1 : decide ((i : Int) < (n : Int)) = true := by simp; omega
            have q2 : decide ((i : Int) < (rm : Int)) = true := by simp; omega
            obtain ⟨lb, hlb⟩ : ∃ z, all ++ bs.take i = z := ⟨_, rfl⟩
            obtain ⟨p, hp⟩ : ∃ z, na + i = z := ⟨_, rfl⟩
            have hlbl : lb.length = p := by rw [← hlb, List.length_append, List.length_take, HNA.out, HN.out]; omega
            rw [hlb, hp] at J1
            have HLB := Lib.hid hlb; have HP := Lib.hid hp; have HLBL := Lib.hid hlbl
            have HILL : Hid ((il LL p).length = p) := Lib.hid (il_len LL p)
            have hpb : p ≤ 3147483648 := by omega
            obtain ⟨bb, oo, hAB, _, hcl⟩ := ((HRS.out.fine (Fine.refl w)).kept J2.out (HAB.out (by omega))).atI (i := i) (by rw [HN.out]; exact hin.1)
            obtain ⟨y, hy⟩ : ∃ y, bs.getD i 0 = y := ⟨_, rfl⟩
            rw [hy] at hcl
            have HY := Lib.hid hy
            have HXS : Hid (all ++ bs.take (i + 1) = lb ++ [y]) := Lib.hid (by rw [bl_all_succ bs i (by rw [HN.out]; exact hin.1), hy, ← List.append_assoc, hlb])
            have HLL1 : Hid (LL ((p : Int) + 1) = false) := Lib.hid (HL0.out _ (by have := HNA.out; omega))
            obtain ⟨AB', hAB'⟩ : ∃ z, z = AB := ⟨_, rfl⟩
            rw [← hAB'] at HRS HAB
            subst hAB
            have c0 : wr.cell? ⟨x, 0, none⟩ = some (.slice Ab2 p cb2) := by have := J1.out.box.cell 0; rw [hlbl] at this; exact this
            have e8 : ∀ o, (wr.alloc o).cell? ⟨x, 0, none⟩ = some (.slice Ab2 p cb2) := fun o => by have := (J1.out.box.fine ((Fine.refl wr).alloc o)).cell 0; rw [hlbl] at this; exact this
            have z8 : ∀ o, (wr.alloc o).frozen? ⟨x, 0, none⟩ = false := fun o => (J1.out.box.fine ((Fine.refl wr).alloc o)).frozen 0
            have J1d := Lib.hid (J1.out.fine (Fine.refl wr).drew)
            have HEL : Hid ((lb ++ [y]).length = p + 1) := Lib.hid (by rw [List.length_append, hlbl]; rfl)
            have hwr : w.heap.size ≤ wr.heap.size := J2.out.size
            clear hlb hp hlbl hy
            go_upto_region 8 with fail
            go_cut [] (fun wx => Hid (∃ G4 A' c', RsX G4 wx x A' c' Ai2 ci2 (lb ++ [y]) (il LL p) una T.nx T.ed false T.done ∧ Kept G w wx ∧ (∀ q, G4 q → G q ∨ w.heap.size ≤ q) ∧ Blk wx x4 84 #[.int .i64 0, .int .i64 0] ∧ ¬ G4 x4))
            case first =>
              go_region_law (first | (refine step_appE rfl sliceB (.tmp 41) (.tmp 46) rfl 0 (.slice Ab2 p cb2) lb rfl (by have := (J1d.out.fine ((Fine.refl _).alloc (.cells #[.int .u8 y] 5))).ob; rw [HLBL.out] at this; exact this) (some ⟨wr.heap.size, 0, none⟩) 1 1 [y] rfl rfl (RS.ofBlk (Blk.newAt rfl) rfl rfl (by unfold maxLen; omega)) (by rw [HLBL.out]; simp; omega) (by rw [HLBL.out]; simp; unfold maxLen; omega) (Nat.zero_le _) ?_; intro x2 wB oB kB0 gB0 bB; obtain ⟨A3, c3, hx2, _, _⟩ := oB.form; rw [HEL.out] at hx2; subst hx2; have XA := Lib.hid (J1d.out.fine ((Fine.refl wr.drew).alloc (.cells #[.int .u8 y] 5))); have KB : Kept (fun q => (Value.slice Ab2 lb.length cb2).ownBlock = some q) (wr.drew.alloc (.cells #[.int .u8 y] 5)) wB := (by rw [HLBL.out]; exact Kept.grown (Kept.refl _ _) gB0 (fun k hk _ => hk)); have BB := XA.out.box.kept KB (fun e => (XA.out.nb x e).1 rfl); have yB0 := BB.cell 0; have yB1 := BB.frozen 0))
              all_goals
                have XI := XA.out.moreB KB HEL.out.symm oB (bB.imp (fun h => by rw [HLBL.out] at ⊢; exact h) (fun h q hq => by have h2 := h.symm.trans hq; injection h2 with h2; exact Nat.le_of_eq h2))
                have fa := (Fine.refl wr.drew).alloc (.cells #[.int .u8 y] 5)
                have KI : Kept G w (wB.setCell ⟨x, 0, none⟩ (.slice A3 (p + 1) c3)) := ((J2.out.drew.trans (Kept.of_fine fa)).transG KB (fun _ _ h => h) (fun q hq e => (J3.out q (XA.out.gb q e)).elim id (fun h => by omega))).setCell (p := ⟨x, 0, none⟩) (fun hh => (J3.out x XA.out.gx).elim id (fun h => by have hh : x < w.heap.size := hh; omega)) _
                have GI : ∀ q, Grew G2 (wr.drew.alloc (.cells #[.int .u8 y] 5)) wB q → G q ∨ w.heap.size ≤ q := fun q hq => hq.elim (J3.out q) (fun h => .inr (by have := h.1; have := fa.size; have : wr.drew.heap.size = wr.heap.size := rfl; omega))
                have kx : Kept (· = x) wB (wB.setCell ⟨x, 0, none⟩ (.slice A3 (p + 1) c3)) := (Kept.refl (· = x) wB).setIn (p := ⟨x, 0, none⟩) rfl _
                have BI : Blk (wB.setCell ⟨x, 0, none⟩ (.slice A3 (p + 1) c3)) x4 84 #[.int .i64 0, .int .i64 0] := (((J4.out.drew).fine fa).kept KB (fun e => J5.out (XA.out.gb x4 e))).kept kx (fun e => J5.out (by have e : x4 = x := e; rw [e]; exact XA.out.gx))
                have NI : ¬ Grew G2 (wr.drew.alloc (.cells #[.int .u8 y] 5)) wB x4 := fun hq => hq.elim J5.out (fun h => by have := h.1; have := J4.out.lt; have := fa.size; have : wr.drew.heap.size = wr.heap.size := rfl; omega)
                have RR := Lib.hid (And.intro XI (And.intro KI (And.intro GI (And.intro BI NI))))
                clear XI KI GI BI NI kx fa yB0 yB1 BB XA KB oB gB0 bB kB0
                go_wp2_with fail
                go_meet
                exact Lib.hid ⟨_, A3, c3, RR.out⟩
            case rest =>
              obtain ⟨G4, A', c', k1, k2, k3, k4, k5⟩ := hcut.out
              obtain ⟨w5, hw5⟩ : ∃ w5, w5 = wc := ⟨_, rfl⟩
              subst hw5
              have K1 := Lib.hid k1; have K2 := Lib.hid k2; have K3 := Lib.hid k3; have K4 := Lib.hid k4; have K5 := Lib.hid k5
              have c1 : w5.cell? ⟨x, 1, none⟩ = some (.slice Ai2 p ci2) := by have := k1.box.cell 1; rw [HILL.out] at this; exact this
              clear k1 k2 k3 k4 k5 hcut c0 e8 z8 hcl J1d J1 J2 J3 J4 J5
              go_upto_region 10 with (at_builtin; refine wpList_appE rfl sliceT (.tmp 54) (.tmp 55) rfl 0 (.slice Ai2 p ci2) (il LL p) rfl (by have := (K1.out.fine ((Fine.refl w5).alloc (.cells #[.bool false] 4))).oi; rw [HILL.out] at this; exact this) (some ⟨w5.heap.size, 0, none⟩) 1 1 [false] rfl rfl (RS.ofBlk (Blk.newAt rfl) rfl rfl (by unfold maxLen; omega)) (by rw [HILL.out]; simp; omega) (by rw [HILL.out]; simp; unfold maxLen; omega) (Nat.zero_le _) ?_; intro A3 c3 w7 ho3 kk3 gg3; have XA := Lib.hid (K1.out.fine ((Fine.refl w5).alloc (.cells #[.bool false] 4))); have K7 : Hid (Kept (fun y => (Value.slice Ai2 (il LL p).length ci2).ownBlock = some y) (w5.alloc (.cells #[.bool false] 4)) w7) := Lib.hid (by rw [HILL.out]; exact Kept.grown (Kept.refl _ _) gg3.out.1 (fun k hk _ => hk)); have bx3 := XA.out.box.kept K7.out (fun e => XA.out.ni x e rfl); have d1 := bx3.cell 1; have z1 := bx3.frozen 1; have BX3 := Lib.hid bx3; clear bx3)
              have XI : RsX (Grew G4 (w5.alloc (.cells #[.bool false] 4)) w7) (w7.setCell ⟨x, 1, none⟩ (.slice A3 ((il LL p).length + 1) c3)) x A' c' A3 c3 (lb ++ [y]) (il LL (p + 1)) una T.nx T.ed false T.done := by
                rw [il_succ, HLL1.out]
                exact XA.out.moreI K7.out (by simp) ho3.out (gg3.out.2.imp (fun h => by rw [HILL.out] at h ⊢; exact h) (fun h y hy => by have h2 := h.symm.trans hy; injection h2 with h2; omega))
              have sz1 := K2.out.size; have sz2 := ((Fine.refl w5).alloc (.cells #[.bool false] 4)).size
              have GI : ∀ y, Grew G4 (w5.alloc (.cells #[.bool false] 4)) w7 y → G y ∨ w.heap.size ≤ y := fun y hy => hy.elim (K3.out y) (fun h => .inr (by omega))
              have KI : Kept G w (w7.setCell ⟨x, 1, none⟩ (.slice A3 ((il LL p).length + 1) c3)) := ((K2.out.trans (Kept.of_fine ((Fine.refl w5).alloc _))).transG K7.out (fun _ _ h => h) (fun y hy e => (K3.out y (XA.out.gi y e)).elim id (fun h => by omega))).setCell (p := ⟨x, 1, none⟩) (fun hh => (K3.out x XA.out.gx).elim id (fun h => by have hh : x < w.heap.size := hh; omega)) _
              have kx : Kept (· = x) w7 (w7.setCell ⟨x, 1, none⟩ (.slice A3 ((il LL p).length + 1) c3)) := (Kept.refl (· = x) w7).setIn (p := ⟨x, 1, none⟩) rfl _
              have BI : Blk (w7.setCell ⟨x, 1, none⟩ (.slice A3 ((il LL p).length + 1) c3)) x4 84 #[.int .i64 0, .int .i64 0] := ((K4.out.fine ((Fine.refl w5).alloc _)).kept K7.out (fun e => K5.out (XA.out.gi x4 e))).kept kx (fun e => K5.out (by have e : x4 = x := e; rw [e]; exact XA.out.gx))
              have NI : ¬ Grew G4 (w5.alloc (.cells #[.bool false] 4)) w7 x4 := fun hq => hq.elim K5.out (fun h => by have := h.1; have := K4.out.lt; omega)
              have RR := Lib.hid (And.intro XI (And.intro KI (And.intro GI (And.intro BI NI))))
              clear XI KI GI BI NI kx sz1 sz2 gg3 kk3 ho3 K7 BX3 d1 z1 XA c1 K1 K2 K3 K4 K5
              have e5 : IntKind.i64.wrap ((i : Int) + 1) = (i : Int) + 1 := IntWalk.i64_in _ (by omega)
              go_wp2_with fail
              exact ⟨⟨i + 1, hlt, by simp, Lib.hid ⟨_, A', c', A3, c3, by rw [HXS.out, show na + (i + 1) = p + 1 by have := HP.out; omega]; exact RR.out⟩⟩, by simp only [intOf]; omega⟩
          · have hie : i = mn := by omega
            have HIE := Lib.hid hie
            have key2 : ∀ K : Prop, (¬ (i : Int) < (n : Int) → decide ((i : Int) < (n : Int)) = false → K) → ((i : Int) < (n : Int) → decide ((i : Int) < (n : Int)) = true → ¬ (i : Int) < (rm : Int) → decide ((i : Int) < (rm : Int)) = false → K) → K := fun K a b => by
              have := HMN.out
              by_cases h0 : i < n
              · exact b (by omega) (by simp; omega) (by omega) (by simp; omega)
              · exact a (by omega) (by simp; omega)
            have KEY2 := Lib.hid key2
            have R4 : Blk ((wr.setCell ⟨x4, 0, none⟩ (.int .i64 (i : Int))).setCell ⟨x4, 1, none⟩ (.int .i64 0)) x4 84 #[.int .i64 (i : Int), .int .i64 0] := (J4.out.set_ 0 (.int .i64 (i : Int))).set_ 1 (.int .i64 0)
            have kk : Kept (· = x4) wr ((wr.setCell ⟨x4, 0, none⟩ (.int .i64 (i : Int))).setCell ⟨x4, 1, none⟩ (.int .i64 0)) := ((Kept.refl (· = x4) wr).setIn (p := ⟨x4, 0, none⟩) rfl _).setIn (p := ⟨x4, 1, none⟩) rfl _
            have R4H := Lib.hid R4; have KK := Lib.hid kk
            have c40 : wr.cell? ⟨x4, 0, none⟩ = some (.int .i64 0) := J4.out.cell 0
            have c41 : wr.cell? ⟨x4, 1, none⟩ = some (.int .i64 0) := J4.out.cell 1
            have z40 := J4.out.frozen 0
            have z41 := J4.out.frozen 1
            have HFIN : Hid (RsWr G x T L bs w (.returned (.agg #[.int .i64 (i : Int), .int .i64 0])) ((wr.setCell ⟨x4, 0, none⟩ (.int .i64 (i : Int))).setCell ⟨x4, 1, none⟩ (.int .i64 0))) := Lib.hid (by
              have hwn : wrN T bs = i := by unfold wrN; rw [if_neg (by rw [HTOLD.out]; decide), HNB.out, HN.out]; have := HRM.out; have := HMN.out; have := HIE.out; omega
              have hwe : wrE T bs = 0 := by
                unfold wrE
                rw [if_neg (by rw [HTOLD.out]; decide), HNB.out, HN.out]
                refine if_neg (fun hc => ?_)
                have h1 := HRM.out; have h2 := HMN.out; have h3 := HIE.out
                exact HNF.out ⟨by omega, hc.2⟩
              refine ⟨by rw [hwn, hwe], G2, ?_, (J2.out.transG KK.out (fun _ _ h => h) (fun q hq e => by have := HX4.out; have e : q = x4 := e; omega)), J3.out⟩
              have X := J1.out.kept KK.out (fun q hq e => J5.out (e ▸ hq))
              have hl : (all ++ bs.take i).length = na + i := by rw [List.length_append, List.length_take, HNA.out, HN.out]; have := HMN.out; omega
              refine ⟨Ab2, cb2, Ai2, ci2, all ++ bs.take i, LL, ?_, ?_, ?_, ?_, ?_⟩
              · rw [hl]
                simp only [Sn.wrote]
                rw [HUNA.out, HTOLD.out]
                exact X
              · rw [hl]
                have h1 := wrote_len T bs
                have h2 := HLEN.out
                rw [hwn] at h1
                have h3 := HNA.out
                show (((na + i : Nat) : Int) + 1) = T.una + ((T.wrote bs).buf.length : Int)
                omega
              · simp only [Sn.wrote]
                rw [hwn, HBUF.out, List.drop_append_of_le_length]
                have h1 := HLEN.out; have h2 := HT.out.u1
                omega
              · exact HLL.out
              · intro m hm
                rw [hl] at hm
                exact HL0.out m (by have := HNA.out; omega))
            clear hie key2 R4 kk J1 J2 J3 J4 J5
            refine KEY2.out _ (fun g3 g4 => ?_) (fun g3 g4 g5 g6 => ?_)
            all_goals
              clear KEY2
              (go_wp2_with fail) <;> exact bodyPost_ret (results_cell_row rfl _ _ x4 84 _ (0, 0) _ rfl R4H.out Try.underlying84 rfl size84) rfl HFIN.out
      · skip
        clear KEY
        go_wp2_with fail
        go_loopw [6] (fun s6 wr => ∃ (i : Nat), i ≤ mn ∧ s6 = .int .i64 i ∧ Hid (∃ G2 Ab2 cb2 Ai2 ci2, RsX G2 wr x Ab2 cb2 Ai2 ci2 (all ++ bs.take i) (il LL (na + i)) una T.nx T.ed false T.done ∧ Kept G w wr ∧ (∀ y, G2 y → G y ∨ w.heap.size ≤ y) ∧ Blk wr x4 84 #[.int .i64 0, .int .i64 0] ∧ ¬ G2 x4)) (fun s6 _ => mn - (intOf s6).toNat)
        case atStart => exact ⟨0, Nat.zero_le _, rfl, START.out⟩
        case round =>
          obtain ⟨i, hi, rfl, HJ⟩ := hrel
          obtain ⟨G2, Ab2, cb2, Ai2, ci2, j1, j2, j3, j4, j5⟩ := HJ.out
          have J1 := Lib.hid j1; have J2 := Lib.hid j2; have J3 := Lib.hid j3; have J4 := Lib.hid j4; have J5 := Lib.hid j5
          clear j1 j2 j3 j4 j5 HJ START
          by_cases hlt : i < mn
          · exfalso
            have := HMN.out
            omega
          · have hie : i = mn := by omega
            have HIE := Lib.hid hie
            have key2 : ∀ K : Prop, (¬ (i : Int) < (n : Int) → decide ((i : Int) < (n : Int)) = false → K) → ((i : Int) < (n : Int) → decide ((i : Int) < (n : Int)) = true → ¬ (i : Int) < (rm : Int) → decide ((i : Int) < (rm : Int)) = false → K) → K := fun K a b => by
              have := HMN.out
              by_cases h0 : i < n
              · exact b (by omega) (by simp; omega) (by omega) (by simp; omega)
              · exact a (by omega) (by simp; omega)
            have KEY2 := Lib.hid key2
            have R4 : Blk ((wr.setCell ⟨x4, 0, none⟩ (.int .i64 (i : Int))).setCell ⟨x4, 1, none⟩ (.int .i64 0)) x4 84 #[.int .i64 (i : Int), .int .i64 0] := (J4.out.set_ 0 (.int .i64 (i : Int))).set_ 1 (.int .i64 0)
            have kk : Kept (· = x4) wr ((wr.setCell ⟨x4, 0, none⟩ (.int .i64 (i : Int))).setCell ⟨x4, 1, none⟩ (.int .i64 0)) := ((Kept.refl (· = x4) wr).setIn (p := ⟨x4, 0, none⟩) rfl _).setIn (p := ⟨x4, 1, none⟩) rfl _
            have R4H := Lib.hid R4; have KK := Lib.hid kk
            have c40 : wr.cell? ⟨x4, 0, none⟩ = some (.int .i64 0) := J4.out.cell 0
            have c41 : wr.cell? ⟨x4, 1, none⟩ = some (.int .i64 0) := J4.out.cell 1
            have z40 := J4.out.frozen 0
            have z41 := J4.out.frozen 1
            have HFIN : Hid (RsWr G x T L bs w (.returned (.agg #[.int .i64 (i : Int), .int .i64 0])) ((wr.setCell ⟨x4, 0, none⟩ (.int .i64 (i : Int))).setCell ⟨x4, 1, none⟩ (.int .i64 0))) := Lib.hid (by
              have hwn : wrN T bs = i := by unfold wrN; rw [if_neg (by rw [HTOLD.out]; decide), HNB.out, HN.out]; have := HRM.out; have := HMN.out; have := HIE.out; omega
              have hwe : wrE T bs = 0 := by
                unfold wrE
                rw [if_neg (by rw [HTOLD.out]; decide), HNB.out, HN.out]
                refine if_neg (fun hc => ?_)
                have h1 := HRM.out; have h2 := HMN.out; have h3 := HIE.out
                exact HNF.out ⟨by omega, hc.2⟩
              refine ⟨by rw [hwn, hwe], G2, ?_, (J2.out.transG KK.out (fun _ _ h => h) (fun q hq e => by have := HX4.out; have e : q = x4 := e; omega)), J3.out⟩
              have X := J1.out.kept KK.out (fun q hq e => J5.out (e ▸ hq))
              have hl : (all ++ bs.take i).length = na + i := by rw [List.length_append, List.length_take, HNA.out, HN.out]; have := HMN.out; omega
              refine ⟨Ab2, cb2, Ai2, ci2, all ++ bs.take i, LL, ?_, ?_, ?_, ?_, ?_⟩
              · rw [hl]
                simp only [Sn.wrote]
                rw [HUNA.out, HTOLD.out]
                exact X
              · rw [hl]
                have h1 := wrote_len T bs
                have h2 := HLEN.out
                rw [hwn] at h1
                have h3 := HNA.out
                show (((na + i : Nat) : Int) + 1) = T.una + ((T.wrote bs).buf.length : Int)
                omega
              · simp only [Sn.wrote]
                rw [hwn, HBUF.out, List.drop_append_of_le_length]
                have h1 := HLEN.out; have h2 := HT.out.u1
                omega
              · exact HLL.out
              · intro m hm
                rw [hl] at hm
                exact HL0.out m (by have := HNA.out; omega))
            clear hie key2 R4 kk J1 J2 J3 J4 J5
            refine KEY2.out _ (fun g3 g4 => ?_) (fun g3 g4 g5 g6 => ?_)
            all_goals
              clear KEY2
              (go_wp2_with fail) <;> exact bodyPost_ret (results_cell_row rfl _ _ x4 84 _ (0, 0) _ rfl R4H.out Try.underlying84 rfl size84) rfl HFIN.out
end Go.Proofs.Ytnigfdldfmiaiaa
