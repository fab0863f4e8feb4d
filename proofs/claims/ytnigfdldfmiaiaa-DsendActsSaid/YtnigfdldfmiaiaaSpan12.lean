/- Contracts: Add, whole; New. -/
import Derived.Test.YtnigfdldfmiaiaaSpan11
namespace Go.Proofs.Ytnigfdldfmiaiaa
open Go.ChangeShapes Go.WideShapes Go.ChangeAt Go.RowKit
set_option linter.unusedVariables false
set_option linter.unusedSimpArgs false
/-- What Add answers. -/
def AddOf (base g : Nat) (v : Value) (l : List Rn) (p : Int → Bool) (w : World) (r : Ending) (w' : World) : Prop :=
  ∃ v' l', r = .returned (.int .i64 (total l' - total l)) ∧ Tidy l' ∧ (∀ m, inB l' m = (inB l m || p m)) ∧ SetA base w' g v' l' ∧ Kept (fun k => k = g ∨ v.ownBlock = some k) w w' ∧ (v'.ownBlock = v.ownBlock ∨ ∀ k, v'.ownBlock = some k → w.heap.size ≤ k)
theorem add_any (base g : Nat) (v : Value) (l : List Rn) (hT : Tidy l) (f b : Int) (hf : -9223372036854775808 ≤ f ∧ f ≤ 9223372036854775807) (hb : -9223372036854775808 ≤ b ∧ b ≤ 9223372036854775807) (w : World) (hbw : base ≤ w.heap.size) (h : SetA base w g v l) :
    Calls Try.prog 20 #[.pointer (some ⟨g, 0, none⟩), .int .i64 f, .int .i64 b] w (AddOf base g v l (hasR (heldR f b)) w) := by
  rcases heldR_ok f b with h0 | ⟨h1, h2, h3⟩
  · refine (add_void g f b hf hb h0 w).mono ?_
    rintro r w' ⟨rfl, f'⟩
    refine ⟨v, l, by rw [Int.sub_self], hT, fun m => ?_, h.fine f', Kept.of_fine f', .inl rfl⟩
    have e : hasR (heldR f b) m = false := by
      rw [h0]
      unfold hasR rto
      simp
    rw [e, Bool.or_false]
  · exact add_main base g v l hT f b (heldR f b).1 (heldR f b).2 hf hb rfl h1 h2 h3 w hbw h
/-- A set that is all behind w stays so. -/
theorem AddOf.fine {base g : Nat} {v : Value} {l : List Rn} {p : Int → Bool} {w0 w w' : World} {r : Ending} (h : AddOf base g v l p w r w') (hw : Fine w0 w) (hb : w0.heap.size ≤ base) (hg : w0.heap.size ≤ g) (hs : SetA base w g v l) : Fine w0 w' := by
  obtain ⟨v', l', _, _, _, _, k, _⟩ := h
  obtain ⟨A, c, hv, hbg, ho, hne⟩ := hs
  exact hw.kept k (fun x hx e => by
    rcases e with e | e
    · omega
    · have := (ho.lt x e).1; omega)
set_option maxHeartbeats 2000000 in
set_option maxRecDepth 20000 in
theorem new_any (A : Option Addr) (n c : Nat) (rs : List Rn) (hn : rs.length = n) (hnb : n ≤ 4294967296) (hrb : ∀ r ∈ rs, (-9223372036854775808 ≤ r.1 ∧ r.1 ≤ 9223372036854775807) ∧ (-9223372036854775808 ≤ r.2 ∧ r.2 ≤ 9223372036854775807)) (w : World) (h : RS layR w A c rs) :
    Calls Try.prog 19 #[.slice A n c] w fun r w' => ∃ g v l, r = .returned (.pointer (some ⟨g, 0, none⟩)) ∧ w.heap.size ≤ g ∧ Tidy l ∧ (∀ m, inB l m = rs.any (fun x => hasR (heldR x.1 x.2) m)) ∧ SetA w.heap.size w' g v l ∧ Fine w w' := by
  obtain ⟨g, hg⟩ : ∃ g, w.heap.size = g := ⟨_, rfl⟩
  have HG := Lib.hid hg
  have HR := Lib.hid h; have HB := Lib.hid hrb; have HN := Lib.hid hn
  have hw1 : Fine w (w.alloc (.cells #[.slice none 0 0] 97)) := (Fine.refl w).alloc _
  have hbg := Blk.newAt (w := w) (t := 97) (cs := #[.slice none 0 0]) hg.symm
  have HS : Hid (SetA w.heap.size (w.alloc (.cells #[.slice none 0 0] 97)) g (.slice none 0 0) []) := Lib.hid ⟨none, 0, rfl, hbg, Own.nil_ _ _ _ _, by intro e; cases e⟩
  have HF := Lib.hid hw1
  clear h hrb hn hbg hw1
  go_enter Try.func19, Try.ntmps19
  go_wp2_with fail
  generalize w.alloc (.cells #[.slice none 0 0] 97) = w1 at HS HF ⊢
  clear hg
  go_loopw [10] (fun s10 wr => ∃ (k : Nat), k ≤ n ∧ s10 = .int .i64 k ∧ Hid (∃ v l, Tidy l ∧ (∀ m, inB l m = (rs.take k).any (fun x => hasR (heldR x.1 x.2) m)) ∧ SetA w.heap.size wr g v l ∧ Fine w wr)) (fun s10 _ => n - (intOf s10).toNat)
  case atStart => exact ⟨0, Nat.zero_le _, rfl, Lib.hid ⟨_, [], Tidy.nil, fun m => rfl, HS.out, HF.out⟩⟩
  case round =>
    obtain ⟨k, hk, rfl, HI⟩ := hrel
    by_cases hlt : k < n
    · obtain ⟨r, hr0⟩ : ∃ r, rs[k]? = some r := ⟨_, List.getElem?_eq_getElem (by have := HN.out; omega)⟩
      have hbd := HB.out r (List.mem_of_getElem? hr0)
      obtain ⟨v, l, i1, i2, i3, i4⟩ := HI.out
      obtain ⟨bb, o, rfl, hb, hc⟩ := (HR.out.fine i4).at_ hr0
      have d0 := hc 0 (.int .i64 r.1) rfl
      have d1 := hc 1 (.int .i64 r.2) rfl
      simp only [← Nat.add_assoc, Nat.add_zero] at d0 d1
      obtain ⟨r1, hr1⟩ : ∃ x, r.1 = x := ⟨_, rfl⟩
      obtain ⟨r2, hr2⟩ : ∃ x, r.2 = x := ⟨_, rfl⟩
      rw [hr1] at d0 hbd
      rw [hr2] at d1 hbd
      have I1 := Lib.hid i1; have I2 := Lib.hid i2; have I3 := Lib.hid i3; have I4 := Lib.hid i4
      have HNX : Hid (rs.take (k + 1) = rs.take k ++ [r]) := Lib.hid (by rw [List.take_add_one, hr0]; rfl)
      have HRR : Hid (r = (r1, r2)) := Lib.hid (by rw [← hr1, ← hr2])
      have HBD := Lib.hid hbd
      clear i1 i2 i3 i4 HI hc hr0 hr1 hr2 hbd
      go_wp2_with fail
      have f5 := (Fine.refl wr).alloc (.cells #[.int .i64 r1, .int .i64 r2] 32)
      have S5 := I3.out.fine f5
      refine (add_any w.heap.size g v l I1.out r1 r2 HBD.out.1 HBD.out.2 _ (Nat.le_trans I4.out.size f5.size) S5).mono ?_
      rintro x w6 HA
      have F6 := Lib.hid (HA.fine (I4.out.trans f5) (Nat.le_refl _) (Nat.le_of_eq HG.out) S5)
      obtain ⟨v', l', rfl, a1, a2, a3, _, _⟩ := HA
      have A1 := Lib.hid a1; have A2 := Lib.hid a2; have A3 := Lib.hid a3
      clear a1 a2 a3 S5 f5
      go_wp2_with fail
      refine ⟨⟨k + 1, hlt, by simp, Lib.hid ⟨v', l', A1.out, fun m => ?_, A3.out, F6.out⟩⟩, by simp only [intOf]; omega⟩
      rw [A2.out m, I2.out m, HNX.out, List.any_append, HRR.out]
      simp
    · have hie : k = n := by omega
      subst hie
      obtain ⟨v, l, i1, i2, i3, i4⟩ := HI.out
      have I1 := Lib.hid i1; have I2 := Lib.hid i2; have I3 := Lib.hid i3; have I4 := Lib.hid i4
      clear i1 i2 i3 i4 HI
      go_wp2_with fail
      go_ret
      exact ⟨g, v, l, rfl, Nat.le_of_eq HG.out, I1.out, fun m => by rw [I2.out m, ← HN.out, List.take_length], I3.out, I4.out⟩
end Go.Proofs.Ytnigfdldfmiaiaa
