/- Nets: Spoil; the law NetSpoils. -/
import Derived.Test.YthnennleblgjeaaDoorXNet5
namespace Go.Proofs.YthnennleblgjeaaDoor
set_option linter.unusedVariables false
set_option linter.unusedSimpArgs false
open Go.ChangeShapes Go.WideShapes Go.ChangeAt Go.RowKit
set_option linter.unusedVariables false
set_option linter.unusedSimpArgs false
theorem NetO.stored {w : World} {base g gb j : Nat} {p : Pk} {z : Int} (h : NetO w base g [p]) (hA : p.A = some ⟨gb, 0, none⟩) (hz : 0 ≤ z ∧ z ≤ 255) : NetO (w.setCell ⟨gb, j, none⟩ (.int .u8 z)) base g [{ p with xs := p.xs.set j z }] := by
  obtain ⟨v, h1, h2, h3, h5⟩ := h
  have ho := h5 p (by simp)
  rw [hA] at ho
  have hne : ¬ gb = g := ho.ne81 h2 (by decide) gb rfl
  have hv : ¬ v.ownBlock = some gb := apartB ho h3 gb rfl
  have hk : Kept (fun x => x = gb) w (w.setCell ⟨gb, j, none⟩ (.int .u8 z)) := (Kept.refl (fun x => x = gb) w).setIn (p := ⟨gb, j, none⟩) rfl _
  have h3' := h3.kept hk (fun k hk e => hv (by rw [hk, e]))
  refine ⟨v, h1, h2.kept hk (fun e => hne e.symm), ?_, fun q hq => ?_⟩
  · unfold Own at h3' ⊢
    have e : layK.flat [{ p with xs := p.xs.set j z }] = layK.flat [p] := by
      rw [layK.flat_one, layK.flat_one]
      simp [layK]
    rw [e]
    exact h3'
  · obtain rfl : q = { p with xs := p.xs.set j z } := by simpa using hq
    have hs := ho.stored j hz
    show OwnB _ base (.slice p.A (p.xs.set j z).length p.c) (p.xs.set j z)
    rw [List.length_set, hA]
    exact hs
set_option maxHeartbeats 8000000 in
set_option maxRecDepth 100000 in
theorem spoil_any (base g gb : Nat) (p : Pk) (pl i : Nat) (hi : i = 0) (hA : p.A = some ⟨gb, 0, none⟩) (hpl : p.xs.length = pl) (N : Nat → Int) (n m : Nat) (l : List (Nat → Int)) (ds : List Int) (hn : n = l.length) (hm : m = ds.length) (hN : OkN N) (hV : ∀ V ∈ l, OkV V) (hds : Bytes ds) (hr : segRightB N l ds = true) (hx : p.xs = putOf (segB N l ds)) (at_ : Nat) (hat : at_ < pl) (y x z : Int) (hy : 1 ≤ y ∧ y ≤ 255) (hxa : p.xs.getD at_ 0 = x) (hz : (x + y) % 256 = z) (w : World) (hT : TabW w) (h : NetO w base g [p]) :
    Calls Tryd.prog 30 #[.pointer (some ⟨g, 0, none⟩), .int .i64 i, .int .i64 at_, .int .i64 y] w fun r w' => r = .returned (.int .i64 0) ∧ NetO w' base g [{ p with xs := p.xs.set at_ z }] ∧ Kept (fun k => k = gb) w w' := by
  have hpl2 := put_len hr
  rw [← hx, hpl] at hpl2
  have hxb : Bytes p.xs := by rw [hx]; exact put_bytes N l hds
  have hxr := hxb.getD at_
  rw [hxa] at hxr
  have H := Lib.hid h
  have HW := Lib.hid (fun w' (f : Fine w w') => wrong_any base g [p] i (by simp; omega) (by simp) w' (h.fine f).r)
  have HG := Lib.hid (fun w' (f : Fine w w') (hb : BS w' p.A p.c p.xs) => getGood_any N p.A pl p.c n m l ds hn hm hN hV hds hr w' (hT.fine f) (by rw [← hx]; exact hb) (by rw [← hx]; exact hpl.symm))
  obtain ⟨v, h1, h2, h3, h5⟩ := h
  have ho := h5 p (by simp)
  obtain ⟨An, cn, rfl, hrs, _⟩ := h3.form
  have hp0 : [p][i]? = some p := by subst hi; rfl
  obtain ⟨b, o, e1, hb, hc⟩ := hrs.at_ hp0
  subst e1
  have d1 := hc 1 (.slice p.A p.xs.length p.c) rfl
  simp only [← Nat.add_assoc, Nat.add_zero] at d1
  rw [hpl, hA] at d1
  rw [hA] at ho HG
  have HO := Lib.hid ho; have HPL := Lib.hid hpl
  have c0 : w.cell? ⟨g, 0, none⟩ = some (.slice (some ⟨b, o, none⟩) 1 cn) := h2.cell 0
  have H2 := Lib.hid h2
  have HD1 : Hid (∀ w', Fine w w' → w'.cell? ⟨b, o + i * 2 + 1, none⟩ = some (.slice (some ⟨gb, 0, none⟩) pl p.c)) := Lib.hid (fun w' f => (f.cell (p := ⟨b, o + i * 2 + 1, none⟩) hb).trans d1)
  have HC0 : Hid (∀ w', Fine w w' → w'.cell? ⟨g, 0, none⟩ = some (.slice (some ⟨b, o, none⟩) 1 cn)) := Lib.hid (fun w' f => (h2.fine f).cell 0)
  have HI1 : Hid (i < 1) := Lib.hid (by omega)
  have HHA := Lib.hid hA; have HXA := Lib.hid hxa; have HZ := Lib.hid hz; have HXR := Lib.hid hxr
  have hpl3 : (pl : Int) ≤ 300 := by omega
  have hat2 : (at_ : Int) < (pl : Int) := by omega
  have hy1 : ¬ y < 1 := by omega
  have hy2 : ¬ y > 255 := by omega
  have hi2 : (i : Int) < 1 := by omega
  have wz : IntKind.u8.wrap (x + y) = z := by rw [IntKind.wrap_u8, hz]
  have wy : IntKind.u8.wrap y = y := by rw [IntKind.wrap_u8]; omega
  clear h1 h2 h3 h5 ho hc hpl hp0 hrs hA hxa hz hxr hxb hpl2 hx hT hr hn hm hN hV hds hi hb
  go_enter Tryd.func30, Tryd.ntmps30
  go_wp2_with fail
  refine (HW.out w (Fine.refl w)).mono ?_
  rintro xx w2 ⟨rfl, f2⟩
  clear c0 d1
  have c0 := HC0.out w2 f2
  have d1 := HD1.out w2 f2
  go_wp2_with fail
  refine (HG.out w2 f2 (HO.out.fine f2).bs.1).mono ?_
  rintro xx w3 ⟨A1, c1, B1, d1', rfl, _, _, f⟩
  have f3 := f2.trans f
  clear f2 f c0 d1
  go_upto_region 9 with (fail)
  have f := f3.alloc (.cells #[.int .i64 (N 0), .int .i64 (N 1), .int .i64 (N 2), .int .i64 (N 3), .int .u32 (N 4), .int .u32 (N 5), .bool (decide (N 6 = 1)), .bool (decide (N 7 = 1)), .bool (decide (N 8 = 1)), .bool (decide (N 9 = 1)), .int .i64 (N 10), .slice A1 n c1, .slice B1 m d1'] 26)
  generalize (w3.alloc (.cells #[.int .i64 (N 0), .int .i64 (N 1), .int .i64 (N 2), .int .i64 (N 3), .int .u32 (N 4), .int .u32 (N 5), .bool (decide (N 6 = 1)), .bool (decide (N 7 = 1)), .bool (decide (N 8 = 1)), .bool (decide (N 9 = 1)), .int .i64 (N 10), .slice A1 n c1, .slice B1 m d1'] 26)) = w4 at f ⊢
  have c0 := HC0.out w4 f
  have d1 := HD1.out w4 f
  have e0 : w4.cell? ⟨gb, at_, none⟩ = some (.int .u8 x) := by
    obtain ⟨b', o', e, _, hc⟩ := ((HO.out.fine f).bs.1).at_ (k := at_) (by rw [HPL.out]; omega)
    injection e with e
    injection e with e1 e2 _
    subst e1 e2
    rw [Nat.zero_add, HXA.out] at hc
    exact hc
  have z0 : w4.frozen? ⟨gb, at_, none⟩ = false := (HO.out.fine f).frozen at_
  have HN4 := Lib.hid ((H.out.fine f).stored (j := at_) HHA.out (z := z) (by have := HZ.out; omega))
  have HK4 : Hid (Kept (fun k => k = gb) w (w4.setCell ⟨gb, at_, none⟩ (.int .u8 z))) := Lib.hid ((Kept.of_fine (S := fun k => k = gb) f).setIn (p := ⟨gb, at_, none⟩) rfl _)
  clear f3 f
  go_wp2_with fail
  go_ret
  exact ⟨rfl, HN4.out, HK4.out⟩
end Go.Proofs.YthnennleblgjeaaDoor
