/- The law OctetJoins: any pieces are joined in order; they are the same just if all bytes are; what is joined is memory of its own. -/
import Derived.Test.YthnennleblgjeaaOctPut
namespace Go.Proofs.Ythnennleblgjeaa
open Go.ChangeShapes Go.WideShapes Go.ChangeAt Go.RowKit
set_option linter.unusedVariables false

/-- A slice of slices of bytes that came in. -/
def BssIn (w : World) (a : Option Addr) (len cap : Nat) (ls : List (List Int)) : Prop := ls.length = len ∧ BSS w a cap ls
theorem bssIn_of {H : Type} {enc : TypeId × Value → H} {w : World} {spare : Nat → Bool} {held : Bool} {a : Option Addr} {len cap : Nat} {d : DataW H} {p : List MemPlace}
    (h : DataW.Trod enc Try.prog w 0 spare held 22 (.slice a len cap) d p) : ∃ ls, BssIn w a len cap ls := by
  have hC : Try.prog.cellsOf 24 = 1 := by kernel_rfl
  obtain ⟨h1, h2, h3, h4⟩ := slice_elems Try.underlying22 (by rw [hC]; omega) h
  rcases Nat.eq_zero_or_pos len with h0 | hpos
  · subst h0
    exact ⟨[], rfl, [], rfl, ⟨Nat.zero_le _, h2, fun e => (h3 e).2, fun h => absurd h (by simp)⟩, fun i u l hu => by simp at hu⟩
  · obtain ⟨b, off, n, rfl, hb, hel⟩ := h4 hpos
    have key : ∀ i, i < len → ∃ (A : Option Addr) (c : Nat) (l : List Int), w.cell? ⟨b, off + i, none⟩ = some (.slice A l.length c) ∧ BS w A c l := by
      intro i hi
      obtain ⟨cs, x, hl, hc, ht⟩ := hel i hi
      have h0 := hc 0 (by rw [hC]; omega)
      rw [hC] at h0 hl
      obtain ⟨v, rfl⟩ : ∃ v, cs = [v] := by
        match cs, hl with
        | [v], _ => exact ⟨v, rfl⟩
      simp at h0
      obtain ⟨A, m, c, hv⟩ : ∃ A m c, v = Value.slice A m c := by
        rcases DataW.trod_slice Try.underlying24 ht with ⟨hcs, _⟩ | ⟨ad, m, c, _, _, _, _, hcs, _⟩
        · simp at hcs; exact ⟨none, 0, 0, hcs⟩
        · simp at hcs; exact ⟨some ad, m, c, hcs⟩
      subst hv
      obtain ⟨zs, hz⟩ := intsIn_of Try.underlying24 Try.underlying5 (by kernel_rfl) (⟨n, by simpa [Value.cells] using ht⟩ : DataW.Trod enc Try.prog w 0 spare held 24 (.slice A m c) x.1 x.2)
      have hl : zs.length = m := hz.2.2.1
      subst hl
      exact ⟨A, c, zs, h0, BS.of_ints hz⟩
    let L : Nat → List Int := fun i => if h : i < len then (key i h).choose_spec.choose_spec.choose else []
    have hL : ∀ i, i < len → ∃ A c, w.cell? ⟨b, off + i, none⟩ = some (.slice A (L i).length c) ∧ BS w A c (L i) := by
      intro i hi
      refine ⟨(key i hi).choose, (key i hi).choose_spec.choose, ?_⟩
      have := (key i hi).choose_spec.choose_spec.choose_spec
      simp only [L, hi, dif_pos]
      exact this
    refine ⟨(List.range len).map L, by simp, (List.range len).map fun i => (w.cell? ⟨b, off + i, none⟩).getD (.slice none 0 0), by simp, ⟨by simpa using h1, h2, fun e => (by cases e), fun _ => ⟨b, off, rfl, hb, fun i v hv => ?_⟩⟩, fun i u l hu hl => ?_⟩
    · have hi : i < len := by have := (List.getElem?_eq_some_iff.1 hv).1; simpa using this
      obtain ⟨A, c, hc, _⟩ := hL i hi
      simp [hi, hc] at hv
      rw [hc, hv]
    · have hi : i < len := by have := (List.getElem?_eq_some_iff.1 hu).1; simpa using this
      obtain ⟨A, c, hc, hb'⟩ := hL i hi
      simp [hi, hc] at hu hl
      subst hl
      exact ⟨A, c, hu.symm, hb'⟩

set_option maxHeartbeats 1000000 in
theorem lawOctetJoins (w : World) (a : Option Addr) (len cap : Nat) (ls : List (List Int)) (hz : BssIn w a len cap ls) :
    Calls Try.prog 3 #[.slice a len cap] w fun e w' => e = .returned (.bool true) ∧ Below w.heap.size w w' := by
  show Calls _ _ _ _ fun e w' => e = .returned (.bool true) ∧ Fine w w'
  obtain ⟨hl, hb⟩ := hz
  subst hl
  have HB := Lib.hid hb; clear hb
  go_enter Try.func3, Try.ntmps3
  go_wp2_with fail
  refine (oct_wakes _).mono ?_; rintro e w1 ⟨rfl, f1⟩
  go_wp2
  · go_ret
    exact ⟨rfl, (by repeat (first | exact Fine.refl _ | assumption | refine Fine.alloc ?_ _ | refine Fine.drew ?_ | refine Fine.drewN ?_ _ | refine Fine.trans ?_ (by assumption) | (refine Fine.kept ?_ (by assumption) (by intro x hx; first | omega | (simp; omega))) | (refine Fine.setCell ?_ (by first | assumption | (simp; omega)) _)))⟩
  · have hlen : ls.length ≤ 50 := by have h : (ls.length : Int) ≤ 50 := by assumption
                                     omega
    go_loopw [15, 3] (fun i v wr => ∃ k : Nat, k ≤ ls.length ∧ i = .int .i64 k ∧ OwnB wr w1.heap.size v (ls.take k).flatten ∧ (ls.take k).flatten.length ≤ 200 * k ∧ Fine w1 wr) (fun i _ _ => ls.length - (intOf i).toNat)
    case atStart => exact ⟨0, Nat.zero_le _, rfl, by simpa using OwnB.nil_ w1 w1.heap.size, by simp, (by repeat (first | exact Fine.refl _ | assumption | refine Fine.alloc ?_ _ | refine Fine.drew ?_ | refine Fine.drewN ?_ _ | refine Fine.trans ?_ (by assumption) | (refine Fine.kept ?_ (by assumption) (by intro x hx; first | omega | (simp; omega))) | (refine Fine.setCell ?_ (by first | assumption | (simp; omega)) _)))⟩
    case round =>
      obtain ⟨k, hk, rfl, hown, hle, hf⟩ := hrel
      by_cases hlt : k < ls.length
      · obtain ⟨b, off, A', c', l, HL, rfl, hb, hck, hbs⟩ := (HB.out.fine (f1.trans hf)).at_ hlt
        have hfl := flatten_take ls k hlt
        rw [HL.out] at hfl
        have HFL := Lib.hid hfl; clear hfl
        have hz1 := hf.size
        by_cases h200 : 200 < l.length
        · go_wp2
          go_ret
          exact ⟨rfl, f1.trans hf⟩
        · have h200' : l.length ≤ 200 := by omega
          go_wp2_with (at_builtin; refine wpList_appB rfl (.tmp 24) (.tmp 28) rfl w1.heap.size _ _ rfl hown A' _ c' _ rfl rfl hbs (by omega) (by omega) ?_; intro v' w2 hown1 hk1 _ _)
          have hf1 : Fine w1 w2 := (by repeat (first | exact Fine.refl _ | assumption | refine Fine.alloc ?_ _ | refine Fine.drew ?_ | refine Fine.drewN ?_ _ | refine Fine.trans ?_ (by assumption) | (refine Fine.kept ?_ (by assumption) (by intro x hx; first | omega | (simp; omega))) | (refine Fine.setCell ?_ (by first | assumption | (simp; omega)) _)))
          go_roundw
          case rel => exact ⟨k + 1, by omega, by go_num, by rw [HFL.out]; exact hown1, by rw [HFL.out, List.length_append]; omega, hf1⟩
          case measure => simp [intOf]; omega
      · have e : k = ls.length := by omega
        subst e
        obtain ⟨wB, rfl⟩ : ∃ wB : World, wB = wr := ⟨_, rfl⟩
        rw [List.take_length] at hown hle
        have hfl : ls.flatten.length ≤ 10000 := by omega
        obtain ⟨W, hW⟩ : ∃ W, ls.flatten = W := ⟨_, rfl⟩
        have HJ := Lib.hid (fun A n c w h hn => hW ▸ join_any A n c ls w h hn (by rw [hW] at hfl ⊢; omega) (by omega))
        rw [hW] at hown hfl
        obtain ⟨A3, c3, rfl, b3, _⟩ := hown.form
        have K3 := Lib.hid b3
        have O3 := Lib.hid hown
        have HW := Lib.hid hW
        have HLL : Hid (∀ (i : Nat) (l : List Int), i < ls.length → ls.getD i [] = l → l.length ≤ 1000000000) := by
          intro i l hi hl
          have h1 := flatten_take_le ls (i + 1)
          rw [flatten_take ls i hi, hl, List.length_append, hW] at h1
          omega
        clear hW hown b3 hle
        have F3 : Fine w wB := f1.trans hf
        go_wp2_with fail
        refine (HJ.out a _ cap _ (HB.out.fine F3) rfl).mono ?_; rintro e w4 ⟨v4, rfl, o4, f4⟩
        obtain ⟨A4, c4, rfl, b4, _⟩ := o4.form
        have K4 := Lib.hid b4
        have O4 := Lib.hid o4
        clear o4 b4
        go_wp2_with fail
        refine (same_n A4 A3 _ _ c4 c3 W W _ K4.out (K3.out.fine f4) rfl rfl (by omega)).mono ?_; rintro e w5 ⟨rfl, f5⟩
        go_wp2_with fail
        refine (osame_any A4 A3 _ _ c4 c3 W W _ (K4.out.fine f5) ((K3.out.fine f4).fine f5) rfl rfl).mono ?_; rintro e w6 ⟨rfl, f6⟩
        go_wp2
        go_loopw [45] (fun i w7 => ∃ j : Nat, j ≤ W.length ∧ i = .int .i64 j ∧ (∃ M : List Int, Hid (M.length = W.length) ∧ Hid (OwnB w7 wB.heap.size (.slice A4 W.length c4) M)) ∧ Fine wB w7) (fun i _ => W.length - (intOf i).toNat)
        case atStart => exact ⟨0, Nat.zero_le _, rfl, ⟨W, rfl, (O4.out.fine f5).fine f6⟩, (by repeat (first | exact Fine.refl _ | assumption | refine Fine.alloc ?_ _ | refine Fine.drew ?_ | refine Fine.drewN ?_ _ | refine Fine.trans ?_ (by assumption) | (refine Fine.kept ?_ (by assumption) (by intro x hx; first | omega | (simp; omega))) | (refine Fine.setCell ?_ (by first | assumption | (simp; omega)) _)))⟩
        case round =>
          obtain ⟨j, hj, rfl, ⟨M, HM, OM⟩, hf7⟩ := hrel
          by_cases hlt : j < W.length
          · obtain ⟨g, rfl, hg1, hg2⟩ := OM.out.head (by omega)
            have hb7 := OM.out.bs.1
            obtain ⟨b', off', e7, _, hc⟩ := hb7.at_ (k := j) (by rw [HM.out]; exact hlt)
            injection e7 with e7
            injection e7 with e71 e72 _
            subst e71 e72
            rw [Nat.zero_add] at hc
            have hfro := OM.out.frozen j
            have hzb := OM.out.1.getD j
            obtain ⟨z, hz⟩ : ∃ z, M.getD j 0 = z := ⟨_, rfl⟩
            rw [hz] at hc hzb
            clear hz hb7
            go_wp2
            go_roundw
            case rel => exact ⟨j + 1, by omega, by go_num, ⟨M.set j ((z + 1) % 256), by show _ = _; rw [List.length_set]; exact HM.out, OM.out.stored j (by omega)⟩, hf7.setCell hg1 _⟩
            case measure => simp [intOf]; omega
          · clear OM
            obtain ⟨wC, rfl⟩ : ∃ wC : World, wC = wr := ⟨_, rfl⟩
            have F7 : Fine w wC := F3.trans hf7
            go_wp2
            go_loopw [7] (fun i w9 => ∃ q : Nat, i = .int .i64 (q + 1 : Nat) ∧ Fine wC w9) (fun i _ => ls.length - (intOf i).toNat)
            case atStart => exact ⟨0, rfl, (by repeat (first | exact Fine.refl _ | assumption | refine Fine.alloc ?_ _ | refine Fine.drew ?_ | refine Fine.drewN ?_ _ | refine Fine.trans ?_ (by assumption) | (refine Fine.kept ?_ (by assumption) (by intro x hx; first | omega | (simp; omega))) | (refine Fine.setCell ?_ (by first | assumption | (simp; omega)) _)))⟩
            case round =>
              obtain ⟨q, rfl, hf9⟩ := hrel
              by_cases hq : q + 1 < ls.length
              · obtain ⟨b, off, A1, c1, l1, HL1, rfl, hb1, hc1, hbs1⟩ := (HB.out.fine (F7.trans hf9)).at_ (k := q) (by omega)
                obtain ⟨b', off', A2, c2, l2, HL2, e2, hb2, hc2, hbs2⟩ := (HB.out.fine (F7.trans hf9)).at_ (k := q + 1) hq
                injection e2 with e2
                injection e2 with e21 e22 _
                subst e21 e22
                have HB1 := Lib.hid hbs1
                have HB2 := Lib.hid hbs2
                have hl1 : l1.length ≤ 1000000000 ∧ l2.length ≤ 1000000000 := ⟨HLL.out _ _ (by omega) HL1.out, HLL.out _ _ hq HL2.out⟩
                clear hbs1 hbs2
                go_wp2
                have hs1 : IntKind.i64.wrap (q : Int) = (q : Int) := by rw [IntWalk.i64_in _ (by omega)]
                have hs2 : (0 : Int) ≤ (q : Int) := by omega
                have hs3 : (q : Int) < (ls.length : Int) := by omega
                have hs4 : (0 : Int) ≤ (q : Int) + 1 := by omega
                have hs5 : (q : Int) + 1 < (ls.length : Int) := by omega
                have hs6 : ((q : Int) + 1).toNat = q + 1 := by omega
                go_quiet ((first | (go_at_call 21; exact Calls.quiet_of_same (osame_q A1 A2 c1 c2 l1 l2 _ (HB1.out.fine (by repeat (first | exact Fine.refl _ | assumption | refine Fine.alloc ?_ _ | refine Fine.drew ?_ | refine Fine.drewN ?_ _ | refine Fine.trans ?_ (by assumption) | (refine Fine.kept ?_ (by assumption) (by intro x hx; first | omega | (simp; omega))) | (refine Fine.setCell ?_ (by first | assumption | (simp; omega)) _)))) (HB2.out.fine (by repeat (first | exact Fine.refl _ | assumption | refine Fine.alloc ?_ _ | refine Fine.drew ?_ | refine Fine.drewN ?_ _ | refine Fine.trans ?_ (by assumption) | (refine Fine.kept ?_ (by assumption) (by intro x hx; first | omega | (simp; omega))) | (refine Fine.setCell ?_ (by first | assumption | (simp; omega)) _)))))) | (go_at_call 20; exact Calls.quiet_of (same_q A1 A2 c1 c2 l1 l2 _ (HB1.out.fine (by repeat (first | exact Fine.refl _ | assumption | refine Fine.alloc ?_ _ | refine Fine.drew ?_ | refine Fine.drewN ?_ _ | refine Fine.trans ?_ (by assumption) | (refine Fine.kept ?_ (by assumption) (by intro x hx; first | omega | (simp; omega))) | (refine Fine.setCell ?_ (by first | assumption | (simp; omega)) _)))) (HB2.out.fine (by repeat (first | exact Fine.refl _ | assumption | refine Fine.alloc ?_ _ | refine Fine.drew ?_ | refine Fine.drewN ?_ _ | refine Fine.trans ?_ (by assumption) | (refine Fine.kept ?_ (by assumption) (by intro x hx; first | omega | (simp; omega))) | (refine Fine.setCell ?_ (by first | assumption | (simp; omega)) _)))) hl1.1))))
                clear hs1 hs6
                go_wp2
                go_roundw
                case rel => exact ⟨q + 1, by go_num, hf9.drewN nq⟩
                case measure => simp [intOf]; omega
              · go_wp2_with fail
                refine (HJ.out a _ cap _ (HB.out.fine (F7.trans hf9)) rfl).mono ?_; rintro e w10 ⟨v10, rfl, o10, f10⟩
                obtain ⟨A10, c10, rfl, b10, _⟩ := o10.form
                have K10 := Lib.hid b10
                clear o10 b10
                have F10 : Fine wB w10 := (hf7.trans hf9).trans f10
                go_wp2_with fail
                refine (same_n A10 A3 _ _ c10 c3 W W _ K10.out (K3.out.fine F10) rfl rfl (by omega)).mono ?_; rintro e w11 ⟨rfl, f11⟩
                go_wp2
                go_ret
                exact ⟨ret_bool (by simp), (F3.trans F10).trans f11⟩
end Go.Proofs.Ythnennleblgjeaa
