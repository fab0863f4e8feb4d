/- The law OctetRows: numbers, each in so many bytes, one behind the other, are taken one by one, till none is left. -/
import Derived.Test.YthnennleblgjeaaOctPut
namespace Go.Proofs.Ythnennleblgjeaa
open Go.ChangeShapes Go.WideShapes Go.ChangeAt Go.RowKit
set_option linter.unusedVariables false

/-- Numbers' bytes, one behind the other. -/
def cat (k : Nat) (l : List Int) : List Int := (l.map (be k)).flatten
theorem cat_length (k : Nat) (l : List Int) : (cat k l).length = l.length * k := by
  induction l with
  | nil => simp [cat]
  | cons x l ih => simp [cat, be_length, Nat.succ_mul] at *; omega
theorem cat_snoc (k : Nat) (l : List Int) (j : Nat) (hj : j < l.length) : cat k (l.take (j + 1)) = cat k (l.take j) ++ be k (l.getD j 0) := by
  rw [take_len_succ l j hj]
  simp [cat]
theorem cat_drop (k : Nat) (l : List Int) (j : Nat) (hj : j < l.length) : cat k (l.drop j) = be k (l.getD j 0) ++ cat k (l.drop (j + 1)) := by
  unfold cat
  rw [List.drop_eq_getElem_cons hj, List.map_cons, List.flatten_cons]
  simp [List.getD, hj]

set_option maxHeartbeats 1000000 in
theorem lawOctetRows (w : World) (a : Option Addr) (len cap : Nat) (zs : List Int) (hz : IntsIn .u32 w a len cap zs) (x : Int) (wx : (Lit.int .i64 x).wf = true) :
    Calls Try.prog 9 #[.slice a len cap, .int .i64 x] w fun e w' => e = .returned (.bool true) ∧ Below w.heap.size w w' := by
  show Calls _ _ _ _ fun e w' => e = .returned (.bool true) ∧ Fine w w'
  obtain ⟨_, _, hzl, _, hwf, hcells⟩ := hz
  clear wx
  obtain ⟨k, hk⟩ : ∃ k, width x = k := ⟨_, rfl⟩
  have hw := width_bd x
  rw [hk] at hw
  have HPut := Lib.hid (fun A q c xs n hn w hx hq hl => hk ▸ put_n A q c xs n hn x w hx hq hl)
  have HTake := Lib.hid (fun A q c xs hn hl w h hq => hk ▸ take_n A q c xs x (by rw [hk]; exact hn) hl w h hq)
  have HBy := Lib.hid (fun n hn w => hk ▸ bytes_any n hn x w)
  have HShort := Lib.hid (fun A c w => take_short A c 0 x (by rw [hk]; omega) w)
  clear hk
  subst hzl
  have HWF := Lib.hid hwf; clear hwf
  go_enter Try.func9, Try.ntmps9
  go_wp2_with fail
  refine (oct_wakes _).mono ?_; rintro e w1 ⟨rfl, f1⟩
  go_wp2
  · go_ret
    exact ⟨rfl, (by repeat (first | exact Fine.refl _ | assumption | refine Fine.alloc ?_ _ | refine Fine.drew ?_ | refine Fine.drewN ?_ _ | refine Fine.trans ?_ (by assumption) | (refine Fine.kept ?_ (by assumption) (by intro x hx; first | omega | (simp; omega))) | (refine Fine.setCell ?_ (by first | assumption | (simp; omega)) _)))⟩
  · have hlen : zs.length ≤ 100 := by have h : (zs.length : Int) ≤ 100 := by assumption
                                      omega
    go_loopw [23, 5] (fun i v wr => ∃ j : Nat, j ≤ zs.length ∧ i = .int .i64 j ∧ (∃ A c n, v = .slice A n c ∧ n = (cat k (zs.take j)).length ∧ Hid (BS wr A c (cat k (zs.take j)))) ∧ Fine w wr) (fun i _ _ => zs.length - (intOf i).toNat)
    case atStart => exact ⟨0, Nat.zero_le _, rfl, ⟨none, 0, 0, rfl, rfl, BS.nil_ _⟩, f1⟩
    case round =>
      obtain ⟨j, hj, rfl, ⟨A, c, n, rfl, hn, HB⟩, hf⟩ := hrel
      have HN := Lib.hid hn; clear hn
      by_cases hlt : j < zs.length
      · obtain ⟨b, off, rfl, hb, hc⟩ := hcells (by omega)
        have hcj := (hf.cell (p := ⟨b, off + j, none⟩) hb).trans (hc j hlt)
        have hzb := bounds_u32 (HWF.out (zs.getD j 0) (getD_mem zs j hlt))
        have hsn := cat_snoc k zs j hlt
        have hl1 := cat_length k (zs.take j)
        have hmul : (zs.take j).length * k ≤ 100 * 8 := Nat.mul_le_mul (by simp; omega) hw.2
        obtain ⟨z, hzz⟩ : ∃ z, zs.getD j 0 = z := ⟨_, rfl⟩
        rw [hzz] at hcj hzb hsn
        have HS := Lib.hid hsn
        have hl2 : (cat k (zs.take j)).length ≤ 800 := by omega
        have HL2 := Lib.hid hl2
        clear hcells hc hzz hsn hl1 hmul hl2
        go_wp2_with fail
        refine (HPut.out A n c (cat k (zs.take j)) z ⟨hzb.1, by omega⟩ _ HB.out HN.out (by have := HL2.out; omega)).mono ?_; rintro e w2 ⟨v2, rfl, o2, f2⟩
        rw [← HS.out] at o2
        obtain ⟨A2, c2, rfl, b2, _⟩ := o2.form
        have HB2 := Lib.hid b2
        clear b2 o2
        go_wp2
        go_roundw
        case rel => exact ⟨j + 1, by omega, by go_num, ⟨A2, c2, _, rfl, rfl, HB2.out⟩, (by repeat (first | exact Fine.refl _ | assumption | refine Fine.alloc ?_ _ | refine Fine.drew ?_ | refine Fine.drewN ?_ _ | refine Fine.trans ?_ (by assumption) | (refine Fine.kept ?_ (by assumption) (by intro x hx; first | omega | (simp; omega))) | (refine Fine.setCell ?_ (by first | assumption | (simp; omega)) _)))⟩
        case measure => simp [intOf]; omega
      · have e : j = zs.length := by omega
        subst e
        rw [List.take_length] at HB HN
        go_wp2
        go_loopw [35, 5] (fun i v w5 => ∃ j : Nat, j ≤ zs.length ∧ i = .int .i64 j ∧ (∃ A c n, v = .slice A n c ∧ n = (cat k (zs.drop j)).length ∧ Hid (BS w5 A c (cat k (zs.drop j)))) ∧ Fine w w5) (fun i _ _ => zs.length - (intOf i).toNat)
        case atStart => exact ⟨0, Nat.zero_le _, rfl, ⟨A, c, n, rfl, HN.out, HB⟩, hf⟩
        case round =>
          obtain ⟨j, hj, rfl, ⟨A2, c2, n2, rfl, hn2, HB2⟩, hf2⟩ := hrel
          have HN2 := Lib.hid hn2; clear hn2
          by_cases hlt : j < zs.length
          · obtain ⟨b, off, rfl, hb, hc⟩ := hcells (by omega)
            have hcj := (hf2.cell (p := ⟨b, off + j, none⟩) hb).trans (hc j hlt)
            have hzb := bounds_u32 (HWF.out (zs.getD j 0) (getD_mem zs j hlt))
            have hsn := cat_drop k zs j hlt
            have hl1 := cat_length k (zs.drop j)
            have hmul : (zs.drop j).length * k ≤ 100 * 8 := Nat.mul_le_mul (by simp; omega) hw.2
            obtain ⟨z, hzz⟩ : ∃ z, zs.getD j 0 = z := ⟨_, rfl⟩
            rw [hzz] at hcj hzb hsn
            have hbl := be_length k z
            have hl2 : (cat k (zs.drop j)).length ≤ 800 := by omega
            have htk : (cat k (zs.drop j)).take k = be k z := by rw [hsn, List.take_append_of_le_length (by omega), List.take_of_length_le (by omega)]
            have hdr : (cat k (zs.drop j)).drop k = cat k (zs.drop (j + 1)) := by rw [hsn, List.drop_append_of_le_length (by omega), List.drop_of_length_le (by omega), List.nil_append]
            have hkl : k ≤ (cat k (zs.drop j)).length := by rw [hsn, List.length_append]; omega
            have T := HTake.out A2 n2 c2 (cat k (zs.drop j)) hkl (by omega) wr HB2.out HN2.out
            rw [htk, hdr] at T
            have HT := Lib.hid T
            have HBL := Lib.hid hbl
            clear T hcells hc hzz hsn hl1 hmul hl2 htk hdr hkl hbl
            go_wp2_with fail
            refine HT.out.mono ?_; rintro e w2 ⟨v2, rfl, o2, f2⟩
            obtain ⟨A3, c3, rfl, b3, _⟩ := o2.form
            have HB3 := Lib.hid b3
            clear b3 o2
            go_wp2_with fail
            refine (HBy.out z ⟨hzb.1, by omega⟩ _).mono ?_; rintro e w3 ⟨v3, rfl, o3, f3⟩
            obtain ⟨A4, c4, rfl, b4, _⟩ := o3.form
            have HB4 := Lib.hid b4
            clear b4 o3
            go_wp2_with fail
            refine (number_n A4 _ c4 (be k z) _ HB4.out rfl (by rw [HBL.out]; omega)).mono ?_; rintro e w4 ⟨rfl, f4⟩
            go_wp2
            go_roundw
            case rel => exact ⟨j + 1, by omega, by go_num, ⟨A3, c3, _, rfl, rfl, (HB3.out.fine f3).fine f4⟩, (by repeat (first | exact Fine.refl _ | assumption | refine Fine.alloc ?_ _ | refine Fine.drew ?_ | refine Fine.drewN ?_ _ | refine Fine.trans ?_ (by assumption) | (refine Fine.kept ?_ (by assumption) (by intro x hx; first | omega | (simp; omega))) | (refine Fine.setCell ?_ (by first | assumption | (simp; omega)) _)))⟩
            case measure => simp [intOf]; omega
          · have e : j = zs.length := by omega
            subst e
            have h0 : n2 = 0 := by rw [HN2.out, List.drop_length]; rfl
            subst h0
            clear hcells
            go_wp2_with fail
            refine (HShort.out A2 c2 _).mono ?_; rintro e w2 ⟨rfl, f2⟩
            go_wp2
            go_ret
            exact ⟨ret_bool (by simp), (by repeat (first | exact Fine.refl _ | assumption | refine Fine.alloc ?_ _ | refine Fine.drew ?_ | refine Fine.drewN ?_ _ | refine Fine.trans ?_ (by assumption) | (refine Fine.kept ?_ (by assumption) (by intro x hx; first | omega | (simp; omega))) | (refine Fine.setCell ?_ (by first | assumption | (simp; omega)) _)))⟩
end Go.Proofs.Ythnennleblgjeaa
