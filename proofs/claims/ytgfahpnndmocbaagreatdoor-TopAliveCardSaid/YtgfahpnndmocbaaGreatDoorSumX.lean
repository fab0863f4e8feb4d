/- Contracts of package sum's functions, over bytes that a slice shows. -/
import Derived.Test.YtgfahpnndmocbaaGreatDoorRows
import Derived.Test.YtgfahpnndmocbaaGreatDoorMem
import Derived.Test.YtgfahpnndmocbaaGreatDoorSx24
import Derived.ProofKit
import Derived.OwnWalk
import Derived.Laws.IdiomStrings
import Derived.Deep.RegionWith
namespace Go.Proofs.YtgfahpnndmocbaaGreatDoor
open Go.ChangeShapes Go.WideShapes Go.ChangeAt Go.RowKit
set_option linter.unusedVariables false
open Sx (addL addB fold16 told addL_snoc addL_append addL_bd told_small)

/-- Bytes that are read. -/
def BS (w : World) (A : Option Addr) (xs : List Int) : Prop := (∀ x ∈ xs, 0 ≤ x ∧ x ≤ 255) ∧ ∀ k, k < xs.length → ∃ b off, A = some ⟨b, off, none⟩ ∧ b < w.heap.size ∧ w.cell? ⟨b, off + k, none⟩ = some (.int .u8 (xs.getD k 0))
theorem BS.at_ {w : World} {A : Option Addr} {xs : List Int} (h : BS w A xs) {k : Nat} (hk : k < xs.length) : ∃ b off, A = some ⟨b, off, none⟩ ∧ b < w.heap.size ∧ w.cell? ⟨b, off + k, none⟩ = some (.int .u8 (xs.getD k 0)) := h.2 k hk
theorem BS.fine {w w' : World} {A : Option Addr} {xs : List Int} (h : BS w A xs) (hf : Fine w w') : BS w' A xs := ⟨h.1, fun k hk => by
  obtain ⟨b, off, e, hb, hc⟩ := h.2 k hk
  exact ⟨b, off, e, Nat.lt_of_lt_of_le hb hf.size, (hf.cell hb).trans hc⟩⟩
theorem getD_mem' (l : List Int) (k : Nat) (h : k < l.length) : l.getD k 0 ∈ l := by simp [List.getD, List.getElem?_eq_getElem h]
theorem take_len_succ (l : List Int) (k : Nat) (hk : k < l.length) : l.take (k + 1) = l.take k ++ [l.getD k 0] := by
  rw [List.take_succ_eq_append_getElem hk]; simp [List.getD, hk]
theorem bd_getD {xs : List Int} (h : ∀ x ∈ xs, 0 ≤ x ∧ x ≤ 255) (k : Nat) : 0 ≤ xs.getD k 0 ∧ xs.getD k 0 ≤ 255 := by
  by_cases hk : k < xs.length
  · exact h _ (getD_mem' xs k hk)
  · have e : xs.getD k 0 = 0 := by simp [List.getD, hk]
    rw [e]; omega
/-- Pieces that are read. -/
def BSS (w : World) (A : Option Addr) (ls : List (List Int)) : Prop := ∀ k, k < ls.length → ∃ b off A' c, A = some ⟨b, off, none⟩ ∧ b < w.heap.size ∧ w.cell? ⟨b, off + k, none⟩ = some (.slice A' (ls.getD k []).length c) ∧ BS w A' (ls.getD k [])
theorem BSS.fine {w w' : World} {A : Option Addr} {ls : List (List Int)} (h : BSS w A ls) (hf : Fine w w') : BSS w' A ls := fun k hk => by
  obtain ⟨b, off, A', c, e, hb, hc, hs⟩ := h k hk
  exact ⟨b, off, A', c, e, Nat.lt_of_lt_of_le hb hf.size, (hf.cell hb).trans hc, hs.fine hf⟩
theorem BSS.at_ {w : World} {A : Option Addr} {ls : List (List Int)} (h : BSS w A ls) {k : Nat} (hk : k < ls.length) :
    ∃ b off A' c l, Hid (ls.getD k [] = l) ∧ A = some ⟨b, off, none⟩ ∧ b < w.heap.size ∧ w.cell? ⟨b, off + k, none⟩ = some (.slice A' l.length c) ∧ BS w A' l := by
  obtain ⟨b, off, A', c, e, hb, hc, hs⟩ := h k hk
  exact ⟨b, off, A', c, _, rfl, e, hb, hc, hs⟩
theorem flatten_take (ls : List (List Int)) (k : Nat) (hk : k < ls.length) : (ls.take (k + 1)).flatten = (ls.take k).flatten ++ ls.getD k [] := by
  rw [List.take_succ_eq_append_getElem hk, List.flatten_append]
  simp [List.getD, hk]

theorem and_ffff (n : Int) (h0 : 0 ≤ n) (h1 : n < 4294967296) : bits .and .u32 n 65535 = n % 65536 := by
  rw [u32_and n 65535 h0 h1 (by omega) (by omega)]
  have : (65535 : Int).toNat = 2 ^ 16 - 1 := rfl
  rw [this, Nat.and_two_pow_sub_one_eq_mod]
  omega

theorem xor_nat (x : Nat) (h : x < 2 ^ 16) : 65535 ^^^ x = 2 ^ 16 - (x + 1) := by
  apply Nat.eq_of_testBit_eq
  intro i
  rw [Nat.testBit_two_pow_sub_succ h, Nat.testBit_xor, show 65535 = 2 ^ 16 - 1 from rfl, Nat.testBit_two_pow_sub_one]
  by_cases hi : i < 16
  · simp [hi]
  · have : x.testBit i = false := Nat.testBit_lt_two_pow (Nat.lt_of_lt_of_le h (Nat.pow_le_pow_right (by omega) (by omega)))
    simp [hi, this]
theorem not_u16 (n : Int) (h0 : 0 ≤ n) (h1 : n ≤ 65535) : bits .xor .u16 IntKind.u16.max n = 65535 - n := by
  have e : IntKind.u16.max = 65535 := rfl
  rw [e, u16_xor 65535 n (by omega) (by omega) h0 (by omega), show (65535 : Int).toNat = 65535 from rfl, xor_nat n.toNat (by omega)]
  omega

/-- An adder. -/
def IsAdd (w : World) (g : Nat) (s : Int × Bool) : Prop := Blk w g 331 #[.int .u32 s.1, .bool s.2]
theorem apart {w : World} {g : Nat} {s : Int × Bool} {A : Option Addr} {xs : List Int} (h : IsAdd w g s) (hb : BS w A xs) (hp : 0 < xs.length) : ∃ b off, A = some ⟨b, off, none⟩ ∧ b ≠ g ∧ b < w.heap.size := by
  obtain ⟨b, off, e, hbl, hc⟩ := hb.at_ hp
  refine ⟨b, off, e, ?_, hbl⟩
  rintro rfl
  rw [h.cell (off + 0)] at hc
  match off, hc with
  | 0, hc => simp at hc
  | 1, hc => simp at hc
  | (n + 2), hc => simp at hc

theorem add_any (g : Nat) (s : Int × Bool) (A : Option Addr) (c : Nat) (xs : List Int) (w : World) (h : IsAdd w g s) (hs : 0 ≤ s.1 ∧ s.1 ≤ 65536) (hb : BS w A xs) (hl : xs.length ≤ 1000000000) :
    Calls Tryz.prog 265 #[.pointer (some ⟨g, 0, none⟩), .slice A xs.length c] w fun e w' => e = .returned (.tuple #[]) ∧ IsAdd w' g (addL s xs) ∧ Kept (· = g) w w' := by
  have H := Lib.hid h
  have HB := Lib.hid hb
  have HG : Hid (∀ k, 0 ≤ (addL s (xs.take k)).1 ∧ (addL s (xs.take k)).1 ≤ 65536) := fun k => by
    exact addL_bd (xs.take k) (fun x hx => hb.1 x (List.mem_of_mem_take hx)) s hs
  clear h hb
  go_enter Tryz.func265, Tryz.ntmps265
  go_wp2
  go_loopw [8] (fun i wr => ∃ k : Nat, k ≤ xs.length ∧ i = .int .i64 k ∧ Hid (IsAdd wr g (addL s (xs.take k))) ∧ Kept (· = g) w wr) (fun i _ => xs.length - (intOf i).toNat)
  case atStart => exact ⟨0, Nat.zero_le _, rfl, H, Kept.refl _ _⟩
  case round =>
    obtain ⟨k, hk, rfl, HA, hf⟩ := hrel
    by_cases hlt : k < xs.length
    · obtain ⟨b0, off0, e0, hne, hbl⟩ := apart H.out HB.out (by omega)
      obtain ⟨b, off, rfl, _, hc⟩ := HB.out.at_ hlt
      injection e0 with e0
      injection e0 with e1 e2 _
      subst e1 e2
      have hcb := bd_getD HB.out.1 k
      have hck := (hf.cell (p := ⟨b, off + k, none⟩) hbl hne).trans hc
      have hsn := take_len_succ xs k hlt
      obtain ⟨z, hz⟩ : ∃ z, xs.getD k 0 = z := ⟨_, rfl⟩
      rw [hz] at hcb hck hsn
      have hg := HG.out k
      have hbb := HA.out
      obtain ⟨t, ht⟩ : ∃ t, addL s (xs.take k) = t := ⟨_, rfl⟩
      have HS : Hid (addL s (xs.take (k + 1)) = addB t z) := by show _ = _; rw [hsn, addL_snoc, ht]
      rw [ht] at hg hbb
      obtain ⟨n, o⟩ := t
      have c0 : wr.cell? ⟨g, 0, none⟩ = some (.int .u32 n) := hbb.cell 0
      have c1 : wr.cell? ⟨g, 1, none⟩ = some (.bool o) := hbb.cell 1
      have f0 : wr.frozen? ⟨g, 0, none⟩ = false := hbb.frozen 0
      have f1 : wr.frozen? ⟨g, 1, none⟩ = false := hbb.frozen 1
      have HBB := Lib.hid hbb
      simp only at hg
      clear hc hz hsn ht hbb
      cases o
      · have ha := and_ffff (n + z * 256) (by omega) (by omega)
        go_wp2
        go_region
        go_wp2
        go_roundw
        case rel => exact ⟨k + 1, by omega, by go_num, by rw [HS.out]; exact (((HBB.out.set_ 0 _).set_ 1 _).set_ 0 _).drew.cast (by simp [addB, fold16]), (by repeat (first | exact Kept.refl _ _ | assumption | (refine Kept.setIn ?_ (by simp) _) | refine Kept.alloc ?_ _ | refine Kept.drew ?_ | refine Kept.drewN ?_ _ | refine Kept.trans ?_ (by assumption) | refine Kept.trans ?_ (Kept.of_fine (by assumption))))⟩
        case measure => simp [intOf]; omega
      · have ha := and_ffff (n + z) (by omega) (by omega)
        go_wp2
        go_region
        go_wp2
        go_roundw
        case rel => exact ⟨k + 1, by omega, by go_num, by rw [HS.out]; exact (((HBB.out.set_ 0 _).set_ 1 _).set_ 0 _).drew.cast (by simp [addB, fold16]), (by repeat (first | exact Kept.refl _ _ | assumption | (refine Kept.setIn ?_ (by simp) _) | refine Kept.alloc ?_ _ | refine Kept.drew ?_ | refine Kept.drewN ?_ _ | refine Kept.trans ?_ (by assumption) | refine Kept.trans ?_ (Kept.of_fine (by assumption))))⟩
        case measure => simp [intOf]; omega
    · have e : k = xs.length := by omega
      subst e
      rw [List.take_length] at HA
      go_wp2
      go_end0
      exact ⟨rfl, HA.out, hf⟩

theorem end_any (g : Nat) (s : Int × Bool) (w : World) (h : IsAdd w g s) (hs : 0 ≤ s.1 ∧ s.1 ≤ 65536) :
    Calls Tryz.prog 266 #[.pointer (some ⟨g, 0, none⟩)] w fun e w' => e = .returned (.int .u16 (told s.1)) ∧ Fine w w' := by
  have c0 : w.cell? ⟨g, 0, none⟩ = some (.int .u32 s.1) := h.cell 0
  clear h
  by_cases h1 : s.1 = 65536
  · have HT := Lib.hid (show told s.1 = 65534 by rw [h1]; decide)
    rw [h1] at c0
    clear hs h1
    go_enter Tryz.func266, Tryz.ntmps266
    go_wp2
    refine wp_loop_rounds 2 ?_
    rw [rounds_succ]
    go_wp2
    rw [rounds_succ]
    go_wp2
    go_ret
    exact ⟨ret_int (by rw [HT.out]; decide), (by repeat (first | exact Fine.refl _ | assumption | refine Fine.alloc ?_ _ | refine Fine.drew ?_ | refine Fine.drewN ?_ _ | refine Fine.trans ?_ (by assumption) | (refine Fine.kept ?_ (by assumption) (by intro x hx; first | omega | (simp; omega))) | (refine Fine.setCell ?_ (by first | assumption | (simp; omega)) _)))⟩
  · have HT := Lib.hid (told_small s.1 hs.1 (by omega))
    have h2 : s.1 ≤ 65535 := by omega
    have h3 : s.1 / 65536 = 0 := by omega
    go_enter Tryz.func266, Tryz.ntmps266
    go_wp2
    refine wp_loop_rounds 1 ?_
    rw [rounds_succ]
    go_wp2
    go_ret
    exact ⟨ret_int (by rw [HT.out, not_u16 _ hs.1 h2]), (by repeat (first | exact Fine.refl _ | assumption | refine Fine.alloc ?_ _ | refine Fine.drew ?_ | refine Fine.drewN ?_ _ | refine Fine.trans ?_ (by assumption) | (refine Fine.kept ?_ (by assumption) (by intro x hx; first | omega | (simp; omega))) | (refine Fine.setCell ?_ (by first | assumption | (simp; omega)) _)))⟩


/-- 'Of': the sum of all pieces, joined. -/
theorem of_any (A : Option Addr) (n c : Nat) (ls : List (List Int)) (w : World) (h : BSS w A ls) (hn : n = ls.length) (hl : ls.length ≤ 1000000000) (hll : ∀ (i : Nat) (l : List Int), i < ls.length → ls.getD i [] = l → l.length ≤ 1000000000) (hby : ∀ x ∈ ls.flatten, 0 ≤ x ∧ x ≤ 255) :
    Calls Tryz.prog 200 #[.slice A n c] w fun e w' => e = .returned (.int .u16 (told (addL (0, false) ls.flatten).1)) ∧ Fine w w' := by
  subst hn
  have H := Lib.hid h
  have HLL := Lib.hid hll
  have HG : Hid (∀ k, 0 ≤ (addL (0, false) (ls.take k).flatten).1 ∧ (addL (0, false) (ls.take k).flatten).1 ≤ 65536) := fun k =>
    addL_bd (ls.take k).flatten (fun x hx => hby x (by
      have e : ls.flatten = (ls.take k).flatten ++ (ls.drop k).flatten := by rw [← List.flatten_append, List.take_append_drop]
      rw [e]; exact List.mem_append_left _ hx)) (0, false) (by decide)
  clear h hll hby
  go_enter Tryz.func200, Tryz.ntmps200
  go_wp2
  go_loopw [8] (fun i wr => ∃ k : Nat, k ≤ ls.length ∧ i = .int .i64 k ∧ Hid (IsAdd wr w.heap.size (addL (0, false) (ls.take k).flatten)) ∧ Fine w wr) (fun i _ => ls.length - (intOf i).toNat)
  case atStart => exact ⟨0, Nat.zero_le _, rfl, Blk.new _ _ _, (by repeat (first | exact Fine.refl _ | assumption | refine Fine.alloc ?_ _ | refine Fine.drew ?_ | refine Fine.drewN ?_ _ | refine Fine.trans ?_ (by assumption) | (refine Fine.kept ?_ (by assumption) (by intro x hx; first | omega | (simp; omega))) | (refine Fine.setCell ?_ (by first | assumption | (simp; omega)) _)))⟩
  case round =>
    obtain ⟨k, hk, rfl, HA, hf⟩ := hrel
    by_cases hlt : k < ls.length
    · obtain ⟨b, off, A', c', l, HL, rfl, hb, hck, hbs⟩ := (H.out.fine hf).at_ hlt
      have hfl := flatten_take ls k hlt
      rw [HL.out] at hfl
      have HFL := Lib.hid hfl; clear hfl
      have hl2 := HLL.out k l hlt HL.out
      go_wp2_with fail
      refine (add_any w.heap.size _ A' c' l _ HA.out (HG.out k) hbs hl2).mono ?_; rintro e w2 ⟨rfl, h2, k2⟩
      rw [← addL_append, ← HFL.out] at h2
      have H2 := Lib.hid h2; clear h2
      go_wp2
      go_roundw
      case rel => exact ⟨k + 1, by omega, by go_num, H2, (by repeat (first | exact Fine.refl _ | assumption | refine Fine.alloc ?_ _ | refine Fine.drew ?_ | refine Fine.drewN ?_ _ | refine Fine.trans ?_ (by assumption) | (refine Fine.kept ?_ (by assumption) (by intro x hx; first | omega | (simp; omega))) | (refine Fine.setCell ?_ (by first | assumption | (simp; omega)) _)))⟩
      case measure => simp [intOf]; omega
    · have e : k = ls.length := by omega
      subst e
      have hg := HG.out ls.length
      rw [List.take_length] at HA hg
      go_wp2_with fail
      refine (end_any w.heap.size _ _ HA.out hg).mono ?_; rintro e w2 ⟨rfl, f2⟩
      go_wp2
      go_ret
      exact ⟨rfl, hf.trans f2⟩

theorem sum_any (w : World) (A : Option Addr) (n c : Nat) (ws : List Value) (ls : List (List Nat)) (hp : Sx.Pieces w ws ls) (hn : ws.length = n) (hlt : n < 1048576) (hs : Sx.Shows w A ws) :
    Calls Tryz.prog 200 #[.slice A n c] w fun e w' => e = .returned (.int .u16 (told (addL (0, false) (Sx.ints ls.flatten)).1)) ∧ Below w.heap.size w w' := by
  have hlen : (ls.map Sx.ints).length = ls.length := by simp
  have hget : ∀ k, k < ls.length → (ls.map Sx.ints).getD k [] = Sx.ints (ls[k]?.getD []) := by
    intro k hk
    simp [List.getD, hk]
  have hfl : (ls.map Sx.ints).flatten = Sx.ints ls.flatten := by
    unfold Sx.ints
    rw [List.map_flatten]
  rw [← hfl]
  refine of_any A n c (ls.map Sx.ints) w ?_ (by rw [hlen, ← hn, hp.1]) (by rw [hlen, ← hp.1, hn]; omega) ?_ ?_
  · intro k hk
    rw [hlen] at hk
    obtain ⟨h1, h2, A', c', h3, h4⟩ := hp.2 k ls[k] (by simp [hk])
    obtain ⟨b, off, e, hb, hc⟩ := hs k _ h3
    rw [hget k hk]
    have e2 : ls[k]?.getD [] = ls[k] := by simp [hk]
    rw [e2]
    have hil : (Sx.ints ls[k]).length = ls[k].length := by simp [Sx.ints]
    refine ⟨b, off, A', c', e, hb, by rw [hil]; exact hc, Sx.ints_bd h2, fun j hj => ?_⟩
    rw [hil] at hj
    obtain ⟨b', off', e', hb', hc'⟩ := h4 j (.int .u8 (ls[k][j] : Nat)) (by simp [Sx.u8s, hj])
    refine ⟨b', off', e', hb', ?_⟩
    rw [hc']
    simp [Sx.ints, List.getD, hj]
  · intro i l hi hl
    rw [hlen] at hi
    rw [hget i hi] at hl
    subst hl
    have := (hp.2 i ls[i] (by simp [hi])).1
    have e2 : ls[i]?.getD [] = ls[i] := by simp [hi]
    rw [e2]
    simp only [Sx.ints, List.length_map]
    omega
  · rw [hfl]
    refine Sx.ints_bd fun x hx => ?_
    obtain ⟨ns, hns, hx⟩ := List.mem_flatten.1 hx
    obtain ⟨i, hi⟩ := List.getElem?_of_mem hns
    exact (hp.2 i ns hi).2.1 x hx
end Go.Proofs.YtgfahpnndmocbaaGreatDoor
