/- Plain law of sums of 16 bits (layer 2). Contracts of package sum's functions. Contracts of sum.Put and sum.Good. Contracts of sum.Good, of the reference's functions of layer 2, and that the example holds. The laws SumOf, SumGood and SumChanged. -/
import Derived.Test.YthnennleblgjeaaDoorMb
namespace Go.Proofs.YthnennleblgjeaaDoor
set_option linter.unusedVariables false
set_option linter.unusedSimpArgs false
set_option linter.unusedVariables false

/-- What goes beyond 16 bits comes back. -/
def fold16 (n : Int) : Int := n % 65536 + n / 65536
/-- The program's adder: one byte more; odd: it is a lower one. -/
def addB (s : Int × Bool) (c : Int) : Int × Bool := (fold16 (s.1 + if s.2 then c else c * 256), !s.2)
def addL (s : Int × Bool) (l : List Int) : Int × Bool := l.foldl addB s
theorem addL_append (s : Int × Bool) (a b : List Int) : addL s (a ++ b) = addL (addL s a) b := by simp [addL]
theorem addL_snoc (s : Int × Bool) (a : List Int) (x : Int) : addL s (a ++ [x]) = addB (addL s a) x := by simp [addL]

/-- The great sum: numbers of 16 bits, a lower byte that lacks is 0; 'o': the first byte is a lower one. -/
def great (o : Bool) : List Int → Int
  | [] => 0
  | c :: l => (if o then c else c * 256) + great (!o) l
theorem great_append (o : Bool) (a b : List Int) : great o (a ++ b) = great o a + great (o ^^ (a.length % 2 == 1)) b := by
  induction a generalizing o with
  | nil => simp [great]
  | cons c a ih =>
    simp only [List.cons_append, great, ih, List.length_cons]
    have e : ((!o) ^^ (a.length % 2 == 1)) = (o ^^ ((a.length + 1) % 2 == 1)) := by
      rcases Nat.mod_two_eq_zero_or_one a.length with h | h
      · have : (a.length + 1) % 2 = 1 := by omega
        cases o <;> simp [h, this]
      · have : (a.length + 1) % 2 = 0 := by omega
        cases o <;> simp [h, this]
    rw [e]; omega
theorem great_nonneg (o : Bool) (l : List Int) (h : ∀ x ∈ l, 0 ≤ x ∧ x ≤ 255) : 0 ≤ great o l := by
  induction l generalizing o with
  | nil => simp [great]
  | cons c l ih =>
    have h1 := h c (by simp)
    have h2 := ih (!o) (fun x hx => h x (by simp [hx]))
    unfold great; split <;> omega
theorem great_le (o : Bool) (l : List Int) (h : ∀ x ∈ l, 0 ≤ x ∧ x ≤ 255) : great o l ≤ 65280 * l.length := by
  induction l generalizing o with
  | nil => simp [great]
  | cons c l ih =>
    have h1 := h c (by simp)
    have h2 := ih (!o) (fun x hx => h x (by simp [hx]))
    unfold great; simp only [List.length_cons]; split <;> omega

/-- Two sums are one: the same modulo 65535, and one is 0 just if the other one is. -/
def Alike (a b : Int) : Prop := a % 65535 = b % 65535 ∧ (a = 0 ↔ b = 0)
theorem fold16_mod (n : Int) : fold16 n % 65535 = n % 65535 := by unfold fold16; omega
theorem fold16_zero (n : Int) (h : 0 ≤ n) : fold16 n = 0 ↔ n = 0 := by unfold fold16; omega
theorem addL_great (l : List Int) (h : ∀ x ∈ l, 0 ≤ x ∧ x ≤ 255) (s : Int × Bool) (hs : 0 ≤ s.1 ∧ s.1 ≤ 65536) :
    0 ≤ (addL s l).1 ∧ (addL s l).1 ≤ 65536 ∧ Alike (addL s l).1 (s.1 + great s.2 l) ∧ (addL s l).2 = (s.2 ^^ (l.length % 2 == 1)) := by
  induction l generalizing s with
  | nil => simp [addL, great, Alike]; exact hs
  | cons c l ih =>
    have h1 := h c (by simp)
    have hl : ∀ x ∈ l, 0 ≤ x ∧ x ≤ 255 := fun x hx => h x (by simp [hx])
    obtain ⟨n, o⟩ := s
    have hg := great_nonneg (!o) l hl
    have hb : 0 ≤ (addB (n, o) c).1 ∧ (addB (n, o) c).1 ≤ 65536 := by
      unfold addB fold16; simp only at *; cases o <;> simp <;> omega
    obtain ⟨a1, a2, ⟨a3, a4⟩, a5⟩ := ih hl (addB (n, o) c) hb
    have e : addL (n, o) (c :: l) = addL (addB (n, o) c) l := rfl
    rw [e]
    have eb : (addB (n, o) c).2 = !o := rfl
    rw [eb] at a3 a4 a5
    refine ⟨a1, a2, ⟨?_, ?_⟩, ?_⟩
    · rw [a3]
      have hm := fold16_mod (n + if o then c else c * 256)
      have : (addB (n, o) c).1 = fold16 (n + if o then c else c * 256) := rfl
      simp only [this, great]
      simp only at *
      omega
    · rw [a4]
      have hz := fold16_zero (n + if o then c else c * 256) (by simp only at hs; split <;> omega)
      have : (addB (n, o) c).1 = fold16 (n + if o then c else c * 256) := rfl
      simp only [this, great]
      have h0 : 0 ≤ fold16 (n + if o then c else c * 256) := by rw [← this]; exact hb.1
      simp only at *
      split at hz <;> simp_all <;> omega
    · rw [a5, List.length_cons]
      rcases Nat.mod_two_eq_zero_or_one l.length with hh | hh
      · have : (l.length + 1) % 2 = 1 := by omega
        cases o <;> simp [hh, this]
      · have : (l.length + 1) % 2 = 0 := by omega
        cases o <;> simp [hh, this]

/-- The sum that is told, of a great sum. -/
def told (n : Int) : Int := 65535 - (if n = 0 then 0 else (n - 1) % 65535 + 1)
theorem told_alike {a b : Int} (h : Alike a b) (ha : 0 ≤ a) (hb : 0 ≤ b) : told a = told b := by
  obtain ⟨h1, h2⟩ := h
  unfold told
  by_cases h0 : a = 0
  · rw [if_pos h0, if_pos (h2.1 h0)]
  · have hb0 : b ≠ 0 := fun e => h0 (h2.2 e)
    rw [if_neg h0, if_neg hb0]; omega
theorem told_small (n : Int) (h : 0 ≤ n) (h2 : n ≤ 65535) : told n = 65535 - n := by unfold told; split <;> omega
theorem told_fold (n : Int) (h : 0 ≤ n) : told (fold16 n) = told n := told_alike ⟨fold16_mod n, fold16_zero n h⟩ (by unfold fold16; omega) h
theorem told_bd (n : Int) (h : 0 ≤ n) : 0 ≤ told n ∧ told n ≤ 65535 := by unfold told; split <;> omega
theorem told_zero (n : Int) (h : 0 ≤ n) : told n = 0 ↔ (n ≠ 0 ∧ n % 65535 = 0) := by unfold told; split <;> omega
/-- The sum of bytes. -/
def sumOf (l : List Int) : Int := told (great false l)
end Go.Proofs.YthnennleblgjeaaDoor
namespace Go.Proofs.YthnennleblgjeaaDoor
set_option linter.unusedVariables false
set_option linter.unusedSimpArgs false
open Go.ChangeShapes Go.WideShapes Go.ChangeAt Go.RowKit
set_option linter.unusedVariables false

theorem and_ffff (n : Int) (h0 : 0 ≤ n) (h1 : n < 4294967296) : bits .and .u32 n 65535 = n % 65536 := by
  rw [u32_and n 65535 h0 h1 (by omega) (by omega)]
  have : (65535 : Int).toNat = 2 ^ 16 - 1 := rfl
  rw [this, Nat.and_two_pow_sub_one_eq_mod]
  omega

theorem xor_nat (x : Nat) (h : x < 2 ^ 16) : 65535 ^^^ x = 2 ^ 16 - (x + 1) := by
  apply Nat.eq_of_testBit_eq
  intro i
  rw [Nat.testBit_two_pow_sub_succ h, Nat.testBit_xor, show 65535 = 2 ^ 16 - 1 from rfl, Nat.testBit_two_pow_sub_one]
  by_cases hi : i < 16
  · simp [hi]
  · have : x.testBit i = false := Nat.testBit_lt_two_pow (Nat.lt_of_lt_of_le h (Nat.pow_le_pow_right (by omega) (by omega)))
    simp [hi, this]
theorem not_u16 (n : Int) (h0 : 0 ≤ n) (h1 : n ≤ 65535) : bits .xor .u16 IntKind.u16.max n = 65535 - n := by
  have e : IntKind.u16.max = 65535 := rfl
  rw [e, u16_xor 65535 n (by omega) (by omega) h0 (by omega), show (65535 : Int).toNat = 65535 from rfl, xor_nat n.toNat (by omega)]
  omega

/-- An adder. -/
def IsAdd (w : World) (g : Nat) (s : Int × Bool) : Prop := Blk w g 112 #[.int .u32 s.1, .bool s.2]
theorem apart {w : World} {g : Nat} {s : Int × Bool} {A : Option Addr} {c : Nat} {xs : List Int} (h : IsAdd w g s) (hb : BS w A c xs) (hp : 0 < xs.length) : ∃ b off, A = some ⟨b, off, none⟩ ∧ b ≠ g ∧ b < w.heap.size := by
  obtain ⟨b, off, e, hbl, hc⟩ := hb.at_ hp
  refine ⟨b, off, e, ?_, hbl⟩
  rintro rfl
  rw [h.cell (off + 0)] at hc
  match off, hc with
  | 0, hc => simp at hc
  | 1, hc => simp at hc
  | (n + 2), hc => simp at hc

theorem add_any (g : Nat) (s : Int × Bool) (A : Option Addr) (c : Nat) (xs : List Int) (w : World) (h : IsAdd w g s) (hs : 0 ≤ s.1 ∧ s.1 ≤ 65536) (hb : BS w A c xs) (hl : xs.length ≤ 1000000000) :
    Calls Tryd.prog 69 #[.pointer (some ⟨g, 0, none⟩), .slice A xs.length c] w fun e w' => e = .returned (.tuple #[]) ∧ IsAdd w' g (addL s xs) ∧ Kept (· = g) w w' := by
  have H := Lib.hid h
  have HB := Lib.hid hb
  have HG : Hid (∀ k, 0 ≤ (addL s (xs.take k)).1 ∧ (addL s (xs.take k)).1 ≤ 65536) := fun k => by
    have := addL_great (xs.take k) (hb.1.take k) s hs
    exact ⟨this.1, this.2.1⟩
  clear h hb
  go_enter Tryd.func69, Tryd.ntmps69
  go_wp2
  go_loopw [8] (fun i wr => ∃ k : Nat, k ≤ xs.length ∧ i = .int .i64 k ∧ Hid (IsAdd wr g (addL s (xs.take k))) ∧ Kept (· = g) w wr) (fun i _ => xs.length - (intOf i).toNat)
  case atStart => exact ⟨0, Nat.zero_le _, rfl, H, Kept.refl _ _⟩
  case round =>
    obtain ⟨k, hk, rfl, HA, hf⟩ := hrel
    by_cases hlt : k < xs.length
    · obtain ⟨b0, off0, e0, hne, hbl⟩ := apart H.out HB.out (by omega)
      obtain ⟨b, off, rfl, _, hc⟩ := HB.out.at_ hlt
      injection e0 with e0
      injection e0 with e1 e2 _
      subst e1 e2
      have hcb := HB.out.1.getD k
      have hck := (hf.cell (p := ⟨b, off + k, none⟩) hbl hne).trans hc
      have hsn := take_len_succ xs k hlt
      obtain ⟨z, hz⟩ : ∃ z, xs.getD k 0 = z := ⟨_, rfl⟩
      rw [hz] at hcb hck hsn
      have hg := HG.out k
      have hbb := HA.out
      obtain ⟨t, ht⟩ : ∃ t, addL s (xs.take k) = t := ⟨_, rfl⟩
      have HS : Hid (addL s (xs.take (k + 1)) = addB t z) := by show _ = _; rw [hsn, addL_snoc, ht]
      rw [ht] at hg hbb
      obtain ⟨n, o⟩ := t
      have c0 : wr.cell? ⟨g, 0, none⟩ = some (.int .u32 n) := hbb.cell 0
      have c1 : wr.cell? ⟨g, 1, none⟩ = some (.bool o) := hbb.cell 1
      have f0 : wr.frozen? ⟨g, 0, none⟩ = false := hbb.frozen 0
      have f1 : wr.frozen? ⟨g, 1, none⟩ = false := hbb.frozen 1
      have HBB := Lib.hid hbb
      simp only at hg
      clear hc hz hsn ht hbb
      cases o
      · have ha := and_ffff (n + z * 256) (by omega) (by omega)
        go_wp2
        go_region
        go_wp2
        go_roundw
        case rel => exact ⟨k + 1, by omega, by go_num, by rw [HS.out]; exact (((HBB.out.set_ 0 _).set_ 1 _).set_ 0 _).drew.cast (by simp [addB, fold16]), (by repeat (first | exact Kept.refl _ _ | assumption | (refine Kept.setIn ?_ (by simp) _) | refine Kept.alloc ?_ _ | refine Kept.drew ?_ | refine Kept.drewN ?_ _ | refine Kept.trans ?_ (by assumption) | refine Kept.trans ?_ (Kept.of_fine (by assumption))))⟩
        case measure => simp [intOf]; omega
      · have ha := and_ffff (n + z) (by omega) (by omega)
        go_wp2
        go_region
        go_wp2
        go_roundw
        case rel => exact ⟨k + 1, by omega, by go_num, by rw [HS.out]; exact (((HBB.out.set_ 0 _).set_ 1 _).set_ 0 _).drew.cast (by simp [addB, fold16]), (by repeat (first | exact Kept.refl _ _ | assumption | (refine Kept.setIn ?_ (by simp) _) | refine Kept.alloc ?_ _ | refine Kept.drew ?_ | refine Kept.drewN ?_ _ | refine Kept.trans ?_ (by assumption) | refine Kept.trans ?_ (Kept.of_fine (by assumption))))⟩
        case measure => simp [intOf]; omega
    · have e : k = xs.length := by omega
      subst e
      rw [List.take_length] at HA
      go_wp2
      go_end0
      exact ⟨rfl, HA.out, hf⟩

theorem end_any (g : Nat) (s : Int × Bool) (w : World) (h : IsAdd w g s) (hs : 0 ≤ s.1 ∧ s.1 ≤ 65536) :
    Calls Tryd.prog 70 #[.pointer (some ⟨g, 0, none⟩)] w fun e w' => e = .returned (.int .u16 (told s.1)) ∧ Fine w w' := by
  have c0 : w.cell? ⟨g, 0, none⟩ = some (.int .u32 s.1) := h.cell 0
  clear h
  by_cases h1 : s.1 = 65536
  · have HT := Lib.hid (show told s.1 = 65534 by rw [h1]; decide)
    rw [h1] at c0
    clear hs h1
    go_enter Tryd.func70, Tryd.ntmps70
    go_wp2
    refine wp_loop_rounds 2 ?_
    rw [rounds_succ]
    go_wp2
    rw [rounds_succ]
    go_wp2
    go_ret
    exact ⟨ret_int (by rw [HT.out]; decide), (by repeat (first | exact Fine.refl _ | assumption | refine Fine.alloc ?_ _ | refine Fine.drew ?_ | refine Fine.drewN ?_ _ | refine Fine.trans ?_ (by assumption) | (refine Fine.kept ?_ (by assumption) (by intro x hx; first | omega | (simp; omega))) | (refine Fine.setCell ?_ (by first | assumption | (simp; omega)) _)))⟩
  · have HT := Lib.hid (told_small s.1 hs.1 (by omega))
    have h2 : s.1 ≤ 65535 := by omega
    have h3 : s.1 / 65536 = 0 := by omega
    go_enter Tryd.func70, Tryd.ntmps70
    go_wp2
    refine wp_loop_rounds 1 ?_
    rw [rounds_succ]
    go_wp2
    go_ret
    exact ⟨ret_int (by rw [HT.out, not_u16 _ hs.1 h2]), (by repeat (first | exact Fine.refl _ | assumption | refine Fine.alloc ?_ _ | refine Fine.drew ?_ | refine Fine.drewN ?_ _ | refine Fine.trans ?_ (by assumption) | (refine Fine.kept ?_ (by assumption) (by intro x hx; first | omega | (simp; omega))) | (refine Fine.setCell ?_ (by first | assumption | (simp; omega)) _)))⟩

theorem great_flatten (o : Bool) (a b : List Int) : great o (a ++ b) = great o a + great (o ^^ (a.length % 2 == 1)) b := great_append o a b

/-- 'Of': the sum of all pieces, joined. -/
theorem of_any (A : Option Addr) (n c : Nat) (ls : List (List Int)) (w : World) (h : BSS w A c ls) (hn : n = ls.length) (hl : ls.length ≤ 1000000000) (hll : ∀ (i : Nat) (l : List Int), i < ls.length → ls.getD i [] = l → l.length ≤ 1000000000) (hby : Bytes ls.flatten) :
    Calls Tryd.prog 57 #[.slice A n c] w fun e w' => e = .returned (.int .u16 (sumOf ls.flatten)) ∧ Fine w w' := by
  subst hn
  have H := Lib.hid h
  have HLL := Lib.hid hll
  have HG : Hid (∀ k, 0 ≤ (addL (0, false) (ls.take k).flatten).1 ∧ (addL (0, false) (ls.take k).flatten).1 ≤ 65536) := fun k => by
    have := addL_great (ls.take k).flatten (fun x hx => hby x (by
      have e : ls.flatten = (ls.take k).flatten ++ (ls.drop k).flatten := by rw [← List.flatten_append, List.take_append_drop]
      rw [e]; exact List.mem_append_left _ hx)) (0, false) (by decide)
    exact ⟨this.1, this.2.1⟩
  have HE : Hid (told (addL (0, false) ls.flatten).1 = sumOf ls.flatten) := by
    have h1 := addL_great ls.flatten hby (0, false) (by decide)
    obtain ⟨a, b, c, d⟩ := h1
    rw [Int.zero_add] at c
    exact told_alike c a (great_nonneg false _ hby)
  clear h hll hby
  go_enter Tryd.func57, Tryd.ntmps57
  go_wp2
  go_loopw [8] (fun i wr => ∃ k : Nat, k ≤ ls.length ∧ i = .int .i64 k ∧ Hid (IsAdd wr w.heap.size (addL (0, false) (ls.take k).flatten)) ∧ Fine w wr) (fun i _ => ls.length - (intOf i).toNat)
  case atStart => exact ⟨0, Nat.zero_le _, rfl, Blk.new _ _ _, (by repeat (first | exact Fine.refl _ | assumption | refine Fine.alloc ?_ _ | refine Fine.drew ?_ | refine Fine.drewN ?_ _ | refine Fine.trans ?_ (by assumption) | (refine Fine.kept ?_ (by assumption) (by intro x hx; first | omega | (simp; omega))) | (refine Fine.setCell ?_ (by first | assumption | (simp; omega)) _)))⟩
  case round =>
    obtain ⟨k, hk, rfl, HA, hf⟩ := hrel
    by_cases hlt : k < ls.length
    · obtain ⟨b, off, A', c', l, HL, rfl, hb, hck, hbs⟩ := (H.out.fine hf).at_ hlt
      have hfl := flatten_take ls k hlt
      rw [HL.out] at hfl
      have HFL := Lib.hid hfl; clear hfl
      have hl2 := HLL.out k l hlt HL.out
      go_wp2_with fail
      refine (add_any w.heap.size _ A' c' l _ HA.out (HG.out k) hbs hl2).mono ?_; rintro e w2 ⟨rfl, h2, k2⟩
      rw [← addL_append, ← HFL.out] at h2
      have H2 := Lib.hid h2; clear h2
      go_wp2
      go_roundw
      case rel => exact ⟨k + 1, by omega, by go_num, H2, (by repeat (first | exact Fine.refl _ | assumption | refine Fine.alloc ?_ _ | refine Fine.drew ?_ | refine Fine.drewN ?_ _ | refine Fine.trans ?_ (by assumption) | (refine Fine.kept ?_ (by assumption) (by intro x hx; first | omega | (simp; omega))) | (refine Fine.setCell ?_ (by first | assumption | (simp; omega)) _)))⟩
      case measure => simp [intOf]; omega
    · have e : k = ls.length := by omega
      subst e
      have hg := HG.out ls.length
      rw [List.take_length] at HA hg
      go_wp2_with fail
      refine (end_any w.heap.size _ _ HA.out hg).mono ?_; rintro e w2 ⟨rfl, f2⟩
      rw [HE.out]
      go_wp2
      go_ret
      exact ⟨rfl, hf.trans f2⟩
end Go.Proofs.YthnennleblgjeaaDoor
namespace Go.Proofs.YthnennleblgjeaaDoor
set_option linter.unusedVariables false
set_option linter.unusedSimpArgs false
open Go.ChangeShapes Go.WideShapes Go.ChangeAt Go.RowKit
set_option linter.unusedVariables false

theorem BSS.one {w : World} {g n c : Nat} {A : Option Addr} {l : List Int} (h : Blk w g 24 #[.slice A n c]) (e : n = l.length) (h1 : BS w A c l) : BSS w (some ⟨g, 0, none⟩) 1 [l] := by
  subst e
  refine ⟨[.slice A l.length c], rfl, ⟨by simp, by unfold maxLen; omega, fun e => (by cases e), fun _ => ⟨g, 0, rfl, h.lt, fun i v hv => ?_⟩⟩, fun i u l hu hl' => ?_⟩
  · match i, hv with
    | 0, hv => simp at hv; subst hv; exact h.cell 0
  · match i, hu, hl' with
    | 0, hu, hl' => simp at hu hl'; subst hu hl'; exact ⟨A, c, rfl, h1⟩

theorem of_one (g n c : Nat) (A : Option Addr) (l : List Int) (w : World) (h : Blk w g 24 #[.slice A n c]) (e : n = l.length) (h1 : BS w A c l) (hl : l.length ≤ 1000000000) :
    Calls Tryd.prog 57 #[.slice (some ⟨g, 0, none⟩) 1 1] w fun e w' => e = .returned (.int .u16 (sumOf l)) ∧ Fine w w' := by
  have e2 : [l].flatten = l := by simp
  have := of_any (some ⟨g, 0, none⟩) 1 1 [l] w (BSS.one h e h1) rfl (by simp) (fun i l' hi hl' => by
    obtain rfl : i = 0 := by simpa using hi
    simp at hl'; subst hl'; exact hl) (by rw [e2]; exact h1.1)
  rwa [e2] at this

/-- Bytes of an even number. -/
def pad (l : List Int) : List Int := l ++ if l.length % 2 = 1 then [0] else []
theorem pad_even (l : List Int) : (pad l).length % 2 = 0 := by unfold pad; split <;> simp <;> omega
theorem pad_le (l : List Int) : l.length ≤ (pad l).length ∧ (pad l).length ≤ l.length + 1 := by unfold pad; split <;> simp
theorem pad_bytes {l : List Int} (h : Bytes l) : Bytes (pad l) := by
  unfold pad
  refine h.append ?_
  split
  · exact Bytes.one (by omega)
  · exact Bytes.nil
/-- Bytes, and their sum. -/
def putOf (l : List Int) : List Int := pad l ++ be 2 (sumOf (pad l))

theorem sum_bd {l : List Int} (h : Bytes l) : 0 ≤ sumOf l ∧ sumOf l ≤ 65535 := told_bd _ (great_nonneg false l h)

set_option maxHeartbeats 400000 in
theorem sumput_any (A : Option Addr) (c : Nat) (xs : List Int) (w : World) (h : BS w A c xs) (hl : xs.length ≤ 1000000) :
    Calls Tryd.prog 36 #[.slice A xs.length c] w fun e w' => ∃ v, e = .returned v ∧ OwnB w' w.heap.size v (putOf xs) ∧ Fine w w' := by
  have H := Lib.hid h
  have hpl := pad_le xs
  have hsb := sum_bd (pad_bytes h.1)
  have hw2 : width 2 = 2 := by decide
  have HPut := Lib.hid (fun A k c l n hn w hx hk hl => hw2 ▸ put_n A k c l n hn 2 w hx hk hl)
  clear h hw2
  by_cases hodd : xs.length % 2 = 1
  · have HP : Hid (pad xs = xs ++ [0]) := by show _ = _; unfold pad; rw [if_pos hodd]
    obtain ⟨s, hs⟩ : ∃ s, sumOf (pad xs) = s := ⟨_, rfl⟩
    have HR : Hid (putOf xs = pad xs ++ be 2 s) := by show _ = _; unfold putOf; rw [hs]
    rw [hs] at hsb
    have HS := Lib.hid hs; clear hs
    have h2 : ((xs.length : Int) % 2 != 0) = true := by simp; omega
    go_enter Tryd.func36, Tryd.ntmps36
    go_wp2_with fail
    refine (join_one w.heap.size A _ c xs _ (Blk.cell1 (t := 24) (by repeat (first | assumption | (with_reducible refine Blk.newAt ?_; first | rfl | (simp; done)) | (with_reducible refine Blk.drew ?_) | (with_reducible refine Blk.alloc ?_ _) | (refine Blk.fine ?_ (by assumption))))) rfl (H.out.fine (by repeat (first | exact Fine.refl _ | assumption | refine Fine.alloc ?_ _ | refine Fine.drew ?_ | refine Fine.drewN ?_ _ | refine Fine.trans ?_ (by assumption) | (refine Fine.kept ?_ (by assumption) (by intro x hx; first | omega | (simp; omega))) | (refine Fine.setCell ?_ (by first | assumption | (simp; omega)) _)))) (by omega)).mono ?_; rintro e w1 ⟨v1, rfl, o1, f1⟩
    have F1 : Fine w w1 := (by repeat (first | exact Fine.refl _ | assumption | refine Fine.alloc ?_ _ | refine Fine.drew ?_ | refine Fine.drewN ?_ _ | refine Fine.trans ?_ (by assumption) | (refine Fine.kept ?_ (by assumption) (by intro x hx; first | omega | (simp; omega))) | (refine Fine.setCell ?_ (by first | assumption | (simp; omega)) _)))
    obtain ⟨A1, c1, rfl, b1, _⟩ := o1.form
    have O1 := Lib.hid (o1.lower (base' := w.heap.size) (by simp)); clear o1 b1
    have hs1 := F1.size
    clear f1
    go_wp2_with (at_builtin; refine wpList_appS rfl (.tmp 10) (.tmp 11) rfl w.heap.size _ _ rfl (O1.out.alloc _) (some ⟨w1.heap.size, 0, none⟩) _ _ [0] rfl rfl (BS.one (by omega) _) (by simp; omega) (by simp; omega) ?_; intro A2 c2 w2 O2 K2 k2)
    have F2 : Fine w w2 := (by repeat (first | exact Fine.refl _ | assumption | refine Fine.alloc ?_ _ | refine Fine.drew ?_ | refine Fine.drewN ?_ _ | refine Fine.trans ?_ (by assumption) | (refine Fine.kept ?_ (by assumption) (by intro x hx; first | omega | (simp; omega))) | (refine Fine.setCell ?_ (by first | assumption | (simp; omega)) _)))
    rw [← HP.out] at O2 K2
    refine (of_one w2.heap.size _ c2 A2 (pad xs) _ (by repeat (first | assumption | (with_reducible refine Blk.newAt ?_; first | rfl | (simp; done)) | (with_reducible refine Blk.drew ?_) | (with_reducible refine Blk.alloc ?_ _) | (refine Blk.fine ?_ (by assumption)))) (by rw [HP.out]; simp) (K2.out.fine (by repeat (first | exact Fine.refl _ | assumption | refine Fine.alloc ?_ _ | refine Fine.drew ?_ | refine Fine.drewN ?_ _ | refine Fine.trans ?_ (by assumption) | (refine Fine.kept ?_ (by assumption) (by intro x hx; first | omega | (simp; omega))) | (refine Fine.setCell ?_ (by first | assumption | (simp; omega)) _)))) (by omega)).mono ?_; rintro e w3 ⟨rfl, f3⟩
    rw [HS.out]
    go_wp2_with fail
    refine (HPut.out A2 _ c2 (pad xs) s ⟨hsb.1, by omega⟩ _ (K2.out.fine (by repeat (first | exact Fine.refl _ | assumption | refine Fine.alloc ?_ _ | refine Fine.drew ?_ | refine Fine.drewN ?_ _ | refine Fine.trans ?_ (by assumption) | (refine Fine.kept ?_ (by assumption) (by intro x hx; first | omega | (simp; omega))) | (refine Fine.setCell ?_ (by first | assumption | (simp; omega)) _)))) (by rw [HP.out]; simp) (by omega)).mono ?_; rintro e w4 ⟨v4, rfl, o4, f4⟩
    rw [← HR.out] at o4
    go_wp2
    go_ret
    have F3 : Fine w w3 := (by repeat (first | exact Fine.refl _ | assumption | refine Fine.alloc ?_ _ | refine Fine.drew ?_ | refine Fine.drewN ?_ _ | refine Fine.trans ?_ (by assumption) | (refine Fine.kept ?_ (by assumption) (by intro x hx; first | omega | (simp; omega))) | (refine Fine.setCell ?_ (by first | assumption | (simp; omega)) _)))
    exact ⟨_, rfl, o4.lower F3.size, F3.trans f4⟩
  · have HP : Hid (pad xs = xs) := by show _ = _; unfold pad; rw [if_neg hodd]; simp
    obtain ⟨s, hs⟩ : ∃ s, sumOf (pad xs) = s := ⟨_, rfl⟩
    have HR : Hid (putOf xs = pad xs ++ be 2 s) := by show _ = _; unfold putOf; rw [hs]
    rw [hs] at hsb
    have HS := Lib.hid hs; clear hs
    have h2 : ((xs.length : Int) % 2 != 0) = false := by simp; omega
    go_enter Tryd.func36, Tryd.ntmps36
    go_wp2_with fail
    refine (join_one w.heap.size A _ c xs _ (Blk.cell1 (t := 24) (by repeat (first | assumption | (with_reducible refine Blk.newAt ?_; first | rfl | (simp; done)) | (with_reducible refine Blk.drew ?_) | (with_reducible refine Blk.alloc ?_ _) | (refine Blk.fine ?_ (by assumption))))) rfl (H.out.fine (by repeat (first | exact Fine.refl _ | assumption | refine Fine.alloc ?_ _ | refine Fine.drew ?_ | refine Fine.drewN ?_ _ | refine Fine.trans ?_ (by assumption) | (refine Fine.kept ?_ (by assumption) (by intro x hx; first | omega | (simp; omega))) | (refine Fine.setCell ?_ (by first | assumption | (simp; omega)) _)))) (by omega)).mono ?_; rintro e w1 ⟨v1, rfl, o1, f1⟩
    have F1 : Fine w w1 := (by repeat (first | exact Fine.refl _ | assumption | refine Fine.alloc ?_ _ | refine Fine.drew ?_ | refine Fine.drewN ?_ _ | refine Fine.trans ?_ (by assumption) | (refine Fine.kept ?_ (by assumption) (by intro x hx; first | omega | (simp; omega))) | (refine Fine.setCell ?_ (by first | assumption | (simp; omega)) _)))
    obtain ⟨A1, c1, rfl, b1, _⟩ := o1.form
    have K1 := Lib.hid b1; clear o1 b1
    have hs1 := F1.size
    clear f1
    go_wp2_with fail
    refine (of_one w1.heap.size _ c1 A1 (pad xs) _ (by repeat (first | assumption | (with_reducible refine Blk.newAt ?_; first | rfl | (simp; done)) | (with_reducible refine Blk.drew ?_) | (with_reducible refine Blk.alloc ?_ _) | (refine Blk.fine ?_ (by assumption)))) (by rw [HP.out]) (by rw [HP.out]; exact K1.out.fine (by repeat (first | exact Fine.refl _ | assumption | refine Fine.alloc ?_ _ | refine Fine.drew ?_ | refine Fine.drewN ?_ _ | refine Fine.trans ?_ (by assumption) | (refine Fine.kept ?_ (by assumption) (by intro x hx; first | omega | (simp; omega))) | (refine Fine.setCell ?_ (by first | assumption | (simp; omega)) _)))) (by omega)).mono ?_; rintro e w3 ⟨rfl, f3⟩
    rw [HS.out]
    go_wp2_with fail
    refine (HPut.out A1 _ c1 (pad xs) s ⟨hsb.1, by omega⟩ _ (by rw [HP.out]; exact K1.out.fine (by repeat (first | exact Fine.refl _ | assumption | refine Fine.alloc ?_ _ | refine Fine.drew ?_ | refine Fine.drewN ?_ _ | refine Fine.trans ?_ (by assumption) | (refine Fine.kept ?_ (by assumption) (by intro x hx; first | omega | (simp; omega))) | (refine Fine.setCell ?_ (by first | assumption | (simp; omega)) _)))) (by rw [HP.out]) (by omega)).mono ?_; rintro e w4 ⟨v4, rfl, o4, f4⟩
    rw [← HR.out] at o4
    go_wp2
    go_ret
    have F3 : Fine w w3 := (by repeat (first | exact Fine.refl _ | assumption | refine Fine.alloc ?_ _ | refine Fine.drew ?_ | refine Fine.drewN ?_ _ | refine Fine.trans ?_ (by assumption) | (refine Fine.kept ?_ (by assumption) (by intro x hx; first | omega | (simp; omega))) | (refine Fine.setCell ?_ (by first | assumption | (simp; omega)) _)))
    exact ⟨_, rfl, o4.lower F3.size, F3.trans f4⟩
end Go.Proofs.YthnennleblgjeaaDoor
namespace Go.Proofs.YthnennleblgjeaaDoor
set_option linter.unusedVariables false
set_option linter.unusedSimpArgs false
open Go.ChangeShapes Go.WideShapes Go.ChangeAt Go.RowKit
set_option linter.unusedVariables false

/-- Do bytes have their sum behind them? -/
def goodB (l : List Int) : Bool := decide (2 ≤ l.length) && (decide (l.length % 2 = 0) && decide (sumOf l = 0))

theorem good_any (A : Option Addr) (k c : Nat) (xs : List Int) (w : World) (h : BS w A c xs) (hk : k = xs.length) (hl : xs.length ≤ 1000000) :
    Calls Tryd.prog 41 #[.slice A k c] w fun e w' => e = .returned (.bool (goodB xs)) ∧ Fine w w' := by
  subst hk
  have H := Lib.hid h; clear h
  by_cases h2 : 2 ≤ xs.length
  · by_cases he : xs.length % 2 = 0
    · have he' : ((xs.length : Int) % 2 == 0) = true := by simp; omega
      have HG : Hid (goodB xs = decide (sumOf xs = 0)) := by show _ = _; unfold goodB; simp [h2, he]
      have h2' : (2 : Int) ≤ (xs.length : Int) := by omega
      obtain ⟨s, hs⟩ : ∃ s, sumOf xs = s := ⟨_, rfl⟩
      rw [hs] at HG
      have HS := Lib.hid hs
      clear he h2 hs
      go_enter Tryd.func41, Tryd.ntmps41
      go_wp2_with fail
      refine (of_one w.heap.size _ c A xs _ (by repeat (first | assumption | (with_reducible refine Blk.newAt ?_; first | rfl | (simp; done)) | (with_reducible refine Blk.drew ?_) | (with_reducible refine Blk.alloc ?_ _) | (refine Blk.fine ?_ (by assumption)))) rfl (H.out.fine (by repeat (first | exact Fine.refl _ | assumption | refine Fine.alloc ?_ _ | refine Fine.drew ?_ | refine Fine.drewN ?_ _ | refine Fine.trans ?_ (by assumption) | (refine Fine.kept ?_ (by assumption) (by intro x hx; first | omega | (simp; omega))) | (refine Fine.setCell ?_ (by first | assumption | (simp; omega)) _)))) (by omega)).mono ?_; rintro e w3 ⟨rfl, f3⟩
      rw [HS.out]
      go_wp2
      go_ret
      exact ⟨ret_bool (by rw [HG.out, Bool.eq_iff_iff]; simp), (by repeat (first | exact Fine.refl _ | assumption | refine Fine.alloc ?_ _ | refine Fine.drew ?_ | refine Fine.drewN ?_ _ | refine Fine.trans ?_ (by assumption) | (refine Fine.kept ?_ (by assumption) (by intro x hx; first | omega | (simp; omega))) | (refine Fine.setCell ?_ (by first | assumption | (simp; omega)) _)))⟩
    · have he' : ((xs.length : Int) % 2 == 0) = false := by simp; omega
      have HG : Hid (goodB xs = false) := by show _ = _; unfold goodB; simp [he]
      have h2' : (2 : Int) ≤ (xs.length : Int) := by omega
      clear he h2
      go_enter Tryd.func41, Tryd.ntmps41
      go_wp2
      go_ret
      exact ⟨ret_bool (by rw [HG.out]), (by repeat (first | exact Fine.refl _ | assumption | refine Fine.alloc ?_ _ | refine Fine.drew ?_ | refine Fine.drewN ?_ _ | refine Fine.trans ?_ (by assumption) | (refine Fine.kept ?_ (by assumption) (by intro x hx; first | omega | (simp; omega))) | (refine Fine.setCell ?_ (by first | assumption | (simp; omega)) _)))⟩
  · have HG : Hid (goodB xs = false) := by show _ = _; unfold goodB; simp [h2]
    have h2' : (xs.length : Int) < 2 := by omega
    clear h2
    go_enter Tryd.func41, Tryd.ntmps41
    go_wp2
    go_ret
    exact ⟨ret_bool (by rw [HG.out]), (by repeat (first | exact Fine.refl _ | assumption | refine Fine.alloc ?_ _ | refine Fine.drew ?_ | refine Fine.drewN ?_ _ | refine Fine.trans ?_ (by assumption) | (refine Fine.kept ?_ (by assumption) (by intro x hx; first | omega | (simp; omega))) | (refine Fine.setCell ?_ (by first | assumption | (simp; omega)) _)))⟩

/-- The bytes of a block that was laid for a list. -/
theorem bs_lit (w : World) (l : List Int) (h : Bytes l) (hl : l.length ≤ 1000000) : BS (w.alloc (.cells (cellB l).toArray 5)) (some ⟨w.heap.size, 0, none⟩) l.length l :=
  ⟨h, by rw [cellB_length]; omega, by unfold maxLen; omega, (fun e => by cases e), fun _ => ⟨w.heap.size, 0, rfl, by simp, fun i v hv => by
    rw [Nat.zero_add, (Blk.new w 5 (cellB l).toArray).cell i]
    simpa using hv⟩⟩

theorem great_take2 (l : List Int) (k : Nat) (hk : k < l.length) (he : k % 2 = 0) :
    great false (l.take (k + 2)) = great false (l.take k) + 256 * l.getD k 0 + (if k + 1 < l.length then l.getD (k + 1) 0 else 0) := by
  have hp : (l.take k).length % 2 = 0 := by simp; omega
  split
  · rename_i h
    rw [show k + 2 = (k + 1) + 1 from rfl, take_len_succ l (k + 1) h, take_len_succ l k hk, great_append, great_append]
    simp [great, List.length_take]
    have : (min k l.length + 1) % 2 = 1 := by omega
    simp [this]
    omega
  · rename_i h
    have e : l.take (k + 2) = l.take (k + 1) := by rw [List.take_of_length_le (by omega), List.take_of_length_le (by omega)]
    rw [e, take_len_succ l k hk, great_append]
    simp [great]
    omega

set_option maxHeartbeats 400000 in
theorem rof_any (A : Option Addr) (k c : Nat) (xs : List Int) (w : World) (h : BS w A c xs) (hk : k = xs.length) (hl : xs.length ≤ 1000000) :
    Calls Tryd.prog 66 #[.slice A k c] w fun e w' => e = .returned (.int .u16 (sumOf xs)) ∧ Fine w w' := by
  subst hk
  have H := Lib.hid h
  have HG : Hid (∀ j, 0 ≤ great false (xs.take j) ∧ great false (xs.take j) ≤ 65280 * 1000000) := fun j => by
    have h1 := great_nonneg false (xs.take j) (h.1.take j)
    have h2 := great_le false (xs.take j) (h.1.take j)
    refine ⟨h1, ?_⟩
    have : ((xs.take j).length : Int) ≤ 1000000 := by simp; omega
    omega
  clear h
  go_enter Tryd.func66, Tryd.ntmps66
  go_wp2
  go_loop [3, 4] (fun v i => ∃ j : Nat, j ≤ xs.length + 1 ∧ j % 2 = 0 ∧ i = .int .i64 j ∧ v = .int .i64 (great false (xs.take j))) (fun _ i => xs.length + 1 - (intOf i).toNat)
  case atStart => exact ⟨0, Nat.zero_le _, rfl, rfl, rfl⟩
  case round =>
    obtain ⟨j, hj, hj2, rfl, rfl⟩ := hrel
    have hg := HG.out j
    obtain ⟨G, hG⟩ : ∃ G, great false (xs.take j) = G := ⟨_, rfl⟩
    rw [hG] at hg ⊢
    by_cases hlt : j < xs.length
    · obtain ⟨b, off, rfl, hb, hc⟩ := H.out.at_ hlt
      have hzb := H.out.1.getD j
      have HT := Lib.hid (great_take2 xs j hlt hj2)
      rw [hG] at HT
      obtain ⟨z, hz⟩ : ∃ z, xs.getD j 0 = z := ⟨_, rfl⟩
      rw [hz] at hc hzb HT
      clear hz hG
      have hJ2 := Lib.hid hj2; clear hj2
      by_cases h1 : j + 1 < xs.length
      · obtain ⟨b', off', e1, _, hc1⟩ := H.out.at_ h1
        injection e1 with e1
        injection e1 with e1 e2 _
        subst e1 e2
        have hyb := H.out.1.getD (j + 1)
        obtain ⟨y, hy⟩ : ∃ y, xs.getD (j + 1) 0 = y := ⟨_, rfl⟩
        rw [hy, if_pos h1] at HT
        rw [hy] at hc1 hyb
        clear hy
        go_wp2
        go_round
        case rel => exact ⟨j + 2, by omega, by have := hJ2.out; omega, by go_num, by rw [HT.out]⟩
        case measure => simp [intOf]; omega
      · rw [if_neg h1] at HT
        go_wp2
        go_round
        case rel => exact ⟨j + 2, by omega, by have := hJ2.out; omega, by go_num, by rw [HT.out]; go_num⟩
        case measure => simp [intOf]; omega
    · have hT : great false (xs.take j) = great false xs := by rw [List.take_of_length_le (by omega)]
      have HS : Hid (sumOf xs = told G) := by show _ = _; unfold sumOf; rw [← hT, hG]
      clear hG hT
      go_wp2
      go_loop [3] (fun v => ∃ n : Int, 0 ≤ n ∧ n ≤ 65280000000 ∧ v = .int .i64 n ∧ Hid (told n = told G)) (fun v => (intOf v).toNat)
      case atStart => exact ⟨G, by omega, by omega, rfl, rfl⟩
      case round =>
        obtain ⟨n, hn0, hn1, rfl, HN⟩ := hrel
        by_cases hbig : 65535 < n
        · have HF := Lib.hid (told_fold n hn0)
          go_wp2
          go_round
          case rel => exact ⟨fold16 n, by unfold fold16; omega, by unfold fold16; omega, rfl, by show _ = _; rw [HF.out]; exact HN.out⟩
          case measure => simp [intOf]; omega
        · have HT := Lib.hid (told_small n hn0 (by omega))
          go_wp2
          go_ret
          exact ⟨ret_int (by rw [HS.out, ← HN.out, HT.out]), Fine.refl _⟩

theorem be2 (s : Int) (h : 0 ≤ s ∧ s ≤ 65535) : be 2 s = [s / 256, s % 256] := by
  have e : s / 256 % 256 = s / 256 := by omega
  simp [be, e]

set_option maxHeartbeats 400000 in
theorem rput_any (A : Option Addr) (k c : Nat) (xs : List Int) (w : World) (h : BS w A c xs) (hk : k = xs.length) (hl : xs.length ≤ 100000) :
    Calls Tryd.prog 50 #[.slice A k c] w fun e w' => ∃ v, e = .returned v ∧ OwnB w' w.heap.size v (putOf xs) ∧ Fine w w' := by
  subst hk
  have H := Lib.hid h
  have hpl := pad_le xs
  have hsb := sum_bd (pad_bytes h.1)
  clear h
  obtain ⟨s, hs⟩ : ∃ s, sumOf (pad xs) = s := ⟨_, rfl⟩
  rw [hs] at hsb
  have HR : Hid (putOf xs = pad xs ++ [s / 256, s % 256]) := by show _ = _; unfold putOf; rw [hs, be2 s hsb]
  have HS := Lib.hid hs; clear hs
  have h1 : 0 ≤ s / 256 ∧ s / 256 ≤ 255 := by omega
  have h2 : 0 ≤ s % 256 ∧ s % 256 ≤ 255 := by omega
  have hq1 : IntKind.u16.wrap (s.tdiv 256) = s / 256 := by rw [Int.tdiv_eq_ediv_of_nonneg hsb.1, IntKind.wrap_u16]; omega
  have hq2 : s / 256 % 256 = s / 256 := by omega
  have HB2 : Hid (∀ w : World, BS (w.alloc (.cells #[.int .u8 (s / 256), .int .u8 (s % 256)] 5)) (some ⟨w.heap.size, 0, none⟩) 2 [s / 256, s % 256]) :=
    fun w => bs_lit w [s / 256, s % 256] (by intro x hx; simp at hx; omega) (by simp)
  by_cases hodd : xs.length % 2 = 1
  · have HP : Hid (pad xs = xs ++ [0]) := by show _ = _; unfold pad; rw [if_pos hodd]
    have ho : ((xs.length : Int) % 2 == 1) = true := by simp; omega
    go_enter Tryd.func50, Tryd.ntmps50
    go_wp2_with (first
      | (at_builtin; refine wpList_appS rfl (.tmp 5) (.tmp 6) rfl w.heap.size _ _ rfl (OwnB.nil_ w _) A _ c xs rfl rfl H.out (by simp; omega) (Nat.le_refl _) ?_; intro A1 c1 w1 O1 K1 k1; simp only [List.nil_append, List.length_nil, Nat.zero_add] at O1 K1; have F1 : Fine w w1 := (by repeat (first | exact Fine.refl _ | assumption | refine Fine.alloc ?_ _ | refine Fine.drew ?_ | refine Fine.drewN ?_ _ | refine Fine.trans ?_ (by assumption) | (refine Fine.kept ?_ (by assumption) (by intro x hx; first | omega | (simp; omega))) | (refine Fine.setCell ?_ (by first | assumption | (simp; omega)) _))); have hz1 := F1.size)
      | (at_builtin; refine wpList_appS rfl (.tmp 12) (.tmp 13) rfl w.heap.size _ _ rfl (O1.out.alloc _) (some ⟨w1.heap.size, 0, none⟩) _ _ [0] rfl rfl (BS.one (by omega) _) (by simp; omega) (by simp; omega) ?_; intro A2 c2 w2 O2 K2 k2))
    have F2 : Fine w w2 := (by repeat (first | exact Fine.refl _ | assumption | refine Fine.alloc ?_ _ | refine Fine.drew ?_ | refine Fine.drewN ?_ _ | refine Fine.trans ?_ (by assumption) | (refine Fine.kept ?_ (by assumption) (by intro x hx; first | omega | (simp; omega))) | (refine Fine.setCell ?_ (by first | assumption | (simp; omega)) _)))
    rw [← HP.out] at O2 K2
    refine (rof_any A2 _ c2 (pad xs) _ K2.out (by rw [HP.out]; simp) (by omega)).mono ?_; rintro e w3 ⟨rfl, f3⟩
    rw [HS.out]
    simp only [List.length_cons, List.length_nil, Nat.zero_add] at O2
    have F3 : Fine w w3 := F2.trans f3
    have hz3 := F3.size
    go_wp2_with (at_builtin; refine wpList_appB rfl (.tmp 17) (.tmp 24) rfl w.heap.size _ _ rfl ((O2.out.fine f3).alloc _) (some ⟨w3.heap.size, 0, none⟩) _ _ [s / 256, s % 256] rfl rfl (HB2.out _) (by first | omega | (simp; done) | (simp; omega)) (by first | omega | (simp; done) | (simp; omega)) ?_; intro v4 w4 O4 k4 _ _)
    rw [← HR.out] at O4
    go_ret
    exact ⟨_, rfl, O4, (by repeat (first | exact Fine.refl _ | assumption | refine Fine.alloc ?_ _ | refine Fine.drew ?_ | refine Fine.drewN ?_ _ | refine Fine.trans ?_ (by assumption) | (refine Fine.kept ?_ (by assumption) (by intro x hx; first | omega | (simp; omega))) | (refine Fine.setCell ?_ (by first | assumption | (simp; omega)) _)))⟩
  · have HP : Hid (pad xs = xs) := by show _ = _; unfold pad; rw [if_neg hodd]; simp
    have ho : ((xs.length : Int) % 2 == 1) = false := by simp; omega
    go_enter Tryd.func50, Tryd.ntmps50
    go_wp2_with (at_builtin; refine wpList_appS rfl (.tmp 5) (.tmp 6) rfl w.heap.size _ _ rfl (OwnB.nil_ w _) A _ c xs rfl rfl H.out (by simp; omega) (Nat.le_refl _) ?_; intro A1 c1 w1 O1 K1 k1; simp only [List.nil_append, List.length_nil, Nat.zero_add] at O1 K1; have F1 : Fine w w1 := (by repeat (first | exact Fine.refl _ | assumption | refine Fine.alloc ?_ _ | refine Fine.drew ?_ | refine Fine.drewN ?_ _ | refine Fine.trans ?_ (by assumption) | (refine Fine.kept ?_ (by assumption) (by intro x hx; first | omega | (simp; omega))) | (refine Fine.setCell ?_ (by first | assumption | (simp; omega)) _))); have hz1 := F1.size)
    refine (rof_any A1 _ c1 (pad xs) _ (by rw [HP.out]; exact K1.out) (by rw [HP.out]) (by omega)).mono ?_; rintro e w3 ⟨rfl, f3⟩
    rw [HS.out]
    have F3 : Fine w w3 := F1.trans f3
    have hz3 := F3.size
    go_wp2_with (at_builtin; go_loud (refine wpList_appB rfl (.tmp 17) (.tmp 24) rfl w.heap.size _ _ rfl ((O1.out.fine f3).alloc _) (some ⟨w3.heap.size, 0, none⟩) _ _ [s / 256, s % 256] rfl rfl (HB2.out _) (by first | omega | (simp; done) | (simp; omega)) (by first | omega | (simp; done) | (simp; omega)) ?_); intro v4 w4 O4 k4 _ _)
    rw [HP.out] at HR
    rw [← HR.out] at O4
    go_ret
    exact ⟨_, rfl, O4, (by repeat (first | exact Fine.refl _ | assumption | refine Fine.alloc ?_ _ | refine Fine.drew ?_ | refine Fine.drewN ?_ _ | refine Fine.trans ?_ (by assumption) | (refine Fine.kept ?_ (by assumption) (by intro x hx; first | omega | (simp; omega))) | (refine Fine.setCell ?_ (by first | assumption | (simp; omega)) _)))⟩
end Go.Proofs.YthnennleblgjeaaDoor
namespace Go.Proofs.YthnennleblgjeaaDoor
set_option linter.unusedVariables false
set_option linter.unusedSimpArgs false
open Go.ChangeShapes Go.WideShapes Go.ChangeAt Go.RowKit
set_option linter.unusedVariables false

theorem putOf_length (l : List Int) : (putOf l).length = (pad l).length + 2 := by unfold putOf; simp [be_length]
theorem putOf_bytes {l : List Int} (h : Bytes l) : Bytes (putOf l) := (pad_bytes h).append (be_bytes 2 _)
theorem great_put {l : List Int} (h : Bytes l) : great false (putOf l) = great false (pad l) + sumOf (pad l) := by
  have hs := sum_bd (pad_bytes h)
  have he := pad_even l
  unfold putOf
  rw [great_append, be2 _ hs]
  simp [great, he]
  omega
theorem good_put {l : List Int} (h : Bytes l) : goodB (putOf l) = true := by
  have hp := pad_even l
  have hl := putOf_length l
  have hg := great_nonneg false (pad l) (pad_bytes h)
  have hs : sumOf (putOf l) = 0 := by
    unfold sumOf
    rw [great_put h]
    unfold sumOf
    rw [told_zero _ (by have := told_bd _ hg; omega)]
    unfold told
    split <;> constructor <;> omega
  unfold goodB
  simp [hs]
  omega
/-- One byte of what is good is changed. -/
theorem good_changed {l : List Int} (h : Bytes l) (hg : goodB l = true) (i : Nat) (hi : i < l.length) (z : Int) (hz : 0 ≤ z ∧ z ≤ 255) (hne : z ≠ l.getD i 0) : goodB (l.set i z) = false := by
  have hx := h.getD i
  have e1 : l = l.take i ++ ([l.getD i 0] ++ l.drop (i + 1)) := by
    have := List.drop_eq_getElem_cons hi
    conv => lhs; rw [← List.take_append_drop i l, this]
    simp [List.getD, hi]
  have e2 : l.set i z = l.take i ++ ([z] ++ l.drop (i + 1)) := by
    rw [List.set_eq_take_append_cons_drop, if_pos hi]; rfl
  have g1 : great false l = great false (l.take i) + great (false ^^ ((l.take i).length % 2 == 1)) ([l.getD i 0] ++ l.drop (i + 1)) := by
    conv => lhs; rw [e1]
    rw [great_append]
  have g2 : great false (l.set i z) = great false (l.take i) + great (false ^^ ((l.take i).length % 2 == 1)) ([z] ++ l.drop (i + 1)) := by rw [e2, great_append]
  have n1 := great_nonneg false l h
  have hb2 : Bytes (l.set i z) := fun x hx' => by
    rcases List.mem_or_eq_of_mem_set hx' with hx' | rfl
    · exact h x hx'
    · exact hz
  have n2 := great_nonneg false (l.set i z) hb2
  unfold goodB at hg ⊢
  simp only [Bool.and_eq_true, decide_eq_true_eq] at hg
  obtain ⟨h2, h3, h4⟩ := hg
  unfold sumOf at h4
  rw [told_zero _ n1] at h4
  have key : sumOf (l.set i z) ≠ 0 := by
    unfold sumOf
    rw [Ne, told_zero _ n2]
    rintro ⟨_, hm⟩
    have hm1 := h4.2
    rw [g2] at hm
    rw [g1] at hm1
    clear g1 g2 e1 e2 n1 n2 h4
    generalize l.getD i 0 = y at hm1 hx hne
    generalize great false (l.take i) = G at hm hm1
    rcases Bool.eq_false_or_eq_true (false ^^ ((l.take i).length % 2 == 1)) with hb | hb
    · rw [hb] at hm hm1
      simp only [List.singleton_append, great] at hm hm1
      simp at hm hm1
      generalize great false (l.drop (i + 1)) = R at hm hm1
      omega
    · rw [hb] at hm hm1
      simp only [List.singleton_append, great] at hm hm1
      simp at hm hm1
      generalize great true (l.drop (i + 1)) = R at hm hm1
      omega
  simp [key]

end Go.Proofs.YthnennleblgjeaaDoor
