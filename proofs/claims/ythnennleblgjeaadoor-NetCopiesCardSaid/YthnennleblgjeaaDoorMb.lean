/- Plain law of numbers as bytes (layer 1): lists of whole numbers, no program in sight. Contracts of package octet's functions, and of the reference's. Contracts of package octet's functions, and of the reference's: numbers as bytes. Contracts of the reference's functions of layer 1. Contracts of octet.Put and octet.Same, and that the example of layer 1 holds. -/
import Derived.Test.YthnennleblgjeaaDoorXBytes
import Derived.WalkKit
import Derived.LoopTactic
import Derived.Outline
import Derived.RegionTactic
import Derived.BigRegion
import Derived.BigQuiet
import Derived.Deep.QuietTactic
import Derived.Deep.RegionWith
import Derived.WalkLawsBesides
import Derived.Laws.BitsAllLaws
import Derived.Laws.CopyOwn
namespace Go.Proofs.YthnennleblgjeaaDoor
set_option linter.unusedVariables false
set_option linter.unusedSimpArgs false

/-- A number's k lowest bytes, the highest one first. -/
def be : Nat → Int → List Int
  | 0, _ => []
  | k + 1, n => be k (n / 256) ++ [n % 256]
theorem be_length (k : Nat) (n : Int) : (be k n).length = k := by
  induction k generalizing n with
  | zero => rfl
  | succ k ih => simp [be, ih]
theorem be_cons (k : Nat) (n : Int) : be (k + 1) n = (n / 256 ^ k % 256) :: be k n := by
  induction k generalizing n with
  | zero => simp [be]
  | succ k ih =>
    rw [be, ih]
    have e : n / 256 / 256 ^ k = n / 256 ^ (k + 1) := by
      rw [Int.ediv_ediv_of_nonneg (by omega)]
      congr 1
      rw [Int.pow_succ, Int.mul_comm]
    rw [e]
    simp [be]
theorem be_get (k : Nat) (n : Int) (i : Nat) (hi : i < k) : (be k n).getD i 0 = n / 256 ^ (k - 1 - i) % 256 := by
  induction k generalizing i with
  | zero => omega
  | succ k ih =>
    rw [be_cons]
    cases i with
    | zero => simp
    | succ i =>
      have := ih i (by omega)
      rw [show k + 1 - 1 - (i + 1) = k - 1 - i by omega]
      simpa using this
theorem div_pow_succ (n : Int) (j : Nat) : n / 256 ^ (j + 1) = n / 256 ^ j / 256 := by
  rw [Int.pow_succ, Int.ediv_ediv_of_nonneg (Int.pow_nonneg (by omega))]
theorem div_pow_bd (n : Int) (j : Nat) (h0 : 0 ≤ n) : 0 ≤ n / 256 ^ j ∧ n / 256 ^ j ≤ n := by
  induction j with
  | zero => simp; exact h0
  | succ j ih => rw [div_pow_succ]; omega
theorem be_bytes (k : Nat) (n : Int) : Bytes (be k n) := by
  induction k generalizing n with
  | zero => intro x hx; cases hx
  | succ k ih =>
    intro x hx
    simp only [be, List.mem_append, List.mem_singleton] at hx
    rcases hx with hx | rfl
    · exact ih _ x hx
    · omega
/-- A number of some bytes. -/
def num (l : List Int) : Int := l.foldl (fun a x => 256 * a + x) 0
theorem num_snoc (l : List Int) (x : Int) : num (l ++ [x]) = 256 * num l + x := by simp [num]
theorem num_bd : ∀ (k : Nat) (l : List Int), l.length = k → Bytes l → 0 ≤ num l ∧ num l < 256 ^ k
  | 0, l, h, _ => by
    obtain rfl : l = [] := List.eq_nil_of_length_eq_zero h
    simp [num]
  | k + 1, l, h, hb => by
    have hne : l ≠ [] := by rintro rfl; simp at h
    obtain ⟨m, x, rfl⟩ : ∃ m x, l = m ++ [x] := ⟨l.dropLast, l.getLast hne, (List.dropLast_concat_getLast hne).symm⟩
    have ih := num_bd k m (by simpa using h) (fun y hy => hb y (by simp [hy]))
    have hx := hb x (by simp)
    rw [num_snoc, Int.pow_succ]
    constructor <;> omega
theorem num_lt (l : List Int) (h : l.length ≤ 8) (hb : Bytes l) : 0 ≤ num l ∧ num l < 18446744073709551616 := by
  have := num_bd l.length l rfl hb
  refine ⟨this.1, Int.lt_of_lt_of_le this.2 ?_⟩
  have h8 : (256 : Int) ^ l.length ≤ 256 ^ 8 := (show ∀ n : Nat, n ≤ 8 → (256 : Int) ^ n ≤ 256 ^ 8 by decide) _ h
  simpa using h8
/-- One byte more is put ahead of those that are there. -/
theorem put_step (xs : List Int) (m j : Nat) (n : Int) (hj : j < m) (q : Nat) (hq : q = xs.length + (m - 1 - j)) :
    (xs ++ List.replicate (m - j) 0 ++ be j n).set q (n / 256 ^ j % 256) = xs ++ List.replicate (m - (j + 1)) 0 ++ be (j + 1) n := by
  subst hq
  rw [be_cons, List.append_assoc, List.set_append_right _ _ (by omega), Nat.add_sub_cancel_left]
  have e : List.replicate (m - j) (0 : Int) = List.replicate (m - (j + 1)) 0 ++ [0] := by
    rw [show m - j = (m - (j + 1)) + 1 by omega, List.replicate_succ']
  rw [e]
  rw [List.append_assoc, List.append_assoc, List.set_append_right _ _ (by simp; omega)]
  simp [show m - 1 - j - (m - (j + 1)) = 0 by omega]
/-- How many bytes a number has. -/
def width (w : Int) : Nat := (max 1 (min w 8)).toNat
theorem width_bd (w : Int) : 1 ≤ width w ∧ width w ≤ 8 := by unfold width; omega
end Go.Proofs.YthnennleblgjeaaDoor
namespace Go.Proofs.YthnennleblgjeaaDoor
set_option linter.unusedVariables false
set_option linter.unusedSimpArgs false
open Go.ChangeShapes Go.WideShapes Go.ChangeAt Go.RowKit
set_option linter.unusedVariables false

/-- A slice of slices of bytes that is read. -/
def BSS (w : World) (A : Option Addr) (c : Nat) (ls : List (List Int)) : Prop :=
  ∃ us : List Value, us.length = ls.length ∧ Src w A c us ∧ ∀ (i : Nat) (u : Value) (l : List Int), us[i]? = some u → ls[i]? = some l → ∃ A' c', u = Value.slice A' l.length c' ∧ BS w A' c' l
theorem BSS.fine {w w' : World} {A : Option Addr} {c : Nat} {ls : List (List Int)} (h : BSS w A c ls) (hf : Fine w w') : BSS w' A c ls := by
  obtain ⟨us, h1, h2, h3⟩ := h
  refine ⟨us, h1, h2.fine hf, fun i u l hu hl => ?_⟩
  obtain ⟨A', c', e, hb⟩ := h3 i u l hu hl
  exact ⟨A', c', e, hb.fine hf⟩
theorem BSS.at_ {w : World} {A : Option Addr} {c : Nat} {ls : List (List Int)} (h : BSS w A c ls) {k : Nat} (hk : k < ls.length) :
    ∃ b off A' c' l, Hid (ls.getD k [] = l) ∧ A = some ⟨b, off, none⟩ ∧ b < w.heap.size ∧ w.cell? ⟨b, off + k, none⟩ = some (.slice A' l.length c') ∧ BS w A' c' l := by
  obtain ⟨us, h1, h2, h3⟩ := h
  obtain ⟨b, off, e, hb, hc⟩ := h2.2.2.2 (by omega)
  have hu : us[k]? = some (us[k]'(by omega)) := List.getElem?_eq_getElem (by omega)
  have hl : ls[k]? = some (ls.getD k []) := by simp [List.getD, List.getElem?_eq_getElem hk]
  obtain ⟨A', c', e', hb'⟩ := h3 k _ _ hu hl
  exact ⟨b, off, A', c', _, rfl, e, hb, by rw [hc k _ hu, e'], hb'⟩

theorem BSS.two {w : World} {g n1 n2 c1 c2 : Nat} {A1 A2 : Option Addr} {l1 l2 : List Int} (h : Blk w g 24 #[.slice A1 n1 c1, .slice A2 n2 c2]) (e1 : n1 = l1.length) (e2 : n2 = l2.length) (h1 : BS w A1 c1 l1) (h2 : BS w A2 c2 l2) :
    BSS w (some ⟨g, 0, none⟩) 2 [l1, l2] := by
  subst e1 e2
  refine ⟨[.slice A1 l1.length c1, .slice A2 l2.length c2], rfl, ⟨by simp, by unfold maxLen; omega, fun e => (by cases e), fun _ => ⟨g, 0, rfl, h.lt, fun i v hv => ?_⟩⟩, fun i u l hu hl' => ?_⟩
  · match i, hv with
    | 0, hv => simp at hv; subst hv; exact h.cell 0
    | 1, hv => simp at hv; subst hv; exact h.cell 1
  · match i, hu, hl' with
    | 0, hu, hl' => simp at hu hl'; subst hu hl'; exact ⟨A1, c1, rfl, h1⟩
    | 1, hu, hl' => simp at hu hl'; subst hu hl'; exact ⟨A2, c2, rfl, h2⟩

theorem width_any (x : Int) (w : World) : Calls Tryd.prog 54 #[.int .i64 x] w fun e w' => e = .returned (.int .i64 (width x)) ∧ Fine w w' := by
  go_enter Tryd.func54, Tryd.ntmps54
  go_wp2
  all_goals
    go_ret
    exact ⟨ret_int (by unfold width; omega), (by repeat (first | exact Fine.refl _ | assumption | refine Fine.alloc ?_ _ | refine Fine.drew ?_ | refine Fine.drewN ?_ _ | refine Fine.trans ?_ (by assumption) | (refine Fine.kept ?_ (by assumption) (by intro x hx; first | omega | (simp; omega))) | (refine Fine.setCell ?_ (by first | assumption | (simp; omega)) _)))⟩

theorem flatten_take (ls : List (List Int)) (k : Nat) (hk : k < ls.length) : (ls.take (k + 1)).flatten = (ls.take k).flatten ++ ls.getD k [] := by
  rw [List.take_succ_eq_append_getElem hk, List.flatten_append]
  simp [List.getD, hk]
theorem flatten_take_le (ls : List (List Int)) (k : Nat) : (ls.take k).flatten.length ≤ ls.flatten.length := by
  have e : ls.flatten = (ls.take k).flatten ++ (ls.drop k).flatten := by rw [← List.flatten_append, List.take_append_drop]
  rw [e, List.length_append]; omega

theorem join_any (A : Option Addr) (n c : Nat) (ls : List (List Int)) (w : World) (h : BSS w A c ls) (hn : n = ls.length) (hs : ls.flatten.length ≤ 1000000000) (hl : ls.length ≤ 1000000000) :
    Calls Tryd.prog 37 #[.slice A n c] w fun e w' => ∃ v, e = .returned v ∧ OwnB w' w.heap.size v ls.flatten ∧ Fine w w' := by
  subst hn
  go_enter Tryd.func37, Tryd.ntmps37
  go_wp2
  go_loopw [8, 3] (fun i v wr => ∃ k : Nat, k ≤ ls.length ∧ i = .int .i64 k ∧ OwnB wr w.heap.size v (ls.take k).flatten ∧ Fine w wr) (fun i _ _ => ls.length - (intOf i).toNat)
  case atStart => exact ⟨0, Nat.zero_le _, rfl, by simpa using OwnB.nil_ w w.heap.size, (by repeat (first | exact Fine.refl _ | assumption | refine Fine.alloc ?_ _ | refine Fine.drew ?_ | refine Fine.drewN ?_ _ | refine Fine.trans ?_ (by assumption) | (refine Fine.kept ?_ (by assumption) (by intro x hx; first | omega | (simp; omega))) | (refine Fine.setCell ?_ (by first | assumption | (simp; omega)) _)))⟩
  case round =>
    obtain ⟨k, hk, rfl, hown, hf⟩ := hrel
    by_cases hlt : k < ls.length
    · obtain ⟨b, off, A', c', l, HL, rfl, hb, hck, hbs⟩ := (h.fine hf).at_ hlt
      have hle := flatten_take_le ls (k + 1)
      have hfl := flatten_take ls k hlt
      rw [HL.out] at hfl
      rw [hfl, List.length_append] at hle
      have HFL := Lib.hid hfl; clear hfl h
      go_wp2_with (at_builtin; refine wpList_appB rfl (.tmp 12) (.tmp 13) rfl w.heap.size _ _ rfl hown A' _ c' _ rfl rfl hbs (by omega) hf.size ?_; intro v' w1 hown1 _ hg1 _)
      have hf1 : Fine w w1 := hf.grown hg1 (fun k hk => (hown.lt k hk).1)
      go_roundw
      case rel => exact ⟨k + 1, by omega, by go_num, by rw [HFL.out]; exact hown1, hf1⟩
      case measure => simp [intOf]; omega
    · have e : k = ls.length := by omega
      subst e
      rw [List.take_length] at hown
      go_wp2
      go_ret
      exact ⟨_, rfl, hown, hf⟩

/-- 'Join' of one. -/
theorem join_one (g : Nat) (A : Option Addr) (m c : Nat) (xs : List Int) (w : World) (hc : w.cell? ⟨g, 0, none⟩ = some (.slice A m c)) (hm : m = xs.length) (h : BS w A c xs) (hl : xs.length ≤ 100000000) :
    Calls Tryd.prog 37 #[.slice (some ⟨g, 0, none⟩) 1 1] w fun e w' => ∃ v, e = .returned v ∧ OwnB w' w.heap.size v xs ∧ Fine w w' := by
  subst hm
  have e : [xs].flatten = xs := by simp
  have hb : BSS w (some ⟨g, 0, none⟩) 1 [xs] := ⟨[.slice A xs.length c], rfl, ⟨by simp, by unfold maxLen; omega, fun e => (by cases e), fun _ => ⟨g, 0, rfl, lt_of_cellN hc, fun i v hv => (by
      match i, hv with
      | 0, hv => simp at hv; subst hv; exact hc)⟩⟩, fun i u l hu hl' => (by
      match i, hu, hl' with
      | 0, hu, hl' => simp at hu hl'; subst hu hl'; exact ⟨A, c, rfl, h⟩)⟩
  have := join_any (some ⟨g, 0, none⟩) 1 1 [xs] w hb rfl (by rw [e]; omega) (by simp)
  rwa [e] at this

set_option maxHeartbeats 1000000 in
/-- 'Cut' at a place that may be. -/
theorem cut_any (A : Option Addr) (c : Nat) (xs : List Int) (n : Nat) (hn : n ≤ xs.length) (hl : xs.length ≤ 100000000) (w : World) (h : BS w A c xs) :
    Calls Tryd.prog 44 #[.slice A xs.length c, .int .i64 n] w fun e w' => ∃ u v, e = .returned (.tuple #[u, v, .int .i64 0]) ∧ OwnB w' w.heap.size u (xs.take n) ∧ OwnB w' w.heap.size v (xs.drop n) ∧ Fine w w' := by
  have R1 := h.run_front n hn
  obtain ⟨A', R2, B2⟩ := h.run_behind n hn
  have H := Lib.hid h; clear h
  have HB2 := Lib.hid B2; clear B2
  go_enter Tryd.func44, Tryd.ntmps44
  go_wp2
  go_region_with (first
    | (go_at_call 37
       have tok := o1
       clear tok
       refine (join_one _ A' (xs.length - n) (c - n) (xs.drop n) _ ?_ ?_ ?_ ?_).mono ?_
       · exact Blk.cell1 (t := 24) (by repeat (first | assumption | (with_reducible refine Blk.newAt ?_; first | rfl | (simp; done)) | (with_reducible refine Blk.drew ?_) | (with_reducible refine Blk.alloc ?_ _) | (refine Blk.fine ?_ (by assumption))))
       · simp
       · exact HB2.out _ (H.out.fine (by repeat (first | exact Fine.refl _ | assumption | refine Fine.alloc ?_ _ | refine Fine.drew ?_ | refine Fine.drewN ?_ _ | refine Fine.trans ?_ (by assumption) | (refine Fine.kept ?_ (by assumption) (by intro x hx; first | omega | (simp; omega))) | (refine Fine.setCell ?_ (by first | assumption | (simp; omega)) _))))
       · simp; omega
       rintro e w2 ⟨v, rfl, o2, f2⟩)
    | (go_at_call 37
       refine (join_one _ A n c (xs.take n) _ ?_ ?_ ?_ ?_).mono ?_
       · exact Blk.cell1 (t := 24) (by repeat (first | assumption | (with_reducible refine Blk.newAt ?_; first | rfl | (simp; done)) | (with_reducible refine Blk.drew ?_) | (with_reducible refine Blk.alloc ?_ _) | (refine Blk.fine ?_ (by assumption))))
       · simp; omega
       · exact (H.out.front n hn).fine (by repeat (first | exact Fine.refl _ | assumption | refine Fine.alloc ?_ _ | refine Fine.drew ?_ | refine Fine.drewN ?_ _ | refine Fine.trans ?_ (by assumption) | (refine Fine.kept ?_ (by assumption) (by intro x hx; first | omega | (simp; omega))) | (refine Fine.setCell ?_ (by first | assumption | (simp; omega)) _)))
       · simp; omega
       rintro e w1 ⟨u, rfl, o1, f1⟩))
  all_goals
    go_wp2
    go_ret3
    exact ⟨_, _, rfl, (o1.fine (by repeat (first | exact Fine.refl _ | assumption | refine Fine.alloc ?_ _ | refine Fine.drew ?_ | refine Fine.drewN ?_ _ | refine Fine.trans ?_ (by assumption) | (refine Fine.kept ?_ (by assumption) (by intro x hx; first | omega | (simp; omega))) | (refine Fine.setCell ?_ (by first | assumption | (simp; omega)) _)))).lower (by simp <;> omega), o2.lower (by have := f1.size; simp at *; omega), (by repeat (first | exact Fine.refl _ | assumption | refine Fine.alloc ?_ _ | refine Fine.drew ?_ | refine Fine.drewN ?_ _ | refine Fine.trans ?_ (by assumption) | (refine Fine.kept ?_ (by assumption) (by intro x hx; first | omega | (simp; omega))) | (refine Fine.setCell ?_ (by first | assumption | (simp; omega)) _)))⟩

theorem cut_neg (A : Option Addr) (m c : Nat) (n : Int) (hn : n < 0) (w : World) :
    Calls Tryd.prog 44 #[.slice A m c, .int .i64 n] w fun e w' => e = .returned (.tuple #[.slice none 0 0, .slice none 0 0, .int .i64 1]) ∧ Fine w w' := by
  go_enter Tryd.func44, Tryd.ntmps44
  go_wp2
  go_ret3
  exact ⟨rfl, (by repeat (first | exact Fine.refl _ | assumption | refine Fine.alloc ?_ _ | refine Fine.drew ?_ | refine Fine.drewN ?_ _ | refine Fine.trans ?_ (by assumption) | (refine Fine.kept ?_ (by assumption) (by intro x hx; first | omega | (simp; omega))) | (refine Fine.setCell ?_ (by first | assumption | (simp; omega)) _)))⟩
theorem cut_over (A : Option Addr) (m c : Nat) (n : Int) (hn : (m : Int) < n) (w : World) :
    Calls Tryd.prog 44 #[.slice A m c, .int .i64 n] w fun e w' => e = .returned (.tuple #[.slice none 0 0, .slice none 0 0, .int .i64 3]) ∧ Fine w w' := by
  have h0 : 0 ≤ n := by omega
  go_enter Tryd.func44, Tryd.ntmps44
  go_wp2
  go_ret3
  exact ⟨rfl, (by repeat (first | exact Fine.refl _ | assumption | refine Fine.alloc ?_ _ | refine Fine.drew ?_ | refine Fine.drewN ?_ _ | refine Fine.trans ?_ (by assumption) | (refine Fine.kept ?_ (by assumption) (by intro x hx; first | omega | (simp; omega))) | (refine Fine.setCell ?_ (by first | assumption | (simp; omega)) _)))⟩

end Go.Proofs.YthnennleblgjeaaDoor
namespace Go.Proofs.YthnennleblgjeaaDoor
set_option linter.unusedVariables false
set_option linter.unusedSimpArgs false
open Go.ChangeShapes Go.WideShapes Go.ChangeAt Go.RowKit
set_option linter.unusedVariables false

theorem num_take (l : List Int) (k : Nat) (hk : k < l.length) : num (l.take (k + 1)) = 256 * num (l.take k) + l.getD k 0 := by
  rw [List.take_succ_eq_append_getElem hk, num_snoc]
  simp [List.getD, hk]

theorem or_byte (N z : Int) (h0 : 0 ≤ N) (h1 : N < 72057594037927936) (hz : 0 ≤ z ∧ z ≤ 255) : bits .or .u64 (IntKind.u64.wrap (N * 256)) z = 256 * N + z := by
  have e : IntKind.u64.wrap (N * 256) = N * 256 := by rw [IntKind.wrap_u64]; omega
  rw [e, u64_or _ _ (by omega) (by omega) hz.1 (by omega), nat_join 8 _ _ (by omega) (by omega)]
  omega

/-- A number's bytes, shifted in one by one. -/
theorem take_any (A : Option Addr) (c : Nat) (xs : List Int) (x : Int) (hn : width x ≤ xs.length) (hl : xs.length ≤ 100000000) (w : World) (h : BS w A c xs) :
    Calls Tryd.prog 62 #[.slice A xs.length c, .int .i64 x] w fun e w' => ∃ v, e = .returned (.tuple #[.int .u64 (num (xs.take (width x))), v, .int .i64 0]) ∧ OwnB w' w.heap.size v (xs.drop (width x)) ∧ Fine w w' := by
  have hw := width_bd x
  obtain ⟨n, hn'⟩ : ∃ n, width x = n := ⟨_, rfl⟩
  rw [hn'] at hn hw
  have HN := Lib.hid hn'
  have HW := Lib.hid (fun w => hn' ▸ width_any x w)
  rw [hn']
  clear hn'
  have H := Lib.hid h; clear h
  go_enter Tryd.func62, Tryd.ntmps62
  go_wp2_with fail
  refine (HW.out _).mono ?_; rintro e w1 ⟨rfl, f1⟩
  go_wp2_with fail
  refine (cut_any A c xs n hn hl _ (H.out.fine f1)).mono ?_; rintro e w2 ⟨u, v, rfl, o1, o2, f2⟩
  obtain ⟨A1, c1, rfl, b1, _⟩ := o1.form
  have hlen : (xs.take n).length = n := by simp; omega
  rw [hlen]
  go_wp2
  have hnb := num_lt (xs.take n) (by omega) (H.out.1.take n)
  go_loopw [10, 23] (fun v i wr => ∃ k : Nat, k ≤ n ∧ i = .int .i64 k ∧ v = .int .u64 (num (xs.take k)) ∧ Fine w2 wr) (fun _ i _ => n - (intOf i).toNat)
  case atStart => exact ⟨0, Nat.zero_le _, rfl, rfl, (by repeat (first | exact Fine.refl _ | assumption | refine Fine.alloc ?_ _ | refine Fine.drew ?_ | refine Fine.drewN ?_ _ | refine Fine.trans ?_ (by assumption) | (refine Fine.kept ?_ (by assumption) (by intro x hx; first | omega | (simp; omega))) | (refine Fine.setCell ?_ (by first | assumption | (simp; omega)) _)))⟩
  case round =>
    obtain ⟨k, hk, rfl, rfl, hf⟩ := hrel
    by_cases hlt : k < n
    · obtain ⟨b, off, rfl, hb, hc⟩ := (b1.fine hf).at_ (k := k) (by omega)
      have hcb := b1.1.getD k
      obtain ⟨z, hz⟩ : ∃ z, (xs.take n).getD k 0 = z := ⟨_, rfl⟩
      have hz' : xs.getD k 0 = z := by rw [← hz]; simp [List.getD, hlt]
      rw [hz] at hc hcb
      have HNT := Lib.hid (num_take xs k (by omega))
      rw [hz'] at HNT
      obtain ⟨N, hN⟩ : ∃ N, num (xs.take k) = N := ⟨_, rfl⟩
      have hNb := num_bd k (xs.take k) (by simp; omega) (H.out.1.take k)
      rw [hN] at hNb HNT ⊢
      clear hz hz' hN
      go_wp2
      have hN7 : N < 72057594037927936 := Int.lt_of_lt_of_le hNb.2 ((show ∀ k : Nat, k ≤ 7 → (256 : Int) ^ k ≤ 72057594037927936 by decide) k (by omega))
      go_roundw
      case rel => exact ⟨k + 1, by omega, by go_num, by rw [HNT.out, or_byte N z hNb.1 hN7 hcb], hf⟩
      case measure => simp [intOf]; omega
    · have e : k = n := by omega
      subst e
      go_wp2
      go_ret3
      exact ⟨_, rfl, (o2.fine hf).lower f1.size, (by repeat (first | exact Fine.refl _ | assumption | refine Fine.alloc ?_ _ | refine Fine.drew ?_ | refine Fine.drewN ?_ _ | refine Fine.trans ?_ (by assumption) | (refine Fine.kept ?_ (by assumption) (by intro x hx; first | omega | (simp; omega))) | (refine Fine.setCell ?_ (by first | assumption | (simp; omega)) _)))⟩

/-- Bytes are missing. -/
theorem take_short (A : Option Addr) (c m : Nat) (x : Int) (hn : m < width x) (w : World) :
    Calls Tryd.prog 62 #[.slice A m c, .int .i64 x] w fun e w' => e = .returned (.tuple #[.int .u64 0, .slice none 0 0, .int .i64 3]) ∧ Fine w w' := by
  have HW := Lib.hid (fun w => width_any x w)
  go_enter Tryd.func62, Tryd.ntmps62
  go_wp2_with fail
  refine (HW.out _).mono ?_; rintro e w1 ⟨rfl, f1⟩
  go_wp2_with fail
  refine (cut_over A m c _ (by omega) _).mono ?_; rintro e w2 ⟨rfl, f2⟩
  go_wp2
  refine wp_loop_rounds 1 ?_
  rw [rounds_succ]
  go_wp2
  go_ret3
  exact ⟨rfl, (by repeat (first | exact Fine.refl _ | assumption | refine Fine.alloc ?_ _ | refine Fine.drew ?_ | refine Fine.drewN ?_ _ | refine Fine.trans ?_ (by assumption) | (refine Fine.kept ?_ (by assumption) (by intro x hx; first | omega | (simp; omega))) | (refine Fine.setCell ?_ (by first | assumption | (simp; omega)) _)))⟩
end Go.Proofs.YthnennleblgjeaaDoor
namespace Go.Proofs.YthnennleblgjeaaDoor
set_option linter.unusedVariables false
set_option linter.unusedSimpArgs false
open Go.ChangeShapes Go.WideShapes Go.ChangeAt Go.RowKit
set_option linter.unusedVariables false

theorem rwidth_any (x : Int) (w : World) : Calls Tryd.prog 74 #[.int .i64 x] w fun e w' => e = .returned (.int .i64 (width x)) ∧ Fine w w' := by
  go_enter Tryd.func74, Tryd.ntmps74
  go_wp2
  all_goals
    go_ret
    exact ⟨ret_int (by unfold width; omega), (by repeat (first | exact Fine.refl _ | assumption | refine Fine.alloc ?_ _ | refine Fine.drew ?_ | refine Fine.drewN ?_ _ | refine Fine.trans ?_ (by assumption) | (refine Fine.kept ?_ (by assumption) (by intro x hx; first | omega | (simp; omega))) | (refine Fine.setCell ?_ (by first | assumption | (simp; omega)) _)))⟩

/-- 'Same' says whether the lists are one. -/
theorem same_q (A B : Option Addr) (c d : Nat) (xs ys : List Int) (w : World) (hx : BS w A c xs) (hy : BS w B d ys) (hl : xs.length ≤ 1000000000) :
    Calls Tryd.prog 22 #[.slice A xs.length c, .slice B ys.length d] w fun e w' => e = .returned (.bool (decide (xs = ys))) ∧ ∃ q, w' = w.drewN q := by
  by_cases hlen : xs.length = ys.length
  · have hlb : ((xs.length : Int) != (ys.length : Int)) = false := by simp [hlen]
    have HL := Lib.hid hlen
    have hle : xs.length ≤ ys.length ∧ ys.length ≤ xs.length := by omega
    clear hlen
    go_enter Tryd.func22, Tryd.ntmps22
    go_wp2
    go_loopw [5] (fun i wr => ∃ k : Nat, k ≤ xs.length ∧ i = .int .i64 k ∧ Hid (xs.take k = ys.take k) ∧ ∃ q, wr = w.drewN q) (fun i _ => xs.length - (intOf i).toNat)
    case atStart => exact ⟨0, Nat.zero_le _, rfl, rfl, 0, rfl⟩
    case round =>
      obtain ⟨k, hk, rfl, HT, q, rfl⟩ := hrel
      have hf : Fine w (w.drewN q) := (Fine.refl w).drewN q
      by_cases hlt : k < xs.length
      · obtain ⟨b1, o1, rfl, hb1, hc1⟩ := hx.at_ (k := k) hlt
        obtain ⟨b2, o2, rfl, hb2, hc2⟩ := hy.at_ (k := k) (by omega)
        obtain ⟨z1, hz1⟩ : ∃ z, xs.getD k 0 = z := ⟨_, rfl⟩
        obtain ⟨z2, hz2⟩ : ∃ z, ys.getD k 0 = z := ⟨_, rfl⟩
        rw [hz1] at hc1
        rw [hz2] at hc2
        have HZ1 := Lib.hid hz1; clear hz1
        have HZ2 := Lib.hid hz2; clear hz2
        have hlt2 : k < ys.length := by omega
        by_cases hz : z1 = z2
        · have hzb : (z1 != z2) = false := by simp [hz]
          have HZ := Lib.hid hz; clear hz
          go_wp2
          go_region
          go_wp2
          go_roundw
          case rel => exact ⟨k + 1, by omega, by go_num, by
            show _ = _
            rw [List.take_succ_eq_append_getElem hlt, List.take_succ_eq_append_getElem hlt2, HT.out]
            have e1 := HZ1.out
            have e2 := HZ2.out
            simp [List.getD, hlt, hlt2] at e1 e2
            rw [e1, e2, HZ.out], q + 1, rfl⟩
          case measure => simp [intOf]; omega
        · have hzb : (z1 != z2) = true := by simp [hz]
          have HZ := Lib.hid hz; clear hz
          go_wp2
          go_region
          go_wp2
          go_ret
          refine ⟨ret_bool ?_, q + 1, rfl⟩
          symm
          simp
          rintro rfl
          exact HZ.out (HZ1.out.symm.trans HZ2.out)
      · have e : k = xs.length := by omega
        subst e
        have hT := HT.out
        rw [List.take_length, List.take_of_length_le hle.2] at hT
        have HE := Lib.hid hT; clear hT
        go_wp2
        go_ret
        exact ⟨ret_bool (by simp [HE.out]), q, rfl⟩
  · have hlb : ((xs.length : Int) != (ys.length : Int)) = true := by simp; omega
    have hne : decide (xs = ys) = false := by simp; rintro rfl; exact hlen rfl
    have HN := Lib.hid hne
    clear hlen hne
    go_enter Tryd.func22, Tryd.ntmps22
    go_wp2
    go_ret
    exact ⟨ret_bool HN.out.symm, 0, rfl⟩
theorem same_any (A B : Option Addr) (c d : Nat) (xs ys : List Int) (w : World) (hx : BS w A c xs) (hy : BS w B d ys) (hl : xs.length ≤ 1000000000) :
    Calls Tryd.prog 22 #[.slice A xs.length c, .slice B ys.length d] w fun e w' => e = .returned (.bool (decide (xs = ys))) ∧ Fine w w' :=
  (same_q A B c d xs ys w hx hy hl).mono fun e w' ⟨he, q, hq⟩ => ⟨he, by rw [hq]; exact (Fine.refl w).drewN q⟩

theorem number_any (A : Option Addr) (c : Nat) (xs : List Int) (w : World) (hx : BS w A c xs) (hl : xs.length ≤ 8) :
    Calls Tryd.prog 71 #[.slice A xs.length c] w fun e w' => e = .returned (.int .u64 (num xs)) ∧ Fine w w' := by
  go_enter Tryd.func71, Tryd.ntmps71
  go_wp2
  go_loopw [3, 4] (fun v i wr => ∃ k : Nat, k ≤ xs.length ∧ i = .int .i64 k ∧ v = .int .u64 (num (xs.take k)) ∧ Fine w wr) (fun _ i _ => xs.length - (intOf i).toNat)
  case atStart => exact ⟨0, Nat.zero_le _, rfl, rfl, (by repeat (first | exact Fine.refl _ | assumption | refine Fine.alloc ?_ _ | refine Fine.drew ?_ | refine Fine.drewN ?_ _ | refine Fine.trans ?_ (by assumption) | (refine Fine.kept ?_ (by assumption) (by intro x hx; first | omega | (simp; omega))) | (refine Fine.setCell ?_ (by first | assumption | (simp; omega)) _)))⟩
  case round =>
    obtain ⟨k, hk, rfl, rfl, hf⟩ := hrel
    by_cases hlt : k < xs.length
    · obtain ⟨b, off, rfl, hb, hc⟩ := (hx.fine hf).at_ (k := k) hlt
      have hcb := hx.1.getD k
      obtain ⟨z, hz⟩ : ∃ z, xs.getD k 0 = z := ⟨_, rfl⟩
      rw [hz] at hc hcb
      have HNT := Lib.hid (num_take xs k (by omega))
      rw [hz] at HNT
      obtain ⟨N, hN⟩ : ∃ N, num (xs.take k) = N := ⟨_, rfl⟩
      have hNb := num_bd k (xs.take k) (by simp; omega) (hx.1.take k)
      rw [hN] at hNb HNT ⊢
      clear hz hN
      have hN7 : N < 72057594037927936 := Int.lt_of_lt_of_le hNb.2 ((show ∀ k : Nat, k ≤ 7 → (256 : Int) ^ k ≤ 72057594037927936 by decide) k (by omega))
      have hN0 := hNb.1
      clear hNb
      go_wp2
      go_roundw
      case rel => exact ⟨k + 1, by omega, by go_num, by rw [HNT.out], hf⟩
      case measure => simp [intOf]; omega
    · have e : k = xs.length := by omega
      subst e
      have HT : Hid (num (xs.take xs.length) = num xs) := by show _ = _; rw [List.take_length]
      go_wp2
      go_ret
      exact ⟨ret_int (by rw [← HT.out]), hf⟩

theorem take_len_succ (l : List Int) (k : Nat) (hk : k < l.length) : l.take (k + 1) = l.take k ++ [l.getD k 0] := by
  rw [List.take_succ_eq_append_getElem hk]
  simp [List.getD, hk]

theorem bytes_any (n : Int) (hn : 0 ≤ n ∧ n < 18446744073709551616) (x : Int) (w : World) :
    Calls Tryd.prog 67 #[.int .u64 n, .int .i64 x] w fun e w' => ∃ v, e = .returned v ∧ OwnB w' w.heap.size v (be (width x) n) ∧ Fine w w' := by
  have hw := width_bd x
  obtain ⟨m, hm⟩ : ∃ m, width x = m := ⟨_, rfl⟩
  rw [hm] at hw
  have HW := Lib.hid (fun w => hm ▸ rwidth_any x w)
  rw [hm]
  clear hm
  have hn0 := hn.1
  have hn1 := hn.2
  clear hn
  have hlen := be_length m n
  have hbb := be_bytes m n
  obtain ⟨L, hL⟩ : ∃ L, be m n = L := ⟨_, rfl⟩
  have HG : Hid (∀ i, i < m → L.getD i 0 = n / 256 ^ (m - 1 - i) % 256) := by rw [← hL]; exact be_get m n
  rw [hL] at hlen hbb ⊢
  clear hL
  have HL := Lib.hid hlen
  have HBB := Lib.hid hbb; clear hbb
  have hle : L.length ≤ m ∧ m ≤ L.length := by omega
  clear hlen
  go_enter Tryd.func67, Tryd.ntmps67
  go_wp2_with fail
  refine (HW.out _).mono ?_; rintro e w1 ⟨rfl, f1⟩
  go_wp2
  go_loopw [6, 5] (fun i v wr => ∃ k : Nat, k ≤ m ∧ i = .int .i64 k ∧ OwnB wr w1.heap.size v (L.take k) ∧ Fine w1 wr) (fun i _ _ => m - (intOf i).toNat)
  case atStart => exact ⟨0, Nat.zero_le _, rfl, by simpa using OwnB.nil_ w1 w1.heap.size, (by repeat (first | exact Fine.refl _ | assumption | refine Fine.alloc ?_ _ | refine Fine.drew ?_ | refine Fine.drewN ?_ _ | refine Fine.trans ?_ (by assumption) | (refine Fine.kept ?_ (by assumption) (by intro x hx; first | omega | (simp; omega))) | (refine Fine.setCell ?_ (by first | assumption | (simp; omega)) _)))⟩
  case round =>
    obtain ⟨k, hk, rfl, hown, hf⟩ := hrel
    by_cases hlt : k < m
    · go_wp2
      go_loop [7, 8] (fun v q => ∃ j : Nat, k + 1 + j ≤ m ∧ q = .int .i64 ((k + 1 + j : Nat) : Int) ∧ v = .int .u64 (n / 256 ^ j)) (fun _ q => m - (intOf q).toNat)
      case atStart => exact ⟨0, by omega, by go_num, by simp⟩
      case round =>
        obtain ⟨j, hj, rfl, rfl⟩ := hrel
        have hdb := div_pow_bd n j hn0
        have HD := Lib.hid (div_pow_succ n j)
        obtain ⟨N, hN⟩ : ∃ N, n / 256 ^ j = N := ⟨_, rfl⟩
        have HNN := Lib.hid hN
        rw [hN] at hdb HD ⊢
        clear hN
        by_cases hlt2 : k + 1 + j < m
        · go_wp2
          go_round
          case rel => exact ⟨j + 1, by omega, by go_num, by rw [HD.out]⟩
          case measure => simp [intOf]; omega
        · have hj' : j = m - 1 - k := by omega
          have HE : Hid (L.getD k 0 = N % 256) := by show _ = _; rw [HG.out k hlt, ← hj', HNN.out]
          have hr : 0 ≤ N % 256 ∧ N % 256 ≤ 255 := by omega
          have hsz := hf.size
          have hlk : (L.take k).length ≤ 8 := by simp; omega
          go_wp2_with (at_builtin; refine wpList_appB rfl (.tmp 26) (.tmp 30) rfl w1.heap.size _ _ rfl (hown.alloc _) (some ⟨wr.heap.size, 0, none⟩) _ _ [N % 256] rfl rfl (BS.one hr _) (by simp; omega) (by simp; omega) ?_; intro v' w2 hown2 _ hg2 _)
          have hf2 : Fine w1 w2 := (hf.alloc _).grown hg2 (fun q hq => (hown.lt q hq).1)
          have hT : L.take (k + 1) = L.take k ++ [N % 256] := by rw [take_len_succ L k (by omega), HE.out]
          go_roundw
          case rel => exact ⟨k + 1, by omega, by go_num, by rw [hT]; exact hown2, hf2⟩
          case measure => simp [intOf]; omega
    · have e : k = m := by omega
      subst e
      have HT : Hid (L.take k = L) := by show _ = _; rw [List.take_of_length_le hle.1]
      go_wp2
      go_ret
      exact ⟨_, rfl, by rw [HT.out] at hown; exact hown.lower f1.size, (by repeat (first | exact Fine.refl _ | assumption | refine Fine.alloc ?_ _ | refine Fine.drew ?_ | refine Fine.drewN ?_ _ | refine Fine.trans ?_ (by assumption) | (refine Fine.kept ?_ (by assumption) (by intro x hx; first | omega | (simp; omega))) | (refine Fine.setCell ?_ (by first | assumption | (simp; omega)) _)))⟩
end Go.Proofs.YthnennleblgjeaaDoor
namespace Go.Proofs.YthnennleblgjeaaDoor
set_option linter.unusedVariables false
set_option linter.unusedSimpArgs false
open Go.ChangeShapes Go.WideShapes Go.ChangeAt Go.RowKit
set_option linter.unusedVariables false

theorem put_any (A : Option Addr) (c : Nat) (xs : List Int) (n : Int) (hn : 0 ≤ n ∧ n < 18446744073709551616) (x : Int) (w : World) (hx : BS w A c xs) (hl : xs.length ≤ 100000000) :
    Calls Tryd.prog 34 #[.slice A xs.length c, .int .u64 n, .int .i64 x] w fun e w' => ∃ v, e = .returned v ∧ OwnB w' w.heap.size v (xs ++ be (width x) n) ∧ Fine w w' := by
  have hw := width_bd x
  obtain ⟨m, hm⟩ : ∃ m, width x = m := ⟨_, rfl⟩
  rw [hm] at hw
  have HW := Lib.hid (fun w => hm ▸ width_any x w)
  rw [hm]
  clear hm
  have hn0 := hn.1
  have hn1 := hn.2
  clear hn
  have HX := Lib.hid hx; clear hx
  go_enter Tryd.func34, Tryd.ntmps34
  go_wp2_with fail
  refine (HW.out _).mono ?_; rintro e w1 ⟨rfl, f1⟩
  have hz1 := f1.size
  have HX1 := Lib.hid (HX.out.fine f1)
  go_wp2_with (first
    | (at_make; refine wpList_makeB rfl (.tmp 14) (.tmp 14) rfl (xs.length + m) _ _ rfl rfl (by omega) (by omega) (by omega) ?_; intro w2 hrow2 f2; have HR2 := Lib.hid hrow2; clear hrow2)
    | (refine wpList_copyB (o := ⟨some 18, _, _, _, _, _⟩) rfl (.tmp 16) (.tmp 17) rfl w1.heap.size _ HR2.out _ _ rfl (by simp) _ _ _ xs rfl rfl (HX1.out.fine f2) (by simp) ?_; intro w3 hrow3 k3; have HR3 := Lib.hid hrow3; clear hrow3))
  have hz2 := f2.size
  have hf3 : Fine w1 w3 := f2.kept k3 (by intro x hx; omega)
  have HR4 : Hid (Row w3 w1.heap.size (xs ++ List.replicate (m - 0) 0 ++ be 0 n)) := by
    have h := HR3.out
    rw [List.drop_replicate, show xs.length + m - xs.length = m by omega] at h
    show Row _ _ _
    simpa [be] using h
  have HS : Hid (∀ (j q : Nat), j < m → q = xs.length + (m - 1 - j) → (xs ++ List.replicate (m - j) 0 ++ be j n).set q (n / 256 ^ j % 256) = xs ++ List.replicate (m - (j + 1)) 0 ++ be (j + 1) n) := fun j q hj hq => put_step xs m j n hj q hq
  clear HR3
  go_loopw [8, 1] (fun q v wr => ∃ (j : Nat) (z : Int), j ≤ m ∧ z = (xs.length : Int) + m - 1 - j ∧ q = .int .i64 z ∧ v = .int .u64 (n / 256 ^ j) ∧ Hid (Row wr w1.heap.size (xs ++ List.replicate (m - j) 0 ++ be j n)) ∧ Fine w1 wr)
    (fun q _ _ => (intOf q + 1).toNat)
  case atStart => exact ⟨0, _, Nat.zero_le _, by omega, rfl, by simp, HR4, hf3⟩
  case round =>
    obtain ⟨j, z, hj, hz, rfl, rfl, HR, hf⟩ := hrel
    have hdb := div_pow_bd n j hn0
    have HD := Lib.hid (div_pow_succ n j)
    obtain ⟨N, hN⟩ : ∃ N, n / 256 ^ j = N := ⟨_, rfl⟩
    have HNN := Lib.hid hN
    rw [hN] at hdb HD ⊢
    clear hN
    by_cases hlt : j < m
    · obtain ⟨q, rfl⟩ : ∃ q : Nat, z = q := ⟨z.toNat, by omega⟩
      have hq : q = xs.length + (m - 1 - j) := by omega
      have hq1 : xs.length ≤ q ∧ q < xs.length + m := by omega
      have hlen : (xs ++ List.replicate (m - j) 0 ++ be j n).length = xs.length + m := by simp [be_length]; omega
      have hcell := HR.out.cell (q := q) (by omega)
      have hfro : wr.frozen? ⟨w1.heap.size, q, none⟩ = false := HR.out.2.frozen q
      obtain ⟨y, hy⟩ : ∃ y, (xs ++ List.replicate (m - j) 0 ++ be j n).getD q 0 = y := ⟨_, rfl⟩
      rw [hy] at hcell
      have hr : 0 ≤ N % 256 ∧ N % 256 ≤ 255 := by omega
      have hset := HS.out j q hlt hq
      rw [HNN.out] at hset
      have HSET := Lib.hid hset
      clear hset hy hlen
      have HQ := Lib.hid hq
      have HZ := Lib.hid hz
      clear hq hz
      have hsz := hf.size
      go_wp2
      go_roundw
      case rel => exact ⟨j + 1, (q : Int) - 1, by omega, by have := HZ.out; omega, rfl, by rw [HD.out], by have := HR.out.set_ q hr; rw [HSET.out] at this; exact this, hf.setCell (by simp) _⟩
      case measure => simp [intOf] <;> omega
    · have e : j = m := by omega
      subst e
      have hz' : z < xs.length := by omega
      have HZ := Lib.hid hz; clear hz
      have hR := HR.out
      rw [Nat.sub_self, List.replicate_zero, List.append_nil] at hR
      have hlen : (xs ++ be j n).length = xs.length + j := by simp [be_length]
      have hO := hR.own (base := w.heap.size) hz1 (by rw [hlen]; unfold maxLen; omega)
      rw [hlen] at hO
      have HO := Lib.hid hO
      clear hO hR hlen
      go_wp2
      go_ret
      exact ⟨_, rfl, HO.out, f1.trans hf⟩

/-- 'string(b)'. -/
def strOf (l : List Int) : ByteArray := ⟨(l.map fun n => UInt8.ofNat n.toNat).toArray⟩
theorem strOf_inj {a b : List Int} (ha : Bytes a) (hb : Bytes b) (h : strOf a = strOf b) : a = b := by
  have h1 : a.map (fun n => UInt8.ofNat n.toNat) = b.map fun n => UInt8.ofNat n.toNat := by
    injection h with h
    simpa using h
  have back : ∀ l : List Int, Bytes l → (l.map (fun n => UInt8.ofNat n.toNat)).map (fun u => (u.toNat : Int)) = l := by
    intro l hl
    rw [List.map_map]
    conv => rhs; rw [← List.map_id l]
    apply List.map_congr_left
    intro x hx
    have := hl x hx
    simp
    omega
  rw [← back a ha, ← back b hb, h1]
theorem foldl_push : ∀ (l : List Int) (r : ByteArray), l.foldl (fun r n => r.push (UInt8.ofNat n.toNat)) r = ⟨r.data ++ (l.map fun n => UInt8.ofNat n.toNat).toArray⟩
  | [], r => by simp
  | b :: l, r => by
    simp only [List.foldl_cons]
    rw [foldl_push l]
    simp [ByteArray.push]
theorem run_str (A : Option Addr) (c : Nat) (xs : List Int) (w : World) (h : BS w A c xs) : (convert 24 9 (.slice A xs.length c)).run Tryd.prog w = .ok (.string (strOf xs)) w := by
  rw [run_convert_bytes_string w 24 9 5 A xs.length c Tryd.underlying24 Tryd.underlying5 Tryd.underlying9]
  cases A with
  | none =>
    have h0 : c = 0 := h.2.2.2.1 rfl
    have hx : xs = [] := List.eq_nil_of_length_eq_zero (by have := h.le; omega)
    subst hx
    rfl
  | some ad =>
    have hl := run_loadCells_list (P := Tryd.prog) w ad (cellB xs) (fun j v hj => by
      have hp : 0 < (cellB xs).length := by have := (List.getElem?_eq_some_iff.1 hj).1; omega
      obtain ⟨b, off, e, _, hc⟩ := h.2.2.2.2 hp
      injection e with e
      subst e
      rw [Go.WideShapes.add_plain]
      exact hc j v hj)
    rw [cellB_length] at hl
    rw [run_bytesToString w ad xs.length c xs hl, foldl_push]
    simp [strOf]

theorem osame_q (A B : Option Addr) (c d : Nat) (xs ys : List Int) (w : World) (hx : BS w A c xs) (hy : BS w B d ys) :
    Calls Tryd.prog 40 #[.slice A xs.length c, .slice B ys.length d] w fun e w' => e = .returned (.bool (decide (xs = ys))) ∧ w' = w := by
  have r1 := run_str A c xs w hx
  have r2 := run_str B d ys w hy
  obtain ⟨s1, h1⟩ : ∃ s, strOf xs = s := ⟨_, rfl⟩
  obtain ⟨s2, h2⟩ : ∃ s, strOf ys = s := ⟨_, rfl⟩
  have hd : decide (xs = ys) = decide (s1 = s2) := by
    apply decide_eq_decide.2
    constructor
    · rintro rfl; rw [← h1, ← h2]
    · intro e; exact strOf_inj hx.1 hy.1 (by rw [h1, h2, e])
  rw [h1] at r1
  rw [h2] at r2
  rw [hd]
  clear h1 h2 hd
  go_enter Tryd.func40, Tryd.ntmps40
  go_wp2
  go_ret
  refine ⟨ret_bool ?_, rfl⟩
  rw [Go.ByteArray.toList_eq, Go.ByteArray.toList_eq, Bool.eq_iff_iff]
  simp
  constructor
  · intro h; cases s1; cases s2; simpa using h
  · rintro rfl; rfl

theorem osame_any (A B : Option Addr) (n m c d : Nat) (xs ys : List Int) (w : World) (hx : BS w A c xs) (hy : BS w B d ys) (hn : n = xs.length) (hm : m = ys.length) :
    Calls Tryd.prog 40 #[.slice A n c, .slice B m d] w fun e w' => e = .returned (.bool (decide (xs = ys))) ∧ Fine w w' := by
  subst hn hm
  exact (osame_q A B c d xs ys w hx hy).mono fun e w' ⟨he, hq⟩ => ⟨he, by rw [hq]; exact Fine.refl w⟩

/-! The contracts at lengths that are spelt otherwise. -/
theorem same_n (A B : Option Addr) (n m c d : Nat) (xs ys : List Int) (w : World) (hx : BS w A c xs) (hy : BS w B d ys) (hn : n = xs.length) (hm : m = ys.length) (hl : xs.length ≤ 1000000000) :
    Calls Tryd.prog 22 #[.slice A n c, .slice B m d] w fun e w' => e = .returned (.bool (decide (xs = ys))) ∧ Fine w w' := by
  subst hn hm
  exact same_any A B c d xs ys w hx hy hl
theorem put_n (A : Option Addr) (k c : Nat) (xs : List Int) (n : Int) (hn : 0 ≤ n ∧ n < 18446744073709551616) (x : Int) (w : World) (hx : BS w A c xs) (hk : k = xs.length) (hl : xs.length ≤ 100000000) :
    Calls Tryd.prog 34 #[.slice A k c, .int .u64 n, .int .i64 x] w fun e w' => ∃ v, e = .returned v ∧ OwnB w' w.heap.size v (xs ++ be (width x) n) ∧ Fine w w' := by
  subst hk
  exact put_any A c xs n hn x w hx hl
theorem take_n (A : Option Addr) (k c : Nat) (xs : List Int) (x : Int) (hn : width x ≤ xs.length) (hl : xs.length ≤ 100000000) (w : World) (h : BS w A c xs) (hk : k = xs.length) :
    Calls Tryd.prog 62 #[.slice A k c, .int .i64 x] w fun e w' => ∃ v, e = .returned (.tuple #[.int .u64 (num (xs.take (width x))), v, .int .i64 0]) ∧ OwnB w' w.heap.size v (xs.drop (width x)) ∧ Fine w w' := by
  subst hk
  exact take_any A c xs x hn hl w h
theorem cut_n (A : Option Addr) (k c : Nat) (xs : List Int) (n : Nat) (hn : n ≤ xs.length) (hl : xs.length ≤ 100000000) (w : World) (h : BS w A c xs) (hk : k = xs.length) :
    Calls Tryd.prog 44 #[.slice A k c, .int .i64 n] w fun e w' => ∃ u v, e = .returned (.tuple #[u, v, .int .i64 0]) ∧ OwnB w' w.heap.size u (xs.take n) ∧ OwnB w' w.heap.size v (xs.drop n) ∧ Fine w w' := by
  subst hk
  exact cut_any A c xs n hn hl w h
theorem number_n (A : Option Addr) (k c : Nat) (xs : List Int) (w : World) (hx : BS w A c xs) (hk : k = xs.length) (hl : xs.length ≤ 8) :
    Calls Tryd.prog 71 #[.slice A k c] w fun e w' => e = .returned (.int .u64 (num xs)) ∧ Fine w w' := by
  subst hk
  exact number_any A c xs w hx hl

end Go.Proofs.YthnennleblgjeaaDoor
