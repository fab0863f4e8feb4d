/- Contracts of package octet's functions, and of the reference's: numbers as bytes. -/
import Derived.Test.YthnennleblgjeaaDoorOct
import Derived.Laws.BitsAllLaws
import Derived.Laws.CopyOwn
namespace Go.Proofs.YthnennleblgjeaaDoor
open Go.ChangeShapes Go.WideShapes Go.ChangeAt Go.RowKit
set_option linter.unusedVariables false

theorem num_take (l : List Int) (k : Nat) (hk : k < l.length) : num (l.take (k + 1)) = 256 * num (l.take k) + l.getD k 0 := by
  rw [List.take_succ_eq_append_getElem hk, num_snoc]
  simp [List.getD, hk]

theorem or_byte (N z : Int) (h0 : 0 ≤ N) (h1 : N < 72057594037927936) (hz : 0 ≤ z ∧ z ≤ 255) : bits .or .u64 (IntKind.u64.wrap (N * 256)) z = 256 * N + z := by
  have e : IntKind.u64.wrap (N * 256) = N * 256 := by rw [IntKind.wrap_u64]; omega
  rw [e, u64_or _ _ (by omega) (by omega) hz.1 (by omega), nat_join 8 _ _ (by omega) (by omega)]
  omega

/-- A number's bytes, shifted in one by one. -/
theorem take_any (A : Option Addr) (c : Nat) (xs : List Int) (x : Int) (hn : width x ≤ xs.length) (hl : xs.length ≤ 100000000) (w : World) (h : BS w A c xs) :
    Calls Tryd.prog 62 #[.slice A xs.length c, .int .i64 x] w fun e w' => ∃ v, e = .returned (.tuple #[.int .u64 (num (xs.take (width x))), v, .int .i64 0]) ∧ OwnB w' w.heap.size v (xs.drop (width x)) ∧ Fine w w' := by
  have hw := width_bd x
  obtain ⟨n, hn'⟩ : ∃ n, width x = n := ⟨_, rfl⟩
  rw [hn'] at hn hw
  have HN := Lib.hid hn'
  have HW := Lib.hid (fun w => hn' ▸ width_any x w)
  rw [hn']
  clear hn'
  have H := Lib.hid h; clear h
  go_enter Tryd.func62, Tryd.ntmps62
  go_wp2_with fail
  refine (HW.out _).mono ?_; rintro e w1 ⟨rfl, f1⟩
  go_wp2_with fail
  refine (cut_any A c xs n hn hl _ (H.out.fine f1)).mono ?_; rintro e w2 ⟨u, v, rfl, o1, o2, f2⟩
  obtain ⟨A1, c1, rfl, b1, _⟩ := o1.form
  have hlen : (xs.take n).length = n := by simp; omega
  rw [hlen]
  go_wp2
  have hnb := num_lt (xs.take n) (by omega) (H.out.1.take n)
  go_loopw [10, 23] (fun v i wr => ∃ k : Nat, k ≤ n ∧ i = .int .i64 k ∧ v = .int .u64 (num (xs.take k)) ∧ Fine w2 wr) (fun _ i _ => n - (intOf i).toNat)
  case atStart => exact ⟨0, Nat.zero_le _, rfl, rfl, (by repeat (first | exact Fine.refl _ | assumption | refine Fine.alloc ?_ _ | refine Fine.drew ?_ | refine Fine.drewN ?_ _ | refine Fine.trans ?_ (by assumption) | (refine Fine.kept ?_ (by assumption) (by intro x hx; first | omega | (simp; omega))) | (refine Fine.setCell ?_ (by first | assumption | (simp; omega)) _)))⟩
  case round =>
    obtain ⟨k, hk, rfl, rfl, hf⟩ := hrel
    by_cases hlt : k < n
    · obtain ⟨b, off, rfl, hb, hc⟩ := (b1.fine hf).at_ (k := k) (by omega)
      have hcb := b1.1.getD k
      obtain ⟨z, hz⟩ : ∃ z, (xs.take n).getD k 0 = z := ⟨_, rfl⟩
      have hz' : xs.getD k 0 = z := by rw [← hz]; simp [List.getD, hlt]
      rw [hz] at hc hcb
      have HNT := Lib.hid (num_take xs k (by omega))
      rw [hz'] at HNT
      obtain ⟨N, hN⟩ : ∃ N, num (xs.take k) = N := ⟨_, rfl⟩
      have hNb := num_bd k (xs.take k) (by simp; omega) (H.out.1.take k)
      rw [hN] at hNb HNT ⊢
      clear hz hz' hN
      go_wp2
      have hN7 : N < 72057594037927936 := Int.lt_of_lt_of_le hNb.2 ((show ∀ k : Nat, k ≤ 7 → (256 : Int) ^ k ≤ 72057594037927936 by decide) k (by omega))
      go_roundw
      case rel => exact ⟨k + 1, by omega, by go_num, by rw [HNT.out, or_byte N z hNb.1 hN7 hcb], hf⟩
      case measure => simp [intOf]; omega
    · have e : k = n := by omega
      subst e
      go_wp2
      go_ret3
      exact ⟨_, rfl, (o2.fine hf).lower f1.size, (by repeat (first | exact Fine.refl _ | assumption | refine Fine.alloc ?_ _ | refine Fine.drew ?_ | refine Fine.drewN ?_ _ | refine Fine.trans ?_ (by assumption) | (refine Fine.kept ?_ (by assumption) (by intro x hx; first | omega | (simp; omega))) | (refine Fine.setCell ?_ (by first | assumption | (simp; omega)) _)))⟩

/-- Bytes are missing. -/
theorem take_short (A : Option Addr) (c m : Nat) (x : Int) (hn : m < width x) (w : World) :
    Calls Tryd.prog 62 #[.slice A m c, .int .i64 x] w fun e w' => e = .returned (.tuple #[.int .u64 0, .slice none 0 0, .int .i64 3]) ∧ Fine w w' := by
  have HW := Lib.hid (fun w => width_any x w)
  go_enter Tryd.func62, Tryd.ntmps62
  go_wp2_with fail
  refine (HW.out _).mono ?_; rintro e w1 ⟨rfl, f1⟩
  go_wp2_with fail
  refine (cut_over A m c _ (by omega) _).mono ?_; rintro e w2 ⟨rfl, f2⟩
  go_wp2
  refine wp_loop_rounds 1 ?_
  rw [rounds_succ]
  go_wp2
  go_ret3
  exact ⟨rfl, (by repeat (first | exact Fine.refl _ | assumption | refine Fine.alloc ?_ _ | refine Fine.drew ?_ | refine Fine.drewN ?_ _ | refine Fine.trans ?_ (by assumption) | (refine Fine.kept ?_ (by assumption) (by intro x hx; first | omega | (simp; omega))) | (refine Fine.setCell ?_ (by first | assumption | (simp; omega)) _)))⟩
end Go.Proofs.YthnennleblgjeaaDoor
