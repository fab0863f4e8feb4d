/- Contracts of octet.Put and octet.Same, and that the example of layer 1 holds. -/
import Derived.Test.YthnennleblgjeaaDoorOctRef
namespace Go.Proofs.YthnennleblgjeaaDoor
open Go.ChangeShapes Go.WideShapes Go.ChangeAt Go.RowKit
set_option linter.unusedVariables false

theorem put_any (A : Option Addr) (c : Nat) (xs : List Int) (n : Int) (hn : 0 ≤ n ∧ n < 18446744073709551616) (x : Int) (w : World) (hx : BS w A c xs) (hl : xs.length ≤ 100000000) :
    Calls Tryd.prog 34 #[.slice A xs.length c, .int .u64 n, .int .i64 x] w fun e w' => ∃ v, e = .returned v ∧ OwnB w' w.heap.size v (xs ++ be (width x) n) ∧ Fine w w' := by
  have hw := width_bd x
  obtain ⟨m, hm⟩ : ∃ m, width x = m := ⟨_, rfl⟩
  rw [hm] at hw
  have HW := Lib.hid (fun w => hm ▸ width_any x w)
  rw [hm]
  clear hm
  have hn0 := hn.1
  have hn1 := hn.2
  clear hn
  have HX := Lib.hid hx; clear hx
  go_enter Tryd.func34, Tryd.ntmps34
  go_wp2_with fail
  refine (HW.out _).mono ?_; rintro e w1 ⟨rfl, f1⟩
  have hz1 := f1.size
  have HX1 := Lib.hid (HX.out.fine f1)
  go_wp2_with (first
    | (at_make; refine wpList_makeB rfl (.tmp 14) (.tmp 14) rfl (xs.length + m) _ _ rfl rfl (by omega) (by omega) (by omega) ?_; intro w2 hrow2 f2; have HR2 := Lib.hid hrow2; clear hrow2)
    | (refine wpList_copyB (o := ⟨some 18, _, _, _, _, _⟩) rfl (.tmp 16) (.tmp 17) rfl w1.heap.size _ HR2.out _ _ rfl (by simp) _ _ _ xs rfl rfl (HX1.out.fine f2) (by simp) ?_; intro w3 hrow3 k3; have HR3 := Lib.hid hrow3; clear hrow3))
  have hz2 := f2.size
  have hf3 : Fine w1 w3 := f2.kept k3 (by intro x hx; omega)
  have HR4 : Hid (Row w3 w1.heap.size (xs ++ List.replicate (m - 0) 0 ++ be 0 n)) := by
    have h := HR3.out
    rw [List.drop_replicate, show xs.length + m - xs.length = m by omega] at h
    show Row _ _ _
    simpa [be] using h
  have HS : Hid (∀ (j q : Nat), j < m → q = xs.length + (m - 1 - j) → (xs ++ List.replicate (m - j) 0 ++ be j n).set q (n / 256 ^ j % 256) = xs ++ List.replicate (m - (j + 1)) 0 ++ be (j + 1) n) := fun j q hj hq => put_step xs m j n hj q hq
  clear HR3
  go_loopw [8, 1] (fun q v wr => ∃ (j : Nat) (z : Int), j ≤ m ∧ z = (xs.length : Int) + m - 1 - j ∧ q = .int .i64 z ∧ v = .int .u64 (n / 256 ^ j) ∧ Hid (Row wr w1.heap.size (xs ++ List.replicate (m - j) 0 ++ be j n)) ∧ Fine w1 wr)
    (fun q _ _ => (intOf q + 1).toNat)
  case atStart => exact ⟨0, _, Nat.zero_le _, by omega, rfl, by simp, HR4, hf3⟩
  case round =>
    obtain ⟨j, z, hj, hz, rfl, rfl, HR, hf⟩ := hrel
    have hdb := div_pow_bd n j hn0
    have HD := Lib.hid (div_pow_succ n j)
    obtain ⟨N, hN⟩ : ∃ N, n / 256 ^ j = N := ⟨_, rfl⟩
    have HNN := Lib.hid hN
    rw [hN] at hdb HD ⊢
    clear hN
    by_cases hlt : j < m
    · obtain ⟨q, rfl⟩ : ∃ q : Nat, z = q := ⟨z.toNat, by omega⟩
      have hq : q = xs.length + (m - 1 - j) := by omega
      have hq1 : xs.length ≤ q ∧ q < xs.length + m := by omega
      have hlen : (xs ++ List.replicate (m - j) 0 ++ be j n).length = xs.length + m := by simp [be_length]; omega
      have hcell := HR.out.cell (q := q) (by omega)
      have hfro : wr.frozen? ⟨w1.heap.size, q, none⟩ = false := HR.out.2.frozen q
      obtain ⟨y, hy⟩ : ∃ y, (xs ++ List.replicate (m - j) 0 ++ be j n).getD q 0 = y := ⟨_, rfl⟩
      rw [hy] at hcell
      have hr : 0 ≤ N % 256 ∧ N % 256 ≤ 255 := by omega
      have hset := HS.out j q hlt hq
      rw [HNN.out] at hset
      have HSET := Lib.hid hset
      clear hset hy hlen
      have HQ := Lib.hid hq
      have HZ := Lib.hid hz
      clear hq hz
      have hsz := hf.size
      go_wp2
      go_roundw
      case rel => exact ⟨j + 1, (q : Int) - 1, by omega, by have := HZ.out; omega, rfl, by rw [HD.out], by have := HR.out.set_ q hr; rw [HSET.out] at this; exact this, hf.setCell (by simp) _⟩
      case measure => simp [intOf] <;> omega
    · have e : j = m := by omega
      subst e
      have hz' : z < xs.length := by omega
      have HZ := Lib.hid hz; clear hz
      have hR := HR.out
      rw [Nat.sub_self, List.replicate_zero, List.append_nil] at hR
      have hlen : (xs ++ be j n).length = xs.length + j := by simp [be_length]
      have hO := hR.own (base := w.heap.size) hz1 (by rw [hlen]; unfold maxLen; omega)
      rw [hlen] at hO
      have HO := Lib.hid hO
      clear hO hR hlen
      go_wp2
      go_ret
      exact ⟨_, rfl, HO.out, f1.trans hf⟩

/-- 'string(b)'. -/
def strOf (l : List Int) : ByteArray := ⟨(l.map fun n => UInt8.ofNat n.toNat).toArray⟩
theorem strOf_inj {a b : List Int} (ha : Bytes a) (hb : Bytes b) (h : strOf a = strOf b) : a = b := by
  have h1 : a.map (fun n => UInt8.ofNat n.toNat) = b.map fun n => UInt8.ofNat n.toNat := by
    injection h with h
    simpa using h
  have back : ∀ l : List Int, Bytes l → (l.map (fun n => UInt8.ofNat n.toNat)).map (fun u => (u.toNat : Int)) = l := by
    intro l hl
    rw [List.map_map]
    conv => rhs; rw [← List.map_id l]
    apply List.map_congr_left
    intro x hx
    have := hl x hx
    simp
    omega
  rw [← back a ha, ← back b hb, h1]
theorem foldl_push : ∀ (l : List Int) (r : ByteArray), l.foldl (fun r n => r.push (UInt8.ofNat n.toNat)) r = ⟨r.data ++ (l.map fun n => UInt8.ofNat n.toNat).toArray⟩
  | [], r => by simp
  | b :: l, r => by
    simp only [List.foldl_cons]
    rw [foldl_push l]
    simp [ByteArray.push]
theorem run_str (A : Option Addr) (c : Nat) (xs : List Int) (w : World) (h : BS w A c xs) : (convert 24 9 (.slice A xs.length c)).run Tryd.prog w = .ok (.string (strOf xs)) w := by
  rw [run_convert_bytes_string w 24 9 5 A xs.length c Tryd.underlying24 Tryd.underlying5 Tryd.underlying9]
  cases A with
  | none =>
    have h0 : c = 0 := h.2.2.2.1 rfl
    have hx : xs = [] := List.eq_nil_of_length_eq_zero (by have := h.le; omega)
    subst hx
    rfl
  | some ad =>
    have hl := run_loadCells_list (P := Tryd.prog) w ad (cellB xs) (fun j v hj => by
      have hp : 0 < (cellB xs).length := by have := (List.getElem?_eq_some_iff.1 hj).1; omega
      obtain ⟨b, off, e, _, hc⟩ := h.2.2.2.2 hp
      injection e with e
      subst e
      rw [Go.WideShapes.add_plain]
      exact hc j v hj)
    rw [cellB_length] at hl
    rw [run_bytesToString w ad xs.length c xs hl, foldl_push]
    simp [strOf]

theorem osame_q (A B : Option Addr) (c d : Nat) (xs ys : List Int) (w : World) (hx : BS w A c xs) (hy : BS w B d ys) :
    Calls Tryd.prog 40 #[.slice A xs.length c, .slice B ys.length d] w fun e w' => e = .returned (.bool (decide (xs = ys))) ∧ w' = w := by
  have r1 := run_str A c xs w hx
  have r2 := run_str B d ys w hy
  obtain ⟨s1, h1⟩ : ∃ s, strOf xs = s := ⟨_, rfl⟩
  obtain ⟨s2, h2⟩ : ∃ s, strOf ys = s := ⟨_, rfl⟩
  have hd : decide (xs = ys) = decide (s1 = s2) := by
    apply decide_eq_decide.2
    constructor
    · rintro rfl; rw [← h1, ← h2]
    · intro e; exact strOf_inj hx.1 hy.1 (by rw [h1, h2, e])
  rw [h1] at r1
  rw [h2] at r2
  rw [hd]
  clear h1 h2 hd
  go_enter Tryd.func40, Tryd.ntmps40
  go_wp2
  go_ret
  refine ⟨ret_bool ?_, rfl⟩
  rw [Go.ByteArray.toList_eq, Go.ByteArray.toList_eq, Bool.eq_iff_iff]
  simp
  constructor
  · intro h; cases s1; cases s2; simpa using h
  · rintro rfl; rfl

theorem osame_any (A B : Option Addr) (n m c d : Nat) (xs ys : List Int) (w : World) (hx : BS w A c xs) (hy : BS w B d ys) (hn : n = xs.length) (hm : m = ys.length) :
    Calls Tryd.prog 40 #[.slice A n c, .slice B m d] w fun e w' => e = .returned (.bool (decide (xs = ys))) ∧ Fine w w' := by
  subst hn hm
  exact (osame_q A B c d xs ys w hx hy).mono fun e w' ⟨he, hq⟩ => ⟨he, by rw [hq]; exact Fine.refl w⟩

/-! The contracts at lengths that are spelt otherwise. -/
theorem same_n (A B : Option Addr) (n m c d : Nat) (xs ys : List Int) (w : World) (hx : BS w A c xs) (hy : BS w B d ys) (hn : n = xs.length) (hm : m = ys.length) (hl : xs.length ≤ 1000000000) :
    Calls Tryd.prog 22 #[.slice A n c, .slice B m d] w fun e w' => e = .returned (.bool (decide (xs = ys))) ∧ Fine w w' := by
  subst hn hm
  exact same_any A B c d xs ys w hx hy hl
theorem put_n (A : Option Addr) (k c : Nat) (xs : List Int) (n : Int) (hn : 0 ≤ n ∧ n < 18446744073709551616) (x : Int) (w : World) (hx : BS w A c xs) (hk : k = xs.length) (hl : xs.length ≤ 100000000) :
    Calls Tryd.prog 34 #[.slice A k c, .int .u64 n, .int .i64 x] w fun e w' => ∃ v, e = .returned v ∧ OwnB w' w.heap.size v (xs ++ be (width x) n) ∧ Fine w w' := by
  subst hk
  exact put_any A c xs n hn x w hx hl
theorem take_n (A : Option Addr) (k c : Nat) (xs : List Int) (x : Int) (hn : width x ≤ xs.length) (hl : xs.length ≤ 100000000) (w : World) (h : BS w A c xs) (hk : k = xs.length) :
    Calls Tryd.prog 62 #[.slice A k c, .int .i64 x] w fun e w' => ∃ v, e = .returned (.tuple #[.int .u64 (num (xs.take (width x))), v, .int .i64 0]) ∧ OwnB w' w.heap.size v (xs.drop (width x)) ∧ Fine w w' := by
  subst hk
  exact take_any A c xs x hn hl w h
theorem cut_n (A : Option Addr) (k c : Nat) (xs : List Int) (n : Nat) (hn : n ≤ xs.length) (hl : xs.length ≤ 100000000) (w : World) (h : BS w A c xs) (hk : k = xs.length) :
    Calls Tryd.prog 44 #[.slice A k c, .int .i64 n] w fun e w' => ∃ u v, e = .returned (.tuple #[u, v, .int .i64 0]) ∧ OwnB w' w.heap.size u (xs.take n) ∧ OwnB w' w.heap.size v (xs.drop n) ∧ Fine w w' := by
  subst hk
  exact cut_any A c xs n hn hl w h
theorem number_n (A : Option Addr) (k c : Nat) (xs : List Int) (w : World) (hx : BS w A c xs) (hk : k = xs.length) (hl : xs.length ≤ 8) :
    Calls Tryd.prog 71 #[.slice A k c] w fun e w' => e = .returned (.int .u64 (num xs)) ∧ Fine w w' := by
  subst hk
  exact number_any A c xs w hx hl

end Go.Proofs.YthnennleblgjeaaDoor
