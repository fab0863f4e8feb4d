/- The law DrecvOrder. -/
import Derived.Test.YtnigfdldfmiaiaaDrv10
import Derived.Deep.RegionHeld3
namespace Go.Proofs.Ytnigfdldfmiaiaa
open Go.ChangeShapes Go.WideShapes Go.ChangeAt Go.RowKit Go.Maps
set_option linter.unusedVariables false
set_option linter.unusedSimpArgs false
/-- What holds while pieces are put. -/
structure Ord (w0 w : World) (g lb : Nat) (xs : List Int) (many : Int) (full : Nat) (F : Nat → Prop) (In : Int → Bool) (B : Int → Int) (nx : Int) (mz : Nat) : Prop where
  st : RcS F w g In B 0 nx 0 mz
  top : ∀ m, In m = true → m ≤ lb ∧ B m = xs.getD (m - 1).toNat 0
  cnt : many = cI In lb
  low : ∀ m : Int, 1 ≤ m → m ≤ (full : Int) → In m = true
  out : ∀ x, F x → w0.heap.size ≤ x
  fine : Fine w0 w
theorem Ord.put {w0 w w' : World} {g lb i j full full' : Nat} {xs : List Int} {many : Int} {F : Nat → Prop} {In : Int → Bool} {B : Int → Int} {nx : Int} {mz : Nat} {r : Ending} (hlb : lb ≤ 32) (hxn : xs.length = lb) (hij : i ≤ j ∧ j ≤ lb) (hfi : ∀ m : Int, (full : Int) < m → m ≤ (full' : Int) → (i : Int) < m ∧ m ≤ (j : Int)) (h : Ord w0 w g lb xs many full F In B nx mz) (k : PutS F g In B 0 nx 0 mz (1 + i) (pieceL xs i j) w r w') :
    ∃ c F' In' B' nx', r = .returned (.int .i64 c) ∧ 0 ≤ c ∧ c ≤ 32 ∧ Ord w0 w' g lb xs (many + c) full' F' In' B' nx' (mz + (j - i)) ∧ Kept F w w' ∧ (∀ x, F' x → F x ∨ w.heap.size ≤ x) := by
  obtain ⟨h1, h2, F', nx', h3, h4, h5⟩ := k
  have hpl : (pieceL xs i j).length = j - i := by unfold pieceL; rw [List.length_take, List.length_drop, hxn]; omega
  have hi := h.st.inv
  have hc := tk_count (In := In) (e := 0) hi.nr hi.rn (1 + (i : Int)) (pieceL xs i j).length
  refine ⟨_, F', _, _, nx', h1, hc.1, hc.2, ⟨by rw [← hpl]; exact h3, fun m hm => ?_, ?_, fun m h6 h7 => ?_, fun x hx => ?_, h.fine.kept h2 (fun x hx hf => by have := h.out x hf; omega)⟩, h2, h5⟩
  · by_cases hin : In m = true
    · have e := put_keep (B := B) (rd := 0) (nx := nx) (e := 0) (dsn := 1 + (i : Int)) (bs := pieceL xs i j) hin
      rw [e.2]
      exact h.top m hin
    · have hin : In m = false := by simpa using hin
      have h6 : tkB In 0 nx 0 m = true ∧ (1 + (i : Int) ≤ m ∧ m < 1 + (i : Int) + (pieceL xs i j).length) := by
        unfold putI at hm
        rw [hin, Bool.false_or] at hm
        simpa using hm
      have ht := tkB_iff.mp h6.1
      have e := put_take (B := B) (rd := 0) (nx := nx) (e := 0) (dsn := 1 + (i : Int)) (bs := pieceL xs i j) ht.1 ht.2.1 (.inl rfl) hin h6.2.1 h6.2.2
      rw [e.2]
      rw [hpl] at h6
      refine ⟨by omega, ?_⟩
      unfold pieceL
      have hz : (m - (1 + (i : Int))).toNat < j - i := by omega
      rw [List.getD_eq_getElem?_getD, List.getElem?_take, if_pos hz, List.getElem?_drop, List.getD_eq_getElem?_getD]
      congr 2
      omega
  · rw [h.cnt, cI_put (by rw [hpl]; omega)]
  · by_cases h8 : m ≤ (full : Int)
    · unfold putI; rw [h.low m h6 h8]; rfl
    · by_cases hin : In m = true
      · unfold putI; rw [hin]; rfl
      · have hin : In m = false := by simpa using hin
        have hnx : nx ≤ m := by
          rcases Int.lt_or_le m nx with h9 | h9
          · rw [hi.low m h6 h9] at hin; cases hin
          · exact h9
        have h10 := hfi m (by omega) h7
        exact (put_take (B := B) hnx (by omega) (.inl rfl) hin (by omega) (by rw [hpl]; omega)).1
  · rcases h5 x hx with h6 | h6
    · exact h.out x h6
    · exact Nat.le_trans h.fine.size h6
theorem Ord.wfine {w0 w w' : World} {g lb full : Nat} {xs : List Int} {many : Int} {F : Nat → Prop} {In : Int → Bool} {B : Int → Int} {nx : Int} {mz : Nat} (h : Ord w0 w g lb xs many full F In B nx mz) (f : Fine w w') : Ord w0 w' g lb xs many full F In B nx mz :=
  ⟨h.st.fine f, h.top, h.cnt, h.low, h.out, h.fine.trans f⟩
theorem Ord.all {w0 w : World} {g lb full : Nat} {xs : List Int} {many : Int} {F : Nat → Prop} {In : Int → Bool} {B : Int → Int} {nx : Int} {mz : Nat} (h : Ord w0 w g lb xs many full F In B nx mz) (hf : lb ≤ full) (hxn : xs.length = lb) : nx = (lb : Int) + 1 ∧ many = lb ∧ bufL B 0 nx = xs := by
  have hin : ∀ m, 1 ≤ m → m < (lb : Int) + 1 → In m = true := fun m a b => h.low m a (by omega)
  have hno : In ((lb : Int) + 1) = false := by
    cases e : In ((lb : Int) + 1) with
    | false => rfl
    | true => have := (h.top _ e).1; omega
  have hnx := h.st.nx_at (by omega) hin hno
  refine ⟨hnx, ?_, ?_⟩
  · rw [h.cnt]
    unfold cI
    exact cnt_all lb (fun j hj => hin _ (by omega) (by omega))
  · subst hnx
    apply List.ext_getElem
    · rw [bufL_len, hxn]; omega
    · intro i h1 h2
      have hi : i < lb := by rw [hxn] at h2; exact h2
      simp only [bufL, List.getElem_map, List.getElem_range]
      rw [(h.top _ (hin (0 + 1 + (i : Int)) (by omega) (by omega))).2, show (0 + 1 + (i : Int) - 1).toNat = i by omega]
      simp [List.getD, h2]
/-- The boxes that the pieces are put by. -/
structure Bx (w : World) (g x3 x7 x8 : Nat) (Ab : Option Addr) (lb cb nn : Nat) (F : Nat → Prop) : Prop where
  b3 : Blk w x3 46 #[.slice Ab lb cb]
  b7 : Blk w x7 47 #[.pointer (some ⟨g, 0, none⟩)]
  b8 : Blk w x8 3 #[.int .i64 nn]
  n3 : ¬ F x3
  n7 : ¬ F x7
  n8 : ¬ F x8
theorem Bx.kept {w w' : World} {g x3 x7 x8 : Nat} {Ab : Option Addr} {lb cb nn : Nat} {F F' : Nat → Prop} (h : Bx w g x3 x7 x8 Ab lb cb nn F) (k : Kept F w w') (hF : ∀ x, F' x → F x ∨ w.heap.size ≤ x) : Bx w' g x3 x7 x8 Ab lb cb nn F' :=
  ⟨h.b3.kept k h.n3, h.b7.kept k h.n7, h.b8.kept k h.n8, fun hf => (hF _ hf).elim h.n3 (fun e => by have := h.b3.lt; omega), fun hf => (hF _ hf).elim h.n7 (fun e => by have := h.b7.lt; omega), fun hf => (hF _ hf).elim h.n8 (fun e => by have := h.b8.lt; omega)⟩
theorem Bx.fine {w w' : World} {g x3 x7 x8 : Nat} {Ab : Option Addr} {lb cb nn : Nat} {F : Nat → Prop} (h : Bx w g x3 x7 x8 Ab lb cb nn F) (f : Fine w w') : Bx w' g x3 x7 x8 Ab lb cb nn F :=
  ⟨h.b3.fine f, h.b7.fine f, h.b8.fine f, h.n3, h.n7, h.n8⟩
def Cx (w : World) (g x3 x7 : Nat) (Ab : Option Addr) (lb cb : Nat) : Prop := w.cell? ⟨x7, 0, none⟩ = some (.pointer (some ⟨g, 0, none⟩)) ∧ w.cell? ⟨x3, 0, none⟩ = some (.slice Ab lb cb)
theorem Bx.cx {w : World} {g x3 x7 x8 : Nat} {Ab : Option Addr} {lb cb nn : Nat} {F : Nat → Prop} (h : Bx w g x3 x7 x8 Ab lb cb nn F) : Cx w g x3 x7 Ab lb cb := ⟨h.b7.cell1, h.b3.cell1⟩
def lenV : Value → Nat | .slice _ n _ => n | _ => 0
theorem bufL_mid {B : Int → Int} {nx : Int} {xs : List Int} (h : bufL B 0 nx = xs) {rd rd' : Nat} (h1 : rd ≤ rd') (h2 : (rd' : Int) < nx) : xs.take rd' = xs.take rd ++ bufL B rd (rd' + 1) := by
  have e1 := bufL_drop B 0 nx rd (by omega)
  have e2 := bufL_take B (0 + rd) nx (rd' - rd) (by omega)
  rw [h] at e1
  rw [← e1] at e2
  rw [show (0 : Int) + (rd : Int) + ((rd' - rd : Nat) : Int) + 1 = (rd' : Int) + 1 by omega, Int.zero_add] at e2
  rw [← e2, show rd' = rd + (rd' - rd) by omega, List.take_add]
  congr 2
  omega
set_option maxHeartbeats 8000000 in
set_option maxRecDepth 20000 in
theorem drecvOrder_main (w : World) (Ab : Option Addr) (lb cb : Nat) (xs : List Int) (hlb : lb ≤ 32) (hxn : xs.length = lb) (hxr : RS layB w Ab cb xs) (hxb : ∀ x ∈ xs, 0 ≤ x ∧ x ≤ 255) (Oo : Option Addr) (lo co : Nat) (os : List Int) (hlo : lo ≤ 60) (hon : os.length = lo) (hor : RS layB w Oo co os) (hob : ∀ x ∈ os, 0 ≤ x ∧ x ≤ 255) (m : Int) (hm : 0 ≤ m ∧ m ≤ 255) :
    Calls Try.prog 10 #[.slice Ab lb cb, .slice Oo lo co, .int .u8 m] w fun r w' => r = .returned (.bool true) ∧ Fine w w' := by
  have HXR := Lib.hid hxr; have HXN := Lib.hid hxn; have HXB := Lib.hid hxb; have HOR := Lib.hid hor; have HON := Lib.hid hon; have HOB := Lib.hid hob
  obtain ⟨n0, hn0⟩ : ∃ k : Nat, m.tmod 8 = (k : Int) := ⟨(m.tmod 8).toNat, by have := Int.tmod_nonneg 8 hm.1; omega⟩
  have hn0b : n0 < 8 := by have := Int.tmod_lt_of_pos m (b := 8) (by omega); omega
  obtain ⟨nn, hnn⟩ : ∃ z : Nat, 1 + n0 = z := ⟨_, rfl⟩
  have em : IntKind.i64.wrap m = m := IntWalk.i64_in _ (by omega)
  have ef : IntKind.i64.wrap (1 + (n0 : Int)) = (nn : Int) := by rw [show 1 + (n0 : Int) = (nn : Int) by omega]; exact IntWalk.i64_in _ (by omega)
  have hg1 : ¬ (lb : Int) > 32 := by omega
  have hg2 : ¬ (lo : Int) > 60 := by omega
  have hnnb : 1 ≤ nn ∧ nn ≤ 8 := by omega
  obtain ⟨x3, hx3⟩ : ∃ x, w.heap.size = x := ⟨_, rfl⟩
  have b3 := Blk.newAt (w := w) (t := 46) (cs := #[.slice Ab lb cb]) hx3.symm
  have f0 := (Fine.refl w).alloc (.cells #[.slice Ab lb cb] 46)
  clear hxr hxn hxb hor hon hob hnn
  go_enter Try.func10, Try.ntmps10
  go_upto_region 1 with fail
  generalize w.alloc (.cells #[.slice Ab lb cb] 46) = wa at b3 f0 ⊢
  have B3 := Lib.hid b3; have F0 := Lib.hid f0; have HX3 := Lib.hid hx3
  clear b3 f0 hx3
  go_wp2_with fail
  refine (drecvWakes_any wa).mono ?_
  rintro r w1 ⟨rfl, f1⟩
  have F1 := Lib.hid (F0.out.trans f1)
  have B31 := Lib.hid (B3.out.fine f1)
  have c3 : w1.cell? ⟨x3, 0, none⟩ = some (.slice Ab lb cb) := B31.out.cell1
  clear f1
  go_wp2_with fail
  refine (rnewv_any w1).mono ?_
  rintro r w2 ⟨g, rfl, h2, f2⟩
  have H2 := Lib.hid h2; have F2 := Lib.hid (F1.out.trans f2)
  have hs12 := F1.out.size
  have hs1 : x3 < w1.heap.size := B31.out.lt
  have B32 := Lib.hid (B31.out.fine f2)
  obtain ⟨x7, hx7⟩ : ∃ x, w2.heap.size = x := ⟨_, rfl⟩
  have hs2 : w1.heap.size ≤ x7 := by rw [← hx7]; exact f2.size
  have f3 := (Fine.refl w2).alloc (.cells #[.pointer (some ⟨g, 0, none⟩)] 47)
  have b7 := Blk.newAt (w := w2) (t := 47) (cs := #[.pointer (some ⟨g, 0, none⟩)]) hx7.symm
  obtain ⟨x8, hx8⟩ : ∃ x, (w2.alloc (.cells #[.pointer (some ⟨g, 0, none⟩)] 47)).heap.size = x := ⟨_, rfl⟩
  clear h2 f2 c3
  go_upto_region 6 with fail
  generalize w2.alloc (.cells #[.pointer (some ⟨g, 0, none⟩)] 47) = w3 at b7 f3 hx8 ⊢
  have f4 := (Fine.refl w3).alloc (.cells #[.int .i64 nn] 3)
  have b8 := Blk.newAt (w := w3) (t := 3) (cs := #[.int .i64 nn]) hx8.symm
  go_upto_region 7 with fail
  generalize w3.alloc (.cells #[.int .i64 nn] 3) = w4 at b8 f4 ⊢
  have hx78 : x7 < x8 := by rw [← hx8]; exact b7.lt
  have F4 := Lib.hid (F2.out.trans (f3.trans f4))
  have B34 := Lib.hid (B32.out.fine (f3.trans f4)); have B74 := Lib.hid (b7.fine f4); have B84 := Lib.hid b8
  have H4 := Lib.hid (H2.out.fine (f3.trans f4))
  have HX7 := Lib.hid hx7; have HX8 := Lib.hid hx8
  have c3 : w4.cell? ⟨x3, 0, none⟩ = some (.slice Ab lb cb) := B34.out.cell1
  have c8 : w4.cell? ⟨x8, 0, none⟩ = some (.int .i64 nn) := B84.out.cell1
  clear b7 f3 f4 b8 hx7 hx8
  obtain ⟨t1, ht1⟩ : ∃ z : Nat, lb + nn = z := ⟨_, rfl⟩
  obtain ⟨t2, ht2⟩ : ∃ z : Nat, t1 - 1 = z := ⟨_, rfl⟩
  obtain ⟨pc, hpc⟩ : ∃ z : Nat, t2 / nn = z := ⟨_, rfl⟩
  have e1 : IntKind.i64.wrap ((lb : Int) + (nn : Int)) = (t1 : Int) := by rw [show (lb : Int) + (nn : Int) = (t1 : Int) by omega]; exact IntWalk.i64_in _ (by omega)
  have e2 : IntKind.i64.wrap ((t1 : Int) - 1) = (t2 : Int) := by rw [show (t1 : Int) - 1 = (t2 : Int) by omega]; exact IntWalk.i64_in _ (by omega)
  have e3 : (t2 : Int).tdiv (nn : Int) = (pc : Int) := by rw [Int.tdiv_eq_ediv_of_nonneg (by omega), ← hpc]; rfl
  have e3' : (t2 : Int) / (nn : Int) = (pc : Int) := by rw [← hpc]; rfl
  have hpn : pc * nn ≤ t2 := by rw [← hpc]; exact Nat.div_mul_le_self t2 nn
  have hpn2 : t2 < (pc + 1) * nn := by rw [← hpc, Nat.mul_comm]; exact Nat.lt_mul_div_succ t2 (by omega)
  have hpcb : pc ≤ 39 := by have : pc * 1 ≤ pc * nn := Nat.mul_le_mul_left pc hnnb.1; omega
  have e4 : IntKind.i64.wrap (pc : Int) = (pc : Int) := IntWalk.i64_in _ (by omega)
  have HKI : Hid (∀ k, k < pc → k * nn < lb) := Lib.hid (fun k hk => by
    have h1 : (k + 1) * nn ≤ pc * nn := Nat.mul_le_mul_right nn (by omega)
    rw [Nat.succ_mul] at h1
    omega)
  have HPN : Hid (lb ≤ pc * nn) := Lib.hid (by rw [Nat.succ_mul] at hpn2; omega)
  have HXA : Hid (∀ (F : Nat → Prop), (∀ x, F x → w.heap.size ≤ x) → 0 < lb → ∀ b o, Ab = some ⟨b, o, none⟩ → ¬ F b) := Lib.hid (fun F hF h0 b o e hf => by
    obtain ⟨b', o', e', h, _⟩ := HXR.out.2.2.2 (by rw [HXN.out]; exact h0)
    rw [e] at e'; injection e' with e'; injection e' with e' _ _
    have := hF b hf
    omega)
  have OR0 : Hid (Ord w w4 g lb xs 0 0 (fun x => w1.heap.size ≤ x ∧ x < w2.heap.size) (fun _ => false) (fun _ => 0) 1 0) := Lib.hid ⟨H4.out, (fun m h => by cases h), (by unfold cI; exact (cnt_zero (fun j _ => rfl)).symm), (fun m a b => by omega), (fun x hx => by have := hx.1; omega), F4.out⟩
  have BX0 : Hid (Bx w4 g x3 x7 x8 Ab lb cb nn (fun x => w1.heap.size ≤ x ∧ x < w2.heap.size)) := Lib.hid ⟨B34.out, B74.out, B84.out, fun h => by have := h.1; omega, fun h => by have := HX7.out; have := h.2; omega, fun h => by have := HX7.out; have := h.2; omega⟩
  clear hpc hpn hpn2 ht1 ht2
  go_wp2_with fail
  clear e1 e2 e3 e3' c3 c8
  go_loopw [11, 43] (fun s11 s43 wr => ∃ (i : Nat) (many : Int), i ≤ lo ∧ s43 = .int .i64 i ∧ s11 = .int .i64 many ∧ (0 ≤ many ∧ many ≤ 32 * (i : Int)) ∧ Hid (∃ F In B nx mz, Ord w wr g lb xs many 0 F In B nx mz ∧ mz ≤ 32 * i ∧ Bx wr g x3 x7 x8 Ab lb cb nn F)) (fun _ s43 _ => lo - (intOf s43).toNat)
  case atStart => exact ⟨0, 0, by omega, rfl, rfl, by omega, Lib.hid ⟨_, _, _, _, _, OR0.out, by omega, BX0.out⟩⟩
  case round =>
    obtain ⟨i, many, hi, rfl, rfl, hmb, HJ⟩ := hrel
    obtain ⟨F, In, B, nx, mz, j1, j2, j3⟩ := HJ.out
    have J1 := Lib.hid j1; have J3 := Lib.hid j3
    clear j1 j3 HJ
    by_cases hlt : i < lo
    · obtain ⟨ob, oo, rfl, _, hcl⟩ := (HOR.out.fine J1.out.fine).atI (i := i) (by rw [HON.out]; exact hlt)
      have hbx := HOB.out _ (getD_mem os i (by rw [HON.out]; exact hlt))
      obtain ⟨x, hx⟩ : ∃ x, os.getD i 0 = x := ⟨_, rfl⟩
      rw [hx] at hcl hbx
      clear hx
      by_cases hp0 : pc = 0
      · have g1 : ¬ (pc : Int) > 0 := by omega
        have g2 : decide (0 < pc) = false := by simp; omega
        go_wp2_with fail
        exact ⟨⟨i + 1, many, hlt, by simp, rfl, by omega, Lib.hid ⟨F, In, B, nx, mz, J1.out, by omega, J3.out⟩⟩, by simp only [intOf]; omega⟩
      · have g1 : (pc : Int) > 0 := by omega
        have g3 : ((pc : Int) == 0) = false := by simp; omega
        obtain ⟨k, hk⟩ : ∃ k : Nat, x.tmod (pc : Int) = (k : Int) := ⟨(x.tmod (pc : Int)).toNat, by have := Int.tmod_nonneg (pc : Int) hbx.1; omega⟩
        have hkp : k < pc := by have := Int.tmod_lt_of_pos x (b := (pc : Int)) (by omega); omega
        have ex : IntKind.i64.wrap x = x := IntWalk.i64_in _ (by omega)
        have ek : IntKind.i64.wrap (k : Int) = (k : Int) := IntWalk.i64_in _ (by omega)
        have hkl := HKI.out k hkp
        obtain ⟨ki, hki⟩ : ∃ z, k * nn = z := ⟨_, rfl⟩
        obtain ⟨kj, hkj⟩ : ∃ z, min lb (ki + nn) = z := ⟨_, rfl⟩
        have hij : ki ≤ kj ∧ kj ≤ lb := by omega
        rw [hki] at hkl
        have HC := Lib.hid (piece_any F g In B 0 nx mz x7 x8 x3 nn lb cb k ki kj Ab xs hnnb hlb HXN.out HXB.out hki hkl hkj (by omega) wr J3.out.b7 J3.out.b8 J3.out.b3 (HXR.out.fine J1.out.fine) (HXA.out F J1.out.out (by omega)) J1.out.st)
        clear hki hkj
        go_wp2_with fail
        refine HC.out.mono ?_
        rintro e wz hP
        obtain ⟨cc, F2, In2, B2, nx2, rfl, hc0, hc1, o2, kz, hFz⟩ := J1.out.put (full' := 0) hlb HXN.out hij (fun m a b => by omega) hP
        have J2' := Lib.hid o2
        have BX2 := Lib.hid (J3.out.kept kz hFz)
        have e9 : IntKind.i64.wrap (many + cc) = many + cc := IntWalk.i64_in _ (by omega)
        clear o2 kz hFz hP HC hk
        go_wp2_with fail
        exact ⟨⟨i + 1, many + cc, hlt, by simp, rfl, by omega, Lib.hid ⟨F2, In2, B2, nx2, _, J2'.out, by omega, BX2.out⟩⟩, by simp only [intOf]; omega⟩
    · have hie : i = lo := by omega
      subst hie
      go_wp2_with fail
      go_loopw [11, 59] (fun s11 s59 wq => ∃ (k : Nat) (many : Int), k ≤ pc ∧ s59 = .int .i64 k ∧ s11 = .int .i64 many ∧ (0 ≤ many ∧ many ≤ 32 * (i : Int) + 32 * (k : Int)) ∧ Hid (∃ F In B nx mz, Ord w wq g lb xs many (min lb (k * nn)) F In B nx mz ∧ mz ≤ 32 * i + 32 * k ∧ Bx wq g x3 x7 x8 Ab lb cb nn F)) (fun _ s59 _ => pc - (intOf s59).toNat)
      case atStart => exact ⟨0, many, by omega, rfl, rfl, by omega, Lib.hid ⟨F, In, B, nx, mz, by rw [Nat.zero_mul, Nat.min_zero]; exact J1.out, by omega, J3.out⟩⟩
      case round =>
        obtain ⟨k, many, hk, rfl, rfl, hmb, HJ⟩ := hrel
        obtain ⟨F, In, B, nx, mz, j1, j2, j3⟩ := HJ.out
        have J1 := Lib.hid j1; have J3 := Lib.hid j3
        clear j1 j3 HJ
        by_cases hlt : k < pc
        · have hkl := HKI.out k hlt
          obtain ⟨ki, hki⟩ : ∃ z, k * nn = z := ⟨_, rfl⟩
          obtain ⟨kj, hkj⟩ : ∃ z, min lb (ki + nn) = z := ⟨_, rfl⟩
          have hij : ki ≤ kj ∧ kj ≤ lb := by omega
          rw [hki] at hkl J1
          have hkn : Hid (min lb ((k + 1) * nn) = kj) := Lib.hid (by rw [Nat.succ_mul, hki]; exact hkj)
          have HC := Lib.hid (piece_any F g In B 0 nx mz x7 x8 x3 nn lb cb k ki kj Ab xs hnnb hlb HXN.out HXB.out hki hkl hkj (by omega) wr J3.out.b7 J3.out.b8 J3.out.b3 (HXR.out.fine J1.out.fine) (HXA.out F J1.out.out (by omega)) J1.out.st)
          clear hki hkj
          go_wp2_with fail
          refine HC.out.mono ?_
          rintro e wz hP
          obtain ⟨cc, F2, In2, B2, nx2, rfl, hc0, hc1, o2, kz, hFz⟩ := J1.out.put (full' := kj) hlb HXN.out hij (fun m a b => by omega) hP
          have J2' := Lib.hid o2
          have BX2 := Lib.hid (J3.out.kept kz hFz)
          have e9 : IntKind.i64.wrap (many + cc) = many + cc := IntWalk.i64_in _ (by omega)
          clear o2 kz hFz hP HC
          go_wp2_with fail
          exact ⟨⟨k + 1, many + cc, hlt, by simp, rfl, by omega, Lib.hid ⟨F2, In2, B2, nx2, _, by rw [hkn.out]; exact J2'.out, by omega, BX2.out⟩⟩, by simp only [intOf]; omega⟩
        · have hke : k = pc := by omega
          subst hke
          rw [Nat.min_eq_left HPN.out] at J1
          obtain ⟨hnx, hmany, hbuf⟩ := J1.out.all (Nat.le_refl _) HXN.out
          subst hnx hmany
          have HBUF := Lib.hid hbuf
          clear hbuf
          obtain ⟨L1, hL1⟩ : ∃ z : Int, (lb : Int) + 1 = z := ⟨_, rfl⟩
          obtain ⟨L2, hL2⟩ : ∃ z : Int, (lb : Int) + 2 = z := ⟨_, rfl⟩
          obtain ⟨W, hW⟩ : ∃ z : Int, 32 - (lb : Int) = z := ⟨_, rfl⟩
          rw [hL1] at J1 HBUF
          have e1 : IntKind.i64.wrap ((lb : Int) + 1) = L1 := by rw [hL1]; exact IntWalk.i64_in _ (by omega)
          have e2 : IntKind.i64.wrap ((lb : Int) + 2) = L2 := by rw [hL2]; exact IntWalk.i64_in _ (by omega)
          have e3 : IntKind.i64.wrap (32 - (lb : Int)) = W := by rw [hW]; exact IntWalk.i64_in _ (by omega)
          have hEB : endB In 0 L1 0 L1 := ⟨Int.le_refl _, by omega, .inl rfl, fun m' hm' => by have := (J1.out.top m' hm').1; omega⟩
          have HEB := Lib.hid hEB
          have HEND : Hid (∀ w', RcS F w' g In B 0 L1 0 mz → Calls Try.prog 41 #[.pointer (some ⟨g, 0, none⟩), .int .i64 L1] w' fun e w'' => e = .returned (.bool true) ∧ RcS F w'' g In B 0 L1 L1 mz ∧ Kept F w' w'') := Lib.hid (fun w' h => (end_any L1 (by omega) w' h).mono (fun e w'' hE => by
            obtain ⟨h1, h2⟩ := hE
            rcases h2 with ⟨h3, _, h5⟩ | ⟨_, h4, _⟩
            · exact ⟨h3, h5, h1⟩
            · exact absurd HEB.out h4))
          have HACK : Hid (∀ w', RcS F w' g In B 0 L1 L1 mz → Calls Try.prog 37 #[.pointer (some ⟨g, 0, none⟩)] w' fun e w'' => e = .returned (.int .i64 L2) ∧ Fine w' w'') := Lib.hid (fun w' h => by
            have := ack_any w' h
            unfold ackV at this
            rw [if_pos rfl, show L1 + 1 = L2 by omega] at this
            exact this)
          have HWIN : Hid (∀ w', RcS F w' g In B 0 L1 L1 mz → Calls Try.prog 36 #[.pointer (some ⟨g, 0, none⟩)] w' fun e w'' => e = .returned (.int .i64 W) ∧ Fine w' w'') := Lib.hid (fun w' h => by
            have := win_any w' h
            rw [show 0 + 33 - L1 = W by omega] at this
            exact this)
          have HST := Lib.hid (J1.out.st.fine (Fine.refl wr).drew)
          have BXD := Lib.hid (J3.out.fine (Fine.refl wr).drew)
          have FWD := Lib.hid (J1.out.fine.drew)
          have JO := Lib.hid J1.out.out
          have hL1b : 1 ≤ L1 ∧ L1 ≤ 33 := by omega
          have HL1 := Lib.hid hL1
          have g1 : ((lb : Int) != (lb : Int)) = false := by simp
          have g2 : (L2 != L2) = false := by simp
          have g3 : (W != W) = false := by simp
          have c7 : wr.cell? ⟨x7, 0, none⟩ = some (.pointer (some ⟨g, 0, none⟩)) := J3.out.b7.cell1
          have c3 : wr.cell? ⟨x3, 0, none⟩ = some (.slice Ab lb cb) := J3.out.b3.cell1
          clear hL1 hL2 hW hEB J1 J3
          go_upto_region 21 with fail
          go_cut [95] (fun s95 wx => s95 = .bool false ∧ Hid (RcS F wx g In B 0 L1 L1 mz ∧ Bx wx g x3 x7 x8 Ab lb cb nn F ∧ Fine w wx))
          case first =>
            go_region_held3 (fun w' => w'.cell? ⟨x7, 0, none⟩ = some (.pointer (some ⟨g, 0, none⟩)) ∧ w'.cell? ⟨x3, 0, none⟩ = some (.slice Ab lb cb)) (first | exact BXD.out.cx | exact (BXD.out.kept kA (fun _ h => .inl h)).cx | exact ((BXD.out.kept kA (fun _ h => .inl h)).fine fB).cx | exact (((BXD.out.kept kA (fun _ h => .inl h)).fine fB).fine fC).cx) (first | (go_at_call 41; refine (HEND.out _ ?_).mono ?_; (exact HST.out); rintro e wA ⟨rfl, sA, kA⟩) | (go_at_call 37; refine (HACK.out _ ?_).mono ?_; (exact sA); rintro e wB ⟨rfl, fB⟩) | (go_at_call 36; refine (HWIN.out _ ?_).mono ?_; (exact sA.fine fB); rintro e wC ⟨rfl, fC⟩))
            all_goals
              have FA : Fine w wA := FWD.out.kept kA (fun x hx hf => by have := JO.out x hf; omega)
              have RR := Lib.hid ((sA.fine fB).fine fC)
              have BB := Lib.hid (((BXD.out.kept kA (fun _ h => .inl h)).fine fB).fine fC)
              have FF := Lib.hid ((FA.trans fB).trans fC)
              clear FA sA fB fC kA
              go_wp2_with fail
              go_meet
              exact ⟨rfl, Lib.hid ⟨RR.out, BB.out, FF.out⟩⟩
          case rest =>
            obtain ⟨rfl, HC⟩ := hcut
            obtain ⟨h1, h2, h3⟩ := HC.out
            have R0 := Lib.hid h1; have X0 := Lib.hid h2; have W0 := Lib.hid h3
            clear h1 h2 h3 HC c7 c3 e1 e2 e3 HST BXD FWD
            clear HEND HACK HWIN HEB
            have hwg : w.heap.size ≤ wc.heap.size := W0.out.size
            have hnilO : Hid (Own layB 5 wc w.heap.size (.slice none 0 0) (xs.take 0)) := Lib.hid (by rw [List.take_zero]; exact Own.nil_ _ _ _ _)
            go_wp2_with fail
            go_loopw [15] (fun s15 wq => ∃ rd : Nat, rd ≤ lb ∧ ∃ A c, s15 = .slice A rd c ∧ Hid (∃ F2, Own layB 5 wq w.heap.size (.slice A rd c) (xs.take rd) ∧ RcS F2 wq g In B rd L1 L1 mz ∧ Bx wq g x3 x7 x8 Ab lb cb nn F2 ∧ (∀ x, F2 x → w.heap.size ≤ x) ∧ (∀ x, (Value.slice A rd c).ownBlock = some x → ¬ F2 x ∧ x ≠ x3 ∧ x ≠ x7 ∧ x ≠ x8) ∧ Fine w wq)) (fun s15 _ => lb - lenV s15)
            case atStart => exact ⟨0, Nat.zero_le _, none, 0, rfl, Lib.hid ⟨F, hnilO.out, R0.out, X0.out, JO.out, (fun x hx => by cases hx), W0.out⟩⟩
            case round =>
              obtain ⟨rd, hrd, A, c, rfl, HQ⟩ := hrel
              obtain ⟨F2, q1, q2, q3, q4, q5, q6⟩ := HQ.out
              have Q1 := Lib.hid q1; have Q2 := Lib.hid q2; have Q3 := Lib.hid q3; have Q4 := Lib.hid q4; have Q5 := Lib.hid q5; have Q6 := Lib.hid q6
              have c7 : wr.cell? ⟨x7, 0, none⟩ = some (.pointer (some ⟨g, 0, none⟩)) := q3.b7.cell1
              clear q1 q2 q3 q4 q5 q6 HQ
              go_wp2_with fail
              refine (read_any 3 (by omega) (by omega) wr Q2.out).mono ?_
              rintro e w5 ⟨v, ys, er, rd5, F5, rfl, o5, hA, hB, h5, k5, hF5, hv5⟩
              have X5 := Lib.hid (Q3.out.kept k5 hF5)
              have W5 : Hid (Fine w w5) := Lib.hid (Q6.out.kept k5 (fun x hx hf => by have := Q4.out x hf; omega))
              have Q15 := Lib.hid (Q1.out.kept k5 (fun x hx hf => (Q5.out x hx).1 hf))
              have hwr : w.heap.size ≤ wr.heap.size := Q6.out.size
              by_cases hend : rd = lb
              · obtain ⟨rfl, her, rfl⟩ := hA (by have := HL1.out; omega)
                rw [if_pos rfl] at her
                subst her
                subst hend
                obtain ⟨A5, c5, rfl, _, _⟩ := o5.form
                have RQ := Lib.hid Q15.out.rs.1
                have c3 : w5.cell? ⟨x3, 0, none⟩ = some (.slice Ab rd cb) := X5.out.b3.cell1
                clear hA hB h5 k5 hF5 hv5 o5 c7
                go_wp2_with fail
                refine (same_any A Ab c cb rd rd (xs.take rd) xs (by rw [List.length_take, HXN.out]; omega) HXN.out w5 RQ.out (HXR.out.fine W5.out)).mono ?_
                rintro e w6 ⟨rfl, f6⟩
                rw [decide_eq_true (show xs.take rd = xs by rw [← HXN.out, List.take_length])]
                have W6 := Lib.hid (W5.out.trans f6)
                clear f6
                go_wp2_with fail
                go_ret
                exact ⟨rfl, W6.out⟩
              · obtain ⟨rfl, hr5, hys⟩ := hB (by have := HL1.out; omega)
                obtain ⟨rd6, hrd6⟩ : ∃ z : Nat, rd5 = (z : Int) := ⟨rd5.toNat, by have := HL1.out; omega⟩
                subst hrd6
                have hr6 : rd < rd6 ∧ rd6 ≤ lb := by have := HL1.out; omega
                have hmid := bufL_mid HBUF.out (rd := rd) (rd' := rd6) (by omega) (by have := HL1.out; omega)
                have hyl : ys.length = rd6 - rd := by rw [hys, bufL_len]; omega
                obtain ⟨A5, c5, rfl, rs5, from5⟩ := o5.form
                obtain ⟨ln, hln⟩ : ∃ z, ys.length = z := ⟨_, rfl⟩
                rw [hln] at hyl ⊢
                have hz : ((ln : Int) == 0) = false := by simp; omega
                have hlnb : ln ≤ 32 := by omega
                have HYL := Lib.hid hyl
                clear hyl
                have HLN := Lib.hid hln; have HMID := Lib.hid (hys ▸ hmid : xs.take rd6 = xs.take rd ++ ys)
                have hxt : Hid ((xs.take rd).length = rd) := Lib.hid (by rw [List.length_take, HXN.out]; omega)
                have RS5 := Lib.hid rs5; have R5 := Lib.hid h5
                have F5' : Hid ((∀ x, F5 x → w.heap.size ≤ x) ∧ ∀ x, F5 x → x < w5.heap.size) := Lib.hid ⟨fun x hx => by
                  rcases hF5 x hx with h | h
                  · exact Q4.out x h
                  · omega, h5.lt⟩
                have N5 : Hid (∀ x, (Value.slice A rd c).ownBlock = some x → ¬ F5 x) := Lib.hid (fun x hx hf => by
                  rcases hF5 x hf with h | h
                  · exact (Q5.out x hx).1 h
                  · have := (Q1.out.lt x hx).2; omega)
                have hsz5 : w.heap.size ≤ w5.heap.size := W5.out.size
                clear hA hB h5 k5 hF5 hv5 o5 c7 hmid hln rs5 from5 hys
                go_wp2_with (at_builtin; refine wpList_appE rfl sliceB (.tmp 110) (.tmp 111) rfl w.heap.size (.slice A rd c) (xs.take rd) rfl Q15.out A5 ln c5 ys rfl HLN.out.symm RS5.out (by rw [hxt.out, HLN.out]; omega) (by rw [hxt.out, HLN.out]; unfold maxLen; omega) hsz5 ?_; intro A7 c7 w7 ho7 kk7 gg7)
                have e7 : (xs.take rd).length + ys.length = rd6 := by rw [hxt.out, HLN.out]; have := HYL.out; omega
                rw [show min rd xs.length + ys.length = rd6 by rw [← List.length_take]; exact e7]
                have o7 : Own layB 5 w7 w.heap.size (.slice A7 rd6 c7) (xs.take rd6) := by have := ho7.out; rw [e7, ← HMID.out] at this; exact this
                have g7 := gg7.out.1
                have b7 := gg7.out.2
                rw [e7] at b7
                have K7 : Kept (fun y => (Value.slice A rd c).ownBlock = some y) w5 w7 := Kept.grown (Kept.refl _ _) g7 (fun k hk _ => hk)
                have X7 : Bx w7 g x3 x7 x8 Ab lb cb nn F5 := ⟨X5.out.b3.kept K7 (fun e => (Q5.out _ e).2.1 rfl), X5.out.b7.kept K7 (fun e => (Q5.out _ e).2.2.1 rfl), X5.out.b8.kept K7 (fun e => (Q5.out _ e).2.2.2 rfl), X5.out.n3, X5.out.n7, X5.out.n8⟩
                refine ⟨⟨rd6, hr6.2, A7, c7, by simp, Lib.hid ⟨F5, o7, R5.out.kept K7 (fun x hf e => N5.out x e hf), X7, F5'.out.1, fun x hx => ?_, W5.out.kept K7 (fun x hx e => by have := (Q1.out.lt x e).1; omega)⟩⟩, by simp only [lenV]; omega⟩
                rcases b7 with h | h
                · rw [h] at hx
                  exact ⟨N5.out x hx, (Q5.out x hx).2⟩
                · have h2 := h.symm.trans hx
                  injection h2 with h2
                  subst h2
                  exact ⟨fun hf => by have := F5'.out.2 _ hf; omega, fun e => by have := X5.out.b3.lt; omega, fun e => by have := X5.out.b7.lt; omega, fun e => by have := X5.out.b8.lt; omega⟩
set_option maxHeartbeats 2000000 in
set_option maxRecDepth 20000 in
theorem lawDrecvOrder (w : World) (Ab : Option Addr) (lb cb : Nat) (xs : List Int) (hx : IntsIn .u8 w Ab lb cb xs) (Oo : Option Addr) (lo co : Nat) (os : List Int) (ho : IntsIn .u8 w Oo lo co os) (m : Int) (wm : (Lit.int .u8 m).wf = true) :
    Calls Try.prog 10 #[.slice Ab lb cb, .slice Oo lo co, .int .u8 m] w fun e w' => e = .returned (.bool true) ∧ Below w.heap.size w w' := by
  show Calls _ _ _ _ fun e w' => e = .returned (.bool true) ∧ Fine w w'
  obtain ⟨hxn, hxr, hxb⟩ := ints_rs hx
  obtain ⟨hon, hor, hob⟩ := ints_rs ho
  by_cases h : lb ≤ 32 ∧ lo ≤ 60
  · exact drecvOrder_main w Ab lb cb xs h.1 hxn hxr hxb Oo lo co os h.2 hon hor hob m (bounds_u8 wm)
  · obtain ⟨x3, hx3⟩ : ∃ x, w.heap.size = x := ⟨_, rfl⟩
    have b3 := Blk.newAt (w := w) (t := 46) (cs := #[.slice Ab lb cb]) hx3.symm
    have f0 := (Fine.refl w).alloc (.cells #[.slice Ab lb cb] 46)
    clear hx ho hxn hxr hxb hon hor hob wm
    by_cases h1 : 32 < lb
    · have g1 : (lb : Int) > 32 := by omega
      clear h
      go_enter Try.func10, Try.ntmps10
      go_upto_region 1 with fail
      generalize w.alloc (.cells #[.slice Ab lb cb] 46) = wa at b3 f0 ⊢
      have B3 := Lib.hid b3; have F0 := Lib.hid f0
      clear b3 f0
      go_wp2_with fail
      refine (drecvWakes_any wa).mono ?_
      rintro r w1 ⟨rfl, f1⟩
      have F1 := Lib.hid (F0.out.trans f1)
      have c3 : w1.cell? ⟨x3, 0, none⟩ = some (.slice Ab lb cb) := (B3.out.fine f1).cell1
      clear f1
      go_wp2_with fail
      go_ret
      exact ⟨rfl, F1.out⟩
    · have g1 : ¬ (lb : Int) > 32 := by omega
      have g2 : (lo : Int) > 60 := by omega
      clear h
      go_enter Try.func10, Try.ntmps10
      go_upto_region 1 with fail
      generalize w.alloc (.cells #[.slice Ab lb cb] 46) = wa at b3 f0 ⊢
      have B3 := Lib.hid b3; have F0 := Lib.hid f0
      clear b3 f0
      go_wp2_with fail
      refine (drecvWakes_any wa).mono ?_
      rintro r w1 ⟨rfl, f1⟩
      have F1 := Lib.hid (F0.out.trans f1)
      have c3 : w1.cell? ⟨x3, 0, none⟩ = some (.slice Ab lb cb) := (B3.out.fine f1).cell1
      clear f1
      go_wp2_with fail
      go_ret
      exact ⟨rfl, F1.out⟩
end Go.Proofs.Ytnigfdldfmiaiaa
