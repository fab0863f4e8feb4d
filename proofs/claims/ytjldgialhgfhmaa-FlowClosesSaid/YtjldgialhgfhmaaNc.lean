/- The reference of outq: bytes that are the same; numbers of 32 bits. The reference of outq: lists of pieces that are the same. The laws of outq: the example. The laws of outq: an acknowledgement within a piece. Pieces that a caller holds, beside a queue; the queue's pieces, one behind the other. -/
import Derived.Test.YtjldgialhgfhmaaNa
import Derived.Deep.RegionWith
import Derived.Test.YtjldgialhgfhmaaNb
import Derived.Lib.SlBytesConst
namespace Go.Proofs.Ytjldgialhgfhmaa
set_option linter.unusedVariables false
set_option linter.unusedSimpArgs false
open Go.ChangeShapes Go.WideShapes Go.ChangeAt Go.RowKit
set_option linter.unusedVariables false

theorem bytes_any (A B : Option Addr) (c d : Nat) (xs ys : List Int) (w : World) (hx : RS LB w A c xs) (hy : RS LB w B d ys) :
    Calls Try.prog 48 #[.slice A xs.length c, .slice B ys.length d] w fun e w' => e = .returned (.bool (decide (xs = ys))) ∧ Fine w w' := by
  have hx1 := hx.le
  have hx2 := hx.max
  have hy1 := hy.le
  have hy2 := hy.max
  unfold maxLen at hx2 hy2
  by_cases hl : xs.length = ys.length
  · have hlb : ((xs.length : Int) != (ys.length : Int)) = false := by simp [hl]
    have hle : xs.length ≤ ys.length ∧ ys.length ≤ xs.length := by omega
    have HL := Lib.hid hl; clear hl
    go_enter Try.func48, Try.ntmps48
    go_wp2_with fail
    go_loopw [5] (fun i wr => ∃ k : Nat, k ≤ xs.length ∧ i = .int .i64 k ∧ xs.take k = ys.take k ∧ Fine w wr) (fun i _ => xs.length - (intOf i).toNat)
    case atStart => exact ⟨0, Nat.zero_le _, rfl, by simp, (by repeat (first | exact Fine.refl _ | assumption | refine Fine.alloc ?_ _ | refine Fine.drew ?_ | refine Fine.drewN ?_ _ | refine Fine.trans ?_ (by assumption) | (refine Fine.kept ?_ (by assumption) (by intro x hx; first | omega | (simp; omega))) | (refine Fine.setCell ?_ (by first | assumption | (simp; done) | (simp; omega)) _)))⟩
    case round =>
      obtain ⟨k, hk, rfl, ht0, hf⟩ := hrel
      have HT := Lib.hid ht0; clear ht0
      by_cases hlt : k < xs.length
      · obtain ⟨b1, o1, rfl, hb1, hc1⟩ := (hx.fine hf).atI hlt
        obtain ⟨b2, o2, rfl, hb2, hc2⟩ := (hy.fine hf).atI (i := k) (by omega)
        obtain ⟨z1, hz1⟩ : ∃ z, xs.getD k 0 = z := ⟨_, rfl⟩
        obtain ⟨z2, hz2⟩ : ∃ z, ys.getD k 0 = z := ⟨_, rfl⟩
        rw [hz1] at hc1
        rw [hz2] at hc2
        have HZ1 := Lib.hid hz1; clear hz1
        have HZ2 := Lib.hid hz2; clear hz2
        have hlt2 : k < ys.length := by omega
        by_cases hz : z1 = z2
        · have hzb : (z1 != z2) = false := by simp [hz]
          have HZ := Lib.hid hz; clear hz
          go_wp2
          go_region
          go_wp2
          go_roundw
          case rel => exact ⟨k + 1, by omega, by go_num, by
            show _ = _
            rw [List.take_succ_eq_append_getElem hlt, List.take_succ_eq_append_getElem hlt2, HT.out]
            have e1 := HZ1.out
            have e2 := HZ2.out
            simp [List.getD, hlt, hlt2] at e1 e2
            rw [e1, e2, HZ.out], (by repeat (first | exact Fine.refl _ | assumption | refine Fine.alloc ?_ _ | refine Fine.drew ?_ | refine Fine.drewN ?_ _ | refine Fine.trans ?_ (by assumption) | (refine Fine.kept ?_ (by assumption) (by intro x hx; first | omega | (simp; omega))) | (refine Fine.setCell ?_ (by first | assumption | (simp; done) | (simp; omega)) _)))⟩
          case measure => simp [intOf]; omega
        · have hzb : (z1 != z2) = true := by simp [hz]
          have HZ := Lib.hid hz; clear hz
          go_wp2
          go_region
          go_wp2
          go_ret
          refine ⟨ret_bool ?_, (by repeat (first | exact Fine.refl _ | assumption | refine Fine.alloc ?_ _ | refine Fine.drew ?_ | refine Fine.drewN ?_ _ | refine Fine.trans ?_ (by assumption) | (refine Fine.kept ?_ (by assumption) (by intro x hx; first | omega | (simp; omega))) | (refine Fine.setCell ?_ (by first | assumption | (simp; done) | (simp; omega)) _)))⟩
          symm
          simp
          rintro rfl
          exact HZ.out (HZ1.out.symm.trans HZ2.out)
      · have e : k = xs.length := by omega
        have hT := HT.out
        rw [e, List.take_length, List.take_of_length_le hle.2] at hT
        have HE := Lib.hid hT; clear hT e
        go_wp2
        go_ret
        exact ⟨ret_bool (by simp [HE.out]), (by repeat (first | exact Fine.refl _ | assumption | refine Fine.alloc ?_ _ | refine Fine.drew ?_ | refine Fine.drewN ?_ _ | refine Fine.trans ?_ (by assumption) | (refine Fine.kept ?_ (by assumption) (by intro x hx; first | omega | (simp; omega))) | (refine Fine.setCell ?_ (by first | assumption | (simp; done) | (simp; omega)) _)))⟩
  · have hlb : ((xs.length : Int) != (ys.length : Int)) = true := by simp; omega
    have HL := Lib.hid hl; clear hl
    go_enter Try.func48, Try.ntmps48
    go_wp2_with fail
    go_ret
    exact ⟨ret_bool (by symm; simp; rintro rfl; exact HL.out rfl), (by repeat (first | exact Fine.refl _ | assumption | refine Fine.alloc ?_ _ | refine Fine.drew ?_ | refine Fine.drewN ?_ _ | refine Fine.trans ?_ (by assumption) | (refine Fine.kept ?_ (by assumption) (by intro x hx; first | omega | (simp; omega))) | (refine Fine.setCell ?_ (by first | assumption | (simp; done) | (simp; omega)) _)))⟩

theorem same_any (r s : Raw) (p : Pc) (v v' : Nat → Prop) (w : World) (hr : Is w v r p) (hs : Is w v' s p) :
    Calls Try.prog 37 #[.agg r.cells.toArray, .agg s.cells.toArray] w fun x w' => x = .returned (.bool true) ∧ Fine w w' := by
  obtain ⟨seq, syn, fin, A, len, c, dsn, last⟩ := r
  obtain ⟨seq', syn', fin', B, len', d, dsn', last'⟩ := s
  obtain ⟨h1, h2, h3, h4, h5, h6, h7, _⟩ := hr
  obtain ⟨g1, g2, g3, g4, g5, g6, g7, _⟩ := hs
  simp only at h1 h2 h3 h4 h5 h6 g1 g2 g3 g4 g5 g6 h7 g7
  obtain rfl := g1.trans h1.symm
  obtain rfl := g2.trans h2.symm
  obtain rfl := g3.trans h3.symm
  obtain rfl := g4.trans h4.symm
  obtain rfl := g5.trans h5.symm
  obtain rfl := g6.trans h6.symm
  have HC := Lib.hid (fun w' (hf : Fine w w') => bytes_any A B c d p.xs p.xs w' (h7.fine hf) (g7.fine hf))
  rw [← h6] at HC
  clear h1 h2 h3 h4 h5 h6 h7 g1 g2 g3 g4 g5 g6 g7
  show Calls Try.prog 37 #[.agg #[.int .u32 seq', .bool syn', .bool fin', .slice A len' c, .int .i64 dsn', .bool last'], .agg #[.int .u32 seq', .bool syn', .bool fin', .slice B len' d, .int .i64 dsn', .bool last']] w _
  go_enter Try.func37, Try.ntmps37
  go_wp2_with fail
  refine (HC.out _ (by repeat (first | exact Fine.refl _ | assumption | refine Fine.alloc ?_ _ | refine Fine.drew ?_ | refine Fine.drewN ?_ _ | refine Fine.trans ?_ (by assumption) | (refine Fine.kept ?_ (by assumption) (by intro x hx; first | omega | (simp; omega))) | (refine Fine.setCell ?_ (by first | assumption | (simp; done) | (simp; omega)) _)))).mono ?_; rintro x w1 ⟨rfl, f1⟩
  go_wp2_with fail
  go_ret
  exact ⟨ret_bool (by simp), (by repeat (first | exact Fine.refl _ | assumption | refine Fine.alloc ?_ _ | refine Fine.drew ?_ | refine Fine.drewN ?_ _ | refine Fine.trans ?_ (by assumption) | (refine Fine.kept ?_ (by assumption) (by intro x hx; first | omega | (simp; omega))) | (refine Fine.setCell ?_ (by first | assumption | (simp; done) | (simp; omega)) _)))⟩
theorem refSteps_any (a b : Int) (ha : 0 ≤ a ∧ a < 4294967296) (hb : 0 ≤ b ∧ b < 4294967296) (w : World) :
    Calls Try.prog 68 #[.int .u32 a, .int .u32 b] w fun e w' => e = .returned (.int .i64 (dist a b)) ∧ Fine w w' := by
  by_cases h : b - a < 0
  · have hd : dist a b = b - a + 4294967296 := by unfold dist; omega
    have HD := Lib.hid hd; clear hd
    go_enter Try.func68, Try.ntmps68
    go_wp2_with fail
    go_ret
    exact ⟨by rw [HD.out]; rfl, (by repeat (first | exact Fine.refl _ | assumption | refine Fine.alloc ?_ _ | refine Fine.drew ?_ | refine Fine.drewN ?_ _ | refine Fine.trans ?_ (by assumption) | (refine Fine.kept ?_ (by assumption) (by intro x hx; first | omega | (simp; omega))) | (refine Fine.setCell ?_ (by first | assumption | (simp; done) | (simp; omega)) _)))⟩
  · have hd : dist a b = b - a := by unfold dist; omega
    have HD := Lib.hid hd; clear hd
    go_enter Try.func68, Try.ntmps68
    go_wp2_with fail
    go_ret
    exact ⟨by rw [HD.out]; rfl, (by repeat (first | exact Fine.refl _ | assumption | refine Fine.alloc ?_ _ | refine Fine.drew ?_ | refine Fine.drewN ?_ _ | refine Fine.trans ?_ (by assumption) | (refine Fine.kept ?_ (by assumption) (by intro x hx; first | omega | (simp; omega))) | (refine Fine.setCell ?_ (by first | assumption | (simp; done) | (simp; omega)) _)))⟩
theorem refOn_any (a n : Int) (ha : 0 ≤ a ∧ a < 4294967296) (w : World) :
    Calls Try.prog 31 #[.int .u32 a, .int .i64 n] w fun e w' => e = .returned (.int .u32 (onN a n)) ∧ Fine w w' := by
  obtain ⟨m, hm⟩ : ∃ m, n.tmod 4294967296 = m := ⟨_, rfl⟩
  have hb : -4294967296 < m ∧ m < 4294967296 := by
    subst hm
    have h1 := Int.tmod_lt_of_pos n (b := 4294967296) (by omega)
    have h2 := Int.lt_tmod_of_pos n (b := 4294967296) (by omega)
    omega
  have hc : (a + m) % 4294967296 = onN a n := by
    have h := Int.tmod_add_mul_tdiv n 4294967296
    rw [hm] at h
    unfold onN; omega
  have HC := Lib.hid hc; clear hc
  by_cases h : m < 0
  · go_enter Try.func31, Try.ntmps31
    go_wp2_with fail
    go_ret
    refine ⟨?_, (by repeat (first | exact Fine.refl _ | assumption | refine Fine.alloc ?_ _ | refine Fine.drew ?_ | refine Fine.drewN ?_ _ | refine Fine.trans ?_ (by assumption) | (refine Fine.kept ?_ (by assumption) (by intro x hx; first | omega | (simp; omega))) | (refine Fine.setCell ?_ (by first | assumption | (simp; done) | (simp; omega)) _)))⟩
    have e0 : (a + (m + 4294967296)) % 4294967296 = onN a n := by have := HC.out; omega
    rw [← e0]; rfl
  · go_enter Try.func31, Try.ntmps31
    go_wp2_with fail
    go_ret
    refine ⟨?_, (by repeat (first | exact Fine.refl _ | assumption | refine Fine.alloc ?_ _ | refine Fine.drew ?_ | refine Fine.drewN ?_ _ | refine Fine.trans ?_ (by assumption) | (refine Fine.kept ?_ (by assumption) (by intro x hx; first | omega | (simp; omega))) | (refine Fine.setCell ?_ (by first | assumption | (simp; done) | (simp; omega)) _)))⟩
    rw [← HC.out]; rfl
end Go.Proofs.Ytjldgialhgfhmaa
namespace Go.Proofs.Ytjldgialhgfhmaa
set_option linter.unusedVariables false
set_option linter.unusedSimpArgs false
open Go.ChangeShapes Go.WideShapes Go.ChangeAt Go.RowKit
set_option linter.unusedVariables false

theorem sameAll_any (A B : Option Addr) (c d : Nat) (rs ss : List Raw) (ps : List Pc) (v v' : Nat → Prop) (w : World) (hr : RS layP w A c rs) (hs : RS layP w B d ss) (ir : Iss w v rs ps) (is : Iss w v' ss ps) :
    Calls Try.prog 35 #[.slice A rs.length c, .slice B ss.length d] w fun x w' => x = .returned (.bool true) ∧ Fine w w' := by
  have hrl := hr.le
  have hrm := hr.max
  have hsl := hs.le
  have hsm := hs.max
  unfold maxLen at hrm hsm
  have hl : ss.length = rs.length := by rw [is.1, ir.1]
  rw [hl] at hsl ⊢
  have HL := Lib.hid hl; clear hl
  have HR := Lib.hid hr; clear hr
  have HS := Lib.hid hs; clear hs
  have IR := Lib.hid ir; clear ir
  have IS := Lib.hid is; clear is
  go_enter Try.func35, Try.ntmps35
  go_wp2_with fail
  go_loopw [5] (fun i wr => ∃ k : Nat, k ≤ rs.length ∧ i = .int .i64 k ∧ Fine w wr) (fun i _ => rs.length - (intOf i).toNat)
  case atStart => exact ⟨0, Nat.zero_le _, rfl, (by repeat (first | exact Fine.refl _ | assumption | refine Fine.alloc ?_ _ | refine Fine.drew ?_ | refine Fine.drewN ?_ _ | refine Fine.trans ?_ (by assumption) | (refine Fine.kept ?_ (by assumption) (by intro x hx; first | omega | (simp; omega))) | (refine Fine.setCell ?_ (by first | assumption | (simp; done) | (simp; omega)) _)))⟩
  case round =>
    obtain ⟨k, hk, rfl, hf⟩ := hrel
    by_cases hlt : k < rs.length
    · obtain ⟨r, hr0⟩ : ∃ r, rs[k]? = some r := ⟨rs[k]'hlt, by rw [List.getElem?_eq_getElem]⟩
      obtain ⟨s, hs0⟩ : ∃ s, ss[k]? = some s := ⟨ss[k]'(by have := HL.out; omega), by rw [List.getElem?_eq_getElem]⟩
      obtain ⟨p, hp0⟩ : ∃ p, ps[k]? = some p := ⟨ps[k]'(by have := IR.out.1; omega), by rw [List.getElem?_eq_getElem]⟩
      obtain ⟨b1, o1, rfl, hb1, hc1⟩ := (HR.out.fine hf).at_ hr0
      obtain ⟨b2, o2, rfl, hb2, hc2⟩ := (HS.out.fine hf).at_ hs0
      have hsame := Lib.hid (fun w' (hw : Fine wr w') => same_any r s p v v' w' (((IR.out.2 k r p hr0 hp0).fine hf).fine hw) (((IS.out.2 k s p hs0 hp0).fine hf).fine hw))
      clear hr0 hs0 hp0
      obtain ⟨q0, q1, q2, q3, q4, q5, q6, q7⟩ := r
      obtain ⟨p0, p1, p2, p3, p4, p5, p6, p7⟩ := s
      have c0 := hc1 0 (.int .u32 q0) rfl
      have c1 := hc1 1 (.bool q1) rfl
      have c2 := hc1 2 (.bool q2) rfl
      have c3 := hc1 3 (.slice q3 q4 q5) rfl
      have c4 := hc1 4 (.int .i64 q6) rfl
      have c5 := hc1 5 (.bool q7) rfl
      have d0 := hc2 0 (.int .u32 p0) rfl
      have d1 := hc2 1 (.bool p1) rfl
      have d2 := hc2 2 (.bool p2) rfl
      have d3 := hc2 3 (.slice p3 p4 p5) rfl
      have d4 := hc2 4 (.int .i64 p6) rfl
      have d5 := hc2 5 (.bool p7) rfl
      clear hc1 hc2
      simp only [← Nat.add_assoc, Nat.add_zero] at c0 c1 c2 c3 c4 c5 d0 d1 d2 d3 d4 d5
      go_wp2_with fail
      go_region_with (go_at_call 37; refine (hsame.out wr.drew (Fine.refl wr).drew).mono ?_; rintro x w1 ⟨rfl, f1⟩)
      all_goals
        go_wp2_with fail
        go_roundw
        case rel => exact ⟨k + 1, by omega, by go_num, (by repeat (first | exact Fine.refl _ | assumption | refine Fine.alloc ?_ _ | refine Fine.drew ?_ | refine Fine.drewN ?_ _ | refine Fine.trans ?_ (by assumption) | (refine Fine.kept ?_ (by assumption) (by intro x hx; first | omega | (simp; omega))) | (refine Fine.setCell ?_ (by first | assumption | (simp; done) | (simp; omega)) _)))⟩
        case measure => simp [intOf]; omega
    · go_wp2_with fail
      go_ret
      exact ⟨rfl, (by repeat (first | exact Fine.refl _ | assumption | refine Fine.alloc ?_ _ | refine Fine.drew ?_ | refine Fine.drewN ?_ _ | refine Fine.trans ?_ (by assumption) | (refine Fine.kept ?_ (by assumption) (by intro x hx; first | omega | (simp; omega))) | (refine Fine.setCell ?_ (by first | assumption | (simp; done) | (simp; omega)) _)))⟩
end Go.Proofs.Ytjldgialhgfhmaa
namespace Go.Proofs.Ytjldgialhgfhmaa
set_option linter.unusedVariables false
set_option linter.unusedSimpArgs false
open Go.ChangeShapes Go.WideShapes Go.ChangeAt Go.RowKit
set_option linter.unusedVariables false

theorem RS.const (w : World) (C : Array Value) (t : TypeId) (fr : Nat × Nat) (xs : List Int) (c : Nat) (e : C.toList = LB.flat xs) (hc : c = xs.length) (hm : xs.length ≤ maxLen) : RS LB (w.alloc (.cells C t fr)) (some ⟨w.heap.size, 0, none⟩) c xs :=
  ⟨Nat.le_of_eq hc.symm, by omega, (fun e => by cases e), fun _ => ⟨w.heap.size, 0, rfl, (by show w.heap.size < (w.heap.push _).size; simp), fun i v hv => by rw [Nat.zero_add, World.cell?_alloc_mark, ← Array.getElem?_toList, e]; exact hv⟩⟩
set_option maxRecDepth 20000 in
theorem outqWakes_any (w : World) : Calls Try.prog 26 #[] w fun x w' => x = .returned (.bool true) ∧ Fine w w' := by
  have kc := fun (w : World) (C : Array Value) (n c : Nat) => Lib.run_convert_bytes_const (P := Try.prog) w 29 5 C n c Try.underlying29 Try.underlying5
  go_enter Try.func26, Try.ntmps26
  go_wp2_with fail
  refine (new_any 5 w).mono ?_; rintro x w1 ⟨rfl, q1, f1⟩
  have hl1 : w.heap.size < w1.heap.size := by obtain ⟨_, _, _, h, _⟩ := q1; exact h.lt
  have Q1 := Lib.hid q1; clear q1
  go_wp2_with fail
  refine (push_any w.heap.size (· = w.heap.size) (fun _ => False) [] 5 ⟨0, true, false, none, 0, 0, 0, false⟩ ⟨0, true, false, [], 0, false⟩ w1 Q1.out ⟨rfl, rfl, rfl, rfl, rfl, rfl, RS.nil_ _ _, fun b o h _ => by cases h⟩ (fun _ h => h.elim) (by omega) (by simp) (by simp)).mono ?_
  rintro x w2 ⟨r1, F2, rfl, q2, _, k2, hF2⟩
  have f2 : Fine w w2 := f1.kept k2 (fun x hx h => by omega)
  have hF2' : ∀ b, F2 b → w.heap.size ≤ b := fun b hb => by rcases hF2 b hb with h | h <;> omega
  have hl2 := k2.size
  have Q2 : Hid (QB w2 F2 w.heap.size [⟨5, true, false, [], 0, false⟩] 6) := q2
  clear q2 k2 hF2 Q1
  have HB2 : ∀ b, F2 b → b < w2.heap.size := by obtain ⟨_, _, _, _, _, _, _, _, h⟩ := Q2.out; exact h
  go_wp2_with fail
  refine (push_any w.heap.size F2 (· = w2.heap.size) [⟨5, true, false, [], 0, false⟩] 6 ⟨0, false, false, some ⟨w2.heap.size, 0, none⟩, 3, 3, 0, false⟩ ⟨0, false, false, [97, 98, 99], 0, false⟩ _ (Q2.out.fine ((Fine.refl _).alloc _)) ⟨rfl, rfl, rfl, rfl, rfl, rfl, RS.const w2 _ _ _ _ _ rfl rfl (by simp [maxLen]), fun b o h _ => by injection h with h; injection h with h; exact h.symm⟩ (fun b hb h => by subst hb; have := HB2 _ h; omega) (by omega) (by simp) (by simp)).mono ?_
  rintro x w3 ⟨r2, F3, rfl, q3, _, k3, hF3⟩
  have f3 : Fine w w3 := (f2.alloc (.cells #[.int .u8 97, .int .u8 98, .int .u8 99] 5 (3, 4))).kept k3 (fun x hx h => by have := hF2' x h; omega)
  have hF3' : ∀ b, F3 b → w.heap.size ≤ b := fun b hb => by rcases hF3 b hb with h | h; exact hF2' b h; have := f2.size; have := Nat.le_trans ((Fine.refl w2).alloc _).size h; omega
  have Q3 : Hid (QB w3 F3 w.heap.size [⟨5, true, false, [], 0, false⟩, ⟨6, false, false, [97, 98, 99], 0, false⟩] 9) := q3
  clear q3 k3 hF3 Q2 HB2 hF2' f2
  go_wp2_with fail
  refine (end_any _ _ _ _ _ Q3.out).mono ?_
  rintro x w4 ⟨rfl, f4⟩
  have Q4 := Lib.hid (Q3.out.fine f4)
  have f4' := f3.trans f4
  clear Q3 f4 f3
  go_wp2_with fail
  refine (ack_any w.heap.size F3 [⟨5, true, false, [], 0, false⟩, ⟨6, false, false, [97, 98, 99], 0, false⟩] 9 6 w4 Q4.out (by decide) (by simp) (by simp)).mono ?_
  rintro x w5 ⟨A, c, rs, F5, rfl, hr, hi, hA, hq, k5, hF5⟩
  have f5 : Fine w w5 := f4'.kept k5 (fun x hx h => by have := hF3' x h; omega)
  have hi' : Iss w5 (fun b => w4.heap.size ≤ b) rs [⟨5, true, false, [], 0, false⟩] := hi.less (fun b h => h.1)
  have Q5 : Hid (QB w5 F5 w.heap.size [⟨6, false, false, [97, 98, 99], 0, false⟩] 9) := hq
  clear hq hi k5 hF5 Q4 hF3'
  have hl : rs.length = 1 := hi'.1
  obtain ⟨r, rfl⟩ : ∃ r, rs = [r] := by
    match rs, hl with
    | [r], _ => exact ⟨r, rfl⟩
  have hs := (hi'.2 0 r _ rfl rfl).2.1
  obtain ⟨B, off, rfl, hB, hc⟩ := hr.at_ (k := 0) (x := r) rfl
  have c1 : w5.cell? ⟨B, off + 1, none⟩ = some (.bool true) := by have := hc 1 (.bool r.syn) rfl; rw [hs] at this; simpa using this
  clear hc hs hl hi' hr hA
  go_wp2_with fail
  refine (len_any _ _ _ _ _ Q5.out).mono ?_
  rintro x w6 ⟨rfl, f6⟩
  go_wp2_with fail
  go_ret
  exact ⟨rfl, f5.trans f6⟩
end Go.Proofs.Ytjldgialhgfhmaa
namespace Go.Proofs.Ytjldgialhgfhmaa
set_option linter.unusedVariables false
set_option linter.unusedSimpArgs false
open Go.ChangeShapes Go.WideShapes Go.ChangeAt Go.RowKit
set_option linter.unusedVariables false

def eights : List Int := [49, 50, 51, 52, 53, 54, 55, 56]
def pcE (seq : Int) (j : Nat) : Pc := ⟨onN seq (8 * j), false, false, eights, 0, false⟩
def pcsE (seq : Int) (i : Nat) : List Pc := (List.range i).map (pcE seq)
theorem pcsE_len (seq : Int) (i : Nat) : (pcsE seq i).length = i := by simp [pcsE]
theorem onN_add (a m n : Int) : onN (onN a m) n = onN a (m + n) := by unfold onN; omega
theorem onN_zero (a : Int) (h : 0 ≤ a ∧ a < 4294967296) : onN a 0 = a := by unfold onN; omega
theorem onN_bd (a n : Int) : 0 ≤ onN a n ∧ onN a n < 4294967296 := by unfold onN; omega
theorem dist_onN (a m : Int) (h : 0 ≤ a ∧ a < 4294967296) (hm : 0 ≤ m ∧ m < 4294967296) : dist a (onN a m) = m := by unfold dist onN; omega
theorem pcsE_push (seq : Int) (i : Nat) : pushL (pcsE seq i) ⟨0, false, false, eights, 0, false⟩ (onN seq (8 * i)) = pcsE seq (i + 1) := by
  unfold pushL
  rw [if_pos (by decide)]
  simp [pcsE, List.range_succ, pcE, withSeq]
theorem pcsE_cons (seq : Int) (i : Nat) : pcsE seq (i + 1) = pcE seq 0 :: (List.range i).map (fun j => pcE seq (j + 1)) := by
  simp [pcsE, List.range_succ_eq_map, Function.comp_def]
theorem begin_pcsE (seq e : Int) (i : Nat) (h : 0 ≤ seq ∧ seq < 4294967296) : beginQ (pcsE seq (i + 1)) e = seq := by
  rw [pcsE_cons]
  show onN seq (8 * (0 : Nat)) = seq
  exact onN_zero _ h
theorem long_pcE (seq : Int) (j : Nat) : long (pcE seq j) = 8 := rfl
theorem ackK_pcsE_0 (seq a : Int) (i : Nat) (h : a < 8) : ackK (pcsE seq (i + 1)) a = 0 := by
  rw [pcsE_cons]
  have := long_pcE seq 0
  unfold ackK
  split
  · rfl
  · omega
theorem ackK_pcsE_1 (seq a : Int) (i : Nat) (h : 8 ≤ a) (h' : a < 16) : ackK (pcsE seq (i + 1)) a = 1 := by
  rw [pcsE_cons]
  have := long_pcE seq 0
  unfold ackK
  split
  · omega
  · rcases i with _ | i
    · rfl
    · rw [List.range_succ_eq_map]
      have := long_pcE seq (0 + 1)
      simp only [List.map_cons]
      unfold ackK
      split
      · rfl
      · omega
theorem pcsE_small (seq : Int) (i : Nat) : ∀ p ∈ pcsE seq i, p.xs.length ≤ 1000 := by
  intro p hp
  obtain ⟨j, _, rfl⟩ := List.mem_map.1 hp
  show eights.length ≤ 1000
  decide
/-- A queue at g, in blocks that are all new since n. -/
def QN (w : World) (n g : Nat) (ps : List Pc) (e : Int) : Prop := ∃ F, QB w F g ps e ∧ ∀ b, F b → n ≤ b
theorem QN.fine {w w' : World} {n g : Nat} {ps : List Pc} {e : Int} (h : QN w n g ps e) (hf : Fine w w') : QN w' n g ps e := by
  obtain ⟨F, h1, h2⟩ := h
  exact ⟨F, h1.fine hf, h2⟩
theorem lenN_any {w0 w : World} {g : Nat} {ps : List Pc} {e : Int} (hf : Fine w0 w) (h : QN w w0.heap.size g ps e) :
    Calls Try.prog 34 #[.pointer (some ⟨g, 0, none⟩)] w fun x w' => x = .returned (.int .i64 ps.length) ∧ Fine w0 w' ∧ QN w' w0.heap.size g ps e := by
  obtain ⟨F, h1, h2⟩ := h
  refine (len_any g F ps e w h1).mono ?_
  rintro x w' ⟨rfl, f⟩
  exact ⟨rfl, hf.trans f, F, h1.fine f, h2⟩
theorem beginN_any {w0 w : World} {g : Nat} {ps : List Pc} {e : Int} (hf : Fine w0 w) (h : QN w w0.heap.size g ps e) :
    Calls Try.prog 32 #[.pointer (some ⟨g, 0, none⟩)] w fun x w' => x = .returned (.int .u32 (beginQ ps e)) ∧ Fine w0 w' ∧ QN w' w0.heap.size g ps e := by
  obtain ⟨F, h1, h2⟩ := h
  refine (begin_any g F ps e w h1).mono ?_
  rintro x w' ⟨rfl, f⟩
  exact ⟨rfl, hf.trans f, F, h1.fine f, h2⟩
theorem endN_any {w0 w : World} {g : Nat} {ps : List Pc} {e : Int} (hf : Fine w0 w) (h : QN w w0.heap.size g ps e) :
    Calls Try.prog 33 #[.pointer (some ⟨g, 0, none⟩)] w fun x w' => x = .returned (.int .u32 e) ∧ Fine w0 w' ∧ QN w' w0.heap.size g ps e := by
  obtain ⟨F, h1, h2⟩ := h
  refine (end_any g F ps e w h1).mono ?_
  rintro x w' ⟨rfl, f⟩
  exact ⟨rfl, hf.trans f, F, h1.fine f, h2⟩
/-- What Ack tells: pieces that are nobody else's. -/
theorem ackN_any {w0 w : World} {g : Nat} {ps : List Pc} {e a : Int} (hf : Fine w0 w) (h : QN w w0.heap.size g ps e) (ho : dist (beginQ ps e) a ≤ dist (beginQ ps e) e) (hn : ps.length ≤ 1000) (hs : ∀ p ∈ ps, p.xs.length ≤ 1000) :
    Calls Try.prog 30 #[.pointer (some ⟨g, 0, none⟩), .int .u32 a] w fun x w' => ∃ A c rs, x = .returned (.tuple #[.slice A rs.length c, .bool true]) ∧ RS layP w' A c rs ∧ Iss w' (fun b => w.heap.size ≤ b) rs (ps.take (ackK ps (dist (beginQ ps e) a))) ∧ (∀ b o, A = some ⟨b, o, none⟩ → w.heap.size ≤ b) ∧ Fine w0 w' ∧ QN w' w0.heap.size g (ps.drop (ackK ps (dist (beginQ ps e) a))) e ∧ ∃ F, Kept F w w' ∧ QB w F g ps e ∧ (∀ b, F b → w0.heap.size ≤ b) := by
  obtain ⟨F, h1, h2⟩ := h
  refine (ack_any g F ps e a w h1 ho hn hs).mono ?_
  rintro x w' ⟨A, c, rs, F', rfl, h3, h4, h5, h6, h7, h8⟩
  have := hf.size
  refine ⟨A, c, rs, rfl, h3, h4.less (fun b h => h.1), fun b o h => (h5 b o h).1, hf.kept h7 (fun x hx h => by have := h2 x h; omega), ⟨F', h6, fun b hb => ?_⟩, F, h7, h1, h2⟩
  rcases h8 b hb with h | h
  · exact h2 b h
  · omega
theorem push8_any {w0 w : World} {g : Nat} {seq : Int} {i : Nat} (hf : Fine w0 w) (h : QN w w0.heap.size g (pcsE seq i) (onN seq (8 * i))) (hi : i ≤ 900) :
    Calls Try.prog 28 #[.pointer (some ⟨g, 0, none⟩), .agg #[.int .u32 0, .bool false, .bool false, .slice (some ⟨w.heap.size, 0, none⟩) 8 8, .int .i64 0, .bool false]] (w.alloc (.cells #[.int .u8 49, .int .u8 50, .int .u8 51, .int .u8 52, .int .u8 53, .int .u8 54, .int .u8 55, .int .u8 56] 5 (8, 9))) fun x w' => ∃ r' : Raw, x = .returned (.agg (Raw.cells r').toArray) ∧ Fine w0 w' ∧ QN w' w0.heap.size g (pcsE seq (i + 1)) (onN seq (8 * (i + 1 : Nat))) := by
  obtain ⟨F, h1, h2⟩ := h
  have h3 : ∀ b, F b → b < w.heap.size := by obtain ⟨_, _, _, _, _, _, _, _, h⟩ := h1; exact h
  have hs := hf.size
  have ha : Fine w0 (w.alloc (.cells #[.int .u8 49, .int .u8 50, .int .u8 51, .int .u8 52, .int .u8 53, .int .u8 54, .int .u8 55, .int .u8 56] 5 (8, 9))) := hf.alloc _
  have hs2 := ha.size
  refine (push_any g F (· = w.heap.size) (pcsE seq i) (onN seq (8 * i)) ⟨0, false, false, some ⟨w.heap.size, 0, none⟩, 8, 8, 0, false⟩ ⟨0, false, false, eights, 0, false⟩ _ (h1.fine ((Fine.refl w).alloc _)) ⟨rfl, rfl, rfl, rfl, rfl, rfl, RS.const w _ _ _ eights _ rfl rfl (by decide), fun b o h _ => by injection h with h; injection h with h; exact h.symm⟩ (fun b hb h => by subst hb; have := h3 _ h; omega) (onN_bd _ _) (by rw [pcsE_len]; exact hi) (by decide)).mono ?_
  rintro x w' ⟨r', F', rfl, q, _, k, hF'⟩
  rw [pcsE_push, onN_add] at q
  refine ⟨r', rfl, ha.kept k (fun x hx h => by have := h2 x h; omega), F', ?_, fun b hb => ?_⟩
  · rw [show (8 * ((i + 1 : Nat) : Int)) = 8 * (i : Int) + ((long ⟨0, false, false, eights, 0, false⟩ : Nat) : Int) from by show 8 * ((i + 1 : Nat) : Int) = 8 * (i : Int) + 8; omega]
    exact q
  · rcases hF' b hb with h | h
    · exact h2 b h
    · exact Nat.le_trans hs2 h
set_option maxRecDepth 20000 in
theorem outqParts_any (seq n b : Int) (w : World) (hs : 0 ≤ seq ∧ seq < 4294967296) (hn : 0 ≤ n ∧ n < 256) (hb : 0 ≤ b ∧ b < 256) :
    Calls Try.prog 9 #[.int .u32 seq, .int .u8 n, .int .u8 b] w fun x w' => x = .returned (.bool true) ∧ Fine w w' := by
  have kc := fun (w : World) (C : Array Value) (n c : Nat) => Lib.run_convert_bytes_const (P := Try.prog) w 29 5 C n c Try.underlying29 Try.underlying5
  obtain ⟨m, hm⟩ : ∃ m : Nat, n % 6 = (m : Int) := ⟨(n % 6).toNat, by omega⟩
  have hm6 : m < 6 := by omega
  go_enter Try.func9, Try.ntmps9
  go_wp2_with fail
  refine (outqWakes_any _).mono ?_; rintro x w1 ⟨rfl, f1⟩
  go_wp2_with fail
  refine (new_any seq w1).mono ?_; rintro x w2 ⟨rfl, q2, f2⟩
  have hg := f1.size
  obtain ⟨g, hgg⟩ : ∃ g, w1.heap.size = g := ⟨_, rfl⟩
  rw [hgg] at q2 hg ⊢
  have hq0 : QN w2 w.heap.size g (pcsE seq 0) (onN seq (8 * (0 : Nat))) := ⟨_, by rw [show onN seq (8 * (0 : Nat)) = seq from onN_zero _ hs]; exact q2, fun b hb => by subst hb; exact hg⟩
  have fw := f1.trans f2
  clear q2 f1 f2 hgg
  have HQ0 := Lib.hid hq0; clear hq0
  go_wp2_with fail
  have HM := Lib.hid hm; clear hm
  go_loopw [19] (fun s wr => ∃ i : Nat, i ≤ m + 1 ∧ s = .int .i64 i ∧ Fine w wr ∧ Hid (QN wr w.heap.size g (pcsE seq i) (onN seq (8 * i)))) (fun s _ => m + 1 - (intOf s).toNat)
  case atStart => exact ⟨0, Nat.zero_le _, rfl, fw, HQ0⟩
  case round =>
    obtain ⟨i, hi, rfl, hf, hq⟩ := hrel
    by_cases hlt : i < m + 1
    · go_wp2_with fail
      refine (push8_any hf hq.out (by omega)).mono ?_
      rintro x wA ⟨r', rfl, fA, qA⟩
      have QA := Lib.hid qA; clear qA
      go_wp2_with fail
      go_roundw
      case rel => exact ⟨i + 1, by omega, by go_num, fA, QA⟩
      case measure => simp [intOf]; omega
    · obtain rfl : i = m + 1 := by omega
      clear hlt hi
      obtain ⟨L, hL⟩ : ∃ L, pcsE seq (m + 1) = L := ⟨_, rfl⟩
      obtain ⟨e, he⟩ : ∃ e, onN seq (8 * (m + 1 : Nat)) = e := ⟨_, rfl⟩
      obtain ⟨x1, hx1⟩ : ∃ x1 : Int, b % 7 = x1 := ⟨_, rfl⟩
      obtain ⟨x2, hx2⟩ : ∃ x2 : Int, b % 8 = x2 := ⟨_, rfl⟩
      have y1 : 0 ≤ x1 ∧ x1 < 7 := by omega
      have y2 : 0 ≤ x2 ∧ x2 < 8 := by omega
      have hlen : L.length = m + 1 := by rw [← hL]; exact pcsE_len _ _
      have hbeg : beginQ L e = seq := by rw [← hL]; exact begin_pcsE _ _ _ hs
      have hsm : ∀ p ∈ L, p.xs.length ≤ 1000 := by rw [← hL]; exact pcsE_small _ _
      have hde : dist seq e = 8 * (m + 1 : Nat) := by rw [← he]; exact dist_onN _ _ hs (by omega)
      have hd1 : dist seq (onN seq (1 + x1)) = 1 + x1 := dist_onN _ _ hs (by omega)
      have hd2 : dist seq (onN seq (8 + x2)) = 8 + x2 := dist_onN _ _ hs (by omega)
      have hk1 : ackK L (1 + x1) = 0 := by rw [← hL]; exact ackK_pcsE_0 _ _ _ (by omega)
      have hk2 : ackK L (8 + x2) = 1 := by rw [← hL]; exact ackK_pcsE_1 _ _ _ (by omega) (by omega)
      rw [hL, he] at hq
      have HLEN := Lib.hid hlen; clear hlen
      have HBEG := Lib.hid hbeg; clear hbeg
      have HSM := Lib.hid hsm; clear hsm
      have HDE := Lib.hid hde; clear hde
      have HD1 := Lib.hid hd1; clear hd1
      have HD2 := Lib.hid hd2; clear hd2
      have HK1 := Lib.hid hk1; clear hk1
      have HK2 := Lib.hid hk2; clear hk2
      have HL := Lib.hid hL; clear hL
      have HE := Lib.hid he; clear he
      go_wp2_with fail
      refine (lenN_any hf hq.out).mono ?_
      rintro x w3 ⟨hx, f3, q3⟩
      rw [HLEN.out] at hx; subst hx
      have Q3 := Lib.hid q3; clear q3 hq hf
      go_wp2_with fail
      refine (refOn_any seq (1 + x1) hs w3).mono ?_
      rintro x w4 ⟨rfl, f4⟩
      have Q4 := Lib.hid (Q3.out.fine f4)
      have g4 := f3.trans f4
      clear Q3 f4 f3
      go_wp2_with fail
      refine (ackN_any g4 Q4.out (by rw [HBEG.out, HD1.out, HDE.out]; omega) (by rw [HLEN.out]; omega) HSM.out).mono ?_
      rintro x w5 ⟨A, c, rs, rfl, _, hi5, _, f5, q5, _⟩
      rw [HBEG.out, HD1.out, HK1.out, List.drop_zero] at q5
      rw [HBEG.out, HD1.out, HK1.out, List.take_zero] at hi5
      obtain rfl : rs = [] := List.eq_nil_of_length_eq_zero hi5.1
      have Q5 := Lib.hid q5; clear q5 hi5 Q4 g4
      go_wp2_with fail
      refine (lenN_any f5 Q5.out).mono ?_
      rintro x w6 ⟨hx, f6, q6⟩
      rw [HLEN.out] at hx; subst hx
      have Q6 := Lib.hid q6; clear q6 Q5 f5
      go_wp2_with fail
      refine (beginN_any f6 Q6.out).mono ?_
      rintro x w7 ⟨hx, f7, q7⟩
      rw [HBEG.out] at hx; subst hx
      have Q7 := Lib.hid q7; clear q7 Q6 f6
      go_wp2_with fail
      refine (refOn_any seq (8 + x2) hs w7).mono ?_
      rintro x w8 ⟨rfl, f8⟩
      have Q8 := Lib.hid (Q7.out.fine f8)
      have g8 := f7.trans f8
      clear Q7 f8 f7
      go_wp2_with fail
      by_cases hov : (8 : Int) * (m + 1 : Nat) < 8 + x2
      · obtain rfl : m = 0 := by omega
        have hx0 : 0 < x2 := by omega
        obtain ⟨F, hF, _⟩ := Q8.out
        refine (ack_over g F L e (onN seq (8 + x2)) w8 hF (by rw [HBEG.out, HD2.out, HDE.out]; exact hov)).mono ?_
        rintro x w9 ⟨rfl, f9⟩
        have f10 := g8.trans f9
        clear hF
        go_wp2_with fail
        go_ret
        exact ⟨rfl, f10⟩
      · refine (ackN_any g8 Q8.out (by rw [HBEG.out, HD2.out, HDE.out]; omega) (by rw [HLEN.out]; omega) HSM.out).mono ?_
        rintro x w9 ⟨A', c', rs', rfl, _, hi9, _, f9, q9, _⟩
        rw [HBEG.out, HD2.out, HK2.out] at q9
        rw [HBEG.out, HD2.out, HK2.out] at hi9
        have hl9 : rs'.length = 1 := by rw [hi9.1, List.length_take, HLEN.out]; omega
        have Q9 := Lib.hid q9; clear q9 hi9 Q8 g8
        have hl10 : (L.drop 1).length = m := by rw [List.length_drop, HLEN.out]; omega
        have HL10 := Lib.hid hl10; clear hl10
        go_wp2_with fail
        refine (lenN_any f9 Q9.out).mono ?_
        rintro x w10 ⟨hx, f10, q10⟩
        rw [HL10.out] at hx; subst hx
        clear q10 Q9 f9
        go_wp2_with fail
        go_ret
        exact ⟨rfl, f10⟩
theorem lawOutqParts (w : World) (seq : Int) (hs : (Lit.int .u32 seq).wf = true) (n : Int) (hn : (Lit.int .u8 n).wf = true) (b : Int) (hb : (Lit.int .u8 b).wf = true) :
    Calls Try.prog 9 #[.int .u32 seq, .int .u8 n, .int .u8 b] w fun x w' => x = .returned (.bool true) ∧ Fine w w' :=
  outqParts_any seq n b w (by have := bounds_u32 hs; omega) (by have := bounds_u8 hn; omega) (by have := bounds_u8 hb; omega)
end Go.Proofs.Ytjldgialhgfhmaa
namespace Go.Proofs.Ytjldgialhgfhmaa
set_option linter.unusedVariables false
set_option linter.unusedSimpArgs false
open Go.ChangeShapes Go.WideShapes Go.ChangeAt Go.RowKit
set_option linter.unusedVariables false

/-- A list of pieces that the caller holds, apart from the blocks X. -/
def OwnP (w : World) (n : Nat) (X : Nat → Prop) (A : Option Addr) (m c : Nat) (ps : List Pc) : Prop :=
  ∃ rs, m = rs.length ∧ Own layP 46 w n (.slice A m c) rs ∧ Iss w (fun b => b < w.heap.size ∧ ¬ X b ∧ (Value.slice A m c).ownBlock ≠ some b) rs ps ∧ ∀ k, (Value.slice A m c).ownBlock = some k → ¬ X k
theorem OwnP.nil_ (w : World) (n : Nat) (X : Nat → Prop) : OwnP w n X none 0 0 [] := ⟨[], rfl, Own.nil_ _ _ _ _, Iss.nil_ _ _, fun k hk => by cases hk⟩
theorem OwnP.kept {w w' : World} {n m c : Nat} {X X' S : Nat → Prop} {A : Option Addr} {ps : List Pc} (h : OwnP w n X A m c ps) (hk : Kept S w w') (hS : ∀ b, b < w.heap.size → S b → X b) (hX : ∀ b, b < w.heap.size → X' b → X b) : OwnP w' n X' A m c ps := by
  obtain ⟨rs, h1, h2, h3, h4⟩ := h
  have hs := hk.size
  refine ⟨rs, h1, h2.kept hk (fun k e s => h4 k e (hS k (h2.lt k e).2 s)), (h3.kept hk (fun b hb s => hb.2.1 (hS b hb.1 s))).less (fun b hb => ⟨by omega, fun x => hb.2.1 (hX b hb.1 x), hb.2.2⟩), fun k e x => h4 k e (hX k (h2.lt k e).2 x)⟩
theorem OwnP.fine {w w' : World} {n m c : Nat} {X X' : Nat → Prop} {A : Option Addr} {ps : List Pc} (h : OwnP w n X A m c ps) (hf : Fine w w') (hX : ∀ b, b < w.heap.size → X' b → X b) : OwnP w' n X' A m c ps :=
  h.kept (Kept.of_fine (S := fun _ => False) hf) (fun _ _ f => f.elim) hX
theorem OwnP.len {w : World} {n m c : Nat} {X : Nat → Prop} {A : Option Addr} {ps : List Pc} (h : OwnP w n X A m c ps) : m = ps.length := by
  obtain ⟨rs, h1, _, h3, _⟩ := h
  rw [h1]; exact h3.1
theorem OwnP.lt {w : World} {n m c : Nat} {X : Nat → Prop} {A : Option Addr} {ps : List Pc} (h : OwnP w n X A m c ps) : ∀ k, (Value.slice A m c).ownBlock = some k → k < w.heap.size := by
  obtain ⟨rs, _, h2, _⟩ := h
  exact fun k e => (h2.lt k e).2
theorem OwnP.app {w w' : World} {n m c m' c' : Nat} {X vY : Nat → Prop} {A A' : Option Addr} {rs ys : List Raw} {ps qs : List Pc}
    (h2 : Own layP 46 w n (.slice A m c) rs) (h3 : Iss w (fun b => b < w.heap.size ∧ ¬ X b ∧ (Value.slice A m c).ownBlock ≠ some b) rs ps) (h4 : ∀ k, (Value.slice A m c).ownBlock = some k → ¬ X k)
    (hO : Own layP 46 w' n (.slice A' m' c') (rs ++ ys)) (hg : w.grownBy w' (Value.slice A m c).ownBlock) (hb : (Value.slice A' m' c').ownBlock = (Value.slice A m c).ownBlock ∨ (Value.slice A' m' c').ownBlock = some w.heap.size)
    (hy : Iss w vY ys qs) (hv : ∀ b, vY b → b < w.heap.size ∧ ¬ X b ∧ (Value.slice A m c).ownBlock ≠ some b) (hX : ∀ b, X b → b < w.heap.size) : OwnP w' n X A' m' c' (ps ++ qs) := by
  have kk : Kept (fun x => (Value.slice A m c).ownBlock = some x) w w' := Kept.grown (Kept.refl _ w) hg (fun k hk _ => hk)
  have hs := kk.size
  have hne : ∀ b, b < w.heap.size → (Value.slice A m c).ownBlock ≠ some b → (Value.slice A' m' c').ownBlock ≠ some b := fun b hb' hn e => by
    rcases hb with h | h
    · exact hn (h ▸ e)
    · rw [h] at e; injection e with e; omega
  refine ⟨rs ++ ys, hO.rs.2, hO, ((h3.kept kk (fun b hb => hb.2.2)).less (fun b hb => ⟨by omega, hb.2.1, hne b hb.1 hb.2.2⟩)).append ((hy.kept kk (fun b hb => (hv b hb).2.2)).less (fun b hb => ⟨by have := (hv b hb).1; omega, (hv b hb).2.1, hne b (hv b hb).1 (hv b hb).2.2⟩)), fun k e x => ?_⟩
  rcases hb with h | h
  · exact h4 k (h ▸ e) x
  · rw [h] at e; injection e with e; have := hX k x; omega

/-! The queue's pieces, one behind the other. -/
def total : List Pc → Nat
  | [] => 0
  | p :: ps => long p + total ps
def Chain : List Pc → Int → Prop
  | [], e => 0 ≤ e ∧ e < 4294967296
  | p :: ps, e => (0 ≤ p.seq ∧ p.seq < 4294967296) ∧ 0 < long p ∧ beginQ ps e = onN p.seq (long p) ∧ Chain ps e
theorem Chain.end_ : ∀ {ps : List Pc} {e : Int}, Chain ps e → 0 ≤ e ∧ e < 4294967296
  | [], _, h => h
  | _ :: _, _, h => Chain.end_ h.2.2.2
theorem Chain.begin_ : ∀ {ps : List Pc} {e : Int}, Chain ps e → 0 ≤ beginQ ps e ∧ beginQ ps e < 4294967296
  | [], _, h => h
  | _ :: _, _, h => h.1
theorem Chain.dist_ : ∀ {ps : List Pc} {e : Int}, Chain ps e → total ps < 4294967296 → dist (beginQ ps e) e = total ps
  | [], e, h, _ => by show dist e e = 0; unfold dist; omega
  | p :: ps, e, h, ht => by
    have ih := Chain.dist_ h.2.2.2 (by simp only [total] at ht; omega)
    rw [h.2.2.1] at ih
    have h0 := h.1
    show dist p.seq e = ((long p + total ps : Nat) : Int)
    simp only [total] at ht
    unfold dist onN at ih
    unfold dist
    omega
theorem Chain.drop : ∀ {ps : List Pc} {e : Int} (k : Nat), Chain ps e → Chain (ps.drop k) e
  | [], _, k, h => by simpa using h
  | _ :: _, _, 0, h => h
  | _ :: _, _, k + 1, h => Chain.drop k h.2.2.2
theorem Chain.push {p : Pc} : ∀ {ps : List Pc} {e : Int}, Chain ps e → 0 < long p → Chain (ps ++ [withSeq p e]) (onN e (long p))
  | [], e, h, hl => ⟨h, hl, rfl, onN_bd _ _⟩
  | q :: qs, e, h, hl => ⟨h.1, h.2.1, by rw [← h.2.2.1]; cases qs <;> rfl, Chain.push h.2.2.2 hl⟩
theorem Chain.pushL {p : Pc} {ps : List Pc} {e : Int} (h : Chain ps e) : Chain (pushL ps p e) (onN e (long p)) := by
  unfold Go.Proofs.Ytjldgialhgfhmaa.pushL
  split
  · rename_i hl; exact h.push hl
  · rename_i hl
    have : long p = 0 := by omega
    rw [this, show ((0 : Nat) : Int) = 0 from rfl, onN_zero _ h.end_]; exact h
theorem total_append (ps qs : List Pc) : total (ps ++ qs) = total ps + total qs := by
  induction ps with
  | nil => simp [total]
  | cons p ps ih => simp only [List.cons_append, total, ih]; omega
theorem total_push (ps : List Pc) (p : Pc) (e : Int) : total (pushL ps p e) = total ps + long p := by
  unfold pushL
  split
  · rw [total_append]; rfl
  · omega
theorem total_drop (ps : List Pc) (k : Nat) : total (ps.drop k) ≤ total ps := by
  have h := total_append (ps.take k) (ps.drop k)
  rw [List.take_append_drop] at h
  omega
theorem len_push (ps : List Pc) (p : Pc) (e : Int) : (pushL ps p e).length ≤ ps.length + 1 := by
  unfold pushL
  split <;> simp
theorem small_push {ps : List Pc} {p : Pc} {e : Int} {M : Nat} (h : ∀ q ∈ ps, q.xs.length ≤ M) (hp : p.xs.length ≤ M) : ∀ q ∈ pushL ps p e, q.xs.length ≤ M := by
  unfold pushL
  split
  · intro q hq
    rcases List.mem_append.1 hq with h1 | h1
    · exact h q h1
    · simp at h1; subst h1; exact hp
  · exact h
theorem ackK_all : ∀ (ps : List Pc) (c : Int), (total ps : Int) ≤ c → ackK ps c = ps.length
  | [], _, _ => rfl
  | p :: ps, c, h => by
    simp only [total] at h
    unfold ackK
    split
    · omega
    · rw [ackK_all ps (c - long p) (by omega)]; rfl
theorem long_le (p : Pc) : long p ≤ p.xs.length + 2 := by unfold long; split <;> split <;> omega

theorem refLong_any (r : Raw) (p : Pc) (v : Nat → Prop) (w : World) (hp : Is w v r p) (hs : p.xs.length ≤ 1000) :
    Calls Try.prog 29 #[.agg r.cells.toArray] w fun e w' => e = .returned (.int .i64 (long p)) ∧ Fine w w' := by
  obtain ⟨h1, h2, h3, h4, h5, h6, h7, h8⟩ := hp
  obtain ⟨seq, syn, fin, A, len, cap, dsn, last⟩ := r
  simp only at h1 h2 h3 h4 h5 h6
  clear h7 h8
  have hlen : (len : Int) = p.xs.length := by omega
  have hlo : (len : Int) ≤ 1000 := by omega
  have hlong : ((long p : Nat) : Int) = len + (if syn then 1 else 0) + (if fin then 1 else 0) := by
    unfold long; rw [← h2, ← h3, ← h6]; cases syn <;> cases fin <;> simp
  clear hlen hs h6 h2 h3
  have HL := Lib.hid hlong; clear hlong
  show Calls Try.prog 29 #[.agg #[.int .u32 seq, .bool syn, .bool fin, .slice A len cap, .int .i64 dsn, .bool last]] w _
  have hb : Blk (w.alloc (.cells #[.int .u32 seq, .bool syn, .bool fin, .slice A len cap, .int .i64 dsn, .bool last] 46)) w.heap.size 46 #[.int .u32 seq, .bool syn, .bool fin, .slice A len cap, .int .i64 dsn, .bool last] := Blk.new w 46 _
  have c1 := hb.cell 1
  have c2 := hb.cell 2
  have c3 := hb.cell 3
  clear hb
  simp at c1 c2 c3
  cases syn <;> cases fin
  all_goals
    go_enter Try.func29, Try.ntmps29
    go_wp2_with fail
    go_ret
    exact ⟨by rw [HL.out]; simp, (by repeat (first | exact Fine.refl _ | assumption | refine Fine.alloc ?_ _ | refine Fine.drew ?_ | refine Fine.drewN ?_ _ | refine Fine.trans ?_ (by assumption) | (refine Fine.kept ?_ (by assumption) (by intro x hx; first | omega | (simp; omega))) | (refine Fine.setCell ?_ (by first | assumption | (simp; done) | (simp; omega)) _)))⟩
end Go.Proofs.Ytjldgialhgfhmaa
