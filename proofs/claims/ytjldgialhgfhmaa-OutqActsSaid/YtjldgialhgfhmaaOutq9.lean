/- The laws of outq: an acknowledgement within a piece. -/
import Derived.Test.YtjldgialhgfhmaaOutq7
namespace Go.Proofs.Ytjldgialhgfhmaa
open Go.ChangeShapes Go.WideShapes Go.ChangeAt Go.RowKit
set_option linter.unusedVariables false

def eights : List Int := [49, 50, 51, 52, 53, 54, 55, 56]
def pcE (seq : Int) (j : Nat) : Pc := ⟨onN seq (8 * j), false, false, eights, 0, false⟩
def pcsE (seq : Int) (i : Nat) : List Pc := (List.range i).map (pcE seq)
theorem pcsE_len (seq : Int) (i : Nat) : (pcsE seq i).length = i := by simp [pcsE]
theorem onN_add (a m n : Int) : onN (onN a m) n = onN a (m + n) := by unfold onN; omega
theorem onN_zero (a : Int) (h : 0 ≤ a ∧ a < 4294967296) : onN a 0 = a := by unfold onN; omega
theorem onN_bd (a n : Int) : 0 ≤ onN a n ∧ onN a n < 4294967296 := by unfold onN; omega
theorem dist_onN (a m : Int) (h : 0 ≤ a ∧ a < 4294967296) (hm : 0 ≤ m ∧ m < 4294967296) : dist a (onN a m) = m := by unfold dist onN; omega
theorem pcsE_push (seq : Int) (i : Nat) : pushL (pcsE seq i) ⟨0, false, false, eights, 0, false⟩ (onN seq (8 * i)) = pcsE seq (i + 1) := by
  unfold pushL
  rw [if_pos (by decide)]
  simp [pcsE, List.range_succ, pcE, withSeq]
theorem pcsE_cons (seq : Int) (i : Nat) : pcsE seq (i + 1) = pcE seq 0 :: (List.range i).map (fun j => pcE seq (j + 1)) := by
  simp [pcsE, List.range_succ_eq_map, Function.comp_def]
theorem begin_pcsE (seq e : Int) (i : Nat) (h : 0 ≤ seq ∧ seq < 4294967296) : beginQ (pcsE seq (i + 1)) e = seq := by
  rw [pcsE_cons]
  show onN seq (8 * (0 : Nat)) = seq
  exact onN_zero _ h
theorem long_pcE (seq : Int) (j : Nat) : long (pcE seq j) = 8 := rfl
theorem ackK_pcsE_0 (seq a : Int) (i : Nat) (h : a < 8) : ackK (pcsE seq (i + 1)) a = 0 := by
  rw [pcsE_cons]
  have := long_pcE seq 0
  unfold ackK
  split
  · rfl
  · omega
theorem ackK_pcsE_1 (seq a : Int) (i : Nat) (h : 8 ≤ a) (h' : a < 16) : ackK (pcsE seq (i + 1)) a = 1 := by
  rw [pcsE_cons]
  have := long_pcE seq 0
  unfold ackK
  split
  · omega
  · rcases i with _ | i
    · rfl
    · rw [List.range_succ_eq_map]
      have := long_pcE seq (0 + 1)
      simp only [List.map_cons]
      unfold ackK
      split
      · rfl
      · omega
theorem pcsE_small (seq : Int) (i : Nat) : ∀ p ∈ pcsE seq i, p.xs.length ≤ 1000 := by
  intro p hp
  obtain ⟨j, _, rfl⟩ := List.mem_map.1 hp
  show eights.length ≤ 1000
  decide
/-- A queue at g, in blocks that are all new since n. -/
def QN (w : World) (n g : Nat) (ps : List Pc) (e : Int) : Prop := ∃ F, QB w F g ps e ∧ ∀ b, F b → n ≤ b
theorem QN.fine {w w' : World} {n g : Nat} {ps : List Pc} {e : Int} (h : QN w n g ps e) (hf : Fine w w') : QN w' n g ps e := by
  obtain ⟨F, h1, h2⟩ := h
  exact ⟨F, h1.fine hf, h2⟩
theorem lenN_any {w0 w : World} {g : Nat} {ps : List Pc} {e : Int} (hf : Fine w0 w) (h : QN w w0.heap.size g ps e) :
    Calls Try.prog 34 #[.pointer (some ⟨g, 0, none⟩)] w fun x w' => x = .returned (.int .i64 ps.length) ∧ Fine w0 w' ∧ QN w' w0.heap.size g ps e := by
  obtain ⟨F, h1, h2⟩ := h
  refine (len_any g F ps e w h1).mono ?_
  rintro x w' ⟨rfl, f⟩
  exact ⟨rfl, hf.trans f, F, h1.fine f, h2⟩
theorem beginN_any {w0 w : World} {g : Nat} {ps : List Pc} {e : Int} (hf : Fine w0 w) (h : QN w w0.heap.size g ps e) :
    Calls Try.prog 32 #[.pointer (some ⟨g, 0, none⟩)] w fun x w' => x = .returned (.int .u32 (beginQ ps e)) ∧ Fine w0 w' ∧ QN w' w0.heap.size g ps e := by
  obtain ⟨F, h1, h2⟩ := h
  refine (begin_any g F ps e w h1).mono ?_
  rintro x w' ⟨rfl, f⟩
  exact ⟨rfl, hf.trans f, F, h1.fine f, h2⟩
theorem endN_any {w0 w : World} {g : Nat} {ps : List Pc} {e : Int} (hf : Fine w0 w) (h : QN w w0.heap.size g ps e) :
    Calls Try.prog 33 #[.pointer (some ⟨g, 0, none⟩)] w fun x w' => x = .returned (.int .u32 e) ∧ Fine w0 w' ∧ QN w' w0.heap.size g ps e := by
  obtain ⟨F, h1, h2⟩ := h
  refine (end_any g F ps e w h1).mono ?_
  rintro x w' ⟨rfl, f⟩
  exact ⟨rfl, hf.trans f, F, h1.fine f, h2⟩
/-- What Ack tells: pieces that are nobody else's. -/
theorem ackN_any {w0 w : World} {g : Nat} {ps : List Pc} {e a : Int} (hf : Fine w0 w) (h : QN w w0.heap.size g ps e) (ho : dist (beginQ ps e) a ≤ dist (beginQ ps e) e) (hn : ps.length ≤ 1000) (hs : ∀ p ∈ ps, p.xs.length ≤ 1000) :
    Calls Try.prog 30 #[.pointer (some ⟨g, 0, none⟩), .int .u32 a] w fun x w' => ∃ A c rs, x = .returned (.tuple #[.slice A rs.length c, .bool true]) ∧ RS layP w' A c rs ∧ Iss w' (fun b => w.heap.size ≤ b) rs (ps.take (ackK ps (dist (beginQ ps e) a))) ∧ (∀ b o, A = some ⟨b, o, none⟩ → w.heap.size ≤ b) ∧ Fine w0 w' ∧ QN w' w0.heap.size g (ps.drop (ackK ps (dist (beginQ ps e) a))) e ∧ ∃ F, Kept F w w' ∧ QB w F g ps e ∧ (∀ b, F b → w0.heap.size ≤ b) := by
  obtain ⟨F, h1, h2⟩ := h
  refine (ack_any g F ps e a w h1 ho hn hs).mono ?_
  rintro x w' ⟨A, c, rs, F', rfl, h3, h4, h5, h6, h7, h8⟩
  have := hf.size
  refine ⟨A, c, rs, rfl, h3, h4.less (fun b h => h.1), fun b o h => (h5 b o h).1, hf.kept h7 (fun x hx h => by have := h2 x h; omega), ⟨F', h6, fun b hb => ?_⟩, F, h7, h1, h2⟩
  rcases h8 b hb with h | h
  · exact h2 b h
  · omega
theorem push8_any {w0 w : World} {g : Nat} {seq : Int} {i : Nat} (hf : Fine w0 w) (h : QN w w0.heap.size g (pcsE seq i) (onN seq (8 * i))) (hi : i ≤ 900) :
    Calls Try.prog 28 #[.pointer (some ⟨g, 0, none⟩), .agg #[.int .u32 0, .bool false, .bool false, .slice (some ⟨w.heap.size, 0, none⟩) 8 8, .int .i64 0, .bool false]] (w.alloc (.cells #[.int .u8 49, .int .u8 50, .int .u8 51, .int .u8 52, .int .u8 53, .int .u8 54, .int .u8 55, .int .u8 56] 5 (8, 9))) fun x w' => ∃ r' : Raw, x = .returned (.agg (Raw.cells r').toArray) ∧ Fine w0 w' ∧ QN w' w0.heap.size g (pcsE seq (i + 1)) (onN seq (8 * (i + 1 : Nat))) := by
  obtain ⟨F, h1, h2⟩ := h
  have h3 : ∀ b, F b → b < w.heap.size := by obtain ⟨_, _, _, _, _, _, _, _, h⟩ := h1; exact h
  have hs := hf.size
  have ha : Fine w0 (w.alloc (.cells #[.int .u8 49, .int .u8 50, .int .u8 51, .int .u8 52, .int .u8 53, .int .u8 54, .int .u8 55, .int .u8 56] 5 (8, 9))) := hf.alloc _
  have hs2 := ha.size
  refine (push_any g F (· = w.heap.size) (pcsE seq i) (onN seq (8 * i)) ⟨0, false, false, some ⟨w.heap.size, 0, none⟩, 8, 8, 0, false⟩ ⟨0, false, false, eights, 0, false⟩ _ (h1.fine ((Fine.refl w).alloc _)) ⟨rfl, rfl, rfl, rfl, rfl, rfl, RS.const w _ _ _ eights _ rfl rfl (by decide), fun b o h _ => by injection h with h; injection h with h; exact h.symm⟩ (fun b hb h => by subst hb; have := h3 _ h; omega) (onN_bd _ _) (by rw [pcsE_len]; exact hi) (by decide)).mono ?_
  rintro x w' ⟨r', F', rfl, q, _, k, hF'⟩
  rw [pcsE_push, onN_add] at q
  refine ⟨r', rfl, ha.kept k (fun x hx h => by have := h2 x h; omega), F', ?_, fun b hb => ?_⟩
  · rw [show (8 * ((i + 1 : Nat) : Int)) = 8 * (i : Int) + ((long ⟨0, false, false, eights, 0, false⟩ : Nat) : Int) from by show 8 * ((i + 1 : Nat) : Int) = 8 * (i : Int) + 8; omega]
    exact q
  · rcases hF' b hb with h | h
    · exact h2 b h
    · exact Nat.le_trans hs2 h
set_option maxRecDepth 20000 in
theorem outqParts_any (seq n b : Int) (w : World) (hs : 0 ≤ seq ∧ seq < 4294967296) (hn : 0 ≤ n ∧ n < 256) (hb : 0 ≤ b ∧ b < 256) :
    Calls Try.prog 9 #[.int .u32 seq, .int .u8 n, .int .u8 b] w fun x w' => x = .returned (.bool true) ∧ Fine w w' := by
  have kc := fun (w : World) (C : Array Value) (n c : Nat) => Lib.run_convert_bytes_const (P := Try.prog) w 29 5 C n c Try.underlying29 Try.underlying5
  obtain ⟨m, hm⟩ : ∃ m : Nat, n % 6 = (m : Int) := ⟨(n % 6).toNat, by omega⟩
  have hm6 : m < 6 := by omega
  go_enter Try.func9, Try.ntmps9
  go_wp2_with fail
  refine (outqWakes_any _).mono ?_; rintro x w1 ⟨rfl, f1⟩
  go_wp2_with fail
  refine (new_any seq w1).mono ?_; rintro x w2 ⟨rfl, q2, f2⟩
  have hg := f1.size
  obtain ⟨g, hgg⟩ : ∃ g, w1.heap.size = g := ⟨_, rfl⟩
  rw [hgg] at q2 hg ⊢
  have hq0 : QN w2 w.heap.size g (pcsE seq 0) (onN seq (8 * (0 : Nat))) := ⟨_, by rw [show onN seq (8 * (0 : Nat)) = seq from onN_zero _ hs]; exact q2, fun b hb => by subst hb; exact hg⟩
  have fw := f1.trans f2
  clear q2 f1 f2 hgg
  have HQ0 := Lib.hid hq0; clear hq0
  go_wp2_with fail
  have HM := Lib.hid hm; clear hm
  go_loopw [19] (fun s wr => ∃ i : Nat, i ≤ m + 1 ∧ s = .int .i64 i ∧ Fine w wr ∧ Hid (QN wr w.heap.size g (pcsE seq i) (onN seq (8 * i)))) (fun s _ => m + 1 - (intOf s).toNat)
  case atStart => exact ⟨0, Nat.zero_le _, rfl, fw, HQ0⟩
  case round =>
    obtain ⟨i, hi, rfl, hf, hq⟩ := hrel
    by_cases hlt : i < m + 1
    · go_wp2_with fail
      refine (push8_any hf hq.out (by omega)).mono ?_
      rintro x wA ⟨r', rfl, fA, qA⟩
      have QA := Lib.hid qA; clear qA
      go_wp2_with fail
      go_roundw
      case rel => exact ⟨i + 1, by omega, by go_num, fA, QA⟩
      case measure => simp [intOf]; omega
    · obtain rfl : i = m + 1 := by omega
      clear hlt hi
      obtain ⟨L, hL⟩ : ∃ L, pcsE seq (m + 1) = L := ⟨_, rfl⟩
      obtain ⟨e, he⟩ : ∃ e, onN seq (8 * (m + 1 : Nat)) = e := ⟨_, rfl⟩
      obtain ⟨x1, hx1⟩ : ∃ x1 : Int, b % 7 = x1 := ⟨_, rfl⟩
      obtain ⟨x2, hx2⟩ : ∃ x2 : Int, b % 8 = x2 := ⟨_, rfl⟩
      have y1 : 0 ≤ x1 ∧ x1 < 7 := by omega
      have y2 : 0 ≤ x2 ∧ x2 < 8 := by omega
      have hlen : L.length = m + 1 := by rw [← hL]; exact pcsE_len _ _
      have hbeg : beginQ L e = seq := by rw [← hL]; exact begin_pcsE _ _ _ hs
      have hsm : ∀ p ∈ L, p.xs.length ≤ 1000 := by rw [← hL]; exact pcsE_small _ _
      have hde : dist seq e = 8 * (m + 1 : Nat) := by rw [← he]; exact dist_onN _ _ hs (by omega)
      have hd1 : dist seq (onN seq (1 + x1)) = 1 + x1 := dist_onN _ _ hs (by omega)
      have hd2 : dist seq (onN seq (8 + x2)) = 8 + x2 := dist_onN _ _ hs (by omega)
      have hk1 : ackK L (1 + x1) = 0 := by rw [← hL]; exact ackK_pcsE_0 _ _ _ (by omega)
      have hk2 : ackK L (8 + x2) = 1 := by rw [← hL]; exact ackK_pcsE_1 _ _ _ (by omega) (by omega)
      rw [hL, he] at hq
      have HLEN := Lib.hid hlen; clear hlen
      have HBEG := Lib.hid hbeg; clear hbeg
      have HSM := Lib.hid hsm; clear hsm
      have HDE := Lib.hid hde; clear hde
      have HD1 := Lib.hid hd1; clear hd1
      have HD2 := Lib.hid hd2; clear hd2
      have HK1 := Lib.hid hk1; clear hk1
      have HK2 := Lib.hid hk2; clear hk2
      have HL := Lib.hid hL; clear hL
      have HE := Lib.hid he; clear he
      go_wp2_with fail
      refine (lenN_any hf hq.out).mono ?_
      rintro x w3 ⟨hx, f3, q3⟩
      rw [HLEN.out] at hx; subst hx
      have Q3 := Lib.hid q3; clear q3 hq hf
      go_wp2_with fail
      refine (refOn_any seq (1 + x1) hs w3).mono ?_
      rintro x w4 ⟨rfl, f4⟩
      have Q4 := Lib.hid (Q3.out.fine f4)
      have g4 := f3.trans f4
      clear Q3 f4 f3
      go_wp2_with fail
      refine (ackN_any g4 Q4.out (by rw [HBEG.out, HD1.out, HDE.out]; omega) (by rw [HLEN.out]; omega) HSM.out).mono ?_
      rintro x w5 ⟨A, c, rs, rfl, _, hi5, _, f5, q5, _⟩
      rw [HBEG.out, HD1.out, HK1.out, List.drop_zero] at q5
      rw [HBEG.out, HD1.out, HK1.out, List.take_zero] at hi5
      obtain rfl : rs = [] := List.eq_nil_of_length_eq_zero hi5.1
      have Q5 := Lib.hid q5; clear q5 hi5 Q4 g4
      go_wp2_with fail
      refine (lenN_any f5 Q5.out).mono ?_
      rintro x w6 ⟨hx, f6, q6⟩
      rw [HLEN.out] at hx; subst hx
      have Q6 := Lib.hid q6; clear q6 Q5 f5
      go_wp2_with fail
      refine (beginN_any f6 Q6.out).mono ?_
      rintro x w7 ⟨hx, f7, q7⟩
      rw [HBEG.out] at hx; subst hx
      have Q7 := Lib.hid q7; clear q7 Q6 f6
      go_wp2_with fail
      refine (refOn_any seq (8 + x2) hs w7).mono ?_
      rintro x w8 ⟨rfl, f8⟩
      have Q8 := Lib.hid (Q7.out.fine f8)
      have g8 := f7.trans f8
      clear Q7 f8 f7
      go_wp2_with fail
      by_cases hov : (8 : Int) * (m + 1 : Nat) < 8 + x2
      · obtain rfl : m = 0 := by omega
        have hx0 : 0 < x2 := by omega
        obtain ⟨F, hF, _⟩ := Q8.out
        refine (ack_over g F L e (onN seq (8 + x2)) w8 hF (by rw [HBEG.out, HD2.out, HDE.out]; exact hov)).mono ?_
        rintro x w9 ⟨rfl, f9⟩
        have f10 := g8.trans f9
        clear hF
        go_wp2_with fail
        go_ret
        exact ⟨rfl, f10⟩
      · refine (ackN_any g8 Q8.out (by rw [HBEG.out, HD2.out, HDE.out]; omega) (by rw [HLEN.out]; omega) HSM.out).mono ?_
        rintro x w9 ⟨A', c', rs', rfl, _, hi9, _, f9, q9, _⟩
        rw [HBEG.out, HD2.out, HK2.out] at q9
        rw [HBEG.out, HD2.out, HK2.out] at hi9
        have hl9 : rs'.length = 1 := by rw [hi9.1, List.length_take, HLEN.out]; omega
        have Q9 := Lib.hid q9; clear q9 hi9 Q8 g8
        have hl10 : (L.drop 1).length = m := by rw [List.length_drop, HLEN.out]; omega
        have HL10 := Lib.hid hl10; clear hl10
        go_wp2_with fail
        refine (lenN_any f9 Q9.out).mono ?_
        rintro x w10 ⟨hx, f10, q10⟩
        rw [HL10.out] at hx; subst hx
        clear q10 Q9 f9
        go_wp2_with fail
        go_ret
        exact ⟨rfl, f10⟩
theorem lawOutqParts (w : World) (seq : Int) (hs : (Lit.int .u32 seq).wf = true) (n : Int) (hn : (Lit.int .u8 n).wf = true) (b : Int) (hb : (Lit.int .u8 b).wf = true) :
    Calls Try.prog 9 #[.int .u32 seq, .int .u8 n, .int .u8 b] w fun x w' => x = .returned (.bool true) ∧ Fine w w' :=
  outqParts_any seq n b w (by have := bounds_u32 hs; omega) (by have := bounds_u8 hn; omega) (by have := bounds_u8 hb; omega)
end Go.Proofs.Ytjldgialhgfhmaa
