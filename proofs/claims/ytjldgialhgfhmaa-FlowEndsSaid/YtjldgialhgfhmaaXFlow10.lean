/- The law FlowOver. -/
import Derived.Test.YtjldgialhgfhmaaNe
namespace Go.Proofs.Ytjldgialhgfhmaa
set_option linter.unusedVariables false
set_option linter.unusedSimpArgs false
open Go.ChangeShapes Go.WideShapes Go.ChangeAt Go.RowKit Go.Maps
set_option linter.unusedVariables false
set_option linter.unusedSimpArgs false
def seg4 : Sg := ⟨0, 0, 0, 0, 4, 0, false, false, false, false, 0, none, 0, 0, none, 0, 0, []⟩
def overS (iss : Int) : Fl := ((flow0 iss 2 5).send synP 0).kill
theorem overS_is (iss : Int) : (overS iss).st = 11 ∧ (overS iss).has = false ∧ ∃ a b, (overS iss).out = [a, b] ∧ b.rst = true ∧ ((flow0 iss 2 5).send synP 0).out.length ≤ 100000 := by
  have h1 : ((flow0 iss 2 5).send synP 0).st = 2 := by simp [Fl.send, Fl.sent, Fl.pushed, Fl.put, Fl.armed, Fl.arm, flow0]
  have h2 : ∃ a, ((flow0 iss 2 5).send synP 0).out = [a] := by simp [Fl.send, Fl.sent, Fl.pushed, Fl.put, Fl.armed, Fl.arm, flow0]
  obtain ⟨a, ha⟩ := h2
  have h3 : overS iss = ({ (flow0 iss 2 5).send synP 0 with out := ((flow0 iss 2 5).send synP 0).out ++ [((flow0 iss 2 5).send synP 0).telling true] } : Fl).dead := by
    unfold overS Fl.kill
    rw [if_neg (by rw [h1]; omega), if_pos (by rw [h1]; omega)]
  rw [h3]
  refine ⟨rfl, rfl, a, ((flow0 iss 2 5).send synP 0).telling true, ?_, rfl, by rw [ha]; simp⟩
  show ((flow0 iss 2 5).send synP 0).out ++ [_] = _
  rw [ha]
  rfl
set_option maxHeartbeats 4000000 in
set_option maxRecDepth 20000 in
theorem flowOver_main (w : World) (iss : Int) (hi : 0 ≤ iss ∧ iss < 4294967296) (s : Sg) (hdl : s.dl ≤ 50) (hol : s.ol ≤ 50) (n : Int) (hn : 0 ≤ n ∧ n ≤ 255) :
    Calls Try.prog 15 #[.int .u32 iss, .agg s.cells.toArray, .int .u8 n] w fun e w' => e = .returned (.bool true) ∧ Fine w w' := by
  have HH := Lib.hid (fun F w' f S (h : FlS F w' f S) (h10 : 10 ≤ S.st) t => hear_over s t w' h h10)
  obtain ⟨src, dst, sp, dp, seq, ack, syn, acks, fin, rst, win, oA, ol, oc, dA, dl, dc, xs⟩ := s
  dsimp only at hdl hol
  have HH : Hid (∀ (F : Nat → Prop) (w' : World) (f : Nat) (S : Fl), FlS F w' f S → 10 ≤ S.st → ∀ t, Calls Try.prog 55 #[.pointer (some ⟨f, 0, none⟩), .agg #[.int .i64 src, .int .i64 dst, .int .i64 sp, .int .i64 dp, .int .u32 seq, .int .u32 ack, .bool syn, .bool acks, .bool fin, .bool rst, .int .i64 win, .slice oA ol oc, .slice dA dl dc], .int .i64 t] w' fun x w'' => x = .returned heard0 ∧ Fine w' w'') := HH
  obtain ⟨k, hk⟩ : ∃ k : Nat, n.tmod 50 = (k : Int) := ⟨(n.tmod 50).toNat, by have := Int.tmod_nonneg 50 hn.1; omega⟩
  have hkb : k < 50 := by have := Int.tmod_lt_of_pos n (b := 50) (by omega); omega
  have en : IntKind.i64.wrap n = n := IntWalk.i64_in _ (by omega)
  have ek : IntKind.i64.wrap (k : Int) = (k : Int) := IntWalk.i64_in _ (by omega)
  have hg1 : ¬ (dl : Int) > 50 := by omega
  have hg1' : decide (50 < (dl : Int)) = false := decide_eq_false hg1
  have hg2 : ¬ (ol : Int) > 50 := by omega
  have hg2' : decide (50 < (ol : Int)) = false := decide_eq_false hg2
  show Calls Try.prog 15 #[.int .u32 iss, .agg #[.int .i64 src, .int .i64 dst, .int .i64 sp, .int .i64 dp, .int .u32 seq, .int .u32 ack, .bool syn, .bool acks, .bool fin, .bool rst, .int .i64 win, .slice oA ol oc, .slice dA dl dc], .int .u8 n] w _
  obtain ⟨x4, hx4⟩ : ∃ x, w.heap.size = x := ⟨_, rfl⟩
  have b4 := Blk.newAt (w := w) (t := 89) (cs := #[.int .i64 src, .int .i64 dst, .int .i64 sp, .int .i64 dp, .int .u32 seq, .int .u32 ack, .bool syn, .bool acks, .bool fin, .bool rst, .int .i64 win, .slice oA ol oc, .slice dA dl dc]) hx4.symm
  have f4 := (Fine.refl w).alloc (.cells #[.int .i64 src, .int .i64 dst, .int .i64 sp, .int .i64 dp, .int .u32 seq, .int .u32 ack, .bool syn, .bool acks, .bool fin, .bool rst, .int .i64 win, .slice oA ol oc, .slice dA dl dc] 89)
  obtain ⟨o1, o2, oa, ob, o3, o4, o5⟩ := overS_is iss
  have O1 := Lib.hid o1; have O2 := Lib.hid o2; have O3 := Lib.hid o3; have O4 := Lib.hid o4; have O5 := Lib.hid o5
  clear o1 o2 o3 o4 o5
  go_enter Try.func15, Try.ntmps15
  go_upto_region 1 with fail
  generalize w.alloc (.cells #[.int .i64 src, .int .i64 dst, .int .i64 sp, .int .i64 dp, .int .u32 seq, .int .u32 ack, .bool syn, .bool acks, .bool fin, .bool rst, .int .i64 win, .slice oA ol oc, .slice dA dl dc] 89) = w1 at b4 f4 ⊢
  have B1 := Lib.hid b4; have F1 := Lib.hid f4
  have HX4 := Lib.hid hx4
  clear b4 f4 hx4
  go_wp2_with fail
  refine (flowWakes_any w1).mono ?_
  rintro e w2 ⟨rfl, f2⟩
  have B2 := Lib.hid (B1.out.fine f2); have F2 := Lib.hid (F1.out.trans f2)
  have c11 : w2.cell? ⟨x4, 11, none⟩ = some (.slice oA ol oc) := B2.out.cell 11
  have c12 : w2.cell? ⟨x4, 12, none⟩ = some (.slice dA dl dc) := B2.out.cell 12
  clear f2
  go_wp2_with fail
  refine (answer_any iss 0 hi (by omega) seg4 w2).mono ?_
  rintro e w3 ⟨f, F, rfl, h3, hB3, f3⟩
  have B3 := Lib.hid (B2.out.fine f3); have F3 := Lib.hid (F2.out.trans f3)
  have H3 : Hid (FlS F w3 f ((flow0 iss 2 5).send synP 0)) := Lib.hid (by
    have e5 : IntKind.u32.wrap (seg4.seq + 1) = 5 := by decide
    rw [e5] at h3
    exact h3)
  have HB3 : Hid (∀ b, F b → w2.heap.size ≤ b) := Lib.hid hB3
  have hs2 : w.heap.size < w2.heap.size := by have := B2.out.lt; have := HX4.out; omega
  have hs23 : w2.heap.size ≤ w3.heap.size := f3.size
  clear h3 hB3 f3 c11 c12
  go_wp2_with fail
  refine (fkill_any O5.out H3.out).mono ?_
  rintro e w4 ⟨rfl, F4, h4, k4, g4⟩
  have H4 : Hid (FlS F4 w4 f (overS iss)) := Lib.hid h4
  have HB4 : Hid (∀ b, F4 b → w2.heap.size ≤ b) := Lib.hid (fun b hb => (g4 b hb).elim (fun h => HB3.out b h) (fun h => by omega))
  have F4' := Lib.hid (F3.out.kept k4 (fun x hx hh => by have := HB3.out x hh; omega))
  have B4 := Lib.hid (B3.out.kept k4 (fun hh => by have := HB3.out x4 hh; have := B2.out.lt; omega))
  clear h4 k4 g4
  go_wp2_with fail
  refine (out_any H4.out).mono ?_
  rintro e w5 ⟨A5, c5, ros, D5, F5, rfl, rs5, hi5, h5, hF5, hD5, hA5, k5⟩
  rw [O3.out] at hi5
  have hff : F4 f := by obtain ⟨q, A, c, ros, Q, D, hX⟩ := H4.out; exact hX.ff
  have hl5 : ros.length = 2 := hi5.1
  obtain ⟨r0, r1, rfl⟩ : ∃ r0 r1, ros = [r0, r1] := by
    rcases ros with _ | ⟨a, _ | ⟨b, _ | ⟨c, t⟩⟩⟩
    · cases hl5
    · cases hl5
    · exact ⟨a, b, rfl⟩
    · simp at hl5
  have h11 := hi5.2 1 r1 ob rfl rfl
  have hrst : r1.rst = true := h11.2.2.2.trans O4.out
  obtain ⟨bb, oo, rfl, hbb, hcc⟩ := rs5.at_ (k := 1) (x := r1) rfl
  have d8 : w5.cell? ⟨bb, oo + 9 + 8, none⟩ = some (.bool true) := by
    have := hcc 8 _ rfl
    rw [hrst] at this
    simpa using this
  have H5 : Hid (FlS F5 w5 f { overS iss with out := [] }) := Lib.hid h5
  have F5' := Lib.hid (F4'.out.kept k5 (fun x hx hh => by have hh : x = f := hh; have := HB4.out f hff; omega))
  have B5 := Lib.hid (B4.out.kept k5 (fun hh => by have hh : x4 = f := hh; have := HB4.out f hff; have := B2.out.lt; omega))
  have HF5 : Hid (∀ b, F5 b → w2.heap.size ≤ b) := Lib.hid (fun b hb => HB4.out b (hF5 b hb))
  have HST := Lib.hid (state_any h5)
  dsimp only at HST
  rw [O1.out] at HST
  clear rs5 hi5 h5 hF5 hD5 hA5 k5 hl5 h11 hrst hcc hff hbb
  go_wp2_with fail
  refine HST.out.mono ?_
  rintro e w6 ⟨rfl, f6⟩
  have B6 := Lib.hid (B5.out.fine f6); have F6 := Lib.hid (F5'.out.trans f6); have H6 := Lib.hid (H5.out.fine f6)
  clear f6 d8
  go_wp2_with fail
  go_loopw [49] (fun s49 wr => ∃ i : Nat, i ≤ k ∧ s49 = .int .i64 i ∧ Hid (Fine w6 wr)) (fun s49 _ => k - (intOf s49).toNat)
  case atStart => exact ⟨0, Nat.zero_le _, rfl, Lib.hid (Fine.refl _)⟩
  case round =>
    obtain ⟨i, hik, rfl, HF⟩ := hrel
    have HR := Lib.hid (H6.out.fine HF.out)
    by_cases hlt : i < k
    · have ei : IntKind.i64.wrap ((i : Int) + 1) = (i : Int) + 1 := IntWalk.i64_in _ (by omega)
      have c0 : wr.cell? ⟨x4, 0, none⟩ = some (.int .i64 src) := (B6.out.fine HF.out).cell 0
      have c1 : wr.cell? ⟨x4, 1, none⟩ = some (.int .i64 dst) := (B6.out.fine HF.out).cell 1
      have c2 : wr.cell? ⟨x4, 2, none⟩ = some (.int .i64 sp) := (B6.out.fine HF.out).cell 2
      have c3 : wr.cell? ⟨x4, 3, none⟩ = some (.int .i64 dp) := (B6.out.fine HF.out).cell 3
      have c4 : wr.cell? ⟨x4, 4, none⟩ = some (.int .u32 seq) := (B6.out.fine HF.out).cell 4
      have c5 : wr.cell? ⟨x4, 5, none⟩ = some (.int .u32 ack) := (B6.out.fine HF.out).cell 5
      have c6 : wr.cell? ⟨x4, 6, none⟩ = some (.bool syn) := (B6.out.fine HF.out).cell 6
      have c7 : wr.cell? ⟨x4, 7, none⟩ = some (.bool acks) := (B6.out.fine HF.out).cell 7
      have c8 : wr.cell? ⟨x4, 8, none⟩ = some (.bool fin) := (B6.out.fine HF.out).cell 8
      have c9 : wr.cell? ⟨x4, 9, none⟩ = some (.bool rst) := (B6.out.fine HF.out).cell 9
      have c10 : wr.cell? ⟨x4, 10, none⟩ = some (.int .i64 win) := (B6.out.fine HF.out).cell 10
      have c11 : wr.cell? ⟨x4, 11, none⟩ = some (.slice oA ol oc) := (B6.out.fine HF.out).cell 11
      have c12 : wr.cell? ⟨x4, 12, none⟩ = some (.slice dA dl dc) := (B6.out.fine HF.out).cell 12
      have HHR := Lib.hid (HH.out F5 wr f _ HR.out (by rw [O1.out]; omega) (i : Int))
      go_wp2_with fail
      refine HHR.out.mono ?_
      rintro e v1 ⟨rfl, f1⟩
      have K1 := Lib.hid (HF.out.trans f1)
      clear f1 c0 c1 c2 c3 c4 c5 c6 c7 c8 c9 c10 c11 c12 HHR
      go_wp2_with fail
      refine (heardSame_any v1).mono ?_
      rintro e v2 ⟨rfl, f2⟩
      have K2 := Lib.hid (K1.out.trans f2)
      clear f2
      go_wp2_with fail
      refine (expire_no (i : Int) v2 (H6.out.fine K2.out) O2.out).mono ?_
      rintro e v3 ⟨rfl, f3⟩
      have K3 := Lib.hid (K2.out.trans f3)
      clear f3
      go_wp2_with fail
      refine (heardSame_any v3).mono ?_
      rintro e v4 ⟨rfl, f4⟩
      have K4 := Lib.hid (K3.out.trans f4)
      clear f4
      go_wp2_with fail
      refine (kill_over v4 (H6.out.fine K4.out) (by rw [O1.out]; omega)).mono ?_
      rintro e v5 ⟨rfl, f5⟩
      have K5 := Lib.hid (K4.out.trans f5)
      clear f5
      go_wp2_with fail
      exact ⟨⟨i + 1, hlt, by simp, Lib.hid K5.out⟩, by simp only [intOf]; omega⟩
    · have hie : i = k := by omega
      subst hie
      have HAT := Lib.hid (at_any HR.out)
      dsimp only at HAT
      rw [O2.out] at HAT
      clear hlt
      go_wp2_with fail
      refine HAT.out.mono ?_
      rintro e v1 ⟨rfl, f1⟩
      have K1 := Lib.hid (HF.out.trans f1)
      clear f1 HAT
      go_wp2_with fail
      refine (out_any (H6.out.fine K1.out)).mono ?_
      rintro e v2 ⟨A7, c7, ros7, D7, F7, rfl, rs7, hi7, h7, hF7, hD7, hA7, k7⟩
      have hl7 : ros7.length = 0 := hi7.1
      obtain rfl : ros7 = [] := List.eq_nil_of_length_eq_zero hl7
      have H7 : Hid (FlS F7 v2 f { overS iss with out := [] }) := Lib.hid h7
      have hff : F5 f := by obtain ⟨q, A, c, ros, Q, D, hX⟩ := H6.out; exact hX.ff
      have K2 : Hid (Fine w v2) := Lib.hid ((F6.out.trans K1.out).kept k7 (fun x hx hh => by have hh : x = f := hh; have := HF5.out f hff; omega))
      have HST := Lib.hid (state_any h7)
      dsimp only at HST
      rw [O1.out] at HST
      clear rs7 hi7 h7 hF7 hD7 hA7 k7 hl7
      go_wp2_with fail
      refine HST.out.mono ?_
      rintro e v3 ⟨rfl, f3⟩
      have H8 := Lib.hid (H7.out.fine f3); have K3 := Lib.hid (K2.out.trans f3)
      clear f3
      have f4 : Fine v3 (v3.alloc (.cells #[.int .u8 1] 5)) := (Fine.refl v3).alloc _
      have H9 := Lib.hid (H8.out.fine f4); have K4 := Lib.hid (K3.out.trans f4)
      clear f4
      go_wp2_with fail
      refine (send_over _ 1 false 9 _ H9.out (by rw [O1.out]; omega)).mono ?_
      rintro e v4 ⟨rfl, f4⟩
      have H10 := Lib.hid (H9.out.fine f4); have K5 := Lib.hid (K4.out.trans f4)
      clear f4
      go_wp2_with fail
      refine (close_over 9 v4 H10.out (by rw [O1.out]; omega)).mono ?_
      rintro e v5 ⟨rfl, f5⟩
      have H11 := Lib.hid (H10.out.fine f5); have K6 := Lib.hid (K5.out.trans f5)
      clear f5
      go_wp2_with fail
      refine (tell_over v5 H11.out (by rw [O1.out]; omega)).mono ?_
      rintro e v6 ⟨rfl, f6⟩
      have H12 := Lib.hid (H11.out.fine f6); have K7 := Lib.hid (K6.out.trans f6)
      clear f6
      go_wp2_with fail
      refine (probe_over v6 H12.out (by rw [O1.out]; omega)).mono ?_
      rintro e v7 ⟨rfl, f7⟩
      have K8 := Lib.hid (K7.out.trans f7)
      clear f7
      go_wp2_with fail
      go_ret
      exact ⟨rfl, K8.out⟩
set_option maxHeartbeats 2000000 in
set_option maxRecDepth 20000 in
theorem lawFlowOver (w : World) (iss : Int) (wi : (Lit.int .u32 iss).wf = true) (s : Sg) (hs : s.At w) (n : Int) (wn : (Lit.int .u8 n).wf = true) :
    Calls Try.prog 15 #[.int .u32 iss, .agg s.cells.toArray, .int .u8 n] w fun e w' => e = .returned (.bool true) ∧ Below w.heap.size w w' := by
  show Calls _ _ _ _ fun e w' => e = .returned (.bool true) ∧ Fine w w'
  have hi := bounds_u32 wi
  have hn := bounds_u8 wn
  by_cases hl : s.dl ≤ 50 ∧ s.ol ≤ 50
  · exact flowOver_main w iss ⟨hi.1, by omega⟩ s hl.1 hl.2 n hn
  · clear hs hi hn wi wn
    obtain ⟨src, dst, sp, dp, seq, ack, syn, acks, fin, rst, win, oA, ol, oc, dA, dl, dc, xs⟩ := s
    dsimp only at hl
    have key : ∀ K : Prop, (decide (50 < (dl : Int)) = true → K) → (decide (50 < (dl : Int)) = false → decide (50 < (ol : Int)) = true → K) → K := fun K a b => by
      by_cases h : 50 < dl
      · exact a (by simp; omega)
      · exact b (by simp; omega) (by simp; omega)
    show Calls Try.prog 15 #[.int .u32 iss, .agg #[.int .i64 src, .int .i64 dst, .int .i64 sp, .int .i64 dp, .int .u32 seq, .int .u32 ack, .bool syn, .bool acks, .bool fin, .bool rst, .int .i64 win, .slice oA ol oc, .slice dA dl dc], .int .u8 n] w _
    refine key _ (fun g1 => ?_) (fun g1 g2 => ?_)
    all_goals
      clear key hl
      obtain ⟨x4, hx4⟩ : ∃ x, w.heap.size = x := ⟨_, rfl⟩
      have b4 := Blk.newAt (w := w) (t := 89) (cs := #[.int .i64 src, .int .i64 dst, .int .i64 sp, .int .i64 dp, .int .u32 seq, .int .u32 ack, .bool syn, .bool acks, .bool fin, .bool rst, .int .i64 win, .slice oA ol oc, .slice dA dl dc]) hx4.symm
      have f4 := (Fine.refl w).alloc (.cells #[.int .i64 src, .int .i64 dst, .int .i64 sp, .int .i64 dp, .int .u32 seq, .int .u32 ack, .bool syn, .bool acks, .bool fin, .bool rst, .int .i64 win, .slice oA ol oc, .slice dA dl dc] 89)
      go_enter Try.func15, Try.ntmps15
      go_upto_region 1 with fail
      generalize w.alloc (.cells #[.int .i64 src, .int .i64 dst, .int .i64 sp, .int .i64 dp, .int .u32 seq, .int .u32 ack, .bool syn, .bool acks, .bool fin, .bool rst, .int .i64 win, .slice oA ol oc, .slice dA dl dc] 89) = w1 at b4 f4 ⊢
      have B1 := Lib.hid b4; have F1 := Lib.hid f4
      clear b4 f4 hx4
      go_wp2_with fail
      refine (flowWakes_any w1).mono ?_
      rintro e w2 ⟨rfl, f2⟩
      have F2 := Lib.hid (F1.out.trans f2)
      have c11 : w2.cell? ⟨x4, 11, none⟩ = some (.slice oA ol oc) := (B1.out.fine f2).cell 11
      have c12 : w2.cell? ⟨x4, 12, none⟩ = some (.slice dA dl dc) := (B1.out.fine f2).cell 12
      clear f2
      go_wp2_with fail
      go_ret
      exact ⟨rfl, F2.out⟩
end Go.Proofs.Ytjldgialhgfhmaa
