/- Package outq: Ack. -/
import Derived.Test.YtjldgialhgfhmaaOutq5
import Derived.Deep.DeepCutAuto
import Derived.Deep.LoopGhost
import Derived.Deep.RegionHeld3
namespace Go.Proofs.Ytjldgialhgfhmaa
open Go.ChangeShapes Go.WideShapes Go.ChangeAt Go.RowKit
set_option linter.unusedVariables false

/-- A queue whose pieces are a row that a call has made. -/
theorem QT.ofRow {t : TypeId} {w : World} {g n m : Nat} {x : Value} {e : Int} {rs' : List Raw} {ps' : List Pc} (hb : Blk w g t #[x, .int .u32 e]) (hr : Blk w n 46 (layP.flat rs').toArray) (hi : Iss w (Fresh n w) rs' ps') (hg : g < n) (hm : m = rs'.length) (hmx : m ≤ maxLen) :
    QT t (w.setCell ⟨g, 0, none⟩ (.slice (some ⟨n, 0, none⟩) m m)) (fun b => b = g ∨ (n ≤ b ∧ b < w.heap.size)) g ps' e := by
  subst hm
  have kk : Kept (· = g) w (w.setCell ⟨g, 0, none⟩ (.slice (some ⟨n, 0, none⟩) rs'.length rs'.length)) := Kept.setIn (S := (· = g)) (p := ⟨g, 0, none⟩) (Kept.refl _ _) rfl _
  have e1 : (w.setCell ⟨g, 0, none⟩ (.slice (some ⟨n, 0, none⟩) rs'.length rs'.length)).heap.size = w.heap.size := by simp [World.setCell]
  refine ⟨some ⟨n, 0, none⟩, rs'.length, rs', (hb.set_ 0 _).cast (by simp), (Own.ofBlk hr rfl (show g + 1 ≤ n by omega) hmx).kept kk (fun k hk h => by have h1 : n = k := Option.some.inj hk; omega), (hi.kept kk (fun b h1 h2 => by have := h1.1; omega)).less (fun b h1 => ⟨.inr ⟨Nat.le_of_lt h1.1, h1.2.1⟩, by have := h1.1; omega, fun o ho => by injection ho with ho; injection ho with ho; have := h1.1; omega⟩), .inl rfl, fun b o ho => ?_, fun b h1 => ?_⟩
  · injection ho with ho
    injection ho with ho
    exact .inr ⟨by omega, by have := hr.lt; omega⟩
  · rw [e1]
    rcases h1 with h1 | h1
    · subst h1; exact hb.lt
    · exact h1.2
def AckOf (F : Nat → Prop) (g : Nat) (ps : List Pc) (e : Int) (k : Nat) (w : World) (x : Ending) (w' : World) : Prop :=
  ∃ A c rs' F', x = .returned (.tuple #[.slice A rs'.length c, .bool true]) ∧ RS layP w' A c rs' ∧ Iss w' (fun b => w.heap.size ≤ b ∧ b < w'.heap.size ∧ ¬ F' b) rs' (ps.take k) ∧ (∀ b o, A = some ⟨b, o, none⟩ → w.heap.size ≤ b ∧ b < w'.heap.size ∧ ¬ F' b) ∧ QB w' F' g (ps.drop k) e ∧ Kept F w w' ∧ (∀ b, F' b → F b ∨ w.heap.size ≤ b)
theorem ack_end {w wr w2 w3 : World} {F : Nat → Prop} {g j m : Nat} {x : Value} {e : Int} {ps : List Pc} {rs2 rs3 : List Raw} (hF : F g) (hgl : g < w.heap.size) (f1 : Fine w wr) (f2 : Fine wr w2) (f3 : Fine w2 w3)
    (hb : Blk w3 g 107 #[x, .int .u32 e]) (b2 : Blk w2 wr.heap.size 46 (layP.flat rs2).toArray) (i2 : Iss w2 (Fresh wr.heap.size w2) rs2 (ps.take j)) (l2 : rs2.length = j) (b3 : Blk w3 w2.heap.size 46 (layP.flat rs3).toArray) (i3 : Iss w3 (Fresh w2.heap.size w3) rs3 (ps.drop j)) (l3 : rs3.length = m) (hj : j ≤ maxLen) (hm : m ≤ maxLen) :
    AckOf F g ps e j w (.returned (.tuple #[.slice (some ⟨wr.heap.size, 0, none⟩) j j, .bool true])) (w3.setCell ⟨g, 0, none⟩ (.slice (some ⟨w2.heap.size, 0, none⟩) m m)) := by
  have h1 := f1.size
  have h2 := f2.size
  have h3 := f3.size
  have kk : Kept (· = g) w3 (w3.setCell ⟨g, 0, none⟩ (.slice (some ⟨w2.heap.size, 0, none⟩) m m)) := Kept.setIn (S := (· = g)) (p := ⟨g, 0, none⟩) (Kept.refl _ _) rfl _
  have h4 := kk.size
  have b2l := b2.lt
  refine ⟨some ⟨wr.heap.size, 0, none⟩, j, rs2, _, by rw [l2], (RS.ofBlk (b2.fine f3) rfl l2.symm hj).kept kk (fun b o ho h => by injection ho with ho; injection ho with ho; omega), ((i2.fine f3).kept kk (fun b hb h => by have := hb.1; omega)).less (fun b hb => by have := hb.1; have := hb.2; exact ⟨by omega, by omega, fun h => by omega⟩), fun b o ho => by injection ho with ho; injection ho with ho; exact ⟨by omega, by omega, fun h => by omega⟩, QT.ofRow hb b3 i3 (by omega) l3.symm hm, ((Kept.of_fine (S := F) ((f1.trans f2).trans f3))).transG kk (fun _ _ s => s) (fun y hy s => by subst s; exact hF), fun b hb => ?_⟩
  rcases hb with hb | hb
  · subst hb; exact .inl hF
  · exact .inr (by omega)
theorem ack_any (g : Nat) (F : Nat → Prop) (ps : List Pc) (e a : Int) (w : World) (h : QB w F g ps e) (ho : dist (beginQ ps e) a ≤ dist (beginQ ps e) e) (hn' : ps.length ≤ 1000) (hs' : ∀ p ∈ ps, p.xs.length ≤ 1000) :
    Calls Try.prog 30 #[.pointer (some ⟨g, 0, none⟩), .int .u32 a] w (AckOf F g ps e (ackK ps (dist (beginQ ps e) a)) w) := by
  have H := Lib.hid h; clear h
  have c1 := H.out.endAt.1
  have hgl := H.out.endAt.2.2.1
  obtain ⟨b, hb⟩ : ∃ b, beginQ ps e = b := ⟨_, rfl⟩
  have HBg := Lib.hid (fun w' (hf : Fine w w') => begin_any g F ps e w' (H.out.fine hf))
  rw [hb] at HBg ho
  have HEB := Lib.hid hb; clear hb
  have d1 := dist_bd b e
  have d2 := dist_bd b a
  obtain ⟨m, hm⟩ : ∃ m, dist b e = m := ⟨_, rfl⟩
  obtain ⟨n, hn⟩ : ∃ n, dist b a = n := ⟨_, rfl⟩
  have HM := Lib.hid (fun w' => Steps_any b e w')
  have HN := Lib.hid (fun w' => Steps_any b a w')
  rw [hm] at HM d1 ho
  rw [hn] at HN d2 ho
  have HEN := Lib.hid hn; clear hm hn
  go_enter Try.func30, Try.ntmps30
  go_wp2_with fail
  go_step3
  go_wp2_with fail
  go_region_held3 (fun w' => w'.cell? ⟨g, 1, none⟩ = some (.int .u32 e)) (first | exact c1 | exact (fA.cell (p := ⟨g, 1, none⟩) hgl).trans c1 | exact ((fA.trans fB).cell (p := ⟨g, 1, none⟩) hgl).trans c1) (first | (go_at_call 32; refine (HBg.out w.drew (Fine.refl w).drew).mono ?_; rintro x wA ⟨rfl, fA0⟩; have fA : Fine w wA := (Fine.refl w).drew.trans fA0) | (go_at_call 67; refine (HM.out _).mono ?_; rintro x wB ⟨rfl, fB⟩))
  go_wp2_with fail
  refine (HBg.out wB (fA.trans fB)).mono ?_; rintro x wC ⟨rfl, fC⟩
  go_wp2_with fail
  refine (HN.out wC).mono ?_; rintro x wD ⟨rfl, fD⟩
  go_wp2_with fail
  go_step3
  go_wp2_with fail
  go_loopg [8, 7] ps.length (fun gk s8 s7 wr => ∃ j : Nat, j ≤ ps.length ∧ gk = ps.length - j ∧ s8 = .int .i64 j ∧ ∃ z : Int, s7 = .int .i64 z ∧ 0 ≤ z ∧ z < 4294967296 ∧ ackK ps n = ackK (ps.drop j) z + j ∧ Fine w wr)
  case atStart => exact ⟨0, Nat.zero_le _, rfl, rfl, n, rfl, by omega, by omega, by simp, (by repeat (first | exact Fine.refl _ | assumption | refine Fine.alloc ?_ _ | refine Fine.drew ?_ | refine Fine.drewN ?_ _ | refine Fine.trans ?_ (by assumption) | (refine Fine.kept ?_ (by assumption) (by intro x hx; first | omega | (simp; omega))) | (refine Fine.setCell ?_ (by first | assumption | (simp; done) | (simp; omega)) _)))⟩
  case round =>
    obtain ⟨j, hj, hg, rfl, z, rfl, hz0, hz1, hk, hf⟩ := hrel
    have HQ := Lib.hid (H.out.fine hf)
    obtain ⟨A, c, rs, h1, h2, h3, h4, h5, h6⟩ := HQ.out
    have g0 : wr.cell? ⟨g, 0, none⟩ = some (.slice A rs.length c) := h1.cell 0
    have hll := Lib.hid h3.1
    have HK := Lib.hid hk; clear hk
    by_cases hlt : j < rs.length
    · obtain ⟨r, hr0⟩ : ∃ r, rs[j]? = some r := ⟨rs[j]'hlt, by rw [List.getElem?_eq_getElem]⟩
      obtain ⟨p, hp0⟩ : ∃ p, ps[j]? = some p := ⟨ps[j]'(by have := hll.out; omega), by rw [List.getElem?_eq_getElem]⟩
      obtain ⟨b1, o1, rfl, hb1, hc1⟩ := h2.rs.1.at_ hr0
      have HL := Lib.hid (fun w' (hw : Fine wr w') hs => long_any r p _ w' ((h3.2 j r p hr0 hp0).fine hw) hs)
      have hle := h2.rs.1.le
      have hmx := h2.rs.1.max
      have hps := hs' p (List.mem_of_getElem? hp0)
      obtain ⟨r0, r1, r2, r3, r4, r5, r6, r7⟩ := r
      have e0 := hc1 0 (.int .u32 r0) rfl
      have e1 := hc1 1 (.bool r1) rfl
      have e2 := hc1 2 (.bool r2) rfl
      have e3 := hc1 3 (.slice r3 r4 r5) rfl
      have e4 := hc1 4 (.int .i64 r6) rfl
      have e5 := hc1 5 (.bool r7) rfl
      simp only [← Nat.add_assoc, Nat.add_zero] at e0 e1 e2 e3 e4 e5
      clear hc1
      have hlp : long p ≤ 1002 := by unfold long; split <;> split <;> omega
      go_wp2_with fail
      refine (HL.out wr (Fine.refl wr) hps).mono ?_; rintro x w2 ⟨rfl, f2⟩
      have g2 : w2.cell? ⟨g, 0, none⟩ = some (.slice (some ⟨b1, o1, none⟩) rs.length c) := (h1.fine f2).cell 0
      have hjc : j ≤ c := by omega
      by_cases hzl : z < (long p : Int)
      · go_wp2_with fail
        have hf2 := hf.trans f2
        have HZ := Lib.hid (show ackK (ps.drop j) z = 0 by rw [List.drop_eq_getElem_cons (by have := hll.out; omega)]; have e9 := (List.getElem?_eq_some_iff.1 hp0).2; rw [e9]; simp only [ackK]; rw [if_pos hzl])
        replace h1 := h1.fine f2; replace h2 := h2.fine f2; replace h3 := h3.fine f2
        clear f2 HL hr0 hp0 g0 e0 e1 e2 e3 e4 e5 hb1
        have hjr : j ≤ rs.length := by have := hll.out; omega
        have htl : (rs.take j).length = j := by rw [List.length_take]; omega
        have HT := own_any _ c (rs.take j) (ps.take j) _ w2 (h2.rs.1.front j hjr) (h3.take j) (by rw [htl]; omega) (fun p hp => hs' p (List.mem_of_mem_take hp))
        rw [htl] at HT
        have HT' := Lib.hid HT; clear HT
        have H1 := Lib.hid h1; have H2 := Lib.hid h2; have H3 := Lib.hid h3; have H4 := Lib.hid h4; have H5 := Lib.hid h5; have H6 := Lib.hid h6
        clear h1 h2 h3 h4 h5 h6 htl
        refine HT'.out.mono ?_; rintro x w4 ⟨rs2, rfl, l2, b2, i2, f2⟩
        have q0 := (H1.out.fine f2).cell 0
        have q1 := (H1.out.fine f2).frozen 0
        simp at q0
        obtain ⟨A', hrun0, hB, _⟩ := H2.out.rs.1.run_behind sliceP j hjr
        have hRB := hB w4 (H2.out.rs.1.fine f2)
        have hdl : (rs.drop j).length = rs.length - j := by simp
        have HU := own_any A' (c - j) (rs.drop j) (ps.drop j) _ w4 hRB ((H3.out.fine f2).drop j) (by rw [hdl]; have := hll.out; omega) (fun p hp => hs' p (List.mem_of_mem_drop hp))
        rw [hdl] at HU
        have HU' := Lib.hid HU; clear HU hdl hRB hB
        have L2 := Lib.hid l2; have B2 := Lib.hid b2; have I2 := Lib.hid i2; have F2 := Lib.hid f2
        clear l2 b2 i2 f2
        go_wp2_with fail
        refine HU'.out.mono ?_; rintro x w5 ⟨rs3, rfl, l3, b3, i3, f3⟩
        have hb3 := (H1.out.fine F2.out).fine f3
        have q2 : w5.cell? ⟨g, 0, none⟩ = some (.slice (some ⟨b1, o1, none⟩) rs.length c) := hb3.cell 0
        have q3 : w5.frozen? ⟨g, 0, none⟩ = false := hb3.frozen 0
        have HB3 := Lib.hid hb3; have B3 := Lib.hid b3; have I3 := Lib.hid i3; have L3 := Lib.hid l3; have F3 := Lib.hid f3
        clear hb3 b3 i3 l3 f3
        go_wp2_with fail
        try rw [Exit.noGoto_ret]
        go_ret2
        have hN : ackK ps (dist (beginQ ps e) a) = j := by
          rw [HEB.out, HEN.out, HK.out, HZ.out]; omega
        rw [hN]
        exact ack_end H4.out hgl hf2 F2.out F3.out HB3.out B2.out I2.out L2.out B3.out I3.out L3.out (by unfold maxLen; omega) (by unfold maxLen; have := hll.out; omega)
      · have HZ := Lib.hid (show ackK (ps.drop j) z = ackK (ps.drop (j + 1)) (z - long p) + 1 by rw [List.drop_eq_getElem_cons (by have := hll.out; omega)]; have e9 := (List.getElem?_eq_some_iff.1 hp0).2; rw [e9]; simp only [ackK]; rw [if_neg hzl])
        have hjp : j < ps.length := by have := hll.out; omega
        go_wp2_with fail
        go_roundg (ps.length - (j + 1))
        case rel => exact ⟨j + 1, by omega, rfl, by go_num, z - long p, by go_num, by omega, by omega, by rw [HK.out, HZ.out]; omega, (by repeat (first | exact Fine.refl _ | assumption | refine Fine.alloc ?_ _ | refine Fine.drew ?_ | refine Fine.drewN ?_ _ | refine Fine.trans ?_ (by assumption) | (refine Fine.kept ?_ (by assumption) (by intro x hx; first | omega | (simp; omega))) | (refine Fine.setCell ?_ (by first | assumption | (simp; done) | (simp; omega)) _)))⟩
        all_goals omega
    · have hjc : j ≤ c := by have := h2.rs.1.le; have := hll.out; omega
      have hjr : j ≤ rs.length := by have := hll.out; omega
      have htl : (rs.take j).length = j := by rw [List.length_take]; omega
      have HT := own_any A c (rs.take j) (ps.take j) _ wr (h2.rs.1.front j hjr) (h3.take j) (by rw [htl]; omega) (fun p hp => hs' p (List.mem_of_mem_take hp))
      rw [htl] at HT
      have HT' := Lib.hid HT; clear HT
      have H1 := Lib.hid h1; have H2 := Lib.hid h2; have H3 := Lib.hid h3; have H4 := Lib.hid h4; have H5 := Lib.hid h5; have H6 := Lib.hid h6
      clear h1 h2 h3 h4 h5 h6 htl
      go_wp2_with fail
      refine HT'.out.mono ?_; rintro x w2 ⟨rs2, rfl, l2, b2, i2, f2⟩
      have q0 := (H1.out.fine f2).cell 0
      have q1 := (H1.out.fine f2).frozen 0
      simp at q0
      obtain ⟨A', hrun0, hB, _⟩ := H2.out.rs.1.run_behind sliceP j hjr
      have hRB := hB w2 (H2.out.rs.1.fine f2)
      have hdl : (rs.drop j).length = rs.length - j := by simp
      have HU := own_any A' (c - j) (rs.drop j) (ps.drop j) _ w2 hRB ((H3.out.fine f2).drop j) (by rw [hdl]; have := hll.out; omega) (fun p hp => hs' p (List.mem_of_mem_drop hp))
      rw [hdl] at HU
      have HU' := Lib.hid HU; clear HU hdl hRB hB
      have L2 := Lib.hid l2; have B2 := Lib.hid b2; have I2 := Lib.hid i2; have F2 := Lib.hid f2
      clear l2 b2 i2 f2
      go_wp2_with fail
      refine HU'.out.mono ?_; rintro x w3 ⟨rs3, rfl, l3, b3, i3, f3⟩
      have hb3 := (H1.out.fine F2.out).fine f3
      have q2 : w3.cell? ⟨g, 0, none⟩ = some (.slice A rs.length c) := hb3.cell 0
      have q3 : w3.frozen? ⟨g, 0, none⟩ = false := hb3.frozen 0
      have HB3 := Lib.hid hb3; have B3 := Lib.hid b3; have I3 := Lib.hid i3; have L3 := Lib.hid l3; have F3 := Lib.hid f3
      clear hb3 b3 i3 l3 f3
      go_wp2_with fail
      try rw [Exit.noGoto_ret]
      go_ret2
      have hN : ackK ps (dist (beginQ ps e) a) = j := by
        rw [HEB.out, HEN.out, HK.out, List.drop_eq_nil_of_le (by have := hll.out; omega)]; simp [ackK]
      rw [hN]
      exact ack_end H4.out hgl hf F2.out F3.out HB3.out B2.out I2.out L2.out B3.out I3.out L3.out (by unfold maxLen; omega) (by unfold maxLen; have := hll.out; omega)
end Go.Proofs.Ytjldgialhgfhmaa
