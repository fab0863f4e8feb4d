/- Two flows: flush. -/
import Derived.Test.YtjldgialhgfhmaaNj
namespace Go.Proofs.Ytjldgialhgfhmaa
set_option linter.unusedVariables false
set_option linter.unusedSimpArgs false
open Go.ChangeShapes Go.WideShapes Go.ChangeAt Go.RowKit Go.Maps
set_option linter.unusedVariables false
set_option linter.unusedSimpArgs false
section
variable {col : Nat → Nat} {w0 w : World} {g : Nat} {P : Pr}
def flush1 (P : Pr) : Pr := { P with f0 := P.f0.flushed, way := fill P.way true P.f0.out }
def mid (P : Pr) (i : Nat) : Pr := if i = 0 then P else if i = 1 then flush1 P else P.flush
theorem take0 {wt : World} (h : PrOf col w0 g P w wt) : ∃ f, wt.cell? ⟨g, 0, none⟩ = some (.pointer (some ⟨f, 0, none⟩)) ∧ Calls Try.prog 53 #[.pointer (some ⟨f, 0, none⟩)] wt fun r wr => ∃ A c ros, r = .returned (.slice A ros.length c) ∧ ∀ tb, InR col w0 w g { P with f0 := P.f0.flushed } tb A c ros P.f0.out 0 wr := by
  obtain ⟨c1, ⟨f0, p1, wA, wc, ks, a0, a1, b0, b1, X⟩, j2, j3⟩ := h
  exact ⟨f0, X.box.cell 0, (out_any X.fl0).mono (fun r wr ho => TookOf.start j2 j3 (X.took0 ho))⟩
theorem take1 {wt : World} (h : PrOf col w0 g P w wt) : ∃ v, wt.cell? ⟨g, 1, none⟩ = some v ∧ Calls Try.prog 53 #[v] wt fun r wr => ∃ A c ros, r = .returned (.slice A ros.length c) ∧ ∀ tb, InR col w0 w g { P with f1 := P.f1.map Fl.flushed } tb A c ros (outOf P.f1) 0 wr := by
  obtain ⟨c1, ⟨f0, p1, wA, wc, ks, a0, a1, b0, b1, X⟩, j2, j3⟩ := h
  refine ⟨_, X.box.cell 1, ?_⟩
  cases hP : P.f1 with
  | none =>
    have e := X.no1 hP
    subst e
    refine (out_nil wt).mono ?_
    rintro r wr ⟨rfl, f⟩
    refine ⟨none, 0, [], rfl, fun tb => ⟨c1, ?_, j2.trans (Kept.of_fine f), j3, RS.nil_ _ _, fun b o e => (by cases e), IsOs.nil_ _ _⟩⟩
    have e2 : ({ P with f1 := (none : Option Fl).map Fl.flushed, way := fill P.way tb ((outOf none).take 0) } : Pr) = P := by rw [List.take_zero, fill_nil]; cases P; simp_all
    show PrS c1 w0 wr g { P with f1 := (none : Option Fl).map Fl.flushed, way := fill P.way tb ((outOf none).take 0) }
    rw [e2]
    exact ⟨f0, none, wA, wc, ks, a0, a1, b0, b1, X.fine_ f⟩
  | some S =>
    obtain ⟨f1, e, h1⟩ := X.fl1 S hP
    subst e
    exact (out_any h1).mono (fun r wr ho => TookOf.start j2 j3 (X.took1 rfl hP ho))
set_option maxHeartbeats 4000000 in
set_option maxRecDepth 20000 in
theorem flush_any (h : PrS col w0 w g P) (hO0 : ∀ o ∈ P.f0.out, o.rst = false ∧ o.p.xs.length ≤ 1000) (hO1 : ∀ o ∈ outOf P.f1, o.rst = false ∧ o.p.xs.length ≤ 1000) :
    Calls Try.prog 46 #[.pointer (some ⟨g, 0, none⟩)] w fun e w' => e = .returned (.tuple #[]) ∧ PrOf col w0 g P.flush w w' := by
  have HH := Lib.hid h
  have HO0 := Lib.hid hO0
  have HO1 := Lib.hid hO1
  clear h hO0 hO1
  go_enter Try.func46, Try.ntmps46
  go_wp2_with fail
  go_loopw [5] (fun s wr => (s = .int .i64 0 ∧ Hid (PrOf col w0 g P w wr)) ∨ (s = .int .i64 1 ∧ Hid (PrOf col w0 g (flush1 P) w wr)) ∨ (s = .int .i64 2 ∧ Hid (PrOf col w0 g P.flush w wr))) (fun s _ => 2 - (intOf s).toNat)
  case atStart => exact .inl ⟨rfl, Lib.hid (PrOf.self HH.out (Fine.refl w))⟩
  case round =>
    rcases hrel with ⟨rfl, HR⟩ | ⟨rfl, HR⟩ | ⟨rfl, HR⟩
    · obtain ⟨f, e0, hc⟩ := take0 HR.out
      have HC := Lib.hid hc
      clear hc
      go_wp2_with fail
      refine HC.out.mono ?_
      rintro r wa hr
      clear HC e0
      obtain ⟨A, c, ros, rfl, hR⟩ := hr
      have HRT := Lib.hid (hR true)
      clear hR
      obtain ⟨n, hn⟩ : ∃ n, ros.length = n := ⟨_, rfl⟩
      have HN := Lib.hid hn
      rw [hn]
      have hnb : n ≤ 9223372036854775807 := by
        obtain ⟨_, _, _, _, rs, _, _⟩ := HRT.out
        have h1 := rs.le
        have h2 := rs.max
        unfold maxLen at h2
        omega
      clear hn
      go_wp2_with fail
      go_loopw [16] (fun s wr => ∃ j : Nat, j ≤ n ∧ s = .int .i64 j ∧ Hid (InR col w0 w g { P with f0 := P.f0.flushed } true A c ros P.f0.out j wr)) (fun s _ => n - (intOf s).toNat)
      case atStart => exact ⟨0, Nat.zero_le _, rfl, HRT⟩
      case round =>
        obtain ⟨j, hj, rfl, HRJ⟩ := hrel
        by_cases hlt : j < n
        · obtain ⟨o, ho⟩ : ∃ o, ros[j]? = some o := ⟨ros[j]'(by have := HN.out; omega), by rw [List.getElem?_eq_getElem]⟩
          obtain ⟨t, ht⟩ : ∃ t, P.f0.out[j]? = some t := by
            obtain ⟨col', h1, h2, h3, h4, h5, h6⟩ := HRJ.out
            exact ⟨P.f0.out[j]'(by have := HN.out; have := h6.1; omega), by rw [List.getElem?_eq_getElem]⟩
          obtain ⟨col1, ⟨f0, p1, wA, wc, ks, a0, a1, b0, b1, X⟩, k2, k3, k4, k5, k6⟩ := HRJ.out
          obtain ⟨b, off, rfl, hbl, hq⟩ := k4.at_ ho
          obtain ⟨⟨seq, syn, fin, A1, len, cap, dsn, last⟩, ack, acks, rst⟩ := o
          have q0 : wr.cell? ⟨b, off + j * 9, none⟩ = some (.int .u32 seq) := hq 0 _ rfl
          have q1 : wr.cell? ⟨b, off + j * 9 + 1, none⟩ = some (.bool syn) := by have := hq 1 _ rfl; rw [← Nat.add_assoc] at this; exact this
          have q2 : wr.cell? ⟨b, off + j * 9 + 2, none⟩ = some (.bool fin) := by have := hq 2 _ rfl; rw [← Nat.add_assoc] at this; exact this
          have q3 : wr.cell? ⟨b, off + j * 9 + 3, none⟩ = some (.slice A1 len cap) := by have := hq 3 _ rfl; rw [← Nat.add_assoc] at this; exact this
          have q4 : wr.cell? ⟨b, off + j * 9 + 4, none⟩ = some (.int .i64 dsn) := by have := hq 4 _ rfl; rw [← Nat.add_assoc] at this; exact this
          have q5 : wr.cell? ⟨b, off + j * 9 + 5, none⟩ = some (.bool last) := by have := hq 5 _ rfl; rw [← Nat.add_assoc] at this; exact this
          have q6 : wr.cell? ⟨b, off + j * 9 + 6, none⟩ = some (.int .u32 ack) := by have := hq 6 _ rfl; rw [← Nat.add_assoc] at this; exact this
          have q7 : wr.cell? ⟨b, off + j * 9 + 7, none⟩ = some (.bool acks) := by have := hq 7 _ rfl; rw [← Nat.add_assoc] at this; exact this
          have q8 : wr.cell? ⟨b, off + j * 9 + 8, none⟩ = some (.bool rst) := by have := hq 8 _ rfl; rw [← Nat.add_assoc] at this; exact this
          obtain ⟨m, hm⟩ : ∃ m, ks.length = m := ⟨_, rfl⟩
          have HM := Lib.hid hm
          have XX := Lib.hid X
          have HE := Lib.hid (fun (wx : World) (f : Fine wr wx) => (by have := (X.fine_ f).box.cell 2; rw [hm] at this; exact this : wx.cell? ⟨g, 2, none⟩ = some (.slice wA m wc)))
          have e2 := HE.out (wr.alloc (.cells #[.int .u32 seq, .bool syn, .bool fin, .slice A1 len cap, .int .i64 dsn, .bool last, .int .u32 ack, .bool acks, .bool rst] 94)) ((Fine.refl wr).alloc _)
          have K2 := Lib.hid k2; have K3 := Lib.hid k3; have K4 := Lib.hid k4; have K5 := Lib.hid k5; have K6 := Lib.hid k6; have HT := Lib.hid ht; have HO := Lib.hid ho
          clear X k2 k3 k4 k5 k6 ht ho hm hq
          by_cases hf : m < 60
          · obtain ⟨x4, hx4⟩ : ∃ z, wr.heap.size = z := ⟨_, rfl⟩
            have b4 := Blk.newAt (w := wr) (t := 94) (cs := #[.int .u32 seq, .bool syn, .bool fin, .slice A1 len cap, .int .i64 dsn, .bool last, .int .u32 ack, .bool acks, .bool rst]) hx4.symm
            have fx := (Fine.refl wr).alloc (.cells #[.int .u32 seq, .bool syn, .bool fin, .slice A1 len cap, .int .i64 dsn, .bool last, .int .u32 ack, .bool acks, .bool rst] 94)
            go_upto_region 7 with fail
            try rw [hx4]
            generalize wr.alloc (.cells #[.int .u32 seq, .bool syn, .bool fin, .slice A1 len cap, .int .i64 dsn, .bool last, .int .u32 ack, .bool acks, .bool rst] 94) = wx at e2 b4 fx ⊢
            have d0 : wx.cell? ⟨x4, 0, none⟩ = some (.int .u32 seq) := b4.cell 0
            have d1 : wx.cell? ⟨x4, 1, none⟩ = some (.bool syn) := b4.cell 1
            have d2 : wx.cell? ⟨x4, 2, none⟩ = some (.bool fin) := b4.cell 2
            have d3 : wx.cell? ⟨x4, 3, none⟩ = some (.slice A1 len cap) := b4.cell 3
            have d4 : wx.cell? ⟨x4, 4, none⟩ = some (.int .i64 dsn) := b4.cell 4
            have d5 : wx.cell? ⟨x4, 5, none⟩ = some (.bool last) := b4.cell 5
            have d6 : wx.cell? ⟨x4, 6, none⟩ = some (.int .u32 ack) := b4.cell 6
            have d7 : wx.cell? ⟨x4, 7, none⟩ = some (.bool acks) := b4.cell 7
            have d8 : wx.cell? ⟨x4, 8, none⟩ = some (.bool rst) := b4.cell 8
            have XW := Lib.hid (XX.out.fine_ fx)
            have HW := Lib.hid (fun (w' : World) (f : Fine wx w') => HE.out w' (fx.trans f))
            have FX := Lib.hid fx
            have HSG := Lib.hid (fun (w' : World) => segment_any ⟨⟨seq, syn, fin, A1, len, cap, dsn, last⟩, ack, acks, rst⟩ t.p.xs w')
            have HEL : Hid ((ks ++ [(⟨true, Ro.sg ⟨⟨seq, syn, fin, A1, len, cap, dsn, last⟩, ack, acks, rst⟩ t.p.xs⟩ : Rk)]).length = m + 1) := Lib.hid (by rw [List.length_append, HM.out]; rfl)
            have e2w : ∀ o, (wx.alloc o).cell? ⟨g, 2, none⟩ = some (.slice wA m wc) := fun o => HW.out _ ((Fine.refl wx).alloc o)
            clear fx b4 q0 q1 q2 q3 q4 q5 q6 q7 q8 hx4
            go_region_law (first | (go_simp; go_at_call 72; refine (HSG.out _).mono ?_; rintro e wE ⟨rfl, fE⟩; have fE' : Fine wx wE := (Fine.refl wx).drew.trans fE; have FE := Lib.hid fE'; have y2 := HW.out wE fE'; have y2a : ∀ o, (wE.alloc o).cell? ⟨g, 2, none⟩ = some (.slice wA m wc) := fun o => HW.out _ (fE'.alloc o); clear fE fE') | (refine step_appE rfl sliceK (.tmp 30) (.tmp 36) rfl 0 (.slice wA m wc) ks rfl (by have := (XW.out.fine_ (FE.out.alloc (.cells (Rk.cells ⟨true, Ro.sg ⟨⟨seq, syn, fin, A1, len, cap, dsn, last⟩, ack, acks, rst⟩ t.p.xs⟩).toArray 114))).way; rw [HM.out] at this; exact this) (some ⟨wE.heap.size, 0, none⟩) 1 1 [⟨true, Ro.sg ⟨⟨seq, syn, fin, A1, len, cap, dsn, last⟩, ack, acks, rst⟩ t.p.xs⟩] rfl rfl (RS.ofBlk (Blk.newAt rfl) rfl rfl (by unfold maxLen; omega)) (by rw [HM.out]; simp; omega) (by rw [HM.out]; simp; unfold maxLen; omega) (Nat.zero_le _) ?_; intro x2 wB oB kB0 gB0 bB; obtain ⟨A3, c3, hx2, _, _⟩ := oB.form; rw [HEL.out] at hx2; subst hx2; have XA := XW.out.fine_ (FE.out.alloc (.cells (Rk.cells ⟨true, Ro.sg ⟨⟨seq, syn, fin, A1, len, cap, dsn, last⟩, ack, acks, rst⟩ t.p.xs⟩).toArray 114)); have KB : Kept (fun y => (Value.slice wA ks.length wc).ownBlock = some y) (wE.alloc (.cells (Rk.cells ⟨true, Ro.sg ⟨⟨seq, syn, fin, A1, len, cap, dsn, last⟩, ack, acks, rst⟩ t.p.xs⟩).toArray 114)) wB := (by rw [HM.out]; exact Kept.grown (Kept.refl _ _) gB0 (fun k hk _ => hk)); have BB := XA.box.kept KB (fun e => by have e := XA.cway g e; rw [XA.cg] at e; cases e); have yB0 := BB.cell 2; have yB1 := BB.frozen 2))
            all_goals
              have JJ := Lib.hid (InR.more XX.out K2.out K3.out K4.out K5.out K6.out HT.out HO.out (HO0.out t (List.mem_of_getElem? HT.out)) (by rw [HM.out]; exact hf) (FX.out.trans (FE.out.alloc _)) KB (by rw [HM.out]) oB (by rw [HM.out]; exact bB))
              clear oB kB0 gB0 bB XA KB FE
              go_wp2_with fail
              go_roundw
              case rel => exact ⟨j + 1, by omega, by go_num, JJ⟩
              case measure => simp [intOf]; omega
          · go_wp2_with fail
            go_roundw
            case rel =>
              have hw : (fill P.way true (P.f0.out.take j)).length = m := by have := congrArg List.length XX.out.wpl; rw [← HM.out]; simpa using this
              exact ⟨j + 1, by omega, by go_num, Lib.hid ((InR.full HRJ.out HT.out (fun h => hf (by rw [← hw]; exact h))).fine_ ((Fine.refl wr).alloc _))⟩
            case measure => simp [intOf]; omega
        · have hie : j = n := by omega
          subst hie
          go_wp2_with fail
          go_roundw
          case rel =>
            have hd := HRJ.out
            rw [← HN.out] at hd
            exact .inr (.inl ⟨by go_num, Lib.hid hd.done⟩)
          case measure => simp [intOf]
    · obtain ⟨v, e0, hc⟩ := take1 HR.out
      have HC := Lib.hid hc
      clear hc
      go_wp2_with fail
      refine HC.out.mono ?_
      rintro r wa hr
      clear HC e0
      obtain ⟨A, c, ros, rfl, hR⟩ := hr
      have HRT := Lib.hid (hR false)
      clear hR
      obtain ⟨n, hn⟩ : ∃ n, ros.length = n := ⟨_, rfl⟩
      have HN := Lib.hid hn
      rw [hn]
      have hnb : n ≤ 9223372036854775807 := by
        obtain ⟨_, _, _, _, rs, _, _⟩ := HRT.out
        have h1 := rs.le
        have h2 := rs.max
        unfold maxLen at h2
        omega
      clear hn
      go_wp2_with fail
      go_loopw [16] (fun s wr => ∃ j : Nat, j ≤ n ∧ s = .int .i64 j ∧ Hid (InR col w0 w g { flush1 P with f1 := (flush1 P).f1.map Fl.flushed } false A c ros (outOf (flush1 P).f1) j wr)) (fun s _ => n - (intOf s).toNat)
      case atStart => exact ⟨0, Nat.zero_le _, rfl, HRT⟩
      case round =>
        obtain ⟨j, hj, rfl, HRJ⟩ := hrel
        by_cases hlt : j < n
        · obtain ⟨o, ho⟩ : ∃ o, ros[j]? = some o := ⟨ros[j]'(by have := HN.out; omega), by rw [List.getElem?_eq_getElem]⟩
          obtain ⟨t, ht⟩ : ∃ t, (outOf (flush1 P).f1)[j]? = some t := by
            obtain ⟨col', h1, h2, h3, h4, h5, h6⟩ := HRJ.out
            exact ⟨(outOf (flush1 P).f1)[j]'(by have := HN.out; have := h6.1; omega), by rw [List.getElem?_eq_getElem]⟩
          obtain ⟨col1, ⟨f0, p1, wA, wc, ks, a0, a1, b0, b1, X⟩, k2, k3, k4, k5, k6⟩ := HRJ.out
          obtain ⟨b, off, rfl, hbl, hq⟩ := k4.at_ ho
          obtain ⟨⟨seq, syn, fin, A1, len, cap, dsn, last⟩, ack, acks, rst⟩ := o
          have q0 : wr.cell? ⟨b, off + j * 9, none⟩ = some (.int .u32 seq) := hq 0 _ rfl
          have q1 : wr.cell? ⟨b, off + j * 9 + 1, none⟩ = some (.bool syn) := by have := hq 1 _ rfl; rw [← Nat.add_assoc] at this; exact this
          have q2 : wr.cell? ⟨b, off + j * 9 + 2, none⟩ = some (.bool fin) := by have := hq 2 _ rfl; rw [← Nat.add_assoc] at this; exact this
          have q3 : wr.cell? ⟨b, off + j * 9 + 3, none⟩ = some (.slice A1 len cap) := by have := hq 3 _ rfl; rw [← Nat.add_assoc] at this; exact this
          have q4 : wr.cell? ⟨b, off + j * 9 + 4, none⟩ = some (.int .i64 dsn) := by have := hq 4 _ rfl; rw [← Nat.add_assoc] at this; exact this
          have q5 : wr.cell? ⟨b, off + j * 9 + 5, none⟩ = some (.bool last) := by have := hq 5 _ rfl; rw [← Nat.add_assoc] at this; exact this
          have q6 : wr.cell? ⟨b, off + j * 9 + 6, none⟩ = some (.int .u32 ack) := by have := hq 6 _ rfl; rw [← Nat.add_assoc] at this; exact this
          have q7 : wr.cell? ⟨b, off + j * 9 + 7, none⟩ = some (.bool acks) := by have := hq 7 _ rfl; rw [← Nat.add_assoc] at this; exact this
          have q8 : wr.cell? ⟨b, off + j * 9 + 8, none⟩ = some (.bool rst) := by have := hq 8 _ rfl; rw [← Nat.add_assoc] at this; exact this
          obtain ⟨m, hm⟩ : ∃ m, ks.length = m := ⟨_, rfl⟩
          have HM := Lib.hid hm
          have XX := Lib.hid X
          have HE := Lib.hid (fun (wx : World) (f : Fine wr wx) => (by have := (X.fine_ f).box.cell 2; rw [hm] at this; exact this : wx.cell? ⟨g, 2, none⟩ = some (.slice wA m wc)))
          have e2 := HE.out (wr.alloc (.cells #[.int .u32 seq, .bool syn, .bool fin, .slice A1 len cap, .int .i64 dsn, .bool last, .int .u32 ack, .bool acks, .bool rst] 94)) ((Fine.refl wr).alloc _)
          have K2 := Lib.hid k2; have K3 := Lib.hid k3; have K4 := Lib.hid k4; have K5 := Lib.hid k5; have K6 := Lib.hid k6; have HT := Lib.hid ht; have HO := Lib.hid ho
          clear X k2 k3 k4 k5 k6 ht ho hm hq
          by_cases hf : m < 60
          · obtain ⟨x4, hx4⟩ : ∃ z, wr.heap.size = z := ⟨_, rfl⟩
            have b4 := Blk.newAt (w := wr) (t := 94) (cs := #[.int .u32 seq, .bool syn, .bool fin, .slice A1 len cap, .int .i64 dsn, .bool last, .int .u32 ack, .bool acks, .bool rst]) hx4.symm
            have fx := (Fine.refl wr).alloc (.cells #[.int .u32 seq, .bool syn, .bool fin, .slice A1 len cap, .int .i64 dsn, .bool last, .int .u32 ack, .bool acks, .bool rst] 94)
            go_upto_region 7 with fail
            try rw [hx4]
            generalize wr.alloc (.cells #[.int .u32 seq, .bool syn, .bool fin, .slice A1 len cap, .int .i64 dsn, .bool last, .int .u32 ack, .bool acks, .bool rst] 94) = wx at e2 b4 fx ⊢
            have d0 : wx.cell? ⟨x4, 0, none⟩ = some (.int .u32 seq) := b4.cell 0
            have d1 : wx.cell? ⟨x4, 1, none⟩ = some (.bool syn) := b4.cell 1
            have d2 : wx.cell? ⟨x4, 2, none⟩ = some (.bool fin) := b4.cell 2
            have d3 : wx.cell? ⟨x4, 3, none⟩ = some (.slice A1 len cap) := b4.cell 3
            have d4 : wx.cell? ⟨x4, 4, none⟩ = some (.int .i64 dsn) := b4.cell 4
            have d5 : wx.cell? ⟨x4, 5, none⟩ = some (.bool last) := b4.cell 5
            have d6 : wx.cell? ⟨x4, 6, none⟩ = some (.int .u32 ack) := b4.cell 6
            have d7 : wx.cell? ⟨x4, 7, none⟩ = some (.bool acks) := b4.cell 7
            have d8 : wx.cell? ⟨x4, 8, none⟩ = some (.bool rst) := b4.cell 8
            have XW := Lib.hid (XX.out.fine_ fx)
            have HW := Lib.hid (fun (w' : World) (f : Fine wx w') => HE.out w' (fx.trans f))
            have FX := Lib.hid fx
            have HSG := Lib.hid (fun (w' : World) => segment_any ⟨⟨seq, syn, fin, A1, len, cap, dsn, last⟩, ack, acks, rst⟩ t.p.xs w')
            have HEL : Hid ((ks ++ [(⟨false, Ro.sg ⟨⟨seq, syn, fin, A1, len, cap, dsn, last⟩, ack, acks, rst⟩ t.p.xs⟩ : Rk)]).length = m + 1) := Lib.hid (by rw [List.length_append, HM.out]; rfl)
            have e2w : ∀ o, (wx.alloc o).cell? ⟨g, 2, none⟩ = some (.slice wA m wc) := fun o => HW.out _ ((Fine.refl wx).alloc o)
            clear fx b4 q0 q1 q2 q3 q4 q5 q6 q7 q8 hx4
            go_region_law (first | (go_simp; go_at_call 72; refine (HSG.out _).mono ?_; rintro e wE ⟨rfl, fE⟩; have fE' : Fine wx wE := (Fine.refl wx).drew.trans fE; have FE := Lib.hid fE'; have y2 := HW.out wE fE'; have y2a : ∀ o, (wE.alloc o).cell? ⟨g, 2, none⟩ = some (.slice wA m wc) := fun o => HW.out _ (fE'.alloc o); clear fE fE') | (refine step_appE rfl sliceK (.tmp 30) (.tmp 36) rfl 0 (.slice wA m wc) ks rfl (by have := (XW.out.fine_ (FE.out.alloc (.cells (Rk.cells ⟨false, Ro.sg ⟨⟨seq, syn, fin, A1, len, cap, dsn, last⟩, ack, acks, rst⟩ t.p.xs⟩).toArray 114))).way; rw [HM.out] at this; exact this) (some ⟨wE.heap.size, 0, none⟩) 1 1 [⟨false, Ro.sg ⟨⟨seq, syn, fin, A1, len, cap, dsn, last⟩, ack, acks, rst⟩ t.p.xs⟩] rfl rfl (RS.ofBlk (Blk.newAt rfl) rfl rfl (by unfold maxLen; omega)) (by rw [HM.out]; simp; omega) (by rw [HM.out]; simp; unfold maxLen; omega) (Nat.zero_le _) ?_; intro x2 wB oB kB0 gB0 bB; obtain ⟨A3, c3, hx2, _, _⟩ := oB.form; rw [HEL.out] at hx2; subst hx2; have XA := XW.out.fine_ (FE.out.alloc (.cells (Rk.cells ⟨false, Ro.sg ⟨⟨seq, syn, fin, A1, len, cap, dsn, last⟩, ack, acks, rst⟩ t.p.xs⟩).toArray 114)); have KB : Kept (fun y => (Value.slice wA ks.length wc).ownBlock = some y) (wE.alloc (.cells (Rk.cells ⟨false, Ro.sg ⟨⟨seq, syn, fin, A1, len, cap, dsn, last⟩, ack, acks, rst⟩ t.p.xs⟩).toArray 114)) wB := (by rw [HM.out]; exact Kept.grown (Kept.refl _ _) gB0 (fun k hk _ => hk)); have BB := XA.box.kept KB (fun e => by have e := XA.cway g e; rw [XA.cg] at e; cases e); have yB0 := BB.cell 2; have yB1 := BB.frozen 2))
            all_goals
              have JJ := Lib.hid (InR.more XX.out K2.out K3.out K4.out K5.out K6.out HT.out HO.out (HO1.out t (List.mem_of_getElem? HT.out)) (by rw [HM.out]; exact hf) (FX.out.trans (FE.out.alloc _)) KB (by rw [HM.out]) oB (by rw [HM.out]; exact bB))
              clear oB kB0 gB0 bB XA KB FE
              go_wp2_with fail
              go_roundw
              case rel => exact ⟨j + 1, by omega, by go_num, JJ⟩
              case measure => simp [intOf]; omega
          · go_wp2_with fail
            go_roundw
            case rel =>
              have hw : (fill (flush1 P).way false ((outOf (flush1 P).f1).take j)).length = m := by have := congrArg List.length XX.out.wpl; rw [← HM.out]; simpa using this
              exact ⟨j + 1, by omega, by go_num, Lib.hid ((InR.full HRJ.out HT.out (fun h => hf (by rw [← hw]; exact h))).fine_ ((Fine.refl wr).alloc _))⟩
            case measure => simp [intOf]; omega
        · have hie : j = n := by omega
          subst hie
          go_wp2_with fail
          go_roundw
          case rel =>
            have hd := HRJ.out
            rw [← HN.out] at hd
            exact .inr (.inr ⟨by go_num, Lib.hid hd.done⟩)
          case measure => simp [intOf]
    · go_wp2_with fail
      exact bodyPost_end (v := .tuple #[]) (by simp [results, Try.results46, go_sem]) rfl ⟨rfl, HR.out⟩
end
end Go.Proofs.Ytjldgialhgfhmaa
