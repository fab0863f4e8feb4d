/- The laws of outq: all is told once. -/
import Derived.Test.YtjldgialhgfhmaaOutq10
import Derived.Test.YtjldgialhgfhmaaOutqOpen
namespace Go.Proofs.Ytjldgialhgfhmaa
open Go.ChangeShapes Go.WideShapes Go.ChangeAt Go.RowKit
set_option linter.unusedVariables false

theorem QT.lt {t : TypeId} {w : World} {F : Nat → Prop} {g : Nat} {ps : List Pc} {e : Int} (h : QT t w F g ps e) : ∀ b, F b → b < w.heap.size := by obtain ⟨_, _, _, _, _, _, _, _, h⟩ := h; exact h
/-- The queue and the list of what was pushed, which the caller holds. -/
def StA (w : World) (n g : Nat) (A : Option Addr) (m c i : Nat) : Prop :=
  ∃ F qs e, QB w F g qs e ∧ (∀ b, F b → n ≤ b) ∧ Chain qs e ∧ total qs ≤ 52 * i ∧ qs.length ≤ i ∧ (∀ q ∈ qs, q.xs.length ≤ 50) ∧ OwnP w n F A m c qs
/-- The queue, what was pushed, and what was told so far. -/
def StB (w : World) (n g : Nat) (Aw : Option Addr) (m cw : Nat) (Ag : Option Addr) (mg cg : Nat) (all qs : List Pc) (e : Int) : Prop :=
  ∃ F gs, QB w F g qs e ∧ (∀ b, F b → n ≤ b) ∧ Chain qs e ∧ total qs ≤ 2600 ∧ (∀ q ∈ qs, q.xs.length ≤ 50) ∧ gs ++ qs = all ∧ all.length ≤ 50 ∧ OwnP w n (fun b => F b ∨ (Value.slice Ag mg cg).ownBlock = some b) Aw m cw all ∧ OwnP w n F Ag mg cg gs
theorem StB.fine {w w' : World} {n g m cw mg cg : Nat} {Aw Ag : Option Addr} {all qs : List Pc} {e : Int} (h : StB w n g Aw m cw Ag mg cg all qs e) (hf : Fine w w') : StB w' n g Aw m cw Ag mg cg all qs e := by
  obtain ⟨F, gs, h1, h2, h3, h4, h5, h6, h7, h8, h9⟩ := h
  exact ⟨F, gs, h1.fine hf, h2, h3, h4, h5, h6, h7, h8.fine hf (fun _ _ h => h), h9.fine hf (fun _ _ h => h)⟩
theorem ackB_any {w0 w : World} {g m cw mg cg : Nat} {Aw Ag : Option Addr} {all qs : List Pc} {e a : Int} (hf : Fine w0 w) (h : StB w w0.heap.size g Aw m cw Ag mg cg all qs e) (ho : dist (beginQ qs e) a ≤ dist (beginQ qs e) e) :
    Calls Try.prog 30 #[.pointer (some ⟨g, 0, none⟩), .int .u32 a] w fun x w' => ∃ A2 c2 rs2 rsG, x = .returned (.tuple #[.slice A2 rs2.length c2, .bool true]) ∧ Fine w0 w' ∧ RS layP w' A2 c2 rs2 ∧ rs2.length ≤ 50 ∧ mg = rsG.length ∧ rsG.length ≤ 50 ∧ Own layP 46 w' w0.heap.size (.slice Ag mg cg) rsG ∧
      ∀ w6 A' m' c', Own layP 46 w6 w0.heap.size (.slice A' m' c') (rsG ++ rs2) → w'.grownBy w6 (Value.slice Ag mg cg).ownBlock → ((Value.slice A' m' c').ownBlock = (Value.slice Ag mg cg).ownBlock ∨ (Value.slice A' m' c').ownBlock = some w'.heap.size) → StB w6 w0.heap.size g Aw m cw A' m' c' all (qs.drop (ackK qs (dist (beginQ qs e) a))) e := by
  obtain ⟨F, gs, h1, h2, h3, h4, h5, h6, h7, h8, h9⟩ := h
  have hl : gs.length + qs.length = all.length := by rw [← h6, List.length_append]
  refine (ack_any g F qs e a w h1 ho (by omega) (fun p hp => by have := h5 p hp; omega)).mono ?_
  rintro x w' ⟨A2, c2, rs2, F', rfl, hR, hI, hA, hq, hk, hF'⟩
  have hlt9 := h9.lt
  have hs := hf.size
  have hs' := hk.size
  have o8 : OwnP w' w0.heap.size (fun b => F' b ∨ (Value.slice Ag mg cg).ownBlock = some b) Aw m cw all := h8.kept hk (fun _ _ h => .inl h) (fun b hb h => h.imp (fun h => (hF' b h).resolve_right (Nat.not_le_of_lt hb)) id)
  have o9 : OwnP w' w0.heap.size F' Ag mg cg gs := h9.kept hk (fun _ _ h => h) (fun b hb h => (hF' b h).resolve_right (Nat.not_le_of_lt hb))
  obtain ⟨rsG, g1, g2, g3, g4⟩ := o9
  have hrl : rs2.length = (qs.take (ackK qs (dist (beginQ qs e) a))).length := hI.1
  have hgl : rsG.length = gs.length := g3.1
  refine ⟨A2, c2, rs2, rsG, rfl, hf.kept hk (fun x hx h => by have := h2 x h; omega), hR, by rw [hrl, List.length_take]; omega, g1, by omega, g2, fun w6 A' m' c' hO hg hb => ?_⟩
  have kk : Kept (fun x => (Value.slice Ag mg cg).ownBlock = some x) w' w6 := Kept.grown (Kept.refl _ w') hg (fun k hk _ => hk)
  refine ⟨F', gs ++ qs.take (ackK qs (dist (beginQ qs e) a)), hq.kept kk (fun b hb h => g4 b h hb), fun b h => ?_, h3.drop _, Nat.le_trans (total_drop _ _) h4, fun q hq => h5 q (List.mem_of_mem_drop hq), by rw [List.append_assoc, List.take_append_drop]; exact h6, h7, ?_, ?_⟩
  · rcases hF' b h with h | h
    · exact h2 b h
    · omega
  · refine o8.kept kk (fun _ _ h => .inr h) (fun b hb' h => ?_)
    rcases h with h | h
    · exact .inl h
    · rcases hb with e | e
      · exact .inr (e ▸ h)
      · rw [e] at h; injection h with h; omega
  · exact OwnP.app g2 g3 g4 hO hg hb hI (fun b hb => ⟨hb.2.1, hb.2.2, fun h => by have := hlt9 b h; omega⟩) (fun b h => hq.lt b h)
set_option maxHeartbeats 1000000 in
set_option maxRecDepth 20000 in
theorem outqAll_any (seq : Int) (A B : Option Addr) (ca cb : Nat) (rs : List Raw) (ps : List Pc) (zs : List Int) (w : World) (hs : 0 ≤ seq ∧ seq < 4294967296) (hr : RS layP w A ca rs) (hp : Iss w (fun b => b < w.heap.size) rs ps) (hz : RS LB w B cb zs) (hzb : ∀ z ∈ zs, 0 ≤ z ∧ z < 256) :
    Calls Try.prog 8 #[.int .u32 seq, .slice A rs.length ca, .slice B zs.length cb] w fun x w' => x = .returned (.bool true) ∧ Fine w w' := by
  have HR := Lib.hid hr; clear hr
  have HP := Lib.hid hp; clear hp
  have HZ := Lib.hid hz; clear hz
  by_cases h1 : 50 < rs.length
  · go_enter Try.func8, Try.ntmps8
    go_wp2_with fail
    refine (outqWakes_any _).mono ?_; rintro x w1 ⟨rfl, f1⟩
    go_wp2_with fail
    go_ret
    exact ⟨rfl, f1⟩
  by_cases h2 : 50 < zs.length
  · go_enter Try.func8, Try.ntmps8
    go_wp2_with fail
    refine (outqWakes_any _).mono ?_; rintro x w1 ⟨rfl, f1⟩
    go_wp2_with fail
    go_ret
    exact ⟨rfl, f1⟩
  go_enter Try.func8, Try.ntmps8
  go_wp2_with fail
  refine (outqWakes_any _).mono ?_; rintro x w1 ⟨rfl, f1⟩
  go_wp2_with fail
  refine (new_any seq w1).mono ?_; rintro x w2 ⟨rfl, q2, f2⟩
  have hg := f1.size
  obtain ⟨g, hgg⟩ : ∃ g, w1.heap.size = g := ⟨_, rfl⟩
  rw [hgg] at q2 hg ⊢
  have fw := f1.trans f2
  have HS : Hid (StA w2 w.heap.size g none 0 0 0) := ⟨_, [], seq, q2, fun b hb => by subst hb; exact hg, hs, by simp [total], by simp, by simp, OwnP.nil_ _ _ _⟩
  clear q2 f1 f2 hgg
  go_wp2_with fail
  go_loopw [33, 8] (fun s33 s8 wr => ∃ (i : Nat) (Aw : Option Addr) (m cw : Nat), i ≤ rs.length ∧ s33 = .int .i64 i ∧ s8 = .slice Aw m cw ∧ Fine w wr ∧ Hid (StA wr w.heap.size g Aw m cw i)) (fun s33 s8 _ => rs.length - (intOf s33).toNat)
  case atStart => exact ⟨0, none, 0, 0, Nat.zero_le _, rfl, rfl, fw, HS⟩
  case round =>
    obtain ⟨i, Aw, m, cw, hi, rfl, rfl, hf, hst⟩ := hrel
    by_cases hlt : i < rs.length
    · obtain ⟨r, hr0⟩ : ∃ r, rs[i]? = some r := ⟨rs[i], List.getElem?_eq_getElem hlt⟩
      obtain ⟨p, hp0⟩ : ∃ p, ps[i]? = some p := ⟨ps[i]'(by have := HP.out.1; omega), List.getElem?_eq_getElem _⟩
      obtain ⟨b1, o1, rfl, hb1, hc1⟩ := (HR.out.fine hf).at_ hr0
      have hip := (HP.out.2 i r p hr0 hp0).fine hf
      have hlenp := hip.2.2.2.2.2.1
      clear hr0 hp0
      obtain ⟨q0, q1, q2, q3, q4, q5, q6, q7⟩ := r
      have HI := Lib.hid hip; clear hip
      simp only at hlenp
      have c0 := hc1 0 (.int .u32 q0) rfl
      have c1 := hc1 1 (.bool q1) rfl
      have c2 := hc1 2 (.bool q2) rfl
      have c3 := hc1 3 (.slice q3 q4 q5) rfl
      have c4 := hc1 4 (.int .i64 q6) rfl
      have c5 := hc1 5 (.bool q7) rfl
      clear hc1
      simp only [← Nat.add_assoc, Nat.add_zero] at c0 c1 c2 c3 c4 c5
      have HLP := Lib.hid hlenp; clear hlenp
      by_cases hbig : 50 < q4
      · go_wp2_with fail
        go_ret
        exact ⟨rfl, (by repeat (first | exact Fine.refl _ | assumption | refine Fine.alloc ?_ _ | refine Fine.drew ?_ | refine Fine.drewN ?_ _ | refine Fine.trans ?_ (by assumption) | (refine Fine.kept ?_ (by assumption) (by intro x hx; first | omega | (simp; omega))) | (refine Fine.setCell ?_ (by first | assumption | (simp; done) | (simp; omega)) _)))⟩
      · have hst' := hst.out
        obtain ⟨F, qs, e, hq, hFn, hch, htot, hql, hsm, hown⟩ := hst'
        have hFl := hq.lt
        have hxs : p.xs.length ≤ 50 := by have := HLP.out; omega
        have hlp := long_le p
        have fB : Fine w (wr.alloc (.cells #[.int .u32 q0, .bool q1, .bool q2, .slice q3 q4 q5, .int .i64 q6, .bool q7] 46)) := hf.alloc _
        have HSM := Lib.hid hsm; clear hsm
        clear hst
        go_wp2_with fail
        refine (push_any g F (fun b => b < w.heap.size) qs e ⟨q0, q1, q2, q3, q4, q5, q6, q7⟩ p _ (hq.fine ((Fine.refl wr).alloc _)) (HI.out.fine ((Fine.refl wr).alloc _)) (fun b hb h => by have := hFn b h; omega) hch.end_ (by omega) (by omega)).mono ?_
        rintro x wA ⟨r', F', rfl, qA, iA, kA, hF'⟩
        have fA : Fine w wA := fB.kept kA (fun x hx h => by have := hFn x h; omega)
        have b10 : Blk wA wr.heap.size 46 #[.int .u32 q0, .bool q1, .bool q2, .slice q3 q4 q5, .int .i64 q6, .bool q7] := (Blk.new wr 46 _).kept kA (fun h => by have := hFl _ h; omega)
        have oA : OwnP wA w.heap.size F' Aw m cw qs := (hown.fine (X' := F) ((Fine.refl wr).alloc _) (fun _ _ h => h)).kept kA (fun _ _ h => h) (fun b hb h => (hF' b h).resolve_right (Nat.not_le_of_lt hb))
        have hs1 : wr.heap.size ≤ (wr.alloc (.cells #[.int .u32 q0, .bool q1, .bool q2, .slice q3 q4 q5, .int .i64 q6, .bool q7] 46)).heap.size := ((Fine.refl wr).alloc _).size
        have hsw := hf.size
        have hFn' : ∀ b, F' b → w.heap.size ≤ b := fun b h => by
          rcases hF' b h with h | h
          · exact hFn b h
          · exact Nat.le_trans hsw (Nat.le_trans hs1 h)
        have iA' : Is wA (fun b => wr.heap.size ≤ b ∧ b < wA.heap.size ∧ ¬ F' b) r' (withSeq p e) := iA.less (fun b h => ⟨Nat.le_trans hs1 h.1, h.2.1, h.2.2.1⟩)
        have HK := Lib.hid hown.lt
        have HQL := Lib.hid hql
        have hchA := hch.pushL (p := p)
        have htA : total (pushL qs p e) ≤ 52 * (i + 1) := by rw [total_push]; omega
        have hlA : (pushL qs p e).length ≤ i + 1 := by have := len_push qs p e; omega
        have hsA := small_push (e := e) HSM.out hxs
        have HE : pushL qs p e = if 0 < long p then qs ++ [withSeq p e] else qs := rfl
        obtain ⟨ℓ, hℓ⟩ : ∃ ℓ, long p = ℓ := ⟨_, rfl⟩
        have hll : ℓ ≤ 52 := by omega
        rw [hℓ] at qA hchA HE
        obtain ⟨qs', hqs'⟩ : ∃ qs', pushL qs p e = qs' := ⟨_, rfl⟩
        obtain ⟨e', he'⟩ : ∃ e', onN e ℓ = e' := ⟨_, rfl⟩
        rw [hqs'] at qA hchA htA hlA hsA HE
        rw [he'] at qA hchA
        clear hqs' he' hch htot hql hown iA hF' fB hFl hq
        have HIA := Lib.hid (((HI.out.fine ((Fine.refl wr).alloc _)).kept kA (fun b hb h => by have := hFn b h; omega)))
        clear kA hFn
        have HLL := Lib.hid hℓ
        clear hℓ hlp
        have QA := Lib.hid qA; clear qA
        have HC := Lib.hid hchA; clear hchA
        have HT := Lib.hid htA; clear htA
        have HA := Lib.hid hlA; clear hlA
        have HSA := Lib.hid hsA; clear hsA
        have HEE := Lib.hid HE; clear HE
        have HFN := Lib.hid hFn'; clear hFn'
        have OA := Lib.hid oA; clear oA
        have IA := Lib.hid iA'; clear iA'
        have d0 : ∀ o, (wA.alloc o).cell? ⟨wr.heap.size, 0, none⟩ = some (.int .u32 q0) := fun o => (b10.alloc o).cell 0
        have d1 : ∀ o, (wA.alloc o).cell? ⟨wr.heap.size, 1, none⟩ = some (.bool q1) := fun o => (b10.alloc o).cell 1
        have d2 : ∀ o, (wA.alloc o).cell? ⟨wr.heap.size, 2, none⟩ = some (.bool q2) := fun o => (b10.alloc o).cell 2
        have d3 : ∀ o, (wA.alloc o).cell? ⟨wr.heap.size, 3, none⟩ = some (.slice q3 q4 q5) := fun o => (b10.alloc o).cell 3
        have d4 : ∀ o, (wA.alloc o).cell? ⟨wr.heap.size, 4, none⟩ = some (.int .i64 q6) := fun o => (b10.alloc o).cell 4
        have d5 : ∀ o, (wA.alloc o).cell? ⟨wr.heap.size, 5, none⟩ = some (.bool q7) := fun o => (b10.alloc o).cell 5
        clear b10 c0 c1 c2 c3 c4 c5
        obtain ⟨p0, p1, p2, p3, p4, p5, p6, p7⟩ := r'
        simp only [Raw.cells]
        go_wp2_with fail
        refine (refLong_any ⟨q0, q1, q2, q3, q4, q5, q6, q7⟩ p (fun b => b < w.heap.size) _ (HIA.out.fine ((Fine.refl wA).alloc _)) (by omega)).mono ?_
        rintro x w3 ⟨rfl, f3⟩
        rw [HLL.out]
        have f3' : Fine wA w3 := ((Fine.refl wA).alloc _).trans f3
        have fw3 : Fine w w3 := fA.trans f3'
        have b11 : Blk w3 wA.heap.size 46 #[.int .u32 p0, .bool p1, .bool p2, .slice p3 p4 p5, .int .i64 p6, .bool p7] := (Blk.new wA 46 _).fine f3
        have e0 : w3.cell? ⟨wA.heap.size, 0, none⟩ = some (.int .u32 p0) := b11.cell 0
        have e1 : w3.cell? ⟨wA.heap.size, 1, none⟩ = some (.bool p1) := b11.cell 1
        have e2 : w3.cell? ⟨wA.heap.size, 2, none⟩ = some (.bool p2) := b11.cell 2
        have e3 : w3.cell? ⟨wA.heap.size, 3, none⟩ = some (.slice p3 p4 p5) := b11.cell 3
        have e4 : w3.cell? ⟨wA.heap.size, 4, none⟩ = some (.int .i64 p6) := b11.cell 4
        have e5 : w3.cell? ⟨wA.heap.size, 5, none⟩ = some (.bool p7) := b11.cell 5
        have O3 : OwnP w3 w.heap.size F' Aw m cw qs := OA.out.fine f3' (fun _ _ h => h)
        have I3 := Lib.hid (IA.out.fine f3')
        have Q3 := Lib.hid (QA.out.fine f3')
        have hs3 := f3'.size
        have hFl3 : ∀ b, F' b → b < wA.heap.size := QA.out.lt
        clear b11 d0 d1 d2 d3 d4 d5 OA IA QA HI HIA f3
        by_cases hpos : 0 < ℓ
        · obtain ⟨rsW, hm, hO3, hI3, hX3⟩ := O3
          subst hm
          have HO3 := Lib.hid hO3; clear hO3
          have HI3 := Lib.hid hI3; clear hI3
          have HX3 := Lib.hid hX3; clear hX3
          have HFL := Lib.hid hFl3; clear hFl3
          have hml : rsW.length ≤ 50 := by have := HI3.out.1; have := HQL.out; omega
          have hle := HO3.out.rs.1.le
          go_wp2_with (at_builtin; refine wpList_appE rfl sliceP (.tmp 47) (.tmp 49) rfl w.heap.size _ rsW rfl (HO3.out.alloc _) (some ⟨w3.heap.size, 0, none⟩) 1 1 [⟨p0, p1, p2, p3, p4, p5, p6, p7⟩] rfl rfl (RS.ofBlk (Blk.newAt rfl) rfl rfl (by unfold maxLen; omega)) ?_ ?_ ?_ ?_)
          · (first | omega | (unfold maxLen; omega) | (simp; omega) | (simp; unfold maxLen; omega))
          · (first | omega | (unfold maxLen; omega) | (simp; omega) | (simp; unfold maxLen; omega))
          · have := fw3.size; simp; omega
          · intro A2 c2 w4 hO4 k4 hb4
            have fa : Fine w3 (w3.alloc (.cells #[.int .u32 p0, .bool p1, .bool p2, .slice p3 p4 p5, .int .i64 p6, .bool p7] 46)) := (Fine.refl w3).alloc _
            have fas := fa.size
            have fw4 : Fine w w4 := (fw3.alloc _).kept k4 (fun x hx h => by omega)
            have kk : Kept (fun x => (Value.slice Aw rsW.length cw).ownBlock = some x) (w3.alloc (.cells #[.int .u32 p0, .bool p1, .bool p2, .slice p3 p4 p5, .int .i64 p6, .bool p7] 46)) w4 := Kept.grown (Kept.refl _ _) hb4.out.1 (fun k hk _ => hk)
            have QF := Lib.hid ((Q3.out.fine fa).kept kk (fun b hb h => HX3.out b h hb))
            have OF := OwnP.app (HO3.out.fine fa) ((HI3.out.fine fa).less (fun b hb => ⟨Nat.lt_of_lt_of_le hb.1 fas, hb.2⟩)) HX3.out hO4.out hb4.out.1 (hb4.out.2.imp id (fun h => h.trans (congrArg some (by simp)))) (Iss.one (I3.out.fine fa)) (fun b hb => ⟨by omega, hb.2.2, fun h => by have := HK.out b h; omega⟩) (fun b hb => by have := HFL.out b hb; omega)
            have he := HEE.out
            rw [if_pos hpos] at he
            rw [← he] at OF
            have SF : Hid (StA w4 w.heap.size g A2 (rsW.length + 1) c2 (i + 1)) := ⟨F', qs', e', QF.out, HFN.out, HC.out, HT.out, HA.out, HSA.out, OF⟩
            clear OF he QF kk hb4 hO4 k4 HEE
            go_wp2_with fail
            go_roundw
            case rel => exact ⟨i + 1, A2, _, c2, by omega, by go_num, rfl, fw4, SF⟩
            case measure => simp [intOf]; omega
        · have he := HEE.out
          rw [if_neg hpos] at he
          subst he
          have SF : Hid (StA w3 w.heap.size g Aw m cw (i + 1)) := ⟨F', qs', e', Q3.out, HFN.out, HC.out, HT.out, HA.out, HSA.out, O3⟩
          clear O3 HEE
          go_wp2_with fail
          go_roundw
          case rel => exact ⟨i + 1, Aw, m, cw, by omega, by go_num, rfl, fw3, SF⟩
          case measure => simp [intOf]; omega
    · obtain rfl : i = rs.length := by omega
      clear hi hlt
      obtain ⟨F, qs, e, hq, hFn, hch, htot, hql, hsm, hown⟩ := hst.out
      have HB : Hid (StB wr w.heap.size g Aw m cw none 0 0 qs qs e) := ⟨F, [], hq, hFn, hch, by omega, hsm, rfl, by omega, hown.fine (Fine.refl _) (fun b _ h => h.resolve_right (fun h => by cases h)), OwnP.nil_ _ _ _⟩
      obtain ⟨all, hall⟩ : ∃ all, qs = all := ⟨_, rfl⟩
      have HB2 : Hid (∃ qs, StB wr w.heap.size g Aw m cw none 0 0 all qs e) := ⟨qs, by rw [← hall]; exact HB.out⟩
      clear hq hFn hch htot hql hsm hown hst HS HB hall
      go_wp2_with fail
      go_loopw [54, 12] (fun s54 s12 wr => ∃ (j : Nat) (Ag : Option Addr) (mg cg : Nat), j ≤ zs.length ∧ s54 = .int .i64 j ∧ s12 = .slice Ag mg cg ∧ Fine w wr ∧ Hid (∃ qs, StB wr w.heap.size g Aw m cw Ag mg cg all qs e)) (fun s54 s12 _ => zs.length - (intOf s54).toNat)
      case atStart => exact ⟨0, none, 0, 0, Nat.zero_le _, rfl, rfl, hf, HB2⟩
      case round =>
        clear HB2 hf
        obtain ⟨j, Ag, mg, cg, hj, rfl, rfl, hf, hst⟩ := hrel
        obtain ⟨qs, hst⟩ := hst.out
        have HST := Lib.hid hst; clear hst
        by_cases hlt : j < zs.length
        · obtain ⟨z, hz0⟩ : ∃ z, zs[j]? = some z := ⟨zs[j], List.getElem?_eq_getElem hlt⟩
          have hzz := hzb z (List.mem_of_getElem? hz0)
          obtain ⟨b2, o2, rfl, hb2, hc2⟩ := (HZ.out.fine hf).at_ hz0
          have c0 := hc2 0 (.int .u8 z) rfl
          simp only [Nat.mul_one, Nat.add_zero] at c0
          clear hc2 hz0
          have hbg : 0 ≤ beginQ qs e ∧ beginQ qs e < 4294967296 := by
            obtain ⟨_, _, _, _, h3, _⟩ := HST.out
            exact h3.begin_
          obtain ⟨bg, hbe⟩ : ∃ bg, beginQ qs e = bg := ⟨_, rfl⟩
          obtain ⟨zz, hzm⟩ : ∃ zz, z % 20 = zz := ⟨_, rfl⟩
          rw [hbe] at hbg
          go_wp2_with fail
          refine (begin_any g _ qs e wr HST.out.choose_spec.choose_spec.1).mono ?_
          rintro x w3 ⟨rfl, f3⟩
          rw [hbe]
          go_wp2_with fail
          refine (refOn_any bg zz hbg w3).mono ?_
          rintro x w4 ⟨rfl, f4⟩
          have fw4 := (hf.trans f3).trans f4
          have ST4 := Lib.hid ((HST.out.fine f3).fine f4)
          clear HST f3 f4 hf
          by_cases ho : dist bg (onN bg zz) ≤ dist bg e
          · go_wp2_with fail
            refine (ackB_any fw4 ST4.out (by rw [hbe]; exact ho)).mono ?_
            rintro x w5 ⟨A2, c2, rs2, rsG, rfl, fw5, hR, h50, rfl, hg50, hO, hcont⟩
            have HO := Lib.hid hO; clear hO
            have HR2 := Lib.hid hR; clear hR
            have HCO := Lib.hid hcont; clear hcont
            clear ST4 fw4
            have hle := HO.out.rs.1.le
            have hle2 := HR2.out.le
            go_wp2_with (at_builtin; refine wpList_appE rfl sliceP (.tmp 70) (.tmp 71) rfl w.heap.size _ rsG rfl HO.out A2 rs2.length c2 rs2 rfl rfl HR2.out ?_ ?_ ?_ ?_)
            · (first | omega | (unfold maxLen; omega) | (simp; omega) | (simp; unfold maxLen; omega))
            · (first | omega | (unfold maxLen; omega) | (simp; omega) | (simp; unfold maxLen; omega))
            · exact fw5.size
            · intro A3 c3 w6 hO6 k6 hb6
              have fw6 : Fine w w6 := fw5.kept k6 (fun x hx h => by omega)
              have ST6 : Hid (∃ qs, StB w6 w.heap.size g Aw m cw A3 (rsG.length + rs2.length) c3 all qs e) := ⟨_, HCO.out w6 A3 _ c3 hO6.out hb6.out.1 hb6.out.2⟩
              clear hO6 k6 hb6 HCO HR2 HO
              go_wp2_with fail
              go_roundw
              case rel => exact ⟨j + 1, A3, _, c3, by omega, by go_num, rfl, fw6, ST6⟩
              case measure => simp [intOf]; omega
          · obtain ⟨F, gs, hq, _⟩ := ST4.out
            go_wp2_with fail
            refine (ack_over g F qs e (onN bg zz) w4 hq (by rw [hbe]; omega)).mono ?_
            rintro x w5 ⟨rfl, f5⟩
            have fw5 := fw4.trans f5
            have ST5 : Hid (∃ qs, StB w5 w.heap.size g Aw m cw Ag mg cg all qs e) := ⟨qs, ST4.out.fine f5⟩
            clear hq ST4 f5 fw4
            go_wp2_with fail
            go_roundw
            case rel => exact ⟨j + 1, Ag, mg, cg, by omega, by go_num, rfl, fw5, ST5⟩
            case measure => simp [intOf]; omega
        · obtain rfl : j = zs.length := by omega
          have hdl : ackK qs (dist (beginQ qs e) e) = qs.length := by
            obtain ⟨_, _, _, _, h3, h4, _⟩ := HST.out
            rw [h3.dist_ (by omega)]
            exact ackK_all _ _ (Int.le_refl _)
          go_wp2_with fail
          refine (end_any g _ qs e wr HST.out.choose_spec.choose_spec.1).mono ?_
          rintro x w3 ⟨rfl, f3⟩
          have fw3 := hf.trans f3
          have ST3 := Lib.hid (HST.out.fine f3)
          clear HST f3 hf
          go_wp2_with fail
          refine (ackB_any fw3 ST3.out (Int.le_refl _)).mono ?_
          rintro x w5 ⟨A2, c2, rs2, rsG, rfl, fw5, hR, h50, rfl, hg50, hO, hcont⟩
          rw [hdl, List.drop_length] at hcont
          have HO := Lib.hid hO; clear hO
          have HR2 := Lib.hid hR; clear hR
          have HCO := Lib.hid hcont; clear hcont
          clear ST3 fw3 hdl hst
          have hle := HO.out.rs.1.le
          have hle2 := HR2.out.le
          go_wp2_with (at_builtin; refine wpList_appE rfl sliceP (.tmp 81) (.tmp 82) rfl w.heap.size _ rsG rfl HO.out A2 rs2.length c2 rs2 rfl rfl HR2.out ?_ ?_ ?_ ?_)
          · (first | omega | (unfold maxLen; omega) | (simp; omega) | (simp; unfold maxLen; omega))
          · (first | omega | (unfold maxLen; omega) | (simp; omega) | (simp; unfold maxLen; omega))
          · exact fw5.size
          · intro A3 c3 w6 hO6 k6 hb6
            have fw6 : Fine w w6 := fw5.kept k6 (fun x hx h => by omega)
            obtain ⟨F, gs, hq, _, _, _, _, hgs, hal, o1, o2⟩ := HCO.out w6 A3 _ c3 hO6.out hb6.out.1 hb6.out.2
            rw [List.append_nil] at hgs
            subst hgs
            obtain ⟨rW, e1, oW, iW, _⟩ := o1
            obtain ⟨rG, e2, oG, iG, _⟩ := o2
            subst e1
            rw [e2] at oG ⊢
            have HS := Lib.hid (fun w' (hf : Fine w6 w') => sameAll_any A3 Aw c3 cw rG rW gs _ _ w' (oG.rs.1.fine hf) (oW.rs.1.fine hf) (iG.fine hf) (iW.fine hf))
            have HQ := Lib.hid hq
            clear hO6 k6 hb6 HCO HR2 HO oG oW iG iW hq e2
            go_wp2_with fail
            refine (len_any g F [] e w6 HQ.out).mono ?_
            rintro x w7 ⟨rfl, f7⟩
            go_wp2_with fail
            refine (begin_any g F [] e w7 (HQ.out.fine f7)).mono ?_
            rintro x w8 ⟨hx8, f8⟩
            replace hx8 : x = .returned (.int .u32 e) := hx8
            subst hx8
            have f78 := f7.trans f8
            go_wp2_with fail
            refine (end_any g F [] e w8 (HQ.out.fine f78)).mono ?_
            rintro x w9 ⟨rfl, f9⟩
            have f79 := f78.trans f9
            go_wp2_with fail
            refine (HS.out w9 f79).mono ?_
            rintro x w10 ⟨rfl, f10⟩
            have fend := (fw6.trans f79).trans f10
            go_wp2_with fail
            go_ret
            exact ⟨rfl, fend⟩
theorem lawOutqAll (w : World) (seq : Int) (hs : (Lit.int .u32 seq).wf = true) (A : Option Addr) (len cap : Nat) (z : List Raw × List Pc) (hz : RS layP w A cap z.1 ∧ z.1.length = len ∧ Iss w (fun b => b < w.heap.size) z.1 z.2) (B : Option Addr) (lenb capb : Nat) (zs : List Int) (hb : IntsIn .u8 w B lenb capb zs) :
    Calls Try.prog 8 #[.int .u32 seq, .slice A len cap, .slice B lenb capb] w fun x w' => x = .returned (.bool true) ∧ Fine w w' := by
  obtain ⟨h1, rfl, h2⟩ := hz
  obtain rfl := hb.2.2.1
  exact outqAll_any seq A B cap capb z.1 z.2 zs w (by have := bounds_u32 hs; omega) h1 h2 (rs_of_ints hb) (fun x hx => by have := bounds_u8 (hb.2.2.2.2.1 x hx); omega)
end Go.Proofs.Ytjldgialhgfhmaa
