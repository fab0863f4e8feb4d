/- The document's queue: Ack. -/
import Derived.Test.YtjldgialhgfhmaaOutqRef3
import Derived.Deep.RegionHeld3
namespace Go.Proofs.Ytjldgialhgfhmaa
open Go.ChangeShapes Go.WideShapes Go.ChangeAt Go.RowKit
set_option linter.unusedVariables false

theorem ackK_iff : ∀ (ps : List Pc) (c : Int) (i : Nat), i < ps.length → ((total (ps.take (i + 1)) : Int) ≤ c ↔ i < ackK ps c)
  | [], c, i, h => by simp at h
  | p :: ps, c, 0, _ => by
    unfold ackK
    simp only [List.take_succ_cons, List.take_zero, total]
    split <;> omega
  | p :: ps, c, i + 1, h => by
    have ih := ackK_iff ps (c - long p) i (by simpa using h)
    rw [List.take_succ_cons]
    show ((long p + total (ps.take (i + 1)) : Nat) : Int) ≤ c ↔ _
    unfold ackK
    split <;> omega
theorem Chain.pos : ∀ {ps : List Pc} {e : Int} (k : Nat), Chain ps e → total ps < 4294967296 → k ≤ ps.length → dist (beginQ ps e) (beginQ (ps.drop k) e) = total (ps.take k)
  | ps, e, 0, h, _, _ => by
    have := h.begin_
    simp only [List.drop_zero, List.take_zero, total]
    unfold dist; omega
  | [], e, k + 1, h, _, hk => by simp at hk
  | p :: ps, e, k + 1, h, ht, hk => by
    simp only [total] at ht
    have ih := Chain.pos k h.2.2.2 (by omega) (by simpa using hk)
    have hle : total (ps.take k) ≤ total ps := by have h := total_append (ps.take k) (ps.drop k); rw [List.take_append_drop] at h; omega
    rw [h.2.2.1] at ih
    have h0 := h.1
    simp only [List.drop_succ_cons, List.take_succ_cons, total]
    show dist p.seq _ = _
    generalize beginQ (ps.drop k) e = x at *
    unfold dist onN at ih
    unfold dist
    omega
theorem Chain.at_ {p : Pc} : ∀ {ps : List Pc} {e : Int} (k : Nat), Chain ps e → ps[k]? = some p → onN p.seq (long p) = beginQ (ps.drop (k + 1)) e ∧ 0 ≤ p.seq ∧ p.seq < 4294967296
  | [], e, k, h, hk => by simp at hk
  | q :: ps, e, 0, h, hk => by
    simp at hk
    subst hk
    exact ⟨h.2.2.1.symm, h.1⟩
  | q :: ps, e, k + 1, h, hk => Chain.at_ k h.2.2.2 (by simpa using hk)
def RAckOf (F : Nat → Prop) (g : Nat) (ps : List Pc) (e : Int) (k : Nat) (w : World) (x : Ending) (w' : World) : Prop :=
  ∃ A c rs' F', x = .returned (.agg #[.slice A rs'.length c, .bool true]) ∧ RS layP w' A c rs' ∧ Iss w' (fun _ => True) rs' (ps.take k) ∧ RB w' F' g (ps.drop k) e ∧ Kept F w w' ∧ (∀ b, F' b → F b ∨ w.heap.size ≤ b)
theorem size64 : (Try.prog.info? 64).map (·.size) = some 2 := by kernel_rfl
set_option maxHeartbeats 1000000 in
set_option maxRecDepth 20000 in
theorem refAck_over (g : Nat) (F : Nat → Prop) (ps : List Pc) (e a : Int) (w : World) (h : RB w F g ps e) (hch : Chain ps e) (ha : 0 ≤ a ∧ a < 4294967296) (ho : dist (beginQ ps e) e < dist (beginQ ps e) a) :
    Calls Try.prog 39 #[.pointer (some ⟨g, 0, none⟩), .int .u32 a] w fun x w' => x = .returned (.agg #[.slice none 0 0, .bool false]) ∧ Fine w w' := by
  have H := Lib.hid h; clear h
  have c1 := H.out.endAt.1
  have hgl := H.out.endAt.2.2.1
  have hbg := hch.begin_
  have hen := hch.end_
  clear hch
  obtain ⟨b, hb⟩ : ∃ b, beginQ ps e = b := ⟨_, rfl⟩
  have HBg := Lib.hid (fun w' (hf : Fine w w') => refBegin_any g F ps e w' (H.out.fine hf))
  rw [hb] at HBg ho hbg
  have HEB := Lib.hid hb; clear hb
  have d1 := dist_bd b e
  have d2 := dist_bd b a
  obtain ⟨m, hm⟩ : ∃ m, dist b e = m := ⟨_, rfl⟩
  obtain ⟨n, hn⟩ : ∃ n, dist b a = n := ⟨_, rfl⟩
  have HM := Lib.hid (fun w' => refSteps_any b e hbg hen w')
  have HN := Lib.hid (fun w' => refSteps_any b a hbg ha w')
  rw [hm] at HM d1 ho
  rw [hn] at HN d2 ho
  clear hm hn
  have fW : Fine w (w.alloc (.cells #[.slice none 0 0, .bool false] 64)) := (Fine.refl w).alloc _
  have b4 : Blk (w.alloc (.cells #[.slice none 0 0, .bool false] 64)) w.heap.size 64 #[.slice none 0 0, .bool false] := Blk.new w 64 _
  have hc1 : (w.alloc (.cells #[.slice none 0 0, .bool false] 64)).cell? ⟨g, 1, none⟩ = some (.int .u32 e) := (fW.cell (p := ⟨g, 1, none⟩) hgl).trans c1
  go_enter Try.func39, Try.ntmps39
  go_upto_region 1 with (fail)
  generalize (w.alloc (.cells #[.slice none 0 0, .bool false] 64)) = W4 at fW b4 hc1 ⊢
  have hgl4 : g < W4.heap.size := Nat.lt_of_lt_of_le hgl fW.size
  go_region_held3 (fun w' => w'.cell? ⟨g, 1, none⟩ = some (.int .u32 e)) (first | exact hc1 | exact (fA.cell (p := ⟨g, 1, none⟩) hgl4).trans hc1 | exact (fB.cell (p := ⟨g, 1, none⟩) hgl4).trans hc1 | exact (fC.cell (p := ⟨g, 1, none⟩) hgl4).trans hc1 | exact (fD.cell (p := ⟨g, 1, none⟩) hgl4).trans hc1) (first | (go_at_call 38; refine (HBg.out wB (fW.trans fB)).mono ?_; rintro x wC ⟨rfl, fC0⟩; have fC : Fine W4 wC := fB.trans fC0; clear fC0) | (go_at_call 38; refine (HBg.out W4.drew fW.drew).mono ?_; rintro x wA ⟨rfl, fA0⟩; have fA : Fine W4 wA := (Fine.refl W4).drew.trans fA0; clear fA0) | (go_at_call 68; refine (HM.out wC).mono ?_; rintro x wD ⟨rfl, fD0⟩; have fD : Fine W4 wD := fC.trans fD0; clear fD0) | (go_at_call 68; refine (HN.out wA).mono ?_; rintro x wB ⟨rfl, fB0⟩; have fB : Fine W4 wB := fA.trans fB0; clear fB0))
  have B4 := Lib.hid (b4.fine fD)
  have fwD := fW.trans fD
  clear fA fB fC b4 hc1
  have s0 : wD.cell? ⟨w.heap.size, 0, none⟩ = some (.slice none 0 0) := B4.out.cell 0
  have s1 : wD.cell? ⟨w.heap.size, 1, none⟩ = some (.bool false) := B4.out.cell 1
  have z0 := B4.out.frozen 0
  have z1 := B4.out.frozen 1
  have hB := (((B4.out.set_ 0 (.slice none 0 0)).set_ 1 (.bool false)).cast (cs' := #[.slice none 0 0, .bool false]) (by simp))
  have hf : Fine w ((wD.setCell ⟨w.heap.size, 0, none⟩ (.slice none 0 0)).setCell ⟨w.heap.size, 1, none⟩ (.bool false)) := (fwD.setCell (Nat.le_refl _) _).setCell (Nat.le_refl _) _
  go_wp2_with fail
  refine bodyPost_ret (results_cell_row rfl _ _ w.heap.size 64 _ (0, 0) _ rfl hB Try.underlying64 rfl size64) rfl ?_
  exact ⟨rfl, hf⟩
/-- The document's Ack under way: what is told, what stays. -/
def AckS (wr : World) (bA : Nat) (rs : List Raw) (k i : Nat) (A7 : Option Addr) (m7 c7 : Nat) : Prop :=
  ∃ AL cL, Blk wr bA 64 #[.slice AL (min i k) cL, .bool true] ∧ Own layP 46 wr (bA + 1) (.slice AL (min i k) cL) (rs.take (min i k)) ∧ m7 = i - k ∧ Own layP 46 wr (bA + 1) (.slice A7 m7 c7) ((rs.take i).drop k) ∧ ∀ q, (Value.slice AL (min i k) cL).ownBlock = some q → (Value.slice A7 m7 c7).ownBlock ≠ some q
theorem AckS.fine {wr w' : World} {bA : Nat} {rs : List Raw} {k i : Nat} {A7 : Option Addr} {m7 c7 : Nat} (h : AckS wr bA rs k i A7 m7 c7) (hf : Fine wr w') : AckS w' bA rs k i A7 m7 c7 := by
  obtain ⟨AL, cL, h1, h2, h3, h4, h5⟩ := h
  exact ⟨AL, cL, h1.fine hf, h2.fine hf, h3, h4.fine hf, h5⟩
theorem AckS.told {wA wB : World} {bA : Nat} {rs : List Raw} {k i : Nat} {A7 AL A2 : Option Addr} {m7 c7 cL c2 : Nat} {r : Raw} (hi : i < k) (hr : rs[i]? = some r)
    (h1 : Blk wA bA 64 #[.slice AL i cL, .bool true]) (h2 : Own layP 46 wA (bA + 1) (.slice AL i cL) (rs.take i)) (h3 : m7 = i - k) (h4 : Own layP 46 wA (bA + 1) (.slice A7 m7 c7) ((rs.take i).drop k)) (h5 : ∀ q, (Value.slice AL i cL).ownBlock = some q → (Value.slice A7 m7 c7).ownBlock ≠ some q)
    (oB : Own layP 46 wB (bA + 1) (.slice A2 (rs.take i ++ [r]).length c2) (rs.take i ++ [r])) (gB : wA.grownBy wB (Value.slice AL i cL).ownBlock) (bB : (Value.slice A2 (rs.take i ++ [r]).length c2).ownBlock = (Value.slice AL i cL).ownBlock ∨ (Value.slice A2 (rs.take i ++ [r]).length c2).ownBlock = some wA.heap.size) :
    AckS (wB.setCell ⟨bA, 0, none⟩ (.slice A2 (i + 1) c2)) bA rs k (i + 1) A7 m7 c7 := by
  have hlt : i < rs.length := (List.getElem?_eq_some_iff.1 hr).1
  have e1 : rs.take i ++ [r] = rs.take (i + 1) := by rw [List.take_add_one, hr]; rfl
  have e2 : (rs.take i ++ [r]).length = i + 1 := by simp; omega
  rw [e2] at oB bB
  rw [e1] at oB
  have kA : Kept (fun x => (Value.slice AL i cL).ownBlock = some x) wA wB := Kept.grown (Kept.refl _ wA) gB (fun k hk _ => hk)
  have kk : Kept (· = bA) wB (wB.setCell ⟨bA, 0, none⟩ (.slice A2 (i + 1) c2)) := Kept.setIn (S := (· = bA)) (p := ⟨bA, 0, none⟩) (Kept.refl _ _) rfl _
  have hm : min (i + 1) k = i + 1 := by omega
  refine ⟨A2, c2, ?_, ?_, by omega, ?_, ?_⟩
  · rw [hm]
    exact ((h1.kept kA (fun h => by have := (h2.lt bA h).1; omega)).set_ 0 (.slice A2 (i + 1) c2)).cast (by simp)
  · rw [hm]
    exact oB.kept kk (fun q hq h => by have := (oB.lt q hq).1; omega)
  · have e3 : (rs.take (i + 1)).drop k = (rs.take i).drop k := by
      rw [List.drop_eq_nil_of_le (by simp; omega), List.drop_eq_nil_of_le (by simp; omega)]
    rw [e3]
    exact (h4.kept kA (fun q hq h => h5 q h hq)).kept kk (fun q hq h => by have := (h4.lt q hq).1; omega)
  · rw [hm]
    intro q hq h
    rcases bB with h' | h'
    · exact h5 q (h' ▸ hq) h
    · rw [h'] at hq
      injection hq with hq
      have := (h4.lt q h).2
      omega
theorem AckS.stay {wA wB : World} {bA : Nat} {rs : List Raw} {k i : Nat} {A7 AL A2 : Option Addr} {m7 c7 cL c2 : Nat} {r : Raw} {X : List Raw} (hX : X = (rs.take i).drop k) (hi : k ≤ i) (hr : rs[i]? = some r)
    (h1 : Blk wA bA 64 #[.slice AL (min i k) cL, .bool true]) (h2 : Own layP 46 wA (bA + 1) (.slice AL (min i k) cL) (rs.take (min i k))) (h3 : m7 = i - k) (h4 : Own layP 46 wA (bA + 1) (.slice A7 m7 c7) X) (h5 : ∀ q, (Value.slice AL (min i k) cL).ownBlock = some q → (Value.slice A7 m7 c7).ownBlock ≠ some q)
    (oB : Own layP 46 wB (bA + 1) (.slice A2 (X.length + 1) c2) (X ++ [r])) (gB : wA.grownBy wB (Value.slice A7 m7 c7).ownBlock) (bB : (Value.slice A2 (X.length + 1) c2).ownBlock = (Value.slice A7 m7 c7).ownBlock ∨ (Value.slice A2 (X.length + 1) c2).ownBlock = some wA.heap.size) :
    AckS wB bA rs k (i + 1) A2 (X.length + 1) c2 := by
  subst hX
  have hlt : i < rs.length := (List.getElem?_eq_some_iff.1 hr).1
  have hl : ((rs.take i).drop k).length = i - k := by simp; omega
  have e1 : (rs.take i).drop k ++ [r] = (rs.take (i + 1)).drop k := by
    rw [List.take_add_one, hr, List.drop_append_of_le_length (by simp; omega)]; rfl
  rw [e1] at oB
  have kA : Kept (fun x => (Value.slice A7 m7 c7).ownBlock = some x) wA wB := Kept.grown (Kept.refl _ wA) gB (fun k hk _ => hk)
  have hm : min (i + 1) k = min i k := by omega
  refine ⟨AL, cL, ?_, ?_, by omega, oB, ?_⟩
  · rw [hm]; exact h1.kept kA (fun h => by have := (h4.lt bA h).1; omega)
  · rw [hm]; exact h2.kept kA (fun q hq h => h5 q hq h)
  · rw [hm]
    intro q hq h
    rcases bB with h' | h'
    · exact h5 q hq (h' ▸ h)
    · rw [h'] at h
      injection h with h
      have := (h2.lt q hq).2
      omega
set_option maxHeartbeats 2000000 in
set_option maxRecDepth 20000 in
theorem refAck_any (g : Nat) (F : Nat → Prop) (ps : List Pc) (e a : Int) (w : World) (h : RB w F g ps e) (hch : Chain ps e) (ht : total ps < 4294967296) (ha : 0 ≤ a ∧ a < 4294967296) (ho : dist (beginQ ps e) a ≤ dist (beginQ ps e) e) (hn' : ps.length ≤ 900) (hs' : ∀ p ∈ ps, p.xs.length ≤ 1000) :
    Calls Try.prog 39 #[.pointer (some ⟨g, 0, none⟩), .int .u32 a] w (RAckOf F g ps e (ackK ps (dist (beginQ ps e) a)) w) := by
  have H := Lib.hid h; clear h
  have c1 := H.out.endAt.1
  have hgl := H.out.endAt.2.2.1
  have hbg := hch.begin_
  have hen := hch.end_
  have HCH := Lib.hid hch; clear hch
  obtain ⟨b, hb⟩ : ∃ b, beginQ ps e = b := ⟨_, rfl⟩
  have HBg := Lib.hid (fun w' (hf : Fine w w') => refBegin_any g F ps e w' (H.out.fine hf))
  rw [hb] at HBg ho hbg ⊢
  have HEB := Lib.hid hb; clear hb
  have d1 := dist_bd b e
  have d2 := dist_bd b a
  obtain ⟨m, hm⟩ : ∃ m, dist b e = m := ⟨_, rfl⟩
  obtain ⟨n, hn⟩ : ∃ n, dist b a = n := ⟨_, rfl⟩
  have HM := Lib.hid (fun w' => refSteps_any b e hbg hen w')
  have HN := Lib.hid (fun w' => refSteps_any b a hbg ha w')
  rw [hm] at HM d1 ho
  rw [hn] at HN d2 ho ⊢
  clear hm hn
  obtain ⟨k, hk⟩ : ∃ k, ackK ps n = k := ⟨_, rfl⟩
  rw [hk]
  have HK := Lib.hid hk; clear hk
  have fW : Fine w (w.alloc (.cells #[.slice none 0 0, .bool false] 64)) := (Fine.refl w).alloc _
  have b4 : Blk (w.alloc (.cells #[.slice none 0 0, .bool false] 64)) w.heap.size 64 #[.slice none 0 0, .bool false] := Blk.new w 64 _
  have hc1 : (w.alloc (.cells #[.slice none 0 0, .bool false] 64)).cell? ⟨g, 1, none⟩ = some (.int .u32 e) := (fW.cell (p := ⟨g, 1, none⟩) hgl).trans c1
  go_enter Try.func39, Try.ntmps39
  go_upto_region 1 with (fail)
  generalize (w.alloc (.cells #[.slice none 0 0, .bool false] 64)) = W4 at fW b4 hc1 ⊢
  have hgl4 : g < W4.heap.size := Nat.lt_of_lt_of_le hgl fW.size
  go_region_held3 (fun w' => w'.cell? ⟨g, 1, none⟩ = some (.int .u32 e)) (first | exact hc1 | exact (fA.cell (p := ⟨g, 1, none⟩) hgl4).trans hc1 | exact (fB.cell (p := ⟨g, 1, none⟩) hgl4).trans hc1 | exact (fC.cell (p := ⟨g, 1, none⟩) hgl4).trans hc1 | exact (fD.cell (p := ⟨g, 1, none⟩) hgl4).trans hc1) (first | (go_at_call 38; refine (HBg.out wB (fW.trans fB)).mono ?_; rintro x wC ⟨rfl, fC0⟩; have fC : Fine W4 wC := fB.trans fC0; clear fC0) | (go_at_call 38; refine (HBg.out W4.drew fW.drew).mono ?_; rintro x wA ⟨rfl, fA0⟩; have fA : Fine W4 wA := (Fine.refl W4).drew.trans fA0; clear fA0) | (go_at_call 68; refine (HM.out wC).mono ?_; rintro x wD ⟨rfl, fD0⟩; have fD : Fine W4 wD := fC.trans fD0; clear fD0) | (go_at_call 68; refine (HN.out wA).mono ?_; rintro x wB ⟨rfl, fB0⟩; have fB : Fine W4 wB := fA.trans fB0; clear fB0))
  have B4 := Lib.hid (b4.fine fD)
  have fwD := fW.trans fD
  clear fA fB fC b4 hc1
  have s0 : wD.cell? ⟨w.heap.size, 0, none⟩ = some (.slice none 0 0) := B4.out.cell 0
  have s1 : wD.cell? ⟨w.heap.size, 1, none⟩ = some (.bool false) := B4.out.cell 1
  have z0 := B4.out.frozen 0
  have z1 := B4.out.frozen 1
  clear s0 s1 z0 z1
  go_wp2_with fail
  refine (HBg.out _ (fwD.alloc _)).mono ?_
  rintro x wE ⟨rfl, fE⟩
  have B5 := Lib.hid ((Blk.new wD 64 #[.slice none 0 0, .bool true]).fine fE)
  have fDE : Fine wD wE := ((Fine.refl wD).alloc _).trans fE
  have fwE := fwD.trans fDE
  have B4E := Lib.hid (B4.out.fine fDE)
  go_wp2_with fail
  obtain ⟨A, c, rs, h1, h2, h3, h4, h5, h6⟩ := H.out
  have hkl : k ≤ rs.length := by have := ackK_le ps n; rw [HK.out] at this; have := h3.1; omega
  have hrb : rs.length ≤ 900 := by have := h3.1; omega
  have HS : Hid (AckS wE wD.heap.size rs k 0 none 0 0) := ⟨none, 0, by simpa using B5.out, by simpa using Own.nil_ _ _ _ _, by omega, by simpa using Own.nil_ _ _ _ _, fun q hq => by cases hq⟩
  obtain ⟨bA, hbA⟩ : ∃ bA, wD.heap.size = bA := ⟨_, rfl⟩
  have hbw : w.heap.size < bA := by have := B4.out.lt; omega
  rw [hbA] at HS ⊢
  have H1 := Lib.hid h1; clear h1
  have H2 := Lib.hid h2; clear h2
  have H3 := Lib.hid h3; clear h3
  have H4 := Lib.hid h4; clear h4
  have H5 := Lib.hid h5; clear h5
  have H6 := Lib.hid h6; clear h6
  clear B5 fE fDE B4 fD fwD hbA HBg HM hgl4 fW c1
  go_loopw [8, 7] (fun s8 s7 wr => ∃ (i : Nat) (A7 : Option Addr) (m7 c7 : Nat), i ≤ rs.length ∧ s8 = .int .i64 i ∧ s7 = .slice A7 m7 c7 ∧ Fine w wr ∧ Hid (Blk wr w.heap.size 64 #[.slice none 0 0, .bool false]) ∧ Hid (AckS wr bA rs k i A7 m7 c7)) (fun s8 s7 _ => rs.length - (intOf s8).toNat)
  case atStart => exact ⟨0, none, 0, 0, Nat.zero_le _, rfl, rfl, fwE, B4E, HS⟩
  case round =>
    clear HS fwE B4E
    obtain ⟨i, A7, m7, c7, hi, rfl, rfl, hf, hb4, hst⟩ := hrel
    have g0 : wr.cell? ⟨g, 0, none⟩ = some (.slice A rs.length c) := (H1.out.fine hf).cell 0
    have hle := H2.out.rs.1.le
    by_cases hlt : i < rs.length
    · obtain ⟨r, hr0⟩ : ∃ r, rs[i]? = some r := ⟨rs[i], List.getElem?_eq_getElem hlt⟩
      obtain ⟨p, hp0⟩ : ∃ p, ps[i]? = some p := ⟨ps[i]'(by have := H3.out.1; omega), List.getElem?_eq_getElem _⟩
      obtain ⟨b1, o1, rfl, hb1, hc1⟩ := (H2.out.rs.1.fine hf).at_ hr0
      have hip := (H3.out.2 i r p hr0 hp0).fine hf
      have hps := hs' p (List.mem_of_getElem? hp0)
      have hat := HCH.out.at_ i hp0
      have hpos := HCH.out.pos (i + 1) ht (by have := H3.out.1; omega)
      rw [HEB.out, ← hat.1] at hpos
      have hiff := ackK_iff ps n i (by have := H3.out.1; omega)
      rw [HK.out] at hiff
      have hseq : r.seq = p.seq := hip.1
      have HRI := Lib.hid hr0; clear hr0 hp0
      obtain ⟨q0, q1, q2, q3, q4, q5, q6, q7⟩ := r
      simp only at hseq
      subst hseq
      have hq0 := hat.2
      have hll := long_le p
      obtain ⟨ℓ, hℓ⟩ : ∃ ℓ, long p = ℓ := ⟨_, rfl⟩
      have HLn := Lib.hid (fun w' (hf : Fine wr w') => refLong_any _ p _ w' (hip.fine hf) hps)
      rw [hℓ] at HLn hpos hll
      clear hat hip hps hℓ
      obtain ⟨tt, htt⟩ : ∃ tt : Nat, total (ps.take (i + 1)) = tt := ⟨_, rfl⟩
      rw [htt] at hpos hiff
      clear htt
      have HT := Lib.hid (fun w' => refSteps_any b (onN p.seq ℓ) hbg (onN_bd _ _) w')
      rw [hpos] at HT
      clear hpos
      have c0 : wr.cell? ⟨b1, o1 + i * 6, none⟩ = some (.int .u32 p.seq) := by simpa using hc1 0 (.int .u32 p.seq) rfl
      have c1 := hc1 1 (.bool q1) rfl
      have c2 := hc1 2 (.bool q2) rfl
      have c3 := hc1 3 (.slice q3 q4 q5) rfl
      have c4 := hc1 4 (.int .i64 q6) rfl
      have c5 := hc1 5 (.bool q7) rfl
      clear hc1
      simp only [← Nat.add_assoc] at c1 c2 c3 c4 c5
      have hgr := Nat.lt_of_lt_of_le hgl hf.size
      have HC : Hid (∀ w', Fine wr w' → w'.cell? ⟨g, 0, none⟩ = some (.slice (some ⟨b1, o1, none⟩) rs.length c) ∧ w'.cell? ⟨b1, o1 + i * 6, none⟩ = some (.int .u32 p.seq) ∧ w'.cell? ⟨b1, o1 + i * 6 + 1, none⟩ = some (.bool q1) ∧ w'.cell? ⟨b1, o1 + i * 6 + 2, none⟩ = some (.bool q2) ∧ w'.cell? ⟨b1, o1 + i * 6 + 3, none⟩ = some (.slice q3 q4 q5) ∧ w'.cell? ⟨b1, o1 + i * 6 + 4, none⟩ = some (.int .i64 q6) ∧ w'.cell? ⟨b1, o1 + i * 6 + 5, none⟩ = some (.bool q7)) := fun w' f => ⟨(f.cell (p := ⟨g, 0, none⟩) hgr).trans g0, (f.cell (p := ⟨b1, o1 + i * 6, none⟩) hb1).trans c0, (f.cell (p := ⟨b1, o1 + i * 6 + 1, none⟩) hb1).trans c1, (f.cell (p := ⟨b1, o1 + i * 6 + 2, none⟩) hb1).trans c2, (f.cell (p := ⟨b1, o1 + i * 6 + 3, none⟩) hb1).trans c3, (f.cell (p := ⟨b1, o1 + i * 6 + 4, none⟩) hb1).trans c4, (f.cell (p := ⟨b1, o1 + i * 6 + 5, none⟩) hb1).trans c5⟩
      have hi0 : (0 : Int) ≤ (i : Int) := by omega
      have hi1 : (i : Int) < (rs.length : Int) := by omega
      clear c0 c1 c2 c3 c4 c5 hlt
      go_upto_region 9 with (fail)
      go_region_held3 (fun w' => w'.cell? ⟨g, 0, none⟩ = some (.slice (some ⟨b1, o1, none⟩) rs.length c) ∧ w'.cell? ⟨b1, o1 + i * 6, none⟩ = some (.int .u32 p.seq) ∧ w'.cell? ⟨b1, o1 + i * 6 + 1, none⟩ = some (.bool q1) ∧ w'.cell? ⟨b1, o1 + i * 6 + 2, none⟩ = some (.bool q2) ∧ w'.cell? ⟨b1, o1 + i * 6 + 3, none⟩ = some (.slice q3 q4 q5) ∧ w'.cell? ⟨b1, o1 + i * 6 + 4, none⟩ = some (.int .i64 q6) ∧ w'.cell? ⟨b1, o1 + i * 6 + 5, none⟩ = some (.bool q7)) (first | exact HC.out wr.drew (Fine.refl wr).drew | exact HC.out wF fF | exact HC.out wG fG) (first | (go_at_call 29; refine (HLn.out wr.drew (Fine.refl wr).drew).mono ?_; rintro x wF ⟨rfl, fF0⟩; have fF : Fine wr wF := (Fine.refl wr).drew.trans fF0; clear fF0) | (go_at_call 31; refine (refOn_any p.seq ℓ hq0 wF).mono ?_; rintro x wG ⟨rfl, fG0⟩; have fG : Fine wr wG := fF.trans fG0; clear fG0))
      clear fF HLn
      go_wp2_with fail
      refine (HT.out wG).mono ?_
      rintro x wH ⟨rfl, fH⟩
      go_wp2_with fail
      refine (HN.out wH).mono ?_
      rintro x wI ⟨rfl, fI0⟩
      have fI : Fine wr wI := (fG.trans fH).trans fI0
      have fwI := hf.trans fI
      have ST := Lib.hid (hst.out.fine fI)
      have B4I := Lib.hid (hb4.out.fine fI)
      obtain ⟨g0', k0, k1, k2, k3, k4, k5⟩ := HC.out wI fI
      have hbI := Nat.lt_of_lt_of_le hb1 fI.size
      have hgI := Nat.lt_of_lt_of_le hgr fI.size
      have hsI := fwI.size
      clear fH fI0 fG HT HC hst hb4
      by_cases hik : i < k
      · have hle2 : (tt : Int) ≤ n := hiff.2 hik
        obtain ⟨AL, cL, s1, s2, s3, s4, s5⟩ := ST.out
        have hmi : min i k = i := by omega
        rw [hmi] at s1 s2 s5
        have S1 := Lib.hid s1; clear s1
        have S2 := Lib.hid s2; clear s2
        have S4 := Lib.hid s4; clear s4
        have S5 := Lib.hid s5; clear s5
        have S3 := Lib.hid s3; clear s3
        have l0 : wI.cell? ⟨bA, 0, none⟩ = some (.slice AL i cL) := S1.out.cell 0
        have lz0 : wI.frozen? ⟨bA, 0, none⟩ = false := S1.out.frozen 0
        have e2 : ∀ o, (wI.alloc o).cell? ⟨bA, 0, none⟩ = some (.slice AL i cL) := fun o => (S1.out.fine ((Fine.refl wI).alloc o)).cell 0
        have hAL : ∀ q, (Value.slice AL i cL).ownBlock = some q → bA + 1 ≤ q := fun q hq => (S2.out.lt q hq).1
        have hti : (rs.take i).length = i := by simp; omega
        have hbI2 := S1.out.lt
        have O2 : Hid (Own layP 46 wI (bA + 1) (.slice AL i cL) (rs.take i)) := S2
        clear ST hmi hle hiff
        have HTI := Lib.hid hti; clear hti
        go_wp2_with fail
        go_region_law (first | (refine step_appE rfl sliceP (.tmp 60) (.tmp 68) rfl (bA + 1) (.slice AL i cL) (rs.take i) rfl (O2.out.fine ((Fine.refl wI).drew.alloc _)) (some ⟨wI.heap.size, 0, none⟩) 1 1 [⟨p.seq, q1, q2, q3, q4, q5, q6, q7⟩] rfl rfl (RS.ofBlk (Blk.newAt rfl) rfl rfl (by unfold maxLen; omega)) (by rw [HTI.out]; simp; omega) (by rw [HTI.out]; simp; unfold maxLen; omega) (by simp; omega) ?_; intro x2 wJ oB kB0 gB0 bB; obtain ⟨A2, c2, rfl, _, _⟩ := oB.form; have yB : wJ.frozen? ⟨bA, 0, none⟩ = false := ((S1.out.fine ((Fine.refl wI).drew.alloc _)).kept kB0 (fun h => by omega)).frozen 0; have gB1 := ((S1.out.fine ((Fine.refl wI).drew.alloc _)).kept kB0 (fun h => by omega)).cell 0))
        all_goals
          have fA : Fine wI (wI.alloc (.cells #[.int .u32 p.seq, .bool q1, .bool q2, .slice q3 q4 q5, .int .i64 q6, .bool q7] 46)).drew := ((Fine.refl wI).alloc _).drew
          have SN := Lib.hid (AckS.told hik HRI.out (S1.out.fine fA) (S2.out.fine fA) S3.out (S4.out.fine fA) S5.out oB gB0 bB)
          have fwJ : Fine w (wJ.setCell ⟨bA, 0, none⟩ (.slice A2 (i + 1) c2)) := ((fwI.trans fA).kept kB0 (fun x hx h => by omega)).setCell (Nat.le_of_lt hbw) _
          have B4J := Lib.hid (((B4I.out.fine fA).kept kB0 (fun h => by omega)).far (p := ⟨bA, 0, none⟩) (by show _ ≠ bA; omega) (.slice A2 (i + 1) c2))
          clear fA oB gB0 bB kB0 S1 S2 O2 S4 S5 l0 lz0 e2 yB gB1 k0 k1 k2 k3 k4 k5 g0'
          generalize (wJ.setCell ⟨bA, 0, none⟩ (.slice A2 (i + 1) c2)) = wK at SN fwJ B4J ⊢
          go_wp2_with fail
          go_roundw
          case rel => exact ⟨i + 1, A7, m7, c7, by omega, by go_num, rfl, fwJ, B4J, SN⟩
          case measure => simp [intOf]; omega
      · have hle2 : n < (tt : Int) := by
          have h := mt hiff.1 hik
          omega
        obtain ⟨AL, cL, s1, s2, s3, s4, s5⟩ := ST.out
        have S1 := Lib.hid s1; clear s1
        have S2 := Lib.hid s2; clear s2
        have S4 := Lib.hid s4; clear s4
        have S5 := Lib.hid s5; clear s5
        have S3 := Lib.hid s3; clear s3
        have hbI2 := S1.out.lt
        obtain ⟨X, hX⟩ : ∃ X, X = (rs.take i).drop k := ⟨_, rfl⟩
        have hlb : X.length ≤ 900 := by rw [hX]; simp; omega
        rw [← hX] at S4
        have HX := Lib.hid hX; clear hX
        clear ST hle hiff
        have fA : Fine wI (wI.alloc (.cells #[.int .u32 p.seq, .bool q1, .bool q2, .slice q3 q4 q5, .int .i64 q6, .bool q7] 46)) := (Fine.refl wI).alloc _
        have fAs := fA.size
        go_wp2_with (at_builtin; refine wpList_appE rfl sliceP (.tmp 71) (.tmp 79) rfl (bA + 1) _ X rfl (S4.out.fine fA) (some ⟨wI.heap.size, 0, none⟩) 1 1 [⟨p.seq, q1, q2, q3, q4, q5, q6, q7⟩] rfl rfl (RS.ofBlk (Blk.newAt rfl) rfl rfl (by unfold maxLen; omega)) ?_ ?_ ?_ ?_)
        · (first | omega | (unfold maxLen; omega) | (simp; omega) | (simp; unfold maxLen; omega))
        · (first | omega | (unfold maxLen; omega) | (simp; omega) | (simp; unfold maxLen; omega))
        · exact Nat.le_trans (Nat.succ_le_of_lt hbI2) fAs
        · intro A2 c2 wJ hO4 kk4 hb4
          have SN := Lib.hid (AckS.stay HX.out (Nat.le_of_not_lt hik) HRI.out (S1.out.fine fA) (S2.out.fine fA) S3.out (S4.out.fine fA) S5.out hO4.out hb4.out.1 (hb4.out.2.imp id (fun h => h.trans (congrArg some (by simp)))))
          have fwJ : Fine w wJ := (fwI.trans fA).kept kk4 (fun x hx h => by omega)
          have B4J := Lib.hid ((B4I.out.fine fA).kept kk4 (fun h => by omega))
          clear hO4 kk4 hb4 fA S1 S2 S4 S5 k0 k1 k2 k3 k4 k5 g0'
          go_wp2_with fail
          go_roundw
          case rel => exact ⟨i + 1, A2, _, c2, by omega, by go_num, rfl, fwJ, B4J, SN⟩
          case measure => simp [intOf]; omega
    · obtain rfl : i = rs.length := by omega
      obtain ⟨AL, cL, s1, s2, s3, s4, s5⟩ := hst.out
      have hmk : min rs.length k = k := by omega
      rw [hmk] at s1 s2 s5
      rw [List.take_length] at s4
      have S1 := Lib.hid s1; clear s1
      have S2 := Lib.hid s2; clear s2
      have S4 := Lib.hid s4; clear s4
      have S3 := Lib.hid s3; clear s3
      clear s5
      have gz0 : wr.frozen? ⟨g, 0, none⟩ = false := (H1.out.fine hf).frozen 0
      have l0 : wr.cell? ⟨bA, 0, none⟩ = some (.slice AL k cL) := S1.out.cell 0
      have l1 : wr.cell? ⟨bA, 1, none⟩ = some (.bool true) := S1.out.cell 1
      have t0 : wr.cell? ⟨w.heap.size, 0, none⟩ = some (.slice none 0 0) := hb4.out.cell 0
      have t1 : wr.cell? ⟨w.heap.size, 1, none⟩ = some (.bool false) := hb4.out.cell 1
      have tz0 := hb4.out.frozen 0
      have tz1 := hb4.out.frozen 1
      have ne1 : bA ≠ g := by omega
      have ne2 : w.heap.size ≠ g := by omega
      go_wp2_with fail
      have kk : Kept (fun x => x = g ∨ x = w.heap.size) wr (((wr.setCell ⟨g, 0, none⟩ (.slice A7 m7 c7)).setCell ⟨w.heap.size, 0, none⟩ (.slice AL k cL)).setCell ⟨w.heap.size, 1, none⟩ (.bool true)) := Kept.setIn (S := fun x => x = g ∨ x = w.heap.size) (Kept.setIn (S := fun x => x = g ∨ x = w.heap.size) (Kept.setIn (S := fun x => x = g ∨ x = w.heap.size) (p := ⟨g, 0, none⟩) (Kept.refl _ _) (.inl rfl) _) (p := ⟨w.heap.size, 0, none⟩) (.inr rfl) _) (p := ⟨w.heap.size, 1, none⟩) (.inr rfl) _
      have hB : Blk (((wr.setCell ⟨g, 0, none⟩ (.slice A7 m7 c7)).setCell ⟨w.heap.size, 0, none⟩ (.slice AL k cL)).setCell ⟨w.heap.size, 1, none⟩ (.bool true)) w.heap.size 64 #[.slice AL k cL, .bool true] := (((hb4.out.far (p := ⟨g, 0, none⟩) ne2 (.slice A7 m7 c7)).set_ 0 (.slice AL k cL)).set_ 1 (.bool true)).cast (by simp)
      have hG : Blk (((wr.setCell ⟨g, 0, none⟩ (.slice A7 m7 c7)).setCell ⟨w.heap.size, 0, none⟩ (.slice AL k cL)).setCell ⟨w.heap.size, 1, none⟩ (.bool true)) g 59 #[.slice A7 m7 c7, .int .u32 e] := ((((H1.out.fine hf).set_ 0 (.slice A7 m7 c7)).far (p := ⟨w.heap.size, 0, none⟩) (Ne.symm ne2) _).far (p := ⟨w.heap.size, 1, none⟩) (Ne.symm ne2) _).cast (by simp)
      have hsz : (((wr.setCell ⟨g, 0, none⟩ (.slice A7 m7 c7)).setCell ⟨w.heap.size, 0, none⟩ (.slice AL k cL)).setCell ⟨w.heap.size, 1, none⟩ (.bool true)).heap.size = wr.heap.size := by simp [World.setCell]
      have hrl := Lib.hid S4.out.rs.2
      generalize (((wr.setCell ⟨g, 0, none⟩ (.slice A7 m7 c7)).setCell ⟨w.heap.size, 0, none⟩ (.slice AL k cL)).setCell ⟨w.heap.size, 1, none⟩ (.bool true)) = wZ at kk hB hG hsz ⊢
      have hfs := hf.size
      have kw : Kept F w wZ := (Kept.of_fine (S := F) hf).transG kk (fun _ _ s => s) (fun x hx s => by
        rcases s with s | s
        · subst s; exact H4.out
        · omega)
      have oR : Own layP 46 wZ (bA + 1) (.slice A7 m7 c7) (rs.drop k) := S4.out.kept kk (fun q hq h => by have := (S4.out.lt q hq).1; omega)
      have oL : Own layP 46 wZ (bA + 1) (.slice AL k cL) (rs.take k) := S2.out.kept kk (fun q hq h => by have := (S2.out.lt q hq).1; omega)
      have i3 : Iss wr (fun b => F b ∧ b ≠ g ∧ ∀ o, A ≠ some ⟨b, o, none⟩) rs ps := H3.out.fine hf
      have i3' : Iss wZ (fun b => F b ∧ b ≠ g) rs ps := (i3.kept kk (fun b hb h => by have := H6.out b hb.1; have := hb.2.1; omega)).less (fun b hb => ⟨hb.1, hb.2.1⟩)
      have htk : (rs.take k).length = k := by simp; omega
      have hR : RB wZ (fun b => F b ∨ (w.heap.size ≤ b ∧ b < wZ.heap.size)) g (ps.drop k) e := by
        refine ⟨A7, c7, rs.drop k, by rw [← hrl.out]; exact hG, by rw [← hrl.out]; exact oR.lower (by omega), (i3'.drop k).less (fun b hb => ⟨.inl hb.1, hb.2, fun o ho => ?_⟩), .inl H4.out, fun b o ho => ?_, fun b hb => ?_⟩
        · have h1 := oR.from_ b o ho
          have h2 := H6.out b hb.1
          omega
        · have h1 := oR.from_ b o ho
          exact .inr ⟨by omega, h1.2⟩
        · rcases hb with hb | hb
          · have := H6.out b hb; omega
          · exact hb.2
      refine bodyPost_ret (results_cell_row rfl _ _ w.heap.size 64 _ (0, 0) _ rfl hB Try.underlying64 rfl size64) rfl ?_
      exact ⟨AL, cL, rs.take k, _, by rw [htk], oL.rs.1, (i3'.take k).less (fun _ _ => trivial), hR, kw, fun b hb => hb.imp id (fun h => h.1)⟩
end Go.Proofs.Ytjldgialhgfhmaa
