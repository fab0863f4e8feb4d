/- The document's receiver: Get. -/
import Derived.Test.YtnigfdldfmiaiaaDrv14
namespace Go.Proofs.Ytnigfdldfmiaiaa
open Go.ChangeShapes Go.WideShapes Go.ChangeAt Go.RowKit Go.Maps
set_option linter.unusedVariables false
set_option linter.unusedSimpArgs false
theorem size62 : (Try.prog.info? 62).map (·.size) = some 2 := by kernel_rfl
def len0At (w : World) (x : Nat) : Nat := match w.cell? ⟨x, 0, none⟩ with | some (.slice _ n _) => n | _ => 0
theorem len0At_eq {w : World} {x : Nat} {A : Option Addr} {n c : Nat} (h : w.cell? ⟨x, 0, none⟩ = some (.slice A n c)) : len0At w x = n := by
  unfold len0At
  rw [h]
theorem bufL_snoc (B : Int → Int) (rd : Int) (j : Nat) : bufL B rd (rd + j + 1 + 1) = bufL B rd (rd + j + 1) ++ [B (rd + j + 1)] := by
  unfold bufL
  rw [show (rd + j + 1 + 1 - 1 - rd).toNat = j + 1 by omega, show (rd + j + 1 - 1 - rd).toNat = j by omega, List.range_succ, List.map_append, List.map_singleton]
  congr 3
  omega
/-- What Get answers. -/
def GetOf (G : Nat → Prop) (x : Nat) (In : Int → Bool) (B : Int → Int) (rd nx e : Int) (k : Nat) (most : Int) (w : World) (r : Ending) (w' : World) : Prop :=
  ∃ A n c er xs rd', r = .returned (.agg #[.slice A n c, .int .i64 er]) ∧ RS layB w' A c xs ∧ xs.length = n ∧ (rd + 1 = nx → xs = [] ∧ er = (if e = nx then 11 else 10) ∧ rd' = rd) ∧ (rd + 1 ≠ nx → er = 0 ∧ rd' = rd + min (max most 0) (nx - 1 - rd) ∧ xs = bufL B rd (rd' + 1)) ∧
    ReS G w' x In B rd' e k ∧ Kept G w w'
set_option maxHeartbeats 4000000 in
set_option maxRecDepth 20000 in
theorem reget_any {G : Nat → Prop} {x : Nat} {In : Int → Bool} {B : Int → Int} {rd nx e : Int} {k : Nat} (most : Int) (hm : -9223372036854775808 ≤ most ∧ most ≤ 9223372036854775807) (hi : Inv In B rd nx e) (hk : k ≤ 1000000) (w : World) (h : ReS G w x In B rd e k) :
    Calls Try.prog 46 #[.pointer (some ⟨x, 0, none⟩), .int .i64 most] w (GetOf G x In B rd nx e k most w) := by
  have hrn := hi.rn; have hr0 := hi.r0; have hbig := hi.big; have hen := hi.en; have hnr := hi.nr
  have HNX := Lib.hid (fun w' (f : Fine w w') => renext_any (nx := nx) w' (by omega) hi.low hi.no hk (h.fine f))
  obtain ⟨x4, hx4⟩ : ∃ y, w.heap.size = y := ⟨_, rfl⟩
  have b4 := Blk.newAt (w := w) (t := 62) (cs := #[.slice none 0 0, .int .i64 0]) hx4.symm
  have f4 := (Fine.refl w).alloc (.cells #[.slice none 0 0, .int .i64 0] 62)
  have H := Lib.hid h; have HI := Lib.hid hi; have HX4 := Lib.hid hx4
  have hg4 : ¬ G x4 := fun hf => by have := h.lt _ hf; omega
  have HG4 := Lib.hid hg4
  clear h hi hg4 hen
  go_enter Try.func46, Try.ntmps46
  go_upto_region 1 with fail
  generalize w.alloc (.cells #[.slice none 0 0, .int .i64 0] 62) = w1 at b4 f4 ⊢
  have F1 := Lib.hid f4; have B1 := Lib.hid b4
  clear f4 b4 hx4
  go_wp2_with fail
  refine (HNX.out w1 F1.out).mono ?_
  rintro r w2 ⟨rfl, f2⟩
  have F2 := Lib.hid (F1.out.trans f2); have B2 := Lib.hid (B1.out.fine f2)
  clear f2
  obtain ⟨Ab, cb, Ai, ci, hX, hkk⟩ := H.out.fine F2.out
  have HX := Lib.hid hX; have HKK := Lib.hid hkk
  have c2 : w2.cell? ⟨x, 2, none⟩ = some (.int .i64 rd) := hX.box.cell 2
  have c3 : w2.cell? ⟨x, 3, none⟩ = some (.int .i64 e) := hX.box.cell 3
  have e1 : IntKind.i64.wrap (rd + 1) = rd + 1 := IntWalk.i64_in _ (by omega)
  have d0 : w2.cell? ⟨x4, 0, none⟩ = some (.slice none 0 0) := B2.out.cell 0
  have d1 : w2.cell? ⟨x4, 1, none⟩ = some (.int .i64 0) := B2.out.cell 1
  have z0 := B2.out.frozen 0
  have z1 := B2.out.frozen 1
  clear hX hkk
  by_cases h0 : rd + 1 = nx
  · have hz : (rd + 1 == nx) = true := by simpa using h0
    have H0 := Lib.hid h0
    clear h0
    have fin : ∀ er, er = (if e = nx then (11 : Int) else 10) → ∀ r, r = .returned (.agg #[.slice none 0 0, .int .i64 er]) → GetOf G x In B rd nx e k most w r ((w2.setCell ⟨x4, 0, none⟩ (.slice none 0 0)).setCell ⟨x4, 1, none⟩ (.int .i64 er)) := fun er her r hr => by
      have kk : Kept (· = x4) w2 ((w2.setCell ⟨x4, 0, none⟩ (.slice none 0 0)).setCell ⟨x4, 1, none⟩ (.int .i64 er)) := ((Kept.refl (· = x4) w2).setIn (p := ⟨x4, 0, none⟩) rfl _).setIn (p := ⟨x4, 1, none⟩) rfl _
      refine ⟨none, 0, 0, er, [], rd, hr, (Own.nil_ layB 5 _ 0).rs.1, rfl, fun _ => ⟨rfl, her, rfl⟩, fun hne => absurd H0.out hne, ?_, ?_⟩
      · exact ReS.kept ⟨Ab, cb, Ai, ci, HX.out, HKK.out⟩ kk (fun y hy e => HG4.out (e ▸ hy))
      · exact (Kept.of_fine F2.out).transG kk (fun _ _ h => h) (fun y hy e => by have := HX4.out; have e : y = x4 := e; omega)
    have FIN := Lib.hid fin
    have r1 : ∀ er, Blk ((w2.setCell ⟨x4, 0, none⟩ (.slice none 0 0)).setCell ⟨x4, 1, none⟩ (.int .i64 er)) x4 62 #[.slice none 0 0, .int .i64 er] := fun er => (B2.out.set_ 0 (.slice none 0 0)).set_ 1 (.int .i64 er)
    have R1 := Lib.hid r1
    clear fin r1
    by_cases hq : e = nx
    · have hq2 : (e == nx) = true := by simpa using hq
      have HQ := Lib.hid hq
      clear hq
      go_wp2_with fail
      refine bodyPost_ret (results_cell_row rfl _ _ x4 62 _ (0, 0) _ rfl (R1.out 11) Try.underlying62 rfl size62) rfl ?_
      exact FIN.out 11 (by rw [if_pos HQ.out]) _ rfl
    · have hq2 : (e == nx) = false := by simpa using hq
      have HQ := Lib.hid hq
      clear hq
      go_wp2_with fail
      refine bodyPost_ret (results_cell_row rfl _ _ x4 62 _ (0, 0) _ rfl (R1.out 10) Try.underlying62 rfl size62) rfl ?_
      exact FIN.out 10 (by rw [if_neg HQ.out]) _ rfl
  · have hz : (rd + 1 == nx) = false := by simpa using h0
    have hlt0 : rd + 1 < nx := by omega
    have H0 := Lib.hid h0
    clear h0
    obtain ⟨x6, hx6⟩ : ∃ y, w2.heap.size = y := ⟨_, rfl⟩
    have b6 := Blk.newAt (w := w2) (t := 62) (cs := #[.slice none 0 0, .int .i64 0]) hx6.symm
    have f6 := (Fine.refl w2).alloc (.cells #[.slice none 0 0, .int .i64 0] 62)
    have hg6 : ¬ G x6 := fun hf => by have := HX.out.lt _ hf; omega
    have h46 : x4 < x6 := by rw [← hx6]; exact B2.out.lt
    have hwx : w.heap.size ≤ x6 := by have := F2.out.size; omega
    have e0 : #[Value.slice none 0 0, Value.int .i64 0] = #[.slice none 0 0, .int .i64 0] := rfl
    have HG6 := Lib.hid hg6
    clear hg6 e0
    go_upto_region 7 with fail
    generalize w2.alloc (.cells #[.slice none 0 0, .int .i64 0] 62) = w3 at b6 f6 ⊢
    have F3 := Lib.hid (F2.out.trans f6); have B3 := Lib.hid (B2.out.fine f6); have D3 := Lib.hid b6
    have X3 := Lib.hid (HX.out.fine f6)
    have HGL : Hid (∀ y, G y → y < w.heap.size) := Lib.hid H.out.lt
    clear f6 b6 hx6 c2 c3 d0 d1 z0 z1 B2 HX e1
    have O3 : Hid (Own layB 5 w3 w.heap.size (.slice none 0 0) (bufL B rd (rd + ((0 : Nat) : Int) + 1))) := Lib.hid (by
      rw [show bufL B rd (rd + ((0 : Nat) : Int) + 1) = [] by unfold bufL; rw [show (rd + ((0 : Nat) : Int) + 1 - 1 - rd).toNat = 0 by omega]; rfl]
      exact Own.nil_ _ _ _ _)
    go_loopw [] (fun wr => Hid (∃ (j : Nat) (A : Option Addr) (c : Nat), (j : Int) ≤ min (max most 0) (nx - 1 - rd) ∧ Blk wr x6 62 #[.slice A j c, .int .i64 0] ∧ Own layB 5 wr w.heap.size (.slice A j c) (bufL B rd (rd + (j : Int) + 1)) ∧ ReX G wr x Ab cb Ai ci (bl In B k) (il In k) (rd + (j : Int)) e ∧ Kept G w wr ∧ Blk wr x4 62 #[.slice none 0 0, .int .i64 0])) (fun wr => (nx - 1 - rd).toNat - len0At wr x6)
    case atStart => exact Lib.hid ⟨0, none, 0, by omega, D3.out, O3.out, by simpa using X3.out, Kept.of_fine F3.out, B3.out⟩
    case round =>
      obtain ⟨j, A, c, j1, j2, j3, j4, j5, j6⟩ := hrel.out
      have J2 := Lib.hid j2; have J3 := Lib.hid j3; have J4 := Lib.hid j4; have J5 := Lib.hid j5; have J6 := Lib.hid j6
      obtain ⟨rj, hrj⟩ : ∃ z, rd + (j : Int) = z := ⟨_, rfl⟩
      rw [hrj] at J3 J4
      have HRJ := Lib.hid hrj
      have HL0 := Lib.hid (len0At_eq (j2.cell 0))
      have c0 : wr.cell? ⟨x6, 0, none⟩ = some (.slice A j c) := J2.out.cell 0
      have c2 : wr.cell? ⟨x, 2, none⟩ = some (.int .i64 rj) := J4.out.box.cell 2
      have e1 : IntKind.i64.wrap (rj + 1) = rj + 1 := IntWalk.i64_in _ (by omega)
      clear j2 j3 j4 j5 j6 hrel
      have key : ∀ K : Prop, (most ≤ (j : Int) → K) → ((j : Int) < most → nx ≤ rj + 1 → K) → ((j : Int) < most → rj + 1 < nx → K) → K := fun K a b c => by
        by_cases h0 : most ≤ (j : Int)
        · exact a h0
        · by_cases h1 : nx ≤ rj + 1
          · exact b (by omega) h1
          · exact c (by omega) (by omega)
      have KEY := Lib.hid key
      clear key
      refine KEY.out _ (fun p1 => ?_) (fun p1 p2 => ?_) (fun p1 p2 => ?_)
      · have q1 : ¬ (j : Int) < most := by omega
        have q2 : decide ((j : Int) < most) = false := decide_eq_false q1
        have hfin : Hid (rj = rd + min (max most 0) (nx - 1 - rd)) := Lib.hid (by omega)
        clear KEY hrj
        have c1 : wr.cell? ⟨x6, 1, none⟩ = some (.int .i64 0) := J2.out.cell 1
        have d0 : wr.cell? ⟨x4, 0, none⟩ = some (.slice none 0 0) := J6.out.cell 0
        have d1 : wr.cell? ⟨x4, 1, none⟩ = some (.int .i64 0) := J6.out.cell 1
        have z0 := J6.out.frozen 0
        have z1 := J6.out.frozen 1
        go_wp2_with fail
        have kk : Kept (· = x4) wr ((wr.setCell ⟨x4, 0, none⟩ (.slice A j c)).setCell ⟨x4, 1, none⟩ (.int .i64 0)) := ((Kept.refl (· = x4) wr).setIn (p := ⟨x4, 0, none⟩) rfl _).setIn (p := ⟨x4, 1, none⟩) rfl _
        have hbl : (bufL B rd (rj + 1)).length = j := by rw [bufL_len]; have := HRJ.out; omega
        refine bodyPost_ret (results_cell_row rfl _ _ x4 62 _ (0, 0) _ rfl ((J6.out.set_ 0 (.slice A j c)).set_ 1 (.int .i64 0)) Try.underlying62 rfl size62) rfl ?_
        exact ⟨A, j, c, 0, _, rj, rfl, (J3.out.kept kk (fun y hy e => J3.out.ne_blk hy J6.out (by decide) e)).rs.1, hbl, fun hne => absurd hne H0.out, fun _ => ⟨rfl, hfin.out, rfl⟩, ReS.kept ⟨Ab, cb, Ai, ci, J4.out, HKK.out⟩ kk (fun y hy e => HG4.out (e ▸ hy)), J5.out.transG kk (fun _ _ h => h) (fun y hy e => by have := HX4.out; have e : y = x4 := e; omega)⟩
      · have q1 : ¬ rj + 1 < nx := by omega
        have q2 : decide ((j : Int) < most) = true := decide_eq_true p1
        have hfin : Hid (rj = rd + min (max most 0) (nx - 1 - rd)) := Lib.hid (by omega)
        clear KEY hrj
        have c1 : wr.cell? ⟨x6, 1, none⟩ = some (.int .i64 0) := J2.out.cell 1
        have d0 : wr.cell? ⟨x4, 0, none⟩ = some (.slice none 0 0) := J6.out.cell 0
        have d1 : wr.cell? ⟨x4, 1, none⟩ = some (.int .i64 0) := J6.out.cell 1
        have z0 := J6.out.frozen 0
        have z1 := J6.out.frozen 1
        go_wp2_with fail
        have kk : Kept (· = x4) wr ((wr.setCell ⟨x4, 0, none⟩ (.slice A j c)).setCell ⟨x4, 1, none⟩ (.int .i64 0)) := ((Kept.refl (· = x4) wr).setIn (p := ⟨x4, 0, none⟩) rfl _).setIn (p := ⟨x4, 1, none⟩) rfl _
        have hbl : (bufL B rd (rj + 1)).length = j := by rw [bufL_len]; have := HRJ.out; omega
        refine bodyPost_ret (results_cell_row rfl _ _ x4 62 _ (0, 0) _ rfl ((J6.out.set_ 0 (.slice A j c)).set_ 1 (.int .i64 0)) Try.underlying62 rfl size62) rfl ?_
        exact ⟨A, j, c, 0, _, rj, rfl, (J3.out.kept kk (fun y hy e => J3.out.ne_blk hy J6.out (by decide) e)).rs.1, hbl, fun hne => absurd hne H0.out, fun _ => ⟨rfl, hfin.out, rfl⟩, ReS.kept ⟨Ab, cb, Ai, ci, J4.out, HKK.out⟩ kk (fun y hy e => HG4.out (e ▸ hy)), J5.out.transG kk (fun _ _ h => h) (fun y hy e => by have := HX4.out; have e : y = x4 := e; omega)⟩
      · have q2 : decide ((j : Int) < most) = true := decide_eq_true p1
        clear KEY hrj
        obtain ⟨m, rfl⟩ : ∃ m : Nat, rj = (m : Int) := ⟨rj.toNat, by have := HRJ.out; omega⟩
        have hin : In ((m : Int) + 1) = true := HI.out.low _ (by omega) p2
        have hmk : m < k := by have := HKK.out _ hin; omega
        obtain ⟨gb, hgb, _, _⟩ := J4.out.ob.head (by rw [bl_len]; omega)
        subst hgb
        have hby : ∀ w', ReX G w' x (some ⟨gb, 0, none⟩) cb Ai ci (bl In B k) (il In k) (m : Int) e → w'.cell? ⟨gb, m, none⟩ = some (.int .u8 (B ((m : Int) + 1))) := fun w' h => by
          obtain ⟨_, _, hgb2, _, hc⟩ := h.ob.rs.1.at_ (bl_at _ _ hmk)
          injection hgb2 with hgb2
          injection hgb2 with g1 g2
          subst g1 g2
          have := hc 0 _ rfl
          simp only [Nat.mul_one, Nat.add_zero, Nat.zero_add] at this
          rw [hin, if_pos rfl] at this
          exact this
        obtain ⟨y, hy⟩ : ∃ y, B ((m : Int) + 1) = y := ⟨_, rfl⟩
        rw [hy] at hby
        have HY := Lib.hid hy
        have d1 : wr.cell? ⟨x, 0, none⟩ = some (.slice (some ⟨gb, 0, none⟩) k cb) := by have := J4.out.box.cell 0; rw [bl_len] at this; exact this
        have d4 : wr.cell? ⟨gb, m, none⟩ = some (.int .u8 y) := hby _ J4.out
        have e2 : ∀ o, (wr.alloc o).cell? ⟨x6, 0, none⟩ = some (.slice A j c) := fun o => (J2.out.fine ((Fine.refl wr).alloc o)).cell 0
        have z1 : ∀ o, (wr.alloc o).frozen? ⟨x6, 0, none⟩ = false := fun o => (J2.out.fine ((Fine.refl wr).alloc o)).frozen 0
        have J2d := Lib.hid (J2.out.fine (Fine.refl wr).drew); have J3d := Lib.hid (J3.out.fine (Fine.refl wr).drew); have J4d := Lib.hid (J4.out.fine (Fine.refl wr).drew); have J5d := Lib.hid J5.out.drew; have J6d := Lib.hid (J6.out.fine (Fine.refl wr).drew)
        have hbl : Hid ((bufL B rd ((m : Int) + 1)).length = j) := Lib.hid (by rw [bufL_len]; have := HRJ.out; omega)
        have HEL : Hid ((bufL B rd ((m : Int) + 1) ++ [y]).length = j + 1) := Lib.hid (by rw [List.length_append, hbl.out]; rfl)
        have HSN : Hid (bufL B rd ((m : Int) + 1 + 1) = bufL B rd ((m : Int) + 1) ++ [y]) := Lib.hid (by rw [← HRJ.out, bufL_snoc, HRJ.out, hy])
        have hj100 : j ≤ 1000000 := by omega
        have hwr : w.heap.size ≤ wr.heap.size := J5.out.size
        clear hin hby hy
        go_upto_region 8 with fail
        go_cut [] (fun wx => Hid (∃ A' c', Blk wx x6 62 #[.slice A' (j + 1) c', .int .i64 0] ∧ Own layB 5 wx w.heap.size (.slice A' (j + 1) c') (bufL B rd ((m : Int) + 1 + 1)) ∧ ReX G wx x (some ⟨gb, 0, none⟩) cb Ai ci (bl In B k) (il In k) (m : Int) e ∧ Kept G w wx ∧ Blk wx x4 62 #[.slice none 0 0, .int .i64 0]))
        case first =>
          go_region_law (first | (refine step_appE rfl sliceB (.tmp 40) (.tmp 51) rfl w.heap.size (.slice A j c) (bufL B rd ((m : Int) + 1)) rfl (J3d.out.fine ((Fine.refl _).alloc (.cells #[.int .u8 y] 5))) (some ⟨wr.heap.size, 0, none⟩) 1 1 [y] rfl rfl (RS.ofBlk (Blk.newAt rfl) rfl rfl (by unfold maxLen; omega)) (by rw [hbl.out]; simp; omega) (by rw [hbl.out]; simp; unfold maxLen; omega) (Nat.le_trans hwr ((Fine.refl wr).drew.alloc (.cells #[.int .u8 y] 5)).size) ?_; intro x2 wB oB kB0 gB0 bB; obtain ⟨A3, c3, hx2, _, _⟩ := oB.form; rw [HEL.out] at hx2; subst hx2; have KB : Kept (fun q => (Value.slice A j c).ownBlock = some q) (wr.drew.alloc (.cells #[.int .u8 y] 5)) wB := Kept.grown (Kept.refl _ _) gB0 (fun k hk _ => hk); have JA := J3d.out.fine ((Fine.refl wr.drew).alloc (.cells #[.int .u8 y] 5)); have BA := J2d.out.fine ((Fine.refl wr.drew).alloc (.cells #[.int .u8 y] 5)); have BB := BA.kept KB (fun e => JA.ne_blk e BA (by decide) rfl); have yB0 := BB.cell 0; have yB1 := BB.frozen 0))
          all_goals
            have fa := (Fine.refl wr.drew).alloc (.cells #[.int .u8 y] 5)
            have kx : Kept (· = x6) wB (wB.setCell ⟨x6, 0, none⟩ (.slice A3 (j + 1) c3)) := (Kept.refl (· = x6) wB).setIn (p := ⟨x6, 0, none⟩) rfl _
            have R1 : Blk (wB.setCell ⟨x6, 0, none⟩ (.slice A3 (j + 1) c3)) x6 62 #[.slice A3 (j + 1) c3, .int .i64 0] := BB.set_ 0 _
            have R2 : Own layB 5 (wB.setCell ⟨x6, 0, none⟩ (.slice A3 (j + 1) c3)) w.heap.size (.slice A3 (j + 1) c3) (bufL B rd ((m : Int) + 1 + 1)) := by
              rw [HSN.out]
              exact oB.kept kx (fun q hq e => oB.ne_blk hq BB (by decide) e)
            have R3 : ReX G (wB.setCell ⟨x6, 0, none⟩ (.slice A3 (j + 1) c3)) x (some ⟨gb, 0, none⟩) cb Ai ci (bl In B k) (il In k) (m : Int) e := ((J4d.out.fine fa).kept KB (fun q hq e => by have := HGL.out q hq; have := (JA.lt q e).1; omega)).kept kx (fun q hq e => HG6.out (e ▸ hq))
            have R4 : Kept G w (wB.setCell ⟨x6, 0, none⟩ (.slice A3 (j + 1) c3)) := ((J5d.out.trans (Kept.of_fine fa)).transG KB (fun _ _ h => h) (fun q hq e => by have := (JA.lt q e).1; omega)).setCell (p := ⟨x6, 0, none⟩) (fun hh => by have hh : x6 < w.heap.size := hh; omega) _
            have R5 : Blk (wB.setCell ⟨x6, 0, none⟩ (.slice A3 (j + 1) c3)) x4 62 #[.slice none 0 0, .int .i64 0] := ((J6d.out.fine fa).kept KB (fun e => JA.ne_blk e (J6d.out.fine fa) (by decide) rfl)).kept kx (fun e => by have e : x4 = x6 := e; omega)
            have RR := Lib.hid (And.intro R1 (And.intro R2 (And.intro R3 (And.intro R4 R5))))
            clear R1 R2 R3 R4 R5 kx fa yB0 yB1 BB BA JA KB oB gB0 bB kB0
            go_wp2_with fail
            go_meet
            exact Lib.hid ⟨A3, c3, RR.out⟩
        case rest =>
          obtain ⟨A', c', k1, k2, k3, k4, k5⟩ := hcut.out
          obtain ⟨w5, hw5⟩ : ∃ w5, w5 = wc := ⟨_, rfl⟩
          subst hw5
          have K1 := Lib.hid k1; have K2 := Lib.hid k2; have K3 := Lib.hid k3; have K4 := Lib.hid k4; have K5 := Lib.hid k5
          have c2' : w5.cell? ⟨x, 2, none⟩ = some (.int .i64 (m : Int)) := K3.out.box.cell 2
          have z2' := K3.out.box.frozen 2
          clear k1 k2 k3 k4 k5 hcut c0 c2 d1 d4 e2 z1 J2d J3d J4d J5d J6d J2 J3 J4 J5 J6
          go_wp2_with fail
          have kx : Kept (· = x) w5 (w5.setCell ⟨x, 2, none⟩ (.int .i64 ((m : Int) + 1))) := (Kept.refl (· = x) w5).setIn (p := ⟨x, 2, none⟩) rfl _
          have hrj2 : rd + ((j + 1 : Nat) : Int) = (m : Int) + 1 := by have := HRJ.out; omega
          have B6 : Blk (w5.setCell ⟨x, 2, none⟩ (.int .i64 ((m : Int) + 1))) x6 62 #[.slice A' (j + 1) c', .int .i64 0] := K1.out.kept kx (fun e => HG6.out (e ▸ K3.out.gx))
          refine ⟨Lib.hid ⟨j + 1, A', c', by have := HRJ.out; omega, B6, by rw [hrj2]; exact K2.out.kept kx (fun q hq e => K2.out.ne_blk hq K3.out.box (by decide) e), by rw [hrj2]; exact K3.out.setRd _, K4.out.setIn (p := ⟨x, 2, none⟩) K3.out.gx _, K5.out.kept kx (fun e => HG4.out (e ▸ K3.out.gx))⟩, ?_⟩
          rw [HL0.out, len0At_eq (B6.cell 0)]
          have := HRJ.out
          omega
end Go.Proofs.Ytnigfdldfmiaiaa
