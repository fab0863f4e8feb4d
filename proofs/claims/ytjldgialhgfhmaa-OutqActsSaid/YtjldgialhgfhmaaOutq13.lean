/- The laws of outq: whatever is pushed and acknowledged. -/
import Derived.Test.YtjldgialhgfhmaaOutq12
import Derived.Deep.DeepCutAuto
namespace Go.Proofs.Ytjldgialhgfhmaa
open Go.ChangeShapes Go.WideShapes Go.ChangeAt Go.RowKit
set_option linter.unusedVariables false

set_option maxHeartbeats 4000000 in
set_option maxRecDepth 100000 in
theorem outqActs_any (seq : Int) (A : Option Addr) (ca : Nat) (acts : List ActR) (ps : List Pc) (w : World) (hs : 0 ≤ seq ∧ seq < 4294967296) (hr : RS layA w A ca acts) (hp : Iss w (fun b => b < w.heap.size) (acts.map (·.r)) ps) :
    Calls Try.prog 10 #[.int .u32 seq, .slice A acts.length ca] w fun x w' => x = .returned (.bool true) ∧ Fine w w' := by
  have HR := Lib.hid hr; clear hr
  have HP := Lib.hid hp; clear hp
  by_cases h1 : 100 < acts.length
  · go_enter Try.func10, Try.ntmps10
    go_wp2_with fail
    refine (outqWakes_any _).mono ?_; rintro x w1 ⟨rfl, f1⟩
    go_wp2_with fail
    go_ret
    exact ⟨rfl, f1⟩
  go_enter Try.func10, Try.ntmps10
  go_wp2_with fail
  refine (outqWakes_any _).mono ?_; rintro x w1 ⟨rfl, f1⟩
  go_wp2_with fail
  refine (new_any seq w1).mono ?_; rintro x w2 ⟨rfl, q2, f2⟩
  have hg := f1.size
  have hgl := q2.lt w1.heap.size rfl
  obtain ⟨g, hgg⟩ : ∃ g, w1.heap.size = g := ⟨_, rfl⟩
  rw [hgg] at q2 hg hgl ⊢
  have fw := (f1.trans f2).alloc (.cells #[.slice none 0 0, .int .u32 seq] 59)
  have hr2 : RB (w2.alloc (.cells #[.slice none 0 0, .int .u32 seq] 59)) (· = w2.heap.size) w2.heap.size [] seq := ⟨none, 0, [], Blk.new w2 59 _, Own.nil_ _ _ _ _, Iss.nil_ _ _, rfl, (fun b o h => by cases h), (fun b hb => by subst hb; simp)⟩
  have HS : Hid (StC (w2.alloc (.cells #[.slice none 0 0, .int .u32 seq] 59)) w.heap.size g w2.heap.size 0) := ⟨_, _, [], seq, q2.fine ((Fine.refl w2).alloc _), hr2, fun b hb => by subst hb; exact ⟨hg, by omega⟩, fun b hb => by subst hb; omega, hs, by simp [total], by simp, by simp⟩
  clear q2 f1 f2 hgg hr2
  go_wp2_with fail
  obtain ⟨h, hh⟩ : ∃ h, w2.heap.size = h := ⟨_, rfl⟩
  generalize (w2.alloc (.cells #[.slice none 0 0, .int .u32 seq] 59)) = w3 at HS fw ⊢
  rw [hh] at HS hgl ⊢
  clear hh
  go_loopw [31] (fun s31 wr => ∃ (i : Nat), i ≤ acts.length ∧ s31 = .int .i64 i ∧ Fine w wr ∧ Hid (StC wr w.heap.size g h i)) (fun s31 _ => acts.length - (intOf s31).toNat)
  case atStart => exact ⟨0, Nat.zero_le _, rfl, fw, HS⟩
  case round =>
    obtain ⟨i, hi, rfl, hf, hst⟩ := hrel
    by_cases hlt : i < acts.length
    · obtain ⟨a, ha0⟩ : ∃ a, acts[i]? = some a := ⟨acts[i], List.getElem?_eq_getElem hlt⟩
      obtain ⟨p, hp0⟩ : ∃ p, ps[i]? = some p := ⟨ps[i]'(by have := HP.out.1; simp at this; omega), List.getElem?_eq_getElem _⟩
      obtain ⟨b1, o1, rfl, hb1, hc1⟩ := (HR.out.fine hf).at_ ha0
      have hip := (HP.out.2 i a.r p (by rw [List.getElem?_map, ha0]; rfl) hp0).fine hf
      have hlenp := hip.2.2.2.2.2.1
      clear ha0 hp0
      obtain ⟨kd, an, q0, q1, q2, q3, q4, q5, q6, q7⟩ := a
      have HI := Lib.hid hip; clear hip
      simp only at hlenp
      have c0 := hc1 0 (.int .i64 kd) rfl
      have c1 := hc1 1 (.int .i64 an) rfl
      have c2 := hc1 2 (.int .u32 q0) rfl
      have c3 := hc1 3 (.bool q1) rfl
      have c4 := hc1 4 (.bool q2) rfl
      have c5 := hc1 5 (.slice q3 q4 q5) rfl
      have c6 := hc1 6 (.int .i64 q6) rfl
      have c7 := hc1 7 (.bool q7) rfl
      clear hc1
      simp only [← Nat.add_assoc, Nat.add_zero] at c0 c1 c2 c3 c4 c5 c6 c7
      have HLP := Lib.hid hlenp; clear hlenp
      by_cases hbig : 50 < q4
      · go_wp2_with fail
        go_ret
        exact ⟨rfl, (by repeat (first | exact Fine.refl _ | assumption | refine Fine.alloc ?_ _ | refine Fine.drew ?_ | refine Fine.drewN ?_ _ | refine Fine.trans ?_ (by assumption) | (refine Fine.kept ?_ (by assumption) (by intro x hx; first | omega | (simp; omega))) | (refine Fine.setCell ?_ (by first | assumption | (simp; done) | (simp; omega)) _)))⟩
      · go_upto_if 42 with (fail)
        have f8 : Fine wr (wr.alloc (.cells #[.int .i64 kd, .int .i64 an, .int .u32 q0, .bool q1, .bool q2, .slice q3 q4 q5, .int .i64 q6, .bool q7] 61)) := (Fine.refl wr).alloc _
        have b8 : Blk (wr.alloc (.cells #[.int .i64 kd, .int .i64 an, .int .u32 q0, .bool q1, .bool q2, .slice q3 q4 q5, .int .i64 q6, .bool q7] 61)) wr.heap.size 61 #[.int .i64 kd, .int .i64 an, .int .u32 q0, .bool q1, .bool q2, .slice q3 q4 q5, .int .i64 q6, .bool q7] := Blk.new wr 61 _
        have hs8 : (wr.alloc (.cells #[.int .i64 kd, .int .i64 an, .int .u32 q0, .bool q1, .bool q2, .slice q3 q4 q5, .int .i64 q6, .bool q7] 61)).heap.size = wr.heap.size + 1 := by simp
        obtain ⟨F, G, qs, e, hq, hR, hF, hG, hch, htot, hql, hsm⟩ := hst.out
        have hFl := hq.lt
        have hGl := hR.lt
        clear c0 c1 c2 c3 c4 c5 c6 c7 hst
        obtain ⟨x8, hx8⟩ : ∃ x8, wr.heap.size = x8 := ⟨_, rfl⟩
        generalize (wr.alloc (.cells #[.int .i64 kd, .int .i64 an, .int .u32 q0, .bool q1, .bool q2, .slice q3 q4 q5, .int .i64 q6, .bool q7] 61)) = w8 at f8 b8 hs8 ⊢
        rw [hx8] at b8 hs8 ⊢
        have hx8' : x8 < w8.heap.size := by omega
        have hx8w : wr.heap.size ≤ x8 := by omega
        have HS8 := Lib.hid hs8; clear hs8
        have HX8 := Lib.hid hx8; clear hx8
        have B8 := Lib.hid b8; clear b8
        have hxs : p.xs.length ≤ 50 := by have := HLP.out; omega
        have hI8 := HI.out.fine f8
        have HI8 := Lib.hid hI8; clear hI8
        have hsw := hf.size
        have HSM := Lib.hid hsm; clear hsm
        have hi100 : i < 100 := by omega
        go_cut [] (fun wx => Fine w wx ∧ Hid (StC wx w.heap.size g h (i + 1)))
        case first =>
          by_cases hk : kd = 0
          · skip
            go_upto_region 12 with (fail)
            have d2 : w8.cell? ⟨x8, 5, none⟩ = some (.slice q3 q4 q5) := B8.out.cell 5
            go_wp2_with (at_builtin; refine wpList_appE rfl sliceB (.tmp 43) (.tmp 46) rfl w8.heap.size _ [] rfl (Own.lit w8 #[] rfl (Nat.le_refl _) (Nat.zero_le _)) q3 q4 q5 p.xs rfl HLP.out (HI8.out.2.2.2.2.2.2.1.fine ((Fine.refl w8).alloc _)) ?_ ?_ ?_ ?_)
            · (first | omega | (unfold maxLen; omega) | (simp; omega) | (simp; unfold maxLen; omega))
            · (first | omega | (unfold maxLen; omega) | (simp; omega) | (simp; unfold maxLen; omega))
            intro A9 c9 w9 hO9 k9 _
            have f9 : Fine w8 w9 := ((Fine.refl w8).alloc (.cells #[] 5)).kept k9 (fun x hx h => by omega)
            have B89 := Lib.hid (B8.out.fine f9)
            have hs9 := f9.size
            have HO9 := Lib.hid hO9.out; clear hO9 k9 d2
            have f89 := f8.trans f9
            have e0 : w9.cell? ⟨x8, 2, none⟩ = some (.int .u32 q0) := B89.out.cell 2
            have e1 : w9.cell? ⟨x8, 3, none⟩ = some (.bool q1) := B89.out.cell 3
            have e2 : w9.cell? ⟨x8, 4, none⟩ = some (.bool q2) := B89.out.cell 4
            have e3 : w9.cell? ⟨x8, 5, none⟩ = some (.slice q3 q4 q5) := B89.out.cell 5
            have e4 : w9.cell? ⟨x8, 6, none⟩ = some (.int .i64 q6) := B89.out.cell 6
            have e5 : w9.cell? ⟨x8, 7, none⟩ = some (.bool q7) := B89.out.cell 7
            go_upto_region 15 with (fail)
            have b10 : Blk (w9.alloc (.cells #[.int .u32 q0, .bool q1, .bool q2, .slice A9 p.xs.length c9, .int .i64 q6, .bool q7] 46)) w9.heap.size 46 #[.int .u32 q0, .bool q1, .bool q2, .slice A9 p.xs.length c9, .int .i64 q6, .bool q7] := Blk.new w9 46 _
            have f10 : Fine w9 (w9.alloc (.cells #[.int .u32 q0, .bool q1, .bool q2, .slice A9 p.xs.length c9, .int .i64 q6, .bool q7] 46)) := (Fine.refl w9).alloc _
            obtain ⟨x10, hx10⟩ : ∃ x10, w9.heap.size = x10 := ⟨_, rfl⟩
            generalize (w9.alloc (.cells #[.int .u32 q0, .bool q1, .bool q2, .slice A9 p.xs.length c9, .int .i64 q6, .bool q7] 46)) = w10 at b10 f10 ⊢
            rw [hx10] at b10 ⊢
            have hl10 := b10.lt
            have hx10w : w8.heap.size ≤ x10 := by omega
            have fr10 : Fine wr w10 := f89.trans f10
            have b8' := B89.out.fine f10
            have hI10 : Is w10 (fun b => w8.heap.size ≤ b ∧ b < x10) ⟨q0, q1, q2, A9, p.xs.length, c9, q6, q7⟩ p := by
              obtain ⟨j1, j2, j3, j4, j5, j6, j7, j8⟩ := HI8.out
              exact ⟨j1, j2, j3, j4, j5, rfl, HO9.out.rs.1.fine f10, fun b o hb _ => by have := HO9.out.from_ b o hb; omega⟩
            have hI8' : Is w10 (fun b => b < w.heap.size) ⟨q0, q1, q2, q3, q4, q5, q6, q7⟩ p := HI8.out.fine (f9.trans f10)
            have hq10 := hq.fine fr10
            have hR10 := hR.fine fr10
            have HX10 := Lib.hid hx10; clear hx10
            have HPush : Hid (∀ w', Fine w10 w' → Calls Try.prog 28 #[.pointer (some ⟨g, 0, none⟩), .agg #[.int .u32 q0, .bool q1, .bool q2, .slice A9 p.xs.length c9, .int .i64 q6, .bool q7]] w' (PushOf F g qs e p w')) :=
              Lib.hid (fun w' hf' => push_any g F _ qs e ⟨q0, q1, q2, A9, p.xs.length, c9, q6, q7⟩ p w' (hq10.fine hf') (hI10.fine hf') (fun b hb hF' => by have := hFl b hF'; omega) hch.end_ (by omega) (by omega))
            have HRPush : Hid (∀ w', Kept F w10 w' → Calls Try.prog 36 #[.pointer (some ⟨h, 0, none⟩), .agg #[.int .u32 q0, .bool q1, .bool q2, .slice q3 q4 q5, .int .i64 q6, .bool q7]] w' (RPushOf G h qs e p w')) :=
              Lib.hid (fun w' hk' => refPush_any h G _ qs e ⟨q0, q1, q2, q3, q4, q5, q6, q7⟩ p w' (hR10.kept hk' (fun b hb h => (hF b h).2 hb)) (hI8'.kept hk' (fun b hb h => by have := (hF b h).1; omega)) hch.end_ (by omega) (by omega))
            have HS12 : Hid (∀ w', Kept (fun b => F b ∨ G b) w10 w' → w'.cell? ⟨x8, 2, none⟩ = some (.int .u32 q0) ∧ w'.cell? ⟨x8, 3, none⟩ = some (.bool q1) ∧ w'.cell? ⟨x8, 4, none⟩ = some (.bool q2) ∧ w'.cell? ⟨x8, 5, none⟩ = some (.slice q3 q4 q5) ∧ w'.cell? ⟨x8, 6, none⟩ = some (.int .i64 q6) ∧ w'.cell? ⟨x8, 7, none⟩ = some (.bool q7) ∧ w'.cell? ⟨x10, 0, none⟩ = some (.int .u32 q0) ∧ w'.cell? ⟨x10, 1, none⟩ = some (.bool q1) ∧ w'.cell? ⟨x10, 2, none⟩ = some (.bool q2) ∧ w'.cell? ⟨x10, 3, none⟩ = some (.slice A9 p.xs.length c9) ∧ w'.cell? ⟨x10, 4, none⟩ = some (.int .i64 q6) ∧ w'.cell? ⟨x10, 5, none⟩ = some (.bool q7)) := by
              refine Lib.hid (fun w' hk' => ?_)
              have c8 := b8'.kept hk' (fun h => by rcases h with h | h; have := hFl _ h; omega; have := hGl _ h; omega)
              have c10 := b10.kept hk' (fun h => by rcases h with h | h; have := hFl _ h; omega; have := hGl _ h; omega)
              exact ⟨c8.cell 2, c8.cell 3, c8.cell 4, c8.cell 5, c8.cell 6, c8.cell 7, c10.cell 0, c10.cell 1, c10.cell 2, c10.cell 3, c10.cell 4, c10.cell 5⟩
            have HB10 := Lib.hid b10; clear b10
            have HB8 := Lib.hid b8'; clear b8'
            have HQ10 := Lib.hid hq10; clear hq10
            have HR10 := Lib.hid hR10; clear hR10
            clear e0 e1 e2 e3 e4 e5 B89 hq hR
            have hnF0 : ¬ F w10.heap.size := fun h => by have := hFl _ h; have := fr10.size; omega
            have hnF1 : ¬ F (w10.heap.size + 1) := fun h => by have := hFl _ h; have := fr10.size; omega
            have hnG0 : ¬ G w10.heap.size := fun h => by have := hGl _ h; have := fr10.size; omega
            have hnG1 : ¬ G (w10.heap.size + 1) := fun h => by have := hGl _ h; have := fr10.size; omega
            have hnGA : ∀ x, w10.heap.size ≤ x → ¬ G x := fun x hx h => by have := hGl _ h; have := fr10.size; omega
            obtain ⟨e', he'⟩ : ∃ e', onN e (long p) = e' := ⟨_, rfl⟩
            obtain ⟨qs', hqs'⟩ : ∃ qs', pushL qs p e = qs' := ⟨_, rfl⟩
            have hFl' : ∀ b, F b → b < w10.heap.size := fun b h => Nat.lt_of_lt_of_le (hFl b h) fr10.size
            have hGl' : ∀ b, G b → b < w10.heap.size := fun b h => Nat.lt_of_lt_of_le (hGl b h) fr10.size
            go_cut [11, 12] (fun s11 s12 wx => R15 w10 wx F G g h qs' e' (withSeq p e) s11 s12)
            case first =>
              go_region_held3 (fun w' => w'.cell? ⟨x8, 2, none⟩ = some (.int .u32 q0) ∧ w'.cell? ⟨x8, 3, none⟩ = some (.bool q1) ∧ w'.cell? ⟨x8, 4, none⟩ = some (.bool q2) ∧ w'.cell? ⟨x8, 5, none⟩ = some (.slice q3 q4 q5) ∧ w'.cell? ⟨x8, 6, none⟩ = some (.int .i64 q6) ∧ w'.cell? ⟨x8, 7, none⟩ = some (.bool q7) ∧ w'.cell? ⟨x10, 0, none⟩ = some (.int .u32 q0) ∧ w'.cell? ⟨x10, 1, none⟩ = some (.bool q1) ∧ w'.cell? ⟨x10, 2, none⟩ = some (.bool q2) ∧ w'.cell? ⟨x10, 3, none⟩ = some (.slice A9 p.xs.length c9) ∧ w'.cell? ⟨x10, 4, none⟩ = some (.int .i64 q6) ∧ w'.cell? ⟨x10, 5, none⟩ = some (.bool q7)) ((refine HS12.out _ ?_; repeat (first | with_reducible exact kB2 | with_reducible exact kA2 | with_reducible exact Kept.refl _ _ | (with_reducible refine Kept.fresh ?_ (by dsimp only; omega) _) | (with_reducible refine Kept.alloc ?_ _) | (with_reducible refine Kept.drew ?_)))) (first | (go_at_call 28; refine (HPush.out ((w10.drew.alloc (.cells #[.int .u32 0, .bool false, .bool false, .slice none 0 0, .int .i64 0, .bool false] 46)).alloc (.cells #[.int .u32 0, .bool false, .bool false, .slice none 0 0, .int .i64 0, .bool false] 46)) (((Fine.refl w10).drew.alloc _).alloc _)).mono ?_; rintro x wA ⟨⟨a0, a1, a2, a3, a4, a5, a6, a7⟩, F', rfl, qA, iA, kA, hF'⟩; have f1 : Fine w10 ((w10.drew.alloc (.cells #[.int .u32 0, .bool false, .bool false, .slice none 0 0, .int .i64 0, .bool false] 46)).alloc (.cells #[.int .u32 0, .bool false, .bool false, .slice none 0 0, .int .i64 0, .bool false] 46)) := (((Fine.refl w10).drew.alloc _).alloc _); have kF : Kept F w10 wA := (Kept.of_fine (S := F) f1).trans kA; have kA2 : Kept (fun b => F b ∨ G b) w10 wA := kF.mono (fun _ _ s => Or.inl s); have sA := kF.size; have E1 : Blk wA w10.heap.size 46 #[.int .u32 0, .bool false, .bool false, .slice none 0 0, .int .i64 0, .bool false] := ((Blk.new w10.drew 46 _).alloc _).kept kA hnF0; have E1c0 : wA.cell? ⟨w10.heap.size, 0, none⟩ = some (.int .u32 0) := E1.cell 0; have E1c1 : wA.cell? ⟨w10.heap.size, 1, none⟩ = some (.bool false) := E1.cell 1; have E1c2 : wA.cell? ⟨w10.heap.size, 2, none⟩ = some (.bool false) := E1.cell 2; have E1c3 : wA.cell? ⟨w10.heap.size, 3, none⟩ = some (.slice none 0 0) := E1.cell 3; have E1c4 : wA.cell? ⟨w10.heap.size, 4, none⟩ = some (.int .i64 0) := E1.cell 4; have E1c5 : wA.cell? ⟨w10.heap.size, 5, none⟩ = some (.bool false) := E1.cell 5; have E1z0 : wA.frozen? ⟨w10.heap.size, 0, none⟩ = false := E1.frozen 0; have E1z1 : wA.frozen? ⟨w10.heap.size, 1, none⟩ = false := E1.frozen 1; have E1z2 : wA.frozen? ⟨w10.heap.size, 2, none⟩ = false := E1.frozen 2; have E1z3 : wA.frozen? ⟨w10.heap.size, 3, none⟩ = false := E1.frozen 3; have E1z4 : wA.frozen? ⟨w10.heap.size, 4, none⟩ = false := E1.frozen 4; have E1z5 : wA.frozen? ⟨w10.heap.size, 5, none⟩ = false := E1.frozen 5; have E1n : w10.heap.size ≠ wA.heap.size := Nat.ne_of_lt E1.lt; have E1m : wA.heap.size ≠ w10.heap.size := Nat.ne_of_gt E1.lt; have E2 : Blk wA (w10.heap.size + 1) 46 #[.int .u32 0, .bool false, .bool false, .slice none 0 0, .int .i64 0, .bool false] := (Blk.newAt (w := (w10.drew.alloc (.cells #[.int .u32 0, .bool false, .bool false, .slice none 0 0, .int .i64 0, .bool false] 46))) (by simp)).kept kA hnF1; have E2c0 : wA.cell? ⟨w10.heap.size + 1, 0, none⟩ = some (.int .u32 0) := E2.cell 0; have E2c1 : wA.cell? ⟨w10.heap.size + 1, 1, none⟩ = some (.bool false) := E2.cell 1; have E2c2 : wA.cell? ⟨w10.heap.size + 1, 2, none⟩ = some (.bool false) := E2.cell 2; have E2c3 : wA.cell? ⟨w10.heap.size + 1, 3, none⟩ = some (.slice none 0 0) := E2.cell 3; have E2c4 : wA.cell? ⟨w10.heap.size + 1, 4, none⟩ = some (.int .i64 0) := E2.cell 4; have E2c5 : wA.cell? ⟨w10.heap.size + 1, 5, none⟩ = some (.bool false) := E2.cell 5; have E2z0 : wA.frozen? ⟨w10.heap.size + 1, 0, none⟩ = false := E2.frozen 0; have E2z1 : wA.frozen? ⟨w10.heap.size + 1, 1, none⟩ = false := E2.frozen 1; have E2z2 : wA.frozen? ⟨w10.heap.size + 1, 2, none⟩ = false := E2.frozen 2; have E2z3 : wA.frozen? ⟨w10.heap.size + 1, 3, none⟩ = false := E2.frozen 3; have E2z4 : wA.frozen? ⟨w10.heap.size + 1, 4, none⟩ = false := E2.frozen 4; have E2z5 : wA.frozen? ⟨w10.heap.size + 1, 5, none⟩ = false := E2.frozen 5; have E2n : w10.heap.size + 1 ≠ wA.heap.size := Nat.ne_of_lt E2.lt; have E2m : wA.heap.size ≠ w10.heap.size + 1 := Nat.ne_of_gt E2.lt; dsimp only [Raw.cells]) | (go_at_call 28; refine (HPush.out (w10.drew.alloc (.cells #[.int .u32 0, .bool false, .bool false, .slice none 0 0, .int .i64 0, .bool false] 46)) ((Fine.refl w10).drew.alloc _)).mono ?_; rintro x wA ⟨⟨a0, a1, a2, a3, a4, a5, a6, a7⟩, F', rfl, qA, iA, kA, hF'⟩; have f1 : Fine w10 (w10.drew.alloc (.cells #[.int .u32 0, .bool false, .bool false, .slice none 0 0, .int .i64 0, .bool false] 46)) := ((Fine.refl w10).drew.alloc _); have kF : Kept F w10 wA := (Kept.of_fine (S := F) f1).trans kA; have kA2 : Kept (fun b => F b ∨ G b) w10 wA := kF.mono (fun _ _ s => Or.inl s); have sA := kF.size; have E1 : Blk wA w10.heap.size 46 #[.int .u32 0, .bool false, .bool false, .slice none 0 0, .int .i64 0, .bool false] := (Blk.new w10.drew 46 _).kept kA hnF0; have E1c0 : wA.cell? ⟨w10.heap.size, 0, none⟩ = some (.int .u32 0) := E1.cell 0; have E1c1 : wA.cell? ⟨w10.heap.size, 1, none⟩ = some (.bool false) := E1.cell 1; have E1c2 : wA.cell? ⟨w10.heap.size, 2, none⟩ = some (.bool false) := E1.cell 2; have E1c3 : wA.cell? ⟨w10.heap.size, 3, none⟩ = some (.slice none 0 0) := E1.cell 3; have E1c4 : wA.cell? ⟨w10.heap.size, 4, none⟩ = some (.int .i64 0) := E1.cell 4; have E1c5 : wA.cell? ⟨w10.heap.size, 5, none⟩ = some (.bool false) := E1.cell 5; have E1z0 : wA.frozen? ⟨w10.heap.size, 0, none⟩ = false := E1.frozen 0; have E1z1 : wA.frozen? ⟨w10.heap.size, 1, none⟩ = false := E1.frozen 1; have E1z2 : wA.frozen? ⟨w10.heap.size, 2, none⟩ = false := E1.frozen 2; have E1z3 : wA.frozen? ⟨w10.heap.size, 3, none⟩ = false := E1.frozen 3; have E1z4 : wA.frozen? ⟨w10.heap.size, 4, none⟩ = false := E1.frozen 4; have E1z5 : wA.frozen? ⟨w10.heap.size, 5, none⟩ = false := E1.frozen 5; have E1n : w10.heap.size ≠ wA.heap.size := Nat.ne_of_lt E1.lt; have E1m : wA.heap.size ≠ w10.heap.size := Nat.ne_of_gt E1.lt; dsimp only [Raw.cells]) | (go_at_call 28; refine (HPush.out w10.drew (Fine.refl w10).drew).mono ?_; rintro x wA ⟨⟨a0, a1, a2, a3, a4, a5, a6, a7⟩, F', rfl, qA, iA, kA, hF'⟩; have f1 : Fine w10 w10.drew := (Fine.refl w10).drew; have kF : Kept F w10 wA := (Kept.of_fine (S := F) f1).trans kA; have kA2 : Kept (fun b => F b ∨ G b) w10 wA := kF.mono (fun _ _ s => Or.inl s); have sA := kF.size; dsimp only [Raw.cells]) | (go_at_call 36; have D1 := E2; refine (HRPush.out wA kF).mono ?_; rintro x wB ⟨⟨z0, z1, z2, z3, z4, z5, z6, z7⟩, G', rfl, rB, iB, kB, hG'⟩; have f2 : Fine wA wA := (Fine.refl wA); have kB2 : Kept (fun b => F b ∨ G b) w10 wB := (kA2.trans (Kept.of_fine f2)).transG kB (fun _ _ s => s) (fun _ _ s => Or.inr s); have sB := kB2.size; have sB2 := Nat.le_trans f2.size kB.size; have P1 : Blk wB w10.heap.size 46 #[.int .u32 0, .bool false, .bool false, .slice none 0 0, .int .i64 0, .bool false] := (E1.fine f2).kept kB hnG0; have P1c0 : wB.cell? ⟨w10.heap.size, 0, none⟩ = some (.int .u32 0) := P1.cell 0; have P1c1 : wB.cell? ⟨w10.heap.size, 1, none⟩ = some (.bool false) := P1.cell 1; have P1c2 : wB.cell? ⟨w10.heap.size, 2, none⟩ = some (.bool false) := P1.cell 2; have P1c3 : wB.cell? ⟨w10.heap.size, 3, none⟩ = some (.slice none 0 0) := P1.cell 3; have P1c4 : wB.cell? ⟨w10.heap.size, 4, none⟩ = some (.int .i64 0) := P1.cell 4; have P1c5 : wB.cell? ⟨w10.heap.size, 5, none⟩ = some (.bool false) := P1.cell 5; have P1z0 : wB.frozen? ⟨w10.heap.size, 0, none⟩ = false := P1.frozen 0; have P1z1 : wB.frozen? ⟨w10.heap.size, 1, none⟩ = false := P1.frozen 1; have P1z2 : wB.frozen? ⟨w10.heap.size, 2, none⟩ = false := P1.frozen 2; have P1z3 : wB.frozen? ⟨w10.heap.size, 3, none⟩ = false := P1.frozen 3; have P1z4 : wB.frozen? ⟨w10.heap.size, 4, none⟩ = false := P1.frozen 4; have P1z5 : wB.frozen? ⟨w10.heap.size, 5, none⟩ = false := P1.frozen 5; have P1d0 : ∀ o, (wB.alloc o).cell? ⟨w10.heap.size, 0, none⟩ = some (.int .u32 0) := fun o => (P1.alloc o).cell 0; have P1y0 : ∀ o, (wB.alloc o).frozen? ⟨w10.heap.size, 0, none⟩ = false := fun o => (P1.alloc o).frozen 0; have P1d1 : ∀ o, (wB.alloc o).cell? ⟨w10.heap.size, 1, none⟩ = some (.bool false) := fun o => (P1.alloc o).cell 1; have P1y1 : ∀ o, (wB.alloc o).frozen? ⟨w10.heap.size, 1, none⟩ = false := fun o => (P1.alloc o).frozen 1; have P1d2 : ∀ o, (wB.alloc o).cell? ⟨w10.heap.size, 2, none⟩ = some (.bool false) := fun o => (P1.alloc o).cell 2; have P1y2 : ∀ o, (wB.alloc o).frozen? ⟨w10.heap.size, 2, none⟩ = false := fun o => (P1.alloc o).frozen 2; have P1d3 : ∀ o, (wB.alloc o).cell? ⟨w10.heap.size, 3, none⟩ = some (.slice none 0 0) := fun o => (P1.alloc o).cell 3; have P1y3 : ∀ o, (wB.alloc o).frozen? ⟨w10.heap.size, 3, none⟩ = false := fun o => (P1.alloc o).frozen 3; have P1d4 : ∀ o, (wB.alloc o).cell? ⟨w10.heap.size, 4, none⟩ = some (.int .i64 0) := fun o => (P1.alloc o).cell 4; have P1y4 : ∀ o, (wB.alloc o).frozen? ⟨w10.heap.size, 4, none⟩ = false := fun o => (P1.alloc o).frozen 4; have P1d5 : ∀ o, (wB.alloc o).cell? ⟨w10.heap.size, 5, none⟩ = some (.bool false) := fun o => (P1.alloc o).cell 5; have P1y5 : ∀ o, (wB.alloc o).frozen? ⟨w10.heap.size, 5, none⟩ = false := fun o => (P1.alloc o).frozen 5; have P1n : w10.heap.size ≠ wB.heap.size := Nat.ne_of_lt P1.lt; have P1m : wB.heap.size ≠ w10.heap.size := Nat.ne_of_gt P1.lt; have P2 : Blk wB (w10.heap.size + 1) 46 #[.int .u32 0, .bool false, .bool false, .slice none 0 0, .int .i64 0, .bool false] := (E2.fine f2).kept kB hnG1; have P2c0 : wB.cell? ⟨w10.heap.size + 1, 0, none⟩ = some (.int .u32 0) := P2.cell 0; have P2c1 : wB.cell? ⟨w10.heap.size + 1, 1, none⟩ = some (.bool false) := P2.cell 1; have P2c2 : wB.cell? ⟨w10.heap.size + 1, 2, none⟩ = some (.bool false) := P2.cell 2; have P2c3 : wB.cell? ⟨w10.heap.size + 1, 3, none⟩ = some (.slice none 0 0) := P2.cell 3; have P2c4 : wB.cell? ⟨w10.heap.size + 1, 4, none⟩ = some (.int .i64 0) := P2.cell 4; have P2c5 : wB.cell? ⟨w10.heap.size + 1, 5, none⟩ = some (.bool false) := P2.cell 5; have P2z0 : wB.frozen? ⟨w10.heap.size + 1, 0, none⟩ = false := P2.frozen 0; have P2z1 : wB.frozen? ⟨w10.heap.size + 1, 1, none⟩ = false := P2.frozen 1; have P2z2 : wB.frozen? ⟨w10.heap.size + 1, 2, none⟩ = false := P2.frozen 2; have P2z3 : wB.frozen? ⟨w10.heap.size + 1, 3, none⟩ = false := P2.frozen 3; have P2z4 : wB.frozen? ⟨w10.heap.size + 1, 4, none⟩ = false := P2.frozen 4; have P2z5 : wB.frozen? ⟨w10.heap.size + 1, 5, none⟩ = false := P2.frozen 5; have P2d0 : ∀ o, (wB.alloc o).cell? ⟨w10.heap.size + 1, 0, none⟩ = some (.int .u32 0) := fun o => (P2.alloc o).cell 0; have P2y0 : ∀ o, (wB.alloc o).frozen? ⟨w10.heap.size + 1, 0, none⟩ = false := fun o => (P2.alloc o).frozen 0; have P2d1 : ∀ o, (wB.alloc o).cell? ⟨w10.heap.size + 1, 1, none⟩ = some (.bool false) := fun o => (P2.alloc o).cell 1; have P2y1 : ∀ o, (wB.alloc o).frozen? ⟨w10.heap.size + 1, 1, none⟩ = false := fun o => (P2.alloc o).frozen 1; have P2d2 : ∀ o, (wB.alloc o).cell? ⟨w10.heap.size + 1, 2, none⟩ = some (.bool false) := fun o => (P2.alloc o).cell 2; have P2y2 : ∀ o, (wB.alloc o).frozen? ⟨w10.heap.size + 1, 2, none⟩ = false := fun o => (P2.alloc o).frozen 2; have P2d3 : ∀ o, (wB.alloc o).cell? ⟨w10.heap.size + 1, 3, none⟩ = some (.slice none 0 0) := fun o => (P2.alloc o).cell 3; have P2y3 : ∀ o, (wB.alloc o).frozen? ⟨w10.heap.size + 1, 3, none⟩ = false := fun o => (P2.alloc o).frozen 3; have P2d4 : ∀ o, (wB.alloc o).cell? ⟨w10.heap.size + 1, 4, none⟩ = some (.int .i64 0) := fun o => (P2.alloc o).cell 4; have P2y4 : ∀ o, (wB.alloc o).frozen? ⟨w10.heap.size + 1, 4, none⟩ = false := fun o => (P2.alloc o).frozen 4; have P2d5 : ∀ o, (wB.alloc o).cell? ⟨w10.heap.size + 1, 5, none⟩ = some (.bool false) := fun o => (P2.alloc o).cell 5; have P2y5 : ∀ o, (wB.alloc o).frozen? ⟨w10.heap.size + 1, 5, none⟩ = false := fun o => (P2.alloc o).frozen 5; have P2n : w10.heap.size + 1 ≠ wB.heap.size := Nat.ne_of_lt P2.lt; have P2m : wB.heap.size ≠ w10.heap.size + 1 := Nat.ne_of_gt P2.lt; dsimp only [Raw.cells]) | (go_at_call 36; have D1 := E1; refine (HRPush.out (wA.alloc (.cells #[.int .u32 0, .bool false, .bool false, .slice none 0 0, .int .i64 0, .bool false] 46)) (kF.alloc _)).mono ?_; rintro x wB ⟨⟨z0, z1, z2, z3, z4, z5, z6, z7⟩, G', rfl, rB, iB, kB, hG'⟩; have f2 : Fine wA (wA.alloc (.cells #[.int .u32 0, .bool false, .bool false, .slice none 0 0, .int .i64 0, .bool false] 46)) := ((Fine.refl wA).alloc _); have kB2 : Kept (fun b => F b ∨ G b) w10 wB := (kA2.trans (Kept.of_fine f2)).transG kB (fun _ _ s => s) (fun _ _ s => Or.inr s); have sB := kB2.size; have sB2 := Nat.le_trans f2.size kB.size; have P1 : Blk wB w10.heap.size 46 #[.int .u32 0, .bool false, .bool false, .slice none 0 0, .int .i64 0, .bool false] := (E1.fine f2).kept kB hnG0; have P1c0 : wB.cell? ⟨w10.heap.size, 0, none⟩ = some (.int .u32 0) := P1.cell 0; have P1c1 : wB.cell? ⟨w10.heap.size, 1, none⟩ = some (.bool false) := P1.cell 1; have P1c2 : wB.cell? ⟨w10.heap.size, 2, none⟩ = some (.bool false) := P1.cell 2; have P1c3 : wB.cell? ⟨w10.heap.size, 3, none⟩ = some (.slice none 0 0) := P1.cell 3; have P1c4 : wB.cell? ⟨w10.heap.size, 4, none⟩ = some (.int .i64 0) := P1.cell 4; have P1c5 : wB.cell? ⟨w10.heap.size, 5, none⟩ = some (.bool false) := P1.cell 5; have P1z0 : wB.frozen? ⟨w10.heap.size, 0, none⟩ = false := P1.frozen 0; have P1z1 : wB.frozen? ⟨w10.heap.size, 1, none⟩ = false := P1.frozen 1; have P1z2 : wB.frozen? ⟨w10.heap.size, 2, none⟩ = false := P1.frozen 2; have P1z3 : wB.frozen? ⟨w10.heap.size, 3, none⟩ = false := P1.frozen 3; have P1z4 : wB.frozen? ⟨w10.heap.size, 4, none⟩ = false := P1.frozen 4; have P1z5 : wB.frozen? ⟨w10.heap.size, 5, none⟩ = false := P1.frozen 5; have P1d0 : ∀ o, (wB.alloc o).cell? ⟨w10.heap.size, 0, none⟩ = some (.int .u32 0) := fun o => (P1.alloc o).cell 0; have P1y0 : ∀ o, (wB.alloc o).frozen? ⟨w10.heap.size, 0, none⟩ = false := fun o => (P1.alloc o).frozen 0; have P1d1 : ∀ o, (wB.alloc o).cell? ⟨w10.heap.size, 1, none⟩ = some (.bool false) := fun o => (P1.alloc o).cell 1; have P1y1 : ∀ o, (wB.alloc o).frozen? ⟨w10.heap.size, 1, none⟩ = false := fun o => (P1.alloc o).frozen 1; have P1d2 : ∀ o, (wB.alloc o).cell? ⟨w10.heap.size, 2, none⟩ = some (.bool false) := fun o => (P1.alloc o).cell 2; have P1y2 : ∀ o, (wB.alloc o).frozen? ⟨w10.heap.size, 2, none⟩ = false := fun o => (P1.alloc o).frozen 2; have P1d3 : ∀ o, (wB.alloc o).cell? ⟨w10.heap.size, 3, none⟩ = some (.slice none 0 0) := fun o => (P1.alloc o).cell 3; have P1y3 : ∀ o, (wB.alloc o).frozen? ⟨w10.heap.size, 3, none⟩ = false := fun o => (P1.alloc o).frozen 3; have P1d4 : ∀ o, (wB.alloc o).cell? ⟨w10.heap.size, 4, none⟩ = some (.int .i64 0) := fun o => (P1.alloc o).cell 4; have P1y4 : ∀ o, (wB.alloc o).frozen? ⟨w10.heap.size, 4, none⟩ = false := fun o => (P1.alloc o).frozen 4; have P1d5 : ∀ o, (wB.alloc o).cell? ⟨w10.heap.size, 5, none⟩ = some (.bool false) := fun o => (P1.alloc o).cell 5; have P1y5 : ∀ o, (wB.alloc o).frozen? ⟨w10.heap.size, 5, none⟩ = false := fun o => (P1.alloc o).frozen 5; have P1n : w10.heap.size ≠ wB.heap.size := Nat.ne_of_lt P1.lt; have P1m : wB.heap.size ≠ w10.heap.size := Nat.ne_of_gt P1.lt; have Q1 : Blk wB wA.heap.size 46 #[.int .u32 0, .bool false, .bool false, .slice none 0 0, .int .i64 0, .bool false] := (Blk.new wA 46 _).kept kB (hnGA wA.heap.size kF.size); have Q1c0 : wB.cell? ⟨wA.heap.size, 0, none⟩ = some (.int .u32 0) := Q1.cell 0; have Q1c1 : wB.cell? ⟨wA.heap.size, 1, none⟩ = some (.bool false) := Q1.cell 1; have Q1c2 : wB.cell? ⟨wA.heap.size, 2, none⟩ = some (.bool false) := Q1.cell 2; have Q1c3 : wB.cell? ⟨wA.heap.size, 3, none⟩ = some (.slice none 0 0) := Q1.cell 3; have Q1c4 : wB.cell? ⟨wA.heap.size, 4, none⟩ = some (.int .i64 0) := Q1.cell 4; have Q1c5 : wB.cell? ⟨wA.heap.size, 5, none⟩ = some (.bool false) := Q1.cell 5; have Q1z0 : wB.frozen? ⟨wA.heap.size, 0, none⟩ = false := Q1.frozen 0; have Q1z1 : wB.frozen? ⟨wA.heap.size, 1, none⟩ = false := Q1.frozen 1; have Q1z2 : wB.frozen? ⟨wA.heap.size, 2, none⟩ = false := Q1.frozen 2; have Q1z3 : wB.frozen? ⟨wA.heap.size, 3, none⟩ = false := Q1.frozen 3; have Q1z4 : wB.frozen? ⟨wA.heap.size, 4, none⟩ = false := Q1.frozen 4; have Q1z5 : wB.frozen? ⟨wA.heap.size, 5, none⟩ = false := Q1.frozen 5; have Q1d0 : ∀ o, (wB.alloc o).cell? ⟨wA.heap.size, 0, none⟩ = some (.int .u32 0) := fun o => (Q1.alloc o).cell 0; have Q1y0 : ∀ o, (wB.alloc o).frozen? ⟨wA.heap.size, 0, none⟩ = false := fun o => (Q1.alloc o).frozen 0; have Q1d1 : ∀ o, (wB.alloc o).cell? ⟨wA.heap.size, 1, none⟩ = some (.bool false) := fun o => (Q1.alloc o).cell 1; have Q1y1 : ∀ o, (wB.alloc o).frozen? ⟨wA.heap.size, 1, none⟩ = false := fun o => (Q1.alloc o).frozen 1; have Q1d2 : ∀ o, (wB.alloc o).cell? ⟨wA.heap.size, 2, none⟩ = some (.bool false) := fun o => (Q1.alloc o).cell 2; have Q1y2 : ∀ o, (wB.alloc o).frozen? ⟨wA.heap.size, 2, none⟩ = false := fun o => (Q1.alloc o).frozen 2; have Q1d3 : ∀ o, (wB.alloc o).cell? ⟨wA.heap.size, 3, none⟩ = some (.slice none 0 0) := fun o => (Q1.alloc o).cell 3; have Q1y3 : ∀ o, (wB.alloc o).frozen? ⟨wA.heap.size, 3, none⟩ = false := fun o => (Q1.alloc o).frozen 3; have Q1d4 : ∀ o, (wB.alloc o).cell? ⟨wA.heap.size, 4, none⟩ = some (.int .i64 0) := fun o => (Q1.alloc o).cell 4; have Q1y4 : ∀ o, (wB.alloc o).frozen? ⟨wA.heap.size, 4, none⟩ = false := fun o => (Q1.alloc o).frozen 4; have Q1d5 : ∀ o, (wB.alloc o).cell? ⟨wA.heap.size, 5, none⟩ = some (.bool false) := fun o => (Q1.alloc o).cell 5; have Q1y5 : ∀ o, (wB.alloc o).frozen? ⟨wA.heap.size, 5, none⟩ = false := fun o => (Q1.alloc o).frozen 5; have Q1n : wA.heap.size ≠ wB.heap.size := Nat.ne_of_lt Q1.lt; have Q1m : wB.heap.size ≠ wA.heap.size := Nat.ne_of_gt Q1.lt; dsimp only [Raw.cells]) | (go_at_call 36; have D1 := E1; refine (HRPush.out wA kF).mono ?_; rintro x wB ⟨⟨z0, z1, z2, z3, z4, z5, z6, z7⟩, G', rfl, rB, iB, kB, hG'⟩; have f2 : Fine wA wA := (Fine.refl wA); have kB2 : Kept (fun b => F b ∨ G b) w10 wB := (kA2.trans (Kept.of_fine f2)).transG kB (fun _ _ s => s) (fun _ _ s => Or.inr s); have sB := kB2.size; have sB2 := Nat.le_trans f2.size kB.size; have P1 : Blk wB w10.heap.size 46 #[.int .u32 0, .bool false, .bool false, .slice none 0 0, .int .i64 0, .bool false] := (E1.fine f2).kept kB hnG0; have P1c0 : wB.cell? ⟨w10.heap.size, 0, none⟩ = some (.int .u32 0) := P1.cell 0; have P1c1 : wB.cell? ⟨w10.heap.size, 1, none⟩ = some (.bool false) := P1.cell 1; have P1c2 : wB.cell? ⟨w10.heap.size, 2, none⟩ = some (.bool false) := P1.cell 2; have P1c3 : wB.cell? ⟨w10.heap.size, 3, none⟩ = some (.slice none 0 0) := P1.cell 3; have P1c4 : wB.cell? ⟨w10.heap.size, 4, none⟩ = some (.int .i64 0) := P1.cell 4; have P1c5 : wB.cell? ⟨w10.heap.size, 5, none⟩ = some (.bool false) := P1.cell 5; have P1z0 : wB.frozen? ⟨w10.heap.size, 0, none⟩ = false := P1.frozen 0; have P1z1 : wB.frozen? ⟨w10.heap.size, 1, none⟩ = false := P1.frozen 1; have P1z2 : wB.frozen? ⟨w10.heap.size, 2, none⟩ = false := P1.frozen 2; have P1z3 : wB.frozen? ⟨w10.heap.size, 3, none⟩ = false := P1.frozen 3; have P1z4 : wB.frozen? ⟨w10.heap.size, 4, none⟩ = false := P1.frozen 4; have P1z5 : wB.frozen? ⟨w10.heap.size, 5, none⟩ = false := P1.frozen 5; have P1d0 : ∀ o, (wB.alloc o).cell? ⟨w10.heap.size, 0, none⟩ = some (.int .u32 0) := fun o => (P1.alloc o).cell 0; have P1y0 : ∀ o, (wB.alloc o).frozen? ⟨w10.heap.size, 0, none⟩ = false := fun o => (P1.alloc o).frozen 0; have P1d1 : ∀ o, (wB.alloc o).cell? ⟨w10.heap.size, 1, none⟩ = some (.bool false) := fun o => (P1.alloc o).cell 1; have P1y1 : ∀ o, (wB.alloc o).frozen? ⟨w10.heap.size, 1, none⟩ = false := fun o => (P1.alloc o).frozen 1; have P1d2 : ∀ o, (wB.alloc o).cell? ⟨w10.heap.size, 2, none⟩ = some (.bool false) := fun o => (P1.alloc o).cell 2; have P1y2 : ∀ o, (wB.alloc o).frozen? ⟨w10.heap.size, 2, none⟩ = false := fun o => (P1.alloc o).frozen 2; have P1d3 : ∀ o, (wB.alloc o).cell? ⟨w10.heap.size, 3, none⟩ = some (.slice none 0 0) := fun o => (P1.alloc o).cell 3; have P1y3 : ∀ o, (wB.alloc o).frozen? ⟨w10.heap.size, 3, none⟩ = false := fun o => (P1.alloc o).frozen 3; have P1d4 : ∀ o, (wB.alloc o).cell? ⟨w10.heap.size, 4, none⟩ = some (.int .i64 0) := fun o => (P1.alloc o).cell 4; have P1y4 : ∀ o, (wB.alloc o).frozen? ⟨w10.heap.size, 4, none⟩ = false := fun o => (P1.alloc o).frozen 4; have P1d5 : ∀ o, (wB.alloc o).cell? ⟨w10.heap.size, 5, none⟩ = some (.bool false) := fun o => (P1.alloc o).cell 5; have P1y5 : ∀ o, (wB.alloc o).frozen? ⟨w10.heap.size, 5, none⟩ = false := fun o => (P1.alloc o).frozen 5; have P1n : w10.heap.size ≠ wB.heap.size := Nat.ne_of_lt P1.lt; have P1m : wB.heap.size ≠ w10.heap.size := Nat.ne_of_gt P1.lt; dsimp only [Raw.cells]) | (go_at_call 36; refine (HRPush.out ((wA.alloc (.cells #[.int .u32 0, .bool false, .bool false, .slice none 0 0, .int .i64 0, .bool false] 46)).alloc (.cells #[.int .u32 0, .bool false, .bool false, .slice none 0 0, .int .i64 0, .bool false] 46)) ((kF.alloc _).alloc _)).mono ?_; rintro x wB ⟨⟨z0, z1, z2, z3, z4, z5, z6, z7⟩, G', rfl, rB, iB, kB, hG'⟩; have f2 : Fine wA ((wA.alloc (.cells #[.int .u32 0, .bool false, .bool false, .slice none 0 0, .int .i64 0, .bool false] 46)).alloc (.cells #[.int .u32 0, .bool false, .bool false, .slice none 0 0, .int .i64 0, .bool false] 46)) := (((Fine.refl wA).alloc _).alloc _); have kB2 : Kept (fun b => F b ∨ G b) w10 wB := (kA2.trans (Kept.of_fine f2)).transG kB (fun _ _ s => s) (fun _ _ s => Or.inr s); have sB := kB2.size; have sB2 := Nat.le_trans f2.size kB.size; have Q1 : Blk wB wA.heap.size 46 #[.int .u32 0, .bool false, .bool false, .slice none 0 0, .int .i64 0, .bool false] := ((Blk.new wA 46 _).alloc _).kept kB (hnGA wA.heap.size kF.size); have Q1c0 : wB.cell? ⟨wA.heap.size, 0, none⟩ = some (.int .u32 0) := Q1.cell 0; have Q1c1 : wB.cell? ⟨wA.heap.size, 1, none⟩ = some (.bool false) := Q1.cell 1; have Q1c2 : wB.cell? ⟨wA.heap.size, 2, none⟩ = some (.bool false) := Q1.cell 2; have Q1c3 : wB.cell? ⟨wA.heap.size, 3, none⟩ = some (.slice none 0 0) := Q1.cell 3; have Q1c4 : wB.cell? ⟨wA.heap.size, 4, none⟩ = some (.int .i64 0) := Q1.cell 4; have Q1c5 : wB.cell? ⟨wA.heap.size, 5, none⟩ = some (.bool false) := Q1.cell 5; have Q1z0 : wB.frozen? ⟨wA.heap.size, 0, none⟩ = false := Q1.frozen 0; have Q1z1 : wB.frozen? ⟨wA.heap.size, 1, none⟩ = false := Q1.frozen 1; have Q1z2 : wB.frozen? ⟨wA.heap.size, 2, none⟩ = false := Q1.frozen 2; have Q1z3 : wB.frozen? ⟨wA.heap.size, 3, none⟩ = false := Q1.frozen 3; have Q1z4 : wB.frozen? ⟨wA.heap.size, 4, none⟩ = false := Q1.frozen 4; have Q1z5 : wB.frozen? ⟨wA.heap.size, 5, none⟩ = false := Q1.frozen 5; have Q1d0 : ∀ o, (wB.alloc o).cell? ⟨wA.heap.size, 0, none⟩ = some (.int .u32 0) := fun o => (Q1.alloc o).cell 0; have Q1y0 : ∀ o, (wB.alloc o).frozen? ⟨wA.heap.size, 0, none⟩ = false := fun o => (Q1.alloc o).frozen 0; have Q1d1 : ∀ o, (wB.alloc o).cell? ⟨wA.heap.size, 1, none⟩ = some (.bool false) := fun o => (Q1.alloc o).cell 1; have Q1y1 : ∀ o, (wB.alloc o).frozen? ⟨wA.heap.size, 1, none⟩ = false := fun o => (Q1.alloc o).frozen 1; have Q1d2 : ∀ o, (wB.alloc o).cell? ⟨wA.heap.size, 2, none⟩ = some (.bool false) := fun o => (Q1.alloc o).cell 2; have Q1y2 : ∀ o, (wB.alloc o).frozen? ⟨wA.heap.size, 2, none⟩ = false := fun o => (Q1.alloc o).frozen 2; have Q1d3 : ∀ o, (wB.alloc o).cell? ⟨wA.heap.size, 3, none⟩ = some (.slice none 0 0) := fun o => (Q1.alloc o).cell 3; have Q1y3 : ∀ o, (wB.alloc o).frozen? ⟨wA.heap.size, 3, none⟩ = false := fun o => (Q1.alloc o).frozen 3; have Q1d4 : ∀ o, (wB.alloc o).cell? ⟨wA.heap.size, 4, none⟩ = some (.int .i64 0) := fun o => (Q1.alloc o).cell 4; have Q1y4 : ∀ o, (wB.alloc o).frozen? ⟨wA.heap.size, 4, none⟩ = false := fun o => (Q1.alloc o).frozen 4; have Q1d5 : ∀ o, (wB.alloc o).cell? ⟨wA.heap.size, 5, none⟩ = some (.bool false) := fun o => (Q1.alloc o).cell 5; have Q1y5 : ∀ o, (wB.alloc o).frozen? ⟨wA.heap.size, 5, none⟩ = false := fun o => (Q1.alloc o).frozen 5; have Q1n : wA.heap.size ≠ wB.heap.size := Nat.ne_of_lt Q1.lt; have Q1m : wB.heap.size ≠ wA.heap.size := Nat.ne_of_gt Q1.lt; have Q2 : Blk wB (wA.heap.size + 1) 46 #[.int .u32 0, .bool false, .bool false, .slice none 0 0, .int .i64 0, .bool false] := (Blk.newAt (w := (wA.alloc (.cells #[.int .u32 0, .bool false, .bool false, .slice none 0 0, .int .i64 0, .bool false] 46))) (by simp)).kept kB (hnGA (wA.heap.size + 1) (Nat.le_succ_of_le kF.size)); have Q2c0 : wB.cell? ⟨wA.heap.size + 1, 0, none⟩ = some (.int .u32 0) := Q2.cell 0; have Q2c1 : wB.cell? ⟨wA.heap.size + 1, 1, none⟩ = some (.bool false) := Q2.cell 1; have Q2c2 : wB.cell? ⟨wA.heap.size + 1, 2, none⟩ = some (.bool false) := Q2.cell 2; have Q2c3 : wB.cell? ⟨wA.heap.size + 1, 3, none⟩ = some (.slice none 0 0) := Q2.cell 3; have Q2c4 : wB.cell? ⟨wA.heap.size + 1, 4, none⟩ = some (.int .i64 0) := Q2.cell 4; have Q2c5 : wB.cell? ⟨wA.heap.size + 1, 5, none⟩ = some (.bool false) := Q2.cell 5; have Q2z0 : wB.frozen? ⟨wA.heap.size + 1, 0, none⟩ = false := Q2.frozen 0; have Q2z1 : wB.frozen? ⟨wA.heap.size + 1, 1, none⟩ = false := Q2.frozen 1; have Q2z2 : wB.frozen? ⟨wA.heap.size + 1, 2, none⟩ = false := Q2.frozen 2; have Q2z3 : wB.frozen? ⟨wA.heap.size + 1, 3, none⟩ = false := Q2.frozen 3; have Q2z4 : wB.frozen? ⟨wA.heap.size + 1, 4, none⟩ = false := Q2.frozen 4; have Q2z5 : wB.frozen? ⟨wA.heap.size + 1, 5, none⟩ = false := Q2.frozen 5; have Q2d0 : ∀ o, (wB.alloc o).cell? ⟨wA.heap.size + 1, 0, none⟩ = some (.int .u32 0) := fun o => (Q2.alloc o).cell 0; have Q2y0 : ∀ o, (wB.alloc o).frozen? ⟨wA.heap.size + 1, 0, none⟩ = false := fun o => (Q2.alloc o).frozen 0; have Q2d1 : ∀ o, (wB.alloc o).cell? ⟨wA.heap.size + 1, 1, none⟩ = some (.bool false) := fun o => (Q2.alloc o).cell 1; have Q2y1 : ∀ o, (wB.alloc o).frozen? ⟨wA.heap.size + 1, 1, none⟩ = false := fun o => (Q2.alloc o).frozen 1; have Q2d2 : ∀ o, (wB.alloc o).cell? ⟨wA.heap.size + 1, 2, none⟩ = some (.bool false) := fun o => (Q2.alloc o).cell 2; have Q2y2 : ∀ o, (wB.alloc o).frozen? ⟨wA.heap.size + 1, 2, none⟩ = false := fun o => (Q2.alloc o).frozen 2; have Q2d3 : ∀ o, (wB.alloc o).cell? ⟨wA.heap.size + 1, 3, none⟩ = some (.slice none 0 0) := fun o => (Q2.alloc o).cell 3; have Q2y3 : ∀ o, (wB.alloc o).frozen? ⟨wA.heap.size + 1, 3, none⟩ = false := fun o => (Q2.alloc o).frozen 3; have Q2d4 : ∀ o, (wB.alloc o).cell? ⟨wA.heap.size + 1, 4, none⟩ = some (.int .i64 0) := fun o => (Q2.alloc o).cell 4; have Q2y4 : ∀ o, (wB.alloc o).frozen? ⟨wA.heap.size + 1, 4, none⟩ = false := fun o => (Q2.alloc o).frozen 4; have Q2d5 : ∀ o, (wB.alloc o).cell? ⟨wA.heap.size + 1, 5, none⟩ = some (.bool false) := fun o => (Q2.alloc o).cell 5; have Q2y5 : ∀ o, (wB.alloc o).frozen? ⟨wA.heap.size + 1, 5, none⟩ = false := fun o => (Q2.alloc o).frozen 5; have Q2n : wA.heap.size + 1 ≠ wB.heap.size := Nat.ne_of_lt Q2.lt; have Q2m : wB.heap.size ≠ wA.heap.size + 1 := Nat.ne_of_gt Q2.lt; dsimp only [Raw.cells]) | (go_at_call 36; refine (HRPush.out (wA.alloc (.cells #[.int .u32 0, .bool false, .bool false, .slice none 0 0, .int .i64 0, .bool false] 46)) (kF.alloc _)).mono ?_; rintro x wB ⟨⟨z0, z1, z2, z3, z4, z5, z6, z7⟩, G', rfl, rB, iB, kB, hG'⟩; have f2 : Fine wA (wA.alloc (.cells #[.int .u32 0, .bool false, .bool false, .slice none 0 0, .int .i64 0, .bool false] 46)) := ((Fine.refl wA).alloc _); have kB2 : Kept (fun b => F b ∨ G b) w10 wB := (kA2.trans (Kept.of_fine f2)).transG kB (fun _ _ s => s) (fun _ _ s => Or.inr s); have sB := kB2.size; have sB2 := Nat.le_trans f2.size kB.size; have Q1 : Blk wB wA.heap.size 46 #[.int .u32 0, .bool false, .bool false, .slice none 0 0, .int .i64 0, .bool false] := (Blk.new wA 46 _).kept kB (hnGA wA.heap.size kF.size); have Q1c0 : wB.cell? ⟨wA.heap.size, 0, none⟩ = some (.int .u32 0) := Q1.cell 0; have Q1c1 : wB.cell? ⟨wA.heap.size, 1, none⟩ = some (.bool false) := Q1.cell 1; have Q1c2 : wB.cell? ⟨wA.heap.size, 2, none⟩ = some (.bool false) := Q1.cell 2; have Q1c3 : wB.cell? ⟨wA.heap.size, 3, none⟩ = some (.slice none 0 0) := Q1.cell 3; have Q1c4 : wB.cell? ⟨wA.heap.size, 4, none⟩ = some (.int .i64 0) := Q1.cell 4; have Q1c5 : wB.cell? ⟨wA.heap.size, 5, none⟩ = some (.bool false) := Q1.cell 5; have Q1z0 : wB.frozen? ⟨wA.heap.size, 0, none⟩ = false := Q1.frozen 0; have Q1z1 : wB.frozen? ⟨wA.heap.size, 1, none⟩ = false := Q1.frozen 1; have Q1z2 : wB.frozen? ⟨wA.heap.size, 2, none⟩ = false := Q1.frozen 2; have Q1z3 : wB.frozen? ⟨wA.heap.size, 3, none⟩ = false := Q1.frozen 3; have Q1z4 : wB.frozen? ⟨wA.heap.size, 4, none⟩ = false := Q1.frozen 4; have Q1z5 : wB.frozen? ⟨wA.heap.size, 5, none⟩ = false := Q1.frozen 5; have Q1d0 : ∀ o, (wB.alloc o).cell? ⟨wA.heap.size, 0, none⟩ = some (.int .u32 0) := fun o => (Q1.alloc o).cell 0; have Q1y0 : ∀ o, (wB.alloc o).frozen? ⟨wA.heap.size, 0, none⟩ = false := fun o => (Q1.alloc o).frozen 0; have Q1d1 : ∀ o, (wB.alloc o).cell? ⟨wA.heap.size, 1, none⟩ = some (.bool false) := fun o => (Q1.alloc o).cell 1; have Q1y1 : ∀ o, (wB.alloc o).frozen? ⟨wA.heap.size, 1, none⟩ = false := fun o => (Q1.alloc o).frozen 1; have Q1d2 : ∀ o, (wB.alloc o).cell? ⟨wA.heap.size, 2, none⟩ = some (.bool false) := fun o => (Q1.alloc o).cell 2; have Q1y2 : ∀ o, (wB.alloc o).frozen? ⟨wA.heap.size, 2, none⟩ = false := fun o => (Q1.alloc o).frozen 2; have Q1d3 : ∀ o, (wB.alloc o).cell? ⟨wA.heap.size, 3, none⟩ = some (.slice none 0 0) := fun o => (Q1.alloc o).cell 3; have Q1y3 : ∀ o, (wB.alloc o).frozen? ⟨wA.heap.size, 3, none⟩ = false := fun o => (Q1.alloc o).frozen 3; have Q1d4 : ∀ o, (wB.alloc o).cell? ⟨wA.heap.size, 4, none⟩ = some (.int .i64 0) := fun o => (Q1.alloc o).cell 4; have Q1y4 : ∀ o, (wB.alloc o).frozen? ⟨wA.heap.size, 4, none⟩ = false := fun o => (Q1.alloc o).frozen 4; have Q1d5 : ∀ o, (wB.alloc o).cell? ⟨wA.heap.size, 5, none⟩ = some (.bool false) := fun o => (Q1.alloc o).cell 5; have Q1y5 : ∀ o, (wB.alloc o).frozen? ⟨wA.heap.size, 5, none⟩ = false := fun o => (Q1.alloc o).frozen 5; have Q1n : wA.heap.size ≠ wB.heap.size := Nat.ne_of_lt Q1.lt; have Q1m : wB.heap.size ≠ wA.heap.size := Nat.ne_of_gt Q1.lt; dsimp only [Raw.cells]) | (go_at_call 36; refine (HRPush.out wA kF).mono ?_; rintro x wB ⟨⟨z0, z1, z2, z3, z4, z5, z6, z7⟩, G', rfl, rB, iB, kB, hG'⟩; have f2 : Fine wA wA := (Fine.refl wA); have kB2 : Kept (fun b => F b ∨ G b) w10 wB := (kA2.trans (Kept.of_fine f2)).transG kB (fun _ _ s => s) (fun _ _ s => Or.inr s); have sB := kB2.size; have sB2 := Nat.le_trans f2.size kB.size; dsimp only [Raw.cells]))
              all_goals
                rw [hqs', he'] at qA rB
                go_wp2_with fail
                go_meet
                refine R15.of f1 qA iA kA hF' f2 rB iB kB hG' hFl' hGl' (fun b h => (hF b h).2) ?_ ?_ ?_ ?_
                · repeat (first | with_reducible exact Kept.refl _ _ | (with_reducible refine Kept.setIn ?_ (by simp) _) | (with_reducible refine Kept.alloc ?_ _))
                · dsimp only [Raw.cells]
                  (first | with_reducible exact Blk.new _ _ _ | with_reducible exact P1 | with_reducible exact P2 | with_reducible exact Q1 | with_reducible exact Q2 | with_reducible exact Blk.alloc P1 _ | with_reducible exact Blk.alloc Q1 _ | with_reducible exact Blk.alloc P2 _ | with_reducible exact Blk.alloc Q2 _ | with_reducible refine Blk.six ?_ | (with_reducible refine Blk.sixFar ?_ ?_) | ((with_reducible refine Blk.newAt ?_); (simp; done)) | (with_reducible refine Blk.alloc ?_ _) | skip)
                  all_goals (first | with_reducible exact Blk.new _ _ _ | with_reducible exact P1 | with_reducible exact P2 | with_reducible exact Q1 | with_reducible exact Q2 | with_reducible exact Blk.alloc P1 _ | with_reducible exact Blk.alloc Q1 _ | with_reducible exact Blk.alloc P2 _ | with_reducible exact Blk.alloc Q2 _ | with_reducible refine Blk.six ?_ | (with_reducible refine Blk.sixFar ?_ ?_) | ((with_reducible refine Blk.newAt ?_); (simp; done)) | (with_reducible refine Blk.alloc ?_ _) | skip)
                  all_goals (first | with_reducible exact Blk.new _ _ _ | with_reducible exact P1 | with_reducible exact P2 | with_reducible exact Q1 | with_reducible exact Q2 | with_reducible exact Blk.alloc P1 _ | with_reducible exact Blk.alloc Q1 _ | with_reducible exact Blk.alloc P2 _ | with_reducible exact Blk.alloc Q2 _ | with_reducible refine Blk.six ?_ | (with_reducible refine Blk.sixFar ?_ ?_) | ((with_reducible refine Blk.newAt ?_); (simp; done)) | (with_reducible refine Blk.alloc ?_ _) | skip)
                  all_goals (first | with_reducible exact P1n | with_reducible exact P2n | with_reducible exact Q1n | with_reducible exact Q2n | with_reducible exact Q1m | with_reducible exact Q2m | with_reducible exact P1m | with_reducible exact P2m | with_reducible exact E1n | with_reducible exact E2n | with_reducible exact E1m | with_reducible exact E2m | with_reducible exact Nat.succ_ne_self _ | with_reducible exact (Nat.succ_ne_self _).symm | skip)
                · dsimp only [Raw.cells]
                  (first | with_reducible exact Blk.new _ _ _ | with_reducible exact P1 | with_reducible exact P2 | with_reducible exact Q1 | with_reducible exact Q2 | with_reducible exact Blk.alloc P1 _ | with_reducible exact Blk.alloc Q1 _ | with_reducible exact Blk.alloc P2 _ | with_reducible exact Blk.alloc Q2 _ | with_reducible refine Blk.six ?_ | (with_reducible refine Blk.sixFar ?_ ?_) | ((with_reducible refine Blk.newAt ?_); (simp; done)) | (with_reducible refine Blk.alloc ?_ _) | skip)
                  all_goals (first | with_reducible exact Blk.new _ _ _ | with_reducible exact P1 | with_reducible exact P2 | with_reducible exact Q1 | with_reducible exact Q2 | with_reducible exact Blk.alloc P1 _ | with_reducible exact Blk.alloc Q1 _ | with_reducible exact Blk.alloc P2 _ | with_reducible exact Blk.alloc Q2 _ | with_reducible refine Blk.six ?_ | (with_reducible refine Blk.sixFar ?_ ?_) | ((with_reducible refine Blk.newAt ?_); (simp; done)) | (with_reducible refine Blk.alloc ?_ _) | skip)
                  all_goals (first | with_reducible exact Blk.new _ _ _ | with_reducible exact P1 | with_reducible exact P2 | with_reducible exact Q1 | with_reducible exact Q2 | with_reducible exact Blk.alloc P1 _ | with_reducible exact Blk.alloc Q1 _ | with_reducible exact Blk.alloc P2 _ | with_reducible exact Blk.alloc Q2 _ | with_reducible refine Blk.six ?_ | (with_reducible refine Blk.sixFar ?_ ?_) | ((with_reducible refine Blk.newAt ?_); (simp; done)) | (with_reducible refine Blk.alloc ?_ _) | skip)
                  all_goals (first | with_reducible exact P1n | with_reducible exact P2n | with_reducible exact Q1n | with_reducible exact Q2n | with_reducible exact Q1m | with_reducible exact Q2m | with_reducible exact P1m | with_reducible exact P2m | with_reducible exact E1n | with_reducible exact E2n | with_reducible exact E1m | with_reducible exact E2m | with_reducible exact Nat.succ_ne_self _ | with_reducible exact (Nat.succ_ne_self _).symm | skip)
                · intro x hx
                  rcases hx with rfl | rfl <;> (simp; try omega)
            case rest =>
              obtain ⟨x11, x12, ⟨a0, a1, a2, a3, a4, a5, a6, a7⟩, ⟨z0, z1, z2, z3, z4, z5, z6, z7⟩, F', G', rfl, rfl, b11, b12, qA, rB, hFx, hGx, iA, iZ, hx11, kx⟩ := hcut
              have j0 : wc.cell? ⟨x11, 0, none⟩ = some (.int .u32 a0) := b11.cell 0
              have j1 : wc.cell? ⟨x11, 1, none⟩ = some (.bool a1) := b11.cell 1
              have j2 : wc.cell? ⟨x11, 2, none⟩ = some (.bool a2) := b11.cell 2
              have j3 : wc.cell? ⟨x11, 3, none⟩ = some (.slice a3 a4 a5) := b11.cell 3
              have j4 : wc.cell? ⟨x11, 4, none⟩ = some (.int .i64 a6) := b11.cell 4
              have j5 : wc.cell? ⟨x11, 5, none⟩ = some (.bool a7) := b11.cell 5
              have k0 : wc.cell? ⟨x12, 0, none⟩ = some (.int .u32 z0) := b12.cell 0
              have k1 : wc.cell? ⟨x12, 1, none⟩ = some (.bool z1) := b12.cell 1
              have k2 : wc.cell? ⟨x12, 2, none⟩ = some (.bool z2) := b12.cell 2
              have k3 : wc.cell? ⟨x12, 3, none⟩ = some (.slice z3 z4 z5) := b12.cell 3
              have k4 : wc.cell? ⟨x12, 4, none⟩ = some (.int .i64 z6) := b12.cell 4
              have k5 : wc.cell? ⟨x12, 5, none⟩ = some (.bool z7) := b12.cell 5
              have HB11 := Lib.hid b11; clear b11 b12
              have HQ := Lib.hid qA; clear qA
              have HR2 := Lib.hid rB; clear rB
              have hFl2 := HQ.out.lt
              have hGl2 := HR2.out.lt
              have s10 := fr10.size
              have sc := kx.size
              have s9 := HX10.out
              have fwc : Fine w wc := (hf.trans fr10).kept kx (fun x hx h => by rcases h with h | h; have := (hF x h).1; omega; have := hG x h; omega)
              have HIA := Lib.hid iA; clear iA
              have HUA := Lib.hid (fun b o (hA : A9 = some ⟨b, o, none⟩) => ((HO9.out.unf b o hA).fine f10 (HO9.out.from_ b o hA).2).kept kx (Nat.lt_of_lt_of_le (HO9.out.from_ b o hA).2 f10.size) (fun h => by have := (HO9.out.from_ b o hA).1; have := (HO9.out.from_ b o hA).2; rcases h with h | h; have := hFl b h; omega; have := hGl b h; omega))
              have HRA := Lib.hid ((HO9.out.rs.1.fine f10).keptP kx (fun b o hA _ h => by have := (HO9.out.from_ b o hA).1; rcases h with h | h; have := hFl b h; omega; have := hGl b h; omega))
              have HFA := Lib.hid HO9.out.from_
              clear HPush HRPush HS12 HB10 HB8 HQ10 HR10 hnF0 hnF1 hnG0 hnG1 hnGA HI8 HI hI10 hI8' HO9
              have hla : a4 = p.xs.length := HIA.out.2.2.2.2.2.1
              subst hla
              have hRD : RS LB wc a3 a5 p.xs := HIA.out.2.2.2.2.2.2.1
              have hVD : ∀ b o, a3 = some ⟨b, o, none⟩ → 0 < p.xs.length → w10.heap.size ≤ b ∧ b < wc.heap.size ∧ ¬ F' b ∧ ¬ G' b ∧ b ≠ x11 ∧ Unf wc b := HIA.out.2.2.2.2.2.2.2
              have HRD := Lib.hid hRD; clear hRD
              have HVD := Lib.hid hVD; clear hVD
              go_wp2_with fail
              refine (same_any ⟨a0, a1, a2, a3, p.xs.length, a5, a6, a7⟩ ⟨z0, z1, z2, z3, z4, z5, z6, z7⟩ (withSeq p e) _ _ wc HIA.out iZ).mono ?_; rintro x w16 ⟨rfl, f16⟩
              clear j0 j1 j2 j3 j4 j5 k0 k1 k2 k3 k4 k5 iZ
              have B0 : Hid (Bump w16 w16 A9 c9 p.xs.length) := Lib.hid (Bump.start (HRA.out.fine f16) (fun b o hA _ => (HUA.out b o hA).fine f16 (by have := (HFA.out b o hA).2; have := f10.size; omega)))
              go_wp2_with fail
              go_loopw [65] (fun s65 wx => ∃ j : Nat, j ≤ p.xs.length ∧ s65 = .int .i64 j ∧ Hid (Bump w16 wx A9 c9 p.xs.length)) (fun s65 _ => p.xs.length - (intOf s65).toNat)
              case atStart => exact ⟨0, Nat.zero_le _, rfl, B0⟩
              case round =>
                obtain ⟨j, hj, rfl, hB⟩ := hrel
                by_cases hjl : j < p.xs.length
                · obtain ⟨b9, o9, y, hA9, hc, hfr, hput⟩ := hB.out.at_ hjl
                  have HPU := Lib.hid (hput ((y + 1) % 256))
                  clear hput hB
                  subst hA9
                  go_wp2_with fail
                  exact ⟨⟨j + 1, hjl, by simp, HPU⟩, by simp only [intOf]; omega⟩
                · have kB := hB.out.1
                  have n1 : ∀ b, w10.heap.size ≤ b → ¬ (0 < p.xs.length ∧ ∃ o, A9 = some ⟨b, o, none⟩) := fun b hb h => by
                    obtain ⟨_, o, hA⟩ := h
                    have := (HFA.out b o hA).2
                    omega
                  have n2 : ∀ b, b < w8.heap.size → ¬ (0 < p.xs.length ∧ ∃ o, A9 = some ⟨b, o, none⟩) := fun b hb h => by
                    obtain ⟨_, o, hA⟩ := h
                    have := (HFA.out b o hA).1
                    omega
                  have b11d := (HB11.out.fine f16).kept kB (n1 x11 hx11)
                  have qd := (HQ.out.fine f16).kept kB (fun b hb => by
                    rcases (hFx b hb).1 with h | h
                    · exact n2 b (by have := hFl b h; omega)
                    · exact n1 b h)
                  have rd := (HR2.out.fine f16).kept kB (fun b hb => by
                    rcases (hGx b hb).1 with h | h
                    · exact n2 b (by have := hGl b h; omega)
                    · exact n1 b h)
                  have hRDd := (HRD.out.fine f16).keptP kB (fun b o hA hp => n1 b (HVD.out b o hA hp).1)
                  have hUd := fun b o hA hp => ((HVD.out b o hA hp).2.2.2.2.2.fine f16 (HVD.out b o hA hp).2.1).kept kB (Nat.lt_of_lt_of_le (HVD.out b o hA hp).2.1 f16.size) (n1 b (HVD.out b o hA hp).1)
                  have fwd : Fine w wr := (fwc.trans f16).kept kB (fun x hx => n2 x (by omega))
                  have B1 : Hid (Bump wr wr a3 a5 p.xs.length) := Lib.hid (Bump.start hRDd hUd)
                  have HQd := Lib.hid qd; clear qd
                  have HRd := Lib.hid rd; clear rd
                  have HBd := Lib.hid b11d; clear b11d
                  have e11 : wr.cell? ⟨x11, 3, none⟩ = some (.slice a3 p.xs.length a5) := HBd.out.cell 3
                  clear hRDd hUd B0 hB kB n1 n2
                  obtain ⟨wd, hwd⟩ : ∃ wd, wr = wd := ⟨_, rfl⟩
                  rw [hwd] at B1 HQd HRd HBd fwd e11 ⊢
                  clear hwd
                  go_wp2_with fail
                  go_loopw [78] (fun s78 wx => ∃ j : Nat, j ≤ p.xs.length ∧ s78 = .int .i64 j ∧ Hid (Bump wd wx a3 a5 p.xs.length)) (fun s78 _ => p.xs.length - (intOf s78).toNat)
                  case atStart => exact ⟨0, Nat.zero_le _, rfl, B1⟩
                  case round =>
                    obtain ⟨j, hj, rfl, hB⟩ := hrel
                    by_cases hjl : j < p.xs.length
                    · obtain ⟨b9, o9, y, hA9, hc, hfr, hput⟩ := hB.out.at_ hjl
                      have HPU := Lib.hid (hput ((y + 1) % 256))
                      have e12 : wr.cell? ⟨x11, 3, none⟩ = some (.slice a3 p.xs.length a5) := (HBd.out.kept hB.out.1 (fun h => by obtain ⟨hp, o, hA⟩ := h; exact (HVD.out x11 o hA hp).2.2.2.2.1 rfl)).cell 3
                      clear hput hB
                      subst hA9
                      go_wp2_with fail
                      exact ⟨⟨j + 1, hjl, by simp, HPU⟩, by simp only [intOf]; omega⟩
                    · have kB := hB.out.1
                      have nF : ∀ b, F' b → ¬ (0 < p.xs.length ∧ ∃ o, a3 = some ⟨b, o, none⟩) := fun b hb h => by obtain ⟨hp, o, hA⟩ := h; exact (HVD.out b o hA hp).2.2.1 hb
                      have nG : ∀ b, G' b → ¬ (0 < p.xs.length ∧ ∃ o, a3 = some ⟨b, o, none⟩) := fun b hb h => by obtain ⟨hp, o, hA⟩ := h; exact (HVD.out b o hA hp).2.2.2.1 hb
                      have fwe : Fine w wr := fwd.kept kB (fun x hx h => by obtain ⟨hp, o, hA⟩ := h; have := (HVD.out x o hA hp).1; omega)
                      have HQe := Lib.hid (HQd.out.kept kB nF)
                      have HRe := Lib.hid (HRd.out.kept kB nG)
                      have HST : Hid (StC wr w.heap.size g h (i + 1)) := Lib.hid ⟨F', G', qs', e', HQe.out, HRe.out, fun b hb => ⟨by rcases (hFx b hb).1 with h | h; exact (hF b h).1; omega, (hFx b hb).2.1⟩, fun b hb => by rcases (hGx b hb).1 with h | h; exact hG b h; omega,
                        by rw [← hqs', ← he']; exact hch.pushL, by rw [← hqs', total_push]; have := long_le p; omega, by rw [← hqs']; have := len_push qs p e; omega, by rw [← hqs']; exact small_push HSM.out hxs⟩
                      go_wp2_with fail
                      go_meet
                      exact ⟨fwe, HST⟩
          · skip
            have hbg := hch.begin_
            obtain ⟨bg, hbe⟩ : ∃ bg, beginQ qs e = bg := ⟨_, rfl⟩
            rw [hbe] at hbg
            have hR8 := hR.fine f8
            have hQ8 := hq.fine f8
            have HRb : Hid (∀ w', Fine w8 w' → Calls Try.prog 38 #[.pointer (some ⟨h, 0, none⟩)] w' fun x w'' => x = .returned (.int .u32 bg) ∧ Fine w' w'') := Lib.hid (fun w' hf' => by
              have := refBegin_any h G qs e w' (hR8.fine hf')
              rw [hbe] at this
              exact this)
            have HR8 := Lib.hid hR8; clear hR8
            have HQ8 := Lib.hid hQ8; clear hQ8
            clear hq hR HI8 HI
            go_upto_region 28 with (fail)
            go_region_held3 (fun w' => w'.cell? ⟨x8, 1, none⟩ = some (.int .i64 an)) (first | exact B8.out.cell 1 | exact (B8.out.fine (Fine.refl w8).drew).cell 1 | exact (B8.out.fine fA).cell 1 | exact (B8.out.fine fB).cell 1) (first | (go_at_call 31; refine (refOn_any bg an hbg _).mono ?_; rintro x wB ⟨rfl, fB0⟩; have fB : Fine w8 wB := fA.trans fB0; clear fB0) | (go_at_call 38; refine (HRb.out _ (Fine.refl w8).drew).mono ?_; rintro x wA ⟨rfl, fA0⟩; have fA : Fine w8 wA := (Fine.refl w8).drew.trans fA0; clear fA0))
            obtain ⟨nn, hnn⟩ : ∃ nn, onN bg an = nn := ⟨_, rfl⟩
            have hnb : 0 ≤ nn ∧ nn < 4294967296 := by rw [← hnn]; exact onN_bd _ _
            rw [hnn]
            clear hnn
            have HAC : Hid (Calls Try.prog 30 #[.pointer (some ⟨g, 0, none⟩), .int .u32 nn] wB (Acked F g (qs.take (ackN qs e nn)) (qs.drop (ackN qs e nn)) e (ackB qs e nn) wB)) := Lib.hid (acked g F qs e nn wB (HQ8.out.fine fB) (by omega) (fun q hq => by have := HSM.out q hq; omega))
            have HRC : Hid (∀ w', Kept F wB w' → Calls Try.prog 39 #[.pointer (some ⟨h, 0, none⟩), .int .u32 nn] w' (RAcked G h (qs.take (ackN qs e nn)) (qs.drop (ackN qs e nn)) e (ackB qs e nn) w')) := Lib.hid (fun w' hk' => refAcked h G qs e nn w' ((HR8.out.fine fB).kept hk' (fun b hb h => (hF b h).2 hb)) hch (by omega) hnb (by omega) (fun q hq => by have := HSM.out q hq; omega))
            obtain ⟨k, hk'⟩ : ∃ k, ackN qs e nn = k := ⟨_, rfl⟩
            obtain ⟨bb, hbb⟩ : ∃ bb, ackB qs e nn = bb := ⟨_, rfl⟩
            rw [hk', hbb] at HAC HRC
            clear hk' hbb
            have s8 := f8.size
            have sB := fB.size
            have fwB : Fine w wB := (hf.trans f8).trans fB
            go_wp2_with fail
            refine HAC.out.mono ?_
            rintro x wC ⟨A, c, rs, F', rfl, r1, r2, r3, r4, r5, r6⟩
            go_wp2_with fail
            refine (HRC.out wC r5).mono ?_
            rintro x wD ⟨B, d, ss, G', rfl, t1, t2, t3, t4, t5⟩
            have sC := r5.size
            have sD := t4.size
            have hFl2 := r4.lt
            have hGl2 := t3.lt
            have nGF : ∀ b, F' b → ¬ G b := fun b hb hg' => by
              rcases r6 b hb with h | h
              · exact (hF b h).2 hg'
              · have := hGl b hg'; omega
            have r4' := r4.kept t4 nGF
            have r1' := r1.keptP t4 (fun b o hA _ hg' => by have := (r3 b o hA).1; have := hGl b hg'; omega)
            have r2' := r2.kept t4 (fun b hb hg' => by have := hb.1; have := hGl b hg'; omega)
            have fwD : Fine w wD := (fwB.kept r5 (fun x hx h => by have := (hF x h).1; omega)).kept t4 (fun x hx h => by have := hG x h; omega)
            have HSA : Hid (∀ w', Fine wD w' → Calls Try.prog 35 #[.slice A rs.length c, .slice B ss.length d] w' fun x w'' => x = .returned (.bool true) ∧ Fine w' w'') := Lib.hid (fun w' hf' => sameAll_any A B c d rs ss (qs.take k) _ _ w' (r1'.fine hf') (t1.fine hf') (r2'.fine hf') (t2.fine hf'))
            have HST : Hid (∀ w', Fine wD w' → StC w' w.heap.size g h (i + 1)) := Lib.hid (fun w' hf' => ⟨F', G', qs.drop k, e, r4'.fine hf', t3.fine hf', fun b hb => ⟨by rcases r6 b hb with h | h; exact (hF b h).1; omega, fun hg' => by
                rcases t5 b hg' with h | h
                · exact nGF b hb h
                · have := hFl2 b hb; omega⟩, fun b hb => by rcases t5 b hb with h | h; exact hG b h; omega, hch.drop k, by have := total_drop qs k; omega, by simp; omega, fun q hq => HSM.out q (List.mem_of_mem_drop hq)⟩)
            clear r1 r2 r3 r4 r5 r6 t1 t2 t3 t4 t5 r1' r2' r4' nGF HAC HRC HR8 HQ8
            go_wp2_with fail
            refine (HSA.out _ ((Fine.refl wD).alloc _)).mono ?_
            rintro x wE ⟨rfl, fE⟩
            go_wp2_with fail
            go_meet
            exact ⟨(fwD.alloc _).trans fE, Lib.hid (HST.out wE (((Fine.refl wD).alloc _).trans fE))⟩
        case rest =>
          clear hR hq hF hG hch htot hql hFl hGl HI8 HI HSM
          obtain ⟨fwc, hst2⟩ := hcut
          obtain ⟨F2, G2, ps2, e2, hq2, hR2, hF2, hG2, hch2, htot2, hql2, hsm2⟩ := hst2.out
          have hbeg := fun w' hf' => refBegin_any h G2 ps2 e2 w' (hR2.fine hf')
          obtain ⟨Ax, cx, rx, h1', h2', h3', h4', h5', h6'⟩ := hR2
          have hlx := h3'.1
          have hc0 : wc.cell? ⟨h, 0, none⟩ = some (.slice Ax ps2.length cx) := by rw [← hlx]; exact h1'.cell 0
          have hc1 : wc.cell? ⟨h, 1, none⟩ = some (.int .u32 e2) := h1'.cell 1
          have HC : Hid (∀ w', Fine wc w' → w'.cell? ⟨h, 0, none⟩ = some (.slice Ax ps2.length cx) ∧ w'.cell? ⟨h, 1, none⟩ = some (.int .u32 e2)) := Lib.hid (fun w' hf' => by
            have := h1'.fine hf'
            exact ⟨by rw [← hlx]; exact this.cell 0, this.cell 1⟩)
          have HSame : Hid (∀ w' A c rs, Fine wc w' → RS layP w' A c rs → Iss w' (fun b => wc.drew.heap.size ≤ b) rs ps2 → Calls Try.prog 35 #[.slice A rs.length c, .slice Ax ps2.length cx] w' fun x w'' => x = .returned (.bool true) ∧ Fine w' w'') := Lib.hid (fun w' A c rs hf' hr hi => by
            rw [← hlx]
            exact sameAll_any A Ax c cx rs rx ps2 _ _ w' hr (h2'.rs.1.fine hf') hi (h3'.fine hf'))
          have HAll : Hid (Calls Try.prog 40 #[.pointer (some ⟨g, 0, none⟩)] wc.drew (PcsOf ps2 wc.drew)) := Lib.hid (all_any g F2 ps2 e2 wc.drew (hq2.fine (Fine.refl wc).drew) (by omega) (fun q hq => by have := hsm2 q hq; omega))
          obtain ⟨bq, hbq⟩ : ∃ bq, beginQ ps2 e2 = bq := ⟨_, rfl⟩
          rw [hbq] at hbeg
          have HB38 := Lib.hid hbeg; clear hbeg
          have HB32 : Hid (∀ w', Fine wc w' → Calls Try.prog 32 #[.pointer (some ⟨g, 0, none⟩)] w' fun x w'' => x = .returned (.int .u32 bq) ∧ Fine w' w'') := Lib.hid (fun w' hf' => by rw [← hbq]; exact begin_any g F2 ps2 e2 w' (hq2.fine hf'))
          have HE33 : Hid (∀ w', Fine wc w' → Calls Try.prog 33 #[.pointer (some ⟨g, 0, none⟩)] w' fun x w'' => x = .returned (.int .u32 e2) ∧ Fine w' w'') := Lib.hid (fun w' hf' => end_any g F2 ps2 e2 w' (hq2.fine hf'))
          have HL34 : Hid (∀ w', Fine wc w' → Calls Try.prog 34 #[.pointer (some ⟨g, 0, none⟩)] w' fun x w'' => x = .returned (.int .i64 ps2.length) ∧ Fine w' w'') := Lib.hid (fun w' hf' => len_any g F2 ps2 e2 w' (hq2.fine hf'))
          clear h1' h2' h3' h4' h5' h6' hq2 hF2 hG2 hch2 htot2 hql2 hsm2 hbq hlx
          go_upto_region 33 with (fail)
          go_region_held3 (fun w' => w'.cell? ⟨h, 0, none⟩ = some (.slice Ax ps2.length cx) ∧ w'.cell? ⟨h, 1, none⟩ = some (.int .u32 e2)) (first | exact HC.out _ (Fine.refl wc).drew | exact HC.out _ fA | exact HC.out _ fB | exact HC.out _ fC | exact HC.out _ fD | exact HC.out _ fE | exact HC.out _ fG) (first | (go_at_call 40; refine HAll.out.mono ?_; rintro x wA ⟨Aa, ca', ra, rfl, pa1, pa2, pa3, fA0⟩; have fA : Fine wc wA := (Fine.refl wc).drew.trans fA0; clear fA0 pa2) | (go_at_call 35; refine (HSame.out wA Aa ca' ra fA pa1 pa3).mono ?_; rintro x wB ⟨rfl, fB0⟩; have fB : Fine wc wB := fA.trans fB0; clear fB0 pa1 pa3) | (go_at_call 32; refine (HB32.out wB fB).mono ?_; rintro x wC ⟨rfl, fC0⟩; have fC : Fine wc wC := fB.trans fC0; clear fC0) | (go_at_call 38; refine (HB38.out wC fC).mono ?_; rintro x wD ⟨rfl, fD0⟩; have fD : Fine wc wD := fC.trans fD0; clear fD0) | (go_at_call 33; refine (HE33.out wD fD).mono ?_; rintro x wE ⟨rfl, fE0⟩; have fE : Fine wc wE := fD.trans fE0; clear fE0) | (go_at_call 34; refine (HL34.out wE fE).mono ?_; rintro x wG ⟨rfl, fG0⟩; have fG : Fine wc wG := fE.trans fG0; clear fG0))
          have HST3 : Hid (StC wG w.heap.size g h (i + 1)) := Lib.hid (hst2.out.fine fG)
          have fwG := fwc.trans fG
          go_wp2_with fail
          exact ⟨⟨i + 1, hlt, by simp, fwG, HST3⟩, by simp only [intOf]; omega⟩
    · go_wp2_with fail
      go_ret
      exact ⟨rfl, hf⟩
theorem lawOutqActs (w : World) (seq : Int) (hs : (Lit.int .u32 seq).wf = true) (A : Option Addr) (len cap : Nat) (z : List ActR × List Pc) (hz : RS layA w A cap z.1 ∧ z.1.length = len ∧ Iss w (fun b => b < w.heap.size) (z.1.map (·.r)) z.2) :
    Calls Try.prog 10 #[.int .u32 seq, .slice A len cap] w fun x w' => x = .returned (.bool true) ∧ Fine w w' := by
  obtain ⟨h1, rfl, h2⟩ := hz
  exact outqActs_any seq A cap z.1 z.2 w (by have := bounds_u32 hs; omega) h1 h2
end Go.Proofs.Ytjldgialhgfhmaa
