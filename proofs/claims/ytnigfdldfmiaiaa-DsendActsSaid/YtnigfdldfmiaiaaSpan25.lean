/- The law SpanActs. -/
import Derived.Test.YtnigfdldfmiaiaaSpan21
import Derived.Test.YtnigfdldfmiaiaaSpan24
namespace Go.Proofs.Ytnigfdldfmiaiaa
open Go.ChangeShapes Go.WideShapes Go.ChangeAt Go.RowKit
set_option linter.unusedVariables false
set_option linter.unusedSimpArgs false
/-- A set of runs holds what the document's does. -/
def Like (l : List Rn) (p : Nat → Bool) : Prop := ∀ m : Int, inB l m = (decide (0 ≤ m) && (decide (m < 200) && p m.toNat))
theorem like_at {l : List Rn} {p : Nat → Bool} (h : Like l p) {k : Nat} (hk : k < 200) : inB l (k : Int) = p k := by
  rw [h]
  have h1 : (k : Int) < 200 := by omega
  simp [h1]
theorem like_total {l : List Rn} {p : Nat → Bool} (hT : Tidy l) (h : Like l p) : total l = cntP p 200 := by
  have hk : ∀ r ∈ l, rto r ≤ ((200 : Nat) : Int) := fun r hr => by
    have hok := hT.ok r hr
    have h1 : inB l (rto r - 1) = true := inB_iff.mpr ⟨r, hr, by unfold rto; omega, by omega⟩
    rw [h] at h1
    simp at h1
    omega
  rw [total_count hT 200 hk]
  show _ = ((List.range 200).countP p : Int)
  congr 1
  exact List.countP_congr (fun i hi => by rw [like_at h (List.mem_range.mp hi)])
def Good (f b : Int) : Prop := f < 200 ∧ b ≤ 200 ∧ (f + max b 0 ≤ 200 ∨ f ≤ 0)
instance (f b : Int) : Decidable (Good f b) := inferInstanceAs (Decidable (_ ∧ _ ∧ _))
theorem held_good {f b : Int} (hG : Good f b) (m : Int) : hasR (heldR f b) m = (decide (0 ≤ m) && (decide (m < 200) && condA (max f (-1099511627776)) b m.toNat)) := by
  obtain ⟨h1, h2, h3⟩ := hG
  unfold condA
  by_cases hm : 0 ≤ m
  · have e : ((m.toNat : Nat) : Int) = m := by omega
    rw [e, Bool.eq_iff_iff, hasR_iff]
    unfold heldR rto
    simp only [Bool.and_eq_true, decide_eq_true_eq]
    split
    · split
      · dsimp only; omega
      · dsimp only; omega
    · split
      · dsimp only; omega
      · dsimp only; omega
  · have e : hasR (heldR f b) m = false := by
      cases e : hasR (heldR f b) m with
      | false => rfl
      | true =>
        have := hasR_iff.mp e
        rcases heldR_ok f b with h0 | h0
        · rw [h0] at this
          unfold rto at this
          dsimp only at this
          omega
        · omega
    rw [e, decide_eq_false hm]
    rfl
theorem like_add {l l' : List Rn} {p : Nat → Bool} {f b : Int} (hT : Tidy l) (hT' : Tidy l') (h : Like l p) (hG : Good f b) (hm : ∀ m, inB l' m = (inB l m || hasR (heldR f b) m)) :
    Like l' (fun i => p i || condA (max f (-1099511627776)) b i) ∧ total l' - total l = cntP (fun i => condA (max f (-1099511627776)) b i && !p i) 200 := by
  have hL : Like l' (fun i => p i || condA (max f (-1099511627776)) b i) := fun m => by
    rw [hm, h, held_good hG]
    cases decide (0 ≤ m) <;> cases decide (m < 200) <;> simp
  refine ⟨hL, ?_⟩
  rw [like_total hT h, like_total hT' hL]
  have e : cntP (fun i => p i || condA (max f (-1099511627776)) b i) 200 = cntP p 200 + cntP (fun i => condA (max f (-1099511627776)) b i && !p i) 200 := by
    unfold cntP
    rw [← Int.natCast_add, ← countP_or]
    · congr 1
      refine List.countP_congr (fun i _ => ?_)
      cases p i <;> simp
    · intro i _ hp
      rw [hp]
      simp
  omega
theorem like_drop {l : List Rn} {p : Nat → Bool} {b : Int} (hT : Tidy l) (h : Like l p) :
    Like (dropL l b) (fun i => p i && decide (b ≤ (i : Int))) ∧ total l - total (dropL l b) = cntP (fun i => decide ((i : Int) < b) && p i) 200 := by
  have hL : Like (dropL l b) (fun i => p i && decide (b ≤ (i : Int))) := fun m => by
    rw [(drop_law hT b).2, h]
    by_cases hm : 0 ≤ m
    · have e : ((m.toNat : Nat) : Int) = m := by omega
      dsimp only
      rw [e]
      cases decide (0 ≤ m) <;> cases decide (m < 200) <;> simp
    · simp [hm]
  refine ⟨hL, ?_⟩
  rw [like_total hT h, like_total (drop_law hT b).1 hL]
  have e : cntP p 200 = cntP (fun i => p i && decide (b ≤ (i : Int))) 200 + cntP (fun i => decide ((i : Int) < b) && p i) 200 := by
    unfold cntP
    rw [← Int.natCast_add, ← countP_or]
    · congr 1
      refine List.countP_congr (fun i _ => ?_)
      by_cases hb : b ≤ (i : Int)
      · have : ¬ (i : Int) < b := by omega
        simp [hb, this]
      · have : (i : Int) < b := by omega
        simp [hb, this]
    · intro i _ hp
      simp at hp ⊢
      omega
  omega
theorem like_next {l : List Rn} {p : Nat → Bool} {f x : Int} {n k : Nat} (hT : Tidy l) (h : Like l p) (hx : NextOf l f x) (hn : max f 0 = (n : Int)) (hn2 : n ≤ 200) (h1 : n ≤ k) (h2 : k ≤ 200) (h3 : k < 200 → p k = false) (h4 : ∀ j, n ≤ j → j < k → p j = true) : x = (k : Int) := by
  refine NextOf.uniq hx ⟨by omega, ?_, fun m g1 g2 => ?_, .inl (by omega)⟩
  · by_cases hk : k < 200
    · rw [like_at h hk]; exact h3 hk
    · rw [h]
      have : ¬ (k : Int) < 200 := by omega
      simp [this]
  · have e : m = ((m.toNat : Nat) : Int) := by omega
    rw [e, like_at h (by omega)]
    exact h4 _ (by omega) (by omega)
/-- What of a box is read. -/
def Box2 (w : World) (xr : Nat) (a b : Int) : Prop := w.cell? ⟨xr, 1, none⟩ = some (.int .i64 a) ∧ w.cell? ⟨xr, 2, none⟩ = some (.int .i64 b)
theorem Box2.kept {S : Nat → Prop} {w w' : World} {xr : Nat} {a b : Int} (h : Box2 w xr a b) (k : Kept S w w') (hlt : xr < w.heap.size) (hn : ¬ S xr) : Box2 w' xr a b :=
  ⟨(k.cell (p := ⟨xr, 1, none⟩) hlt hn).trans h.1, (k.cell (p := ⟨xr, 2, none⟩) hlt hn).trans h.2⟩
set_option maxHeartbeats 8000000 in
set_option maxRecDepth 20000 in
theorem spanActs_main (w : World) (A : Option Addr) (n cap : Nat) (hn60 : n ≤ 60) (acts : List Ac) (hn : acts.length = n) (hr : RS layA w A cap acts) (hbd : ∀ x ∈ acts, (-9223372036854775808 ≤ x.1 ∧ x.1 ≤ 9223372036854775807) ∧ (-9223372036854775808 ≤ x.2.1 ∧ x.2.1 ≤ 9223372036854775807) ∧ (-9223372036854775808 ≤ x.2.2 ∧ x.2.2 ≤ 9223372036854775807)) :
    Calls Try.prog 5 #[.slice A n cap] w fun r w' => r = .returned (.bool true) ∧ Fine w w' := by
  have HR := Lib.hid hr; have HB := Lib.hid hbd; have HN := Lib.hid hn
  have hz2 : ¬ (n : Int) > 60 := by omega
  clear hr hbd hn
  go_enter Try.func5, Try.ntmps5
  go_wp2_with fail
  refine (wakes_any w).mono ?_
  rintro r w1 ⟨rfl, f1⟩
  have F1 := Lib.hid f1
  clear f1
  go_wp2_with fail
  refine (new_nil w1).mono ?_
  rintro r w2 ⟨rfl, b2, f2⟩
  obtain ⟨g1, hg1⟩ : ∃ g, w1.heap.size = g := ⟨_, rfl⟩
  rw [hg1] at b2 ⊢
  have G1 := Lib.hid hg1; have B2 := Lib.hid b2; have F2 := Lib.hid (F1.out.trans f2)
  have hwg : w.heap.size ≤ g1 := by rw [← G1.out]; exact F1.out.size
  have hg2 : g1 < w2.heap.size := b2.lt
  clear b2 f2 hg1
  go_wp2_with fail
  refine (rnew_any w2).mono ?_
  rintro r w3 ⟨x, gb, rfl, r3, f3, hx3, hgb3⟩
  have R3 := Lib.hid r3; have F3 := Lib.hid (F2.out.trans f3); have B3 := Lib.hid (B2.out.fine f3)
  have hg1x : g1 < x := by omega
  have hg1b : g1 < gb := by omega
  clear r3 f3 hx3 hgb3
  go_wp2_with fail
  go_loopw [19] (fun s19 wr => ∃ (i : Nat), i ≤ n ∧ s19 = .int .i64 i ∧ Hid (∃ v l p, Tidy l ∧ SetA w.heap.size wr g1 v l ∧ RefS wr x gb p ∧ Like l p ∧ (v.ownBlock ≠ some x ∧ v.ownBlock ≠ some gb) ∧ Fine w wr)) (fun s19 _ => n - (intOf s19).toNat)
  case atStart => exact ⟨0, Nat.zero_le _, rfl, Lib.hid ⟨_, [], _, Tidy.nil, SetA.nil B3.out, R3.out, (fun m => by simp [inB]), ⟨(by intro e; cases e), (by intro e; cases e)⟩, F3.out⟩⟩
  case round =>
    obtain ⟨i, hi, rfl, HI⟩ := hrel
    obtain ⟨v, l, p, i1, i3, i4, i5, i7, i6⟩ := HI.out
    have I1 := Lib.hid i1; have I3 := Lib.hid i3; have I4 := Lib.hid i4; have I5 := Lib.hid i5; have I6 := Lib.hid i6; have I7 := Lib.hid i7
    clear i1 i3 i4 i5 i6 i7 HI
    by_cases hlt : i < n
    · obtain ⟨r, hr0⟩ : ∃ r, acts[i]? = some r := ⟨_, List.getElem?_eq_getElem (by have := HN.out; omega)⟩
      obtain ⟨bb, o, rfl, hb, hc⟩ := (HR.out.fine I6.out).at_ hr0
      have hbd := HB.out r (List.mem_of_getElem? hr0)
      obtain ⟨r0, r1, r2⟩ := r
      have d0 := hc 0 (.int .i64 r0) rfl
      have d1 := hc 1 (.int .i64 r1) rfl
      have d2 := hc 2 (.int .i64 r2) rfl
      simp only [← Nat.add_assoc, Nat.add_zero] at d0 d1 d2
      dsimp only at hbd
      have HBD := Lib.hid hbd
      obtain ⟨xr, hxr⟩ : ∃ x, wr.heap.size = x := ⟨_, rfl⟩
      have b5 := Blk.newAt (w := wr) (t := 27) (cs := #[.int .i64 r0, .int .i64 r1, .int .i64 r2]) hxr.symm
      have f5 := (Fine.refl wr).alloc (.cells #[.int .i64 r0, .int .i64 r1, .int .i64 r2] 27)
      have s5 := I3.out.fine f5
      have r5 := I4.out.fine f5
      have hgx : g1 < xr := hxr ▸ I3.out.lt
      have hxx : x < xr := hxr ▸ I4.out.1.lt
      have hbx : gb < xr := hxr ▸ I4.out.2.1.lt
      have hvx : ∀ x, v.ownBlock = some x → x ≠ xr := fun x hx => by have := (I3.out.own x hx).2; omega
      have HVX := Lib.hid hvx
      clear hc hr0 hbd hvx
      go_upto_region 9 with fail
      generalize wr.alloc (.cells #[.int .i64 r0, .int .i64 r1, .int .i64 r2] 27) = w5 at b5 f5 s5 r5 ⊢
      have F5 := Lib.hid (I6.out.trans f5); have B5 := Lib.hid b5; have S5 := Lib.hid s5; have R5 := Lib.hid r5
      have hxl : xr < w5.heap.size := b5.lt
      clear b5 f5 s5 r5 hxr d0 d1 d2
      have c0 : w5.cell? ⟨xr, 0, none⟩ = some (.int .i64 r0) := B5.out.cell 0
      have c1 : w5.cell? ⟨xr, 1, none⟩ = some (.int .i64 r1) := B5.out.cell 1
      have c2 : w5.cell? ⟨xr, 2, none⟩ = some (.int .i64 r2) := B5.out.cell 2
      have BX := Lib.hid (show Box2 w5.drew xr r1 r2 from ⟨c1, c2⟩)
      have hnA : ¬ (xr = g1 ∨ v.ownBlock = some xr) := fun e => e.elim (fun e => by omega) (fun e => HVX.out _ e rfl)
      have hnB : ¬ xr = gb := by omega
      have hdsz : w.heap.size ≤ w5.drew.heap.size := F5.out.drew.size
      by_cases hk : r0 = 0
      · subst hk
        go_upto_region 10 with fail
        go_cut [47] (fun s47 wx => s47 = .bool (!decide (Good r1 r2)) ∧ wx = w5)
        case first =>
          by_cases q1 : 200 ≤ r1
          · have q1' : r1 ≥ 200 := q1
            go_wp2_with fail
            go_meet
            exact ⟨by rw [decide_eq_false (by unfold Good; omega)]; rfl, rfl⟩
          · by_cases q2 : 200 < r2
            · have q2' : r2 > 200 := q2
              go_wp2_with fail
              go_meet
              exact ⟨by rw [decide_eq_false (by unfold Good; omega)]; rfl, rfl⟩
            · obtain ⟨mb, hmb⟩ : ∃ z, (if r2 < 0 then 0 else r2) = z := ⟨_, rfl⟩
              have hmb2 : 0 ≤ mb ∧ mb ≤ 200 ∧ max r2 0 = mb := by rw [← hmb]; split <;> omega
              have e1 : IntKind.i64.wrap (r1 + mb) = r1 + mb := IntWalk.i64_in _ (by have := HBD.out.2.1; omega)
              have HMB := Lib.hid hmb2
              have q1' : ¬ r1 ≥ 200 := q1
              have q2' : ¬ r2 > 200 := q2
              clear hmb2
              by_cases q3 : 200 < r1 + mb
              · have q4 : 0 < r1 := by have := HMB.out; omega
                have q3' : r1 + mb > 200 := q3
                have q4' : r1 > 0 := q4
                go_wp2_with fail
                go_meet
                exact ⟨by rw [decide_eq_false (by unfold Good; rw [HMB.out.2.2]; omega)]; rfl, rfl⟩
              · have q3' : ¬ r1 + mb > 200 := q3
                go_wp2_with fail
                go_meet
                exact ⟨by rw [decide_eq_true (by unfold Good; rw [HMB.out.2.2]; omega)]; rfl, rfl⟩
        case rest =>
          obtain ⟨rfl, rfl⟩ := hcut
          by_cases hG : Good r1 r2
          · rw [decide_eq_true hG]
            have HG := Lib.hid hG
            clear hG
            go_upto_region 11 with fail
            go_cut [63] (fun s63 wx => s63 = .bool (decide (-200 < r1 ∧ r1 + r2 < -9223372036854775808)) ∧ wx = wc)
            case first =>
              by_cases q1 : r1 < 0
              · by_cases q2 : -200 < r1
                · by_cases q4 : r1 + r2 < -9223372036854775808
                  · obtain ⟨z, hz⟩ : ∃ z, r1 + r2 + 18446744073709551616 = z := ⟨_, rfl⟩
                    have e1 : IntKind.i64.wrap (r1 + r2) = z := by have := HBD.out.2.1; have := HBD.out.2.2; rw [IntKind.wrap_i64, ← hz]; omega
                    have q2' : r1 > -200 := q2
                    have q3 : 200 < z := by have := HBD.out.2.1; have := HBD.out.2.2; omega
                    have q3' : z > 200 := q3
                    have HZ := Lib.hid hz
                    clear hz
                    go_wp2_with fail
                    go_meet
                    exact ⟨by rw [decide_eq_true ⟨q2, q4⟩], rfl⟩
                  · have e1 : IntKind.i64.wrap (r1 + r2) = r1 + r2 := IntWalk.i64_in _ (by have := HG.out.2.1; have := HBD.out.2.2; omega)
                    have q2' : r1 > -200 := q2
                    have q3 : ¬ 200 < r1 + r2 := by have := HG.out.2.1; omega
                    have q3' : ¬ r1 + r2 > 200 := q3
                    go_wp2_with fail
                    go_meet
                    exact ⟨by rw [decide_eq_false (fun e => by have e1 := e.1; have e2 := e.2; omega)], rfl⟩
                · have q2' : ¬ r1 > -200 := q2
                  go_wp2_with fail
                  go_meet
                  exact ⟨by rw [decide_eq_false (fun e => by have e1 := e.1; have e2 := e.2; omega)], rfl⟩
              · go_wp2_with fail
                go_meet
                exact ⟨by rw [decide_eq_false (fun e => by have := HBD.out.2.2; omega)], rfl⟩
            case rest =>
              obtain ⟨rfl, hwc⟩ := hcut
              subst hwc
              by_cases hO : -200 < r1 ∧ r1 + r2 < -9223372036854775808
              · rw [decide_eq_true hO]
                clear hO
                go_wp2_with fail
                exact ⟨⟨i + 1, hlt, by simp, Lib.hid ⟨v, l, p, I1.out, S5.out, R5.out, I5.out, I7.out, F5.out⟩⟩, by simp only [intOf]; omega⟩
              · rw [decide_eq_false hO]
                clear hO
                obtain ⟨mf, hmf⟩ : ∃ z, (if r1 < -1099511627776 then -1099511627776 else r1) = z := ⟨_, rfl⟩
                have hmx : max r1 (-1099511627776) = mf := by rw [← hmf]; split <;> omega
                have hmfb : -1099511627776 ≤ mf ∧ mf ≤ 9223372036854775807 := by have := HBD.out.2.1; omega
                obtain ⟨p9, hp9⟩ : ∃ q, (fun i => p i || condA mf r2 i) = q := ⟨_, rfl⟩
                obtain ⟨d, hd⟩ : ∃ z, cntP (fun i => condA mf r2 i && !p i) 200 = z := ⟨_, rfl⟩
                have HAD : Hid (∀ w', w.heap.size ≤ w'.heap.size → SetA w.heap.size w' g1 v l → Calls Try.prog 20 #[.pointer (some ⟨g1, 0, none⟩), .int .i64 r1, .int .i64 r2] w' fun e w'' => ∃ v9 l9, e = .returned (.int .i64 d) ∧ Tidy l9 ∧ Like l9 p9 ∧ SetA w.heap.size w'' g1 v9 l9 ∧ Kept (fun k => k = g1 ∨ v.ownBlock = some k) w' w'' ∧ (v9.ownBlock = v.ownBlock ∨ ∀ k, v9.ownBlock = some k → w'.heap.size ≤ k)) := Lib.hid (fun w' hb hs => (add_any w.heap.size g1 v l I1.out r1 r2 HBD.out.2.1 HBD.out.2.2 w' hb hs).mono (fun e w'' h => by
                  obtain ⟨v9, l9, he, t9, m9, s9, k9, o9⟩ := h
                  have hla := like_add I1.out t9 I5.out HG.out m9
                  rw [hmx, hp9, hd] at hla
                  exact ⟨v9, l9, by rw [he, hla.2], t9, hla.1, s9, k9, o9⟩))
                have HRB : Hid (∀ w', RefS w' x gb p → Calls Try.prog 24 #[.pointer (some ⟨x, 0, none⟩), .int .i64 mf, .int .i64 r2] w' fun e w'' => e = .returned (.int .i64 d) ∧ RefS w'' x gb p9 ∧ Kept (· = gb) w' w'') := Lib.hid (fun w' hs => by
                  have := radd_any x gb p mf r2 hmfb w' hs
                  rw [hp9, hd] at this
                  exact this)
                clear hp9 hd hmx hmfb
                go_upto_region 12 with fail
                have hxA : ¬ (x = g1 ∨ v.ownBlock = some x) := fun e => e.elim (fun e => by omega) (fun e => I7.out.1 e)
                have hgA : ¬ (gb = g1 ∨ v.ownBlock = some gb) := fun e => e.elim (fun e => by omega) (fun e => I7.out.2 e)
                go_cut [77] (fun s77 wx => s77 = .bool false ∧ Hid (∃ v9 l9, Tidy l9 ∧ Like l9 p9 ∧ SetA w.heap.size wx g1 v9 l9 ∧ RefS wx x gb p9 ∧ (v9.ownBlock ≠ some x ∧ v9.ownBlock ≠ some gb) ∧ Fine w wx))
                case first =>
                  go_region_held3 (fun w' => w'.cell? ⟨xr, 1, none⟩ = some (.int .i64 r1) ∧ w'.cell? ⟨xr, 2, none⟩ = some (.int .i64 r2)) (first | exact BX.out | exact Box2.kept (Box2.kept BX.out kA hxl hnA) kB (Nat.lt_of_lt_of_le hxl kA.size) hnB | exact Box2.kept BX.out kA hxl hnA) (first | (go_at_call 20; refine (HAD.out _ ?_ ?_).mono ?_; (exact hdsz); (exact S5.out.fine (Fine.refl wc).drew); rintro e wA ⟨v9, l9, rfl, t9, lk9, s9, kA, h9⟩) | (go_at_call 24; refine (HRB.out _ ?_).mono ?_; (exact RefS.kept (R5.out.fine (Fine.refl wc).drew) kA hxA hgA); rintro e w9 ⟨rfl, r9, kB⟩))
                  all_goals
                    have T9 := Lib.hid t9; have L9 := Lib.hid lk9
                    have hv9 : ∀ y, v9.ownBlock = some y → y ≠ x ∧ y ≠ gb := fun y hy => by
                      rcases h9 with h | h
                      · have h1 := I7.out
                        rw [h] at hy
                        rw [hy] at h1
                        exact ⟨fun e => h1.1 (by rw [e]), fun e => h1.2 (by rw [e])⟩
                      · have h1 := h y hy
                        have h2 := (R5.out.fine (Fine.refl _).drew).1.lt
                        have h3 := (R5.out.fine (Fine.refl _).drew).2.1.lt
                        omega
                    have S9 := Lib.hid (s9.kept kB (by omega) (fun y hy e => (hv9 y hy).2 e))
                    have R9 := Lib.hid r9
                    have V9 : Hid (v9.ownBlock ≠ some x ∧ v9.ownBlock ≠ some gb) := Lib.hid ⟨fun e => (hv9 x e).1 rfl, fun e => (hv9 gb e).2 rfl⟩
                    have F9 : Hid (Fine w w9) := Lib.hid ((F5.out.drew.kept kA (fun y hy e => by
                      rcases e with e | e
                      · omega
                      · have := (S5.out.own y e).1; omega)).kept kB (fun y hy e => by have e : y = gb := e; omega))
                    clear t9 lk9 s9 kA h9 r9 kB hv9
                    go_wp2_with fail
                    go_meet
                    exact ⟨rfl, Lib.hid ⟨v9, l9, T9.out, L9.out, S9.out, R9.out, V9.out, F9.out⟩⟩
                case rest =>
                  obtain ⟨rfl, HC⟩ := hcut
                  obtain ⟨w9, hw9⟩ : ∃ w9, w9 = wc := ⟨_, rfl⟩
                  subst hw9
                  obtain ⟨v9, l9, t9, l9', s9, r9, v9', f9⟩ := HC.out
                  have T9 := Lib.hid t9; have L9 := Lib.hid l9'; have S9 := Lib.hid s9; have R9 := Lib.hid r9; have V9 := Lib.hid v9'; have F9 := Lib.hid f9
                  clear t9 l9' s9 r9 v9' f9 HC
                  have c0 : w9.cell? ⟨x, 0, none⟩ = some (.slice (some ⟨gb, 0, none⟩) 200 200) := R9.out.1.cell1
                  go_wp2_with fail
                  go_loopw [7, 92] (fun s7 s92 wz => ∃ (k : Nat) (c : Int), k ≤ 200 ∧ s92 = .int .i64 k ∧ s7 = .int .i64 c ∧ (0 ≤ c ∧ c ≤ 200) ∧ Hid (c = cntP p9 k ∧ Fine w9 wz)) (fun _ s92 _ => 200 - (intOf s92).toNat)
                  case atStart => exact ⟨0, 0, by omega, rfl, rfl, by omega, Lib.hid ⟨rfl, Fine.refl _⟩⟩
                  case round =>
                    obtain ⟨k, c, hk, rfl, rfl, hc, HZ⟩ := hrel
                    by_cases hkt : k < 200
                    · have hcl := (R9.out.fine HZ.out.2).cell hkt
                      obtain ⟨v, hv⟩ : ∃ v, p9 k = v := ⟨_, rfl⟩
                      have HV := Lib.hid hv
                      have HS := Lib.hid (cntP_succ p9 k)
                      have HCB := Lib.hid (cntP_le p9 (k + 1))
                      rw [hv] at hcl
                      clear hv c0
                      go_wp2_with fail
                      refine (has_any g1 l9 T9.out (k : Int) _ (S9.out.set.fine HZ.out.2)).mono ?_
                      rintro e wA ⟨rfl, fA⟩
                      rw [like_at L9.out hkt, HV.out]
                      have FA := Lib.hid (HZ.out.2.trans fA)
                      clear fA hcl
                      have hvv : (v != v) = false := by cases v <;> rfl
                      go_wp2_with fail
                      refine (next_any g1 l9 T9.out (k : Int) (by omega) _ (S9.out.set.fine FA.out)).mono ?_
                      rintro e wB ⟨nx, rfl, hnx, fB⟩
                      have FB := Lib.hid (FA.out.trans fB)
                      have HNX := Lib.hid hnx
                      clear fB hnx
                      go_wp2_with fail
                      refine (rnext_any x gb p9 k hk wB (R9.out.fine FB.out)).mono ?_
                      rintro e wC ⟨k2, rfl, q1, q2, q3, q4, rfl⟩
                      have hnk : nx = (k2 : Int) := like_next T9.out L9.out HNX.out (by omega) hk q1 q2 q3 q4
                      subst hnk
                      clear q1 q2 q3 q4 HNX hvv
                      cases v
                      · go_wp2_with fail
                        exact ⟨⟨k + 1, c, hkt, by simp, rfl, hc, Lib.hid ⟨by rw [HS.out, HV.out, ← HZ.out.1]; simp, FB.out⟩⟩, by simp only [intOf]; omega⟩
                      · have e2 : IntKind.i64.wrap (c + 1) = c + 1 := IntWalk.i64_in _ (by omega)
                        have hcn : c + 1 = cntP p9 (k + 1) := by rw [HS.out, HV.out, ← HZ.out.1]; rfl
                        have HCN := Lib.hid hcn
                        have hcb : 0 ≤ c + 1 ∧ c + 1 ≤ 200 := by rw [hcn]; have := HCB.out; omega
                        clear hcn
                        go_wp2_with fail
                        exact ⟨⟨k + 1, c + 1, hkt, by simp, rfl, hcb, Lib.hid ⟨HCN.out, FB.out⟩⟩, by simp only [intOf]; omega⟩
                    · have hke : k = 200 := by omega
                      subst hke
                      have hll : l9.length ≤ 8589934592 := by have := T9.out.length_le; omega
                      clear c0
                      go_wp2_with fail
                      refine (many_any g1 l9 T9.out _ (S9.out.set.fine HZ.out.2)).mono ?_
                      rintro e wA ⟨rfl, fA⟩
                      rw [like_total T9.out L9.out, ← HZ.out.1]
                      have FA := Lib.hid (HZ.out.2.trans fA)
                      clear fA
                      go_wp2_with fail
                      refine (runs_any g1 l9 hll _ (S9.out.set.fine FA.out)).mono ?_
                      rintro e wB ⟨vB, rfl, oB, fB⟩
                      obtain ⟨AB, cB, rfl, rsB, _⟩ := oB.form
                      have FB := Lib.hid (FA.out.trans fB)
                      have RB := Lib.hid rsB
                      clear fB oB rsB
                      go_wp2_with fail
                      refine (tidy_any AB l9.length cB l9 rfl T9.out wB RB.out).mono ?_
                      rintro e wC ⟨rfl, fC⟩
                      have FC := Lib.hid (FB.out.trans fC)
                      clear fC
                      go_wp2_with fail
                      refine (has_any g1 l9 T9.out (-1) _ (S9.out.set.fine FC.out)).mono ?_
                      rintro e wD ⟨rfl, fD⟩
                      rw [show inB l9 (-1) = false from L9.out (-1)]
                      have FD := Lib.hid (FC.out.trans fD)
                      clear fD
                      go_wp2_with fail
                      refine (next_any g1 l9 T9.out (-5) (by omega) _ (S9.out.set.fine FD.out)).mono ?_
                      rintro e wE ⟨nx, rfl, hnx, fE⟩
                      have FE := Lib.hid (FD.out.trans fE)
                      have HNX := Lib.hid hnx
                      clear fE hnx
                      go_wp2_with fail
                      refine (rnext_any x gb p9 0 (by omega) wE (R9.out.fine FE.out)).mono ?_
                      rintro e wF ⟨k2, rfl, q1, q2, q3, q4, rfl⟩
                      have hnk : nx = (k2 : Int) := like_next (n := 0) T9.out L9.out HNX.out (by omega) (by omega) q1 q2 q3 q4
                      subst hnk
                      clear q1 q2 q3 q4 HNX
                      go_wp2_with fail
                      exact ⟨⟨i + 1, hlt, by simp, Lib.hid ⟨v9, l9, p9, T9.out, S9.out.fine FE.out, R9.out.fine FE.out, L9.out, V9.out, F9.out.trans FE.out⟩⟩, by simp only [intOf]; omega⟩
          · rw [decide_eq_false hG]
            go_wp2_with fail
            exact ⟨⟨i + 1, hlt, by simp, Lib.hid ⟨v, l, p, I1.out, S5.out, R5.out, I5.out, I7.out, F5.out⟩⟩, by simp only [intOf]; omega⟩
      · have hk2 : (r0 == 0) = false := by simpa using hk
        obtain ⟨p9, hp9⟩ : ∃ q, (fun i : Nat => p i && decide (r1 ≤ (i : Int))) = q := ⟨_, rfl⟩
        obtain ⟨d, hd⟩ : ∃ z, cntP (fun i => decide ((i : Int) < r1) && p i) 200 = z := ⟨_, rfl⟩
        have HAD : Hid (∀ w', w.heap.size ≤ w'.heap.size → SetA w.heap.size w' g1 v l → Calls Try.prog 22 #[.pointer (some ⟨g1, 0, none⟩), .int .i64 r1] w' fun e w'' => ∃ v9 l9, e = .returned (.int .i64 d) ∧ Tidy l9 ∧ Like l9 p9 ∧ SetA w.heap.size w'' g1 v9 l9 ∧ Kept (fun k => k = g1 ∨ v.ownBlock = some k) w' w'' ∧ (v9.ownBlock = v.ownBlock ∨ ∀ k, v9.ownBlock = some k → w'.heap.size ≤ k)) := Lib.hid (fun w' hb hs => (drop_any w.heap.size g1 v l I1.out r1 HBD.out.2.1 w' hb hs).mono (fun e w'' h => by
          obtain ⟨v9, he, s9, k9, o9⟩ := h
          have hla := like_drop (b := r1) I1.out I5.out
          rw [hp9, hd] at hla
          exact ⟨v9, _, by rw [he, hla.2], (drop_law I1.out r1).1, hla.1, s9, k9, o9⟩))
        have HRB : Hid (∀ w', RefS w' x gb p → Calls Try.prog 25 #[.pointer (some ⟨x, 0, none⟩), .int .i64 r1] w' fun e w'' => e = .returned (.int .i64 d) ∧ RefS w'' x gb p9 ∧ Kept (· = gb) w' w'') := Lib.hid (fun w' hs => by
          have := rdrop_any x gb p r1 w' hs
          rw [hp9, hd] at this
          exact this)
        clear hp9 hd
        go_upto_region 14 with fail
        have hxA : ¬ (x = g1 ∨ v.ownBlock = some x) := fun e => e.elim (fun e => by omega) (fun e => I7.out.1 e)
        have hgA : ¬ (gb = g1 ∨ v.ownBlock = some gb) := fun e => e.elim (fun e => by omega) (fun e => I7.out.2 e)
        go_region_held3 (fun w' => w'.cell? ⟨xr, 1, none⟩ = some (.int .i64 r1) ∧ w'.cell? ⟨xr, 2, none⟩ = some (.int .i64 r2)) (first | exact BX.out | exact Box2.kept (Box2.kept BX.out kA hxl hnA) kB (Nat.lt_of_lt_of_le hxl kA.size) hnB | exact Box2.kept BX.out kA hxl hnA) (first | (go_at_call 22; refine (HAD.out _ ?_ ?_).mono ?_; (exact hdsz); (exact S5.out.fine (Fine.refl w5).drew); rintro e wA ⟨v9, l9, rfl, t9, lk9, s9, kA, h9⟩) | (go_at_call 25; refine (HRB.out _ ?_).mono ?_; (exact RefS.kept (R5.out.fine (Fine.refl w5).drew) kA hxA hgA); rintro e w9 ⟨rfl, r9, kB⟩))
        have T9 := Lib.hid t9; have L9 := Lib.hid lk9
        have hv9 : ∀ y, v9.ownBlock = some y → y ≠ x ∧ y ≠ gb := fun y hy => by
          rcases h9 with h | h
          · have h1 := I7.out
            rw [h] at hy
            rw [hy] at h1
            exact ⟨fun e => h1.1 (by rw [e]), fun e => h1.2 (by rw [e])⟩
          · have h1 := h y hy
            have h2 := (R5.out.fine (Fine.refl _).drew).1.lt
            have h3 := (R5.out.fine (Fine.refl _).drew).2.1.lt
            omega
        have S9 := Lib.hid (s9.kept kB (by omega) (fun y hy e => (hv9 y hy).2 e))
        have R9 := Lib.hid r9
        have V9 : Hid (v9.ownBlock ≠ some x ∧ v9.ownBlock ≠ some gb) := Lib.hid ⟨fun e => (hv9 x e).1 rfl, fun e => (hv9 gb e).2 rfl⟩
        have F9 : Hid (Fine w w9) := Lib.hid ((F5.out.drew.kept kA (fun y hy e => by
          rcases e with e | e
          · omega
          · have := (S5.out.own y e).1; omega)).kept kB (fun y hy e => by have e : y = gb := e; omega))
        clear t9 lk9 s9 kA h9 r9 kB hv9
        have c0 : w9.cell? ⟨x, 0, none⟩ = some (.slice (some ⟨gb, 0, none⟩) 200 200) := R9.out.1.cell1
        go_wp2_with fail
        go_loopw [7, 92] (fun s7 s92 wz => ∃ (k : Nat) (c : Int), k ≤ 200 ∧ s92 = .int .i64 k ∧ s7 = .int .i64 c ∧ (0 ≤ c ∧ c ≤ 200) ∧ Hid (c = cntP p9 k ∧ Fine w9 wz)) (fun _ s92 _ => 200 - (intOf s92).toNat)
        case atStart => exact ⟨0, 0, by omega, rfl, rfl, by omega, Lib.hid ⟨rfl, Fine.refl _⟩⟩
        case round =>
          obtain ⟨k, c, hk, rfl, rfl, hc, HZ⟩ := hrel
          by_cases hkt : k < 200
          · have hcl := (R9.out.fine HZ.out.2).cell hkt
            obtain ⟨v, hv⟩ : ∃ v, p9 k = v := ⟨_, rfl⟩
            have HV := Lib.hid hv
            have HS := Lib.hid (cntP_succ p9 k)
            have HCB := Lib.hid (cntP_le p9 (k + 1))
            rw [hv] at hcl
            clear hv c0
            go_wp2_with fail
            refine (has_any g1 l9 T9.out (k : Int) _ (S9.out.set.fine HZ.out.2)).mono ?_
            rintro e wA ⟨rfl, fA⟩
            rw [like_at L9.out hkt, HV.out]
            have FA := Lib.hid (HZ.out.2.trans fA)
            clear fA hcl
            have hvv : (v != v) = false := by cases v <;> rfl
            go_wp2_with fail
            refine (next_any g1 l9 T9.out (k : Int) (by omega) _ (S9.out.set.fine FA.out)).mono ?_
            rintro e wB ⟨nx, rfl, hnx, fB⟩
            have FB := Lib.hid (FA.out.trans fB)
            have HNX := Lib.hid hnx
            clear fB hnx
            go_wp2_with fail
            refine (rnext_any x gb p9 k hk wB (R9.out.fine FB.out)).mono ?_
            rintro e wC ⟨k2, rfl, q1, q2, q3, q4, rfl⟩
            have hnk : nx = (k2 : Int) := like_next T9.out L9.out HNX.out (by omega) hk q1 q2 q3 q4
            subst hnk
            clear q1 q2 q3 q4 HNX hvv
            cases v
            · go_wp2_with fail
              exact ⟨⟨k + 1, c, hkt, by simp, rfl, hc, Lib.hid ⟨by rw [HS.out, HV.out, ← HZ.out.1]; simp, FB.out⟩⟩, by simp only [intOf]; omega⟩
            · have e2 : IntKind.i64.wrap (c + 1) = c + 1 := IntWalk.i64_in _ (by omega)
              have hcn : c + 1 = cntP p9 (k + 1) := by rw [HS.out, HV.out, ← HZ.out.1]; rfl
              have HCN := Lib.hid hcn
              have hcb : 0 ≤ c + 1 ∧ c + 1 ≤ 200 := by rw [hcn]; have := HCB.out; omega
              clear hcn
              go_wp2_with fail
              exact ⟨⟨k + 1, c + 1, hkt, by simp, rfl, hcb, Lib.hid ⟨HCN.out, FB.out⟩⟩, by simp only [intOf]; omega⟩
          · have hke : k = 200 := by omega
            subst hke
            have hll : l9.length ≤ 8589934592 := by have := T9.out.length_le; omega
            clear c0
            go_wp2_with fail
            refine (many_any g1 l9 T9.out _ (S9.out.set.fine HZ.out.2)).mono ?_
            rintro e wA ⟨rfl, fA⟩
            rw [like_total T9.out L9.out, ← HZ.out.1]
            have FA := Lib.hid (HZ.out.2.trans fA)
            clear fA
            go_wp2_with fail
            refine (runs_any g1 l9 hll _ (S9.out.set.fine FA.out)).mono ?_
            rintro e wB ⟨vB, rfl, oB, fB⟩
            obtain ⟨AB, cB, rfl, rsB, _⟩ := oB.form
            have FB := Lib.hid (FA.out.trans fB)
            have RB := Lib.hid rsB
            clear fB oB rsB
            go_wp2_with fail
            refine (tidy_any AB l9.length cB l9 rfl T9.out wB RB.out).mono ?_
            rintro e wC ⟨rfl, fC⟩
            have FC := Lib.hid (FB.out.trans fC)
            clear fC
            go_wp2_with fail
            refine (has_any g1 l9 T9.out (-1) _ (S9.out.set.fine FC.out)).mono ?_
            rintro e wD ⟨rfl, fD⟩
            rw [show inB l9 (-1) = false from L9.out (-1)]
            have FD := Lib.hid (FC.out.trans fD)
            clear fD
            go_wp2_with fail
            refine (next_any g1 l9 T9.out (-5) (by omega) _ (S9.out.set.fine FD.out)).mono ?_
            rintro e wE ⟨nx, rfl, hnx, fE⟩
            have FE := Lib.hid (FD.out.trans fE)
            have HNX := Lib.hid hnx
            clear fE hnx
            go_wp2_with fail
            refine (rnext_any x gb p9 0 (by omega) wE (R9.out.fine FE.out)).mono ?_
            rintro e wF ⟨k2, rfl, q1, q2, q3, q4, rfl⟩
            have hnk : nx = (k2 : Int) := like_next (n := 0) T9.out L9.out HNX.out (by omega) (by omega) q1 q2 q3 q4
            subst hnk
            clear q1 q2 q3 q4 HNX
            go_wp2_with fail
            exact ⟨⟨i + 1, hlt, by simp, Lib.hid ⟨v9, l9, p9, T9.out, S9.out.fine FE.out, R9.out.fine FE.out, L9.out, V9.out, F9.out.trans FE.out⟩⟩, by simp only [intOf]; omega⟩
    · have hie : i = n := by omega
      subst hie
      go_wp2_with fail
      go_ret
      exact ⟨rfl, I6.out⟩
set_option maxHeartbeats 2000000 in
set_option maxRecDepth 20000 in
theorem lawSpanActs (w : World) (A : Option Addr) (len cap : Nat) (zs : Nat → Nat → Int) (hz : RecsIn .i64 3 w A len cap zs) :
    Calls Try.prog 5 #[.slice A len cap] w fun e w' => e = .returned (.bool true) ∧ Below w.heap.size w w' := by
  show Calls _ _ _ _ fun e w' => e = .returned (.bool true) ∧ Fine w w'
  obtain ⟨acts, hn, hr, hb⟩ := acts_rs hz
  by_cases h : len ≤ 60
  · exact spanActs_main w A len cap h acts hn hr hb
  · clear hz hr hb hn
    have h4 : (len : Int) > 60 := by omega
    go_enter Try.func5, Try.ntmps5
    go_wp2_with fail
    refine (wakes_any w).mono ?_
    rintro r w1 ⟨rfl, f1⟩
    have F1 := Lib.hid f1
    clear f1
    go_wp2_with fail
    go_ret
    exact ⟨rfl, F1.out⟩
end Go.Proofs.Ytnigfdldfmiaiaa
