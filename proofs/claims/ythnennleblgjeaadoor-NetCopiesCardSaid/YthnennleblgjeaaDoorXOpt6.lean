/- The laws of option: options' bytes. -/
import Derived.Test.YthnennleblgjeaaDoorXOpt5
namespace Go.Proofs.YthnennleblgjeaaDoor
set_option linter.unusedVariables false
set_option linter.unusedSimpArgs false
open Go.ChangeShapes Go.WideShapes Go.ChangeAt Go.RowKit
set_option linter.unusedVariables false
def layO : Lay (Nat → Int) 14 := { cs := optL, len := fun _ => rfl, one := fun V u hu => by simp at hu; rcases hu with rfl | rfl | rfl | rfl | rfl | rfl | rfl | rfl | rfl | rfl | rfl | rfl | rfl | rfl <;> rfl, pos := by decide }
/-- A place's bytes; an option's. -/
def fieldB (V : Nat → Int) (p : Nat × Nat) : List Int := be p.2 (V p.1)
def optB (V : Nat → Int) : List Int := be 1 (V 0) ++ (fieldsOf (V 0)).flatMap (fieldB V)
theorem flatMap_len {α : Type} (f : α → List Int) (m : Nat) : ∀ l : List α, (∀ x ∈ l, (f x).length ≤ m) → (l.flatMap f).length ≤ m * l.length
  | [], _ => by simp
  | x :: l, h => by
    have h1 := flatMap_len f m l (fun y hy => h y (List.mem_cons_of_mem _ hy))
    have h2 := h x (List.mem_cons_self)
    rw [List.flatMap_cons, List.length_append, List.length_cons, Nat.mul_succ]
    omega
theorem fieldB_len (V : Nat → Int) (k : Int) (j : Nat) : (((fieldsOf k).take j).flatMap (fieldB V)).length ≤ 48 := by
  have h := flatMap_len (fieldB V) 8 ((fieldsOf k).take j) (fun p hp => by
    have := (fieldsOf_ok k p (List.mem_of_mem_take hp)).2.2.2
    unfold fieldB
    rw [be_length]
    omega)
  have h2 := fieldsOf_len k
  have h3 : ((fieldsOf k).take j).length ≤ 6 := by rw [List.length_take]; omega
  omega
theorem optB_len (V : Nat → Int) : (optB V).length ≤ 49 := by
  unfold optB
  rw [List.length_append, be_length]
  have := fieldB_len V (V 0) (fieldsOf (V 0)).length
  rw [List.take_length] at this
  omega
theorem right_kind {V : Nat → Int} (h : rightF V = true) : 1 ≤ V 0 ∧ V 0 ≤ 11 := by
  unfold rightF at h
  rw [Bool.and_eq_true, Bool.and_eq_true, decide_eq_true_eq] at h
  by_cases hk : V 0 < 1 ∨ 11 < V 0
  · have := h.2.1
    rw [fieldsOf_out hk] at this
    simp at this
  · omega
theorem right_fits {V : Nat → Int} (h : rightF V = true) : ∀ p ∈ fieldsOf (V 0), fitsF (fk p.1) p.2 (V p.1) = true := by
  unfold rightF at h
  rw [Bool.and_eq_true, List.all_eq_true] at h
  exact h.1
theorem width_of {p : Nat × Nat} (h : p.2 = 1 ∨ p.2 = 4 ∨ p.2 = 8) : width (p.2 : Int) = p.2 := by
  unfold width
  omega
/-- What the walk of Put holds behind i options and j places of the next one. -/
def PutSt (w0 : World) (v : Value) (xs : List Int) (wr : World) : Prop := Fine w0 wr ∧ OwnB wr w0.heap.size v xs
theorem PutSt.form {w0 wr : World} {v : Value} {xs : List Int} (h : PutSt w0 v xs wr) : ∃ A c, v = .slice A xs.length c ∧ BS wr A c xs := by
  obtain ⟨A, c, e, hb, _⟩ := h.2.form
  exact ⟨A, c, e, hb⟩
theorem PutSt.fine {w0 wr w' : World} {v : Value} {xs : List Int} (h : PutSt w0 v xs wr) (f : Fine wr w') : PutSt w0 v xs w' := ⟨h.1.trans f, h.2.fine f⟩
theorem pre_len (l : List (Nat → Int)) (i : Nat) (hl : l.length ≤ 100000) : ((l.take i).flatMap optB).length ≤ 4900000 := by
  have h := flatMap_len optB 49 (l.take i) (fun V _ => optB_len V)
  have : (l.take i).length ≤ 100000 := by rw [List.length_take]; omega
  omega
def OptPut (l : List (Nat → Int)) (w : World) (r : Ending) (w' : World) : Prop :=
  Fine w w' ∧ ((∃ v, (∀ V ∈ l, rightF V = true) ∧ r = .returned (.tuple #[v, .int .i64 0]) ∧ OwnB w' w.heap.size v (l.flatMap optB)) ∨ ((∃ V ∈ l, rightF V = false) ∧ r = .returned (.tuple #[.slice none 0 0, .int .i64 1])))
set_option maxHeartbeats 4000000 in
set_option maxRecDepth 100000 in
theorem optPut_any (A : Option Addr) (c : Nat) (l : List (Nat → Int)) (hl : l.length ≤ 100000) (hV : ∀ V ∈ l, OkV V) (w : World) (h : RS layO w A c l) :
    Calls Tryd.prog 35 #[.slice A l.length c] w (OptPut l w) := by
  have H := Lib.hid h; clear h
  have HS : Hid (PutSt w (.slice none 0 0) ([] : List Int) w) := Lib.hid ⟨Fine.refl w, OwnB.nil_ _ _⟩
  unfold OptPut
  go_enter Tryd.func35, Tryd.ntmps35
  go_wp2_with fail
  go_loopw [13, 4] (fun s13 s4 wr => ∃ i : Nat, i ≤ l.length ∧ s13 = .int .i64 i ∧ Hid (PutSt w s4 ((l.take i).flatMap optB) wr ∧ ∀ V ∈ l.take i, rightF V = true)) (fun s13 _ _ => l.length - (intOf s13).toNat)
  case atStart => exact ⟨0, Nat.zero_le _, rfl, Lib.hid ⟨HS.out, fun V hv => by simp at hv⟩⟩
  case round =>
    obtain ⟨i, hi, rfl, hR⟩ := hrel
    by_cases hlt : i < l.length
    · obtain ⟨V, hV0⟩ : ∃ V, l[i]? = some V := ⟨l[i], List.getElem?_eq_getElem hlt⟩
      have hVm := List.mem_of_getElem? hV0
      have HV := Lib.hid (hV V hVm)
      obtain ⟨b, o, rfl, hb, hc⟩ := (H.out.fine hR.out.1.1).at_ hV0
      have c0 := hc 0 (.int .i64 (V 0)) rfl
      have c1 := hc 1 (.int .u64 (V 1)) rfl
      have c2 := hc 2 (.int .u64 (V 2)) rfl
      have c3 := hc 3 (.int .u32 (V 3)) rfl
      have c4 := hc 4 (.int .u32 (V 4)) rfl
      have c5 := hc 5 (.int .i64 (V 5)) rfl
      have c6 := hc 6 (.int .i64 (V 6)) rfl
      have c7 := hc 7 (.bool (decide (V 7 = 1))) rfl
      have c8 := hc 8 (.bool (decide (V 8 = 1))) rfl
      have c9 := hc 9 (.int .i64 (V 9)) rfl
      have c10 := hc 10 (.bool (decide (V 10 = 1))) rfl
      have c11 := hc 11 (.int .i64 (V 11)) rfl
      have c12 := hc 12 (.int .i64 (V 12)) rfl
      have c13 := hc 13 (.bool (decide (V 13 = 1))) rfl
      have HV0 := Lib.hid hV0
      clear hc hV0
      simp only [← Nat.add_assoc, Nat.add_zero] at c0 c1 c2 c3 c4 c5 c6 c7 c8 c9 c10 c11 c12 c13
      go_wp2_with fail
      have b5 : Blk (wr.alloc (.cells #[.int .i64 (V 0), .int .u64 (V 1), .int .u64 (V 2), .int .u32 (V 3), .int .u32 (V 4), .int .i64 (V 5), .int .i64 (V 6), .bool (decide (V 7 = 1)), .bool (decide (V 8 = 1)), .int .i64 (V 9), .bool (decide (V 10 = 1)), .int .i64 (V 11), .int .i64 (V 12), .bool (decide (V 13 = 1))] 69)) wr.heap.size 69 (optL V).toArray := Blk.new wr 69 _
      have f5 : Fine wr (wr.alloc (.cells #[.int .i64 (V 0), .int .u64 (V 1), .int .u64 (V 2), .int .u32 (V 3), .int .u32 (V 4), .int .i64 (V 5), .int .i64 (V 6), .bool (decide (V 7 = 1)), .bool (decide (V 8 = 1)), .int .i64 (V 9), .bool (decide (V 10 = 1)), .int .i64 (V 11), .int .i64 (V 12), .bool (decide (V 13 = 1))] 69)) := (Fine.refl wr).alloc _
      clear c0 c1 c2 c3 c4 c5 c6 c7 c8 c9 c10 c11 c12 c13
      obtain ⟨x6, hx6⟩ : ∃ x6, wr.heap.size = x6 := ⟨_, rfl⟩
      generalize (wr.alloc (.cells #[.int .i64 (V 0), .int .u64 (V 1), .int .u64 (V 2), .int .u32 (V 3), .int .u32 (V 4), .int .i64 (V 5), .int .i64 (V 6), .bool (decide (V 7 = 1)), .bool (decide (V 8 = 1)), .int .i64 (V 9), .bool (decide (V 10 = 1)), .int .i64 (V 11), .int .i64 (V 12), .bool (decide (V 13 = 1))] 69)) = w5 at b5 f5 ⊢
      rw [hx6] at b5 ⊢
      clear hx6
      refine (right_any V HV.out w5).mono ?_
      rintro x w6 ⟨rfl, f6⟩
      have b6 := b5.fine f6
      have e0 : w6.cell? ⟨x6, 0, none⟩ = some (.int .i64 (V 0)) := b6.cell 0
      have f56 := f5.trans f6
      clear b5 f5 f6
      obtain ⟨pre, hpre⟩ : ∃ pre, (l.take i).flatMap optB = pre := ⟨_, rfl⟩
      have hpl := pre_len l i hl
      have hR6 := hR.out.1.fine f56
      have hRr := Lib.hid hR.out.2
      rw [hpre] at hpl hR6
      obtain ⟨A1, d1, rfl, hbs⟩ := hR6.form
      have HR6 := Lib.hid hR6; clear hR6 hR
      have HB := Lib.hid hbs; clear hbs
      have HPRE := Lib.hid hpre; clear hpre
      by_cases hr : rightF V = true
      · rw [hr]
        have hk := right_kind hr
        have HRT := Lib.hid hr; clear hr
        go_wp2_with fail
        have hw1 : width 1 = 1 := rfl
        refine (put_any A1 d1 pre (V 0) (by omega) 1 w6 HB.out (by omega)).mono ?_
        rintro x w7 ⟨v7, rfl, o7, f7⟩
        rw [hw1] at o7
        have b7 := b6.fine f7
        have hS7 : PutSt w v7 (pre ++ be 1 (V 0)) w7 := ⟨HR6.out.1.trans f7, o7.lower HR6.out.1.size⟩
        obtain ⟨hd, hhd⟩ : ∃ hd, pre ++ be 1 (V 0) = hd := ⟨_, rfl⟩
        have hdl : hd.length ≤ 4900001 := by rw [← hhd, List.length_append, be_length]; omega
        rw [hhd] at hS7
        have HHD := Lib.hid hhd; clear hhd
        obtain ⟨A7, d7, rfl, hb7⟩ := hS7.form
        clear b6 e0 f56 o7 hb7
        have HK := Lib.hid hk; clear hk
        go_wp2_with fail
        refine (places_any x6 (V 0) w7 (b7.cell 0) b7.lt).mono ?_
        rintro x w8 ⟨A8, d8, rfl, r8, ty8, f8⟩
        have hok := fieldsOf_ok (V 0)
        have hfit := right_fits HRT.out
        have hfl := fieldB_len V (V 0)
        have hF6 := fieldsOf_len (V 0)
        have HOB : Hid (optB V = be 1 (V 0) ++ (fieldsOf (V 0)).flatMap (fieldB V)) := Lib.hid rfl
        obtain ⟨F, hF⟩ : ∃ F, fieldsOf (V 0) = F := ⟨_, rfl⟩
        rw [hF] at r8 hok hfit hfl hF6 HOB ⊢
        clear hF
        have HI : Hid (PutSt w (.slice A7 hd.length d7) (hd ++ (F.take 0).flatMap (fieldB V)) w8 ∧ Blk w8 x6 69 (optL V).toArray ∧ RS (layPl x6) w8 A8 d8 F) := Lib.hid ⟨by simpa using hS7.fine f8, b7.fine f8, r8⟩
        clear hS7 b7 r8 ty8 f7 f8
        go_wp2_with fail
        go_loopw [27, 4] (fun s27 s4 wx => ∃ j : Nat, j ≤ F.length ∧ s27 = .int .i64 j ∧ Hid (PutSt w s4 (hd ++ (F.take j).flatMap (fieldB V)) wx ∧ Blk wx x6 69 (optL V).toArray ∧ RS (layPl x6) wx A8 d8 F)) (fun s27 _ _ => F.length - (intOf s27).toNat)
        case atStart => exact ⟨0, Nat.zero_le _, rfl, HI⟩
        case round =>
          obtain ⟨j, hj, rfl, hR⟩ := hrel
          by_cases hjl : j < F.length
          · obtain ⟨p, hp0⟩ : ∃ p, F[j]? = some p := ⟨F[j], List.getElem?_eq_getElem hjl⟩
            have hpm := List.mem_of_getElem? hp0
            have hpk := hok p hpm
            have hpf := hfit p hpm
            obtain ⟨z0, z1, z2, z3, hz⟩ : ∃ z0 z1 z2 z3, placeL x6 p = [.pointer z0, .pointer z1, .pointer z2, .pointer z3, .int .i64 p.2] := by unfold placeL; split <;> exact ⟨_, _, _, _, rfl⟩
            obtain ⟨bA, oA, rfl, hbA, hcA⟩ := hR.out.2.2.at_ hp0
            have q0 := hcA 0 (.pointer z0) (by show (placeL x6 p)[0]? = _; rw [hz]; rfl)
            have q1 := hcA 1 (.pointer z1) (by show (placeL x6 p)[1]? = _; rw [hz]; rfl)
            have q2 := hcA 2 (.pointer z2) (by show (placeL x6 p)[2]? = _; rw [hz]; rfl)
            have q3 := hcA 3 (.pointer z3) (by show (placeL x6 p)[3]? = _; rw [hz]; rfl)
            have q4 := hcA 4 (.int .i64 p.2) (by show (placeL x6 p)[4]? = _; rw [hz]; rfl)
            clear hcA
            simp only [← Nat.add_assoc, Nat.add_zero] at q0 q1 q2 q3 q4
            go_wp2_with fail
            have b9 : Blk (wr.alloc (.cells #[.pointer z0, .pointer z1, .pointer z2, .pointer z3, .int .i64 p.2] 96)) wr.heap.size 96 #[.pointer z0, .pointer z1, .pointer z2, .pointer z3, .int .i64 p.2] := Blk.new wr 96 _
            have f9 : Fine wr (wr.alloc (.cells #[.pointer z0, .pointer z1, .pointer z2, .pointer z3, .int .i64 p.2] 96)) := (Fine.refl wr).alloc _
            clear q0 q1 q2 q3 q4
            obtain ⟨x8, hx8⟩ : ∃ x8, wr.heap.size = x8 := ⟨_, rfl⟩
            generalize (wr.alloc (.cells #[.pointer z0, .pointer z1, .pointer z2, .pointer z3, .int .i64 p.2] 96)) = w9 at b9 f9 ⊢
            rw [hx8] at b9 ⊢
            clear hx8
            obtain ⟨hA, hB, hC⟩ := hR.out
            obtain ⟨cur, hcur⟩ : ∃ cur, hd ++ (F.take j).flatMap (fieldB V) = cur := ⟨_, rfl⟩
            have hcl : cur.length ≤ 5000000 := by rw [← hcur, List.length_append]; have := hfl j; omega
            have hnx : hd ++ (F.take (j + 1)).flatMap (fieldB V) = cur ++ be p.2 (V p.1) := by
              rw [← hcur, List.take_add_one, hp0, List.flatMap_append, List.append_assoc]
              simp [fieldB]
            have HNX := Lib.hid hnx; clear hnx
            rw [hcur] at hA
            clear hcur hR
            have hN := placeNum_any x6 p.1 p.2 V (HV.out p.1 hpk.2.1) hpk.2.1 hpk.2.2.1 w9 (hB.fine f9)
            rw [show placeL x6 (p.1, p.2) = _ from hz] at hN
            refine hN.mono ?_
            rintro x w10 ⟨y, rfl, hy, f10⟩
            rw [hpf]
            obtain ⟨rfl, e2, e3⟩ := hy hpf
            have b10 := b9.fine f10
            have j0 : w10.cell? ⟨x8, 0, none⟩ = some (.pointer z0) := b10.cell 0
            have j1 : w10.cell? ⟨x8, 1, none⟩ = some (.pointer z1) := b10.cell 1
            have j2 : w10.cell? ⟨x8, 2, none⟩ = some (.pointer z2) := b10.cell 2
            have j3 : w10.cell? ⟨x8, 3, none⟩ = some (.pointer z3) := b10.cell 3
            have j4 : w10.cell? ⟨x8, 4, none⟩ = some (.int .i64 p.2) := b10.cell 4
            have f910 := f9.trans f10
            have hA10 := hA.fine f910
            have HB10 := Lib.hid (hB.fine f910)
            have HC10 := Lib.hid (hC.fine f910)
            clear hN b9 b10 hA hB hC f9 f10 HI
            obtain ⟨A4, d4, rfl, hb4⟩ := hA10.form
            have HA10 := Lib.hid hA10; clear hA10
            have HB4 := Lib.hid hb4; clear hb4
            have hwd := width_of hpk.2.2.2
            have HWD := Lib.hid hwd; clear hwd
            have HPK := Lib.hid hpk; clear hpk
            go_wp2_with fail
            refine (put_any A4 d4 cur (V p.1) ⟨e2, e3⟩ p.2 w10 HB4.out (by omega)).mono ?_
            rintro x w11 ⟨v11, rfl, o11, f11⟩
            rw [HWD.out] at o11
            have HH : Hid (PutSt w v11 (hd ++ (F.take (j + 1)).flatMap (fieldB V)) w11 ∧ Blk w11 x6 69 (optL V).toArray ∧ RS (layPl x6) w11 (some ⟨bA, oA, none⟩) d8 F) := Lib.hid ⟨⟨HA10.out.1.trans f11, by rw [HNX.out]; exact o11.lower HA10.out.1.size⟩, HB10.out.fine f11, HC10.out.fine f11⟩
            clear o11
            go_wp2_with fail
            exact ⟨⟨j + 1, hjl, by simp, HH⟩, by simp only [intOf]; omega⟩
          · have hje : j = F.length := by omega
            subst hje
            have hRe := hR.out.1
            rw [List.take_length] at hRe
            have HH : Hid (PutSt w u4 ((l.take (i + 1)).flatMap optB) wr ∧ ∀ V ∈ l.take (i + 1), rightF V = true) := by
              refine Lib.hid ⟨?_, fun U hU => ?_⟩
              · rw [List.take_add_one, HV0.out, List.flatMap_append, HPRE.out]
                simp only [Option.toList_some, List.flatMap_cons, List.flatMap_nil, List.append_nil]
                rw [HOB.out, ← List.append_assoc, HHD.out]
                exact hRe
              · rw [List.take_add_one, HV0.out] at hU
                rcases List.mem_append.1 hU with hU | hU
                · exact hRr.out U hU
                · simp at hU
                  subst hU
                  exact HRT.out
            clear hRe hR HI
            go_wp2_with fail
            exact ⟨⟨i + 1, hlt, by simp, HH⟩, by simp only [intOf]; omega⟩
      · have hr' : rightF V = false := by simpa using hr
        have fw6 := HR6.out.1
        have HE : Hid (∃ V ∈ l, rightF V = false) := Lib.hid ⟨V, hVm, hr'⟩
        rw [hr']
        go_wp2_with fail
        go_ret2
        exact ⟨fw6, .inr ⟨HE.out, rfl⟩⟩
    · have hie : i = l.length := by omega
      subst hie
      have hRe := hR.out
      rw [List.take_length] at hRe
      obtain ⟨A1, d1, rfl, hbs⟩ := hRe.1.form
      have HE := Lib.hid hRe; clear hR hRe hbs
      go_wp2_with fail
      go_ret2
      exact ⟨HE.out.1.1, .inl ⟨_, HE.out.2, rfl, HE.out.1.2⟩⟩
end Go.Proofs.YthnennleblgjeaaDoor
