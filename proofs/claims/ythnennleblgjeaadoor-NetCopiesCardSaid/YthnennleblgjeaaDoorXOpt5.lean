/- The laws of option: whether an option is right. -/
import Derived.Test.YthnennleblgjeaaDoorXOpt4
namespace Go.Proofs.YthnennleblgjeaaDoor
set_option linter.unusedVariables false
set_option linter.unusedSimpArgs false
open Go.ChangeShapes Go.WideShapes Go.ChangeAt Go.RowKit
set_option linter.unusedVariables false
theorem fieldsOf_ok (k : Int) : ∀ p ∈ fieldsOf k, 0 < p.1 ∧ p.1 < 14 ∧ (fk p.1 = .n → p.2 = 1 ∨ p.2 = 4) ∧ (p.2 = 1 ∨ p.2 = 4 ∨ p.2 = 8) := by
  unfold fieldsOf
  split <;> intro p hp <;> simp at hp
  all_goals first
    | (subst hp; simp [fk])
    | (rcases hp with rfl | rfl <;> simp [fk])
    | (rcases hp with rfl | rfl | rfl | rfl <;> simp [fk])
    | (rcases hp with rfl | rfl | rfl | rfl | rfl | rfl <;> simp [fk])
theorem fieldsOf_len (k : Int) : (fieldsOf k).length ≤ 6 := by
  unfold fieldsOf
  split <;> simp
/-- What a kind's fields are of an option; all else is nothing. -/
def ownV (F : List (Nat × Nat)) (V : Nat → Int) : Nat → Int := fun k => if k = 0 ∨ k ∈ F.map (·.1) then V k else 0
theorem ownV_snoc (F : List (Nat × Nat)) (V : Nat → Int) (p : Nat × Nat) : upd (ownV F V) p.1 (V p.1) = ownV (F ++ [p]) V := by
  funext k
  unfold upd ownV
  by_cases h : k = p.1
  · subst h; simp
  · have e : k ∈ (F ++ [p]).map (·.1) ↔ k ∈ F.map (·.1) := by
      rw [List.map_append, List.mem_append]
      exact ⟨fun hh => hh.resolve_right (fun hx => h (List.mem_singleton.1 hx)), .inl⟩
    rw [if_neg h]
    simp only [e]
def rightF (V : Nat → Int) : Bool :=
  (fieldsOf (V 0)).all (fun p => fitsF (fk p.1) p.2 (V p.1)) && (decide (0 < (fieldsOf (V 0)).length) && (optEq (ownV (fieldsOf (V 0)) V) V && (decide (V 5 < 4) && (decide (V 0 ≠ 5) || dataB (decide (V 8 = 1)) (V 9) (decide (V 10 = 1)) (V 11) (V 12) (decide (V 13 = 1))))))
def RSt (V : Nat → Int) (F : List (Nat × Nat)) (w0 : World) (x1 x4 : Nat) (A : Option Addr) (c : Nat) (A' : Option Addr) (c' : Nat) (i : Nat) (wr : World) : Prop :=
  Fine w0 wr ∧ Blk wr x1 69 (optL V).toArray ∧ Blk wr x4 69 (optL (ownV (F.take i) V)).toArray ∧ RS (layPl x1) wr A c F ∧ RS (layPl x4) wr A' c' F ∧
    (∀ b o, A = some ⟨b, o, none⟩ → ∃ cs, Blk wr b 96 cs) ∧ (∀ b o, A' = some ⟨b, o, none⟩ → ∃ cs, Blk wr b 96 cs) ∧ ∀ p ∈ F.take i, fitsF (fk p.1) p.2 (V p.1) = true
theorem RSt.fine {V : Nat → Int} {F : List (Nat × Nat)} {w0 : World} {x1 x4 : Nat} {A : Option Addr} {c : Nat} {A' : Option Addr} {c' i : Nat} {wr w' : World} (h : RSt V F w0 x1 x4 A c A' c' i wr) (f : Fine wr w') : RSt V F w0 x1 x4 A c A' c' i w' := by
  obtain ⟨h1, h2, h3, h4, h5, h6, h7, h8⟩ := h
  exact ⟨h1.trans f, h2.fine f, h3.fine f, h4.fine f, h5.fine f, fun b o e => by obtain ⟨cs, hb⟩ := h6 b o e; exact ⟨cs, hb.fine f⟩, fun b o e => by obtain ⟨cs, hb⟩ := h7 b o e; exact ⟨cs, hb.fine f⟩, h8⟩
theorem RSt.next {V : Nat → Int} {F : List (Nat × Nat)} {w0 : World} {x1 x4 : Nat} {A : Option Addr} {c : Nat} {A' : Option Addr} {c' i : Nat} {wr w' : World} {p : Nat × Nat} {y : Int} (h : RSt V F w0 x1 x4 A c A' c' i wr) (hx : x1 ≠ x4) (h0 : w0.heap.size ≤ x4) (hp : F[i]? = some p)
    (hV : okF (fk p.1) (V p.1)) (hf : fitsF (fk p.1) p.2 (V p.1) = true) (hy : y = V p.1) (hb : Blk w' x4 69 (optL (upd (ownV (F.take i) V) p.1 (setV (fk p.1) y))).toArray) (hk : Kept (fun x => x = x4) wr w') : RSt V F w0 x1 x4 A c A' c' (i + 1) w' := by
  obtain ⟨h1, h2, h3, h4, h5, h6, h7, h8⟩ := h
  subst hy
  rw [(setV_id hV hf).1, ownV_snoc] at hb
  have ht : F.take (i + 1) = F.take i ++ [p] := by rw [List.take_add_one, hp]; rfl
  refine ⟨h1.kept hk (fun x hx' e => by omega), h2.kept hk hx, by rw [ht]; exact hb, h4.kept hk (fun b o e e2 => ?_), h5.kept hk (fun b o e e2 => ?_), fun b o e => ?_, fun b o e => ?_, fun q hq => ?_⟩
  · obtain ⟨cs, hb'⟩ := h6 b o e
    exact hb'.ne_ h3 (by decide) e2
  · obtain ⟨cs, hb'⟩ := h7 b o e
    exact hb'.ne_ h3 (by decide) e2
  · obtain ⟨cs, hb'⟩ := h6 b o e
    exact ⟨cs, hb'.kept hk (hb'.ne_ h3 (by decide))⟩
  · obtain ⟨cs, hb'⟩ := h7 b o e
    exact ⟨cs, hb'.kept hk (hb'.ne_ h3 (by decide))⟩
  · rw [ht] at hq
    rcases List.mem_append.1 hq with hq | hq
    · exact h8 q hq
    · obtain rfl := List.mem_singleton.1 hq
      exact hf
/-- Two options' cells are alike. -/
def eqB (a0 c0 : Int) (a1 c1 : Int) (a2 c2 : Int) (a3 c3 : Int) (a4 c4 : Int) (a5 c5 : Int) (a6 c6 : Int) (a7 c7 : Bool) (a8 c8 : Bool) (a9 c9 : Int) (a10 c10 : Bool) (a11 c11 : Int) (a12 c12 : Int) (a13 c13 : Bool) : Bool := (a0 == c0 && (a1 == c1 && (a2 == c2 && (a3 == c3 && (a4 == c4 && (a5 == c5 && (a6 == c6 && (a7 == c7 && (a8 == c8 && (a9 == c9 && (a10 == c10 && (a11 == c11 && (a12 == c12 && (a13 == c13))))))))))))))
theorem eq56b (a0 c0 : Int) (a1 c1 : Int) (a2 c2 : Int) (a3 c3 : Int) (a4 c4 : Int) (a5 c5 : Int) (a6 c6 : Int) (a7 c7 : Bool) (a8 c8 : Bool) (a9 c9 : Int) (a10 c10 : Bool) (a11 c11 : Int) (a12 c12 : Int) (a13 c13 : Bool) (w : World) : (Op.equalIn 10000 69 (.agg #[.int .i64 a0, .int .u64 a1, .int .u64 a2, .int .u32 a3, .int .u32 a4, .int .i64 a5, .int .i64 a6, .bool a7, .bool a8, .int .i64 a9, .bool a10, .int .i64 a11, .int .i64 a12, .bool a13]) (.agg #[.int .i64 c0, .int .u64 c1, .int .u64 c2, .int .u32 c3, .int .u32 c4, .int .i64 c5, .int .i64 c6, .bool c7, .bool c8, .int .i64 c9, .bool c10, .int .i64 c11, .int .i64 c12, .bool c13])).run Tryd.prog w = .ok (eqB a0 c0 a1 c1 a2 c2 a3 c3 a4 c4 a5 c5 a6 c6 a7 c7 a8 c8 a9 c9 a10 c10 a11 c11 a12 c12 a13 c13) w := eq56 _ _ _ _ _ _ _ _ _ _ _ _ _ _ _ _ _ _ _ _ _ _ _ _ _ _ _ _ w
attribute [local go_sem ↓ high] eq56b
set_option maxHeartbeats 4000000 in
set_option maxRecDepth 100000 in
theorem right_any (V : Nat → Int) (hV : OkV V) (w : World) : Calls Tryd.prog 49 #[.agg (optL V).toArray] w fun r w' => r = .returned (.bool (rightF V)) ∧ Fine w w' := by
  have hlen := fieldsOf_len (V 0)
  have hok := fieldsOf_ok (V 0)
  obtain ⟨F, hF⟩ : ∃ F, fieldsOf (V 0) = F := ⟨_, rfl⟩
  have HP := Lib.hid (fun b w' hc hb => places_any b (V 0) w' hc hb)
  unfold rightF
  rw [hF] at HP hlen hok ⊢
  go_enter Tryd.func49, Tryd.ntmps49
  go_wp2_with fail
  have b1 : Blk (w.alloc (.cells (optL V).toArray 69)) w.heap.size 69 (optL V).toArray := Blk.new w 69 _
  have f0 : Fine w (w.alloc (.cells (optL V).toArray 69)) := (Fine.refl w).alloc _
  obtain ⟨x1, hx1⟩ : ∃ x1, w.heap.size = x1 := ⟨_, rfl⟩
  generalize (w.alloc (.cells (optL V).toArray 69)) = w1 at b1 f0 ⊢
  rw [hx1] at b1 ⊢
  refine (HP.out x1 w1 (b1.cell 0) b1.lt).mono ?_
  rintro x w2 ⟨A, c, rfl, r2, ty2, f2⟩
  have b2 := b1.fine f2
  have e0 : w2.cell? ⟨x1, 0, none⟩ = some (.int .i64 (V 0)) := b2.cell 0
  go_wp2_with fail
  have b3 : Blk (w2.alloc (.cells #[.int .i64 (V 0), .int .u64 0, .int .u64 0, .int .u32 0, .int .u32 0, .int .i64 0, .int .i64 0, .bool false, .bool false, .int .i64 0, .bool false, .int .i64 0, .int .i64 0, .bool false] 69)) w2.heap.size 69 (optL (ownV [] V)).toArray := (Blk.new w2 69 _).cast (by simp [ownV])
  have f3 : Fine w2 (w2.alloc (.cells #[.int .i64 (V 0), .int .u64 0, .int .u64 0, .int .u32 0, .int .u32 0, .int .i64 0, .int .i64 0, .bool false, .bool false, .int .i64 0, .bool false, .int .i64 0, .int .i64 0, .bool false] 69)) := (Fine.refl w2).alloc _
  have h12 := b2.lt
  have s2 := (f0.trans f2).size
  obtain ⟨x4, hx4⟩ : ∃ x4, w2.heap.size = x4 := ⟨_, rfl⟩
  generalize (w2.alloc (.cells #[.int .i64 (V 0), .int .u64 0, .int .u64 0, .int .u32 0, .int .u32 0, .int .i64 0, .int .i64 0, .bool false, .bool false, .int .i64 0, .bool false, .int .i64 0, .int .i64 0, .bool false] 69)) = w3 at b3 f3 ⊢
  rw [hx4] at b3 ⊢
  refine (HP.out x4 w3 (b3.cell 0) b3.lt).mono ?_
  rintro x w4 ⟨A', c', rfl, r4, ty4, f4⟩
  have HS : Hid (RSt V F w x1 x4 A c A' c' 0 w4) := Lib.hid ⟨((f0.trans f2).trans f3).trans f4, (b2.fine f3).fine f4, b3.fine f4, (r2.fine f3).fine f4, r4, fun b o e => by obtain ⟨cs, hb⟩ := ty2 b o e; exact ⟨cs, (hb.fine f3).fine f4⟩, ty4, fun p hp => by simp at hp⟩
  have hx14 : x1 ≠ x4 := by omega
  have hwx4 : w.heap.size ≤ x4 := by omega
  have hx4' : x4 < w4.heap.size := (b3.fine f4).lt
  clear r2 ty2 r4 ty4 b1 b2 b3 e0 f0 f2 f3 f4 HP
  go_wp2_with fail
  go_loopw [15] (fun s15 wr => ∃ i : Nat, i ≤ F.length ∧ s15 = .int .i64 i ∧ Hid (RSt V F w x1 x4 A c A' c' i wr)) (fun s15 _ => F.length - (intOf s15).toNat)
  case atStart => exact ⟨0, Nat.zero_le _, rfl, HS⟩
  case round =>
    obtain ⟨i, hi, rfl, hR⟩ := hrel
    by_cases hlt : i < F.length
    · obtain ⟨p, hp0⟩ : ∃ p, F[i]? = some p := ⟨F[i], List.getElem?_eq_getElem hlt⟩
      have hpk := hok p (List.mem_of_getElem? hp0)
      obtain ⟨v0, v1, v2, v3, hv⟩ : ∃ v0 v1 v2 v3, placeL x4 p = [.pointer v0, .pointer v1, .pointer v2, .pointer v3, .int .i64 p.2] := by unfold placeL; split <;> exact ⟨_, _, _, _, rfl⟩
      obtain ⟨z0, z1, z2, z3, hz⟩ : ∃ z0 z1 z2 z3, placeL x1 p = [.pointer z0, .pointer z1, .pointer z2, .pointer z3, .int .i64 p.2] := by unfold placeL; split <;> exact ⟨_, _, _, _, rfl⟩
      obtain ⟨bA, oA, rfl, hbA, hcA⟩ := hR.out.2.2.2.1.at_ hp0
      obtain ⟨bB, oB, rfl, hbB, hcB⟩ := hR.out.2.2.2.2.1.at_ hp0
      have q0 := hcA 0 (.pointer z0) (by show (placeL x1 p)[0]? = _; rw [hz]; rfl)
      have q1 := hcA 1 (.pointer z1) (by show (placeL x1 p)[1]? = _; rw [hz]; rfl)
      have q2 := hcA 2 (.pointer z2) (by show (placeL x1 p)[2]? = _; rw [hz]; rfl)
      have q3 := hcA 3 (.pointer z3) (by show (placeL x1 p)[3]? = _; rw [hz]; rfl)
      have q4 := hcA 4 (.int .i64 p.2) (by show (placeL x1 p)[4]? = _; rw [hz]; rfl)
      have d0 := hcB 0 (.pointer v0) (by show (placeL x4 p)[0]? = _; rw [hv]; rfl)
      have d1 := hcB 1 (.pointer v1) (by show (placeL x4 p)[1]? = _; rw [hv]; rfl)
      have d2 := hcB 2 (.pointer v2) (by show (placeL x4 p)[2]? = _; rw [hv]; rfl)
      have d3 := hcB 3 (.pointer v3) (by show (placeL x4 p)[3]? = _; rw [hv]; rfl)
      have d4 := hcB 4 (.int .i64 p.2) (by show (placeL x4 p)[4]? = _; rw [hv]; rfl)
      clear hcA hcB
      simp only [← Nat.add_assoc, Nat.add_zero] at q0 q1 q2 q3 q4 d0 d1 d2 d3 d4
      go_wp2_with fail
      have hRa : Hid (RSt V F w x1 x4 (some ⟨bA, oA, none⟩) c (some ⟨bB, oB, none⟩) c'  i (wr.alloc (.cells #[.pointer v0, .pointer v1, .pointer v2, .pointer v3, .int .i64 p.2] 96))) := Lib.hid (hR.out.fine ((Fine.refl wr).alloc _))
      have b6 : Blk (wr.alloc (.cells #[.pointer v0, .pointer v1, .pointer v2, .pointer v3, .int .i64 p.2] 96)) wr.heap.size 96 #[.pointer v0, .pointer v1, .pointer v2, .pointer v3, .int .i64 p.2] := Blk.new wr 96 _
      have hN := placeNum_any x1 p.1 p.2 V (hV p.1 hpk.2.1) hpk.2.1 hpk.2.2.1 _ hRa.out.2.1
      rw [show placeL x1 (p.1, p.2) = _ from hz] at hN
      have HS6 : Hid (∀ w' y, 0 ≤ y ∧ y < 18446744073709551616 → Blk w' x4 69 (optL (ownV (F.take i) V)).toArray → Calls Tryd.prog 63 #[.agg #[.pointer v0, .pointer v1, .pointer v2, .pointer v3, .int .i64 p.2], .int .u64 y] w' (SetOf x4 (ownV (F.take i) V) p.1 y w')) := Lib.hid (fun w' y hy hb => by
        have := set_any x4 p.1 p.2 (ownV (F.take i) V) y hy hpk.2.1 w' hb
        rw [show placeL x4 (p.1, p.2) = _ from hv] at this
        exact this)
      clear q0 q1 q2 q3 q4 d0 d1 d2 d3 d4 hR
      obtain ⟨x6, hx6⟩ : ∃ x6, wr.heap.size = x6 := ⟨_, rfl⟩
      generalize (wr.alloc (.cells #[.pointer v0, .pointer v1, .pointer v2, .pointer v3, .int .i64 p.2] 96)) = w5 at hRa b6 hN ⊢
      rw [hx6] at b6 ⊢
      refine hN.mono ?_
      rintro x w6 ⟨y, rfl, hy, f6⟩
      have b6' := b6.fine f6
      have j0 : w6.cell? ⟨x6, 0, none⟩ = some (.pointer v0) := b6'.cell 0
      have j1 : w6.cell? ⟨x6, 1, none⟩ = some (.pointer v1) := b6'.cell 1
      have j2 : w6.cell? ⟨x6, 2, none⟩ = some (.pointer v2) := b6'.cell 2
      have j3 : w6.cell? ⟨x6, 3, none⟩ = some (.pointer v3) := b6'.cell 3
      have j4 : w6.cell? ⟨x6, 4, none⟩ = some (.int .i64 p.2) := b6'.cell 4
      have hR6 := Lib.hid (hRa.out.fine f6)
      clear b6 b6' hN hRa HS hx6
      by_cases hfit : fitsF (fk p.1) p.2 (V p.1) = true
      · rw [hfit]
        obtain ⟨rfl, e2, e3⟩ := hy hfit
        go_wp2_with fail
        refine (HS6.out w6 _ ⟨e2, e3⟩ hR6.out.2.2.1).mono ?_
        rintro x w7 ⟨rfl, hb7, hk7⟩
        have HR7 := Lib.hid (hR6.out.next hx14 hwx4 hp0 (hV p.1 hpk.2.1) hfit rfl hb7 hk7)
        go_wp2_with fail
        exact ⟨⟨i + 1, hlt, by simp, HR7⟩, by simp only [intOf]; omega⟩
      · have hfit' : fitsF (fk p.1) p.2 (V p.1) = false := by simpa using hfit
        have hall : F.all (fun p => fitsF (fk p.1) p.2 (V p.1)) = false := by
          rw [List.all_eq_false]
          exact ⟨p, List.mem_of_getElem? hp0, hfit⟩
        have fw6 := hR6.out.1
        rw [hfit']
        go_wp2_with fail
        go_ret
        exact ⟨by rw [hall]; rfl, fw6⟩
    · have hie : i = F.length := by omega
      subst hie
      have hRe := hR.out
      have hall : F.all (fun p => fitsF (fk p.1) p.2 (V p.1)) = true := by
        rw [List.all_eq_true]
        intro p hp
        exact hRe.2.2.2.2.2.2.2 p (by rw [List.take_length]; exact hp)
      have b1 := hRe.2.1
      have b4 := hRe.2.2.1
      rw [List.take_length] at b4
      have fwr := hRe.1
      obtain ⟨U, hU⟩ : ∃ U, ownV F V = U := ⟨_, rfl⟩
      rw [hU] at b4
      obtain ⟨q, hq⟩ : ∃ q, optEq U V = q := ⟨_, rfl⟩
      have E : eqB (U 0) (V 0) (U 1) (V 1) (U 2) (V 2) (U 3) (V 3) (U 4) (V 4) (U 5) (V 5) (U 6) (V 6) (decide (U 7 = 1)) (decide (V 7 = 1)) (decide (U 8 = 1)) (decide (V 8 = 1)) (U 9) (V 9) (decide (U 10 = 1)) (decide (V 10 = 1)) (U 11) (V 11) (U 12) (V 12) (decide (U 13 = 1)) (decide (V 13 = 1)) = q := hq
      have c0 : wr.cell? ⟨x1, 0, none⟩ = some (.int .i64 (V 0)) := b1.cell 0
      have o0 : wr.cell? ⟨x4, 0, none⟩ = some (.int .i64 (U 0)) := b4.cell 0
      have c1 : wr.cell? ⟨x1, 1, none⟩ = some (.int .u64 (V 1)) := b1.cell 1
      have o1 : wr.cell? ⟨x4, 1, none⟩ = some (.int .u64 (U 1)) := b4.cell 1
      have c2 : wr.cell? ⟨x1, 2, none⟩ = some (.int .u64 (V 2)) := b1.cell 2
      have o2 : wr.cell? ⟨x4, 2, none⟩ = some (.int .u64 (U 2)) := b4.cell 2
      have c3 : wr.cell? ⟨x1, 3, none⟩ = some (.int .u32 (V 3)) := b1.cell 3
      have o3 : wr.cell? ⟨x4, 3, none⟩ = some (.int .u32 (U 3)) := b4.cell 3
      have c4 : wr.cell? ⟨x1, 4, none⟩ = some (.int .u32 (V 4)) := b1.cell 4
      have o4 : wr.cell? ⟨x4, 4, none⟩ = some (.int .u32 (U 4)) := b4.cell 4
      have c5 : wr.cell? ⟨x1, 5, none⟩ = some (.int .i64 (V 5)) := b1.cell 5
      have o5 : wr.cell? ⟨x4, 5, none⟩ = some (.int .i64 (U 5)) := b4.cell 5
      have c6 : wr.cell? ⟨x1, 6, none⟩ = some (.int .i64 (V 6)) := b1.cell 6
      have o6 : wr.cell? ⟨x4, 6, none⟩ = some (.int .i64 (U 6)) := b4.cell 6
      have c7 : wr.cell? ⟨x1, 7, none⟩ = some (.bool (decide (V 7 = 1))) := b1.cell 7
      have o7 : wr.cell? ⟨x4, 7, none⟩ = some (.bool (decide (U 7 = 1))) := b4.cell 7
      have c8 : wr.cell? ⟨x1, 8, none⟩ = some (.bool (decide (V 8 = 1))) := b1.cell 8
      have o8 : wr.cell? ⟨x4, 8, none⟩ = some (.bool (decide (U 8 = 1))) := b4.cell 8
      have c9 : wr.cell? ⟨x1, 9, none⟩ = some (.int .i64 (V 9)) := b1.cell 9
      have o9 : wr.cell? ⟨x4, 9, none⟩ = some (.int .i64 (U 9)) := b4.cell 9
      have c10 : wr.cell? ⟨x1, 10, none⟩ = some (.bool (decide (V 10 = 1))) := b1.cell 10
      have o10 : wr.cell? ⟨x4, 10, none⟩ = some (.bool (decide (U 10 = 1))) := b4.cell 10
      have c11 : wr.cell? ⟨x1, 11, none⟩ = some (.int .i64 (V 11)) := b1.cell 11
      have o11 : wr.cell? ⟨x4, 11, none⟩ = some (.int .i64 (U 11)) := b4.cell 11
      have c12 : wr.cell? ⟨x1, 12, none⟩ = some (.int .i64 (V 12)) := b1.cell 12
      have o12 : wr.cell? ⟨x4, 12, none⟩ = some (.int .i64 (U 12)) := b4.cell 12
      have c13 : wr.cell? ⟨x1, 13, none⟩ = some (.bool (decide (V 13 = 1))) := b1.cell 13
      have o13 : wr.cell? ⟨x4, 13, none⟩ = some (.bool (decide (U 13 = 1))) := b4.cell 13
      have HA := Lib.hid hall
      have HO : Hid (optEq (ownV F V) V = q) := Lib.hid (by rw [hU, hq])
      clear hR HS hRe b1 b4 hU hq hV hok hall
      by_cases g1 : 0 < F.length
      · cases q
        · go_wp2_with fail
          go_ret
          exact ⟨by simp [HA.out, HO.out], fwr⟩
        · by_cases g2 : V 5 < 4
          · by_cases g3 : V 0 = 5
            · have g3' : (V 0 != 5) = false := by simp [g3]
              have G3 := Lib.hid g3; clear g3
              go_wp2_with fail
              have hD := data_any V wr
              obtain ⟨z, hz⟩ : ∃ z, dataB (decide (V 8 = 1)) (V 9) (decide (V 10 = 1)) (V 11) (V 12) (decide (V 13 = 1)) = z := ⟨_, rfl⟩
              rw [hz] at hD
              have HZ := Lib.hid hz; clear hz
              refine hD.mono ?_
              rintro x wd ⟨rfl, fd⟩
              clear hD
              go_wp2_with fail
              go_ret
              exact ⟨by simp [HA.out, HO.out, g1, g2, G3.out, HZ.out], fwr.trans fd⟩
            · have g3' : (V 0 != 5) = true := by simp [g3]
              have G3 := Lib.hid g3; clear g3
              go_wp2_with fail
              go_ret
              exact ⟨by simp [HA.out, HO.out, g1, g2, G3.out], fwr⟩
          · have G2 := Lib.hid g2
            go_wp2_with fail
            go_ret
            exact ⟨by simp [HA.out, HO.out]; intro h; exfalso; have := G2.out; omega, fwr⟩
      · go_wp2_with fail
        go_ret
        exact ⟨by simp [HA.out, HO.out, g1], fwr⟩
end Go.Proofs.YthnennleblgjeaaDoor
