/- The laws of option: the example; of any options the first one of a kind is found. -/
import Derived.Test.YthnennleblgjeaaOpt6
namespace Go.Proofs.Ythnennleblgjeaa
open Go.ChangeShapes Go.WideShapes Go.ChangeAt Go.RowKit
set_option linter.unusedVariables false
def prioV : Nat → Int := fun k => if k = 0 then 8 else if k = 7 then 1 else 0
theorem prio_right : rightF prioV = true := by kernel_rfl
theorem prio_bytes : [prioV].flatMap optB = [8, 1] := by kernel_rfl
theorem prio_ok : OkV prioV := by
  intro j hj
  match j, hj with
  | 0, _ | 5, _ | 6, _ | 9, _ | 11, _ | 12, _ => (show _ ∧ _); decide
  | 1, _ | 2, _ | 3, _ | 4, _ => (show _ ∧ _); decide
  | 7, _ => exact .inr rfl
  | 8, _ | 10, _ | 13, _ => exact .inl rfl
set_option maxHeartbeats 2000000 in
set_option maxRecDepth 50000 in
theorem optWakes_any (w : World) : Calls Try.prog 34 #[] w fun r w' => r = .returned (.bool true) ∧ Fine w w' := by
  go_enter Try.func34, Try.ntmps34
  go_wp2_with fail
  have f1 : Fine w (w.alloc (.cells #[.int .i64 8, .int .u64 0, .int .u64 0, .int .u32 0, .int .u32 0, .int .i64 0, .int .i64 0, .bool true, .bool false, .int .i64 0, .bool false, .int .i64 0, .int .i64 0, .bool false] 56)) := (Fine.refl w).alloc _
  have hr : RS layO (w.alloc (.cells #[.int .i64 8, .int .u64 0, .int .u64 0, .int .u32 0, .int .u32 0, .int .i64 0, .int .i64 0, .bool true, .bool false, .int .i64 0, .bool false, .int .i64 0, .int .i64 0, .bool false] 56)) (some ⟨w.heap.size, 0, none⟩) 1 [prioV] := RS.ofBlk (Blk.new w 56 _) (by kernel_rfl) rfl (by unfold maxLen; omega)
  refine (optPut_any _ 1 [prioV] (by simp) (fun V hv => by simp at hv; subst hv; exact prio_ok) _ hr).mono ?_
  rintro x w2 ⟨f2, ⟨v, h1, rfl, h2⟩ | ⟨⟨V, h1, h3⟩, rfl⟩⟩
  · rw [prio_bytes] at h2
    obtain ⟨A, c, rfl, hb, _⟩ := h2.form
    have f12 := f1.trans f2
    clear hr h1 h2 f1 f2
    have hbB : BS (w2.alloc (.cells #[.int .u8 8, .int .u8 1] 5)) (some ⟨w2.heap.size, 0, none⟩) 2 [8, 1] := ⟨fun x hx => by simp at hx; omega, by simp [cellB], by unfold maxLen; omega, (fun e => by cases e), fun _ => ⟨w2.heap.size, 0, rfl, by simp, fun i v hv => by rw [Nat.zero_add, (Blk.new w2 5 _).cell i, ← Array.getElem?_toList]; exact hv⟩⟩
    have HB := Lib.hid hb; clear hb
    have HB2 := Lib.hid hbB; clear hbB
    go_wp2_with fail
    refine (same_any A _ c 2 [8, 1] [8, 1] _ (HB.out.fine ((Fine.refl w2).alloc _)) HB2.out (by simp)).mono ?_
    rintro x w3 ⟨rfl, f3⟩
    go_wp2_with fail
    go_ret
    exact ⟨by simp, (f12.alloc _).trans f3⟩
  · simp at h1
    subst h1
    rw [prio_right] at h3
    cases h3
/-- Where the first one of a kind is. -/
def firstOf (k : Int) : List (Nat → Int) → Option Nat
  | [] => none
  | V :: l => if V 0 = k then some 0 else (firstOf k l).map (· + 1)
theorem firstOf_some {k : Int} : ∀ {l : List (Nat → Int)} {i : Nat} {V : Nat → Int}, l[i]? = some V → V 0 = k → (∀ U ∈ l.take i, U 0 ≠ k) → firstOf k l = some i
  | [], i, V, h, _, _ => by simp at h
  | U :: l, 0, V, h, hk, _ => by
    simp at h; subst h
    unfold firstOf
    rw [if_pos hk]
  | U :: l, i + 1, V, h, hk, hn => by
    unfold firstOf
    rw [if_neg (hn U (by simp)), firstOf_some (l := l) (i := i) (by simpa using h) hk (fun W hW => hn W (by simp [hW]))]
    rfl
theorem firstOf_none {k : Int} : ∀ {l : List (Nat → Int)}, (∀ U ∈ l, U 0 ≠ k) → firstOf k l = none
  | [], _ => rfl
  | U :: l, h => by
    unfold firstOf
    rw [if_neg (h U (by simp)), firstOf_none (fun W hW => h W (by simp [hW]))]
    rfl
def idxOf (k : Int) (l : List (Nat → Int)) : Int := match firstOf k l with | some i => (i : Int) | none => -1
theorem find1_any (V : Nat → Int) (k : Int) (b : Nat) (w : World) (hk : w.cell? ⟨b, 0, none⟩ = some (.int .i64 k)) :
    Calls Try.prog 47 #[.agg (optL V).toArray, .pointer (some ⟨b, 0, none⟩)] w fun r w' => r = .returned (.bool (V 0 == k)) ∧ Fine w w' := by
  have hk2 : ∀ o, (w.alloc o).cell? ⟨b, 0, none⟩ = some (.int .i64 k) := fun o => (World.cell?_alloc_some w _ o (by rw [hk]; rfl)).trans hk
  go_enter Try.func47, Try.ntmps47
  go_wp2_with fail
  go_ret
  exact ⟨rfl, (by repeat (first | exact Fine.refl _ | assumption | refine Fine.alloc ?_ _ | refine Fine.drew ?_ | refine Fine.drewN ?_ _ | refine Fine.trans ?_ (by assumption) | (refine Fine.kept ?_ (by assumption) (by intro x hx; first | omega | (simp; omega))) | (refine Fine.setCell ?_ (by first | assumption | (simp; done) | (simp; omega)) _)))⟩
set_option maxHeartbeats 2000000 in
set_option maxRecDepth 50000 in
theorem indexFunc_any (A : Option Addr) (c : Nat) (l : List (Nat → Int)) (hl : l.length ≤ 1000) (k : Int) (b0 : Nat) (w : World) (h : RS layO w A c l) (hk : w.cell? ⟨b0, 0, none⟩ = some (.int .i64 k)) (hb0 : b0 < w.heap.size) :
    Calls Try.prog 46 #[.slice A l.length c, .func (.func 47) #[] #[.pointer (some ⟨b0, 0, none⟩)]] w fun r w' => r = .returned (.int .i64 (idxOf k l)) ∧ Fine w w' := by
  have H := Lib.hid h; clear h
  have HK := Lib.hid hk; clear hk
  go_enter Try.func46, Try.ntmps46
  go_wp2_with fail
  go_loopw [8] (fun s8 wr => ∃ i : Nat, i ≤ l.length ∧ s8 = .int .i64 i ∧ Hid (Fine w wr ∧ ∀ U ∈ l.take i, U 0 ≠ k)) (fun s8 _ => l.length - (intOf s8).toNat)
  case atStart => exact ⟨0, Nat.zero_le _, rfl, Lib.hid ⟨Fine.refl w, fun U hU => by simp at hU⟩⟩
  case round =>
    obtain ⟨i, hi, rfl, hR⟩ := hrel
    by_cases hlt : i < l.length
    · obtain ⟨V, hV0⟩ : ∃ V, l[i]? = some V := ⟨l[i], List.getElem?_eq_getElem hlt⟩
      obtain ⟨b, o, rfl, hb, hc⟩ := (H.out.fine hR.out.1).at_ hV0
      have c0 := hc 0 (.int .i64 (V 0)) rfl
      have c1 := hc 1 (.int .u64 (V 1)) rfl
      have c2 := hc 2 (.int .u64 (V 2)) rfl
      have c3 := hc 3 (.int .u32 (V 3)) rfl
      have c4 := hc 4 (.int .u32 (V 4)) rfl
      have c5 := hc 5 (.int .i64 (V 5)) rfl
      have c6 := hc 6 (.int .i64 (V 6)) rfl
      have c7 := hc 7 (.bool (decide (V 7 = 1))) rfl
      have c8 := hc 8 (.bool (decide (V 8 = 1))) rfl
      have c9 := hc 9 (.int .i64 (V 9)) rfl
      have c10 := hc 10 (.bool (decide (V 10 = 1))) rfl
      have c11 := hc 11 (.int .i64 (V 11)) rfl
      have c12 := hc 12 (.int .i64 (V 12)) rfl
      have c13 := hc 13 (.bool (decide (V 13 = 1))) rfl
      have HV0 := Lib.hid hV0
      clear hc hV0
      simp only [← Nat.add_assoc, Nat.add_zero] at c0 c1 c2 c3 c4 c5 c6 c7 c8 c9 c10 c11 c12 c13
      have hkr : wr.cell? ⟨b0, 0, none⟩ = some (.int .i64 k) := ((Kept.of_fine (S := fun _ => False) hR.out.1).cell hb0 id).trans HK.out
      go_wp2_with fail
      have HR := Lib.hid hR.out; clear hR
      refine (find1_any V k b0 wr hkr).mono ?_
      rintro x w2 ⟨rfl, f2⟩
      clear c0 c1 c2 c3 c4 c5 c6 c7 c8 c9 c10 c11 c12 c13 hkr
      by_cases e : V 0 = k
      · have hf := firstOf_some HV0.out e HR.out.2
        have HF := Lib.hid hf; clear hf
        rw [show (V 0 == k) = true from by simp [e]]
        clear e
        have fw := HR.out.1.trans f2
        go_wp2_with fail
        go_ret
        exact ⟨by unfold idxOf; rw [HF.out]; rfl, fw⟩
      · have HN : Hid (Fine w w2 ∧ ∀ U ∈ l.take (i + 1), U 0 ≠ k) := Lib.hid ⟨HR.out.1.trans f2, fun U hU => by
          rw [List.take_add_one, HV0.out] at hU
          rcases List.mem_append.1 hU with hU | hU
          · exact HR.out.2 U hU
          · simp at hU; subst hU; exact e⟩
        rw [show (V 0 == k) = false from by simp [e]]
        clear e
        go_wp2_with fail
        exact ⟨⟨i + 1, hlt, by simp, HN⟩, by simp only [intOf]; omega⟩
    · have hie : i = l.length := by omega
      subst hie
      have hn := firstOf_none (fun U hU => hR.out.2 U (by rw [List.take_length]; exact hU))
      have HN := Lib.hid hn; clear hn
      have fw := hR.out.1
      go_wp2_with fail
      go_ret
      exact ⟨by unfold idxOf; rw [HN.out]; rfl, fw⟩
end Go.Proofs.Ythnennleblgjeaa
