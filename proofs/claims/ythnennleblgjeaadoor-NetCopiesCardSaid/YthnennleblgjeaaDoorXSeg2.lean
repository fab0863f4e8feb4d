/- Contracts: slices.Equal, segment.Same, the reference's Same, Reply. -/
import Derived.Test.YthnennleblgjeaaDoorXSeg1
namespace Go.Proofs.YthnennleblgjeaaDoor
set_option linter.unusedVariables false
set_option linter.unusedSimpArgs false
open Go.ChangeShapes Go.WideShapes Go.ChangeAt Go.RowKit
set_option linter.unusedVariables false
attribute [local go_sem ↓ high] eq56b
theorem eqB_opt (V U : Nat → Int) : eqB (V 0) (U 0) (V 1) (U 1) (V 2) (U 2) (V 3) (U 3) (V 4) (U 4) (V 5) (U 5) (V 6) (U 6) (decide (V 7 = 1)) (decide (U 7 = 1)) (decide (V 8 = 1)) (decide (U 8 = 1)) (V 9) (U 9) (decide (V 10 = 1)) (decide (U 10 = 1)) (V 11) (U 11) (V 12) (U 12) (decide (V 13 = 1)) (decide (U 13 = 1)) = optEq V U := rfl
set_option maxHeartbeats 4000000 in
set_option maxRecDepth 100000 in
theorem equal_any (A B : Option Addr) (c d : Nat) (l m : List (Nat → Int)) (hl : l.length ≤ 100000) (hm : m.length ≤ 100000) (w : World) (h : RS layO w A c l) (h' : RS layO w B d m) :
    Calls Tryd.prog 39 #[.slice A l.length c, .slice B m.length d] w fun r w' => r = .returned (.bool (optsEq l m)) ∧ Fine w w' := by
  by_cases hlen : l.length = m.length
  · have HL := Lib.hid hlen
    have hlb : ((l.length : Int) != (m.length : Int)) = false := by simp [hlen]
    have H := Lib.hid h; clear h
    have H' := Lib.hid h'; clear h'
    have hle : l.length ≤ m.length := by omega
    clear hlen
    go_enter Tryd.func39, Tryd.ntmps39
    go_wp2_with fail
    go_loopw [13] (fun s wr => ∃ i : Nat, i ≤ l.length ∧ s = .int .i64 i ∧ Hid (Fine w wr ∧ ∀ j, j < i → ∀ V U, l[j]? = some V → m[j]? = some U → optEq V U = true)) (fun s _ => l.length - (intOf s).toNat)
    case atStart => exact ⟨0, Nat.zero_le _, rfl, Lib.hid ⟨Fine.refl w, fun j hj => absurd hj (by omega)⟩⟩
    case round =>
      obtain ⟨i, hi, rfl, hR⟩ := hrel
      by_cases hlt : i < l.length
      · have hlt2 : i < m.length := by omega
        obtain ⟨V, hV0⟩ : ∃ V, l[i]? = some V := ⟨l[i], List.getElem?_eq_getElem hlt⟩
        obtain ⟨U, hU0⟩ : ∃ U, m[i]? = some U := ⟨m[i], List.getElem?_eq_getElem hlt2⟩
        obtain ⟨b, o, rfl, hb, hc⟩ := (H.out.fine hR.out.1).at_ hV0
        obtain ⟨b2, o2, rfl, hb2, hd⟩ := (H'.out.fine hR.out.1).at_ hU0
        have c0 := hc 0 (.int .i64 (V 0)) rfl
        have d0 := hd 0 (.int .i64 (U 0)) rfl
        have c1 := hc 1 (.int .u64 (V 1)) rfl
        have d1 := hd 1 (.int .u64 (U 1)) rfl
        have c2 := hc 2 (.int .u64 (V 2)) rfl
        have d2 := hd 2 (.int .u64 (U 2)) rfl
        have c3 := hc 3 (.int .u32 (V 3)) rfl
        have d3 := hd 3 (.int .u32 (U 3)) rfl
        have c4 := hc 4 (.int .u32 (V 4)) rfl
        have d4 := hd 4 (.int .u32 (U 4)) rfl
        have c5 := hc 5 (.int .i64 (V 5)) rfl
        have d5 := hd 5 (.int .i64 (U 5)) rfl
        have c6 := hc 6 (.int .i64 (V 6)) rfl
        have d6 := hd 6 (.int .i64 (U 6)) rfl
        have c7 := hc 7 (.bool (decide (V 7 = 1))) rfl
        have d7 := hd 7 (.bool (decide (U 7 = 1))) rfl
        have c8 := hc 8 (.bool (decide (V 8 = 1))) rfl
        have d8 := hd 8 (.bool (decide (U 8 = 1))) rfl
        have c9 := hc 9 (.int .i64 (V 9)) rfl
        have d9 := hd 9 (.int .i64 (U 9)) rfl
        have c10 := hc 10 (.bool (decide (V 10 = 1))) rfl
        have d10 := hd 10 (.bool (decide (U 10 = 1))) rfl
        have c11 := hc 11 (.int .i64 (V 11)) rfl
        have d11 := hd 11 (.int .i64 (U 11)) rfl
        have c12 := hc 12 (.int .i64 (V 12)) rfl
        have d12 := hd 12 (.int .i64 (U 12)) rfl
        have c13 := hc 13 (.bool (decide (V 13 = 1))) rfl
        have d13 := hd 13 (.bool (decide (U 13 = 1))) rfl
        have HV0 := Lib.hid hV0
        have HU0 := Lib.hid hU0
        clear hc hd hV0 hU0
        simp only [← Nat.add_assoc, Nat.add_zero] at c0 d0 c1 d1 c2 d2 c3 d3 c4 d4 c5 d5 c6 d6 c7 d7 c8 d8 c9 d9 c10 d10 c11 d11 c12 d12 c13 d13
        obtain ⟨q, hq⟩ : ∃ q, optEq V U = q := ⟨_, rfl⟩
        have E := (eqB_opt V U).trans hq
        have HQ := Lib.hid hq; clear hq
        go_wp2_with fail
        cases q
        · go_quiet (fail)
          go_wp2_with fail
          go_ret
          exact ⟨by rw [optsEq_none i HL.out hR.out.2 HV0.out HU0.out HQ.out]; rfl, hR.out.1.drewN _⟩
        · go_quiet (fail)
          have HN : ∀ wz, Fine wr wz → Hid (Fine w wz ∧ ∀ j, j < i + 1 → ∀ V U, l[j]? = some V → m[j]? = some U → optEq V U = true) := fun wz fz => Lib.hid ⟨hR.out.1.trans fz, fun j hj V' U' e1 e2 => by
            by_cases e : j = i
            · subst e
              rw [HV0.out] at e1; rw [HU0.out] at e2; cases e1; cases e2; exact HQ.out
            · exact hR.out.2 j (by omega) V' U' e1 e2⟩
          go_wp2_with fail
          exact ⟨⟨i + 1, hlt, by simp, HN _ ((Fine.refl wr).drewN _)⟩, by simp only [intOf]; omega⟩
      · have hie : i = l.length := by omega
        subst hie
        go_wp2_with fail
        go_ret
        exact ⟨by rw [optsEq_all HL.out hR.out.2]; rfl, hR.out.1⟩
  · have hlb : ((l.length : Int) != (m.length : Int)) = true := by simp; omega
    have HE := Lib.hid (optsEq_len hlen)
    clear hlen
    go_enter Tryd.func39, Tryd.ntmps39
    go_wp2_with fail
    go_ret
    exact ⟨by rw [HE.out]; rfl, Fine.refl w⟩
theorem equal_n (A B : Option Addr) (n k c d : Nat) (l m : List (Nat → Int)) (hn : n = l.length) (hk : k = m.length) (hl : l.length ≤ 100000) (hm : m.length ≤ 100000) (w : World) (h : RS layO w A c l) (h' : RS layO w B d m) :
    Calls Tryd.prog 39 #[.slice A n c, .slice B k d] w fun r w' => r = .returned (.bool (optsEq l m)) ∧ Fine w w' := by
  subst hn hk
  exact equal_any A B c d l m hl hm w h h'
end Go.Proofs.YthnennleblgjeaaDoor
