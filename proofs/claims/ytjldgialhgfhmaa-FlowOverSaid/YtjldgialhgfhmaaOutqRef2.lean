/- The reference of outq: lists of pieces that are the same. -/
import Derived.Test.YtjldgialhgfhmaaOutqRef
import Derived.Deep.RegionWith
namespace Go.Proofs.Ytjldgialhgfhmaa
open Go.ChangeShapes Go.WideShapes Go.ChangeAt Go.RowKit
set_option linter.unusedVariables false

theorem sameAll_any (A B : Option Addr) (c d : Nat) (rs ss : List Raw) (ps : List Pc) (v v' : Nat → Prop) (w : World) (hr : RS layP w A c rs) (hs : RS layP w B d ss) (ir : Iss w v rs ps) (is : Iss w v' ss ps) :
    Calls Try.prog 35 #[.slice A rs.length c, .slice B ss.length d] w fun x w' => x = .returned (.bool true) ∧ Fine w w' := by
  have hrl := hr.le
  have hrm := hr.max
  have hsl := hs.le
  have hsm := hs.max
  unfold maxLen at hrm hsm
  have hl : ss.length = rs.length := by rw [is.1, ir.1]
  rw [hl] at hsl ⊢
  have HL := Lib.hid hl; clear hl
  have HR := Lib.hid hr; clear hr
  have HS := Lib.hid hs; clear hs
  have IR := Lib.hid ir; clear ir
  have IS := Lib.hid is; clear is
  go_enter Try.func35, Try.ntmps35
  go_wp2_with fail
  go_loopw [5] (fun i wr => ∃ k : Nat, k ≤ rs.length ∧ i = .int .i64 k ∧ Fine w wr) (fun i _ => rs.length - (intOf i).toNat)
  case atStart => exact ⟨0, Nat.zero_le _, rfl, (by repeat (first | exact Fine.refl _ | assumption | refine Fine.alloc ?_ _ | refine Fine.drew ?_ | refine Fine.drewN ?_ _ | refine Fine.trans ?_ (by assumption) | (refine Fine.kept ?_ (by assumption) (by intro x hx; first | omega | (simp; omega))) | (refine Fine.setCell ?_ (by first | assumption | (simp; done) | (simp; omega)) _)))⟩
  case round =>
    obtain ⟨k, hk, rfl, hf⟩ := hrel
    by_cases hlt : k < rs.length
    · obtain ⟨r, hr0⟩ : ∃ r, rs[k]? = some r := ⟨rs[k]'hlt, by rw [List.getElem?_eq_getElem]⟩
      obtain ⟨s, hs0⟩ : ∃ s, ss[k]? = some s := ⟨ss[k]'(by have := HL.out; omega), by rw [List.getElem?_eq_getElem]⟩
      obtain ⟨p, hp0⟩ : ∃ p, ps[k]? = some p := ⟨ps[k]'(by have := IR.out.1; omega), by rw [List.getElem?_eq_getElem]⟩
      obtain ⟨b1, o1, rfl, hb1, hc1⟩ := (HR.out.fine hf).at_ hr0
      obtain ⟨b2, o2, rfl, hb2, hc2⟩ := (HS.out.fine hf).at_ hs0
      have hsame := Lib.hid (fun w' (hw : Fine wr w') => same_any r s p v v' w' (((IR.out.2 k r p hr0 hp0).fine hf).fine hw) (((IS.out.2 k s p hs0 hp0).fine hf).fine hw))
      clear hr0 hs0 hp0
      obtain ⟨q0, q1, q2, q3, q4, q5, q6, q7⟩ := r
      obtain ⟨p0, p1, p2, p3, p4, p5, p6, p7⟩ := s
      have c0 := hc1 0 (.int .u32 q0) rfl
      have c1 := hc1 1 (.bool q1) rfl
      have c2 := hc1 2 (.bool q2) rfl
      have c3 := hc1 3 (.slice q3 q4 q5) rfl
      have c4 := hc1 4 (.int .i64 q6) rfl
      have c5 := hc1 5 (.bool q7) rfl
      have d0 := hc2 0 (.int .u32 p0) rfl
      have d1 := hc2 1 (.bool p1) rfl
      have d2 := hc2 2 (.bool p2) rfl
      have d3 := hc2 3 (.slice p3 p4 p5) rfl
      have d4 := hc2 4 (.int .i64 p6) rfl
      have d5 := hc2 5 (.bool p7) rfl
      clear hc1 hc2
      simp only [← Nat.add_assoc, Nat.add_zero] at c0 c1 c2 c3 c4 c5 d0 d1 d2 d3 d4 d5
      go_wp2_with fail
      go_region_with (go_at_call 37; refine (hsame.out wr.drew (Fine.refl wr).drew).mono ?_; rintro x w1 ⟨rfl, f1⟩)
      all_goals
        go_wp2_with fail
        go_roundw
        case rel => exact ⟨k + 1, by omega, by go_num, (by repeat (first | exact Fine.refl _ | assumption | refine Fine.alloc ?_ _ | refine Fine.drew ?_ | refine Fine.drewN ?_ _ | refine Fine.trans ?_ (by assumption) | (refine Fine.kept ?_ (by assumption) (by intro x hx; first | omega | (simp; omega))) | (refine Fine.setCell ?_ (by first | assumption | (simp; done) | (simp; omega)) _)))⟩
        case measure => simp [intOf]; omega
    · go_wp2_with fail
      go_ret
      exact ⟨rfl, (by repeat (first | exact Fine.refl _ | assumption | refine Fine.alloc ?_ _ | refine Fine.drew ?_ | refine Fine.drewN ?_ _ | refine Fine.trans ?_ (by assumption) | (refine Fine.kept ?_ (by assumption) (by intro x hx; first | omega | (simp; omega))) | (refine Fine.setCell ?_ (by first | assumption | (simp; done) | (simp; omega)) _)))⟩
end Go.Proofs.Ytjldgialhgfhmaa
