/- Contracts of package path's functions. -/
import Derived.Test.YtbgdcpecpcmjdaaRows
import Derived.Test.YtbgdcpecpcmjdaaStructs
import Derived.Test.YtbgdcpecpcmjdaaPathPlain
import Derived.WalkKit
import Derived.ProofKit
import Derived.OpenShut
import Derived.RegionTactic
import Derived.BigRegion
import Derived.BigQuiet
import Derived.Deep.QuietTactic
import Derived.WalkLawsBesides
import Derived.LoopTactic
import Derived.Outline
namespace Go.Proofs.Ytbgdcpecpcmjdaa
open Go.ChangeShapes Go.WideShapes Go.ChangeAt Go.RowKit
set_option linter.unusedVariables false

abbrev LI := layI .i64
theorem sliceI : SliceTy Try.prog 37 3 1 8 := SliceTy.mk' Try.underlying37 (z := .int .i64 0) (by kernel_rfl) rfl
theorem RS.litI {w : World} {g : Nat} (x : Int) (hg : g = w.heap.size) : RS LI (w.alloc (.cells #[.int .i64 x] 3)) (some ⟨g, 0, none⟩) 1 [x] := RS.ofBlk (Blk.newAt hg) rfl rfl (by unfold maxLen; omega)
theorem RS.litI2 {w : World} {g : Nat} (x y : Int) (hg : g = w.heap.size) : RS LI (w.alloc (.cells #[.int .i64 x, .int .i64 y] 3)) (some ⟨g, 0, none⟩) 2 [x, y] := RS.ofBlk (Blk.newAt hg) rfl rfl (by unfold maxLen; omega)

theorem may_any (A : Option Addr) (c : Nat) (xs : List Int) (hl : xs.length ≤ 2) (w : World) (hx : RS LI w A c xs) :
    Calls Try.prog 29 #[.slice A xs.length c] w fun e w' => e = .returned (.bool (xs.all mayI)) ∧ Fine w w' := by
  go_enter Try.func29, Try.ntmps29
  go_wp2_with fail
  go_loopw [7] (fun i wr => ∃ k : Nat, k ≤ xs.length ∧ i = .int .i64 k ∧ (∀ j, j < k → mayI (xs.getD j 0) = true) ∧ Fine w wr) (fun i _ => xs.length - (intOf i).toNat)
  case atStart => exact ⟨0, Nat.zero_le _, rfl, fun j hj => absurd hj (by omega), (by repeat (first | exact Fine.refl _ | assumption | refine Fine.alloc ?_ _ | refine Fine.drew ?_ | refine Fine.drewN ?_ _ | refine Fine.trans ?_ (by assumption) | (refine Fine.kept ?_ (by assumption) (by intro x hx; first | omega | (simp; omega))) | (refine Fine.setCell ?_ (by first | assumption | (simp; omega)) _)))⟩
  case round =>
    obtain ⟨k, hk, rfl, hno0, hf⟩ := hrel
    have hno := Lib.hid hno0; clear hno0
    by_cases hlt : k < xs.length
    · obtain ⟨b, off, rfl, hb, c0⟩ := (hx.fine hf).atI hlt
      obtain ⟨x, hx0⟩ : ∃ x, xs.getD k 0 = x := ⟨_, rfl⟩
      rw [hx0] at c0
      have HX := Lib.hid hx0; clear hx0
      have hc : (0 ≤ x ∧ x < 4) ∨ x < 0 ∨ (0 ≤ x ∧ 4 ≤ x) := by omega
      rcases hc with ⟨h1, h2⟩ | h1 | ⟨h1, h2⟩
      · have hy : Hid (mayI x = true) := by show mayI x = true; unfold mayI; simp [h1, h2]
        go_wp2_with fail
        go_roundw
        case rel => exact ⟨k + 1, by omega, by go_num, (fun j hj => by
          by_cases e : j = k
          · subst e; rw [HX.out]; exact hy.out
          · exact hno.out j (by omega)), (by repeat (first | exact Fine.refl _ | assumption | refine Fine.alloc ?_ _ | refine Fine.drew ?_ | refine Fine.drewN ?_ _ | refine Fine.trans ?_ (by assumption) | (refine Fine.kept ?_ (by assumption) (by intro x hx; first | omega | (simp; omega))) | (refine Fine.setCell ?_ (by first | assumption | (simp; omega)) _)))⟩
        case measure => simp [intOf]; omega
      all_goals
        have hy : Hid (mayI x = false) := by show mayI x = false; unfold mayI; simp; omega
        have hr : Hid (xs.all mayI = false) := by show xs.all mayI = false; rw [List.all_eq_false]; exact ⟨x, by rw [← HX.out]; exact getD_mem xs k hlt, by rw [hy.out]; simp⟩
        go_wp2_with fail
        go_ret
        exact ⟨ret_bool hr.out.symm, (by repeat (first | exact Fine.refl _ | assumption | refine Fine.alloc ?_ _ | refine Fine.drew ?_ | refine Fine.drewN ?_ _ | refine Fine.trans ?_ (by assumption) | (refine Fine.kept ?_ (by assumption) (by intro x hx; first | omega | (simp; omega))) | (refine Fine.setCell ?_ (by first | assumption | (simp; omega)) _)))⟩
    · have hr : Hid (xs.all mayI = true) := by
        show xs.all mayI = true
        rw [List.all_eq_true]
        intro x hx
        obtain ⟨j, hj, rfl⟩ := List.getElem_of_mem hx
        have := hno.out j (by omega)
        simpa [List.getD, hj] using this
      go_wp2_with fail
      go_ret
      exact ⟨ret_bool hr.out.symm, (by repeat (first | exact Fine.refl _ | assumption | refine Fine.alloc ?_ _ | refine Fine.drew ?_ | refine Fine.drewN ?_ _ | refine Fine.trans ?_ (by assumption) | (refine Fine.kept ?_ (by assumption) (by intro x hx; first | omega | (simp; omega))) | (refine Fine.setCell ?_ (by first | assumption | (simp; omega)) _)))⟩
theorem may1 (g : Nat) (x : Int) (w : World) (hg : g = w.heap.size) : Calls Try.prog 29 #[.slice (some ⟨g, 0, none⟩) 1 1] (w.alloc (.cells #[.int .i64 x] 3)) fun e w' => e = .returned (.bool (mayI x)) ∧ Fine w w' :=
  (may_any _ 1 [x] (by simp) _ (RS.litI x hg)).mono fun e w' ⟨he, hf⟩ => ⟨by rw [he]; simp, (by repeat (first | exact Fine.refl _ | assumption | refine Fine.alloc ?_ _ | refine Fine.drew ?_ | refine Fine.drewN ?_ _ | refine Fine.trans ?_ (by assumption) | (refine Fine.kept ?_ (by assumption) (by intro x hx; first | omega | (simp; omega))) | (refine Fine.setCell ?_ (by first | assumption | (simp; omega)) _)))⟩
theorem may2 (g : Nat) (x y : Int) (w : World) (hg : g = w.heap.size) : Calls Try.prog 29 #[.slice (some ⟨g, 0, none⟩) 2 2] (w.alloc (.cells #[.int .i64 x, .int .i64 y] 3)) fun e w' => e = .returned (.bool (mayI x && mayI y)) ∧ Fine w w' :=
  (may_any _ 2 [x, y] (by simp) _ (RS.litI2 x y hg)).mono fun e w' ⟨he, hf⟩ => ⟨by rw [he]; simp, (by repeat (first | exact Fine.refl _ | assumption | refine Fine.alloc ?_ _ | refine Fine.drew ?_ | refine Fine.drewN ?_ _ | refine Fine.trans ?_ (by assumption) | (refine Fine.kept ?_ (by assumption) (by intro x hx; first | omega | (simp; omega))) | (refine Fine.setCell ?_ (by first | assumption | (simp; omega)) _)))⟩

def AddrOf (xs : List Int) (w : World) (e : Ending) (w' : World) : Prop := ∃ A c, e = .returned (.slice A xs.length c) ∧ Own LI 3 w' w.heap.size (.slice A xs.length c) xs ∧ Fine w w'
theorem list_any (p : Nat → Bool) (b0 b1 b2 b3 : Bool) (h0 : p 0 = b0) (h1 : p 1 = b1) (h2 : p 2 = b2) (h3 : p 3 = b3) (w : World) :
    Calls Try.prog 30 #[.agg #[.bool b0, .bool b1, .bool b2, .bool b3]] w (AddrOf (addrs p 4) w) := by
  have hp : Hid (∀ k, k < 4 → (#[Value.bool b0, .bool b1, .bool b2, .bool b3] : Array Value)[k]? = some (.bool (p k))) := by
    intro k hk
    match k, hk with
    | 0, _ => rw [h0]; rfl
    | 1, _ => rw [h1]; rfl
    | 2, _ => rw [h2]; rfl
    | 3, _ => rw [h3]; rfl
  clear h0 h1 h2 h3
  go_enter Try.func30, Try.ntmps30
  go_wp2_with fail
  have hB0 : Blk (w.alloc (.cells #[.bool b0, .bool b1, .bool b2, .bool b3] 64)) w.heap.size 64 #[.bool b0, .bool b1, .bool b2, .bool b3] := Blk.new _ _ _
  have f0 : Fine w (w.alloc (.cells #[.bool b0, .bool b1, .bool b2, .bool b3] 64)) := (by repeat (first | exact Fine.refl _ | assumption | refine Fine.alloc ?_ _ | refine Fine.drew ?_ | refine Fine.drewN ?_ _ | refine Fine.trans ?_ (by assumption) | (refine Fine.kept ?_ (by assumption) (by intro x hx; first | omega | (simp; omega))) | (refine Fine.setCell ?_ (by first | assumption | (simp; omega)) _)))
  have hz0 : (w.alloc (.cells #[.bool b0, .bool b1, .bool b2, .bool b3] 64)).heap.size = w.heap.size + 1 := by simp
  generalize (w.alloc (.cells #[.bool b0, .bool b1, .bool b2, .bool b3] 64)) = w0 at hB0 f0 hz0 ⊢
  have hB := Lib.hid hB0; clear hB0
  have hz := Lib.hid hz0; clear hz0
  go_loopw [3, 5] (fun out i wr => ∃ k : Nat, k ≤ 4 ∧ i = .int .i64 k ∧ (∃ A' c', out = .slice A' (addrs p k).length c' ∧ Own LI 3 wr (w.heap.size + 1) (.slice A' (addrs p k).length c') (addrs p k)) ∧ Fine w0 wr) (fun _ i _ => 4 - (intOf i).toNat)
  case atStart => exact ⟨0, Nat.zero_le _, rfl, ⟨none, 0, rfl, Own.nil_ _ _ _ _⟩, (by repeat (first | exact Fine.refl _ | assumption | refine Fine.alloc ?_ _ | refine Fine.drew ?_ | refine Fine.drewN ?_ _ | refine Fine.trans ?_ (by assumption) | (refine Fine.kept ?_ (by assumption) (by intro x hx; first | omega | (simp; omega))) | (refine Fine.setCell ?_ (by first | assumption | (simp; omega)) _)))⟩
  case round =>
    obtain ⟨k, hk, rfl, ⟨A', c', rfl, hown0⟩, hf⟩ := hrel
    have hown := Lib.hid hown0; clear hown0
    have hsz := hf.size
    rw [hz.out] at hsz
    have hal := addrs_le p k
    by_cases hlt : k < 4
    · have hcell : wr.cell? ⟨w.heap.size, k, none⟩ = some (.bool (p k)) := ((hB.out.fine hf).cell k).trans (hp.out k hlt)
      cases hpk : p k
      · rw [hpk] at hcell
        have HST := Lib.hid (addrs_no hpk); clear hpk
        go_wp2_with fail
        go_roundw
        case rel => exact ⟨k + 1, by omega, by go_num, ⟨A', c', by rw [HST.out], by rw [HST.out]; exact hown.out⟩, (by repeat (first | exact Fine.refl _ | assumption | refine Fine.alloc ?_ _ | refine Fine.drew ?_ | refine Fine.drewN ?_ _ | refine Fine.trans ?_ (by assumption) | (refine Fine.kept ?_ (by assumption) (by intro x hx; first | omega | (simp; omega))) | (refine Fine.setCell ?_ (by first | assumption | (simp; omega)) _)))⟩
        case measure => simp [intOf]; omega
      · rw [hpk] at hcell
        have HST := Lib.hid (addrs_yes hpk); clear hpk
        go_wp2_with (at_builtin; refine wpList_appE rfl sliceI (.tmp 11) (.tmp 13) rfl (w.heap.size + 1) _ (addrs p k) rfl (hown.out.alloc _) (some ⟨wr.heap.size, 0, none⟩) 1 1 [(k : Int)] rfl rfl (RS.ofBlk (Blk.newAt (by simp)) rfl rfl (by unfold maxLen; omega)) ?_ ?_ ?_ ?_)
        · (first | omega | (unfold maxLen; omega) | (simp; omega) | (simp; unfold maxLen; omega))
        · (first | omega | (unfold maxLen; omega) | (simp; omega) | (simp; unfold maxLen; omega))
        · (first | omega | (unfold maxLen; omega) | (simp; omega) | (simp; unfold maxLen; omega))
        · intro A2 c2' w2 hown2 hk2 _
          go_wp2_with fail
          go_roundw
          case rel => exact ⟨k + 1, by omega, by go_num, ⟨A2, c2', by rw [HST.out]; simp, by rw [HST.out]; simpa using hown2.out⟩, Fine.kept (a := w0) (by repeat (first | exact Fine.refl _ | assumption | refine Fine.alloc ?_ _ | refine Fine.drew ?_ | refine Fine.drewN ?_ _ | refine Fine.trans ?_ (by assumption) | (refine Fine.kept ?_ (by assumption) (by intro x hx; first | omega | (simp; omega))) | (refine Fine.setCell ?_ (by first | assumption | (simp; omega)) _))) hk2 (by intro x hx; rw [hz.out] at hx; omega)⟩
          case measure => simp [intOf]; omega
    · have he := Lib.hid (show k = 4 by omega)
      go_wp2_with fail
      go_ret
      exact ⟨A', c', by rw [← he.out]; rfl, by rw [← he.out]; exact hown.out.lower (by omega), (by repeat (first | exact Fine.refl _ | assumption | refine Fine.alloc ?_ _ | refine Fine.drew ?_ | refine Fine.drewN ?_ _ | refine Fine.trans ?_ (by assumption) | (refine Fine.kept ?_ (by assumption) (by intro x hx; first | omega | (simp; omega))) | (refine Fine.setCell ?_ (by first | assumption | (simp; omega)) _)))⟩

/-! The manager in memory. -/
def PMB (w : World) (g : Nat) (L : List Bool) (m : Int) : Prop := L.length = 24 ∧ Blk w g 67 (L.map Value.bool ++ [Value.int .i64 m]).toArray
section
variable {w w' : World} {g : Nat} {L : List Bool} {m : Int}
theorem PMB.len (h : PMB w g L m) : L.length = 24 := h.1
theorem PMB.cell (h : PMB w g L m) {i : Nat} (hi : i < 24) : w.cell? ⟨g, i, none⟩ = some (.bool (L.getD i false)) := by
  rw [h.2.cell i]
  have := h.1
  simp [List.getElem?_append_left, List.getD, show i < L.length by omega]
theorem PMB.most (h : PMB w g L m) : w.cell? ⟨g, 24, none⟩ = some (.int .i64 m) := by
  rw [h.2.cell 24]
  have := h.1
  simp [List.getElem?_append_right, this]
theorem PMB.frozen (h : PMB w g L m) (i : Nat) : w.frozen? ⟨g, i, none⟩ = false := h.2.frozen i
theorem PMB.lt (h : PMB w g L m) : g < w.heap.size := h.2.lt
theorem PMB.fine (h : PMB w g L m) (hf : Fine w w') : PMB w' g L m := ⟨h.1, h.2.fine hf⟩
theorem PMB.kept {S : Nat → Prop} (h : PMB w g L m) (hf : Kept S w w') (hn : ¬ S g) : PMB w' g L m := ⟨h.1, h.2.kept hf hn⟩
theorem PMB.set_ (h : PMB w g L m) {i : Nat} (hi : i < 24) (v : Bool) : PMB (w.setCell ⟨g, i, none⟩ (.bool v)) g (L.set i v) m := by
  refine ⟨by rw [List.length_set]; exact h.1, (h.2.set_ i _).cast ?_⟩
  have := h.1
  apply Array.toList_inj.1
  simp [List.set_append_left, show i < L.length by omega, List.map_set]
end
end Go.Proofs.Ytbgdcpecpcmjdaa
