/- The contract of close.Path, and the law ClosePaths. -/
import Derived.Test.YtbhledflfejdmaaDoorLeads
import Derived.Deep.RegionHeld3
namespace Go.Proofs.YtbhledflfejdmaaDoor
open Go.ChangeShapes Go.WideShapes Go.ChangeAt Go.RowKit
set_option linter.unusedVariables false

/-- A slice of numbers that is read. -/
def RS (w : World) (A : Option Addr) (xs : List Int) : Prop :=
  0 < xs.length → ∃ b off, A = some ⟨b, off, none⟩ ∧ b < w.heap.size ∧ ∀ i, i < xs.length → w.cell? ⟨b, off + i, none⟩ = some (.int .i64 (xs.getD i 0))
theorem RS.fine {w w' : World} {A : Option Addr} {xs : List Int} (h : RS w A xs) (hf : Fine w w') : RS w' A xs := fun hp => by
  obtain ⟨b, off, e, hb, hc⟩ := h hp
  exact ⟨b, off, e, Nat.lt_of_lt_of_le hb hf.size, fun i hi => (hf.cell hb).trans (hc i hi)⟩
/-- Does each lead to the next one? -/
def pathTo (xs : List Int) (n : Nat) : Bool := (List.range n).all fun k => refLed (xs.getD k 0) (xs.getD (k + 1) 0)
theorem path_succ (xs : List Int) (n : Nat) : pathTo xs (n + 1) = (pathTo xs n && refLed (xs.getD n 0) (xs.getD (n + 1) 0)) := by unfold pathTo; rw [List.range_succ]; simp
theorem path_false {xs : List Int} {n k : Nat} (hk : k < n) (h : refLed (xs.getD k 0) (xs.getD (k + 1) 0) = false) : pathTo xs n = false := by
  unfold pathTo
  rw [List.all_eq_false]
  exact ⟨k, List.mem_range.2 hk, by rw [h]; simp⟩

set_option maxHeartbeats 1000000 in
theorem path_any (A : Option Addr) (n c : Nat) (xs : List Int) (w : World) (hT : Tab w) (h : RS w A xs) (hn : n = xs.length) (hl : xs.length ≤ 1000000) :
    Calls Tryd.prog 13 #[.slice A n c] w fun r w' => r = .returned (.bool (pathTo xs (xs.length - 1))) ∧ Fine w w' := by
  subst hn
  have HT := Lib.hid hT
  have H := Lib.hid h
  clear hT h
  obtain ⟨z, hz⟩ : ∃ z, pathTo xs (xs.length - 1) = z := ⟨_, rfl⟩
  rw [hz]
  have HZ := Lib.hid hz
  clear hz
  go_enter Tryd.func13, Tryd.ntmps13
  go_wp2
  go_loopw [3] (fun i wr => ∃ k : Nat, (k = 0 ∨ k + 1 ≤ xs.length) ∧ i = .int .i64 (k + 1 : Nat) ∧ Hid (pathTo xs k = true) ∧ Fine w wr) (fun i _ => xs.length + 1 - (intOf i).toNat)
  case atStart => exact ⟨0, .inl rfl, rfl, rfl, Fine.refl _⟩
  case round =>
    obtain ⟨k, hk, rfl, HL, hf⟩ := hrel
    by_cases hlt : k + 1 < xs.length
    · obtain ⟨b, off, rfl, hb, hc⟩ := H.out.fine hf (by omega)
      have c1 := hc k (by omega)
      have c2 := hc (k + 1) hlt
      have hp := path_succ xs k
      have hq : ∀ h, pathTo xs (xs.length - 1) = false := fun h => path_false (xs := xs) (n := xs.length - 1) (k := k) (by omega) h
      have hled := led_eq (xs.getD k 0) (xs.getD (k + 1) 0)
      obtain ⟨u, hu⟩ : ∃ u, xs.getD k 0 = u := ⟨_, rfl⟩
      obtain ⟨v, hv⟩ : ∃ v, xs.getD (k + 1) 0 = v := ⟨_, rfl⟩
      rw [hu] at c1
      rw [hv] at c2
      rw [hu, hv] at hp hq hled
      rw [HL.out] at hp
      clear hc hu hv HL
      by_cases huv : u = v
      · have HN : Hid (pathTo xs (k + 1) = true) := by show _ = _; rw [hp, hled]; simp [huv]
        clear hp hq hled
        subst huv
        go_wp2
        go_region
        all_goals
          go_wp2
          go_roundw
          case rel => exact ⟨k + 1, .inr (by omega), by go_num, HN, (by repeat (first | exact Fine.refl _ | assumption | refine Fine.alloc ?_ _ | refine Fine.drew ?_ | refine Fine.drewN ?_ _ | refine Fine.trans ?_ (by assumption) | (refine Fine.kept ?_ (by assumption) (by intro x hx; first | omega | (simp; omega))) | (refine Fine.setCell ?_ (by first | assumption | (simp; omega)) _)))⟩
          case measure => simp [intOf]; omega
      · have huvb : (u != v) = true := by simp [huv]
        obtain ⟨l, hl2⟩ : ∃ l, ledTo u v = l := ⟨_, rfl⟩
        have HLd := Lib.hid hl2
        rw [hl2] at hled
        cases l with
        | true =>
          have HN : Hid (pathTo xs (k + 1) = true) := by show _ = _; rw [hp, hled]; simp
          clear hp hq hled hl2
          have e1 : IntKind.i64.wrap ((k : Int) + 1 - 1) = (k : Int) := by rw [IntKind.wrap_i64]; omega
          have e2 : IntKind.i64.wrap ((k : Int)) = (k : Int) := by rw [IntKind.wrap_i64]; omega
          have g1 : (k : Int) < (xs.length : Int) := by omega
          have g2 : (k : Int) + 1 < (xs.length : Int) := by omega
          have g3 : ((k : Int) + 1).toNat = k + 1 := by omega
          have g4 : 0 ≤ (k : Int) := by omega
          have g5 : 0 ≤ (k : Int) + 1 := by omega
          go_wp2
          go_region_held3 (fun w' => w'.cell? ⟨b, off + k, none⟩ = some (.int .i64 u) ∧ w'.cell? ⟨b, off + (k + 1), none⟩ = some (.int .i64 v)) (first | exact ⟨c1, c2⟩ | exact ⟨(f2.cell (p := ⟨b, off + k, none⟩) hb).trans c1, (f2.cell (p := ⟨b, off + (k + 1), none⟩) hb).trans c2⟩)
            (first | (go_at_call 14; refine (leads_any u v _ ?_).mono ?_; (exact HT.out.fine (by repeat (first | exact Fine.refl _ | assumption | refine Fine.alloc ?_ _ | refine Fine.drew ?_ | refine Fine.drewN ?_ _ | refine Fine.trans ?_ (by assumption) | (refine Fine.kept ?_ (by assumption) (by intro x hx; first | omega | (simp; omega))) | (refine Fine.setCell ?_ (by first | assumption | (simp; omega)) _)))); rintro r w2 ⟨rfl, f2⟩; rw [HLd.out]))
          all_goals
            go_wp2
            go_roundw
            case rel => exact ⟨k + 1, .inr (by omega), by go_num, HN, (by repeat (first | exact Fine.refl _ | assumption | refine Fine.alloc ?_ _ | refine Fine.drew ?_ | refine Fine.drewN ?_ _ | refine Fine.trans ?_ (by assumption) | (refine Fine.kept ?_ (by assumption) (by intro x hx; first | omega | (simp; omega))) | (refine Fine.setCell ?_ (by first | assumption | (simp; omega)) _)))⟩
            case measure => simp [intOf]; omega
        | false =>
          have HZ1 : Hid (z = false) := by
            show _ = _
            rw [← HZ.out]
            exact hq (by rw [hled]; simp [huv])
          clear hp hq hled hl2 HZ
          have e1 : IntKind.i64.wrap ((k : Int) + 1 - 1) = (k : Int) := by rw [IntKind.wrap_i64]; omega
          have e2 : IntKind.i64.wrap ((k : Int)) = (k : Int) := by rw [IntKind.wrap_i64]; omega
          have g1 : (k : Int) < (xs.length : Int) := by omega
          have g2 : (k : Int) + 1 < (xs.length : Int) := by omega
          have g3 : ((k : Int) + 1).toNat = k + 1 := by omega
          have g4 : 0 ≤ (k : Int) := by omega
          have g5 : 0 ≤ (k : Int) + 1 := by omega
          go_wp2
          go_region_held3 (fun w' => w'.cell? ⟨b, off + k, none⟩ = some (.int .i64 u) ∧ w'.cell? ⟨b, off + (k + 1), none⟩ = some (.int .i64 v)) (first | exact ⟨c1, c2⟩ | exact ⟨(f2.cell (p := ⟨b, off + k, none⟩) hb).trans c1, (f2.cell (p := ⟨b, off + (k + 1), none⟩) hb).trans c2⟩)
            (first | (go_at_call 14; refine (leads_any u v _ ?_).mono ?_; (exact HT.out.fine (by repeat (first | exact Fine.refl _ | assumption | refine Fine.alloc ?_ _ | refine Fine.drew ?_ | refine Fine.drewN ?_ _ | refine Fine.trans ?_ (by assumption) | (refine Fine.kept ?_ (by assumption) (by intro x hx; first | omega | (simp; omega))) | (refine Fine.setCell ?_ (by first | assumption | (simp; omega)) _)))); rintro r w2 ⟨rfl, f2⟩; rw [HLd.out]))
          all_goals
            go_wp2
            go_ret
            exact ⟨ret_bool HZ1.out.symm, (by repeat (first | exact Fine.refl _ | assumption | refine Fine.alloc ?_ _ | refine Fine.drew ?_ | refine Fine.drewN ?_ _ | refine Fine.trans ?_ (by assumption) | (refine Fine.kept ?_ (by assumption) (by intro x hx; first | omega | (simp; omega))) | (refine Fine.setCell ?_ (by first | assumption | (simp; omega)) _)))⟩
    · have HZ1 : Hid (z = true) := by
        show _ = _
        rw [← HZ.out]
        have e : xs.length - 1 = k := by omega
        rw [e]; exact HL.out
      go_wp2
      go_ret
      exact ⟨ret_bool HZ1.out.symm, hf⟩
end Go.Proofs.YtbhledflfejdmaaDoor
