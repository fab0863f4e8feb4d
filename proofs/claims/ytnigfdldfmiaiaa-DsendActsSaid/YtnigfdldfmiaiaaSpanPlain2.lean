/- Plain: which run holds a number; the first number that didn't come; what was dropped, added anew. -/
import Derived.Test.YtnigfdldfmiaiaaSpan18
namespace Go.Proofs.Ytnigfdldfmiaiaa
open Go.ChangeShapes Go.WideShapes Go.ChangeAt Go.RowKit
set_option linter.unusedVariables false
set_option linter.unusedSimpArgs false
theorem found_over {l : List Rn} (h : Tidy l) {a : Int} {i n : Nat} (hn : l.length = n) (hf : Found (overB l a) n i) : i ≤ n ∧ (∀ k x, l[k]? = some x → k < i → rto x ≤ a) ∧ (∀ k x, l[k]? = some x → i ≤ k → a < rto x) := by
  obtain ⟨h1, h2, h3⟩ := hf
  refine ⟨h1, fun k x hk hlt => ?_, fun k x hk hle => ?_⟩
  · have hp := h2 (by omega)
    obtain ⟨y, hy⟩ : ∃ y, l[i - 1]? = some y := ⟨_, List.getElem?_eq_getElem (by omega)⟩
    have hya : rto y ≤ a := by
      unfold overB at hp
      rw [hy] at hp
      simpa using hp
    by_cases e : k = i - 1
    · subst e
      rw [hk] at hy
      injection hy with hy
      rw [hy]
      exact hya
    · have := h.lt_at hk hy (by omega)
      have := h.okAt hy
      omega
  · have hkn : k < n := hn ▸ (List.getElem?_eq_some_iff.mp hk).1
    have hp := h3 (by omega)
    obtain ⟨y, hy⟩ : ∃ y, l[i]? = some y := ⟨_, List.getElem?_eq_getElem (by omega)⟩
    have hya : a < rto y := by
      unfold overB at hp
      rw [hy] at hp
      simpa using hp
    by_cases e : k = i
    · subst e
      rw [hk] at hy
      injection hy with hy
      rw [hy]
      exact hya
    · have := h.lt_at hy hk (by omega)
      have := h.okAt hk
      omega
/-- The run that Search finds holds the number, or none does. -/
theorem over_in {l : List Rn} (h : Tidy l) {a : Int} {i n : Nat} (hn : l.length = n) (hf : Found (overB l a) n i) : (∀ x, l[i]? = some x → inB l a = decide (x.1 ≤ a)) ∧ (i = n → inB l a = false) := by
  obtain ⟨h1, h2, h3⟩ := found_over h hn hf
  constructor
  · intro x hx
    have hxt := h3 i x hx (Nat.le_refl _)
    by_cases hxa : x.1 ≤ a
    · rw [decide_eq_true hxa]
      exact inB_iff.mpr ⟨x, List.mem_of_getElem? hx, hxa, hxt⟩
    · rw [decide_eq_false hxa]
      cases e : inB l a with
      | false => rfl
      | true =>
        exfalso
        obtain ⟨r, hr, g1, g2⟩ := inB_iff.mp e
        obtain ⟨k, hk⟩ := List.mem_iff_getElem?.mp hr
        rcases Nat.lt_trichotomy k i with hki | hki | hki
        · have := h2 k r hk hki
          omega
        · subst hki
          rw [hx] at hk
          injection hk with hk
          subst hk
          omega
        · have := h.lt_at hx hk hki
          have := h.okAt hx
          omega
  · intro hin
    cases e : inB l a with
    | false => rfl
    | true =>
      exfalso
      obtain ⟨r, hr, g1, g2⟩ := inB_iff.mp e
      obtain ⟨k, hk⟩ := List.mem_iff_getElem?.mp hr
      have hkl := (List.getElem?_eq_some_iff.mp hk).1
      have := h2 k r hk (by omega)
      omega
/-- Behind a run nothing is. -/
theorem rto_out {l : List Rn} (h : Tidy l) {r : Rn} (hr : r ∈ l) : inB l (rto r) = false := by
  obtain ⟨k, hk⟩ := List.mem_iff_getElem?.mp hr
  cases e : inB l (rto r) with
  | false => rfl
  | true =>
    exfalso
    obtain ⟨s, hs, g1, g2⟩ := inB_iff.mp e
    obtain ⟨j, hj⟩ := List.mem_iff_getElem?.mp hs
    rcases Nat.lt_trichotomy j k with hjk | hjk | hjk
    · have := h.lt_at hj hk hjk
      have := h.okAt hk
      omega
    · subst hjk
      rw [hk] at hj
      injection hj with hj
      subst hj
      omega
    · have := h.lt_at hk hj hjk
      omega
/-- The first number from one on that isn't there. -/
def NextOf (l : List Rn) (f x : Int) : Prop := max f 0 ≤ x ∧ inB l x = false ∧ (∀ m, max f 0 ≤ m → m < x → inB l m = true) ∧ (x ≤ 4294967296 ∨ x = max f 0)
theorem NextOf.here {l : List Rn} {f : Int} (h : inB l (max f 0) = false) : NextOf l f (max f 0) := ⟨Int.le_refl _, h, fun m h1 h2 => absurd h1 (by omega), .inr rfl⟩
theorem NextOf.there {l : List Rn} (hT : Tidy l) {f : Int} {r : Rn} (hr : r ∈ l) (hf : hasR r (max f 0) = true) : NextOf l f (rto r) := by
  have h1 := hasR_iff.mp hf
  have h2 := hT.ok r hr
  exact ⟨by omega, rto_out hT hr, fun m g1 g2 => inB_iff.mpr ⟨r, hr, by omega, g2⟩, .inl h2.2.2⟩
theorem NextOf.uniq {l : List Rn} {f x y : Int} (h : NextOf l f x) (k : NextOf l f y) : x = y := by
  rcases Int.lt_trichotomy x y with hxy | hxy | hxy
  · have h1 := k.2.2.1 x h.1 hxy
    rw [h.2.1] at h1
    cases h1
  · exact hxy
  · have h1 := h.2.2.1 y k.1 hxy
    rw [k.2.1] at h1
    cases h1
/-- What of runs lies below a bound, added anew. -/
def redo (b : Int) (us : List Rn) (m : Int) : Bool := us.any (fun r => decide (r.1 < b) && hasR (r.1, min r.2 (b - r.1)) m)
theorem redo_take {us : List Rn} {k : Nat} {x : Rn} {b : Int} (h : us[k]? = some x) (m : Int) : redo b (us.take (k + 1)) m = (redo b (us.take k) m || (decide (x.1 < b) && hasR (x.1, min x.2 (b - x.1)) m)) := by
  unfold redo
  rw [List.take_add_one, h, List.any_append]
  simp
theorem redo_all {l : List Rn} (h : Tidy l) (b m : Int) : (inB (dropL l b) m || redo b l m) = inB l m := by
  rw [(drop_law h b).2 m, Bool.eq_iff_iff]
  unfold redo
  rw [Bool.or_eq_true, Bool.and_eq_true, List.any_eq_true, decide_eq_true_eq]
  constructor
  · rintro (⟨h1, _⟩ | ⟨r, hr, h1⟩)
    · exact h1
    · rw [Bool.and_eq_true, hasR_iff] at h1
      unfold rto at h1
      dsimp only at h1
      exact inB_iff.mpr ⟨r, hr, h1.2.1, by unfold rto; omega⟩
  · intro h1
    by_cases hb : b ≤ m
    · exact .inl ⟨h1, hb⟩
    · obtain ⟨r, hr, g1, g2⟩ := inB_iff.mp h1
      refine .inr ⟨r, hr, ?_⟩
      rw [Bool.and_eq_true, hasR_iff, decide_eq_true_eq]
      unfold rto at g2 ⊢
      dsimp only
      omega
/-- A run of tidy ones, cut, is held whole. -/
theorem heldR_cut {l : List Rn} (h : Tidy l) {r : Rn} (hr : r ∈ l) {b : Int} (hb : r.1 < b) : heldR r.1 (min r.2 (b - r.1)) = (r.1, min r.2 (b - r.1)) := by
  have := h.ok r hr
  unfold rto at this
  unfold heldR
  rw [if_neg (by omega), if_neg (by omega)]
  congr 1
  omega
theorem heldR_self {l : List Rn} (h : Tidy l) {r : Rn} (hr : r ∈ l) : heldR r.1 r.2 = r := by
  have := h.ok r hr
  unfold rto at this
  unfold heldR
  rw [if_neg (by omega), if_neg (by omega)]
  exact Prod.ext rfl (by dsimp only; omega)
theorem any_held {l : List Rn} (h : Tidy l) (m : Int) : l.any (fun x => hasR (heldR x.1 x.2) m) = inB l m := by
  unfold inB
  rw [Bool.eq_iff_iff, List.any_eq_true, List.any_eq_true]
  constructor
  · rintro ⟨r, hr, g⟩
    rw [heldR_self h hr] at g
    exact ⟨r, hr, g⟩
  · rintro ⟨r, hr, g⟩
    exact ⟨r, hr, by rw [heldR_self h hr]; exact g⟩
end Go.Proofs.Ytnigfdldfmiaiaa
