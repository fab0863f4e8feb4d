/- The walk of a region that reads, whose callees only lay blocks. Contracts: Add. -/
import Derived.Test.YtnigfdldfmiaiaaSpan9
import Derived.Deep.QuietTactic
import Derived.BigQuiet
namespace Go.Proofs.Ytnigfdldfmiaiaa
open Go.ChangeShapes Go.WideShapes Go.ChangeAt Go.RowKit
set_option linter.unusedVariables false
set_option linter.unusedSimpArgs false
structure FineBy (w : World) where
  W : World
  h : Fine w W
instance (w : World) : Inhabited (FineBy w) := ⟨⟨w, Fine.refl w⟩⟩
theorem wp_region_quiet_fine {P : Program} {id : Nat} {Q : Exit → Act → World → Prop} {a : Act} {w : World} {l : List Oper} (hm : P.follows .mixedOrders = true) (hB : Region.lexB .any l.toArray = true)
    (h : wpQuiet P l.toArray (fun w' => ∃ p : FineBy w, w' = p.W) (fun a' => ∀ w', (∃ p : FineBy w, w' = p.W) → Q .normal a' w') l a) : (Code.region id l.toArray true).wp P Q a w :=
  wp_region_quiet (C := fun w' => ∃ p : FineBy w, w' = p.W) hm hB ⟨⟨w.drew, (Fine.refl w).drew⟩, rfl⟩ (by simpa using h)
theorem Calls.fine_of {P : Program} {f : FuncId} {args : Array Value} {w : World} {p : FineBy w} {v : Value}
    (h : Calls P f args p.W fun e w' => e = .returned v ∧ Fine p.W w') : Calls P f args p.W fun e w'' => e = .returned v ∧ ∃ q : FineBy w, w'' = q.W :=
  h.mono fun _ _ ⟨he, hq⟩ => ⟨he, ⟨_, p.h.trans hq⟩, rfl⟩
theorem FineBy.of {w w' : World} (h : ∃ p : FineBy w, w' = p.W) : Fine w w' := by obtain ⟨p, rfl⟩ := h; exact p.h
/-! What Search finds. -/
theorem Tidy.lt_at {l : List Rn} (h : Tidy l) {k k' : Nat} {x y : Rn} (hk : l[k]? = some x) (hk' : l[k']? = some y) (hlt : k < k') : rto x < y.1 := by
  obtain ⟨h1, e1⟩ := List.getElem?_eq_some_iff.mp hk
  obtain ⟨h2, e2⟩ := List.getElem?_eq_some_iff.mp hk'
  have := List.pairwise_iff_getElem.mp h.rise k k' h1 h2 hlt
  rw [e1, e2] at this
  exact this
theorem Tidy.okAt {l : List Rn} (h : Tidy l) {k : Nat} {x : Rn} (hk : l[k]? = some x) : 0 ≤ x.1 ∧ 1 ≤ x.2 ∧ rto x ≤ 4294967296 ∧ x.1 < rto x := by
  have := h.ok x (List.mem_of_getElem? hk)
  refine ⟨this.1, this.2.1, this.2.2, ?_⟩
  unfold rto
  omega
theorem found_to {l : List Rn} (h : Tidy l) {a : Int} {i n : Nat} (hn : l.length = n) (hf : Found (toB l a) n i) : i ≤ n ∧ (∀ k x, l[k]? = some x → k < i → rto x < a) ∧ (∀ k x, l[k]? = some x → i ≤ k → a ≤ rto x) := by
  obtain ⟨h1, h2, h3⟩ := hf
  refine ⟨h1, fun k x hk hlt => ?_, fun k x hk hle => ?_⟩
  · have hp := h2 (by omega)
    obtain ⟨y, hy⟩ : ∃ y, l[i - 1]? = some y := ⟨_, List.getElem?_eq_getElem (by omega)⟩
    have hya : rto y < a := by
      unfold toB at hp
      rw [hy] at hp
      simpa using hp
    by_cases e : k = i - 1
    · subst e
      rw [hk] at hy
      injection hy with hy
      rw [hy]
      exact hya
    · have := h.lt_at hk hy (by omega)
      have := h.okAt hy
      omega
  · have hkn : k < n := hn ▸ (List.getElem?_eq_some_iff.mp hk).1
    have hp := h3 (by omega)
    obtain ⟨y, hy⟩ : ∃ y, l[i]? = some y := ⟨_, List.getElem?_eq_getElem (by omega)⟩
    have hya : a ≤ rto y := by
      unfold toB at hp
      rw [hy] at hp
      simpa using hp
    by_cases e : k = i
    · subst e
      rw [hk] at hy
      injection hy with hy
      rw [hy]
      exact hya
    · have := h.lt_at hy hk (by omega)
      have := h.okAt hk
      omega
theorem found_from {l : List Rn} (h : Tidy l) {a : Int} {i n : Nat} (hn : l.length = n) (hf : Found (fromB l a) n i) : i ≤ n ∧ (∀ k x, l[k]? = some x → k < i → x.1 ≤ a) ∧ (∀ k x, l[k]? = some x → i ≤ k → a < x.1) := by
  obtain ⟨h1, h2, h3⟩ := hf
  refine ⟨h1, fun k x hk hlt => ?_, fun k x hk hle => ?_⟩
  · have hp := h2 (by omega)
    obtain ⟨y, hy⟩ : ∃ y, l[i - 1]? = some y := ⟨_, List.getElem?_eq_getElem (by omega)⟩
    have hya : y.1 ≤ a := by
      unfold fromB at hp
      rw [hy] at hp
      simpa using hp
    by_cases e : k = i - 1
    · subst e
      rw [hk] at hy
      injection hy with hy
      rw [hy]
      exact hya
    · have := h.lt_at hk hy (by omega)
      have := h.okAt hk
      omega
  · have hkn : k < n := hn ▸ (List.getElem?_eq_some_iff.mp hk).1
    have hp := h3 (by omega)
    obtain ⟨y, hy⟩ : ∃ y, l[i]? = some y := ⟨_, List.getElem?_eq_getElem (by omega)⟩
    have hya : a < y.1 := by
      unfold fromB at hp
      rw [hy] at hp
      simpa using hp
    by_cases e : k = i
    · subst e
      rw [hk] at hy
      injection hy with hy
      rw [hy]
      exact hya
    · have := h.lt_at hy hk (by omega)
      have := h.okAt hy
      omega
end Go.Proofs.Ytnigfdldfmiaiaa
