/- Contracts: slices.DeleteFunc, whole. -/
import Derived.Test.YtnigfdldfmiaiaaSpan17
namespace Go.Proofs.Ytnigfdldfmiaiaa
open Go.ChangeShapes Go.WideShapes Go.ChangeAt Go.RowKit
set_option linter.unusedVariables false
set_option linter.unusedSimpArgs false
theorem delete_any (base : Nat) (A : Option Addr) (n c : Nat) (l : List Rn) (hn : l.length = n) (hnb : n ≤ 4294967296) (hT : Tidy l) (b : Int) (xb : Nat) (w : World) (hxA : (Value.slice A n c).ownBlock ≠ some xb) (hb : Blk w xb 3 #[.int .i64 b]) (h : Own layR 32 w base (.slice A n c) l) :
    Calls Try.prog 76 #[.slice A n c, .func (.func 77) #[] #[.pointer (some ⟨xb, 0, none⟩)]] w (RowOf base (keepB b l).length (.slice A n c) (keepB b l) w) := by
  by_cases hd : ∃ x, l[0]? = some x ∧ dropB b x = true
  · have hl0 : 0 < l.length := by
      obtain ⟨x, hx, _⟩ := hd
      exact (List.getElem?_eq_some_iff.mp hx).1
    obtain ⟨g, cap, cur, e1, _⟩ := h.block hl0
    injection e1 with e1 e2 e3
    subst e1 e3
    exact delete_some base g c n l hn hnb hT b hd xb (fun e => hxA (by rw [e]; rfl)) w hb h
  · refine delete_none base A n c l hn hnb hT b (fun x hx => ?_) xb w hb h
    cases hxd : dropB b x with
    | false => rfl
    | true =>
      exfalso
      obtain ⟨k, hk, e⟩ := List.getElem_of_mem hx
      have hl0 : 0 < l.length := by omega
      refine hd ⟨l[0], List.getElem?_eq_getElem hl0, ?_⟩
      by_cases h0 : k = 0
      · subst h0
        rw [e]
        exact hxd
      · have h1 := hT.lt_at (List.getElem?_eq_getElem hl0) (List.getElem?_eq_getElem hk) (by omega)
        have h2 := hT.okAt (List.getElem?_eq_getElem hk)
        rw [e] at h1 h2
        unfold dropB at hxd ⊢
        simp at hxd ⊢
        omega
theorem dropL_keep (l : List Rn) (b : Int) : dropL l b = match keepB b l with
  | [] => []
  | a :: m => if a.1 < b then (b, rto a - b) :: m else a :: m := rfl
theorem keepB_tidy {l : List Rn} (h : Tidy l) (b : Int) : Tidy (keepB b l) := ⟨h.rise.sublist List.filter_sublist, fun r hr => h.ok r (List.mem_filter.mp hr).1⟩
theorem keepB_end {l : List Rn} {b : Int} {x : Rn} (h : x ∈ keepB b l) : b < rto x := by
  have := (List.mem_filter.mp h).2
  unfold dropB at this
  simp at this
  exact this
end Go.Proofs.Ytnigfdldfmiaiaa
