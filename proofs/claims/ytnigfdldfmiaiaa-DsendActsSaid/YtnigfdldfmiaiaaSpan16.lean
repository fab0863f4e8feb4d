/- Contracts: slices.DeleteFunc. -/
import Derived.Test.YtnigfdldfmiaiaaSpan15
namespace Go.Proofs.Ytnigfdldfmiaiaa
open Go.ChangeShapes Go.WideShapes Go.ChangeAt Go.RowKit
set_option linter.unusedVariables false
set_option linter.unusedSimpArgs false
def keepB (b : Int) (l : List Rn) : List Rn := l.filter (fun r => !dropB b r)
theorem keepB_none {b : Int} {l : List Rn} (h : ∀ x ∈ l, dropB b x = false) : keepB b l = l := by
  unfold keepB
  rw [List.filter_eq_self]
  intro x hx
  rw [h x hx]
  rfl
theorem keepB_take {b : Int} {l : List Rn} {j : Nat} {x : Rn} (h : l[j]? = some x) : keepB b (l.take (j + 1)) = keepB b (l.take j) ++ (if dropB b x then [] else [x]) := by
  unfold keepB
  rw [List.take_add_one, h, List.filter_append]
  cases hd : dropB b x <;> simp [hd]
/-- Tidy runs end one behind the other: what is dropped stands in front. -/
theorem first_drop {l : List Rn} (hT : Tidy l) {b : Int} {k : Nat} {x : Rn} (hx : l[k]? = some x) (hd : dropB b x = true) (hb : ∀ j y, l[j]? = some y → j < k → dropB b y = false) : k = 0 := by
  by_cases h : k = 0
  · exact h
  · have hkl := (List.getElem?_eq_some_iff.mp hx).1
    obtain ⟨y, hy⟩ : ∃ y, l[k - 1]? = some y := ⟨_, List.getElem?_eq_getElem (by omega)⟩
    have h1 := hb (k - 1) y hy (by omega)
    have h2 := hT.lt_at hy hx (by omega)
    have h3 := hT.okAt hx
    unfold dropB at hd h1
    simp at hd h1
    omega
theorem set_two {cs : List Rn} {i : Nat} {a b c : Int} (h : cs[i]? = some (a, b)) (d : Int) : (cs.set i (c, b)).set i (c, d) = cs.set i (c, d) := by
  rw [List.set_set]
set_option maxHeartbeats 2000000 in
set_option maxRecDepth 20000 in
theorem delete_none (base : Nat) (A : Option Addr) (n c : Nat) (l : List Rn) (hn : l.length = n) (hnb : n ≤ 4294967296) (hT : Tidy l) (b : Int) (hd : ∀ x ∈ l, dropB b x = false) (xb : Nat) (w : World) (hb : Blk w xb 3 #[.int .i64 b]) (h : Own layR 32 w base (.slice A n c) l) :
    Calls Try.prog 76 #[.slice A n c, .func (.func 77) #[] #[.pointer (some ⟨xb, 0, none⟩)]] w (RowOf base (keepB b l).length (.slice A n c) (keepB b l) w) := by
  rw [keepB_none hd, hn]
  have HI := Lib.hid (indexFunc_any A n c l hn hnb hT b xb w hb h.rs.1)
  have H := Lib.hid h; have HD := Lib.hid hd
  clear h hb hn hT hd
  go_enter Try.func76, Try.ntmps76
  go_wp2_with fail
  refine HI.out.mono ?_
  rintro e w1 ⟨f1, hk⟩
  rcases hk with ⟨k, _, _, _, x, hx, hxd⟩ | ⟨rfl, _⟩
  · have := HD.out x (List.mem_of_getElem? hx)
    rw [this] at hxd
    cases hxd
  · have F1 := Lib.hid f1
    clear f1
    go_wp2_with fail
    go_ret
    exact ⟨A, c, rfl, H.out.fine F1.out, Kept.of_fine F1.out, .inl rfl⟩
end Go.Proofs.Ytnigfdldfmiaiaa
