/- Two flows: a step; how they begin. -/
import Derived.Test.YtjldgialhgfhmaaXFlow29p0
import Derived.Test.YtjldgialhgfhmaaXFlow29p1
import Derived.Test.YtjldgialhgfhmaaXFlow29p2
import Derived.Test.YtjldgialhgfhmaaXFlow29s0
import Derived.Test.YtjldgialhgfhmaaXFlow29s1
import Derived.Test.YtjldgialhgfhmaaXFlow29c
import Derived.Test.YtjldgialhgfhmaaXFlow29t
import Derived.Test.YtjldgialhgfhmaaNl
namespace Go.Proofs.Ytjldgialhgfhmaa
set_option linter.unusedVariables false
set_option linter.unusedSimpArgs false
open Go.ChangeShapes Go.WideShapes Go.ChangeAt Go.RowKit Go.Maps
set_option linter.unusedVariables false
set_option linter.unusedSimpArgs false
section
variable {col : Nat → Nat} {w0 w : World} {g : Nat} {P : Pr}
theorem step_any (h : PrS col w0 w g P) (kind i : Int) (hi : -9223372036854775808 ≤ i ∧ i ≤ 9223372036854775807) (hF : Fits P kind i) :
    Calls Try.prog 43 #[.pointer (some ⟨g, 0, none⟩), .agg #[.int .i64 kind, .int .i64 i]] w fun e w' => e = .returned (.tuple #[]) ∧ PrOf col w0 g (P.step kind i) w w' := by
  by_cases h0 : 0 ≤ kind ∧ kind ≤ 2
  · by_cases hw : P.flush.way = []
    · exact step_none h kind i (.inr (.inr ⟨h0.1, h0.2, hw⟩)) hi hF
    · rcases (by omega : kind = 0 ∨ kind = 1 ∨ kind = 2) with e | e | e
      · exact step_pass0 h kind i e hi hF hw
      · exact step_pass1 h kind i e hi hF hw
      · exact step_pass2 h kind i e hi hF hw
  · rcases (by omega : kind = 3 ∨ kind = 4 ∨ kind = 5 ∨ kind = 6 ∨ kind = 7 ∨ (kind < 0 ∨ 7 < kind)) with e | e | e | e | e | e
    · exact step_send0 h kind i e hi hF
    · exact step_send1 h kind i e hi hF
    · exact step_close0 h kind i e hi hF
    · exact step_close1 h kind i e hi hF
    · exact step_tick h kind i e hi hF
    · exact step_none h kind i (e.imp id .inl) hi hF
end
/-- What lies at g, whatever the colours. -/
def At (w0 : World) (g : Nat) (P : Pr) (w : World) : Prop := ∃ col, PrS col w0 w g P
section
variable {w0 w w' : World} {g : Nat} {P : Pr}
theorem At.fine_ (h : At w0 g P w) (f : Fine w w') : At w0 g P w' := by
  obtain ⟨c, h⟩ := h
  exact ⟨c, h.fine_ f⟩
theorem At.from0 (h : At w0 g P w) : Fine w0 w := by
  obtain ⟨c, f0, p1, wA, wc, ks, a0, a1, b0, b1, X⟩ := h
  exact X.fine
theorem At.step_ (h : At w0 g P w) (kind i : Int) (hi : -9223372036854775808 ≤ i ∧ i ≤ 9223372036854775807) (hF : Fits P kind i) :
    Calls Try.prog 43 #[.pointer (some ⟨g, 0, none⟩), .agg #[.int .i64 kind, .int .i64 i]] w fun e w' => e = .returned (.tuple #[]) ∧ At w0 g (P.step kind i) w' := by
  obtain ⟨c, h⟩ := h
  refine (step_any h kind i hi hF).mono ?_
  rintro e w' ⟨h1, c1, h2, _⟩
  exact ⟨h1, c1, h2⟩
theorem At.flush_ (h : At w0 g P w) (hF : Fit P) : Calls Try.prog 46 #[.pointer (some ⟨g, 0, none⟩)] w fun e w' => e = .returned (.tuple #[]) ∧ At w0 g P.flush w' := by
  obtain ⟨c, h⟩ := h
  refine (flush_any h (fun o ho => hF.f0.out o ho) (fun o ho => hF.out1 o ho)).mono ?_
  rintro e w' ⟨h1, c1, h2, _⟩
  exact ⟨h1, c1, h2⟩
end
open Classical in
theorem pair_start {w w1 : World} {f : Nat} {F : Nat → Prop} (iss : Int) (h : FlS F w1 f ((flow0 iss 1 0).send synP 0)) (hF : ∀ b, F b → w.heap.size ≤ b) (f1 : Fine w w1) :
    At w w1.heap.size (pair0 iss) (w1.alloc (.cells #[.pointer (some ⟨f, 0, none⟩), .pointer none, .slice none 0 0, .slice none 0 0, .slice none 0 0, .slice none 0 0, .slice none 0 0, .int .i64 0] 77)) := by
  have fa := (Fine.refl w1).alloc (.cells #[.pointer (some ⟨f, 0, none⟩), .pointer none, .slice none 0 0, .slice none 0 0, .slice none 0 0, .slice none 0 0, .slice none 0 0, .int .i64 0] 77)
  have hb := Blk.newAt (w := w1) (t := 77) (cs := #[.pointer (some ⟨f, 0, none⟩), .pointer none, .slice none 0 0, .slice none 0 0, .slice none 0 0, .slice none 0 0, .slice none 0 0, .int .i64 0]) rfl
  generalize w1.alloc (.cells #[.pointer (some ⟨f, 0, none⟩), .pointer none, .slice none 0 0, .slice none 0 0, .slice none 0 0, .slice none 0 0, .slice none 0 0, .int .i64 0] 77) = w2 at fa hb ⊢
  obtain ⟨col, hc⟩ : ∃ z : Nat → Nat, z = fun b => if b = w1.heap.size then 9 else if F b then 1 else 0 := ⟨_, rfl⟩
  have h9 : col w1.heap.size = 9 := by rw [hc]; exact if_pos rfl
  have h1 : ∀ b, col b = 1 ↔ F b := fun b => by
    rw [hc]
    show (if b = w1.heap.size then 9 else if F b then 1 else 0) = 1 ↔ F b
    split
    · rename_i e
      exact ⟨fun e => (by cases e), fun hf => by have := h.lt b hf; omega⟩
    · split
      · rename_i e; exact ⟨fun _ => e, fun _ => rfl⟩
      · rename_i e; exact ⟨fun e2 => (by cases e2), fun e2 => absurd e2 e⟩
  have hn : ∀ b, col b ≠ 0 → b = w1.heap.size ∨ F b := fun b hb => by
    rw [hc] at hb
    replace hb : (if b = w1.heap.size then 9 else if F b then 1 else 0) ≠ 0 := hb
    split at hb
    · rename_i e; exact .inl e
    · split at hb
      · rename_i e; exact .inr e
      · exact absurd rfl hb
  have e1 : (fun b => col b = 1) = F := funext fun b => propext (h1 b)
  have hlt := hb.lt
  refine ⟨col, f, none, none, 0, [], ⟨none, 0, 0⟩, ⟨none, 0, 0⟩, ⟨none, 0, 0⟩, ⟨none, 0, 0⟩, f1.trans fa, fun b hb => ?_, h9, hb, by rw [e1]; exact h.fine fa, fun T e => (by cases e), fun _ => rfl, Own.nil_ _ _ _ _, fun b e => (by cases e), fun k hk => (by cases hk), rfl, Own.nil_ _ _ _ _, fun b e => (by cases e), Own.nil_ _ _ _ _, fun b e => (by cases e), Own.nil_ _ _ _ _, fun b e => (by cases e), Own.nil_ _ _ _ _, fun b e => (by cases e)⟩
  rcases hn b hb with e | e
  · exact ⟨by rw [e]; exact f1.size, by rw [e]; exact hlt⟩
  · exact ⟨hF b e, Nat.lt_of_lt_of_le (h.lt b e) fa.size⟩
/-! What is done, one behind the other. -/
def acts (n : Nat) (zs : Nat → Nat → Int) : List (Int × Int) := (List.range n).map fun j => (zs j 0, zs j 1)
theorem stepped_succ (iss : Int) {l : List (Int × Int)} {j : Nat} {a : Int × Int} (h : l[j]? = some a) : stepped iss (l.take (j + 1)) = (stepped iss (l.take j)).step a.1 a.2 := by
  unfold stepped
  rw [List.take_add_one, h, List.foldl_append]
  rfl
theorem good_stepped (iss : Int) (hi : 0 ≤ iss ∧ iss < 4294967296) (l : List (Int × Int)) (hl : l.length ≤ 700) : Good (stepped iss l) iss (2 + 9 * l.length) (2 + l.length) l.length := by
  have key : ∀ (l : List (Int × Int)) (P : Pr) (K L : Nat) (t : Int), K + 9 * l.length + 9 < 1000000 → L + l.length + 1 ≤ 800 → t + l.length ≤ 1099511626999 → Good P iss K L t → Good (l.foldl (fun P a => P.step a.1 a.2) P) iss (K + 9 * l.length) (L + l.length) (t + l.length) := by
    intro l
    induction l with
    | nil => intro P K L t _ _ _ h; exact h.more (by simp) (by simp) (by simp)
    | cons x l ih =>
      intro P K L t hK hL ht h
      simp only [List.length_cons] at hK hL ht
      have h' := (h.step (by omega) (by omega) (by omega) x.1 x.2).2
      have h2 := ih _ _ _ _ (by omega) (by omega) (by omega) h'
      exact h2.more (by simp only [List.length_cons]; omega) (by simp only [List.length_cons]; omega) (by simp only [List.length_cons]; omega)
  have := key l (pair0 iss) 2 2 0 (by omega) (by omega) (by omega) (good0 hi)
  exact this.more (by omega) (by omega) (by omega)
/-- The numbers that an act has. -/
theorem acts_at {n j : Nat} {zs : Nat → Nat → Int} (h : j < n) : (acts n zs)[j]? = some (zs j 0, zs j 1) := by
  unfold acts
  rw [List.getElem?_map, List.getElem?_range h]
  rfl
theorem acts_len (n : Nat) (zs : Nat → Nat → Int) : (acts n zs).length = n := by unfold acts; simp
end Go.Proofs.Ytjldgialhgfhmaa
