/-
  'make' and 'copy' of slices of elements of several cells each (the kit's laws of copy serve elements of one cell).
-/
import Derived.Test.YtjldgialhgfhmaaSeq
namespace Go.Proofs.Ytjldgialhgfhmaa
set_option linter.unusedVariables false
set_option linter.unusedSimpArgs false
open Go.RowKit
section
variable {P : Program} {α : Type} {n : Nat} {E : Lay α n} {t e : TypeId} {bytes : Nat} {w : World}
theorem run_copy_rowN (w : World) (dT sT ty elem : TypeId) (n m : Nat) (g o dLen dCap : Nat) (a : Addr) (sLen sCap : Nat) (cur : Array Value) (t : TypeId) (cs : List Value)
    (hu : P.underlying dT = some (.slice elem)) (hs : (P.info? elem).map (·.size) = some n)
    (hg : w.heap[g]? = some (.cells cur t (0, 0))) (hm : m = Nat.min sLen dLen) (hn : cs.length = m * n)
    (hsrc : ∀ j v, cs[j]? = some v → w.cell? (a.add j) = some v) (hfit : o + cs.length ≤ cur.size) (h1 : ∀ v ∈ cs, v.oneCell' = true) :
    (Builtin.copy_ #[dT, sT] ty #[.slice (some ⟨g, o, none⟩) dLen dCap, .slice (some a) sLen sCap]).run P w =
      .ok (goInt m) (w.setRow g (cur.toList.take o ++ cs ++ cur.toList.drop (o + cs.length)).toArray) := by
  have hl := run_loadCells_list (P := P) w a cs hsrc
  have hst := run_storeCells_at P g o t cs 0 cur w hg (by simpa using hfit) h1
  cases hq : P.info? elem with
  | none => simp [hq] at hs
  | some i =>
    have hi : i.size = n := by simpa [hq] using hs
    rw [hn] at hl
    simp [Builtin.copy_, run_underlying hu, Builtin.lenOf, Builtin.firstCells, sizeOf, typeInfo, hq, hi, ← hm, hl, hst]
theorem run_copy_noneN (w : World) (dT sT ty elem : TypeId) (n : Nat) (d a : Option Addr) (dLen dCap sLen sCap : Nat) (hu : P.underlying dT = some (.slice elem)) (hs : (P.info? elem).map (·.size) = some n) (hn : Nat.min sLen dLen = 0) :
    (Builtin.copy_ #[dT, sT] ty #[.slice d dLen dCap, .slice a sLen sCap]).run P w = .ok (goInt 0) w := by
  cases hq : P.info? elem with
  | none => simp [hq] at hs
  | some i =>
    have hl : ∀ (x : Addr), (loadCells x 0).run P w = .ok #[] w := fun x => by simpa using run_loadCells_list (P := P) w x [] (by simp)
    cases d <;> cases a <;> simp [Builtin.copy_, run_underlying hu, Builtin.lenOf, Builtin.firstCells, sizeOf, typeInfo, hq, hn, storeCells, hl]
theorem wpList_makeE {ops : Array Oper} {rest : List Oper} {o : Oper} {a : Act} {Q : Exit → Act → World → Prop} (hgd : o.guard = none) (T : SliceTy P t e n bytes) (l c : Operand) (hop : o.op = Op.makeSlice t l c)
    (m : Nat) (L C : Int) (hl : a.eval l = .int .i64 L) (hc : a.eval c = .int .i64 C) (hL : L = (m : Int)) (hC : C = (m : Int)) (hb : bytes * m ≤ 281474976710656) (hm : m ≤ maxLen)
    (h : ∀ w' cs, cs.size = m * n → Blk w' w.heap.size e cs → Fine w w' → wpList P ops Q rest (a.put o.dst (.slice (some ⟨w.heap.size, 0, none⟩) m m)) w') : wpList P ops Q (o :: rest) a w := by
  obtain ⟨i, z, hi, hz, hsize, hby, hzs⟩ := T.hi
  refine wpList_make_full w hgd l c t hop w.heap.size e i z n T.ht hi hz hsize .i64 .i64 L C m hl hc hL hC (by rw [hby]; exact hb) hm (Nat.le_refl _) fun w' hown hg => ?_
  have hf : Fine w w' := (Fine.refl w).grown hg (fun k hk => by cases hk)
  obtain ⟨_, hv⟩ := hown
  rcases hv with ⟨h1, _⟩ | ⟨g, cap, cur, h1, _, hh, _, _, hcs, ht⟩
  · cases h1
  · injection h1 with h1 _ h3
    injection h1 with h1
    injection h1 with h1 _
    subst h1 h3
    exact h w' cur hcs hh hf
/-- All of a slice is copied into a block of its size. -/
theorem wpList_copyE {ops : Array Oper} {rest : List Oper} {o : Oper} {a : Act} {Q : Exit → Act → World → Prop} (hgd : o.guard = none) (T : SliceTy P t e n bytes) (d s : Operand)
    (ho : o.op = .call { callee := .builtin .copy, args := #[d, s], argTypes := #[t, t] })
    (g : Nat) (cs : Array Value) (hblk : Blk w g e cs) (m C : Nat) (hd : a.eval d = .slice (some ⟨g, 0, none⟩) m C) (A : Option Addr) (m2 c : Nat) (xs : List α) (hs : a.eval s = .slice A m2 c) (hm : m = xs.length) (hm2 : m2 = xs.length) (hsz : cs.size = xs.length * n) (hr : RS E w A c xs)
    (h : ∀ w', Blk w' g e (E.flat xs).toArray → Kept (· = g) w w' → wpList P ops Q rest (a.put o.dst (goInt xs.length)) w') : wpList P ops Q (o :: rest) a w := by
  subst hm hm2
  have hlt := hblk.lt
  refine wpList_plain hgd fun K hK => ?_
  by_cases h0 : xs.length = 0
  · have hrun := run_copy_noneN (P := P) w t t o.type e n (some ⟨g, 0, none⟩) A xs.length C xs.length c T.ht T.size (by simp [h0])
    unfold Oper.wp
    simp [execOp, ho, resolve, invoke, builtin, hd, hs, hrun, Result.andThen]
    have e0 : xs = [] := List.eq_nil_of_length_eq_zero h0
    subst e0
    refine hK _ _ (h w ?_ (Kept.refl _ _))
    have : cs = #[] := Array.eq_empty_of_size_eq_zero (by simpa using hsz)
    subst this
    exact hblk
  · obtain ⟨b, off, e1, _, hc⟩ := hr.2.2.2 (by omega)
    subst e1
    have hfl : (E.flat xs).length = xs.length * n := E.flat_length xs
    have hrun := run_copy_rowN (P := P) w t t o.type e n xs.length g 0 xs.length C ⟨b, off, none⟩ xs.length c cs e (E.flat xs) T.ht T.size hblk (by simp [Nat.min_def]) hfl
      (fun j v hv => by rw [Go.WideShapes.add_plain]; exact hc j v hv) (by omega) (E.flat_oneCell xs)
    have e1 : (cs.toList.take 0 ++ E.flat xs ++ cs.toList.drop (0 + (E.flat xs).length)).toArray = (E.flat xs).toArray := by
      congr 1
      rw [List.take_zero, List.nil_append, List.drop_eq_nil_of_le (by rw [Array.length_toList]; omega), List.append_nil]
    rw [e1] at hrun
    unfold Oper.wp
    simp [execOp, ho, resolve, invoke, builtin, hd, hs, hrun, Result.andThen]
    refine hK _ _ (h _ ?_ ?_)
    · unfold Blk at hblk ⊢
      simp [World.setRow, Array.getElem?_modify, hblk]
    · exact ⟨rfl, rfl, rfl, by simp [World.setRow], fun k hk hne => setRow_other w g k _ hne⟩
end
end Go.Proofs.Ytjldgialhgfhmaa
