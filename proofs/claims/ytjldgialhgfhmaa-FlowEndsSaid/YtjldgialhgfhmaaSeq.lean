/-
  Slices of elements of several cells each, over any program: one that is read ('RS'), one that is the call's own ('Own'), append, cuts, stores.
-/
import Derived.Test.YtjldgialhgfhmaaMem
import Derived.ProofKit
import Derived.OwnWalk
import Derived.Maps.AppendAt
import Derived.Laws.AppendOwnNone
import Derived.Laws.IdiomStrings
import Derived.Deep.RegionWith
import Derived.Laws.CopyOwn
namespace Go.Proofs.Ytjldgialhgfhmaa
open Go.RowKit

/-- How an element lies: its cells, n of them. -/
structure Lay (α : Type) (n : Nat) where
  cs : α → List Value
  len : ∀ x, (cs x).length = n
  one : ∀ x u, u ∈ cs x → u.oneCell' = true
  pos : 0 < n
namespace Lay
variable {α : Type} {n : Nat} (E : Lay α n)
def flat (xs : List α) : List Value := xs.flatMap E.cs
theorem flat_nil : E.flat [] = [] := rfl
theorem flat_cons (x : α) (xs : List α) : E.flat (x :: xs) = E.cs x ++ E.flat xs := rfl
theorem flat_one (x : α) : E.flat [x] = E.cs x := by simp [flat]
theorem flat_append (xs ys : List α) : E.flat (xs ++ ys) = E.flat xs ++ E.flat ys := by simp [flat]
theorem flat_length (xs : List α) : (E.flat xs).length = xs.length * n := by
  induction xs with
  | nil => simp [flat_nil]
  | cons x xs ih => rw [flat_cons, List.length_append, ih, E.len, List.length_cons, Nat.succ_mul]; omega
theorem flat_oneCell (xs : List α) : ∀ u ∈ E.flat xs, u.oneCell' = true := by
  intro u hu
  obtain ⟨x, _, hx⟩ := List.mem_flatMap.1 hu
  exact E.one x u hx
theorem flat_at {xs : List α} {i : Nat} {x : α} (hi : xs[i]? = some x) {j : Nat} (hj : j < n) : (E.flat xs)[i * n + j]? = (E.cs x)[j]? := by
  induction xs generalizing i with
  | nil => simp at hi
  | cons y ys ih =>
    rw [flat_cons]
    cases i with
    | zero =>
      simp at hi; subst hi
      rw [List.getElem?_append_left (by rw [E.len]; omega)]; simp
    | succ i =>
      rw [List.getElem?_append_right (by rw [E.len, Nat.succ_mul]; omega), E.len, Nat.succ_mul]
      rw [show i * n + n + j - n = i * n + j by omega]
      exact ih (by simpa using hi)
theorem flat_take (xs : List α) (k : Nat) : (E.flat xs).take (k * n) = E.flat (xs.take k) := by
  induction xs generalizing k with
  | nil => simp [flat_nil]
  | cons y ys ih =>
    cases k with
    | zero => simp [flat_nil]
    | succ k =>
      rw [flat_cons, List.take_succ_cons, flat_cons, Nat.succ_mul, ← ih k]
      rw [List.take_append, E.len, List.take_of_length_le (by rw [E.len]; omega)]
      rw [show k * n + n - n = k * n by omega]
theorem flat_drop (xs : List α) (k : Nat) : (E.flat xs).drop (k * n) = E.flat (xs.drop k) := by
  induction xs generalizing k with
  | nil => simp [flat_nil]
  | cons y ys ih =>
    cases k with
    | zero => simp
    | succ k =>
      rw [flat_cons, List.drop_succ_cons, Nat.succ_mul, ← ih k]
      rw [List.drop_append, E.len, List.drop_eq_nil_of_le (by rw [E.len]; omega)]
      rw [show k * n + n - n = k * n by omega]; simp
/-- One cell of one element set. -/
theorem flat_set {xs : List α} {i : Nat} {x y : α} (hi : xs[i]? = some x) {j : Nat} (hj : j < n) {v : Value} (hy : E.cs y = (E.cs x).set j v) : E.flat (xs.set i y) = (E.flat xs).set (i * n + j) v := by
  induction xs generalizing i with
  | nil => simp at hi
  | cons z zs ih =>
    cases i with
    | zero =>
      simp at hi; subst hi
      rw [List.set_cons_zero, flat_cons, flat_cons, hy, List.set_append_left _ _ (by rw [E.len]; omega)]; simp
    | succ i =>
      rw [List.set_cons_succ, flat_cons, flat_cons, ih (by simpa using hi), List.set_append_right _ _ (by rw [E.len, Nat.succ_mul]; omega), E.len, Nat.succ_mul]
      rw [show i * n + n + j - n = i * n + j by omega]
end Lay

section
variable {α : Type} {n : Nat} {E : Lay α n} {w w' : World} {A : Option Addr} {c : Nat} {xs : List α}
/-- A slice that is read: its elements. -/
def RS (E : Lay α n) (w : World) (A : Option Addr) (c : Nat) (xs : List α) : Prop :=
  xs.length ≤ c ∧ c ≤ maxLen ∧ (A = none → c = 0) ∧ (0 < xs.length → ∃ b off, A = some ⟨b, off, none⟩ ∧ b < w.heap.size ∧ ∀ i v, (E.flat xs)[i]? = some v → w.cell? ⟨b, off + i, none⟩ = some v)
theorem RS.le (h : RS E w A c xs) : xs.length ≤ c := h.1
theorem RS.max (h : RS E w A c xs) : c ≤ maxLen := h.2.1
theorem RS.fine (h : RS E w A c xs) (hf : Fine w w') : RS E w' A c xs :=
  ⟨h.1, h.2.1, h.2.2.1, fun hp => by
    obtain ⟨b, off, e, hb, hc⟩ := h.2.2.2 hp
    exact ⟨b, off, e, Nat.lt_of_lt_of_le hb hf.size, fun i v hv => (hf.cell hb).trans (hc i v hv)⟩⟩
theorem RS.kept {S : Nat → Prop} (h : RS E w A c xs) (hf : Kept S w w') (hn : ∀ b off, A = some ⟨b, off, none⟩ → ¬ S b) : RS E w' A c xs :=
  ⟨h.1, h.2.1, h.2.2.1, fun hp => by
    obtain ⟨b, off, e, hb, hc⟩ := h.2.2.2 hp
    exact ⟨b, off, e, Nat.lt_of_lt_of_le hb hf.size, fun i v hv => (hf.cell hb (hn b off e)).trans (hc i v hv)⟩⟩
theorem RS.grown {row : Option Nat} (h : RS E w A c xs) (hg : w.grownBy w' row) (hn : ∀ b off, A = some ⟨b, off, none⟩ → row ≠ some b) : RS E w' A c xs :=
  ⟨h.1, h.2.1, h.2.2.1, fun hp => by
    obtain ⟨b, off, e, hb, hc⟩ := h.2.2.2 hp
    exact ⟨b, off, e, Nat.lt_of_lt_of_le hb hg.size, fun i v hv => (World.cell?_of_block (hg.block b hb (fun e1 => hn b off e e1.symm))).trans (hc i v hv)⟩⟩
theorem RS.nil_ (E : Lay α n) (w : World) : RS E w none 0 [] := ⟨Nat.le_refl _, Nat.zero_le _, fun _ => rfl, fun h => absurd h (by simp)⟩
theorem RS.at_ (h : RS E w A c xs) {k : Nat} {x : α} (hk : xs[k]? = some x) :
    ∃ b off, A = some ⟨b, off, none⟩ ∧ b < w.heap.size ∧ ∀ j v, (E.cs x)[j]? = some v → w.cell? ⟨b, off + (k * n + j), none⟩ = some v := by
  have hlt := (List.getElem?_eq_some_iff.1 hk).1
  obtain ⟨b, off, e, hb, hc⟩ := h.2.2.2 (by omega)
  refine ⟨b, off, e, hb, fun j v hj => hc _ v ?_⟩
  have hjn : j < n := by have := (List.getElem?_eq_some_iff.1 hj).1; rwa [E.len] at this
  rw [E.flat_at hk hjn]; exact hj
theorem RS.cast {xs' : List α} (h : RS E w A c xs) (e : xs = xs') : RS E w A c xs' := e ▸ h
/-- 's[:k]'. -/
theorem RS.front (h : RS E w A c xs) (k : Nat) (hk : k ≤ xs.length) : RS E w A c (xs.take k) := by
  have hl := h.le
  refine ⟨by simp; omega, h.2.1, h.2.2.1, fun hp => ?_⟩
  rw [List.length_take] at hp
  obtain ⟨b, off, e, hb, hc⟩ := h.2.2.2 (by omega)
  refine ⟨b, off, e, hb, fun i v hv => hc i v ?_⟩
  rw [← E.flat_take] at hv
  rw [List.getElem?_take] at hv
  split at hv
  · exact hv
  · cases hv
/-- 's[k:]', as the model lays it. -/
theorem RS.behind (h : RS E w A c xs) (k : Nat) (hk : k ≤ xs.length) (A' : Option Addr)
    (hA : ∀ b off, A = some ⟨b, off, none⟩ → k < c → A' = some ⟨b, off + k * n, none⟩) (hN : A' = none → c = k) : RS E w A' (c - k) (xs.drop k) := by
  have hl := h.le
  have hm := h.2.1
  refine ⟨by simp; omega, by unfold maxLen at *; omega, fun e => by have := hN e; omega, fun hp => ?_⟩
  rw [List.length_drop] at hp
  obtain ⟨b, off, e, hb, hc⟩ := h.2.2.2 (by omega)
  refine ⟨b, off + k * n, hA b off e (by omega), hb, fun i v hv => ?_⟩
  rw [Nat.add_assoc]
  refine hc (k * n + i) v ?_
  rw [← E.flat_drop, List.getElem?_drop] at hv
  exact hv
/-- A block that holds just such elements. -/
theorem RS.ofBlk {g : Nat} {t : TypeId} {cs : Array Value} (h : Blk w g t cs) (e : cs.toList = E.flat xs) (hc : c = xs.length) (hm : c ≤ maxLen) : RS E w (some ⟨g, 0, none⟩) c xs :=
  ⟨by omega, hm, (fun e => by cases e), fun _ => ⟨g, 0, rfl, h.lt, fun i v hv => by rw [Nat.zero_add, h.cell i, ← Array.getElem?_toList, e]; exact hv⟩⟩
end

/-! One that is the call's own. -/
section
variable {α : Type} {n : Nat} {E : Lay α n} {e : TypeId} {w w' : World} {base : Nat} {v : Value} {xs : List α}
def Own (E : Lay α n) (e : TypeId) (w : World) (base : Nat) (v : Value) (xs : List α) : Prop := w.ownsRow base e n v xs.length (E.flat xs)
theorem Own.nil_ (E : Lay α n) (e : TypeId) (w : World) (base : Nat) : Own E e w base (.slice none 0 0) [] := World.ownsRow_nil _ _ _ _
/-- A literal. -/
theorem Own.lit (w : World) (cs : Array Value) (hcs : cs.toList = E.flat xs) (hb : base ≤ w.heap.size) (hm : xs.length ≤ maxLen) : Own E e (w.alloc (.cells cs e)) base (.slice (some ⟨w.heap.size, 0, none⟩) xs.length xs.length) xs := by
  have hs : cs.size = xs.length * n := by rw [← Array.length_toList, hcs, E.flat_length]
  have h := World.ownsRow_lit (base := base) (e := e) (size := n) w cs xs.length hb hm hs
  rw [hcs] at h
  exact h
theorem Own.ofBlk {g : Nat} {cs : Array Value} (h : Blk w g e cs) (hcs : cs.toList = E.flat xs) (hb : base ≤ g) (hm : xs.length ≤ maxLen) : Own E e w base (.slice (some ⟨g, 0, none⟩) xs.length xs.length) xs := by
  have hs : cs.size = xs.length * n := by rw [← Array.length_toList, hcs, E.flat_length]
  exact ⟨E.flat_length xs, .inr ⟨g, xs.length, cs, rfl, hb, h, Nat.le_refl _, hm, hs, by rw [hcs, List.take_of_length_le (by rw [E.flat_length]; exact Nat.le_refl _)]⟩⟩
theorem Own.grown {row : Option Nat} (h : Own E e w base v xs) (hg : w.grownBy w' row) (hne : v.ownBlock = none ∨ v.ownBlock ≠ row) : Own E e w' base v xs := World.ownsRow.kept h hg hne
theorem Own.alloc (h : Own E e w base v xs) (o : Obj) : Own E e (w.alloc o) base v xs := World.ownsRow.alloc h o
theorem Own.drew (h : Own E e w base v xs) : Own E e w.drew base v xs := World.ownsRow.drew h
theorem Own.fine (h : Own E e w base v xs) (hf : Fine w w') : Own E e w' base v xs :=
  h.grown (row := none) ⟨hf.os, hf.tape, hf.output, hf.size, fun k hk _ => hf.block k hk⟩ (by cases hv : v.ownBlock <;> simp)
theorem Own.kept {S : Nat → Prop} (h : Own E e w base v xs) (hf : Kept S w w') (hn : ∀ k, v.ownBlock = some k → ¬ S k) : Own E e w' base v xs := by
  refine ⟨h.1, ?_⟩
  rcases h.2 with hn' | ⟨g, cap, cur, rfl, hb, hgg, rest⟩
  · exact .inl hn'
  · exact .inr ⟨g, cap, cur, rfl, hb, (hf.block g (Array.getElem?_eq_some_iff.1 hgg).1 (hn g rfl)).trans hgg, rest⟩
theorem Own.lower {base' : Nat} (h : Own E e w base v xs) (hb : base' ≤ base) : Own E e w base' v xs := by
  obtain ⟨h1, h2⟩ := h
  refine ⟨h1, ?_⟩
  rcases h2 with h2 | ⟨g, cap, cur, r1, r2, r3⟩
  · exact .inl h2
  · exact .inr ⟨g, cap, cur, r1, by omega, r3⟩
theorem Own.lt (h : Own E e w base v xs) : ∀ k, v.ownBlock = some k → base ≤ k ∧ k < w.heap.size := World.ownsRow.lt h
/-- Its shape, and that it may be read. -/
theorem Own.form (h : Own E e w base v xs) : ∃ A c, v = .slice A xs.length c ∧ RS E w A c xs ∧ (∀ b off, A = some ⟨b, off, none⟩ → base ≤ b) := by
  obtain ⟨hl, hv⟩ := h
  rcases hv with ⟨rfl, h0⟩ | ⟨g, cap, cur, rfl, hg, hh, hn, hm, hcs, ht⟩
  · have : xs = [] := List.eq_nil_of_length_eq_zero h0
    subst this
    exact ⟨none, 0, rfl, RS.nil_ E w, fun b off e => by cases e⟩
  · refine ⟨some ⟨g, 0, none⟩, cap, rfl, ⟨hn, hm, (fun e => by cases e), fun hp => ⟨g, 0, rfl, Blk.lt (t := e) hh, fun i u hu => ?_⟩⟩, fun b off e => by injection e with e; injection e with e1 _; omega⟩
    rw [Nat.zero_add, cell_of_row w g i cur e (0, 0) hh]
    rw [← ht, List.getElem?_take] at hu
    split at hu
    · simpa using hu
    · cases hu
theorem Own.rs {A : Option Addr} {m c : Nat} (h : Own E e w base (.slice A m c) xs) : RS E w A c xs ∧ m = xs.length := by
  obtain ⟨A', c', e, hb, _⟩ := h.form
  injection e with e1 e2 e3
  subst e1 e2 e3
  exact ⟨hb, rfl⟩
theorem Own.from_ {A : Option Addr} {m c : Nat} (h : Own E e w base (.slice A m c) xs) : ∀ b off, A = some ⟨b, off, none⟩ → base ≤ b ∧ b < w.heap.size := by
  intro b off hA
  subst hA
  exact h.lt b rfl
/-- Where it is not empty it begins at its block's head. -/
theorem Own.head {A : Option Addr} {m c : Nat} (h : Own E e w base (.slice A m c) xs) (hn : 0 < m) : ∃ g, A = some ⟨g, 0, none⟩ ∧ base ≤ g ∧ g < w.heap.size := by
  obtain ⟨_, h2⟩ := h
  rcases h2 with ⟨e1, h0⟩ | ⟨g, cap, cur, e1, hg, hh, _⟩
  · injection e1 with _ e2; omega
  · injection e1 with e1
    exact ⟨g, e1, hg, Blk.lt (t := e) hh⟩
theorem Own.frozen {g m c : Nat} (h : Own E e w base (.slice (some ⟨g, 0, none⟩) m c) xs) (j : Nat) : w.frozen? ⟨g, j, none⟩ = false := by
  have hm := h.rs.2
  subst hm
  exact World.ownsRow.frozenAt h j
/-- A store into one cell of one element. -/
theorem Own.stored {g m c : Nat} (h : Own E e w base (.slice (some ⟨g, 0, none⟩) m c) xs) {i : Nat} {x y : α} (hi : xs[i]? = some x) {j : Nat} (hj : j < n) {u : Value} (hy : E.cs y = (E.cs x).set j u) :
    Own E e (w.setCell ⟨g, i * n + j, none⟩ u) base (.slice (some ⟨g, 0, none⟩) m c) (xs.set i y) := by
  have hm := h.rs.2
  subst hm
  unfold Own
  rw [List.length_set, E.flat_set hi hj hy]
  exact (World.ownsRow.stored h (i * n + j) u).1
theorem Own.cast {xs' : List α} (h : Own E e w base v xs) (hx : xs = xs') : Own E e w base v xs' := hx ▸ h
end

/-- A slice type t of elements of type e, n cells and so many bytes each. -/
structure SliceTy (P : Program) (t e : TypeId) (n bytes : Nat) : Prop where
  ht : P.underlying t = some (.slice e)
  hi : ∃ i z, P.info? e = some i ∧ i.zero = some z ∧ i.size = n ∧ i.bytes = bytes ∧ z.cells.size = n
theorem SliceTy.mk' {P : Program} {t e : TypeId} {n bytes : Nat} {z : Value} (ht : P.underlying t = some (.slice e)) (h : (P.info? e).map (fun i => (i.zero, i.size, i.bytes)) = some (some z, n, bytes)) (hz : z.cells.size = n) : SliceTy P t e n bytes := by
  obtain ⟨i, hi, hz0, hz1, hz2⟩ := info_parts h
  exact ⟨ht, i, z, hi, hz0, hz1, hz2, hz⟩
theorem SliceTy.size {P : Program} {t e : TypeId} {n bytes : Nat} (h : SliceTy P t e n bytes) : (P.info? e).map (·.size) = some n := by
  obtain ⟨i, z, hi, _, hs, _⟩ := h.hi
  rw [hi, Option.map_some, hs]

section
variable {α : Type} {n : Nat} {E : Lay α n} {P : Program} {t e : TypeId} {bytes : Nat} {w : World}
theorem run_appE (T : SliceTy P t e n bytes) (ty : TypeId) (base : Nat) (v : Value) (xs : List α) (hown : Own E e w base v xs) (A : Option Addr) (c : Nat) (ys : List α) (hr : RS E w A c ys)
    (hbytes : (xs.length + ys.length) * bytes ≤ 140737488355328) (h63 : xs.length + ys.length ≤ maxLen) (hbase : base ≤ w.heap.size) :
    ∃ v' w', (Builtin.append_ #[t, t] ty #[v, .slice A ys.length c]).run P w = .ok v' w' ∧ Own E e w' base v' (xs ++ ys) ∧ w.grownBy w' v.ownBlock ∧
      (v'.ownBlock = v.ownBlock ∨ v'.ownBlock = some w.heap.size) := by
  obtain ⟨i, z, hi, hz, hsize, hby, hzs⟩ := T.hi
  rcases A with _ | ad
  · obtain rfl : c = 0 := hr.2.2.1 rfl
    obtain rfl : ys = [] := List.eq_nil_of_length_eq_zero (by have := hr.1; omega)
    exact ⟨v, w, run_append_owned_none (P := P) (w := w) base t ty e i n T.ht hi v _ _ hown, by simpa using hown, World.grownBy.refl w _, .inl rfl⟩
  · have hcells : ∀ j u, (E.flat ys)[j]? = some u → w.cell? (ad.add j) = some u := by
      intro j u hu
      have hp : 0 < ys.length := by
        have := (List.getElem?_eq_some_iff.1 hu).1
        rw [E.flat_length] at this
        exact Nat.pos_of_ne_zero fun h0 => by rw [h0] at this; omega
      obtain ⟨b, off, e1, _, hc⟩ := hr.2.2.2 hp
      injection e1 with e1
      subst e1
      rw [Go.WideShapes.add_plain]
      exact hc j u hu
    obtain ⟨v', w', hrun, h2, h3, _, h5⟩ := run_append_own_at (P := P) (w := w) base t ty e i z n bytes T.ht hi hz hsize hby hzs E.pos v xs.length _ hown ad ys.length c (E.flat ys) (E.flat_length ys) hcells (E.flat_oneCell ys) h63 hbytes hbase
    refine ⟨v', w', hrun, ?_, h3, h5⟩
    unfold Own
    rw [E.flat_append, List.length_append]
    exact h2
theorem wp_appE {o : Oper} {a : Act} {K : Act → World → Prop} {Q : Exit → Act → World → Prop} (T : SliceTy P t e n bytes) (s x : Operand)
    (ho : o.op = .call { callee := .builtin .append, args := #[s, x], argTypes := #[t, t] })
    (base : Nat) (v : Value) (xs : List α) (hs : a.eval s = v) (hown : Own E e w base v xs) (A : Option Addr) (m c : Nat) (ys : List α) (hx : a.eval x = .slice A m c) (hm : m = ys.length) (hr : RS E w A c ys)
    (hbytes : (xs.length + ys.length) * bytes ≤ 140737488355328) (h63 : xs.length + ys.length ≤ maxLen) (hbase : base ≤ w.heap.size)
    (h : ∀ v' w', Own E e w' base v' (xs ++ ys) → Kept (fun k => base ≤ k) w w' → w.grownBy w' v.ownBlock → (v'.ownBlock = v.ownBlock ∨ v'.ownBlock = some w.heap.size) → K (a.put o.dst v') w') : o.wp P a w K Q := by
  subst hm
  obtain ⟨v', w', hrun, h2, h3, h4⟩ := run_appE T o.type base v xs hown A c ys hr hbytes h63 hbase
  unfold Oper.wp execOp
  simp only [ho, resolve, invoke, builtin, Sem.run_bind, Sem.run_pure, Result.andThen_ok, List.map_toArray, List.map_cons, List.map_nil, hs, hx, hrun]
  exact h v' w' h2 ((Kept.refl _ _).grown h3 (fun k hk _ => (hown.lt k hk).1)) h3 h4
/-- 'append(s, x...)', s the call's own; the new slice's shape told at once. -/
theorem wpList_appE {ops : Array Oper} {rest : List Oper} {o : Oper} {a : Act} {Q : Exit → Act → World → Prop} (hgd : o.guard = none) (T : SliceTy P t e n bytes) (s x : Operand)
    (ho : o.op = .call { callee := .builtin .append, args := #[s, x], argTypes := #[t, t] })
    (base : Nat) (v : Value) (xs : List α) (hs : a.eval s = v) (hown : Own E e w base v xs) (A : Option Addr) (m c : Nat) (ys : List α) (hx : a.eval x = .slice A m c) (hm : m = ys.length) (hr : RS E w A c ys)
    (hbytes : (xs.length + ys.length) * bytes ≤ 140737488355328) (h63 : xs.length + ys.length ≤ maxLen) (hbase : base ≤ w.heap.size)
    (h : ∀ A' c' w', Hid (Own E e w' base (.slice A' (xs.length + ys.length) c') (xs ++ ys)) → Kept (fun k => base ≤ k) w w' → Hid (w.grownBy w' v.ownBlock ∧ ((Value.slice A' (xs.length + ys.length) c').ownBlock = v.ownBlock ∨ (Value.slice A' (xs.length + ys.length) c').ownBlock = some w.heap.size)) → wpList P ops Q rest (a.put o.dst (.slice A' (xs.length + ys.length) c')) w') : wpList P ops Q (o :: rest) a w :=
  wpList_plain hgd fun _ hK => wp_appE T s x ho base v xs hs hown A m c ys hx hm hr hbytes h63 hbase fun v' w' h2 h3 h4 h5 => by
    obtain ⟨A', c', e1, hb, _⟩ := h2.form
    rw [List.length_append] at e1
    subst e1
    exact hK _ _ (h A' c' w' h2 h3 ⟨h4, h5⟩)
theorem step_appE {ops : Array Oper} {o : Oper} {a : Act} {K : Act → World → Prop} {Q : Exit → Act → World → Prop} {F : Prop} (hgd : o.guard = none) (T : SliceTy P t e n bytes) (s x : Operand)
    (ho : o.op = .call { callee := .builtin .append, args := #[s, x], argTypes := #[t, t] })
    (base : Nat) (v : Value) (xs : List α) (hs : a.eval s = v) (hown : Own E e w base v xs) (A : Option Addr) (m c : Nat) (ys : List α) (hx : a.eval x = .slice A m c) (hm : m = ys.length) (hr : RS E w A c ys)
    (hbytes : (xs.length + ys.length) * bytes ≤ 140737488355328) (h63 : xs.length + ys.length ≤ maxLen) (hbase : base ≤ w.heap.size)
    (h : ∀ v' w', Own E e w' base v' (xs ++ ys) → Kept (fun k => base ≤ k) w w' → w.grownBy w' v.ownBlock → (v'.ownBlock = v.ownBlock ∨ v'.ownBlock = some w.heap.size) → K (a.put o.dst v') w') :
    if Region.wanted o (yielded ops a.tmps) = true then Oper.wp P o a w K Q else F := by
  have hw : Region.wanted o (yielded ops a.tmps) = true := by simp [Region.wanted, hgd]
  rw [if_pos hw]
  exact wp_appE T s x ho base v xs hs hown A m c ys hx hm hr hbytes h63 hbase h

/-! Cuts of a slice whose address is a letter: one run equation each, to be laid ahead of a walk. -/
theorem run_frontE (T : SliceTy P t e n bytes) (A : Option Addr) (len c k : Nat) (hk : k ≤ len) (hc : len ≤ c) (hA : A = none → c = 0) (w : World) :
    (Instr.sliceAt t (.slice A len c) none (some (.int .i64 k)) none).run P w = .ok (.slice A k c) w := by
  obtain ⟨i, hi, hz⟩ := Option.map_eq_some_iff.1 T.size
  simp only [Instr.sliceAt, Instr.slice, Sem.run_bind, run_underlying T.ht, Result.andThen_ok, Instr.sliceBounds, Sem.run_pure]
  rw [run_sliceBound (w := w) .i64 k c _ (by omega) (by omega)]
  simp [sizeOf, typeInfo, hi, hz, Result.andThen]
  by_cases h0 : c = 0
  · simp [h0]
  · simp [h0]
    cases A with
    | none => rfl
    | some ad => simp [Addr.add]
theorem run_behindE (T : SliceTy P t e n bytes) (A : Option Addr) (len c k : Nat) (hk : k ≤ len) (hc : len ≤ c) (hA : A = none → c = 0) :
    ∃ A', (∀ w, (Instr.sliceAt t (.slice A len c) (some (.int .i64 k)) none none).run P w = .ok (.slice A' (len - k) (c - k)) w) ∧
      (∀ b off, A = some ⟨b, off, none⟩ → k < c → A' = some ⟨b, off + k * n, none⟩) ∧ (A' = none → c = k) ∧ (∀ b off, A' = some ⟨b, off, none⟩ → ∃ ad, A = some ad ∧ ad.block = b) := by
  refine ⟨if c = k then A else A.map (·.add (k * n)), fun w => ?_, fun b off hA1 hlt => ?_, fun hN => ?_, fun b off hA1 => ?_⟩
  · obtain ⟨i, hi, hz⟩ := Option.map_eq_some_iff.1 T.size
    simp only [Instr.sliceAt, Instr.slice, Sem.run_bind, run_underlying T.ht, Result.andThen_ok, Instr.sliceBounds, Sem.run_pure]
    rw [run_sliceBound (w := w) .i64 k len _ (by omega) (by omega)]
    simp [sizeOf, typeInfo, hi, hz, Result.andThen]
  · rw [if_neg (by omega), hA1, Option.map_some, Go.WideShapes.add_plain]
  · by_cases h : c = k
    · exact h
    · rw [if_neg h] at hN
      cases A with
      | none => have := hA rfl; omega
      | some ad => cases hN
  · by_cases h : c = k
    · rw [if_pos h] at hA1; exact ⟨_, hA1, rfl⟩
    · rw [if_neg h] at hA1
      cases A with
      | none => cases hA1
      | some ad =>
        refine ⟨ad, rfl, ?_⟩
        rw [Option.map_some] at hA1
        injection hA1 with hA1
        have := congrArg Addr.block hA1
        unfold Addr.add at this
        split at this <;> exact this
theorem RS.run_front {w0 : World} {A : Option Addr} {c : Nat} {xs : List α} (T : SliceTy P t e n bytes) (h : RS E w0 A c xs) (k : Nat) (hk : k ≤ xs.length) :
    ∀ w, (Instr.sliceAt t (.slice A xs.length c) none (some (.int .i64 k)) none).run P w = .ok (.slice A k c) w :=
  fun w => run_frontE T A xs.length c k hk h.le h.2.2.1 w
theorem RS.run_behind {w0 : World} {A : Option Addr} {c : Nat} {xs : List α} (T : SliceTy P t e n bytes) (h : RS E w0 A c xs) (k : Nat) (hk : k ≤ xs.length) :
    ∃ A', (∀ w, (Instr.sliceAt t (.slice A xs.length c) (some (.int .i64 k)) none none).run P w = .ok (.slice A' (xs.length - k) (c - k)) w) ∧ (∀ w, RS E w A c xs → RS E w A' (c - k) (xs.drop k)) ∧ (∀ b off, A' = some ⟨b, off, none⟩ → ∃ ad, A = some ad ∧ ad.block = b) := by
  obtain ⟨A', h1, h2, h3, h4⟩ := run_behindE T A xs.length c k hk h.le h.2.2.1
  exact ⟨A', h1, fun w hw => hw.behind k hk A' h2 h3, h4⟩
end

/-! Numbers. -/
def layI (k : IntKind) : Lay Int 1 := { cs := fun x => [.int k x], len := fun _ => rfl, one := fun x u hu => by simp at hu; subst hu; rfl, pos := by decide }
theorem flatI (k : IntKind) (xs : List Int) : (layI k).flat xs = xs.map (Value.int k) := by
  induction xs with
  | nil => rfl
  | cons x xs ih => rw [Lay.flat_cons, ih]; rfl
theorem RS.atI {k : IntKind} {w : World} {A : Option Addr} {c : Nat} {xs : List Int} (h : RS (layI k) w A c xs) {i : Nat} (hi : i < xs.length) :
    ∃ b off, A = some ⟨b, off, none⟩ ∧ b < w.heap.size ∧ w.cell? ⟨b, off + i, none⟩ = some (.int k (xs.getD i 0)) := by
  have hk : xs[i]? = some (xs.getD i 0) := by simp [List.getD, hi]
  obtain ⟨b, off, e, hb, hc⟩ := h.at_ hk
  refine ⟨b, off, e, hb, ?_⟩
  have := hc 0 (.int k (xs.getD i 0)) rfl
  rwa [Nat.mul_one, Nat.add_zero] at this
end Go.Proofs.Ytjldgialhgfhmaa
