/- Words for memory, used by all walks of this seat: a world in which nothing old has turned ('Fine'), in which old blocks outside a set are kept ('Kept'), a block known whole ('Blk'). Slices of elements of several cells each, over any program: one that is read ('RS'), one that is the call's own ('Own'), append, cuts, stores. What the reading of a slice says of memory, whatever its elements: its cells, and each element's own reading. What the reading of a slice of structs says: each element's cells, field by field. 'make' and 'copy' of slices of elements of several cells each (the kit's laws of copy serve elements of one cell). -/
import Derived.WalkKit
import Derived.Lib.Hide
import Derived.Below
import Derived.Laws.OwnMore
import Derived.Laws.Rows
import Derived.Deep.Draws
import Derived.ProofKit
import Derived.OwnWalk
import Derived.Maps.AppendAt
import Derived.Laws.AppendOwnNone
import Derived.Laws.IdiomStrings
import Derived.Deep.RegionWith
import Derived.Laws.CopyOwn
import Derived.OpenShut
namespace Go.Proofs.YthnennleblgjeaaDoor
set_option linter.unusedVariables false
set_option linter.unusedSimpArgs false
open Go.RowKit

theorem ret_bool {a b : Bool} (h : a = b) : Ending.returned (.bool a) = .returned (.bool b) := by rw [h]
theorem ret_int {k : IntKind} {a b : Int} (h : a = b) : Ending.returned (.int k a) = .returned (.int k b) := by rw [h]

/-! Nothing that was there has turned. -/
def Fine (w w' : World) : Prop := Below w.heap.size w w'
theorem Fine.refl (w : World) : Fine w w := Below.refl _ _
theorem Fine.trans {a b c : World} (h : Fine a b) (k : Fine b c) : Fine a c := Below.trans h (Below.mono k h.size)
theorem Fine.alloc {a w : World} (h : Fine a w) (o : Obj) : Fine a (w.alloc o) := Below.alloc h h.size o
theorem Fine.drew {a w : World} (h : Fine a w) : Fine a w.drew := Below.drew h
theorem Fine.of_drew {a w : World} (h : Fine a.drew w) : Fine a w := ⟨h.os, h.tape, h.output, h.size, h.block⟩
theorem Fine.of_drewN {a w : World} {n : Nat} (h : Fine (a.drewN n) w) : Fine a w := ⟨h.os, h.tape, h.output, h.size, h.block⟩
theorem Fine.drewN {a w : World} (h : Fine a w) (n : Nat) : Fine a (w.drewN n) := ⟨h.os, h.tape, h.output, h.size, h.block⟩
theorem Fine.setCell {a w : World} (h : Fine a w) {p : Addr} (hp : a.heap.size ≤ p.block) (u : Value) : Fine a (w.setCell p u) := Below.setCell h hp u
theorem Fine.grown {a w w' : World} {row : Option Nat} (h : Fine a w) (hg : w.grownBy w' row) (hr : ∀ k, row = some k → a.heap.size ≤ k) : Fine a w' := Below.grown h hg h.size hr
theorem Fine.size {a w : World} (h : Fine a w) : a.heap.size ≤ w.heap.size := Below.size h
theorem Fine.cell {w w' : World} (h : Fine w w') {p : Addr} (hp : p.block < w.heap.size) : w'.cell? p = w.cell? p := Below.cell h hp

/-! Of what was there nothing has turned outside the blocks S. -/
structure Kept (S : Nat → Prop) (w w' : World) : Prop where
  os : w'.os = w.os
  tape : w'.tape = w.tape
  output : w'.output = w.output
  size : w.heap.size ≤ w'.heap.size
  block : ∀ k, k < w.heap.size → ¬ S k → w'.heap[k]? = w.heap[k]?
theorem Kept.refl (S : Nat → Prop) (w : World) : Kept S w w := ⟨rfl, rfl, rfl, Nat.le_refl _, fun _ _ _ => rfl⟩
theorem Kept.of_fine {S : Nat → Prop} {w w' : World} (h : Fine w w') : Kept S w w' := ⟨h.os, h.tape, h.output, h.size, fun k hk _ => h.block k hk⟩
theorem Kept.fine {w w' : World} (h : Kept (fun _ => False) w w') : Fine w w' := ⟨h.os, h.tape, h.output, h.size, fun k hk => h.block k hk (fun f => f)⟩
theorem Kept.transG {S S' T : Nat → Prop} {a b c : World} (h : Kept S a b) (k : Kept S' b c) (hS : ∀ x, x < a.heap.size → S x → T x) (hS' : ∀ x, x < a.heap.size → S' x → T x) : Kept T a c :=
  ⟨k.os.trans h.os, k.tape.trans h.tape, k.output.trans h.output, Nat.le_trans h.size k.size,
    fun i hi hn => (k.block i (Nat.lt_of_lt_of_le hi h.size) (fun s => hn (hS' i hi s))).trans (h.block i hi (fun s => hn (hS i hi s)))⟩
theorem Kept.trans {S : Nat → Prop} {a b c : World} (h : Kept S a b) (k : Kept S b c) : Kept S a c := h.transG k (fun _ _ s => s) (fun _ _ s => s)
theorem Kept.mono {S T : Nat → Prop} {a b : World} (h : Kept S a b) (hS : ∀ x, x < a.heap.size → S x → T x) : Kept T a b := ⟨h.os, h.tape, h.output, h.size, fun k hk hn => h.block k hk (fun s => hn (hS k hk s))⟩
theorem Kept.alloc {S : Nat → Prop} {a w : World} (h : Kept S a w) (o : Obj) : Kept S a (w.alloc o) := h.trans (Kept.of_fine ((Fine.refl _).alloc o))
theorem Kept.drew {S : Nat → Prop} {a w : World} (h : Kept S a w) : Kept S a w.drew := ⟨h.os, h.tape, h.output, h.size, h.block⟩
theorem Kept.drewN {S : Nat → Prop} {a w : World} (h : Kept S a w) (n : Nat) : Kept S a (w.drewN n) := ⟨h.os, h.tape, h.output, h.size, h.block⟩
theorem Kept.setCell {S : Nat → Prop} {a w : World} (h : Kept S a w) {p : Addr} (hp : p.block < a.heap.size → S p.block) (u : Value) : Kept S a (w.setCell p u) :=
  ⟨h.os, h.tape, h.output, by have := h.size; simpa [World.setCell] using this, fun k hk hn => by
    rw [Below.heap_setCell _ _ _ _ (fun e => hn (by subst e; exact hp hk))]; exact h.block k hk hn⟩
theorem Kept.setIn {S : Nat → Prop} {a w : World} (h : Kept S a w) {p : Addr} (hp : S p.block) (u : Value) : Kept S a (w.setCell p u) := h.setCell (fun _ => hp) u
theorem Kept.grown {S : Nat → Prop} {a w w' : World} {row : Option Nat} (h : Kept S a w) (hg : w.grownBy w' row) (hr : ∀ k, row = some k → k < a.heap.size → S k) : Kept S a w' :=
  ⟨hg.os.trans h.os, hg.tape.trans h.tape, hg.output.trans h.output, Nat.le_trans h.size hg.size,
    fun k hk hn => (hg.block k (Nat.lt_of_lt_of_le hk h.size) (fun e => hn (hr k e.symm hk))).trans (h.block k hk hn)⟩
theorem Kept.cell {S : Nat → Prop} {w w' : World} (h : Kept S w w') {p : Addr} (hp : p.block < w.heap.size) (hn : ¬ S p.block) : w'.cell? p = w.cell? p := World.cell?_of_block (h.block _ hp hn)
/-- Writes to blocks that are new since a. -/
theorem Kept.new {S : Nat → Prop} {a b c : World} {n : Nat} (h : Kept S a b) (k : Kept (fun x => n ≤ x) b c) (hn : a.heap.size ≤ n) : Kept S a c := h.transG k (fun _ _ s => s) (fun x hx s => absurd hx (by omega))
/-- A call that writes to new blocks alone, seen from further off. -/
theorem Fine.kept {S : Nat → Prop} {a b c : World} (h : Fine a b) (k : Kept S b c) (hS : ∀ x, x < a.heap.size → ¬ S x) : Fine a c :=
  ⟨k.os.trans h.os, k.tape.trans h.tape, k.output.trans h.output, Nat.le_trans h.size k.size, fun i hi => (k.block i (Nat.lt_of_lt_of_le hi h.size) (hS i hi)).trans (h.block i hi)⟩

/-! A block that is known whole. -/
def Blk (w : World) (g : Nat) (t : TypeId) (cs : Array Value) : Prop := w.heap[g]? = some (.cells cs t (0, 0))
section
variable {w w' : World} {g : Nat} {t : TypeId} {cs : Array Value}
theorem Blk.lt (h : Blk w g t cs) : g < w.heap.size := by
  rcases Nat.lt_or_ge g w.heap.size with hlt | hge
  · exact hlt
  · unfold Blk at h; rw [Array.getElem?_eq_none hge] at h; cases h
theorem Blk.cell (h : Blk w g t cs) (i : Nat) : w.cell? ⟨g, i, none⟩ = cs[i]? := cell_of_row w g i cs t (0, 0) h
theorem Blk.cellOf {i : Nat} {v : Value} (h : Blk w g t cs) (e : cs[i]? = some v) : w.cell? ⟨g, i, none⟩ = some v := (h.cell i).trans e
theorem Blk.cell1 {v : Value} (h : Blk w g t #[v]) : w.cell? ⟨g, 0, none⟩ = some v := h.cell 0
theorem Blk.frozen (h : Blk w g t cs) (i : Nat) : w.frozen? ⟨g, i, none⟩ = false := by
  unfold Blk at h
  simp [World.frozen?, h]
theorem Blk.new (w : World) (t : TypeId) (cs : Array Value) : Blk (w.alloc (.cells cs t)) w.heap.size t cs := heap_alloc_new w _
theorem Blk.newAt {w : World} {g : Nat} {t : TypeId} {cs : Array Value} (h : g = w.heap.size) : Blk (w.alloc (.cells cs t)) g t cs := h ▸ Blk.new w t cs
theorem Blk.drew (h : Blk w g t cs) : Blk w.drew g t cs := h
theorem Blk.drewN (h : Blk w g t cs) (n : Nat) : Blk (w.drewN n) g t cs := h
theorem Blk.alloc (h : Blk w g t cs) (o : Obj) : Blk (w.alloc o) g t cs := (Below.heap_alloc w o g h.lt).trans h
theorem Blk.set_ (h : Blk w g t cs) (i : Nat) (u : Value) : Blk (w.setCell ⟨g, i, none⟩ u) g t (cs.setIfInBounds i u) := by
  unfold Blk at h ⊢
  simp [World.setCell, Array.getElem?_modify, h]
theorem Blk.far (h : Blk w g t cs) {p : Addr} (hp : g ≠ p.block) (u : Value) : Blk (w.setCell p u) g t cs := (Below.heap_setCell w p u g hp).trans h
theorem Blk.fine (h : Blk w g t cs) (hb : Fine w w') : Blk w' g t cs := (hb.block g h.lt).trans h
theorem Blk.kept {S : Nat → Prop} (h : Blk w g t cs) (hb : Kept S w w') (hn : ¬ S g) : Blk w' g t cs := (hb.block g h.lt hn).trans h
theorem Blk.grown {row : Option Nat} (h : Blk w g t cs) (hb : w.grownBy w' row) (hg : some g ≠ row) : Blk w' g t cs := (hb.block g h.lt hg).trans h
theorem Blk.cast {cs' : Array Value} (h : Blk w g t cs) (e : cs = cs') : Blk w g t cs' := e ▸ h
theorem Blk.ne_ {g' : Nat} {t' : TypeId} {cs' : Array Value} (h : Blk w g t cs) (h' : Blk w g' t' cs') (hne : t ≠ t') : g ≠ g' := by
  rintro rfl
  unfold Blk at h h'
  rw [h] at h'
  injection h' with h'
  injection h' with _ ht
  exact hne ht
end
end Go.Proofs.YthnennleblgjeaaDoor
namespace Go.Proofs.YthnennleblgjeaaDoor
set_option linter.unusedVariables false
set_option linter.unusedSimpArgs false
open Go.RowKit

/-- How an element lies: its cells, n of them. -/
structure Lay (α : Type) (n : Nat) where
  cs : α → List Value
  len : ∀ x, (cs x).length = n
  one : ∀ x u, u ∈ cs x → u.oneCell' = true
  pos : 0 < n
namespace Lay
set_option linter.unusedVariables false
set_option linter.unusedSimpArgs false
variable {α : Type} {n : Nat} (E : Lay α n)
def flat (xs : List α) : List Value := xs.flatMap E.cs
theorem flat_nil : E.flat [] = [] := rfl
theorem flat_cons (x : α) (xs : List α) : E.flat (x :: xs) = E.cs x ++ E.flat xs := rfl
theorem flat_one (x : α) : E.flat [x] = E.cs x := by simp [flat]
theorem flat_append (xs ys : List α) : E.flat (xs ++ ys) = E.flat xs ++ E.flat ys := by simp [flat]
theorem flat_length (xs : List α) : (E.flat xs).length = xs.length * n := by
  induction xs with
  | nil => simp [flat_nil]
  | cons x xs ih => rw [flat_cons, List.length_append, ih, E.len, List.length_cons, Nat.succ_mul]; omega
theorem flat_oneCell (xs : List α) : ∀ u ∈ E.flat xs, u.oneCell' = true := by
  intro u hu
  obtain ⟨x, _, hx⟩ := List.mem_flatMap.1 hu
  exact E.one x u hx
theorem flat_at {xs : List α} {i : Nat} {x : α} (hi : xs[i]? = some x) {j : Nat} (hj : j < n) : (E.flat xs)[i * n + j]? = (E.cs x)[j]? := by
  induction xs generalizing i with
  | nil => simp at hi
  | cons y ys ih =>
    rw [flat_cons]
    cases i with
    | zero =>
      simp at hi; subst hi
      rw [List.getElem?_append_left (by rw [E.len]; omega)]; simp
    | succ i =>
      rw [List.getElem?_append_right (by rw [E.len, Nat.succ_mul]; omega), E.len, Nat.succ_mul]
      rw [show i * n + n + j - n = i * n + j by omega]
      exact ih (by simpa using hi)
theorem flat_take (xs : List α) (k : Nat) : (E.flat xs).take (k * n) = E.flat (xs.take k) := by
  induction xs generalizing k with
  | nil => simp [flat_nil]
  | cons y ys ih =>
    cases k with
    | zero => simp [flat_nil]
    | succ k =>
      rw [flat_cons, List.take_succ_cons, flat_cons, Nat.succ_mul, ← ih k]
      rw [List.take_append, E.len, List.take_of_length_le (by rw [E.len]; omega)]
      rw [show k * n + n - n = k * n by omega]
theorem flat_drop (xs : List α) (k : Nat) : (E.flat xs).drop (k * n) = E.flat (xs.drop k) := by
  induction xs generalizing k with
  | nil => simp [flat_nil]
  | cons y ys ih =>
    cases k with
    | zero => simp
    | succ k =>
      rw [flat_cons, List.drop_succ_cons, Nat.succ_mul, ← ih k]
      rw [List.drop_append, E.len, List.drop_eq_nil_of_le (by rw [E.len]; omega)]
      rw [show k * n + n - n = k * n by omega]; simp
/-- One cell of one element set. -/
theorem flat_set {xs : List α} {i : Nat} {x y : α} (hi : xs[i]? = some x) {j : Nat} (hj : j < n) {v : Value} (hy : E.cs y = (E.cs x).set j v) : E.flat (xs.set i y) = (E.flat xs).set (i * n + j) v := by
  induction xs generalizing i with
  | nil => simp at hi
  | cons z zs ih =>
    cases i with
    | zero =>
      simp at hi; subst hi
      rw [List.set_cons_zero, flat_cons, flat_cons, hy, List.set_append_left _ _ (by rw [E.len]; omega)]; simp
    | succ i =>
      rw [List.set_cons_succ, flat_cons, flat_cons, ih (by simpa using hi), List.set_append_right _ _ (by rw [E.len, Nat.succ_mul]; omega), E.len, Nat.succ_mul]
      rw [show i * n + n + j - n = i * n + j by omega]
end Lay

section
variable {α : Type} {n : Nat} {E : Lay α n} {w w' : World} {A : Option Addr} {c : Nat} {xs : List α}
/-- A slice that is read: its elements. -/
def RS (E : Lay α n) (w : World) (A : Option Addr) (c : Nat) (xs : List α) : Prop :=
  xs.length ≤ c ∧ c ≤ maxLen ∧ (A = none → c = 0) ∧ (0 < xs.length → ∃ b off, A = some ⟨b, off, none⟩ ∧ b < w.heap.size ∧ ∀ i v, (E.flat xs)[i]? = some v → w.cell? ⟨b, off + i, none⟩ = some v)
theorem RS.le (h : RS E w A c xs) : xs.length ≤ c := h.1
theorem RS.max (h : RS E w A c xs) : c ≤ maxLen := h.2.1
theorem RS.fine (h : RS E w A c xs) (hf : Fine w w') : RS E w' A c xs :=
  ⟨h.1, h.2.1, h.2.2.1, fun hp => by
    obtain ⟨b, off, e, hb, hc⟩ := h.2.2.2 hp
    exact ⟨b, off, e, Nat.lt_of_lt_of_le hb hf.size, fun i v hv => (hf.cell hb).trans (hc i v hv)⟩⟩
theorem RS.kept {S : Nat → Prop} (h : RS E w A c xs) (hf : Kept S w w') (hn : ∀ b off, A = some ⟨b, off, none⟩ → ¬ S b) : RS E w' A c xs :=
  ⟨h.1, h.2.1, h.2.2.1, fun hp => by
    obtain ⟨b, off, e, hb, hc⟩ := h.2.2.2 hp
    exact ⟨b, off, e, Nat.lt_of_lt_of_le hb hf.size, fun i v hv => (hf.cell hb (hn b off e)).trans (hc i v hv)⟩⟩
theorem RS.grown {row : Option Nat} (h : RS E w A c xs) (hg : w.grownBy w' row) (hn : ∀ b off, A = some ⟨b, off, none⟩ → row ≠ some b) : RS E w' A c xs :=
  ⟨h.1, h.2.1, h.2.2.1, fun hp => by
    obtain ⟨b, off, e, hb, hc⟩ := h.2.2.2 hp
    exact ⟨b, off, e, Nat.lt_of_lt_of_le hb hg.size, fun i v hv => (World.cell?_of_block (hg.block b hb (fun e1 => hn b off e e1.symm))).trans (hc i v hv)⟩⟩
theorem RS.nil_ (E : Lay α n) (w : World) : RS E w none 0 [] := ⟨Nat.le_refl _, Nat.zero_le _, fun _ => rfl, fun h => absurd h (by simp)⟩
theorem RS.at_ (h : RS E w A c xs) {k : Nat} {x : α} (hk : xs[k]? = some x) :
    ∃ b off, A = some ⟨b, off, none⟩ ∧ b < w.heap.size ∧ ∀ j v, (E.cs x)[j]? = some v → w.cell? ⟨b, off + (k * n + j), none⟩ = some v := by
  have hlt := (List.getElem?_eq_some_iff.1 hk).1
  obtain ⟨b, off, e, hb, hc⟩ := h.2.2.2 (by omega)
  refine ⟨b, off, e, hb, fun j v hj => hc _ v ?_⟩
  have hjn : j < n := by have := (List.getElem?_eq_some_iff.1 hj).1; rwa [E.len] at this
  rw [E.flat_at hk hjn]; exact hj
theorem RS.cast {xs' : List α} (h : RS E w A c xs) (e : xs = xs') : RS E w A c xs' := e ▸ h
/-- 's[:k]'. -/
theorem RS.front (h : RS E w A c xs) (k : Nat) (hk : k ≤ xs.length) : RS E w A c (xs.take k) := by
  have hl := h.le
  refine ⟨by simp; omega, h.2.1, h.2.2.1, fun hp => ?_⟩
  rw [List.length_take] at hp
  obtain ⟨b, off, e, hb, hc⟩ := h.2.2.2 (by omega)
  refine ⟨b, off, e, hb, fun i v hv => hc i v ?_⟩
  rw [← E.flat_take] at hv
  rw [List.getElem?_take] at hv
  split at hv
  · exact hv
  · cases hv
/-- 's[k:]', as the model lays it. -/
theorem RS.behind (h : RS E w A c xs) (k : Nat) (hk : k ≤ xs.length) (A' : Option Addr)
    (hA : ∀ b off, A = some ⟨b, off, none⟩ → k < c → A' = some ⟨b, off + k * n, none⟩) (hN : A' = none → c = k) : RS E w A' (c - k) (xs.drop k) := by
  have hl := h.le
  have hm := h.2.1
  refine ⟨by simp; omega, by unfold maxLen at *; omega, fun e => by have := hN e; omega, fun hp => ?_⟩
  rw [List.length_drop] at hp
  obtain ⟨b, off, e, hb, hc⟩ := h.2.2.2 (by omega)
  refine ⟨b, off + k * n, hA b off e (by omega), hb, fun i v hv => ?_⟩
  rw [Nat.add_assoc]
  refine hc (k * n + i) v ?_
  rw [← E.flat_drop, List.getElem?_drop] at hv
  exact hv
/-- A block that holds just such elements. -/
theorem RS.ofBlk {g : Nat} {t : TypeId} {cs : Array Value} (h : Blk w g t cs) (e : cs.toList = E.flat xs) (hc : c = xs.length) (hm : c ≤ maxLen) : RS E w (some ⟨g, 0, none⟩) c xs :=
  ⟨by omega, hm, (fun e => by cases e), fun _ => ⟨g, 0, rfl, h.lt, fun i v hv => by rw [Nat.zero_add, h.cell i, ← Array.getElem?_toList, e]; exact hv⟩⟩
end

/-! One that is the call's own. -/
section
variable {α : Type} {n : Nat} {E : Lay α n} {e : TypeId} {w w' : World} {base : Nat} {v : Value} {xs : List α}
def Own (E : Lay α n) (e : TypeId) (w : World) (base : Nat) (v : Value) (xs : List α) : Prop := w.ownsRow base e n v xs.length (E.flat xs)
theorem Own.nil_ (E : Lay α n) (e : TypeId) (w : World) (base : Nat) : Own E e w base (.slice none 0 0) [] := World.ownsRow_nil _ _ _ _
/-- A literal. -/
theorem Own.lit (w : World) (cs : Array Value) (hcs : cs.toList = E.flat xs) (hb : base ≤ w.heap.size) (hm : xs.length ≤ maxLen) : Own E e (w.alloc (.cells cs e)) base (.slice (some ⟨w.heap.size, 0, none⟩) xs.length xs.length) xs := by
  have hs : cs.size = xs.length * n := by rw [← Array.length_toList, hcs, E.flat_length]
  have h := World.ownsRow_lit (base := base) (e := e) (size := n) w cs xs.length hb hm hs
  rw [hcs] at h
  exact h
theorem Own.ofBlk {g : Nat} {cs : Array Value} (h : Blk w g e cs) (hcs : cs.toList = E.flat xs) (hb : base ≤ g) (hm : xs.length ≤ maxLen) : Own E e w base (.slice (some ⟨g, 0, none⟩) xs.length xs.length) xs := by
  have hs : cs.size = xs.length * n := by rw [← Array.length_toList, hcs, E.flat_length]
  exact ⟨E.flat_length xs, .inr ⟨g, xs.length, cs, rfl, hb, h, Nat.le_refl _, hm, hs, by rw [hcs, List.take_of_length_le (by rw [E.flat_length]; exact Nat.le_refl _)]⟩⟩
theorem Own.grown {row : Option Nat} (h : Own E e w base v xs) (hg : w.grownBy w' row) (hne : v.ownBlock = none ∨ v.ownBlock ≠ row) : Own E e w' base v xs := World.ownsRow.kept h hg hne
theorem Own.alloc (h : Own E e w base v xs) (o : Obj) : Own E e (w.alloc o) base v xs := World.ownsRow.alloc h o
theorem Own.drew (h : Own E e w base v xs) : Own E e w.drew base v xs := World.ownsRow.drew h
theorem Own.fine (h : Own E e w base v xs) (hf : Fine w w') : Own E e w' base v xs :=
  h.grown (row := none) ⟨hf.os, hf.tape, hf.output, hf.size, fun k hk _ => hf.block k hk⟩ (by cases hv : v.ownBlock <;> simp)
theorem Own.kept {S : Nat → Prop} (h : Own E e w base v xs) (hf : Kept S w w') (hn : ∀ k, v.ownBlock = some k → ¬ S k) : Own E e w' base v xs := by
  refine ⟨h.1, ?_⟩
  rcases h.2 with hn' | ⟨g, cap, cur, rfl, hb, hgg, rest⟩
  · exact .inl hn'
  · exact .inr ⟨g, cap, cur, rfl, hb, (hf.block g (Array.getElem?_eq_some_iff.1 hgg).1 (hn g rfl)).trans hgg, rest⟩
theorem Own.lower {base' : Nat} (h : Own E e w base v xs) (hb : base' ≤ base) : Own E e w base' v xs := by
  obtain ⟨h1, h2⟩ := h
  refine ⟨h1, ?_⟩
  rcases h2 with h2 | ⟨g, cap, cur, r1, r2, r3⟩
  · exact .inl h2
  · exact .inr ⟨g, cap, cur, r1, by omega, r3⟩
theorem Own.lt (h : Own E e w base v xs) : ∀ k, v.ownBlock = some k → base ≤ k ∧ k < w.heap.size := World.ownsRow.lt h
/-- Its shape, and that it may be read. -/
theorem Own.form (h : Own E e w base v xs) : ∃ A c, v = .slice A xs.length c ∧ RS E w A c xs ∧ (∀ b off, A = some ⟨b, off, none⟩ → base ≤ b) := by
  obtain ⟨hl, hv⟩ := h
  rcases hv with ⟨rfl, h0⟩ | ⟨g, cap, cur, rfl, hg, hh, hn, hm, hcs, ht⟩
  · have : xs = [] := List.eq_nil_of_length_eq_zero h0
    subst this
    exact ⟨none, 0, rfl, RS.nil_ E w, fun b off e => by cases e⟩
  · refine ⟨some ⟨g, 0, none⟩, cap, rfl, ⟨hn, hm, (fun e => by cases e), fun hp => ⟨g, 0, rfl, Blk.lt (t := e) hh, fun i u hu => ?_⟩⟩, fun b off e => by injection e with e; injection e with e1 _; omega⟩
    rw [Nat.zero_add, cell_of_row w g i cur e (0, 0) hh]
    rw [← ht, List.getElem?_take] at hu
    split at hu
    · simpa using hu
    · cases hu
theorem Own.rs {A : Option Addr} {m c : Nat} (h : Own E e w base (.slice A m c) xs) : RS E w A c xs ∧ m = xs.length := by
  obtain ⟨A', c', e, hb, _⟩ := h.form
  injection e with e1 e2 e3
  subst e1 e2 e3
  exact ⟨hb, rfl⟩
theorem Own.from_ {A : Option Addr} {m c : Nat} (h : Own E e w base (.slice A m c) xs) : ∀ b off, A = some ⟨b, off, none⟩ → base ≤ b ∧ b < w.heap.size := by
  intro b off hA
  subst hA
  exact h.lt b rfl
/-- Where it is not empty it begins at its block's head. -/
theorem Own.head {A : Option Addr} {m c : Nat} (h : Own E e w base (.slice A m c) xs) (hn : 0 < m) : ∃ g, A = some ⟨g, 0, none⟩ ∧ base ≤ g ∧ g < w.heap.size := by
  obtain ⟨_, h2⟩ := h
  rcases h2 with ⟨e1, h0⟩ | ⟨g, cap, cur, e1, hg, hh, _⟩
  · injection e1 with _ e2; omega
  · injection e1 with e1
    exact ⟨g, e1, hg, Blk.lt (t := e) hh⟩
theorem Own.frozen {g m c : Nat} (h : Own E e w base (.slice (some ⟨g, 0, none⟩) m c) xs) (j : Nat) : w.frozen? ⟨g, j, none⟩ = false := by
  have hm := h.rs.2
  subst hm
  exact World.ownsRow.frozenAt h j
/-- A store into one cell of one element. -/
theorem Own.stored {g m c : Nat} (h : Own E e w base (.slice (some ⟨g, 0, none⟩) m c) xs) {i : Nat} {x y : α} (hi : xs[i]? = some x) {j : Nat} (hj : j < n) {u : Value} (hy : E.cs y = (E.cs x).set j u) :
    Own E e (w.setCell ⟨g, i * n + j, none⟩ u) base (.slice (some ⟨g, 0, none⟩) m c) (xs.set i y) := by
  have hm := h.rs.2
  subst hm
  unfold Own
  rw [List.length_set, E.flat_set hi hj hy]
  exact (World.ownsRow.stored h (i * n + j) u).1
theorem Own.cast {xs' : List α} (h : Own E e w base v xs) (hx : xs = xs') : Own E e w base v xs' := hx ▸ h
end

/-- A slice type t of elements of type e, n cells and so many bytes each. -/
structure SliceTy (P : Program) (t e : TypeId) (n bytes : Nat) : Prop where
  ht : P.underlying t = some (.slice e)
  hi : ∃ i z, P.info? e = some i ∧ i.zero = some z ∧ i.size = n ∧ i.bytes = bytes ∧ z.cells.size = n
theorem SliceTy.mk' {P : Program} {t e : TypeId} {n bytes : Nat} {z : Value} (ht : P.underlying t = some (.slice e)) (h : (P.info? e).map (fun i => (i.zero, i.size, i.bytes)) = some (some z, n, bytes)) (hz : z.cells.size = n) : SliceTy P t e n bytes := by
  obtain ⟨i, hi, hz0, hz1, hz2⟩ := info_parts h
  exact ⟨ht, i, z, hi, hz0, hz1, hz2, hz⟩
theorem SliceTy.size {P : Program} {t e : TypeId} {n bytes : Nat} (h : SliceTy P t e n bytes) : (P.info? e).map (·.size) = some n := by
  obtain ⟨i, z, hi, _, hs, _⟩ := h.hi
  rw [hi, Option.map_some, hs]

section
variable {α : Type} {n : Nat} {E : Lay α n} {P : Program} {t e : TypeId} {bytes : Nat} {w : World}
theorem run_appE (T : SliceTy P t e n bytes) (ty : TypeId) (base : Nat) (v : Value) (xs : List α) (hown : Own E e w base v xs) (A : Option Addr) (c : Nat) (ys : List α) (hr : RS E w A c ys)
    (hbytes : (xs.length + ys.length) * bytes ≤ 140737488355328) (h63 : xs.length + ys.length ≤ maxLen) (hbase : base ≤ w.heap.size) :
    ∃ v' w', (Builtin.append_ #[t, t] ty #[v, .slice A ys.length c]).run P w = .ok v' w' ∧ Own E e w' base v' (xs ++ ys) ∧ w.grownBy w' v.ownBlock ∧
      (v'.ownBlock = v.ownBlock ∨ v'.ownBlock = some w.heap.size) := by
  obtain ⟨i, z, hi, hz, hsize, hby, hzs⟩ := T.hi
  rcases A with _ | ad
  · obtain rfl : c = 0 := hr.2.2.1 rfl
    obtain rfl : ys = [] := List.eq_nil_of_length_eq_zero (by have := hr.1; omega)
    exact ⟨v, w, run_append_owned_none (P := P) (w := w) base t ty e i n T.ht hi v _ _ hown, by simpa using hown, World.grownBy.refl w _, .inl rfl⟩
  · have hcells : ∀ j u, (E.flat ys)[j]? = some u → w.cell? (ad.add j) = some u := by
      intro j u hu
      have hp : 0 < ys.length := by
        have := (List.getElem?_eq_some_iff.1 hu).1
        rw [E.flat_length] at this
        exact Nat.pos_of_ne_zero fun h0 => by rw [h0] at this; omega
      obtain ⟨b, off, e1, _, hc⟩ := hr.2.2.2 hp
      injection e1 with e1
      subst e1
      rw [Go.WideShapes.add_plain]
      exact hc j u hu
    obtain ⟨v', w', hrun, h2, h3, _, h5⟩ := run_append_own_at (P := P) (w := w) base t ty e i z n bytes T.ht hi hz hsize hby hzs E.pos v xs.length _ hown ad ys.length c (E.flat ys) (E.flat_length ys) hcells (E.flat_oneCell ys) h63 hbytes hbase
    refine ⟨v', w', hrun, ?_, h3, h5⟩
    unfold Own
    rw [E.flat_append, List.length_append]
    exact h2
theorem wp_appE {o : Oper} {a : Act} {K : Act → World → Prop} {Q : Exit → Act → World → Prop} (T : SliceTy P t e n bytes) (s x : Operand)
    (ho : o.op = .call { callee := .builtin .append, args := #[s, x], argTypes := #[t, t] })
    (base : Nat) (v : Value) (xs : List α) (hs : a.eval s = v) (hown : Own E e w base v xs) (A : Option Addr) (m c : Nat) (ys : List α) (hx : a.eval x = .slice A m c) (hm : m = ys.length) (hr : RS E w A c ys)
    (hbytes : (xs.length + ys.length) * bytes ≤ 140737488355328) (h63 : xs.length + ys.length ≤ maxLen) (hbase : base ≤ w.heap.size)
    (h : ∀ v' w', Own E e w' base v' (xs ++ ys) → Kept (fun k => base ≤ k) w w' → w.grownBy w' v.ownBlock → (v'.ownBlock = v.ownBlock ∨ v'.ownBlock = some w.heap.size) → K (a.put o.dst v') w') : o.wp P a w K Q := by
  subst hm
  obtain ⟨v', w', hrun, h2, h3, h4⟩ := run_appE T o.type base v xs hown A c ys hr hbytes h63 hbase
  unfold Oper.wp execOp
  simp only [ho, resolve, invoke, builtin, Sem.run_bind, Sem.run_pure, Result.andThen_ok, List.map_toArray, List.map_cons, List.map_nil, hs, hx, hrun]
  exact h v' w' h2 ((Kept.refl _ _).grown h3 (fun k hk _ => (hown.lt k hk).1)) h3 h4
/-- 'append(s, x...)', s the call's own; the new slice's shape told at once. -/
theorem wpList_appE {ops : Array Oper} {rest : List Oper} {o : Oper} {a : Act} {Q : Exit → Act → World → Prop} (hgd : o.guard = none) (T : SliceTy P t e n bytes) (s x : Operand)
    (ho : o.op = .call { callee := .builtin .append, args := #[s, x], argTypes := #[t, t] })
    (base : Nat) (v : Value) (xs : List α) (hs : a.eval s = v) (hown : Own E e w base v xs) (A : Option Addr) (m c : Nat) (ys : List α) (hx : a.eval x = .slice A m c) (hm : m = ys.length) (hr : RS E w A c ys)
    (hbytes : (xs.length + ys.length) * bytes ≤ 140737488355328) (h63 : xs.length + ys.length ≤ maxLen) (hbase : base ≤ w.heap.size)
    (h : ∀ A' c' w', Hid (Own E e w' base (.slice A' (xs.length + ys.length) c') (xs ++ ys)) → Kept (fun k => base ≤ k) w w' → Hid (w.grownBy w' v.ownBlock ∧ ((Value.slice A' (xs.length + ys.length) c').ownBlock = v.ownBlock ∨ (Value.slice A' (xs.length + ys.length) c').ownBlock = some w.heap.size)) → wpList P ops Q rest (a.put o.dst (.slice A' (xs.length + ys.length) c')) w') : wpList P ops Q (o :: rest) a w :=
  wpList_plain hgd fun _ hK => wp_appE T s x ho base v xs hs hown A m c ys hx hm hr hbytes h63 hbase fun v' w' h2 h3 h4 h5 => by
    obtain ⟨A', c', e1, hb, _⟩ := h2.form
    rw [List.length_append] at e1
    subst e1
    exact hK _ _ (h A' c' w' h2 h3 ⟨h4, h5⟩)
theorem step_appE {ops : Array Oper} {o : Oper} {a : Act} {K : Act → World → Prop} {Q : Exit → Act → World → Prop} {F : Prop} (hgd : o.guard = none) (T : SliceTy P t e n bytes) (s x : Operand)
    (ho : o.op = .call { callee := .builtin .append, args := #[s, x], argTypes := #[t, t] })
    (base : Nat) (v : Value) (xs : List α) (hs : a.eval s = v) (hown : Own E e w base v xs) (A : Option Addr) (m c : Nat) (ys : List α) (hx : a.eval x = .slice A m c) (hm : m = ys.length) (hr : RS E w A c ys)
    (hbytes : (xs.length + ys.length) * bytes ≤ 140737488355328) (h63 : xs.length + ys.length ≤ maxLen) (hbase : base ≤ w.heap.size)
    (h : ∀ v' w', Own E e w' base v' (xs ++ ys) → Kept (fun k => base ≤ k) w w' → w.grownBy w' v.ownBlock → (v'.ownBlock = v.ownBlock ∨ v'.ownBlock = some w.heap.size) → K (a.put o.dst v') w') :
    if Region.wanted o (yielded ops a.tmps) = true then Oper.wp P o a w K Q else F := by
  have hw : Region.wanted o (yielded ops a.tmps) = true := by simp [Region.wanted, hgd]
  rw [if_pos hw]
  exact wp_appE T s x ho base v xs hs hown A m c ys hx hm hr hbytes h63 hbase h

/-! Cuts of a slice whose address is a letter: one run equation each, to be laid ahead of a walk. -/
theorem run_frontE (T : SliceTy P t e n bytes) (A : Option Addr) (len c k : Nat) (hk : k ≤ len) (hc : len ≤ c) (hA : A = none → c = 0) (w : World) :
    (Instr.sliceAt t (.slice A len c) none (some (.int .i64 k)) none).run P w = .ok (.slice A k c) w := by
  obtain ⟨i, hi, hz⟩ := Option.map_eq_some_iff.1 T.size
  simp only [Instr.sliceAt, Instr.slice, Sem.run_bind, run_underlying T.ht, Result.andThen_ok, Instr.sliceBounds, Sem.run_pure]
  rw [run_sliceBound (w := w) .i64 k c _ (by omega) (by omega)]
  simp [sizeOf, typeInfo, hi, hz, Result.andThen]
  by_cases h0 : c = 0
  · simp [h0]
  · simp [h0]
    cases A with
    | none => rfl
    | some ad => simp [Addr.add]
theorem run_behindE (T : SliceTy P t e n bytes) (A : Option Addr) (len c k : Nat) (hk : k ≤ len) (hc : len ≤ c) (hA : A = none → c = 0) :
    ∃ A', (∀ w, (Instr.sliceAt t (.slice A len c) (some (.int .i64 k)) none none).run P w = .ok (.slice A' (len - k) (c - k)) w) ∧
      (∀ b off, A = some ⟨b, off, none⟩ → k < c → A' = some ⟨b, off + k * n, none⟩) ∧ (A' = none → c = k) ∧ (∀ b off, A' = some ⟨b, off, none⟩ → ∃ ad, A = some ad ∧ ad.block = b) := by
  refine ⟨if c = k then A else A.map (·.add (k * n)), fun w => ?_, fun b off hA1 hlt => ?_, fun hN => ?_, fun b off hA1 => ?_⟩
  · obtain ⟨i, hi, hz⟩ := Option.map_eq_some_iff.1 T.size
    simp only [Instr.sliceAt, Instr.slice, Sem.run_bind, run_underlying T.ht, Result.andThen_ok, Instr.sliceBounds, Sem.run_pure]
    rw [run_sliceBound (w := w) .i64 k len _ (by omega) (by omega)]
    simp [sizeOf, typeInfo, hi, hz, Result.andThen]
  · rw [if_neg (by omega), hA1, Option.map_some, Go.WideShapes.add_plain]
  · by_cases h : c = k
    · exact h
    · rw [if_neg h] at hN
      cases A with
      | none => have := hA rfl; omega
      | some ad => cases hN
  · by_cases h : c = k
    · rw [if_pos h] at hA1; exact ⟨_, hA1, rfl⟩
    · rw [if_neg h] at hA1
      cases A with
      | none => cases hA1
      | some ad =>
        refine ⟨ad, rfl, ?_⟩
        rw [Option.map_some] at hA1
        injection hA1 with hA1
        have := congrArg Addr.block hA1
        unfold Addr.add at this
        split at this <;> exact this
theorem RS.run_front {w0 : World} {A : Option Addr} {c : Nat} {xs : List α} (T : SliceTy P t e n bytes) (h : RS E w0 A c xs) (k : Nat) (hk : k ≤ xs.length) :
    ∀ w, (Instr.sliceAt t (.slice A xs.length c) none (some (.int .i64 k)) none).run P w = .ok (.slice A k c) w :=
  fun w => run_frontE T A xs.length c k hk h.le h.2.2.1 w
theorem RS.run_behind {w0 : World} {A : Option Addr} {c : Nat} {xs : List α} (T : SliceTy P t e n bytes) (h : RS E w0 A c xs) (k : Nat) (hk : k ≤ xs.length) :
    ∃ A', (∀ w, (Instr.sliceAt t (.slice A xs.length c) (some (.int .i64 k)) none none).run P w = .ok (.slice A' (xs.length - k) (c - k)) w) ∧ (∀ w, RS E w A c xs → RS E w A' (c - k) (xs.drop k)) ∧ (∀ b off, A' = some ⟨b, off, none⟩ → ∃ ad, A = some ad ∧ ad.block = b) := by
  obtain ⟨A', h1, h2, h3, h4⟩ := run_behindE T A xs.length c k hk h.le h.2.2.1
  exact ⟨A', h1, fun w hw => hw.behind k hk A' h2 h3, h4⟩
end

/-! Numbers. -/
def layI (k : IntKind) : Lay Int 1 := { cs := fun x => [.int k x], len := fun _ => rfl, one := fun x u hu => by simp at hu; subst hu; rfl, pos := by decide }
theorem flatI (k : IntKind) (xs : List Int) : (layI k).flat xs = xs.map (Value.int k) := by
  induction xs with
  | nil => rfl
  | cons x xs ih => rw [Lay.flat_cons, ih]; rfl
theorem RS.atI {k : IntKind} {w : World} {A : Option Addr} {c : Nat} {xs : List Int} (h : RS (layI k) w A c xs) {i : Nat} (hi : i < xs.length) :
    ∃ b off, A = some ⟨b, off, none⟩ ∧ b < w.heap.size ∧ w.cell? ⟨b, off + i, none⟩ = some (.int k (xs.getD i 0)) := by
  have hk : xs[i]? = some (xs.getD i 0) := by simp [List.getD, hi]
  obtain ⟨b, off, e, hb, hc⟩ := h.at_ hk
  refine ⟨b, off, e, hb, ?_⟩
  have := hc 0 (.int k (xs.getD i 0)) rfl
  rwa [Nat.mul_one, Nat.add_zero] at this
end Go.Proofs.YthnennleblgjeaaDoor
namespace Go.Proofs.YthnennleblgjeaaDoor
set_option linter.unusedVariables false
set_option linter.unusedSimpArgs false
open Go.RowKit Go.ChangeShapes Go.WideShapes
section
variable {H : Type} {enc : TypeId × Value → H} {P : Program} {w : World} {spare : Nat → Bool} {held : Bool}

theorem lt_of_cellN {w : World} {b o : Nat} {v : Value} (h : w.cell? ⟨b, o, none⟩ = some v) : b < w.heap.size := by
  rcases Nat.lt_or_ge b w.heap.size with hlt | hge
  · exact hlt
  · simp [World.cell?, Array.getElem?_eq_none hge] at h

theorem slice_elems {t e : TypeId} (ht : P.underlying t = some (.slice e)) (hC : 0 < P.cellsOf e) {a : Option Addr} {len cap : Nat} {d : DataW H} {p : List MemPlace}
    (h : DataW.Trod enc P w 0 spare held t (.slice a len cap) d p) :
    len ≤ cap ∧ cap ≤ maxLen ∧ (a = none → len = 0 ∧ cap = 0) ∧
    (0 < len → ∃ b off n, a = some ⟨b, off, none⟩ ∧ b < w.heap.size ∧ ∀ i, i < len → ∃ cs x, cs.length = P.cellsOf e ∧ (∀ j, j < P.cellsOf e → w.cell? ⟨b, off + (i * P.cellsOf e + j), none⟩ = cs[j]?) ∧ DataW.trod enc P w 0 spare held n e cs = some x) := by
  obtain ⟨fuel, hf⟩ := h
  rcases DataW.trod_slice ht hf with ⟨hcs, _⟩ | ⟨ad, len', cap', elems, rest, n, _, hcs, _, _, hl, hm, hel, hi, _⟩
  · simp [Value.cells] at hcs
    obtain ⟨rfl, rfl, rfl⟩ := hcs
    exact ⟨Nat.le_refl _, Nat.zero_le _, fun _ => ⟨rfl, rfl⟩, fun h => absurd h (by omega)⟩
  · simp [Value.cells] at hcs
    obtain ⟨rfl, rfl, rfl⟩ := hcs
    refine ⟨hl, hm, (fun h => by cases h), fun hpos => ?_⟩
    have key : ∀ i, i < len → ∃ cs x, cs.length = P.cellsOf e ∧ (∀ j, j < P.cellsOf e → w.cell? ((ad.add (i * P.cellsOf e)).add j) = cs[j]?) ∧ DataW.trod enc P w 0 spare held n e cs = some x := by
      intro i hi'
      have h1 := hi i hi'
      have h2 : elems[i]? = some (elems[i]'(by omega)) := List.getElem?_eq_getElem (by omega)
      rw [h2] at h1
      obtain ⟨cs, hc, ht'⟩ := Option.bind_eq_some_iff.1 h1
      obtain ⟨_, hcl, hat⟩ := World.cells?_some hc
      exact ⟨cs, _, hcl, fun j hj => hat j hj, ht'⟩
    obtain ⟨b, off, spot⟩ := ad
    obtain ⟨cs0, x0, hl0, hc0, _⟩ := key 0 hpos
    have h00 := hc0 0 hC
    have hs : spot = none := by
      have : cs0[0]? = some (cs0[0]'(by omega)) := List.getElem?_eq_getElem (by omega)
      rw [this] at h00
      simpa [Addr.add] using World.cell?_spot h00
    subst hs
    have hb : b < w.heap.size := by
      have : cs0[0]? = some (cs0[0]'(by omega)) := List.getElem?_eq_getElem (by omega)
      rw [this] at h00
      simp [Addr.add] at h00
      exact lt_of_cellN h00
    refine ⟨b, off, n, rfl, hb, fun i hi' => ?_⟩
    obtain ⟨cs, x, h1, h2, h3⟩ := key i hi'
    refine ⟨cs, x, h1, fun j hj => ?_, h3⟩
    rw [← h2 j hj, Go.WideShapes.add_plain, Go.WideShapes.add_plain, Nat.add_assoc]

theorem getD_mem (zs : List Int) (k : Nat) (h : k < zs.length) : zs.getD k 0 ∈ zs := by
  have e : zs.getD k 0 = zs[k] := by simp [List.getD, h]
  rw [e]; exact List.getElem_mem _
/-- The number in a cell. -/
def cellInt : Option Value → Int | some (.int _ n) => n | _ => 0
def cellBool : Option Value → Bool | some (.bool b) => b | _ => false

/-- A slice of integers that came in. -/
def IntsIn (k : IntKind) (w : World) (a : Option Addr) (len cap : Nat) (zs : List Int) : Prop :=
  len ≤ cap ∧ cap ≤ maxLen ∧ zs.length = len ∧ (a = none → len = 0 ∧ cap = 0) ∧ (∀ n ∈ zs, (Lit.int k n).wf = true) ∧
  (0 < len → ∃ b off, a = some ⟨b, off, none⟩ ∧ b < w.heap.size ∧ ∀ i, i < len → w.cell? ⟨b, off + i, none⟩ = some (.int k (zs.getD i 0)))

theorem intsIn_of {t e : TypeId} {k : IntKind} (ht : P.underlying t = some (.slice e)) (he : P.underlying e = some (.int k)) (hC : P.cellsOf e = 1) {a : Option Addr} {len cap : Nat} {d : DataW H} {p : List MemPlace}
    (h : DataW.Trod enc P w 0 spare held t (.slice a len cap) d p) : ∃ zs, IntsIn k w a len cap zs := by
  obtain ⟨h1, h2, h3, h4⟩ := slice_elems ht (by omega) h
  rcases Nat.eq_zero_or_pos len with h0 | hpos
  · subst h0
    exact ⟨[], h1, h2, rfl, h3, (fun n hn => by cases hn), fun h => absurd h (by omega)⟩
  · obtain ⟨b, off, n, rfl, hb, hel⟩ := h4 hpos
    have key : ∀ i, i < len → w.cell? ⟨b, off + i, none⟩ = some (.int k (cellInt (w.cell? ⟨b, off + i, none⟩))) ∧ (Lit.int k (cellInt (w.cell? ⟨b, off + i, none⟩))).wf = true := by
      intro i hi
      obtain ⟨cs, x, hl, hc, ht'⟩ := hel i hi
      obtain ⟨m, rfl, _, hw⟩ := DataW.trod_int he ht'
      have := hc 0 (by omega)
      rw [hC] at this
      simp at this
      rw [this]
      exact ⟨rfl, hw⟩
    refine ⟨(List.range len).map fun i => cellInt (w.cell? ⟨b, off + i, none⟩), h1, h2, by simp, h3, ?_, fun _ => ⟨b, off, rfl, hb, fun i hi => ?_⟩⟩
    · intro n hn
      obtain ⟨i, hi, rfl⟩ := List.mem_map.1 hn
      exact (key i (List.mem_range.1 hi)).2
    · rw [(key i hi).1]
      congr 2
      simp [List.getD, hi]

/-- A slice of structs that came in, each of 'size' integers of one kind. -/
def RecsIn (k : IntKind) (size : Nat) (w : World) (a : Option Addr) (len cap : Nat) (zs : Nat → Nat → Int) : Prop :=
  len ≤ cap ∧ cap ≤ maxLen ∧ (a = none → len = 0 ∧ cap = 0) ∧ (∀ i j, i < len → j < size → (Lit.int k (zs i j)).wf = true) ∧
  (0 < len → ∃ b off, a = some ⟨b, off, none⟩ ∧ b < w.heap.size ∧ ∀ i j, i < len → j < size → w.cell? ⟨b, off + (i * size + j), none⟩ = some (.int k (zs i j)))

theorem recsIn_of {t e : TypeId} {k : IntKind} {fs : Array Field} {size : Nat} (ht : P.underlying t = some (.slice e)) (he : P.underlying e = some (.struct fs)) (hC : P.cellsOf e = size) (hp : 0 < size) (hfs : fs.size = size)
    (hf : ∀ j, j < size → ∃ f, fs[j]? = some f ∧ f.offset = j ∧ P.cellsOf f.type = 1 ∧ P.underlying f.type = some (.int k)) {a : Option Addr} {len cap : Nat} {d : DataW H} {p : List MemPlace}
    (h : DataW.Trod enc P w 0 spare held t (.slice a len cap) d p) : ∃ zs, RecsIn k size w a len cap zs := by
  obtain ⟨h1, h2, h3, h4⟩ := slice_elems ht (by omega) h
  rcases Nat.eq_zero_or_pos len with h0 | hpos
  · subst h0
    exact ⟨fun _ _ => 0, h1, h2, h3, (fun i j hi => absurd hi (by omega)), fun h => absurd h (by omega)⟩
  · obtain ⟨b, off, n, rfl, hb, hel⟩ := h4 hpos
    have key : ∀ i j, i < len → j < size → w.cell? ⟨b, off + (i * size + j), none⟩ = some (.int k (cellInt (w.cell? ⟨b, off + (i * size + j), none⟩))) ∧ (Lit.int k (cellInt (w.cell? ⟨b, off + (i * size + j), none⟩))).wf = true := by
      intro i j hi hj
      obtain ⟨cs, x, hl, hc, ht'⟩ := hel i hi
      obtain ⟨xs, m, _, _, _, hxl, hg⟩ := DataW.trod_struct he ht'
      obtain ⟨f, hfj, ho, hc1, hu⟩ := hf j hj
      have h5 := hg j f hfj
      have hxj : xs[j]? = some (xs[j]'(by omega)) := List.getElem?_eq_getElem (by omega)
      rw [hxj] at h5
      obtain ⟨m', hm', _, hw⟩ := DataW.trod_int hu h5
      have h6 := hc j (by omega)
      rw [hC] at h6
      rw [ho, hc1] at hm'
      have h7 : cs[j]? = some (.int k m') := by
        have := congrArg (fun l : List Value => l[0]?) hm'
        simpa [List.getElem?_take, List.getElem?_drop] using this
      rw [h7] at h6
      rw [h6]
      exact ⟨rfl, hw⟩
    exact ⟨_, h1, h2, h3, fun i j hi hj => (key i j hi hj).2, fun _ => ⟨b, off, rfl, hb, fun i j hi hj => (key i j hi hj).1⟩⟩
end
end Go.Proofs.YthnennleblgjeaaDoor
namespace Go.Proofs.YthnennleblgjeaaDoor
set_option linter.unusedVariables false
set_option linter.unusedSimpArgs false
open Go.RowKit Go.ChangeShapes Go.WideShapes
section
variable {H : Type} {enc : TypeId × Value → H} {P : Program} {w : World} {spare : Nat → Bool} {held : Bool}

/-- A struct's cells cs, read at depth m: each field's own cells read. -/
def Fielded (enc : TypeId × Value → H) (P : Program) (w : World) (spare : Nat → Bool) (held : Bool) (m : Nat) (fs : Array Field) (cs : List Value) : Prop :=
  ∀ (j : Nat) (f : Field), fs[j]? = some f → ∃ x, DataW.trod enc P w 0 spare held m f.type ((cs.drop f.offset).take (P.cellsOf f.type)) = some x

theorem fielded_of {e : TypeId} {fs : Array Field} {m : Nat} {cs : List Value} {x : DataW H × List MemPlace} (he : P.underlying e = some (.struct fs)) (h : DataW.trod enc P w 0 spare held m e cs = some x) :
    ∃ m', Fielded enc P w spare held m' fs cs ∧ cs.length = P.cellsOf e := by
  obtain ⟨xs, m', _, _, hl, hxl, hg⟩ := DataW.trod_struct he h
  refine ⟨m', fun j f hf => ?_, hl⟩
  have hj : j < xs.length := by have := (Array.getElem?_eq_some_iff.1 hf).1; omega
  exact ⟨xs[j], by rw [hg j f hf]; exact List.getElem?_eq_getElem hj⟩

theorem slice_structs (n : Nat) {t e : TypeId} {fs : Array Field} (ht : P.underlying t = some (.slice e)) (he : P.underlying e = some (.struct fs)) (hC : P.cellsOf e = n) (hn : 0 < n) {a : Option Addr} {len cap : Nat} {d : DataW H} {p : List MemPlace}
    (h : DataW.Trod enc P w 0 spare held t (.slice a len cap) d p) :
    len ≤ cap ∧ cap ≤ maxLen ∧ (a = none → len = 0 ∧ cap = 0) ∧
    (0 < len → ∃ b off, a = some ⟨b, off, none⟩ ∧ b < w.heap.size ∧ ∀ i, i < len → ∃ cs m, cs.length = n ∧ (∀ j, j < n → w.cell? ⟨b, off + (i * n + j), none⟩ = cs[j]?) ∧ Fielded enc P w spare held m fs cs) := by
  subst hC
  obtain ⟨h1, h2, h3, h4⟩ := slice_elems ht hn h
  refine ⟨h1, h2, h3, fun hp => ?_⟩
  obtain ⟨b, off, _, ha, hb, hel⟩ := h4 hp
  refine ⟨b, off, ha, hb, fun i hi => ?_⟩
  obtain ⟨cs, x, hl, hc, hx⟩ := hel i hi
  obtain ⟨m, hm, _⟩ := fielded_of he hx
  exact ⟨cs, m, hl, hc, hm⟩

theorem drop_take_one {cs : List Value} {j : Nat} {v : Value} (h : (cs.drop j).take 1 = [v]) : cs[j]? = some v := by
  have := congrArg (fun l : List Value => l[0]?) h
  simpa [List.getElem?_take, List.getElem?_drop] using this
variable {fs : Array Field} {m : Nat} {cs : List Value}
theorem Fielded.bool (h : Fielded enc P w spare held m fs cs) (j o : Nat) (ty : TypeId) (hf : (fs[j]?).map (fun f => (f.offset, f.type)) = some (o, ty)) (hc : P.cellsOf ty = 1) (hu : P.underlying ty = some .bool) :
    cs[o]? = some (.bool (cellBool cs[o]?)) := by
  obtain ⟨f, hf1, hf2⟩ := Option.map_eq_some_iff.1 hf
  simp only [Prod.mk.injEq] at hf2
  obtain ⟨rfl, rfl⟩ := hf2
  obtain ⟨x, hx⟩ := h j f hf1
  obtain ⟨b, hb, _⟩ := DataW.trod_bool hu hx
  rw [hc] at hb
  rw [drop_take_one hb]
  rfl
theorem Fielded.int {k : IntKind} (h : Fielded enc P w spare held m fs cs) (j o : Nat) (ty : TypeId) (hf : (fs[j]?).map (fun f => (f.offset, f.type)) = some (o, ty)) (hc : P.cellsOf ty = 1) (hu : P.underlying ty = some (.int k)) :
    cs[o]? = some (.int k (cellInt cs[o]?)) ∧ (Lit.int k (cellInt cs[o]?)).wf = true := by
  obtain ⟨f, hf1, hf2⟩ := Option.map_eq_some_iff.1 hf
  simp only [Prod.mk.injEq] at hf2
  obtain ⟨rfl, rfl⟩ := hf2
  obtain ⟨x, hx⟩ := h j f hf1
  obtain ⟨n, hb, _, hw⟩ := DataW.trod_int hu hx
  rw [hc] at hb
  rw [drop_take_one hb]
  exact ⟨rfl, hw⟩
theorem Fielded.one (h : Fielded enc P w spare held m fs cs) (j o : Nat) (ty : TypeId) (hf : (fs[j]?).map (fun f => (f.offset, f.type)) = some (o, ty)) (hc : P.cellsOf ty = 1) (hl : o < cs.length) :
    ∃ v x, cs[o]? = some v ∧ DataW.trod enc P w 0 spare held m ty [v] = some x := by
  obtain ⟨f, hf1, hf2⟩ := Option.map_eq_some_iff.1 hf
  simp only [Prod.mk.injEq] at hf2
  obtain ⟨rfl, rfl⟩ := hf2
  obtain ⟨x, hx⟩ := h j f hf1
  rw [hc] at hx
  refine ⟨cs[f.offset], x, List.getElem?_eq_getElem hl, ?_⟩
  have e : (cs.drop f.offset).take 1 = [cs[f.offset]] := by
    rw [List.drop_eq_getElem_cons hl]; rfl
  rw [← e]; exact hx
end
/-- From cells that are known element by element to elements that are read. -/
theorem RS.ofCells {α : Type} {n : Nat} {E : Lay α n} {w : World} {a : Option Addr} {len cap : Nat} (f : Nat → α) (h1 : len ≤ cap) (h2 : cap ≤ maxLen) (h3 : a = none → len = 0 ∧ cap = 0)
    (h4 : 0 < len → ∃ b off, a = some ⟨b, off, none⟩ ∧ b < w.heap.size ∧ ∀ i, i < len → ∀ j, j < n → w.cell? ⟨b, off + (i * n + j), none⟩ = (E.cs (f i))[j]?) :
    RS E w a cap ((List.range len).map f) := by
  refine ⟨by simpa using h1, h2, fun e => (h3 e).2, fun hp => ?_⟩
  obtain ⟨b, off, ha, hb, hc⟩ := h4 (by simpa using hp)
  refine ⟨b, off, ha, hb, fun i v hv => ?_⟩
  have hi : i < len * n := by have := (List.getElem?_eq_some_iff.1 hv).1; rwa [E.flat_length, List.length_map, List.length_range] at this
  have hn := E.pos
  have hq : i / n < len := Nat.div_lt_of_lt_mul (by rw [Nat.mul_comm]; exact hi)
  have hr : i % n < n := Nat.mod_lt _ hn
  have e : i / n * n + i % n = i := Nat.div_add_mod' i n
  have := hc (i / n) hq (i % n) hr
  rw [e] at this
  rw [this]
  have hx : ((List.range len).map f)[i / n]? = some (f (i / n)) := by simp [hq]
  have h5 := E.flat_at hx hr
  rw [e] at h5
  rw [← h5]; exact hv
end Go.Proofs.YthnennleblgjeaaDoor
namespace Go.Proofs.YthnennleblgjeaaDoor
set_option linter.unusedVariables false
set_option linter.unusedSimpArgs false
open Go.RowKit
section
variable {P : Program} {α : Type} {n : Nat} {E : Lay α n} {t e : TypeId} {bytes : Nat} {w : World}
theorem run_copy_rowN (w : World) (dT sT ty elem : TypeId) (n m : Nat) (g o dLen dCap : Nat) (a : Addr) (sLen sCap : Nat) (cur : Array Value) (t : TypeId) (cs : List Value)
    (hu : P.underlying dT = some (.slice elem)) (hs : (P.info? elem).map (·.size) = some n)
    (hg : w.heap[g]? = some (.cells cur t (0, 0))) (hm : m = Nat.min sLen dLen) (hn : cs.length = m * n)
    (hsrc : ∀ j v, cs[j]? = some v → w.cell? (a.add j) = some v) (hfit : o + cs.length ≤ cur.size) (h1 : ∀ v ∈ cs, v.oneCell' = true) :
    (Builtin.copy_ #[dT, sT] ty #[.slice (some ⟨g, o, none⟩) dLen dCap, .slice (some a) sLen sCap]).run P w =
      .ok (goInt m) (w.setRow g (cur.toList.take o ++ cs ++ cur.toList.drop (o + cs.length)).toArray) := by
  have hl := run_loadCells_list (P := P) w a cs hsrc
  have hst := run_storeCells_at P g o t cs 0 cur w hg (by simpa using hfit) h1
  cases hq : P.info? elem with
  | none => simp [hq] at hs
  | some i =>
    have hi : i.size = n := by simpa [hq] using hs
    rw [hn] at hl
    simp [Builtin.copy_, run_underlying hu, Builtin.lenOf, Builtin.firstCells, sizeOf, typeInfo, hq, hi, ← hm, hl, hst]
theorem run_copy_noneN (w : World) (dT sT ty elem : TypeId) (n : Nat) (d a : Option Addr) (dLen dCap sLen sCap : Nat) (hu : P.underlying dT = some (.slice elem)) (hs : (P.info? elem).map (·.size) = some n) (hn : Nat.min sLen dLen = 0) :
    (Builtin.copy_ #[dT, sT] ty #[.slice d dLen dCap, .slice a sLen sCap]).run P w = .ok (goInt 0) w := by
  cases hq : P.info? elem with
  | none => simp [hq] at hs
  | some i =>
    have hl : ∀ (x : Addr), (loadCells x 0).run P w = .ok #[] w := fun x => by simpa using run_loadCells_list (P := P) w x [] (by simp)
    cases d <;> cases a <;> simp [Builtin.copy_, run_underlying hu, Builtin.lenOf, Builtin.firstCells, sizeOf, typeInfo, hq, hn, storeCells, hl]
theorem wpList_makeE {ops : Array Oper} {rest : List Oper} {o : Oper} {a : Act} {Q : Exit → Act → World → Prop} (hgd : o.guard = none) (T : SliceTy P t e n bytes) (l c : Operand) (hop : o.op = Op.makeSlice t l c)
    (m : Nat) (L C : Int) (hl : a.eval l = .int .i64 L) (hc : a.eval c = .int .i64 C) (hL : L = (m : Int)) (hC : C = (m : Int)) (hb : bytes * m ≤ 281474976710656) (hm : m ≤ maxLen)
    (h : ∀ w' cs, cs.size = m * n → Blk w' w.heap.size e cs → Fine w w' → wpList P ops Q rest (a.put o.dst (.slice (some ⟨w.heap.size, 0, none⟩) m m)) w') : wpList P ops Q (o :: rest) a w := by
  obtain ⟨i, z, hi, hz, hsize, hby, hzs⟩ := T.hi
  refine wpList_make_full w hgd l c t hop w.heap.size e i z n T.ht hi hz hsize .i64 .i64 L C m hl hc hL hC (by rw [hby]; exact hb) hm (Nat.le_refl _) fun w' hown hg => ?_
  have hf : Fine w w' := (Fine.refl w).grown hg (fun k hk => by cases hk)
  obtain ⟨_, hv⟩ := hown
  rcases hv with ⟨h1, _⟩ | ⟨g, cap, cur, h1, _, hh, _, _, hcs, ht⟩
  · cases h1
  · injection h1 with h1 _ h3
    injection h1 with h1
    injection h1 with h1 _
    subst h1 h3
    exact h w' cur hcs hh hf
/-- All of a slice is copied into a block of its size. -/
theorem wpList_copyE {ops : Array Oper} {rest : List Oper} {o : Oper} {a : Act} {Q : Exit → Act → World → Prop} (hgd : o.guard = none) (T : SliceTy P t e n bytes) (d s : Operand)
    (ho : o.op = .call { callee := .builtin .copy, args := #[d, s], argTypes := #[t, t] })
    (g : Nat) (cs : Array Value) (hblk : Blk w g e cs) (m C : Nat) (hd : a.eval d = .slice (some ⟨g, 0, none⟩) m C) (A : Option Addr) (m2 c : Nat) (xs : List α) (hs : a.eval s = .slice A m2 c) (hm : m = xs.length) (hm2 : m2 = xs.length) (hsz : cs.size = xs.length * n) (hr : RS E w A c xs)
    (h : ∀ w', Blk w' g e (E.flat xs).toArray → Kept (· = g) w w' → wpList P ops Q rest (a.put o.dst (goInt xs.length)) w') : wpList P ops Q (o :: rest) a w := by
  subst hm hm2
  have hlt := hblk.lt
  refine wpList_plain hgd fun K hK => ?_
  by_cases h0 : xs.length = 0
  · have hrun := run_copy_noneN (P := P) w t t o.type e n (some ⟨g, 0, none⟩) A xs.length C xs.length c T.ht T.size (by simp [h0])
    unfold Oper.wp
    simp [execOp, ho, resolve, invoke, builtin, hd, hs, hrun, Result.andThen]
    have e0 : xs = [] := List.eq_nil_of_length_eq_zero h0
    subst e0
    refine hK _ _ (h w ?_ (Kept.refl _ _))
    have : cs = #[] := Array.eq_empty_of_size_eq_zero (by simpa using hsz)
    subst this
    exact hblk
  · obtain ⟨b, off, e1, _, hc⟩ := hr.2.2.2 (by omega)
    subst e1
    have hfl : (E.flat xs).length = xs.length * n := E.flat_length xs
    have hrun := run_copy_rowN (P := P) w t t o.type e n xs.length g 0 xs.length C ⟨b, off, none⟩ xs.length c cs e (E.flat xs) T.ht T.size hblk (by simp [Nat.min_def]) hfl
      (fun j v hv => by rw [Go.WideShapes.add_plain]; exact hc j v hv) (by omega) (E.flat_oneCell xs)
    have e1 : (cs.toList.take 0 ++ E.flat xs ++ cs.toList.drop (0 + (E.flat xs).length)).toArray = (E.flat xs).toArray := by
      congr 1
      rw [List.take_zero, List.nil_append, List.drop_eq_nil_of_le (by rw [Array.length_toList]; omega), List.append_nil]
    rw [e1] at hrun
    unfold Oper.wp
    simp [execOp, ho, resolve, invoke, builtin, hd, hs, hrun, Result.andThen]
    refine hK _ _ (h _ ?_ ?_)
    · unfold Blk at hblk ⊢
      simp [World.setRow, Array.getElem?_modify, hblk]
    · exact ⟨rfl, rfl, rfl, by simp [World.setRow], fun k hk hne => setRow_other w g k _ hne⟩
end
end Go.Proofs.YthnennleblgjeaaDoor
