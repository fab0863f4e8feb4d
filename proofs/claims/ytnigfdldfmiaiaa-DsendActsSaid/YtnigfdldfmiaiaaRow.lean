/-
  In-place work on a row of a call's own, elements of several cells: a copy into its middle, its end set to zero; a front of it; what lies elsewhere.
-/
import Derived.Test.YtnigfdldfmiaiaaCopy
import Derived.ArgAppend
import Derived.Lib.AppendZerosOnto
namespace Go.Proofs.Ytnigfdldfmiaiaa
open Go.RowKit
set_option linter.unusedVariables false
set_option linter.unusedSimpArgs false
section
variable {P : Program} {α : Type} {n : Nat} {E : Lay α n} {t e : TypeId} {bytes : Nat} {w : World}
theorem setRow_blk {g : Nat} {cur cur' : Array Value} (h : Blk w g e cur) : Blk (w.setRow g cur') g e cur' ∧ Kept (· = g) w (w.setRow g cur') := by
  constructor
  · unfold Blk at h ⊢
    simp [World.setRow, Array.getElem?_modify, h]
  · exact ⟨rfl, rfl, rfl, by simp [World.setRow], fun k hk hne => setRow_other w g k _ hne⟩
/-- 'copy' of whole elements into the middle of a block. -/
theorem run_copyM (T : SliceTy P t e n bytes) {g : Nat} {cur : Array Value} (hb : Blk w g e cur) (o k kc : Nat) (a : Addr) (sl sc : Nat) (ys : List α) (hm : ys.length = Nat.min sl k) (hsrc : ∀ j v, (E.flat ys)[j]? = some v → w.cell? (a.add j) = some v) (hfit : o + ys.length * n ≤ cur.size) (ty : TypeId) :
    ∃ w', (Builtin.copy_ #[t, t] ty #[.slice (some ⟨g, o, none⟩) k kc, .slice (some a) sl sc]).run P w = .ok (goInt ys.length) w' ∧ Blk w' g e (cur.toList.take o ++ E.flat ys ++ cur.toList.drop (o + ys.length * n)).toArray ∧ Kept (· = g) w w' := by
  have h := run_copy_rowN (P := P) w t t ty e n ys.length g o k kc a sl sc cur e (E.flat ys) T.ht T.size hb hm (E.flat_length ys) hsrc (by rw [E.flat_length]; exact hfit) (E.flat_oneCell ys)
  rw [E.flat_length] at h
  have h2 := setRow_blk (cur' := (cur.toList.take o ++ E.flat ys ++ cur.toList.drop (o + ys.length * n)).toArray) hb
  exact ⟨_, h, h2.1, h2.2⟩
theorem wp_copyM {o : Oper} {a : Act} {K : Act → World → Prop} {Q : Exit → Act → World → Prop} (T : SliceTy P t e n bytes) (d s : Operand)
    (ho : o.op = .call { callee := .builtin .copy, args := #[d, s], argTypes := #[t, t] })
    {g : Nat} {cur : Array Value} (hb : Blk w g e cur) (off k kc : Nat) (hd : a.eval d = .slice (some ⟨g, off, none⟩) k kc) (A : Addr) (sl sc : Nat) (hs : a.eval s = .slice (some A) sl sc) (ys : List α) (hm : ys.length = Nat.min sl k) (hsrc : ∀ j v, (E.flat ys)[j]? = some v → w.cell? (A.add j) = some v) (hfit : off + ys.length * n ≤ cur.size)
    (h : ∀ w', Blk w' g e (cur.toList.take off ++ E.flat ys ++ cur.toList.drop (off + ys.length * n)).toArray → Kept (· = g) w w' → K (a.put o.dst (goInt ys.length)) w') : o.wp P a w K Q := by
  obtain ⟨w', hrun, h1, h2⟩ := run_copyM T hb off k kc A sl sc ys hm hsrc hfit o.type
  unfold Oper.wp
  simp [execOp, ho, resolve, invoke, builtin, hd, hs, hrun, Result.andThen]
  exact h w' h1 h2
theorem wpList_copyM {ops : Array Oper} {rest : List Oper} {o : Oper} {a : Act} {Q : Exit → Act → World → Prop} (hgd : o.guard = none) (T : SliceTy P t e n bytes) (d s : Operand)
    (ho : o.op = .call { callee := .builtin .copy, args := #[d, s], argTypes := #[t, t] })
    {g : Nat} {cur : Array Value} (hb : Blk w g e cur) (off k kc : Nat) (hd : a.eval d = .slice (some ⟨g, off, none⟩) k kc) (A : Addr) (sl sc : Nat) (hs : a.eval s = .slice (some A) sl sc) (ys : List α) (hm : ys.length = Nat.min sl k) (hsrc : ∀ j v, (E.flat ys)[j]? = some v → w.cell? (A.add j) = some v) (hfit : off + ys.length * n ≤ cur.size)
    (h : ∀ w', Blk w' g e (cur.toList.take off ++ E.flat ys ++ cur.toList.drop (off + ys.length * n)).toArray → Kept (· = g) w w' → wpList P ops Q rest (a.put o.dst (goInt ys.length)) w') : wpList P ops Q (o :: rest) a w :=
  wpList_plain hgd fun K hK => wp_copyM T d s ho hb off k kc hd A sl sc hs ys hm hsrc hfit fun w' h1 h2 => hK _ _ (h w' h1 h2)
/-- 'clear' of a slice that lies in a block. -/
theorem run_clearM (ht : P.underlying t = some (.slice e)) (z : Value) (hv : ∀ w, (zeroValue e).run P w = .ok z w) (hz : z.cells.size = n) (h1 : ∀ v ∈ z.cells, v.oneCell' = true) {g : Nat} {cur : Array Value} (hb : Blk w g e cur) (o k : Nat) (hfit : o + k * n ≤ cur.size) :
    ∃ w' zs, (∀ ty c, (Builtin.clear_ #[t] ty #[.slice (some ⟨g, o, none⟩) k c]).run P w = .ok (.tuple #[]) w') ∧ zs.length = k * n ∧ Blk w' g e (cur.toList.take o ++ zs ++ cur.toList.drop (o + k * n)).toArray ∧ Kept (· = g) w w' := by
  have hl : (Builtin.zeroCells z.cells k).toList.length = k * n := by rw [Array.length_toList, size_zeroCells, hz]
  cases k with
  | zero =>
    refine ⟨w, [], fun ty c => by simp [Builtin.clear_, run_underlying ht], by simp, ?_, Kept.refl _ _⟩
    rw [List.append_nil, Nat.zero_mul, Nat.add_zero, List.take_append_drop, Array.toArray_toList]
    exact hb
  | succ k =>
    have hone : ∀ v ∈ (Builtin.zeroCells z.cells (k + 1)).toList, v.oneCell' = true := by
      intro v hv2
      rw [Array.mem_toList_iff] at hv2
      unfold Builtin.zeroCells at hv2
      obtain ⟨i, hi, rfl⟩ := Array.mem_map.mp hv2
      have hi : i < (k + 1) * z.cells.size := by simpa using hi
      have hp : 0 < z.cells.size := Nat.pos_of_ne_zero (fun h0 => by rw [h0] at hi; omega)
      have hlt : i % z.cells.size < z.cells.size := Nat.mod_lt _ hp
      refine h1 _ ?_
      rw [getElem!_pos z.cells _ hlt]
      exact Array.getElem_mem hlt
    have hst := run_storeCells_at P g o e (Builtin.zeroCells z.cells (k + 1)).toList 0 cur w hb (by rw [hl]; omega) hone
    rw [hl, Nat.add_zero] at hst
    have h2 := setRow_blk (cur' := (cur.toList.take o ++ (Builtin.zeroCells z.cells (k + 1)).toList ++ cur.toList.drop (o + (k + 1) * n)).toArray) hb
    refine ⟨_, _, fun ty c => ?_, hl, h2.1, h2.2⟩
    simp [Builtin.clear_, run_underlying ht, hv, hst]
/-- append where there is room, onto a front of a block known whole. -/
theorem run_appM (T : SliceTy P t e n bytes) {g : Nat} {cur : Array Value} (hb : Blk w g e cur) (k cap : Nat) (ad : Addr) (c : Nat) (ys : List α) (hsrc : ∀ j v, (E.flat ys)[j]? = some v → w.cell? (ad.add j) = some v) (hroom : k + ys.length ≤ cap) (hfit : k * n + ys.length * n ≤ cur.size) (ty : TypeId) :
    ∃ w', (Builtin.append_ #[t, t] ty #[.slice (some ⟨g, 0, none⟩) k cap, .slice (some ad) ys.length c]).run P w = .ok (.slice (some ⟨g, 0, none⟩) (k + ys.length) cap) w' ∧ Blk w' g e (cur.toList.take (k * n) ++ E.flat ys ++ cur.toList.drop (k * n + ys.length * n)).toArray ∧ Kept (· = g) w w' := by
  obtain ⟨i, z, hi, hz, hsize, hby, hzs⟩ := T.hi
  subst hsize
  have hfc := run_firstCells_some (P := P) w i.size ys.length ad ys.length c (E.flat ys) (E.flat_length ys) hsrc
  have hst := run_storeCells_at P g (k * i.size) e (E.flat ys) 0 cur w hb (by rw [E.flat_length]; omega) (E.flat_oneCell ys)
  rw [E.flat_length, Nat.add_zero] at hst
  have h2 := setRow_blk (cur' := (cur.toList.take (k * i.size) ++ E.flat ys ++ cur.toList.drop (k * i.size + ys.length * i.size)).toArray) hb
  refine ⟨_, ?_, h2.1, h2.2⟩
  simp [Builtin.append_, run_underlying T.ht, sizeOf, typeInfo, hi, Builtin.lenOf, hroom, hfc, Addr.add_lit, hst]
theorem wp_appM {o : Oper} {a : Act} {K : Act → World → Prop} {Q : Exit → Act → World → Prop} (T : SliceTy P t e n bytes) (s x : Operand)
    (ho : o.op = .call { callee := .builtin .append, args := #[s, x], argTypes := #[t, t] })
    {g : Nat} {cur : Array Value} (hb : Blk w g e cur) (k cap : Nat) (hs : a.eval s = .slice (some ⟨g, 0, none⟩) k cap) (ad : Addr) (m c : Nat) (hx : a.eval x = .slice (some ad) m c) (ys : List α) (hm : m = ys.length) (hsrc : ∀ j v, (E.flat ys)[j]? = some v → w.cell? (ad.add j) = some v) (hroom : k + m ≤ cap) (hfit : k * n + m * n ≤ cur.size)
    (h : ∀ w', Blk w' g e (cur.toList.take (k * n) ++ E.flat ys ++ cur.toList.drop (k * n + m * n)).toArray → Kept (· = g) w w' → K (a.put o.dst (.slice (some ⟨g, 0, none⟩) (k + m) cap)) w') : o.wp P a w K Q := by
  subst hm
  obtain ⟨w', hrun, h1, h2⟩ := run_appM T hb k cap ad c ys hsrc hroom hfit o.type
  unfold Oper.wp
  simp [execOp, ho, resolve, invoke, builtin, hs, hx, hrun, Result.andThen]
  exact h w' h1 h2
theorem wpList_appM {ops : Array Oper} {rest : List Oper} {o : Oper} {a : Act} {Q : Exit → Act → World → Prop} (hgd : o.guard = none) (T : SliceTy P t e n bytes) (s x : Operand)
    (ho : o.op = .call { callee := .builtin .append, args := #[s, x], argTypes := #[t, t] })
    {g : Nat} {cur : Array Value} (hb : Blk w g e cur) (k cap : Nat) (hs : a.eval s = .slice (some ⟨g, 0, none⟩) k cap) (ad : Addr) (m c : Nat) (hx : a.eval x = .slice (some ad) m c) (ys : List α) (hm : m = ys.length) (hsrc : ∀ j v, (E.flat ys)[j]? = some v → w.cell? (ad.add j) = some v) (hroom : k + m ≤ cap) (hfit : k * n + m * n ≤ cur.size)
    (h : ∀ w', Blk w' g e (cur.toList.take (k * n) ++ E.flat ys ++ cur.toList.drop (k * n + m * n)).toArray → Kept (· = g) w w' → wpList P ops Q rest (a.put o.dst (.slice (some ⟨g, 0, none⟩) (k + m) cap)) w') : wpList P ops Q (o :: rest) a w :=
  wpList_plain hgd fun K hK => wp_appM T s x ho hb k cap hs ad m c hx ys hm hsrc hroom hfit fun w' h1 h2 => hK _ _ (h w' h1 h2)
/-- 'append(s, make([]T, k)...)' where there is no room: a row of its own. -/
theorem wpList_appZ {ops : Array Oper} {rest : List Oper} {o : Oper} {a : Act} {Q : Exit → Act → World → Prop} (hgd : o.guard = none) (T : SliceTy P t e n bytes) (tn : TypeId) (htn : P.underlying tn = some (.int .i64)) (s x : Operand)
    (ho : o.op = .call { callee := .builtin .append, args := #[s, x], argTypes := #[t, tn] })
    (A : Option Addr) (sl sc : Nat) (hs : a.eval s = .slice A sl sc) (xs : List α) (hl : sl = xs.length) (hr : RS E w A sc xs) (k : Nat) (kk : Int) (hx : a.eval x = .int .i64 kk) (hk : kk = (k : Int)) (h0 : 0 < k) (hg : sc < sl + k) (hb : bytes ≤ 1000) (hsm : sl + k ≤ 10000000000)
    (h : ∀ w' cap cur, Blk w' w.heap.size e cur → cap = sl + k ∨ sl + k ≤ cap → cap ≤ maxLen → cur.size = cap * n → cur.toList.take (sl * n) = E.flat xs → Fine w w' → wpList P ops Q rest (a.put o.dst (.slice (some ⟨w.heap.size, 0, none⟩) (sl + k) cap)) w') : wpList P ops Q (o :: rest) a w := by
  subst hl hk
  obtain ⟨i, z, hi, hz, hsize, hby, hzs⟩ := T.hi
  subst hsize hby
  have hold : (Builtin.firstCells i.size xs.length (.slice A xs.length sc)).run P w.drew = .ok (E.flat xs).toArray w.drew := by
    by_cases hp : 0 < xs.length
    · obtain ⟨b, off, rfl, _, hc⟩ := hr.2.2.2 hp
      exact run_firstCells_some (P := P) w.drew i.size xs.length ⟨b, off, none⟩ xs.length sc (E.flat xs) (E.flat_length xs) (fun j v hv => by rw [Go.WideShapes.add_plain]; exact hc j v hv)
    · have e0 : xs = [] := List.eq_nil_of_length_eq_zero (by omega)
      subst e0
      cases A with
      | none => simp [Builtin.firstCells, E.flat_nil]
      | some ad => exact run_firstCells_some (P := P) w.drew i.size 0 ad 0 sc (E.flat []) (by simp [E.flat_nil]) (fun j v hv => by simp [E.flat_nil] at hv)
  have hge := grownCap_ge w (xs.length + k) sc e
  have hcm : grownCap w (xs.length + k) sc e ≤ maxLen := grownCap_le_maxLen w (xs.length + k) sc e (by unfold maxLen; omega)
  have hrun := Lib.run_append_grow_zeros (P := P) w t tn o.type e i z .i64 .i64 T.ht htn hi hz A xs.length sc (E.flat xs) hold k h0 (by have := E.pos; omega) hg (by omega) (by have := Nat.mul_le_mul_left k hb; omega) (growslice_fits hg (by have := Nat.mul_le_mul (Nat.le_refl (xs.length + k)) hb; omega))
  refine wpList_plain hgd fun K hK => ?_
  unfold Oper.wp
  simp [execOp, ho, resolve, invoke, builtin, hs, hx, hrun, Result.andThen]
  refine hK _ _ (h _ (grownCap w (xs.length + k) sc e) _ (Blk.new w.drew e _) (.inr hge) hcm ?_ ?_ ((Fine.refl w).drew.alloc _))
  · simp only [Array.size_append, List.size_toArray, size_zeroCells, hzs, E.flat_length, ← Nat.add_mul]
    congr 1
    omega
  · simp only [Array.toList_append, List.append_assoc]
    exact List.take_left' (E.flat_length xs)
theorem run_appZ (T : SliceTy P t e n bytes) (tn : TypeId) (htn : P.underlying tn = some (.int .i64)) (A : Option Addr) (sl sc : Nat) (xs : List α) (hl : sl = xs.length) (hr : RS E w A sc xs) (k : Nat) (h0 : 0 < k) (hg : sc < sl + k) (hb : bytes ≤ 1000) (hsm : sl + k ≤ 10000000000) (ty : TypeId) :
    ∃ w' cap cur, (Builtin.append_ #[t, tn] ty #[.slice A sl sc, .int .i64 (k : Int)]).run P w = .ok (.slice (some ⟨w.heap.size, 0, none⟩) (sl + k) cap) w' ∧ Blk w' w.heap.size e cur ∧ sl + k ≤ cap ∧ cap ≤ maxLen ∧ cur.size = cap * n ∧ cur.toList.take (sl * n) = E.flat xs ∧ Fine w w' := by
  subst hl
  obtain ⟨i, z, hi, hz, hsize, hby, hzs⟩ := T.hi
  subst hsize hby
  have hold : (Builtin.firstCells i.size xs.length (.slice A xs.length sc)).run P w.drew = .ok (E.flat xs).toArray w.drew := by
    by_cases hp : 0 < xs.length
    · obtain ⟨b, off, rfl, _, hc⟩ := hr.2.2.2 hp
      exact run_firstCells_some (P := P) w.drew i.size xs.length ⟨b, off, none⟩ xs.length sc (E.flat xs) (E.flat_length xs) (fun j v hv => by rw [Go.WideShapes.add_plain]; exact hc j v hv)
    · have e0 : xs = [] := List.eq_nil_of_length_eq_zero (by omega)
      subst e0
      cases A with
      | none => simp [Builtin.firstCells, E.flat_nil]
      | some ad => exact run_firstCells_some (P := P) w.drew i.size 0 ad 0 sc (E.flat []) (by simp [E.flat_nil]) (fun j v hv => by simp [E.flat_nil] at hv)
  have hge := grownCap_ge w (xs.length + k) sc e
  have hcm : grownCap w (xs.length + k) sc e ≤ maxLen := grownCap_le_maxLen w (xs.length + k) sc e (by unfold maxLen; omega)
  have hrun := Lib.run_append_grow_zeros (P := P) w t tn ty e i z .i64 .i64 T.ht htn hi hz A xs.length sc (E.flat xs) hold k h0 (by have := E.pos; omega) hg (by omega) (by have := Nat.mul_le_mul_left k hb; omega) (growslice_fits hg (by have := Nat.mul_le_mul (Nat.le_refl (xs.length + k)) hb; omega))
  refine ⟨_, grownCap w (xs.length + k) sc e, _, hrun, Blk.new w.drew e _, hge, hcm, ?_, ?_, (Fine.refl w).drew.alloc _⟩
  · simp only [Array.size_append, List.size_toArray, size_zeroCells, hzs, E.flat_length, ← Nat.add_mul]
    congr 1
    omega
  · simp only [Array.toList_append, List.append_assoc]
    exact List.take_left' (E.flat_length xs)
/-- A row of one's own, taken apart: its block. -/
theorem Own.block {base : Nat} {v : Value} {xs : List α} (h : Own E e w base v xs) (hp : 0 < xs.length) : ∃ g cap cur, v = .slice (some ⟨g, 0, none⟩) xs.length cap ∧ base ≤ g ∧ Blk w g e cur ∧ xs.length ≤ cap ∧ cap ≤ maxLen ∧ cur.size = cap * n ∧ cur.toList.take (xs.length * n) = E.flat xs := by
  obtain ⟨hl, hv⟩ := h
  rcases hv with ⟨_, h0⟩ | ⟨g, cap, cur, rfl, hg, hh, hn, hm, hcs, ht⟩
  · omega
  · exact ⟨g, cap, cur, rfl, hg, hh, hn, hm, hcs, ht⟩
theorem Own.make {base g cap : Nat} {cur : Array Value} {xs : List α} (hg : base ≤ g) (hb : Blk w g e cur) (hn : xs.length ≤ cap) (hm : cap ≤ maxLen) (hcs : cur.size = cap * n) (ht : cur.toList.take (xs.length * n) = E.flat xs) : Own E e w base (.slice (some ⟨g, 0, none⟩) xs.length cap) xs :=
  ⟨E.flat_length xs, .inr ⟨g, cap, cur, rfl, hg, hb, hn, hm, hcs, ht⟩⟩
/-- A front of it. -/
theorem Own.front {base : Nat} {A : Option Addr} {m c : Nat} {xs : List α} (h : Own E e w base (.slice A m c) xs) (k : Nat) (hk : k ≤ xs.length) (hp : 0 < xs.length) : Own E e w base (.slice A k c) (xs.take k) := by
  obtain ⟨g, cap, cur, e1, hg, hb, hn, hm, hcs, ht⟩ := h.block hp
  injection e1 with e1 e2 e3
  subst e1 e2 e3
  have hl : (xs.take k).length = k := by rw [List.length_take]; omega
  have h2 : Own E e w base (.slice (some ⟨g, 0, none⟩) (xs.take k).length c) (xs.take k) := Own.make hg hb (by omega) hm hcs (by
    rw [hl, ← E.flat_take, ← ht, List.take_take, Nat.min_eq_left (Nat.mul_le_mul_right n hk)])
  rw [hl] at h2
  exact h2
/-! What a block holds behind such work. -/
theorem take_le {L : List Value} {xs : List α} (h : L.take (xs.length * n) = E.flat xs) {k : Nat} (hk : k ≤ xs.length) : L.take (k * n) = E.flat (xs.take k) := by
  rw [← E.flat_take, ← h, List.take_take, Nat.min_eq_left (Nat.mul_le_mul_right n hk)]
theorem cell_drop {L : List Value} {xs : List α} (h : L.take (xs.length * n) = E.flat xs) (k : Nat) {j : Nat} {v : Value} (hv : (E.flat (xs.drop k))[j]? = some v) : L[k * n + j]? = some v := by
  rw [← E.flat_drop, ← h, List.getElem?_drop, List.getElem?_take] at hv
  split at hv
  · exact hv
  · cases hv
/-- One put in, the rest moved on by one. -/
theorem ins_flat {L : List Value} {xs : List α} {i : Nat} (r : α) (h : L.take (xs.length * n) = E.flat xs) (hi : i ≤ xs.length) (hL : (xs.length + 1) * n ≤ L.length) :
    ∀ L1 L2 : List Value, L1 = L.take ((i + 1) * n) ++ E.flat (xs.drop i) ++ L.drop ((i + 1) * n + (xs.drop i).length * n) → L2 = L1.take (i * n) ++ E.flat [r] ++ L1.drop (i * n + 1 * n) → L2.length = L.length ∧ L2.take ((xs.length + 1) * n) = E.flat (xs.take i ++ r :: xs.drop i) := by
  rintro L1 L2 rfl rfl
  have hle : (i + 1) * n ≤ (xs.length + 1) * n := Nat.mul_le_mul_right n (by omega)
  have e1 : (i + 1) * n = i * n + n := Nat.succ_mul i n
  have hdl : (xs.drop i).length = xs.length - i := List.length_drop
  have e2 : (i + 1) * n + (xs.drop i).length * n = (xs.length + 1) * n := by
    rw [hdl, ← Nat.add_mul]
    congr 1
    omega
  have hl1 : (L.take ((i + 1) * n)).length = (i + 1) * n := by rw [List.length_take]; omega
  have t1 : (L.take ((i + 1) * n) ++ E.flat (xs.drop i) ++ L.drop ((i + 1) * n + (xs.drop i).length * n)).take (i * n) = E.flat (xs.take i) := by
    rw [List.append_assoc, List.take_append_of_le_length (by rw [hl1]; omega), List.take_take, Nat.min_eq_left (by omega)]
    exact take_le h hi
  have t2 : (L.take ((i + 1) * n) ++ E.flat (xs.drop i) ++ L.drop ((i + 1) * n + (xs.drop i).length * n)).drop (i * n + 1 * n) = E.flat (xs.drop i) ++ L.drop ((i + 1) * n + (xs.drop i).length * n) := by
    rw [List.append_assoc, List.drop_left' (by rw [hl1]; omega)]
  rw [t1, t2]
  have hRl : (L.drop ((i + 1) * n + (xs.drop i).length * n)).length = L.length - (xs.length + 1) * n := by rw [e2, List.length_drop]
  generalize L.drop ((i + 1) * n + (xs.drop i).length * n) = R at hRl
  have hf1 : (E.flat [r]).length = n := by rw [E.flat_length]; simp
  have hfa : (E.flat (xs.take i)).length = i * n := by rw [E.flat_length, List.length_take, Nat.min_eq_left hi]
  have hfb : (E.flat (xs.drop i)).length = (xs.length - i) * n := by rw [E.flat_length, hdl]
  have e3 : i * n + n + (xs.length - i) * n = (xs.length + 1) * n := by
    rw [← e1, ← Nat.add_mul]
    congr 1
    omega
  constructor
  · rw [List.length_append, List.length_append, List.length_append, hfa, hf1, hfb, hRl]
    omega
  · have e4 : E.flat (xs.take i) ++ E.flat [r] ++ (E.flat (xs.drop i) ++ R) = E.flat (xs.take i ++ r :: xs.drop i) ++ R := by
      rw [E.flat_one, E.flat_append, E.flat_cons]
      simp
    rw [e4, List.take_left']
    rw [E.flat_append, E.flat_cons, List.length_append, List.length_append, hfa, hfb, E.len]
    omega
/-- Into a new row: one behind what is there, the rest behind it. -/
theorem grow_flat {L : List Value} {a b : List α} (r : α) (h : L.take (a.length * n) = E.flat a) (hL : (a.length + 1 + b.length) * n ≤ L.length) :
    ∀ L1 L2 : List Value, L1 = L.take (a.length * n) ++ E.flat [r] ++ L.drop (a.length * n + 1 * n) → L2 = L1.take ((a.length + 1) * n) ++ E.flat b ++ L1.drop ((a.length + 1) * n + b.length * n) → L1.length = L.length ∧ L2.length = L.length ∧ L2.take ((a.length + 1 + b.length) * n) = E.flat (a ++ r :: b) := by
  rintro L1 L2 rfl rfl
  have e1 : (a.length + 1) * n = a.length * n + n := Nat.succ_mul _ n
  have e2 : (a.length + 1 + b.length) * n = (a.length + 1) * n + b.length * n := Nat.add_mul _ _ _
  have hf1 : (E.flat [r]).length = n := by rw [E.flat_length]; simp
  have hfa : (E.flat a).length = a.length * n := E.flat_length a
  have hfb : (E.flat b).length = b.length * n := E.flat_length b
  obtain ⟨R, hR⟩ : ∃ R, L.drop (a.length * n + 1 * n) = R := ⟨_, rfl⟩
  have hRl : R.length = L.length - (a.length * n + n) := by rw [← hR, List.length_drop, Nat.one_mul]
  rw [h, hR]
  have t1 : (E.flat a ++ E.flat [r] ++ R).take ((a.length + 1) * n) = E.flat a ++ E.flat [r] := by
    rw [List.take_left']
    rw [List.length_append, hfa, hf1, e1]
  have hl1 : (E.flat a ++ E.flat [r] ++ R).length = L.length := by
    rw [List.length_append, List.length_append, hfa, hf1, hRl]
    omega
  rw [t1]
  obtain ⟨R2, hR2⟩ : ∃ R2, (E.flat a ++ E.flat [r] ++ R).drop ((a.length + 1) * n + b.length * n) = R2 := ⟨_, rfl⟩
  have hR2l : R2.length = L.length - (a.length + 1 + b.length) * n := by rw [← hR2, List.length_drop, hl1, e2]
  rw [hR2]
  refine ⟨hl1, ?_, ?_⟩
  · rw [List.length_append, List.length_append, List.length_append, hfa, hf1, hfb, hR2l]
    omega
  · rw [List.take_left']
    · rw [E.flat_one, E.flat_append, E.flat_cons]
      simp
    · rw [List.length_append, List.length_append, hfa, hf1, hfb]
      omega
/-- Some turned into one, the rest moved back. -/
theorem rep_flat {L : List Value} {xs : List α} {i j : Nat} (r : α) (h : L.take (xs.length * n) = E.flat xs) (hij : i < j) (hj : j ≤ xs.length) (hL : xs.length * n ≤ L.length) :
    ∀ L1 L2 L3 zs : List Value, ∀ k : Nat, L1 = L.take (i * n) ++ E.flat [r] ++ L.drop (i * n + 1 * n) → L2 = L1.take ((i + 1) * n) ++ E.flat (xs.drop j) ++ L1.drop ((i + 1) * n + (xs.drop j).length * n) → i + 1 + (xs.length - j) + k = xs.length → zs.length = k * n → L3 = L2.take ((i + 1 + (xs.length - j)) * n) ++ zs ++ L2.drop ((i + 1 + (xs.length - j)) * n + k * n) →
      L1.length = L.length ∧ L2.length = L.length ∧ L3.length = L.length ∧ L1.take (i * n) = E.flat (xs.take i) ∧ (∀ q v, (E.flat (xs.drop j))[q]? = some v → L1[j * n + q]? = some v) ∧ L3.take ((i + 1 + (xs.length - j)) * n) = E.flat (xs.take i ++ r :: xs.drop j) := by
  rintro L1 L2 L3 zs k rfl rfl hk hz rfl
  have e1 : (i + 1) * n = i * n + n := Nat.succ_mul i n
  have hdl : (xs.drop j).length = xs.length - j := List.length_drop
  have m1 : (i + 1) * n ≤ xs.length * n := Nat.mul_le_mul_right n (by omega)
  have m2 : (i + 1 + (xs.length - j)) * n = (i + 1) * n + (xs.length - j) * n := Nat.add_mul _ _ _
  have m3 : (i + 1 + (xs.length - j)) * n + k * n = xs.length * n := by rw [← Nat.add_mul, hk]
  have ha : L.take (i * n) = E.flat (xs.take i) := take_le h (by omega)
  have hfa : (E.flat (xs.take i)).length = i * n := by rw [E.flat_length, List.length_take, Nat.min_eq_left (by omega)]
  have hf1 : (E.flat [r]).length = n := by rw [E.flat_length]; simp
  have hfc : (E.flat (xs.drop j)).length = (xs.length - j) * n := by rw [E.flat_length, hdl]
  obtain ⟨R, hR⟩ : ∃ R, L.drop (i * n + 1 * n) = R := ⟨_, rfl⟩
  have hRl : R.length = L.length - (i * n + n) := by rw [← hR, List.length_drop, Nat.one_mul]
  rw [ha, hR]
  have t1 : (E.flat (xs.take i) ++ E.flat [r] ++ R).take ((i + 1) * n) = E.flat (xs.take i) ++ E.flat [r] := by
    rw [List.take_left']
    rw [List.length_append, hfa, hf1, e1]
  rw [t1]
  obtain ⟨R2, hR2⟩ : ∃ R2, (E.flat (xs.take i) ++ E.flat [r] ++ R).drop ((i + 1) * n + (xs.drop j).length * n) = R2 := ⟨_, rfl⟩
  have hR2l : R2.length = L.length - ((i + 1) * n + (xs.length - j) * n) := by
    rw [← hR2, List.length_drop, List.length_append, List.length_append, hfa, hf1, hRl, hdl]
    omega
  rw [hR2]
  have t2 : (E.flat (xs.take i) ++ E.flat [r] ++ E.flat (xs.drop j) ++ R2).take ((i + 1 + (xs.length - j)) * n) = E.flat (xs.take i) ++ E.flat [r] ++ E.flat (xs.drop j) := by
    rw [List.take_left']
    rw [List.length_append, List.length_append, hfa, hf1, hfc]
    omega
  rw [t2]
  refine ⟨?_, ?_, ?_, ?_, ?_, ?_⟩
  · rw [List.length_append, List.length_append, hfa, hf1, hRl]
    omega
  · rw [List.length_append, List.length_append, List.length_append, hfa, hf1, hfc, hR2l]
    omega
  · rw [List.length_append, List.length_append, List.length_append, List.length_append, hfa, hf1, hfc, hz, List.length_drop, List.length_append, List.length_append, List.length_append, hfa, hf1, hfc, hR2l]
    omega
  · rw [List.append_assoc, List.take_left' hfa]
  · intro q v hv
    have h1 := cell_drop h j hv
    have h2 : (i + 1) * n ≤ j * n := Nat.mul_le_mul_right n (by omega)
    rw [List.getElem?_append_right (by rw [List.length_append, hfa, hf1]; omega), List.length_append, hfa, hf1, ← hR, List.getElem?_drop, show i * n + 1 * n + (j * n + q - (i * n + n)) = j * n + q by omega]
    exact h1
  · rw [List.append_assoc, List.take_left']
    · rw [E.flat_one, E.flat_append, E.flat_cons]
      simp
    · rw [List.length_append, List.length_append, hfa, hf1, hfc]
      omega
end
end Go.Proofs.Ytnigfdldfmiaiaa
