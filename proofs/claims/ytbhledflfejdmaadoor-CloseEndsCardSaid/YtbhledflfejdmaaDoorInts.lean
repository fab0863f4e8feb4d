/- Slices of int: read ('IS'), the call's own ('OwnI'), and append. Printed by wip/tools/mkints.py. -/
import Derived.Test.YtbhledflfejdmaaDoorRows
import Derived.Test.YtbhledflfejdmaaDoorMem
import Derived.Test.YtbhledflfejdmaaDoorOpen
import Derived.ProofKit
import Derived.OwnWalk
import Derived.Maps.AppendAt
import Derived.Laws.AppendOwnNone
namespace Go.Proofs.YtbhledflfejdmaaDoor
open Go.RowKit
def Nums (l : List Int) : Prop := ∀ x ∈ l, -9223372036854775808 ≤ x ∧ x ≤ 9223372036854775807
theorem Nums.nil : Nums [] := fun x h => by cases h
theorem Nums.append {a b : List Int} (ha : Nums a) (hb : Nums b) : Nums (a ++ b) := fun x h => by
  rcases List.mem_append.1 h with h | h
  · exact ha x h
  · exact hb x h
theorem Nums.one {x : Int} (h : -9223372036854775808 ≤ x ∧ x ≤ 9223372036854775807) : Nums [x] := fun y hy => by
  obtain rfl : y = x := by simpa using hy
  exact h
theorem Nums.take {a : List Int} (ha : Nums a) (n : Nat) : Nums (a.take n) := fun x h => ha x (List.mem_of_mem_take h)
theorem Nums.drop {a : List Int} (ha : Nums a) (n : Nat) : Nums (a.drop n) := fun x h => ha x (List.mem_of_mem_drop h)
theorem Nums.getD {a : List Int} (ha : Nums a) (n : Nat) : -9223372036854775808 ≤ a.getD n 0 ∧ a.getD n 0 ≤ 9223372036854775807 := by
  by_cases h : n < a.length
  · exact ha _ (getD_mem a n h)
  · have e : a.getD n 0 = 0 := by simp [List.getD, h]
    rw [e]; omega

/-- A slice of one-cell elements that is read: its values. -/
def Src (w : World) (A : Option Addr) (c : Nat) (vs : List Value) : Prop :=
  vs.length ≤ c ∧ c ≤ maxLen ∧ (A = none → c = 0) ∧ (0 < vs.length → ∃ b off, A = some ⟨b, off, none⟩ ∧ b < w.heap.size ∧ ∀ i v, vs[i]? = some v → w.cell? ⟨b, off + i, none⟩ = some v)
theorem Src.fine {w w' : World} {A : Option Addr} {c : Nat} {vs : List Value} (h : Src w A c vs) (hf : Fine w w') : Src w' A c vs :=
  ⟨h.1, h.2.1, h.2.2.1, fun hp => by
    obtain ⟨b, off, e, hb, hc⟩ := h.2.2.2 hp
    exact ⟨b, off, e, Nat.lt_of_lt_of_le hb hf.size, fun i v hv => (hf.cell hb).trans (hc i v hv)⟩⟩
theorem Src.kept {S : Nat → Prop} {w w' : World} {A : Option Addr} {c : Nat} {vs : List Value} (h : Src w A c vs) (hf : Kept S w w') (hn : ∀ b off, A = some ⟨b, off, none⟩ → ¬ S b) : Src w' A c vs :=
  ⟨h.1, h.2.1, h.2.2.1, fun hp => by
    obtain ⟨b, off, e, hb, hc⟩ := h.2.2.2 hp
    exact ⟨b, off, e, Nat.lt_of_lt_of_le hb hf.size, fun i v hv => (hf.cell hb (hn b off e)).trans (hc i v hv)⟩⟩
theorem Src.nil_ (w : World) : Src w none 0 [] := ⟨Nat.le_refl _, Nat.zero_le _, fun _ => rfl, fun h => absurd h (by simp)⟩

theorem run_app {P : Program} {w : World} (base : Nat) (t ty e : TypeId) (i : TypeInfo) (z : Value) (bytes : Nat) (ht : P.underlying t = some (.slice e)) (hi : P.info? e = some i) (hz : i.zero = some z)
    (hsize : i.size = 1) (hby : i.bytes = bytes) (hzs : z.cells.size = 1)
    (v : Value) (n : Nat) (xs : List Value) (hown : w.ownsRow base e 1 v n xs) (A : Option Addr) (c : Nat) (news : List Value) (hr : Src w A c news) (h1 : ∀ u ∈ news, u.oneCell' = true)
    (hbytes : (n + news.length) * bytes ≤ 140737488355328) (h63 : n + news.length ≤ maxLen) (hbase : base ≤ w.heap.size) :
    ∃ v' w', (Builtin.append_ #[t, t] ty #[v, .slice A news.length c]).run P w = .ok v' w' ∧ w'.ownsRow base e 1 v' (n + news.length) (xs ++ news) ∧ w.grownBy w' v.ownBlock ∧
      (v'.ownBlock = v.ownBlock ∨ v'.ownBlock = some w.heap.size) := by
  rcases A with _ | ad
  · obtain rfl : c = 0 := hr.2.2.1 rfl
    obtain rfl : news = [] := List.eq_nil_of_length_eq_zero (by have := hr.1; omega)
    exact ⟨v, w, run_append_owned_none (P := P) (w := w) base t ty e i 1 ht hi v n xs hown, by simpa using hown, World.grownBy.refl w _, .inl rfl⟩
  · have hcells : ∀ j u, news[j]? = some u → w.cell? (ad.add j) = some u := by
      intro j u hu
      have hp : 0 < news.length := by have := (List.getElem?_eq_some_iff.1 hu).1; omega
      obtain ⟨b, off, e1, _, hc⟩ := hr.2.2.2 hp
      injection e1 with e1
      subst e1
      rw [Go.WideShapes.add_plain]
      exact hc j u hu
    obtain ⟨v', w', hrun, h2, h3, _, h5⟩ := run_append_own_at (P := P) (w := w) base t ty e i z 1 bytes ht hi hz hsize hby hzs (by omega) v n xs hown ad news.length c news (by omega) hcells h1 h63 hbytes hbase
    exact ⟨v', w', hrun, h2, h3, h5⟩

theorem wp_app {P : Program} {w : World} {o : Oper} {a : Act} {K : Act → World → Prop} {Q : Exit → Act → World → Prop} (s x : Operand) (t : TypeId)
    (ho : o.op = .call { callee := .builtin .append, args := #[s, x], argTypes := #[t, t] })
    (base : Nat) (e : TypeId) (i : TypeInfo) (z : Value) (bytes : Nat) (ht : P.underlying t = some (.slice e)) (hi : P.info? e = some i) (hz : i.zero = some z)
    (hsize : i.size = 1) (hby : i.bytes = bytes) (hzs : z.cells.size = 1)
    (v : Value) (n : Nat) (xs : List Value) (hs : a.eval s = v) (hown : w.ownsRow base e 1 v n xs) (A : Option Addr) (m c : Nat) (news : List Value) (hx : a.eval x = .slice A m c) (hm : m = news.length) (hr : Src w A c news) (h1 : ∀ u ∈ news, u.oneCell' = true)
    (hbytes : (n + news.length) * bytes ≤ 140737488355328) (h63 : n + news.length ≤ maxLen) (hbase : base ≤ w.heap.size)
    (h : ∀ v' w', w'.ownsRow base e 1 v' (n + news.length) (xs ++ news) → w.grownBy w' v.ownBlock → (v'.ownBlock = v.ownBlock ∨ v'.ownBlock = some w.heap.size) → K (a.put o.dst v') w') : o.wp P a w K Q := by
  subst hm
  obtain ⟨v', w', hrun, h2, h3, h4⟩ := run_app (P := P) (w := w) base t o.type e i z bytes ht hi hz hsize hby hzs v n xs hown A c news hr h1 hbytes h63 hbase
  unfold Oper.wp execOp
  simp only [ho, resolve, invoke, builtin, Sem.run_bind, Sem.run_pure, Result.andThen_ok, List.map_toArray, List.map_cons, List.map_nil, hs, hx, hrun]
  exact h v' w' h2 h3 h4

/-! Nums. -/
def cellI (l : List Int) : List Value := l.map (Value.int .i64)
theorem cellI_length (l : List Int) : (cellI l).length = l.length := by simp [cellI]
theorem cellI_one (l : List Int) : ∀ u ∈ cellI l, u.oneCell' = true := by
  intro u hu
  obtain ⟨n, _, rfl⟩ := List.mem_map.1 hu
  rfl
theorem cellI_append (a b : List Int) : cellI (a ++ b) = cellI a ++ cellI b := by simp [cellI]

/-- The bytes of a slice that is read. -/
def IS (w : World) (A : Option Addr) (c : Nat) (xs : List Int) : Prop := Nums xs ∧ Src w A c (cellI xs)
theorem IS.bytes {w : World} {A : Option Addr} {c : Nat} {xs : List Int} (h : IS w A c xs) : Nums xs := h.1
theorem IS.le {w : World} {A : Option Addr} {c : Nat} {xs : List Int} (h : IS w A c xs) : xs.length ≤ c := by have := h.2.1; rwa [cellI_length] at this
theorem IS.fine {w w' : World} {A : Option Addr} {c : Nat} {xs : List Int} (h : IS w A c xs) (hf : Fine w w') : IS w' A c xs := ⟨h.1, h.2.fine hf⟩
theorem IS.nil_ (w : World) : IS w none 0 [] := ⟨Nums.nil, Src.nil_ w⟩
theorem IS.at_ {w : World} {A : Option Addr} {c : Nat} {xs : List Int} (h : IS w A c xs) {k : Nat} (hk : k < xs.length) :
    ∃ b off, A = some ⟨b, off, none⟩ ∧ b < w.heap.size ∧ w.cell? ⟨b, off + k, none⟩ = some (.int .i64 (xs.getD k 0)) := by
  obtain ⟨b, off, e, hb, hc⟩ := h.2.2.2.2 (by rw [cellI_length]; omega)
  refine ⟨b, off, e, hb, hc k _ ?_⟩
  simp [cellI, List.getD, hk]
theorem IS.of_ints {w : World} {a : Option Addr} {len cap : Nat} {zs : List Int} (h : IntsIn .i64 w a len cap zs) : IS w a cap zs := by
  obtain ⟨h1, h2, h3, h4, h5, h6⟩ := h
  have hb : Nums zs := fun x hx => Go.bounds_i64 (h5 x hx)
  refine ⟨hb, by rw [cellI_length]; omega, h2, fun e => (h4 e).2, fun hp => ?_⟩
  rw [cellI_length] at hp
  obtain ⟨b, off, e, hbk, hc⟩ := h6 (by omega)
  refine ⟨b, off, e, hbk, fun i v hv => ?_⟩
  have hi : i < zs.length := by have := (List.getElem?_eq_some_iff.1 hv).1; rwa [cellI_length] at this
  rw [hc i (by omega)]
  simp [cellI, List.getElem?_eq_getElem hi] at hv
  rw [← hv]
  simp [List.getD, hi]
/-- The block that 'append(s, x)' lays for x. -/
theorem IS.one {z : Int} (hz : -9223372036854775808 ≤ z ∧ z ≤ 9223372036854775807) (w : World) : IS (w.alloc (.cells #[.int .i64 z] 3)) (some ⟨w.heap.size, 0, none⟩) 1 [z] :=
  ⟨Nums.one hz, by simp [cellI], by unfold maxLen; omega, (fun e => by cases e), fun _ => ⟨w.heap.size, 0, rfl, by simp, fun i v hv => by
    match i, hv with
    | 0, hv => simp [cellI] at hv; subst hv; exact (Blk.new w 3 #[.int .i64 z]).cell 0⟩⟩
/-- 'b[:n]'. -/
theorem IS.front {w : World} {A : Option Addr} {c : Nat} {xs : List Int} (h : IS w A c xs) (n : Nat) (hn : n ≤ xs.length) : IS w A c (xs.take n) := by
  have hl := h.le
  refine ⟨h.1.take n, by rw [cellI_length]; simp; omega, h.2.2.1, h.2.2.2.1, fun hp => ?_⟩
  rw [cellI_length, List.length_take] at hp
  obtain ⟨b, off, e, hb, hc⟩ := h.2.2.2.2 (by rw [cellI_length]; omega)
  refine ⟨b, off, e, hb, fun i v hv => hc i v ?_⟩
  have hi : i < min n xs.length := by have := (List.getElem?_eq_some_iff.1 hv).1; rwa [cellI_length, List.length_take] at this
  simpa [cellI, List.getElem?_take, show i < n by omega] using hv
/-- 'b[n:]', as the model lays it. -/
theorem IS.behind {w : World} {A : Option Addr} {c : Nat} {xs : List Int} (h : IS w A c xs) (n : Nat) (hn : n ≤ xs.length) (A' : Option Addr)
    (hA : ∀ b off, A = some ⟨b, off, none⟩ → n < c → A' = some ⟨b, off + n, none⟩) (hN : A' = none → c = n) : IS w A' (c - n) (xs.drop n) := by
  have hl := h.le
  have hm := h.2.2.1
  refine ⟨h.1.drop n, by rw [cellI_length]; simp; omega, by unfold maxLen at *; omega, fun e => by have := hN e; omega, fun hp => ?_⟩
  rw [cellI_length, List.length_drop] at hp
  obtain ⟨b, off, e, hb, hc⟩ := h.2.2.2.2 (by rw [cellI_length]; omega)
  refine ⟨b, off + n, hA b off e (by omega), hb, fun i v hv => ?_⟩
  rw [Nat.add_assoc]
  refine hc (n + i) v ?_
  have hi : i < xs.length - n := by have := (List.getElem?_eq_some_iff.1 hv).1; rwa [cellI_length, List.length_drop] at this
  simpa [cellI, List.getElem?_drop] using hv

/-- The bytes of a slice that is the call's own, from block 'base' on: it may be appended to, and written. -/
def OwnI (w : World) (base : Nat) (v : Value) (xs : List Int) : Prop := Nums xs ∧ w.ownsRow base 3 1 v xs.length (cellI xs)
theorem OwnI.nil_ (w : World) (base : Nat) : OwnI w base (.slice none 0 0) [] := ⟨Nums.nil, World.ownsRow_nil _ _ _ _⟩
/-- '[]byte{}'. -/
theorem OwnI.empty (w : World) {base : Nat} (hb : base ≤ w.heap.size) : OwnI (w.alloc (.cells #[] 3)) base (.slice (some ⟨w.heap.size, 0, none⟩) 0 0) [] :=
  ⟨Nums.nil, rfl, .inr ⟨w.heap.size, 0, #[], rfl, hb, Blk.new w 3 #[], Nat.le_refl _, Nat.zero_le _, rfl, rfl⟩⟩
theorem OwnI.bytes {w : World} {base : Nat} {v : Value} {xs : List Int} (h : OwnI w base v xs) : Nums xs := h.1
/-- Its shape, and that it may be read. -/
theorem OwnI.form {w : World} {base : Nat} {v : Value} {xs : List Int} (h : OwnI w base v xs) : ∃ A c, v = .slice A xs.length c ∧ IS w A c xs ∧ (∀ b off, A = some ⟨b, off, none⟩ → base ≤ b) := by
  obtain ⟨hb, hl, hv⟩ := h
  rcases hv with ⟨rfl, h0⟩ | ⟨g, cap, cur, rfl, hg, hh, hn, hm, hcs, ht⟩
  · have : xs = [] := List.eq_nil_of_length_eq_zero h0
    subst this
    exact ⟨none, 0, rfl, IS.nil_ w, fun b off e => by cases e⟩
  · refine ⟨some ⟨g, 0, none⟩, cap, rfl, ⟨hb, by rw [cellI_length]; exact hn, hm, (fun e => by cases e), fun hp => ⟨g, 0, rfl, ?_, fun i v hv => ?_⟩⟩, fun b off e => by injection e with e; injection e with e1 _; omega⟩
    · exact Blk.lt (t := 3) hh
    · rw [Nat.zero_add]
      have : (w.cell? ⟨g, i, none⟩) = cur[i]? := cell_of_row w g i cur 3 (0, 0) hh
      rw [this]
      rw [← ht] at hv
      have := (List.getElem?_eq_some_iff.1 hv).1
      rw [List.getElem?_take] at hv
      split at hv
      · simpa using hv
      · cases hv
theorem OwnI.bs {w : World} {base : Nat} {A : Option Addr} {n c : Nat} {xs : List Int} (h : OwnI w base (.slice A n c) xs) : IS w A c xs ∧ n = xs.length := by
  obtain ⟨A', c', e, hb, _⟩ := h.form
  injection e with e1 e2 e3
  subst e1 e2 e3
  exact ⟨hb, rfl⟩
theorem OwnI.grown {w w' : World} {base : Nat} {v : Value} {xs : List Int} {row : Option Nat} (h : OwnI w base v xs) (hg : w.grownBy w' row) (hne : v.ownBlock = none ∨ v.ownBlock ≠ row) : OwnI w' base v xs := ⟨h.1, h.2.kept hg hne⟩
theorem OwnI.alloc {w : World} {base : Nat} {v : Value} {xs : List Int} (h : OwnI w base v xs) (o : Obj) : OwnI (w.alloc o) base v xs := ⟨h.1, h.2.alloc o⟩
theorem OwnI.drew {w : World} {base : Nat} {v : Value} {xs : List Int} (h : OwnI w base v xs) : OwnI w.drew base v xs := ⟨h.1, h.2.drew⟩
theorem OwnI.fine {w w' : World} {base : Nat} {v : Value} {xs : List Int} (h : OwnI w base v xs) (hf : Fine w w') : OwnI w' base v xs :=
  h.grown (row := none) ⟨hf.os, hf.tape, hf.output, hf.size, fun k hk _ => hf.block k hk⟩ (by cases hv : v.ownBlock <;> simp)
theorem OwnI.lower {w : World} {base base' : Nat} {v : Value} {xs : List Int} (h : OwnI w base v xs) (hb : base' ≤ base) : OwnI w base' v xs := by
  obtain ⟨h0, h1, h2⟩ := h
  refine ⟨h0, h1, ?_⟩
  rcases h2 with h2 | ⟨g, cap, cur, r1, r2, r3⟩
  · exact .inl h2
  · exact .inr ⟨g, cap, cur, r1, by omega, r3⟩
/-- A store into what is the call's own. -/
theorem OwnI.stored {w : World} {base g n c : Nat} {xs : List Int} (h : OwnI w base (.slice (some ⟨g, 0, none⟩) n c) xs) (j : Nat) {z : Int} (hz : -9223372036854775808 ≤ z ∧ z ≤ 9223372036854775807) :
    OwnI (w.setCell ⟨g, j, none⟩ (.int .i64 z)) base (.slice (some ⟨g, 0, none⟩) n c) (xs.set j z) := by
  have hn := h.bs.2
  obtain ⟨h0, h1⟩ := h
  rw [← hn] at h1
  refine ⟨fun x hx => ?_, ?_⟩
  · rcases List.mem_or_eq_of_mem_set hx with hx | rfl
    · exact h0 x hx
    · exact hz
  · rw [List.length_set, ← hn]
    have := (World.ownsRow.stored h1 j (.int .i64 z)).1
    simpa [cellI, List.map_set] using this
theorem OwnI.frozen {w : World} {base g n c : Nat} {xs : List Int} (h : OwnI w base (.slice (some ⟨g, 0, none⟩) n c) xs) (j : Nat) : w.frozen? ⟨g, j, none⟩ = false := by
  have hn := h.bs.2
  obtain ⟨h0, h1⟩ := h
  rw [← hn] at h1
  exact World.ownsRow.frozenAt h1 j
/-- Where it is not empty it begins at its block's head. -/
theorem OwnI.head {w : World} {base : Nat} {A : Option Addr} {n c : Nat} {xs : List Int} (h : OwnI w base (.slice A n c) xs) (hn : 0 < n) : ∃ g, A = some ⟨g, 0, none⟩ ∧ base ≤ g ∧ g < w.heap.size := by
  obtain ⟨_, _, h2⟩ := h
  rcases h2 with ⟨e, h0⟩ | ⟨g, cap, cur, e, hg, hh, _⟩
  · injection e with _ e2; omega
  · injection e with e1
    exact ⟨g, e1, hg, Blk.lt (t := 3) hh⟩
theorem OwnI.lt {w : World} {base : Nat} {v : Value} {xs : List Int} (h : OwnI w base v xs) : ∀ k, v.ownBlock = some k → base ≤ k ∧ k < w.heap.size := h.2.lt

theorem infoI : (Tryd.prog.info? 3).map (fun i => (i.zero, i.size, i.bytes)) = some (some (.int .i64 0), 1, 8) := by kernel_rfl

/-- 'append(s, x...)' on bytes, s the call's own. -/
theorem wp_appI {w : World} {o : Oper} {a : Act} {K : Act → World → Prop} {Q : Exit → Act → World → Prop} (s x : Operand)
    (ho : o.op = .call { callee := .builtin .append, args := #[s, x], argTypes := #[30, 30] })
    (base : Nat) (v : Value) (xs : List Int) (hs : a.eval s = v) (hown : OwnI w base v xs) (A : Option Addr) (m c : Nat) (ys : List Int) (hx : a.eval x = .slice A m c) (hm : m = ys.length) (hr : IS w A c ys)
    (hlen : xs.length + ys.length ≤ 17592186044416) (hbase : base ≤ w.heap.size)
    (h : ∀ v' w', OwnI w' base v' (xs ++ ys) → Kept (fun k => base ≤ k) w w' → w.grownBy w' v.ownBlock → (v'.ownBlock = v.ownBlock ∨ v'.ownBlock = some w.heap.size) → K (a.put o.dst v') w') : o.wp Tryd.prog a w K Q := by
  obtain ⟨i, hi, hz0, hz1, hz2⟩ := info_parts infoI
  refine wp_app s x 30 ho base 3 i _ 8 Tryd.underlying30 hi hz0 hz1 hz2 rfl v xs.length (cellI xs) hs hown.2 A m c (cellI ys) hx (by rw [cellI_length]; exact hm) hr.2 (cellI_one ys)
    (by rw [cellI_length]; omega) (by rw [cellI_length]; unfold maxLen; omega) hbase fun v' w' h1 h2 h3 => h v' w' ⟨hown.1.append hr.1, ?_⟩ ((Kept.refl _ _).grown h2 (fun k hk _ => (hown.lt k hk).1)) h2 h3
  rw [cellI_append, List.length_append]
  rw [cellI_length] at h1
  exact h1
theorem wpList_appI {w : World} {ops : Array Oper} {rest : List Oper} {o : Oper} {a : Act} {Q : Exit → Act → World → Prop} (hgd : o.guard = none) (s x : Operand)
    (ho : o.op = .call { callee := .builtin .append, args := #[s, x], argTypes := #[30, 30] })
    (base : Nat) (v : Value) (xs : List Int) (hs : a.eval s = v) (hown : OwnI w base v xs) (A : Option Addr) (m c : Nat) (ys : List Int) (hx : a.eval x = .slice A m c) (hm : m = ys.length) (hr : IS w A c ys)
    (hlen : xs.length + ys.length ≤ 17592186044416) (hbase : base ≤ w.heap.size)
    (h : ∀ v' w', OwnI w' base v' (xs ++ ys) → Kept (fun k => base ≤ k) w w' → w.grownBy w' v.ownBlock → (v'.ownBlock = v.ownBlock ∨ v'.ownBlock = some w.heap.size) → wpList Tryd.prog ops Q rest (a.put o.dst v') w') : wpList Tryd.prog ops Q (o :: rest) a w :=
  wpList_plain hgd fun _ hK => wp_appI s x ho base v xs hs hown A m c ys hx hm hr hlen hbase fun v' w' h2 h3 h4 h5 => hK _ _ (h v' w' h2 h3 h4 h5)
/-- The same, the new slice's shape told at once. -/
theorem wpList_appJ {w : World} {ops : Array Oper} {rest : List Oper} {o : Oper} {a : Act} {Q : Exit → Act → World → Prop} (hgd : o.guard = none) (s x : Operand)
    (ho : o.op = .call { callee := .builtin .append, args := #[s, x], argTypes := #[30, 30] })
    (base : Nat) (v : Value) (xs : List Int) (hs : a.eval s = v) (hown : OwnI w base v xs) (A : Option Addr) (m c : Nat) (ys : List Int) (hx : a.eval x = .slice A m c) (hm : m = ys.length) (hr : IS w A c ys)
    (hlen : xs.length + ys.length ≤ 17592186044416) (hbase : base ≤ w.heap.size)
    (h : ∀ A' c' w', Hid (OwnI w' base (.slice A' (xs.length + ys.length) c') (xs ++ ys)) → Hid (IS w' A' c' (xs ++ ys)) → Kept (fun k => base ≤ k) w w' → wpList Tryd.prog ops Q rest (a.put o.dst (.slice A' (xs.length + ys.length) c')) w') : wpList Tryd.prog ops Q (o :: rest) a w :=
  wpList_appI hgd s x ho base v xs hs hown A m c ys hx hm hr hlen hbase fun v' w' h2 h3 h4 h5 => by
    obtain ⟨A', c', e, hb, _⟩ := h2.form
    rw [List.length_append] at e
    subst e
    exact h A' c' w' h2 hb h3
end Go.Proofs.YtbhledflfejdmaaDoor
