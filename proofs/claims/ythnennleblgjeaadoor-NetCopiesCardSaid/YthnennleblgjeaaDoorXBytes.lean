/- Slices of bytes as lists of numbers: one that is read ('BS'), one that is the call's own ('OwnB'), and append from the one onto the other. -/
import Derived.Test.YthnennleblgjeaaDoorRows
import Derived.Test.YthnennleblgjeaaDoorMa
import Derived.ProofKit
import Derived.OwnWalk
import Derived.Maps.AppendAt
import Derived.Laws.AppendOwnNone
import Derived.Laws.IdiomStrings
import Derived.Deep.RegionWith
import Derived.Laws.CopyOwn
namespace Go.Proofs.YthnennleblgjeaaDoor
set_option linter.unusedVariables false
set_option linter.unusedSimpArgs false
open Go.RowKit

def Bytes (l : List Int) : Prop := ∀ x ∈ l, 0 ≤ x ∧ x ≤ 255
theorem Bytes.nil : Bytes [] := fun x h => by cases h
theorem Bytes.append {a b : List Int} (ha : Bytes a) (hb : Bytes b) : Bytes (a ++ b) := fun x h => by
  rcases List.mem_append.1 h with h | h
  · exact ha x h
  · exact hb x h
theorem Bytes.one {x : Int} (h : 0 ≤ x ∧ x ≤ 255) : Bytes [x] := fun y hy => by
  obtain rfl : y = x := by simpa using hy
  exact h
theorem Bytes.take {a : List Int} (ha : Bytes a) (n : Nat) : Bytes (a.take n) := fun x h => ha x (List.mem_of_mem_take h)
theorem Bytes.drop {a : List Int} (ha : Bytes a) (n : Nat) : Bytes (a.drop n) := fun x h => ha x (List.mem_of_mem_drop h)
theorem Bytes.getD {a : List Int} (ha : Bytes a) (n : Nat) : 0 ≤ a.getD n 0 ∧ a.getD n 0 ≤ 255 := by
  by_cases h : n < a.length
  · exact ha _ (getD_mem a n h)
  · have e : a.getD n 0 = 0 := by simp [List.getD, h]
    rw [e]; omega

/-- A slice of one-cell elements that is read: its values. -/
def Src (w : World) (A : Option Addr) (c : Nat) (vs : List Value) : Prop :=
  vs.length ≤ c ∧ c ≤ maxLen ∧ (A = none → c = 0) ∧ (0 < vs.length → ∃ b off, A = some ⟨b, off, none⟩ ∧ b < w.heap.size ∧ ∀ i v, vs[i]? = some v → w.cell? ⟨b, off + i, none⟩ = some v)
theorem Src.fine {w w' : World} {A : Option Addr} {c : Nat} {vs : List Value} (h : Src w A c vs) (hf : Fine w w') : Src w' A c vs :=
  ⟨h.1, h.2.1, h.2.2.1, fun hp => by
    obtain ⟨b, off, e, hb, hc⟩ := h.2.2.2 hp
    exact ⟨b, off, e, Nat.lt_of_lt_of_le hb hf.size, fun i v hv => (hf.cell hb).trans (hc i v hv)⟩⟩
theorem Src.kept {S : Nat → Prop} {w w' : World} {A : Option Addr} {c : Nat} {vs : List Value} (h : Src w A c vs) (hf : Kept S w w') (hn : ∀ b off, A = some ⟨b, off, none⟩ → ¬ S b) : Src w' A c vs :=
  ⟨h.1, h.2.1, h.2.2.1, fun hp => by
    obtain ⟨b, off, e, hb, hc⟩ := h.2.2.2 hp
    exact ⟨b, off, e, Nat.lt_of_lt_of_le hb hf.size, fun i v hv => (hf.cell hb (hn b off e)).trans (hc i v hv)⟩⟩
theorem Src.nil_ (w : World) : Src w none 0 [] := ⟨Nat.le_refl _, Nat.zero_le _, fun _ => rfl, fun h => absurd h (by simp)⟩

theorem run_app {P : Program} {w : World} (base : Nat) (t ty e : TypeId) (i : TypeInfo) (z : Value) (bytes : Nat) (ht : P.underlying t = some (.slice e)) (hi : P.info? e = some i) (hz : i.zero = some z)
    (hsize : i.size = 1) (hby : i.bytes = bytes) (hzs : z.cells.size = 1)
    (v : Value) (n : Nat) (xs : List Value) (hown : w.ownsRow base e 1 v n xs) (A : Option Addr) (c : Nat) (news : List Value) (hr : Src w A c news) (h1 : ∀ u ∈ news, u.oneCell' = true)
    (hbytes : (n + news.length) * bytes ≤ 140737488355328) (h63 : n + news.length ≤ maxLen) (hbase : base ≤ w.heap.size) :
    ∃ v' w', (Builtin.append_ #[t, t] ty #[v, .slice A news.length c]).run P w = .ok v' w' ∧ w'.ownsRow base e 1 v' (n + news.length) (xs ++ news) ∧ w.grownBy w' v.ownBlock ∧
      (v'.ownBlock = v.ownBlock ∨ v'.ownBlock = some w.heap.size) := by
  rcases A with _ | ad
  · obtain rfl : c = 0 := hr.2.2.1 rfl
    obtain rfl : news = [] := List.eq_nil_of_length_eq_zero (by have := hr.1; omega)
    exact ⟨v, w, run_append_owned_none (P := P) (w := w) base t ty e i 1 ht hi v n xs hown, by simpa using hown, World.grownBy.refl w _, .inl rfl⟩
  · have hcells : ∀ j u, news[j]? = some u → w.cell? (ad.add j) = some u := by
      intro j u hu
      have hp : 0 < news.length := by have := (List.getElem?_eq_some_iff.1 hu).1; omega
      obtain ⟨b, off, e1, _, hc⟩ := hr.2.2.2 hp
      injection e1 with e1
      subst e1
      rw [Go.WideShapes.add_plain]
      exact hc j u hu
    obtain ⟨v', w', hrun, h2, h3, _, h5⟩ := run_append_own_at (P := P) (w := w) base t ty e i z 1 bytes ht hi hz hsize hby hzs (by omega) v n xs hown ad news.length c news (by omega) hcells h1 h63 hbytes hbase
    exact ⟨v', w', hrun, h2, h3, h5⟩

theorem wp_app {P : Program} {w : World} {o : Oper} {a : Act} {K : Act → World → Prop} {Q : Exit → Act → World → Prop} (s x : Operand) (t : TypeId)
    (ho : o.op = .call { callee := .builtin .append, args := #[s, x], argTypes := #[t, t] })
    (base : Nat) (e : TypeId) (i : TypeInfo) (z : Value) (bytes : Nat) (ht : P.underlying t = some (.slice e)) (hi : P.info? e = some i) (hz : i.zero = some z)
    (hsize : i.size = 1) (hby : i.bytes = bytes) (hzs : z.cells.size = 1)
    (v : Value) (n : Nat) (xs : List Value) (hs : a.eval s = v) (hown : w.ownsRow base e 1 v n xs) (A : Option Addr) (m c : Nat) (news : List Value) (hx : a.eval x = .slice A m c) (hm : m = news.length) (hr : Src w A c news) (h1 : ∀ u ∈ news, u.oneCell' = true)
    (hbytes : (n + news.length) * bytes ≤ 140737488355328) (h63 : n + news.length ≤ maxLen) (hbase : base ≤ w.heap.size)
    (h : ∀ v' w', w'.ownsRow base e 1 v' (n + news.length) (xs ++ news) → w.grownBy w' v.ownBlock → (v'.ownBlock = v.ownBlock ∨ v'.ownBlock = some w.heap.size) → K (a.put o.dst v') w') : o.wp P a w K Q := by
  subst hm
  obtain ⟨v', w', hrun, h2, h3, h4⟩ := run_app (P := P) (w := w) base t o.type e i z bytes ht hi hz hsize hby hzs v n xs hown A c news hr h1 hbytes h63 hbase
  unfold Oper.wp execOp
  simp only [ho, resolve, invoke, builtin, Sem.run_bind, Sem.run_pure, Result.andThen_ok, List.map_toArray, List.map_cons, List.map_nil, hs, hx, hrun]
  exact h v' w' h2 h3 h4

/-! Bytes. -/
def cellB (l : List Int) : List Value := l.map (Value.int .u8)
theorem cellB_length (l : List Int) : (cellB l).length = l.length := by simp [cellB]
theorem cellB_one (l : List Int) : ∀ u ∈ cellB l, u.oneCell' = true := by
  intro u hu
  obtain ⟨n, _, rfl⟩ := List.mem_map.1 hu
  rfl
theorem cellB_append (a b : List Int) : cellB (a ++ b) = cellB a ++ cellB b := by simp [cellB]

/-- The bytes of a slice that is read. -/
def BS (w : World) (A : Option Addr) (c : Nat) (xs : List Int) : Prop := Bytes xs ∧ Src w A c (cellB xs)
theorem BS.bytes {w : World} {A : Option Addr} {c : Nat} {xs : List Int} (h : BS w A c xs) : Bytes xs := h.1
theorem BS.le {w : World} {A : Option Addr} {c : Nat} {xs : List Int} (h : BS w A c xs) : xs.length ≤ c := by have := h.2.1; rwa [cellB_length] at this
theorem BS.fine {w w' : World} {A : Option Addr} {c : Nat} {xs : List Int} (h : BS w A c xs) (hf : Fine w w') : BS w' A c xs := ⟨h.1, h.2.fine hf⟩
theorem BS.nil_ (w : World) : BS w none 0 [] := ⟨Bytes.nil, Src.nil_ w⟩
theorem BS.at_ {w : World} {A : Option Addr} {c : Nat} {xs : List Int} (h : BS w A c xs) {k : Nat} (hk : k < xs.length) :
    ∃ b off, A = some ⟨b, off, none⟩ ∧ b < w.heap.size ∧ w.cell? ⟨b, off + k, none⟩ = some (.int .u8 (xs.getD k 0)) := by
  obtain ⟨b, off, e, hb, hc⟩ := h.2.2.2.2 (by rw [cellB_length]; omega)
  refine ⟨b, off, e, hb, hc k _ ?_⟩
  simp [cellB, List.getD, hk]
theorem BS.of_ints {w : World} {a : Option Addr} {len cap : Nat} {zs : List Int} (h : IntsIn .u8 w a len cap zs) : BS w a cap zs := by
  obtain ⟨h1, h2, h3, h4, h5, h6⟩ := h
  have hb : Bytes zs := fun x hx => Go.bounds_u8 (h5 x hx)
  refine ⟨hb, by rw [cellB_length]; omega, h2, fun e => (h4 e).2, fun hp => ?_⟩
  rw [cellB_length] at hp
  obtain ⟨b, off, e, hbk, hc⟩ := h6 (by omega)
  refine ⟨b, off, e, hbk, fun i v hv => ?_⟩
  have hi : i < zs.length := by have := (List.getElem?_eq_some_iff.1 hv).1; rwa [cellB_length] at this
  rw [hc i (by omega)]
  simp [cellB, List.getElem?_eq_getElem hi] at hv
  rw [← hv]
  simp [List.getD, hi]
/-- The block that 'append(s, x)' lays for x. -/
theorem BS.one {z : Int} (hz : 0 ≤ z ∧ z ≤ 255) (w : World) : BS (w.alloc (.cells #[.int .u8 z] 5)) (some ⟨w.heap.size, 0, none⟩) 1 [z] :=
  ⟨Bytes.one hz, by simp [cellB], by unfold maxLen; omega, (fun e => by cases e), fun _ => ⟨w.heap.size, 0, rfl, by simp, fun i v hv => by
    match i, hv with
    | 0, hv => simp [cellB] at hv; subst hv; exact (Blk.new w 5 #[.int .u8 z]).cell 0⟩⟩
/-- 'b[:n]'. -/
theorem BS.front {w : World} {A : Option Addr} {c : Nat} {xs : List Int} (h : BS w A c xs) (n : Nat) (hn : n ≤ xs.length) : BS w A c (xs.take n) := by
  have hl := h.le
  refine ⟨h.1.take n, by rw [cellB_length]; simp; omega, h.2.2.1, h.2.2.2.1, fun hp => ?_⟩
  rw [cellB_length, List.length_take] at hp
  obtain ⟨b, off, e, hb, hc⟩ := h.2.2.2.2 (by rw [cellB_length]; omega)
  refine ⟨b, off, e, hb, fun i v hv => hc i v ?_⟩
  have hi : i < min n xs.length := by have := (List.getElem?_eq_some_iff.1 hv).1; rwa [cellB_length, List.length_take] at this
  simpa [cellB, List.getElem?_take, show i < n by omega] using hv
/-- 'b[n:]', as the model lays it. -/
theorem BS.behind {w : World} {A : Option Addr} {c : Nat} {xs : List Int} (h : BS w A c xs) (n : Nat) (hn : n ≤ xs.length) (A' : Option Addr)
    (hA : ∀ b off, A = some ⟨b, off, none⟩ → n < c → A' = some ⟨b, off + n, none⟩) (hN : A' = none → c = n) : BS w A' (c - n) (xs.drop n) := by
  have hl := h.le
  have hm := h.2.2.1
  refine ⟨h.1.drop n, by rw [cellB_length]; simp; omega, by unfold maxLen at *; omega, fun e => by have := hN e; omega, fun hp => ?_⟩
  rw [cellB_length, List.length_drop] at hp
  obtain ⟨b, off, e, hb, hc⟩ := h.2.2.2.2 (by rw [cellB_length]; omega)
  refine ⟨b, off + n, hA b off e (by omega), hb, fun i v hv => ?_⟩
  rw [Nat.add_assoc]
  refine hc (n + i) v ?_
  have hi : i < xs.length - n := by have := (List.getElem?_eq_some_iff.1 hv).1; rwa [cellB_length, List.length_drop] at this
  simpa [cellB, List.getElem?_drop] using hv

/-- The bytes of a slice that is the call's own, from block 'base' on: it may be appended to, and written. -/
def OwnB (w : World) (base : Nat) (v : Value) (xs : List Int) : Prop := Bytes xs ∧ w.ownsRow base 5 1 v xs.length (cellB xs)
theorem OwnB.nil_ (w : World) (base : Nat) : OwnB w base (.slice none 0 0) [] := ⟨Bytes.nil, World.ownsRow_nil _ _ _ _⟩
/-- '[]byte{}'. -/
theorem OwnB.empty (w : World) {base : Nat} (hb : base ≤ w.heap.size) : OwnB (w.alloc (.cells #[] 5)) base (.slice (some ⟨w.heap.size, 0, none⟩) 0 0) [] :=
  ⟨Bytes.nil, rfl, .inr ⟨w.heap.size, 0, #[], rfl, hb, Blk.new w 5 #[], Nat.le_refl _, Nat.zero_le _, rfl, rfl⟩⟩
theorem OwnB.bytes {w : World} {base : Nat} {v : Value} {xs : List Int} (h : OwnB w base v xs) : Bytes xs := h.1
/-- Its shape, and that it may be read. -/
theorem OwnB.form {w : World} {base : Nat} {v : Value} {xs : List Int} (h : OwnB w base v xs) : ∃ A c, v = .slice A xs.length c ∧ BS w A c xs ∧ (∀ b off, A = some ⟨b, off, none⟩ → base ≤ b) := by
  obtain ⟨hb, hl, hv⟩ := h
  rcases hv with ⟨rfl, h0⟩ | ⟨g, cap, cur, rfl, hg, hh, hn, hm, hcs, ht⟩
  · have : xs = [] := List.eq_nil_of_length_eq_zero h0
    subst this
    exact ⟨none, 0, rfl, BS.nil_ w, fun b off e => by cases e⟩
  · refine ⟨some ⟨g, 0, none⟩, cap, rfl, ⟨hb, by rw [cellB_length]; exact hn, hm, (fun e => by cases e), fun hp => ⟨g, 0, rfl, ?_, fun i v hv => ?_⟩⟩, fun b off e => by injection e with e; injection e with e1 _; omega⟩
    · exact Blk.lt (t := 5) hh
    · rw [Nat.zero_add]
      have : (w.cell? ⟨g, i, none⟩) = cur[i]? := cell_of_row w g i cur 5 (0, 0) hh
      rw [this]
      rw [← ht] at hv
      have := (List.getElem?_eq_some_iff.1 hv).1
      rw [List.getElem?_take] at hv
      split at hv
      · simpa using hv
      · cases hv
theorem OwnB.bs {w : World} {base : Nat} {A : Option Addr} {n c : Nat} {xs : List Int} (h : OwnB w base (.slice A n c) xs) : BS w A c xs ∧ n = xs.length := by
  obtain ⟨A', c', e, hb, _⟩ := h.form
  injection e with e1 e2 e3
  subst e1 e2 e3
  exact ⟨hb, rfl⟩
theorem OwnB.grown {w w' : World} {base : Nat} {v : Value} {xs : List Int} {row : Option Nat} (h : OwnB w base v xs) (hg : w.grownBy w' row) (hne : v.ownBlock = none ∨ v.ownBlock ≠ row) : OwnB w' base v xs := ⟨h.1, h.2.kept hg hne⟩
theorem OwnB.alloc {w : World} {base : Nat} {v : Value} {xs : List Int} (h : OwnB w base v xs) (o : Obj) : OwnB (w.alloc o) base v xs := ⟨h.1, h.2.alloc o⟩
theorem OwnB.drew {w : World} {base : Nat} {v : Value} {xs : List Int} (h : OwnB w base v xs) : OwnB w.drew base v xs := ⟨h.1, h.2.drew⟩
theorem OwnB.fine {w w' : World} {base : Nat} {v : Value} {xs : List Int} (h : OwnB w base v xs) (hf : Fine w w') : OwnB w' base v xs :=
  h.grown (row := none) ⟨hf.os, hf.tape, hf.output, hf.size, fun k hk _ => hf.block k hk⟩ (by cases hv : v.ownBlock <;> simp)
theorem OwnB.lower {w : World} {base base' : Nat} {v : Value} {xs : List Int} (h : OwnB w base v xs) (hb : base' ≤ base) : OwnB w base' v xs := by
  obtain ⟨h0, h1, h2⟩ := h
  refine ⟨h0, h1, ?_⟩
  rcases h2 with h2 | ⟨g, cap, cur, r1, r2, r3⟩
  · exact .inl h2
  · exact .inr ⟨g, cap, cur, r1, by omega, r3⟩
/-- A store into what is the call's own. -/
theorem OwnB.stored {w : World} {base g n c : Nat} {xs : List Int} (h : OwnB w base (.slice (some ⟨g, 0, none⟩) n c) xs) (j : Nat) {z : Int} (hz : 0 ≤ z ∧ z ≤ 255) :
    OwnB (w.setCell ⟨g, j, none⟩ (.int .u8 z)) base (.slice (some ⟨g, 0, none⟩) n c) (xs.set j z) := by
  have hn := h.bs.2
  obtain ⟨h0, h1⟩ := h
  rw [← hn] at h1
  refine ⟨fun x hx => ?_, ?_⟩
  · rcases List.mem_or_eq_of_mem_set hx with hx | rfl
    · exact h0 x hx
    · exact hz
  · rw [List.length_set, ← hn]
    have := (World.ownsRow.stored h1 j (.int .u8 z)).1
    simpa [cellB, List.map_set] using this
theorem OwnB.frozen {w : World} {base g n c : Nat} {xs : List Int} (h : OwnB w base (.slice (some ⟨g, 0, none⟩) n c) xs) (j : Nat) : w.frozen? ⟨g, j, none⟩ = false := by
  have hn := h.bs.2
  obtain ⟨h0, h1⟩ := h
  rw [← hn] at h1
  exact World.ownsRow.frozenAt h1 j
/-- Where it is not empty it begins at its block's head. -/
theorem OwnB.head {w : World} {base : Nat} {A : Option Addr} {n c : Nat} {xs : List Int} (h : OwnB w base (.slice A n c) xs) (hn : 0 < n) : ∃ g, A = some ⟨g, 0, none⟩ ∧ base ≤ g ∧ g < w.heap.size := by
  obtain ⟨_, _, h2⟩ := h
  rcases h2 with ⟨e, h0⟩ | ⟨g, cap, cur, e, hg, hh, _⟩
  · injection e with _ e2; omega
  · injection e with e1
    exact ⟨g, e1, hg, Blk.lt (t := 5) hh⟩
theorem OwnB.lt {w : World} {base : Nat} {v : Value} {xs : List Int} (h : OwnB w base v xs) : ∀ k, v.ownBlock = some k → base ≤ k ∧ k < w.heap.size := h.2.lt

theorem infoB : (Tryd.prog.info? 5).map (fun i => (i.zero, i.size, i.bytes)) = some (some (.int .u8 0), 1, 1) := by kernel_rfl

/-- 'append(s, x...)' on bytes, s the call's own. -/
theorem wp_appB {w : World} {o : Oper} {a : Act} {K : Act → World → Prop} {Q : Exit → Act → World → Prop} (s x : Operand)
    (ho : o.op = .call { callee := .builtin .append, args := #[s, x], argTypes := #[24, 24] })
    (base : Nat) (v : Value) (xs : List Int) (hs : a.eval s = v) (hown : OwnB w base v xs) (A : Option Addr) (m c : Nat) (ys : List Int) (hx : a.eval x = .slice A m c) (hm : m = ys.length) (hr : BS w A c ys)
    (hlen : xs.length + ys.length ≤ 140737488355328) (hbase : base ≤ w.heap.size)
    (h : ∀ v' w', OwnB w' base v' (xs ++ ys) → Kept (fun k => base ≤ k) w w' → w.grownBy w' v.ownBlock → (v'.ownBlock = v.ownBlock ∨ v'.ownBlock = some w.heap.size) → K (a.put o.dst v') w') : o.wp Tryd.prog a w K Q := by
  obtain ⟨i, hi, hz0, hz1, hz2⟩ := info_parts infoB
  refine wp_app s x 24 ho base 5 i _ 1 Tryd.underlying24 hi hz0 hz1 hz2 rfl v xs.length (cellB xs) hs hown.2 A m c (cellB ys) hx (by rw [cellB_length]; exact hm) hr.2 (cellB_one ys)
    (by rw [cellB_length]; omega) (by rw [cellB_length]; unfold maxLen; omega) hbase fun v' w' h1 h2 h3 => h v' w' ⟨hown.1.append hr.1, ?_⟩ ((Kept.refl _ _).grown h2 (fun k hk _ => (hown.lt k hk).1)) h2 h3
  rw [cellB_append, List.length_append]
  rw [cellB_length] at h1
  exact h1
theorem wpList_appB {w : World} {ops : Array Oper} {rest : List Oper} {o : Oper} {a : Act} {Q : Exit → Act → World → Prop} (hgd : o.guard = none) (s x : Operand)
    (ho : o.op = .call { callee := .builtin .append, args := #[s, x], argTypes := #[24, 24] })
    (base : Nat) (v : Value) (xs : List Int) (hs : a.eval s = v) (hown : OwnB w base v xs) (A : Option Addr) (m c : Nat) (ys : List Int) (hx : a.eval x = .slice A m c) (hm : m = ys.length) (hr : BS w A c ys)
    (hlen : xs.length + ys.length ≤ 140737488355328) (hbase : base ≤ w.heap.size)
    (h : ∀ v' w', OwnB w' base v' (xs ++ ys) → Kept (fun k => base ≤ k) w w' → w.grownBy w' v.ownBlock → (v'.ownBlock = v.ownBlock ∨ v'.ownBlock = some w.heap.size) → wpList Tryd.prog ops Q rest (a.put o.dst v') w') : wpList Tryd.prog ops Q (o :: rest) a w :=
  wpList_plain hgd fun _ hK => wp_appB s x ho base v xs hs hown A m c ys hx hm hr hlen hbase fun v' w' h2 h3 h4 h5 => hK _ _ (h v' w' h2 h3 h4 h5)
/-- The same, the new slice's shape told at once. -/
theorem wpList_appS {w : World} {ops : Array Oper} {rest : List Oper} {o : Oper} {a : Act} {Q : Exit → Act → World → Prop} (hgd : o.guard = none) (s x : Operand)
    (ho : o.op = .call { callee := .builtin .append, args := #[s, x], argTypes := #[24, 24] })
    (base : Nat) (v : Value) (xs : List Int) (hs : a.eval s = v) (hown : OwnB w base v xs) (A : Option Addr) (m c : Nat) (ys : List Int) (hx : a.eval x = .slice A m c) (hm : m = ys.length) (hr : BS w A c ys)
    (hlen : xs.length + ys.length ≤ 140737488355328) (hbase : base ≤ w.heap.size)
    (h : ∀ A' c' w', Hid (OwnB w' base (.slice A' (xs.length + ys.length) c') (xs ++ ys)) → Hid (BS w' A' c' (xs ++ ys)) → Kept (fun k => base ≤ k) w w' → wpList Tryd.prog ops Q rest (a.put o.dst (.slice A' (xs.length + ys.length) c')) w') : wpList Tryd.prog ops Q (o :: rest) a w :=
  wpList_appB hgd s x ho base v xs hs hown A m c ys hx hm hr hlen hbase fun v' w' h2 h3 h4 h5 => by
    obtain ⟨A', c', e, hb, _⟩ := h2.form
    rw [List.length_append] at e
    subst e
    exact h A' c' w' h2 hb h3
theorem step_appB {w : World} {ops : Array Oper} {o : Oper} {a : Act} {K : Act → World → Prop} {Q : Exit → Act → World → Prop} {E : Prop} (hgd : o.guard = none) (s x : Operand)
    (ho : o.op = .call { callee := .builtin .append, args := #[s, x], argTypes := #[24, 24] })
    (base : Nat) (v : Value) (xs : List Int) (hs : a.eval s = v) (hown : OwnB w base v xs) (A : Option Addr) (m c : Nat) (ys : List Int) (hx : a.eval x = .slice A m c) (hm : m = ys.length) (hr : BS w A c ys)
    (hlen : xs.length + ys.length ≤ 140737488355328) (hbase : base ≤ w.heap.size)
    (h : ∀ v' w', OwnB w' base v' (xs ++ ys) → Kept (fun k => base ≤ k) w w' → w.grownBy w' v.ownBlock → (v'.ownBlock = v.ownBlock ∨ v'.ownBlock = some w.heap.size) → K (a.put o.dst v') w') :
    if Region.wanted o (yielded ops a.tmps) = true then Oper.wp Tryd.prog o a w K Q else E := by
  have hw : Region.wanted o (yielded ops a.tmps) = true := by simp [Region.wanted, hgd]
  rw [if_pos hw]
  exact wp_appB s x ho base v xs hs hown A m c ys hx hm hr hlen hbase h

/-! Cuts of a slice of one-cell elements whose address is a letter: one run equation each, to be laid ahead of a walk. -/
theorem run_front {P : Program} {t e : TypeId} (ht : P.underlying t = some (.slice e)) (hs : (P.info? e).map (·.size) = some 1) (A : Option Addr) (len c n : Nat) (hn : n ≤ len) (hc : len ≤ c) (hA : A = none → c = 0) (w : World) :
    (Instr.sliceAt t (.slice A len c) none (some (.int .i64 n)) none).run P w = .ok (.slice A n c) w := by
  obtain ⟨i, hi, hz⟩ := Option.map_eq_some_iff.1 hs
  simp only [Instr.sliceAt, Instr.slice, Sem.run_bind, run_underlying ht, Result.andThen_ok, Instr.sliceBounds, Sem.run_pure]
  rw [run_sliceBound (w := w) .i64 n c _ (by omega) (by omega)]
  simp [sizeOf, typeInfo, hi, hz, Result.andThen]
  by_cases h0 : c = 0
  · simp [h0]
  · simp [h0]
    cases A with
    | none => rfl
    | some ad => simp [Addr.add]
theorem run_behind {P : Program} {t e : TypeId} (ht : P.underlying t = some (.slice e)) (hs : (P.info? e).map (·.size) = some 1) (A : Option Addr) (len c n : Nat) (hn : n ≤ len) (hc : len ≤ c) (hA : A = none → c = 0) :
    ∃ A', (∀ w, (Instr.sliceAt t (.slice A len c) (some (.int .i64 n)) none none).run P w = .ok (.slice A' (len - n) (c - n)) w) ∧
      (∀ b off, A = some ⟨b, off, none⟩ → n < c → A' = some ⟨b, off + n, none⟩) ∧ (A' = none → c = n) := by
  refine ⟨if c = n then A else A.map (·.add n), fun w => ?_, fun b off hA1 hlt => ?_, fun hN => ?_⟩
  · obtain ⟨i, hi, hz⟩ := Option.map_eq_some_iff.1 hs
    simp only [Instr.sliceAt, Instr.slice, Sem.run_bind, run_underlying ht, Result.andThen_ok, Instr.sliceBounds, Sem.run_pure]
    rw [run_sliceBound (w := w) .i64 n len _ (by omega) (by omega)]
    simp [sizeOf, typeInfo, hi, hz, Result.andThen]
  · rw [if_neg (by omega), hA1, Option.map_some, Go.WideShapes.add_plain]
  · by_cases h : c = n
    · exact h
    · rw [if_neg h] at hN
      cases A with
      | none => have := hA rfl; omega
      | some ad => cases hN
/-- 'b[:n]', 'b[n:]' of bytes. -/
theorem BS.run_front {w0 : World} {A : Option Addr} {c : Nat} {xs : List Int} (h : BS w0 A c xs) (n : Nat) (hn : n ≤ xs.length) :
    ∀ w, (Instr.sliceAt 24 (.slice A xs.length c) none (some (.int .i64 n)) none).run Tryd.prog w = .ok (.slice A n c) w :=
  fun w => Go.Proofs.YthnennleblgjeaaDoor.run_front Tryd.underlying24 (by kernel_rfl) A xs.length c n hn h.le h.2.2.2.1 w
theorem BS.run_behind {w0 : World} {A : Option Addr} {c : Nat} {xs : List Int} (h : BS w0 A c xs) (n : Nat) (hn : n ≤ xs.length) :
    ∃ A', (∀ w, (Instr.sliceAt 24 (.slice A xs.length c) (some (.int .i64 n)) none none).run Tryd.prog w = .ok (.slice A' (xs.length - n) (c - n)) w) ∧ ∀ w, BS w A c xs → BS w A' (c - n) (xs.drop n) := by
  obtain ⟨A', h1, h2, h3⟩ := Go.Proofs.YthnennleblgjeaaDoor.run_behind (P := Tryd.prog) (t := 24) Tryd.underlying24 (by kernel_rfl) A xs.length c n hn h.le h.2.2.2.1
  exact ⟨A', h1, fun w hw => hw.behind n hn A' h2 h3⟩

/-! A row of bytes that is known whole: 'make', 'copy', a store. -/
def Row (w : World) (g : Nat) (L : List Int) : Prop := Bytes L ∧ Blk w g 5 (cellB L).toArray
theorem Row.fine {w w' : World} {g : Nat} {L : List Int} (h : Row w g L) (hf : Fine w w') : Row w' g L := ⟨h.1, h.2.fine hf⟩
theorem Row.cell {w : World} {g : Nat} {L : List Int} (h : Row w g L) {q : Nat} (hq : q < L.length) : w.cell? ⟨g, q, none⟩ = some (.int .u8 (L.getD q 0)) := by
  rw [h.2.cell q]
  simp [cellB, List.getD, hq]
theorem Row.set_ {w : World} {g : Nat} {L : List Int} (h : Row w g L) (q : Nat) {z : Int} (hz : 0 ≤ z ∧ z ≤ 255) : Row (w.setCell ⟨g, q, none⟩ (.int .u8 z)) g (L.set q z) := by
  refine ⟨fun x hx => ?_, (h.2.set_ q _).cast ?_⟩
  · rcases List.mem_or_eq_of_mem_set hx with hx | rfl
    · exact h.1 x hx
    · exact hz
  · simp [cellB, List.map_set]
/-- The row as a slice of the call's own. -/
theorem Row.own {w : World} {g : Nat} {L : List Int} (h : Row w g L) {base : Nat} (hb : base ≤ g) (hm : L.length ≤ maxLen) : OwnB w base (.slice (some ⟨g, 0, none⟩) L.length L.length) L :=
  ⟨h.1, by simp [cellB], .inr ⟨g, L.length, (cellB L).toArray, rfl, hb, h.2, Nat.le_refl _, hm, by simp [cellB], by rw [List.take_of_length_le (by simp [cellB])]⟩⟩
theorem replicate_bytes (n : Nat) : Bytes (List.replicate n 0) := fun x hx => by
  obtain ⟨_, rfl⟩ := List.mem_replicate.1 hx
  omega
set_option maxRecDepth 50000 in
theorem wpList_makeB {w : World} {ops : Array Oper} {rest : List Oper} {o : Oper} {a : Act} {Q : Exit → Act → World → Prop} (hgd : o.guard = none) (l c : Operand) (hop : o.op = Op.makeSlice 24 l c)
    (n : Nat) (L C : Int) (hl : a.eval l = .int .i64 L) (hc : a.eval c = .int .i64 C) (hL : L = (n : Int)) (hC : C = (n : Int)) (hn : n ≤ 1000000000)
    (h : ∀ w', Row w' w.heap.size (List.replicate n 0) → Fine w w' → wpList Tryd.prog ops Q rest (a.put o.dst (.slice (some ⟨w.heap.size, 0, none⟩) n n)) w') : wpList Tryd.prog ops Q (o :: rest) a w := by
  obtain ⟨i, hi, hz0, hz1, hz2⟩ := info_parts infoB
  refine wpList_make_full w hgd l c 24 hop w.heap.size 5 i _ 1 Tryd.underlying24 hi hz0 hz1 .i64 .i64 L C n hl hc hL hC (by rw [hz2]; omega) (by unfold maxLen; omega) (Nat.le_refl _) fun w' hown hg => h w' ⟨replicate_bytes n, ?_⟩ ((Fine.refl w).grown hg (fun k hk => by cases hk))
  obtain ⟨_, hv⟩ := hown
  rcases hv with ⟨h1, _⟩ | ⟨g, cap, cur, h1, _, hh, _, _, hcs, ht⟩
  · cases h1
  · injection h1 with h1 _ h3
    injection h1 with h1
    injection h1 with h1 _
    subst h1 h3
    unfold Blk
    rw [hh]
    congr 2
    apply Array.toList_inj.1
    rw [List.take_of_length_le (by simp [hcs])] at ht
    rw [ht]
    simp [cellB, Value.cells, toList_madeCells_one]
theorem splice_front (L xs : List Int) : splice (cellB L) 0 (cellB xs) = cellB (xs ++ L.drop xs.length) := by simp [splice, cellB]
theorem wpList_copyB {w : World} {ops : Array Oper} {rest : List Oper} {o : Oper} {a : Act} {Q : Exit → Act → World → Prop} (hgd : o.guard = none) (d s : Operand)
    (ho : o.op = .call { callee := .builtin .copy, args := #[d, s], argTypes := #[24, 24] })
    (g : Nat) (L : List Int) (hrow : Row w g L) (n C : Nat) (hd : a.eval d = .slice (some ⟨g, 0, none⟩) n C) (hn : n = L.length) (A : Option Addr) (m c : Nat) (xs : List Int) (hs : a.eval s = .slice A m c) (hm : m = xs.length) (hb : BS w A c xs) (hle : xs.length ≤ L.length)
    (h : ∀ w', Row w' g (xs ++ L.drop xs.length) → Kept (· = g) w w' → wpList Tryd.prog ops Q rest (a.put o.dst (goInt xs.length)) w') : wpList Tryd.prog ops Q (o :: rest) a w := by
  subst hn hm
  have hlt := hrow.2.lt
  by_cases h0 : xs.length = 0
  · obtain rfl : xs = [] := List.eq_nil_of_length_eq_zero h0
    refine wpList_copy_nothing hgd d s 24 24 ho 5 Tryd.underlying24 (by kernel_rfl) _ _ _ _ _ _ hd hs (by simp) ?_
    exact h w (by simpa using hrow) (Kept.refl _ _)
  · obtain ⟨b, off, e, hbl, hc⟩ := hb.2.2.2.2 (by rw [cellB_length]; omega)
    subst e
    have e1 : ((cellB L).toArray.toList.take 0 ++ (cellB xs ++ (cellB L).toArray.toList.drop (0 + (cellB xs).length))).toArray = (cellB (xs ++ L.drop xs.length)).toArray := by simp [cellB]
    have hsz : (w.setRow g (cellB (xs ++ L.drop xs.length)).toArray).heap.size = w.heap.size := by simp [World.setRow]
    have hh : (w.setRow g (cellB (xs ++ L.drop xs.length)).toArray).heap[g]? = some (.cells (cellB (xs ++ L.drop xs.length)).toArray 5 (0, 0)) := by
      have hr := hrow.2
      unfold Blk at hr
      simp [World.setRow, Array.getElem?_modify, hr]
    refine wpList_copy_own hgd d s 24 24 ho 5 Tryd.underlying24 (by kernel_rfl) g 0 _ _ _ _ _ hd hs (cellB L).toArray 5 hrow.2 (cellB xs) (by rw [cellB_length]; exact (Nat.min_eq_left hle).symm)
      (fun j v hv => by rw [Go.WideShapes.add_plain]; exact hc j v hv) (by simp [cellB]; omega) (cellB_one xs) ?_
    rw [e1, cellB_length]
    exact h _ ⟨hb.1.append (hrow.1.drop _), hh⟩ ⟨rfl, rfl, rfl, by omega, fun k _ hk => setRow_other w g k _ (fun e => hk e)⟩
end Go.Proofs.YthnennleblgjeaaDoor
