/- Slices of numbers of 16 bits, as 'BS' and 'OwnB' are for bytes (printed from that text by exchange of words). -/
import Derived.Test.YthnennleblgjeaaBytes
namespace Go.Proofs.Ythnennleblgjeaa
open Go.RowKit
def Words (l : List Int) : Prop := ∀ x ∈ l, 0 ≤ x ∧ x ≤ 65535
theorem Words.nil : Words [] := fun x h => by cases h
theorem Words.append {a b : List Int} (ha : Words a) (hb : Words b) : Words (a ++ b) := fun x h => by
  rcases List.mem_append.1 h with h | h
  · exact ha x h
  · exact hb x h
theorem Words.one {x : Int} (h : 0 ≤ x ∧ x ≤ 65535) : Words [x] := fun y hy => by
  obtain rfl : y = x := by simpa using hy
  exact h
theorem Words.take {a : List Int} (ha : Words a) (n : Nat) : Words (a.take n) := fun x h => ha x (List.mem_of_mem_take h)
theorem Words.drop {a : List Int} (ha : Words a) (n : Nat) : Words (a.drop n) := fun x h => ha x (List.mem_of_mem_drop h)
theorem Words.getD {a : List Int} (ha : Words a) (n : Nat) : 0 ≤ a.getD n 0 ∧ a.getD n 0 ≤ 65535 := by
  by_cases h : n < a.length
  · exact ha _ (getD_mem a n h)
  · have e : a.getD n 0 = 0 := by simp [List.getD, h]
    rw [e]; omega

/-! Words. -/
def cellU (l : List Int) : List Value := l.map (Value.int .u16)
theorem cellU_length (l : List Int) : (cellU l).length = l.length := by simp [cellU]
theorem cellU_one (l : List Int) : ∀ u ∈ cellU l, u.oneCell' = true := by
  intro u hu
  obtain ⟨n, _, rfl⟩ := List.mem_map.1 hu
  rfl
theorem cellU_append (a b : List Int) : cellU (a ++ b) = cellU a ++ cellU b := by simp [cellU]

/-- The bytes of a slice that is read. -/
def US (w : World) (A : Option Addr) (c : Nat) (xs : List Int) : Prop := Words xs ∧ Src w A c (cellU xs)
theorem US.bytes {w : World} {A : Option Addr} {c : Nat} {xs : List Int} (h : US w A c xs) : Words xs := h.1
theorem US.le {w : World} {A : Option Addr} {c : Nat} {xs : List Int} (h : US w A c xs) : xs.length ≤ c := by have := h.2.1; rwa [cellU_length] at this
theorem US.fine {w w' : World} {A : Option Addr} {c : Nat} {xs : List Int} (h : US w A c xs) (hf : Fine w w') : US w' A c xs := ⟨h.1, h.2.fine hf⟩
theorem US.nil_ (w : World) : US w none 0 [] := ⟨Words.nil, Src.nil_ w⟩
theorem US.at_ {w : World} {A : Option Addr} {c : Nat} {xs : List Int} (h : US w A c xs) {k : Nat} (hk : k < xs.length) :
    ∃ b off, A = some ⟨b, off, none⟩ ∧ b < w.heap.size ∧ w.cell? ⟨b, off + k, none⟩ = some (.int .u16 (xs.getD k 0)) := by
  obtain ⟨b, off, e, hb, hc⟩ := h.2.2.2.2 (by rw [cellU_length]; omega)
  refine ⟨b, off, e, hb, hc k _ ?_⟩
  simp [cellU, List.getD, hk]
theorem US.of_ints {w : World} {a : Option Addr} {len cap : Nat} {zs : List Int} (h : IntsIn .u16 w a len cap zs) : US w a cap zs := by
  obtain ⟨h1, h2, h3, h4, h5, h6⟩ := h
  have hb : Words zs := fun x hx => Go.bounds_u16 (h5 x hx)
  refine ⟨hb, by rw [cellU_length]; omega, h2, fun e => (h4 e).2, fun hp => ?_⟩
  rw [cellU_length] at hp
  obtain ⟨b, off, e, hbk, hc⟩ := h6 (by omega)
  refine ⟨b, off, e, hbk, fun i v hv => ?_⟩
  have hi : i < zs.length := by have := (List.getElem?_eq_some_iff.1 hv).1; rwa [cellU_length] at this
  rw [hc i (by omega)]
  simp [cellU, List.getElem?_eq_getElem hi] at hv
  rw [← hv]
  simp [List.getD, hi]
/-- The block that 'append(s, x)' lays for x. -/
theorem US.one {z : Int} (hz : 0 ≤ z ∧ z ≤ 65535) (w : World) : US (w.alloc (.cells #[.int .u16 z] 29)) (some ⟨w.heap.size, 0, none⟩) 1 [z] :=
  ⟨Words.one hz, by simp [cellU], by unfold maxLen; omega, (fun e => by cases e), fun _ => ⟨w.heap.size, 0, rfl, by simp, fun i v hv => by
    match i, hv with
    | 0, hv => simp [cellU] at hv; subst hv; exact (Blk.new w 29 #[.int .u16 z]).cell 0⟩⟩
/-- 'b[:n]'. -/
theorem US.front {w : World} {A : Option Addr} {c : Nat} {xs : List Int} (h : US w A c xs) (n : Nat) (hn : n ≤ xs.length) : US w A c (xs.take n) := by
  have hl := h.le
  refine ⟨h.1.take n, by rw [cellU_length]; simp; omega, h.2.2.1, h.2.2.2.1, fun hp => ?_⟩
  rw [cellU_length, List.length_take] at hp
  obtain ⟨b, off, e, hb, hc⟩ := h.2.2.2.2 (by rw [cellU_length]; omega)
  refine ⟨b, off, e, hb, fun i v hv => hc i v ?_⟩
  have hi : i < min n xs.length := by have := (List.getElem?_eq_some_iff.1 hv).1; rwa [cellU_length, List.length_take] at this
  simpa [cellU, List.getElem?_take, show i < n by omega] using hv
/-- 'b[n:]', as the model lays it. -/
theorem US.behind {w : World} {A : Option Addr} {c : Nat} {xs : List Int} (h : US w A c xs) (n : Nat) (hn : n ≤ xs.length) (A' : Option Addr)
    (hA : ∀ b off, A = some ⟨b, off, none⟩ → n < c → A' = some ⟨b, off + n, none⟩) (hN : A' = none → c = n) : US w A' (c - n) (xs.drop n) := by
  have hl := h.le
  have hm := h.2.2.1
  refine ⟨h.1.drop n, by rw [cellU_length]; simp; omega, by unfold maxLen at *; omega, fun e => by have := hN e; omega, fun hp => ?_⟩
  rw [cellU_length, List.length_drop] at hp
  obtain ⟨b, off, e, hb, hc⟩ := h.2.2.2.2 (by rw [cellU_length]; omega)
  refine ⟨b, off + n, hA b off e (by omega), hb, fun i v hv => ?_⟩
  rw [Nat.add_assoc]
  refine hc (n + i) v ?_
  have hi : i < xs.length - n := by have := (List.getElem?_eq_some_iff.1 hv).1; rwa [cellU_length, List.length_drop] at this
  simpa [cellU, List.getElem?_drop] using hv

/-- The bytes of a slice that is the call's own, from block 'base' on: it may be appended to, and written. -/
def OwnU (w : World) (base : Nat) (v : Value) (xs : List Int) : Prop := Words xs ∧ w.ownsRow base 29 1 v xs.length (cellU xs)
theorem OwnU.nil_ (w : World) (base : Nat) : OwnU w base (.slice none 0 0) [] := ⟨Words.nil, World.ownsRow_nil _ _ _ _⟩
/-- '[]byte{}'. -/
theorem OwnU.empty (w : World) {base : Nat} (hb : base ≤ w.heap.size) : OwnU (w.alloc (.cells #[] 29)) base (.slice (some ⟨w.heap.size, 0, none⟩) 0 0) [] :=
  ⟨Words.nil, rfl, .inr ⟨w.heap.size, 0, #[], rfl, hb, Blk.new w 29 #[], Nat.le_refl _, Nat.zero_le _, rfl, rfl⟩⟩
theorem OwnU.bytes {w : World} {base : Nat} {v : Value} {xs : List Int} (h : OwnU w base v xs) : Words xs := h.1
/-- Its shape, and that it may be read. -/
theorem OwnU.form {w : World} {base : Nat} {v : Value} {xs : List Int} (h : OwnU w base v xs) : ∃ A c, v = .slice A xs.length c ∧ US w A c xs ∧ (∀ b off, A = some ⟨b, off, none⟩ → base ≤ b) := by
  obtain ⟨hb, hl, hv⟩ := h
  rcases hv with ⟨rfl, h0⟩ | ⟨g, cap, cur, rfl, hg, hh, hn, hm, hcs, ht⟩
  · have : xs = [] := List.eq_nil_of_length_eq_zero h0
    subst this
    exact ⟨none, 0, rfl, US.nil_ w, fun b off e => by cases e⟩
  · refine ⟨some ⟨g, 0, none⟩, cap, rfl, ⟨hb, by rw [cellU_length]; exact hn, hm, (fun e => by cases e), fun hp => ⟨g, 0, rfl, ?_, fun i v hv => ?_⟩⟩, fun b off e => by injection e with e; injection e with e1 _; omega⟩
    · exact Blk.lt (t := 29) hh
    · rw [Nat.zero_add]
      have : (w.cell? ⟨g, i, none⟩) = cur[i]? := cell_of_row w g i cur 29 (0, 0) hh
      rw [this]
      rw [← ht] at hv
      have := (List.getElem?_eq_some_iff.1 hv).1
      rw [List.getElem?_take] at hv
      split at hv
      · simpa using hv
      · cases hv
theorem OwnU.bs {w : World} {base : Nat} {A : Option Addr} {n c : Nat} {xs : List Int} (h : OwnU w base (.slice A n c) xs) : US w A c xs ∧ n = xs.length := by
  obtain ⟨A', c', e, hb, _⟩ := h.form
  injection e with e1 e2 e3
  subst e1 e2 e3
  exact ⟨hb, rfl⟩
theorem OwnU.grown {w w' : World} {base : Nat} {v : Value} {xs : List Int} {row : Option Nat} (h : OwnU w base v xs) (hg : w.grownBy w' row) (hne : v.ownBlock = none ∨ v.ownBlock ≠ row) : OwnU w' base v xs := ⟨h.1, h.2.kept hg hne⟩
theorem OwnU.alloc {w : World} {base : Nat} {v : Value} {xs : List Int} (h : OwnU w base v xs) (o : Obj) : OwnU (w.alloc o) base v xs := ⟨h.1, h.2.alloc o⟩
theorem OwnU.drew {w : World} {base : Nat} {v : Value} {xs : List Int} (h : OwnU w base v xs) : OwnU w.drew base v xs := ⟨h.1, h.2.drew⟩
theorem OwnU.fine {w w' : World} {base : Nat} {v : Value} {xs : List Int} (h : OwnU w base v xs) (hf : Fine w w') : OwnU w' base v xs :=
  h.grown (row := none) ⟨hf.os, hf.tape, hf.output, hf.size, fun k hk _ => hf.block k hk⟩ (by cases hv : v.ownBlock <;> simp)
theorem OwnU.lower {w : World} {base base' : Nat} {v : Value} {xs : List Int} (h : OwnU w base v xs) (hb : base' ≤ base) : OwnU w base' v xs := by
  obtain ⟨h0, h1, h2⟩ := h
  refine ⟨h0, h1, ?_⟩
  rcases h2 with h2 | ⟨g, cap, cur, r1, r2, r3⟩
  · exact .inl h2
  · exact .inr ⟨g, cap, cur, r1, by omega, r3⟩
/-- A store into what is the call's own. -/
theorem OwnU.stored {w : World} {base g n c : Nat} {xs : List Int} (h : OwnU w base (.slice (some ⟨g, 0, none⟩) n c) xs) (j : Nat) {z : Int} (hz : 0 ≤ z ∧ z ≤ 65535) :
    OwnU (w.setCell ⟨g, j, none⟩ (.int .u16 z)) base (.slice (some ⟨g, 0, none⟩) n c) (xs.set j z) := by
  have hn := h.bs.2
  obtain ⟨h0, h1⟩ := h
  rw [← hn] at h1
  refine ⟨fun x hx => ?_, ?_⟩
  · rcases List.mem_or_eq_of_mem_set hx with hx | rfl
    · exact h0 x hx
    · exact hz
  · rw [List.length_set, ← hn]
    have := (World.ownsRow.stored h1 j (.int .u16 z)).1
    simpa [cellU, List.map_set] using this
theorem OwnU.frozen {w : World} {base g n c : Nat} {xs : List Int} (h : OwnU w base (.slice (some ⟨g, 0, none⟩) n c) xs) (j : Nat) : w.frozen? ⟨g, j, none⟩ = false := by
  have hn := h.bs.2
  obtain ⟨h0, h1⟩ := h
  rw [← hn] at h1
  exact World.ownsRow.frozenAt h1 j
/-- Where it is not empty it begins at its block's head. -/
theorem OwnU.head {w : World} {base : Nat} {A : Option Addr} {n c : Nat} {xs : List Int} (h : OwnU w base (.slice A n c) xs) (hn : 0 < n) : ∃ g, A = some ⟨g, 0, none⟩ ∧ base ≤ g ∧ g < w.heap.size := by
  obtain ⟨_, _, h2⟩ := h
  rcases h2 with ⟨e, h0⟩ | ⟨g, cap, cur, e, hg, hh, _⟩
  · injection e with _ e2; omega
  · injection e with e1
    exact ⟨g, e1, hg, Blk.lt (t := 29) hh⟩
theorem OwnU.lt {w : World} {base : Nat} {v : Value} {xs : List Int} (h : OwnU w base v xs) : ∀ k, v.ownBlock = some k → base ≤ k ∧ k < w.heap.size := h.2.lt

theorem infoU : (Try.prog.info? 29).map (fun i => (i.zero, i.size, i.bytes)) = some (some (.int .u16 0), 1, 2) := by kernel_rfl

/-- 'append(s, x...)' on bytes, s the call's own. -/
theorem wp_appU {w : World} {o : Oper} {a : Act} {K : Act → World → Prop} {Q : Exit → Act → World → Prop} (s x : Operand)
    (ho : o.op = .call { callee := .builtin .append, args := #[s, x], argTypes := #[28, 28] })
    (base : Nat) (v : Value) (xs : List Int) (hs : a.eval s = v) (hown : OwnU w base v xs) (A : Option Addr) (m c : Nat) (ys : List Int) (hx : a.eval x = .slice A m c) (hm : m = ys.length) (hr : US w A c ys)
    (hlen : xs.length + ys.length ≤ 70368744177664) (hbase : base ≤ w.heap.size)
    (h : ∀ v' w', OwnU w' base v' (xs ++ ys) → Kept (fun k => base ≤ k) w w' → w.grownBy w' v.ownBlock → (v'.ownBlock = v.ownBlock ∨ v'.ownBlock = some w.heap.size) → K (a.put o.dst v') w') : o.wp Try.prog a w K Q := by
  obtain ⟨i, hi, hz0, hz1, hz2⟩ := info_parts infoU
  refine wp_app s x 28 ho base 29 i _ 2 Try.underlying28 hi hz0 hz1 hz2 rfl v xs.length (cellU xs) hs hown.2 A m c (cellU ys) hx (by rw [cellU_length]; exact hm) hr.2 (cellU_one ys)
    (by rw [cellU_length]; omega) (by rw [cellU_length]; unfold maxLen; omega) hbase fun v' w' h1 h2 h3 => h v' w' ⟨hown.1.append hr.1, ?_⟩ ((Kept.refl _ _).grown h2 (fun k hk _ => (hown.lt k hk).1)) h2 h3
  rw [cellU_append, List.length_append]
  rw [cellU_length] at h1
  exact h1
theorem wpList_appU {w : World} {ops : Array Oper} {rest : List Oper} {o : Oper} {a : Act} {Q : Exit → Act → World → Prop} (hgd : o.guard = none) (s x : Operand)
    (ho : o.op = .call { callee := .builtin .append, args := #[s, x], argTypes := #[28, 28] })
    (base : Nat) (v : Value) (xs : List Int) (hs : a.eval s = v) (hown : OwnU w base v xs) (A : Option Addr) (m c : Nat) (ys : List Int) (hx : a.eval x = .slice A m c) (hm : m = ys.length) (hr : US w A c ys)
    (hlen : xs.length + ys.length ≤ 70368744177664) (hbase : base ≤ w.heap.size)
    (h : ∀ v' w', OwnU w' base v' (xs ++ ys) → Kept (fun k => base ≤ k) w w' → w.grownBy w' v.ownBlock → (v'.ownBlock = v.ownBlock ∨ v'.ownBlock = some w.heap.size) → wpList Try.prog ops Q rest (a.put o.dst v') w') : wpList Try.prog ops Q (o :: rest) a w :=
  wpList_plain hgd fun _ hK => wp_appU s x ho base v xs hs hown A m c ys hx hm hr hlen hbase fun v' w' h2 h3 h4 h5 => hK _ _ (h v' w' h2 h3 h4 h5)
/-- The same, the new slice's shape told at once. -/
theorem wpList_appV {w : World} {ops : Array Oper} {rest : List Oper} {o : Oper} {a : Act} {Q : Exit → Act → World → Prop} (hgd : o.guard = none) (s x : Operand)
    (ho : o.op = .call { callee := .builtin .append, args := #[s, x], argTypes := #[28, 28] })
    (base : Nat) (v : Value) (xs : List Int) (hs : a.eval s = v) (hown : OwnU w base v xs) (A : Option Addr) (m c : Nat) (ys : List Int) (hx : a.eval x = .slice A m c) (hm : m = ys.length) (hr : US w A c ys)
    (hlen : xs.length + ys.length ≤ 70368744177664) (hbase : base ≤ w.heap.size)
    (h : ∀ A' c' w', Hid (OwnU w' base (.slice A' (xs.length + ys.length) c') (xs ++ ys)) → Hid (US w' A' c' (xs ++ ys)) → Kept (fun k => base ≤ k) w w' → wpList Try.prog ops Q rest (a.put o.dst (.slice A' (xs.length + ys.length) c')) w') : wpList Try.prog ops Q (o :: rest) a w :=
  wpList_appU hgd s x ho base v xs hs hown A m c ys hx hm hr hlen hbase fun v' w' h2 h3 h4 h5 => by
    obtain ⟨A', c', e, hb, _⟩ := h2.form
    rw [List.length_append] at e
    subst e
    exact h A' c' w' h2 hb h3
end Go.Proofs.Ythnennleblgjeaa
