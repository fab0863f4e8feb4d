/- Two flows: a row of bytes grows; a flow answers. Two flows: a flow is born; what a packet does. Two flows: comes, what holds behind the call. -/
import Derived.Test.YtjldgialhgfhmaaXFlow25
namespace Go.Proofs.Ytjldgialhgfhmaa
set_option linter.unusedVariables false
set_option linter.unusedSimpArgs false
open Go.ChangeShapes Go.WideShapes Go.ChangeAt Go.RowKit Go.Maps
set_option linter.unusedVariables false
set_option linter.unusedSimpArgs false
section
variable {col : Nat → Nat} {w0 w w' wB : World} {g f0 : Nat} {p1 : Option Nat} {wA : Option Addr} {wc : Nat} {ks : List Rk} {a0 a1 b0 b1 : SlV} {P : Pr}
/-- The row s0 has grown. -/
theorem PrX.grew_s0 (h : PrX col w0 w g f0 p1 wA wc ks a0 a1 b0 b1 P) {wF : World} (fa : Fine w wF) {v3 : SlV} {xs : List Int} (kB : Kept (fun y => a0.val.ownBlock = some y) wF wB) (oB : Own LB 5 wB 0 v3.val (P.s0 ++ xs))
    (bB : v3.val.ownBlock = a0.val.ownBlock ∨ v3.val.ownBlock = some wF.heap.size) : PrOf col w0 g { P with s0 := P.s0 ++ xs } w (wB.setCell ⟨g, 3, none⟩ v3.val) := by
  have h1 := h.fine_ fa
  have k4 : Kept (fun b => col b = 5) wF wB := kB.mono (fun y _ e => h.c0 y e)
  have k2 : Kept (fun b => col b = 9) wB (wB.setCell ⟨g, 3, none⟩ v3.val) := (Kept.refl (fun b => col b = 9) wB).setIn (p := ⟨g, 3, none⟩) h.cg _
  have kk : Kept (fun b => col b = 5 ∨ col b = 9) wF (wB.setCell ⟨g, 3, none⟩ v3.val) := (k4.mono (fun y _ e => Or.inl e)).trans (k2.mono (fun y _ e => Or.inr e))
  have k0 : Kept (fun b => col b = 5 ∨ col b = 9) w (wB.setCell ⟨g, 3, none⟩ v3.val) := (Kept.of_fine fa).trans kk
  have hbB : Blk wB g 77 #[.pointer (some ⟨f0, 0, none⟩), .pointer (p1.map fun f => ⟨f, 0, none⟩), .slice wA ks.length wc, a0.val, a1.val, b0.val, b1.val, .int .i64 P.tick] := h1.box.kept k4 (fun e => by have e : col g = 5 := e; rw [h.cg] at e; cases e)
  have hd : ∀ m : Nat, m ≠ 5 → m ≠ 9 → ∀ b, col b = m → ¬ (col b = 5 ∨ col b = 9) := fun m h4 h9 b e o => o.elim (fun o => h4 (e.symm.trans o)) (fun o => h9 (e.symm.trans o))
  obtain ⟨col', hc⟩ : ∃ z : Nat → Nat, z = fun b => if col b = 0 ∧ v3.val.ownBlock = some b then 5 else col b := ⟨_, rfl⟩
  have hsame : ∀ b, col b ≠ 0 → col' b = col b := fun b hb => by rw [hc]; exact if_neg (fun e => hb e.1)
  have hm : ∀ m : Nat, m ≠ 0 → m ≠ 5 → ∀ b, col' b = m ↔ col b = m := fun m h0 h4 b => by
    rw [hc]
    show (if _ then 5 else col b) = m ↔ _
    split
    · rename_i e; rw [e.1]; exact ⟨fun e => absurd e.symm h4, fun e => absurd e.symm h0⟩
    · exact Iff.rfl
  have hnew : ∀ b, col' b ≠ 0 → col b ≠ 0 ∨ wF.heap.size ≤ b ∧ b < wB.heap.size := fun b hb => by
    rw [hc] at hb
    replace hb : (if col b = 0 ∧ v3.val.ownBlock = some b then 5 else col b) ≠ 0 := hb
    split at hb
    · rename_i e
      rcases bB with e2 | e2
      · have := h.c0 b (e2 ▸ e.2); rw [e.1] at this; cases this
      · refine .inr ⟨?_, (oB.lt b e.2).2⟩
        rw [e2] at e
        have := e.2; injection this with this; omega
    · exact .inl hb
  have hown : ∀ b, v3.val.ownBlock = some b → col' b = 5 := fun b e => by
    by_cases h0 : col b = 0
    · rw [hc]; exact if_pos ⟨h0, e⟩
    · rcases bB with e2 | e2
      · rw [hsame b h0]; exact h.c0 b (e2 ▸ e)
      · rw [e2] at e; injection e with e
        have := (h1.base b h0).2; omega
  have hgn : ∀ b, v3.val.ownBlock = some b → ¬ col b = 9 := fun b e o => by
    have := hown b e; rw [hsame b (by rw [o]; decide), o] at this; cases this
  refine ⟨col', ⟨f0, p1, wA, wc, ks, v3, a1, b0, b1, h1.fine.kept kk (fun x hx e => by rcases e with e | e <;> (have := (h1.base x (by rw [e]; decide)).1; omega)), fun b hb => ?_, (hm 9 (by decide) (by decide) g).2 h.cg, (hbB.set_ 3 _).cast (by simp), ?_, fun T e => ?_, h.no1, h1.way.kept kk (fun b e => hd 4 (by decide) (by decide) b (h.cway b e)), fun b e => (hm 4 (by decide) (by decide) b).2 (h.cway b e), fun x hx => ((h1.dat x hx).kept kk (hd 3 (by decide) (by decide))).less (fun b hb => (hm 3 (by decide) (by decide) b).2 hb), h.wpl, oB.kept k2 hgn, hown, h1.r1.kept kk (fun b e => hd 6 (by decide) (by decide) b (h.c1 b e)), fun b e => (hm 6 (by decide) (by decide) b).2 (h.c1 b e), h1.r2.kept kk (fun b e => hd 7 (by decide) (by decide) b (h.c2 b e)), fun b e => (hm 7 (by decide) (by decide) b).2 (h.c2 b e), h1.r3.kept kk (fun b e => hd 8 (by decide) (by decide) b (h.c3 b e)), fun b e => (hm 8 (by decide) (by decide) b).2 (h.c3 b e)⟩, k0.mono (fun y _ e => by show col y ≠ 0; rcases e with e | e <;> (rw [e]; decide)), fun b hb => (hnew b hb).imp id (fun h => Nat.le_trans fa.size h.1)⟩
  · rcases hnew b hb with e | e
    · exact ⟨(h1.base b e).1, Nat.lt_of_lt_of_le (h1.base b e).2 kk.size⟩
    · exact ⟨Nat.le_trans h1.fine.size e.1, Nat.lt_of_lt_of_le e.2 k2.size⟩
  · have e : (fun b => col' b = 1) = (fun b => col b = 1) := funext fun b => propext (hm 1 (by decide) (by decide) b)
    rw [e]
    exact h1.fl0.kept kk (hd 1 (by decide) (by decide))
  · obtain ⟨f1, e1, h2⟩ := h1.fl1 T e
    refine ⟨f1, e1, ?_⟩
    have e : (fun b => col' b = 2) = (fun b => col b = 2) := funext fun b => propext (hm 2 (by decide) (by decide) b)
    rw [e]
    exact h2.kept kk (hd 2 (by decide) (by decide))
/-- The row s1 has grown. -/
theorem PrX.grew_s1 (h : PrX col w0 w g f0 p1 wA wc ks a0 a1 b0 b1 P) {wF : World} (fa : Fine w wF) {v3 : SlV} {xs : List Int} (kB : Kept (fun y => a1.val.ownBlock = some y) wF wB) (oB : Own LB 5 wB 0 v3.val (P.s1 ++ xs))
    (bB : v3.val.ownBlock = a1.val.ownBlock ∨ v3.val.ownBlock = some wF.heap.size) : PrOf col w0 g { P with s1 := P.s1 ++ xs } w (wB.setCell ⟨g, 4, none⟩ v3.val) := by
  have h1 := h.fine_ fa
  have k4 : Kept (fun b => col b = 6) wF wB := kB.mono (fun y _ e => h.c1 y e)
  have k2 : Kept (fun b => col b = 9) wB (wB.setCell ⟨g, 4, none⟩ v3.val) := (Kept.refl (fun b => col b = 9) wB).setIn (p := ⟨g, 4, none⟩) h.cg _
  have kk : Kept (fun b => col b = 6 ∨ col b = 9) wF (wB.setCell ⟨g, 4, none⟩ v3.val) := (k4.mono (fun y _ e => Or.inl e)).trans (k2.mono (fun y _ e => Or.inr e))
  have k0 : Kept (fun b => col b = 6 ∨ col b = 9) w (wB.setCell ⟨g, 4, none⟩ v3.val) := (Kept.of_fine fa).trans kk
  have hbB : Blk wB g 77 #[.pointer (some ⟨f0, 0, none⟩), .pointer (p1.map fun f => ⟨f, 0, none⟩), .slice wA ks.length wc, a0.val, a1.val, b0.val, b1.val, .int .i64 P.tick] := h1.box.kept k4 (fun e => by have e : col g = 6 := e; rw [h.cg] at e; cases e)
  have hd : ∀ m : Nat, m ≠ 6 → m ≠ 9 → ∀ b, col b = m → ¬ (col b = 6 ∨ col b = 9) := fun m h4 h9 b e o => o.elim (fun o => h4 (e.symm.trans o)) (fun o => h9 (e.symm.trans o))
  obtain ⟨col', hc⟩ : ∃ z : Nat → Nat, z = fun b => if col b = 0 ∧ v3.val.ownBlock = some b then 6 else col b := ⟨_, rfl⟩
  have hsame : ∀ b, col b ≠ 0 → col' b = col b := fun b hb => by rw [hc]; exact if_neg (fun e => hb e.1)
  have hm : ∀ m : Nat, m ≠ 0 → m ≠ 6 → ∀ b, col' b = m ↔ col b = m := fun m h0 h4 b => by
    rw [hc]
    show (if _ then 6 else col b) = m ↔ _
    split
    · rename_i e; rw [e.1]; exact ⟨fun e => absurd e.symm h4, fun e => absurd e.symm h0⟩
    · exact Iff.rfl
  have hnew : ∀ b, col' b ≠ 0 → col b ≠ 0 ∨ wF.heap.size ≤ b ∧ b < wB.heap.size := fun b hb => by
    rw [hc] at hb
    replace hb : (if col b = 0 ∧ v3.val.ownBlock = some b then 6 else col b) ≠ 0 := hb
    split at hb
    · rename_i e
      rcases bB with e2 | e2
      · have := h.c1 b (e2 ▸ e.2); rw [e.1] at this; cases this
      · refine .inr ⟨?_, (oB.lt b e.2).2⟩
        rw [e2] at e
        have := e.2; injection this with this; omega
    · exact .inl hb
  have hown : ∀ b, v3.val.ownBlock = some b → col' b = 6 := fun b e => by
    by_cases h0 : col b = 0
    · rw [hc]; exact if_pos ⟨h0, e⟩
    · rcases bB with e2 | e2
      · rw [hsame b h0]; exact h.c1 b (e2 ▸ e)
      · rw [e2] at e; injection e with e
        have := (h1.base b h0).2; omega
  have hgn : ∀ b, v3.val.ownBlock = some b → ¬ col b = 9 := fun b e o => by
    have := hown b e; rw [hsame b (by rw [o]; decide), o] at this; cases this
  refine ⟨col', ⟨f0, p1, wA, wc, ks, a0, v3, b0, b1, h1.fine.kept kk (fun x hx e => by rcases e with e | e <;> (have := (h1.base x (by rw [e]; decide)).1; omega)), fun b hb => ?_, (hm 9 (by decide) (by decide) g).2 h.cg, (hbB.set_ 4 _).cast (by simp), ?_, fun T e => ?_, h.no1, h1.way.kept kk (fun b e => hd 4 (by decide) (by decide) b (h.cway b e)), fun b e => (hm 4 (by decide) (by decide) b).2 (h.cway b e), fun x hx => ((h1.dat x hx).kept kk (hd 3 (by decide) (by decide))).less (fun b hb => (hm 3 (by decide) (by decide) b).2 hb), h.wpl, h1.r0.kept kk (fun b e => hd 5 (by decide) (by decide) b (h.c0 b e)), fun b e => (hm 5 (by decide) (by decide) b).2 (h.c0 b e), oB.kept k2 hgn, hown, h1.r2.kept kk (fun b e => hd 7 (by decide) (by decide) b (h.c2 b e)), fun b e => (hm 7 (by decide) (by decide) b).2 (h.c2 b e), h1.r3.kept kk (fun b e => hd 8 (by decide) (by decide) b (h.c3 b e)), fun b e => (hm 8 (by decide) (by decide) b).2 (h.c3 b e)⟩, k0.mono (fun y _ e => by show col y ≠ 0; rcases e with e | e <;> (rw [e]; decide)), fun b hb => (hnew b hb).imp id (fun h => Nat.le_trans fa.size h.1)⟩
  · rcases hnew b hb with e | e
    · exact ⟨(h1.base b e).1, Nat.lt_of_lt_of_le (h1.base b e).2 kk.size⟩
    · exact ⟨Nat.le_trans h1.fine.size e.1, Nat.lt_of_lt_of_le e.2 k2.size⟩
  · have e : (fun b => col' b = 1) = (fun b => col b = 1) := funext fun b => propext (hm 1 (by decide) (by decide) b)
    rw [e]
    exact h1.fl0.kept kk (hd 1 (by decide) (by decide))
  · obtain ⟨f1, e1, h2⟩ := h1.fl1 T e
    refine ⟨f1, e1, ?_⟩
    have e : (fun b => col' b = 2) = (fun b => col b = 2) := funext fun b => propext (hm 2 (by decide) (by decide) b)
    rw [e]
    exact h2.kept kk (hd 2 (by decide) (by decide))
/-- The row c0 has grown. -/
theorem PrX.grew_c0 (h : PrX col w0 w g f0 p1 wA wc ks a0 a1 b0 b1 P) {wF : World} (fa : Fine w wF) {v3 : SlV} {xs : List Int} (kB : Kept (fun y => b0.val.ownBlock = some y) wF wB) (oB : Own LB 5 wB 0 v3.val (P.c0 ++ xs))
    (bB : v3.val.ownBlock = b0.val.ownBlock ∨ v3.val.ownBlock = some wF.heap.size) : PrOf col w0 g { P with c0 := P.c0 ++ xs } w (wB.setCell ⟨g, 5, none⟩ v3.val) := by
  have h1 := h.fine_ fa
  have k4 : Kept (fun b => col b = 7) wF wB := kB.mono (fun y _ e => h.c2 y e)
  have k2 : Kept (fun b => col b = 9) wB (wB.setCell ⟨g, 5, none⟩ v3.val) := (Kept.refl (fun b => col b = 9) wB).setIn (p := ⟨g, 5, none⟩) h.cg _
  have kk : Kept (fun b => col b = 7 ∨ col b = 9) wF (wB.setCell ⟨g, 5, none⟩ v3.val) := (k4.mono (fun y _ e => Or.inl e)).trans (k2.mono (fun y _ e => Or.inr e))
  have k0 : Kept (fun b => col b = 7 ∨ col b = 9) w (wB.setCell ⟨g, 5, none⟩ v3.val) := (Kept.of_fine fa).trans kk
  have hbB : Blk wB g 77 #[.pointer (some ⟨f0, 0, none⟩), .pointer (p1.map fun f => ⟨f, 0, none⟩), .slice wA ks.length wc, a0.val, a1.val, b0.val, b1.val, .int .i64 P.tick] := h1.box.kept k4 (fun e => by have e : col g = 7 := e; rw [h.cg] at e; cases e)
  have hd : ∀ m : Nat, m ≠ 7 → m ≠ 9 → ∀ b, col b = m → ¬ (col b = 7 ∨ col b = 9) := fun m h4 h9 b e o => o.elim (fun o => h4 (e.symm.trans o)) (fun o => h9 (e.symm.trans o))
  obtain ⟨col', hc⟩ : ∃ z : Nat → Nat, z = fun b => if col b = 0 ∧ v3.val.ownBlock = some b then 7 else col b := ⟨_, rfl⟩
  have hsame : ∀ b, col b ≠ 0 → col' b = col b := fun b hb => by rw [hc]; exact if_neg (fun e => hb e.1)
  have hm : ∀ m : Nat, m ≠ 0 → m ≠ 7 → ∀ b, col' b = m ↔ col b = m := fun m h0 h4 b => by
    rw [hc]
    show (if _ then 7 else col b) = m ↔ _
    split
    · rename_i e; rw [e.1]; exact ⟨fun e => absurd e.symm h4, fun e => absurd e.symm h0⟩
    · exact Iff.rfl
  have hnew : ∀ b, col' b ≠ 0 → col b ≠ 0 ∨ wF.heap.size ≤ b ∧ b < wB.heap.size := fun b hb => by
    rw [hc] at hb
    replace hb : (if col b = 0 ∧ v3.val.ownBlock = some b then 7 else col b) ≠ 0 := hb
    split at hb
    · rename_i e
      rcases bB with e2 | e2
      · have := h.c2 b (e2 ▸ e.2); rw [e.1] at this; cases this
      · refine .inr ⟨?_, (oB.lt b e.2).2⟩
        rw [e2] at e
        have := e.2; injection this with this; omega
    · exact .inl hb
  have hown : ∀ b, v3.val.ownBlock = some b → col' b = 7 := fun b e => by
    by_cases h0 : col b = 0
    · rw [hc]; exact if_pos ⟨h0, e⟩
    · rcases bB with e2 | e2
      · rw [hsame b h0]; exact h.c2 b (e2 ▸ e)
      · rw [e2] at e; injection e with e
        have := (h1.base b h0).2; omega
  have hgn : ∀ b, v3.val.ownBlock = some b → ¬ col b = 9 := fun b e o => by
    have := hown b e; rw [hsame b (by rw [o]; decide), o] at this; cases this
  refine ⟨col', ⟨f0, p1, wA, wc, ks, a0, a1, v3, b1, h1.fine.kept kk (fun x hx e => by rcases e with e | e <;> (have := (h1.base x (by rw [e]; decide)).1; omega)), fun b hb => ?_, (hm 9 (by decide) (by decide) g).2 h.cg, (hbB.set_ 5 _).cast (by simp), ?_, fun T e => ?_, h.no1, h1.way.kept kk (fun b e => hd 4 (by decide) (by decide) b (h.cway b e)), fun b e => (hm 4 (by decide) (by decide) b).2 (h.cway b e), fun x hx => ((h1.dat x hx).kept kk (hd 3 (by decide) (by decide))).less (fun b hb => (hm 3 (by decide) (by decide) b).2 hb), h.wpl, h1.r0.kept kk (fun b e => hd 5 (by decide) (by decide) b (h.c0 b e)), fun b e => (hm 5 (by decide) (by decide) b).2 (h.c0 b e), h1.r1.kept kk (fun b e => hd 6 (by decide) (by decide) b (h.c1 b e)), fun b e => (hm 6 (by decide) (by decide) b).2 (h.c1 b e), oB.kept k2 hgn, hown, h1.r3.kept kk (fun b e => hd 8 (by decide) (by decide) b (h.c3 b e)), fun b e => (hm 8 (by decide) (by decide) b).2 (h.c3 b e)⟩, k0.mono (fun y _ e => by show col y ≠ 0; rcases e with e | e <;> (rw [e]; decide)), fun b hb => (hnew b hb).imp id (fun h => Nat.le_trans fa.size h.1)⟩
  · rcases hnew b hb with e | e
    · exact ⟨(h1.base b e).1, Nat.lt_of_lt_of_le (h1.base b e).2 kk.size⟩
    · exact ⟨Nat.le_trans h1.fine.size e.1, Nat.lt_of_lt_of_le e.2 k2.size⟩
  · have e : (fun b => col' b = 1) = (fun b => col b = 1) := funext fun b => propext (hm 1 (by decide) (by decide) b)
    rw [e]
    exact h1.fl0.kept kk (hd 1 (by decide) (by decide))
  · obtain ⟨f1, e1, h2⟩ := h1.fl1 T e
    refine ⟨f1, e1, ?_⟩
    have e : (fun b => col' b = 2) = (fun b => col b = 2) := funext fun b => propext (hm 2 (by decide) (by decide) b)
    rw [e]
    exact h2.kept kk (hd 2 (by decide) (by decide))
/-- The row c1 has grown. -/
theorem PrX.grew_c1 (h : PrX col w0 w g f0 p1 wA wc ks a0 a1 b0 b1 P) {wF : World} (fa : Fine w wF) {v3 : SlV} {xs : List Int} (kB : Kept (fun y => b1.val.ownBlock = some y) wF wB) (oB : Own LB 5 wB 0 v3.val (P.c1 ++ xs))
    (bB : v3.val.ownBlock = b1.val.ownBlock ∨ v3.val.ownBlock = some wF.heap.size) : PrOf col w0 g { P with c1 := P.c1 ++ xs } w (wB.setCell ⟨g, 6, none⟩ v3.val) := by
  have h1 := h.fine_ fa
  have k4 : Kept (fun b => col b = 8) wF wB := kB.mono (fun y _ e => h.c3 y e)
  have k2 : Kept (fun b => col b = 9) wB (wB.setCell ⟨g, 6, none⟩ v3.val) := (Kept.refl (fun b => col b = 9) wB).setIn (p := ⟨g, 6, none⟩) h.cg _
  have kk : Kept (fun b => col b = 8 ∨ col b = 9) wF (wB.setCell ⟨g, 6, none⟩ v3.val) := (k4.mono (fun y _ e => Or.inl e)).trans (k2.mono (fun y _ e => Or.inr e))
  have k0 : Kept (fun b => col b = 8 ∨ col b = 9) w (wB.setCell ⟨g, 6, none⟩ v3.val) := (Kept.of_fine fa).trans kk
  have hbB : Blk wB g 77 #[.pointer (some ⟨f0, 0, none⟩), .pointer (p1.map fun f => ⟨f, 0, none⟩), .slice wA ks.length wc, a0.val, a1.val, b0.val, b1.val, .int .i64 P.tick] := h1.box.kept k4 (fun e => by have e : col g = 8 := e; rw [h.cg] at e; cases e)
  have hd : ∀ m : Nat, m ≠ 8 → m ≠ 9 → ∀ b, col b = m → ¬ (col b = 8 ∨ col b = 9) := fun m h4 h9 b e o => o.elim (fun o => h4 (e.symm.trans o)) (fun o => h9 (e.symm.trans o))
  obtain ⟨col', hc⟩ : ∃ z : Nat → Nat, z = fun b => if col b = 0 ∧ v3.val.ownBlock = some b then 8 else col b := ⟨_, rfl⟩
  have hsame : ∀ b, col b ≠ 0 → col' b = col b := fun b hb => by rw [hc]; exact if_neg (fun e => hb e.1)
  have hm : ∀ m : Nat, m ≠ 0 → m ≠ 8 → ∀ b, col' b = m ↔ col b = m := fun m h0 h4 b => by
    rw [hc]
    show (if _ then 8 else col b) = m ↔ _
    split
    · rename_i e; rw [e.1]; exact ⟨fun e => absurd e.symm h4, fun e => absurd e.symm h0⟩
    · exact Iff.rfl
  have hnew : ∀ b, col' b ≠ 0 → col b ≠ 0 ∨ wF.heap.size ≤ b ∧ b < wB.heap.size := fun b hb => by
    rw [hc] at hb
    replace hb : (if col b = 0 ∧ v3.val.ownBlock = some b then 8 else col b) ≠ 0 := hb
    split at hb
    · rename_i e
      rcases bB with e2 | e2
      · have := h.c3 b (e2 ▸ e.2); rw [e.1] at this; cases this
      · refine .inr ⟨?_, (oB.lt b e.2).2⟩
        rw [e2] at e
        have := e.2; injection this with this; omega
    · exact .inl hb
  have hown : ∀ b, v3.val.ownBlock = some b → col' b = 8 := fun b e => by
    by_cases h0 : col b = 0
    · rw [hc]; exact if_pos ⟨h0, e⟩
    · rcases bB with e2 | e2
      · rw [hsame b h0]; exact h.c3 b (e2 ▸ e)
      · rw [e2] at e; injection e with e
        have := (h1.base b h0).2; omega
  have hgn : ∀ b, v3.val.ownBlock = some b → ¬ col b = 9 := fun b e o => by
    have := hown b e; rw [hsame b (by rw [o]; decide), o] at this; cases this
  refine ⟨col', ⟨f0, p1, wA, wc, ks, a0, a1, b0, v3, h1.fine.kept kk (fun x hx e => by rcases e with e | e <;> (have := (h1.base x (by rw [e]; decide)).1; omega)), fun b hb => ?_, (hm 9 (by decide) (by decide) g).2 h.cg, (hbB.set_ 6 _).cast (by simp), ?_, fun T e => ?_, h.no1, h1.way.kept kk (fun b e => hd 4 (by decide) (by decide) b (h.cway b e)), fun b e => (hm 4 (by decide) (by decide) b).2 (h.cway b e), fun x hx => ((h1.dat x hx).kept kk (hd 3 (by decide) (by decide))).less (fun b hb => (hm 3 (by decide) (by decide) b).2 hb), h.wpl, h1.r0.kept kk (fun b e => hd 5 (by decide) (by decide) b (h.c0 b e)), fun b e => (hm 5 (by decide) (by decide) b).2 (h.c0 b e), h1.r1.kept kk (fun b e => hd 6 (by decide) (by decide) b (h.c1 b e)), fun b e => (hm 6 (by decide) (by decide) b).2 (h.c1 b e), h1.r2.kept kk (fun b e => hd 7 (by decide) (by decide) b (h.c2 b e)), fun b e => (hm 7 (by decide) (by decide) b).2 (h.c2 b e), oB.kept k2 hgn, hown⟩, k0.mono (fun y _ e => by show col y ≠ 0; rcases e with e | e <;> (rw [e]; decide)), fun b hb => (hnew b hb).imp id (fun h => Nat.le_trans fa.size h.1)⟩
  · rcases hnew b hb with e | e
    · exact ⟨(h1.base b e).1, Nat.lt_of_lt_of_le (h1.base b e).2 kk.size⟩
    · exact ⟨Nat.le_trans h1.fine.size e.1, Nat.lt_of_lt_of_le e.2 k2.size⟩
  · have e : (fun b => col' b = 1) = (fun b => col b = 1) := funext fun b => propext (hm 1 (by decide) (by decide) b)
    rw [e]
    exact h1.fl0.kept kk (hd 1 (by decide) (by decide))
  · obtain ⟨f1, e1, h2⟩ := h1.fl1 T e
    refine ⟨f1, e1, ?_⟩
    have e : (fun b => col' b = 2) = (fun b => col b = 2) := funext fun b => propext (hm 2 (by decide) (by decide) b)
    rw [e]
    exact h2.kept kk (hd 2 (by decide) (by decide))
end
end Go.Proofs.Ytjldgialhgfhmaa
namespace Go.Proofs.Ytjldgialhgfhmaa
set_option linter.unusedVariables false
set_option linter.unusedSimpArgs false
open Go.ChangeShapes Go.WideShapes Go.ChangeAt Go.RowKit Go.Maps
set_option linter.unusedVariables false
set_option linter.unusedSimpArgs false
section
variable {col : Nat → Nat} {w0 w w' wB : World} {g f0 : Nat} {p1 : Option Nat} {wA : Option Addr} {wc : Nat} {ks : List Rk} {a0 a1 b0 b1 : SlV} {P : Pr}
theorem PrX.born (h : PrX col w0 w g f0 p1 wA wc ks a0 a1 b0 b1 P) {F : Nat → Prop} {f : Nat} {S : Fl} (hS : FlS F w' f S) (hF : ∀ b, F b → w.heap.size ≤ b) (fa : Fine w w') : PrOf col w0 g { P with f1 := some S } w (w'.setCell ⟨g, 1, none⟩ (.pointer (some ⟨f, 0, none⟩))) := by
  have h1 := h.fine_ fa
  have k2 : Kept (fun b => col b = 9) w' (w'.setCell ⟨g, 1, none⟩ (.pointer (some ⟨f, 0, none⟩))) := (Kept.refl (fun b => col b = 9) w').setIn (p := ⟨g, 1, none⟩) h.cg _
  have k0 : Kept (fun b => col b = 9) w (w'.setCell ⟨g, 1, none⟩ (.pointer (some ⟨f, 0, none⟩))) := (Kept.of_fine fa).trans k2
  have hz : ∀ b, F b → col b = 0 := fun b hb => Classical.byContradiction fun e => by have := (h.base b e).2; have := hF b hb; omega
  have hin : ∀ b, recol col 2 F b = 2 ↔ F b := fun b => recol_in (by decide)
  have ho : ∀ m : Nat, m ≠ 2 → m ≠ 0 → ∀ b, recol col 2 F b = m ↔ col b = m := fun m a c b => recol_out a (fun b hb => .inr (hz b hb)) c
  have hd : ∀ m : Nat, m ≠ 9 → ∀ b, col b = m → ¬ col b = 9 := fun m hm b e e2 => hm (e.symm.trans e2)
  have hs : ∀ b, recol col 2 F b ≠ 0 → F b ∨ col b ≠ 0 := fun b hb => by
    unfold recol at hb
    split at hb
    · rename_i e; exact .inl e
    · split at hb
      · exact absurd rfl hb
      · exact .inr hb
  refine ⟨recol col 2 F, ⟨f0, some f, wA, wc, ks, a0, a1, b0, b1, h1.fine.kept k2 (fun x hx e => by have := (h1.base x (by rw [e]; decide)).1; omega), fun b hb => ?_, (ho 9 (by decide) (by decide) g).2 h.cg, (h1.box.set_ 1 _).cast (by simp), ?_, fun T e => ?_, fun e => (by cases e), h1.way.kept k2 (fun b e => hd 4 (by decide) b (h.cway b e)), fun b e => (ho 4 (by decide) (by decide) b).2 (h.cway b e), fun x hx => ((h1.dat x hx).kept k2 (hd 3 (by decide))).less (fun b hb => (ho 3 (by decide) (by decide) b).2 hb), h.wpl, h1.r0.kept k2 (fun b e => hd 5 (by decide) b (h.c0 b e)), fun b e => (ho 5 (by decide) (by decide) b).2 (h.c0 b e), h1.r1.kept k2 (fun b e => hd 6 (by decide) b (h.c1 b e)), fun b e => (ho 6 (by decide) (by decide) b).2 (h.c1 b e), h1.r2.kept k2 (fun b e => hd 7 (by decide) b (h.c2 b e)), fun b e => (ho 7 (by decide) (by decide) b).2 (h.c2 b e), h1.r3.kept k2 (fun b e => hd 8 (by decide) b (h.c3 b e)), fun b e => (ho 8 (by decide) (by decide) b).2 (h.c3 b e)⟩, k0.mono (fun y _ e => by show col y ≠ 0; have e : col y = 9 := e; rw [e]; decide), fun b hb => (hs b hb).elim (fun e => .inr (hF b e)) .inl⟩
  · rcases hs b hb with e | e
    · exact ⟨Nat.le_trans h.fine.size (hF b e), Nat.lt_of_lt_of_le (hS.lt b e) k2.size⟩
    · exact ⟨(h1.base b e).1, Nat.lt_of_lt_of_le (h1.base b e).2 k2.size⟩
  · have e : (fun b => recol col 2 F b = 1) = (fun b => col b = 1) := funext fun b => propext (ho 1 (by decide) (by decide) b)
    rw [e]
    exact h1.fl0.kept k2 (hd 1 (by decide))
  · injection e with e
    subst e
    refine ⟨f, rfl, ?_⟩
    have e : (fun b => recol col 2 F b = 2) = F := funext fun b => propext (hin b)
    rw [e]
    exact hS.kept k2 (fun b hb e => by have := hz b hb; rw [this] at e; cases e)
/-- What a heard packet leaves: the pair, the packet's data still there. -/
def CameOf (col : Nat → Nat) (w0 : World) (g : Nat) (P' : Pr) (s : Sg) (w w' : World) : Prop := ∃ col', PrS col' w0 w' g P' ∧ IsG w' (fun b => col' b = 3) s ∧ Kept (fun b => col b ≠ 0) w w' ∧ ∀ b, col' b ≠ 0 → col b ≠ 0 ∨ w.heap.size ≤ b
theorem CameOf.of {P' : Pr} {s : Sg} (h : CameOf col w0 g P' s w w') : PrOf col w0 g P' w w' := by
  obtain ⟨c1, j1, j2, j3, j4⟩ := h
  exact ⟨c1, j1, j3, j4⟩
theorem CameOf.fine_ {P' : Pr} {s : Sg} (h : CameOf col w0 g P' s w w') (f : Fine w' wB) : CameOf col w0 g P' s w wB := by
  obtain ⟨c1, j1, j2, j3, j4⟩ := h
  exact ⟨c1, j1.fine_ f, j2.fine f, j3.trans (Kept.of_fine f), j4⟩
/-- The first flow hears. -/
theorem PrX.hears0 (h : PrX col w0 w g f0 p1 wA wc ks a0 a1 b0 b1 P) (ht : 0 ≤ P.tick ∧ P.tick ≤ 1099511627776) (hok : P.f0.Ok) (hs : -1099511627776 ≤ P.f0.since ∧ P.f0.since ≤ 1099511627776) {s : Sg} (hk : IsG w (fun b => col b = 3) s) (wx : World) (fx : Fine w wx) :
    Calls Try.prog 55 #[.pointer (some ⟨f0, 0, none⟩), .agg s.cells.toArray, .int .i64 P.tick] wx fun e w' => HeardV (P.f0.hear s.sm P.tick).2 e ∧ CameOf col w0 g { P with f0 := (P.f0.hear s.sm P.tick).1 } s w w' ∧ Kept (fun b => col b = 1) wx w' := by
  have hx := h.fine_ fx
  refine (hear_any P.tick ht hok hs s hk.n hk.le hk.rst hx.fl0).mono ?_
  rintro e w' ⟨h1, h2⟩
  obtain ⟨c1, k1, k2, k3, k4⟩ := hx.flow0 h2
  refine ⟨h1, ⟨c1, k1, ((hk.fine fx).kept k2 (fun b hb e => by have e : col b = 1 := e; have hb : col b = 3 := hb; rw [hb] at e; cases e)).less k4, (Kept.of_fine fx).trans (k2.mono (fun y _ e => by show col y ≠ 0; have e : col y = 1 := e; rw [e]; decide)), fun b hb => (k3 b hb).imp id (fun h => Nat.le_trans fx.size h)⟩, k2⟩
/-- The second one. -/
theorem PrX.hears1 (h : PrX col w0 w g f0 p1 wA wc ks a0 a1 b0 b1 P) {f1 : Nat} {S : Fl} (hp : p1 = some f1) (hS : P.f1 = some S) (ht : 0 ≤ P.tick ∧ P.tick ≤ 1099511627776) (hok : S.Ok) (hs : -1099511627776 ≤ S.since ∧ S.since ≤ 1099511627776) {s : Sg} (hk : IsG w (fun b => col b = 3) s) (wx : World) (fx : Fine w wx) :
    Calls Try.prog 55 #[.pointer (some ⟨f1, 0, none⟩), .agg s.cells.toArray, .int .i64 P.tick] wx fun e w' => HeardV (S.hear s.sm P.tick).2 e ∧ CameOf col w0 g { P with f1 := some (S.hear s.sm P.tick).1 } s w w' ∧ Kept (fun b => col b = 2) wx w' := by
  have hx := h.fine_ fx
  have hfl : FlS (fun b => col b = 2) wx f1 S := by
    obtain ⟨f, e, hh⟩ := hx.fl1 S hS
    rw [hp] at e; injection e with e; subst e; exact hh
  refine (hear_any P.tick ht hok hs s hk.n hk.le hk.rst hfl).mono ?_
  rintro e w' ⟨h1, h2⟩
  obtain ⟨c1, k1, k2, k3, k4⟩ := hx.flow1 hp h2
  refine ⟨h1, ⟨c1, k1, ((hk.fine fx).kept k2 (fun b hb e => by have e : col b = 2 := e; have hb : col b = 3 := hb; rw [hb] at e; cases e)).less k4, (Kept.of_fine fx).trans (k2.mono (fun y _ e => by show col y ≠ 0; have e : col y = 2 := e; rw [e]; decide)), fun b hb => (k3 b hb).imp id (fun h => Nat.le_trans fx.size h)⟩, k2⟩
end
end Go.Proofs.Ytjldgialhgfhmaa
namespace Go.Proofs.Ytjldgialhgfhmaa
set_option linter.unusedVariables false
set_option linter.unusedSimpArgs false
open Go.ChangeShapes Go.WideShapes Go.ChangeAt Go.RowKit Go.Maps
set_option linter.unusedVariables false
set_option linter.unusedSimpArgs false
section
variable {col c1 : Nat → Nat} {w0 w w' w1 w2 wm wB : World} {g f0 x : Nat} {p1 : Option Nat} {wA : Option Addr} {wc : Nat} {ks : List Rk} {a0 a1 b0 b1 : SlV} {P P' : Pr} {s : Sg}
theorem size_drew_alloc (w : World) (o : Obj) : (w.drew.alloc o).heap.size = w.heap.size + 1 := by
  show (w.drew.alloc o).heap.size = w.drew.heap.size + 1
  simp
theorem PrOf.made (h : PrOf col w0 g P' wm w') (f : Fine w wm) : PrOf col w0 g P' w w' := by
  obtain ⟨c1, j1, j3, j4⟩ := h
  exact ⟨c1, j1, (Kept.of_fine f).trans j3, fun b hb => (j4 b hb).imp id (fun e => Nat.le_trans f.size e)⟩
theorem CameOf.made (h : CameOf col w0 g P' s wm w') (f : Fine w wm) : CameOf col w0 g P' s w w' := by
  obtain ⟨c1, j1, j2, j3, j4⟩ := h
  exact ⟨c1, j1, j2, (Kept.of_fine f).trans j3, fun b hb => (j4 b hb).imp id (fun e => Nat.le_trans f.size e)⟩
/-- A block that is nobody's has turned. -/
theorem CameOf.turned (h : CameOf col w0 g P' s wm w') (f : Fine w wm) (h0 : w0.heap.size ≤ x) (hx : w.heap.size ≤ x) (hl : x < wm.heap.size) (hc : col x = 0) (k : Kept (fun y => y = x) w' wB) : CameOf col w0 g P' s w wB := by
  obtain ⟨c1, ⟨f0, p1, wA, wc, ks, a0, a1, b0, b1, X⟩, j2, j3, j4⟩ := h
  have hx1 : c1 x = 0 := Classical.byContradiction fun e => (j4 x e).elim (fun e2 => e2 hc) (fun e2 => by omega)
  have hS : ∀ b, b = x → c1 b = 0 := fun b e => by rw [e]; exact hx1
  refine ⟨c1, ⟨f0, p1, wA, wc, ks, a0, a1, b0, b1, X.kept k hS (X.fine.kept k (fun y hy e => by have e : y = x := e; omega))⟩, j2.kept k (fun b hb e => by have e := hS b e; have hb : c1 b = 3 := hb; rw [e] at hb; cases hb), ?_, fun b hb => (j4 b hb).imp id (fun e => Nat.le_trans f.size e)⟩
  exact ((Kept.of_fine f).trans j3).transG k (fun _ _ h => h) (fun y hy e => by have e : y = x := e; omega)
theorem PrOf.after (j2 : Kept (fun b => col b ≠ 0) w w1) (j3 : ∀ b, c1 b ≠ 0 → col b ≠ 0 ∨ w.heap.size ≤ b) (h : PrOf c1 w0 g P' w1 w2) : PrOf col w0 g P' w w2 := by
  obtain ⟨c2, k1, k2, k3⟩ := h
  refine ⟨c2, k1, j2.transG k2 (fun _ _ h => h) (fun y hy h => (j3 y h).elim id (fun h => by omega)), fun b hb => ?_⟩
  rcases k3 b hb with h | h
  · exact j3 b h
  · exact .inr (Nat.le_trans j2.size h)
end
end Go.Proofs.Ytjldgialhgfhmaa
