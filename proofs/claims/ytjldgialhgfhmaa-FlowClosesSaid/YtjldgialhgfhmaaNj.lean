/- Two flows as they lie in memory. The laws of two flows: bytes, segment, begins. The laws of two flows: bytes. Two flows: what one sends, laid on the way. Two flows: what both have sent goes on the way. -/
import Derived.Test.YtjldgialhgfhmaaXFlow19
import Derived.Test.YtjldgialhgfhmaaXFlow10
import Derived.Test.YtjldgialhgfhmaaXPairM
import Derived.Test.YtjldgialhgfhmaaNc
import Derived.Deep.Cut
import Derived.Deep.CutBlock
import Derived.Deep.RegionLaw
namespace Go.Proofs.Ytjldgialhgfhmaa
set_option linter.unusedVariables false
set_option linter.unusedSimpArgs false
open Go.ChangeShapes Go.WideShapes Go.ChangeAt Go.RowKit Go.Maps
set_option linter.unusedVariables false
set_option linter.unusedSimpArgs false
/-- A packet: its cells. -/
structure Rk where
  tb : Bool
  sg : Sg
abbrev toN (b : Bool) : Int := if b = true then 1 else 0
abbrev Rk.cells (k : Rk) : List Value := .int .i64 (toN k.tb) :: k.sg.cells
def layK : Lay Rk 14 := { cs := Rk.cells, len := fun _ => rfl, one := fun x u hu => by simp [Rk.cells] at hu; rcases hu with rfl | rfl | rfl | rfl | rfl | rfl | rfl | rfl | rfl | rfl | rfl | rfl | rfl | rfl <;> rfl, pos := by decide }
abbrev zeroSg : Value := .agg #[.int .i64 0, .int .i64 0, .int .i64 0, .int .i64 0, .int .i64 0, .int .u32 0, .int .u32 0, .bool false, .bool false, .bool false, .bool false, .int .i64 0, .slice none 0 0, .slice none 0 0]
theorem sliceK : SliceTy Try.prog 74 114 14 112 := SliceTy.mk' Try.underlying74 (z := zeroSg) (by kernel_rfl) rfl
def Sg.sm (s : Sg) : Sm := ⟨s.seq, s.ack, s.syn, s.acks, s.fin, s.xs⟩
def Rk.pl (k : Rk) : Bool × Sm := (k.tb, k.sg.sm)
/-- A segment whose data are there. -/
structure IsG (w : World) (v : Nat → Prop) (s : Sg) : Prop where
  n : s.dl = s.xs.length
  rst : s.rst = false
  le : s.dl ≤ 1000
  rs : RS LB w s.dA s.dc s.xs
  at_ : ∀ b o, s.dA = some ⟨b, o, none⟩ → 0 < s.xs.length → v b
section
variable {w w' : World} {v v' S : Nat → Prop} {s : Sg}
theorem IsG.kept (h : IsG w v s) (hf : Kept S w w') (hv : ∀ b, v b → ¬ S b) : IsG w' v s := ⟨h.n, h.rst, h.le, h.rs.keptP hf (fun b o e z => hv b (h.at_ b o e z)), h.at_⟩
theorem IsG.fine (h : IsG w v s) (hf : Fine w w') : IsG w' v s := ⟨h.n, h.rst, h.le, h.rs.fine hf, h.at_⟩
theorem IsG.less (h : IsG w v s) (hv : ∀ b, v b → v' b) : IsG w v' s := ⟨h.n, h.rst, h.le, h.rs, fun b o e z => hv b (h.at_ b o e z)⟩
end
/-- Two flows at g: which blocks are whose (1, 2: the flows'; 3: data on their way; 4: the way's row; 5 .. 8: the rows of bytes; 9: the pair's own). -/
structure PrX (col : Nat → Nat) (w0 w : World) (g f0 : Nat) (p1 : Option Nat) (wA : Option Addr) (wc : Nat) (ks : List Rk) (a0 a1 b0 b1 : SlV) (P : Pr) : Prop where
  fine : Fine w0 w
  base : ∀ b, col b ≠ 0 → w0.heap.size ≤ b ∧ b < w.heap.size
  cg : col g = 9
  box : Blk w g 77 #[.pointer (some ⟨f0, 0, none⟩), .pointer (p1.map fun f => ⟨f, 0, none⟩), .slice wA ks.length wc, a0.val, a1.val, b0.val, b1.val, .int .i64 P.tick]
  fl0 : FlS (fun b => col b = 1) w f0 P.f0
  fl1 : ∀ T, P.f1 = some T → ∃ f1, p1 = some f1 ∧ FlS (fun b => col b = 2) w f1 T
  no1 : P.f1 = none → p1 = none
  way : Own layK 114 w 0 (.slice wA ks.length wc) ks
  cway : ∀ b, (Value.slice wA ks.length wc).ownBlock = some b → col b = 4
  dat : ∀ k ∈ ks, IsG w (fun b => col b = 3) k.sg
  wpl : P.way = ks.map Rk.pl
  r0 : Own LB 5 w 0 a0.val P.s0
  c0 : ∀ b, a0.val.ownBlock = some b → col b = 5
  r1 : Own LB 5 w 0 a1.val P.s1
  c1 : ∀ b, a1.val.ownBlock = some b → col b = 6
  r2 : Own LB 5 w 0 b0.val P.c0
  c2 : ∀ b, b0.val.ownBlock = some b → col b = 7
  r3 : Own LB 5 w 0 b1.val P.c1
  c3 : ∀ b, b1.val.ownBlock = some b → col b = 8
def PrS (col : Nat → Nat) (w0 w : World) (g : Nat) (P : Pr) : Prop := ∃ f0 p1 wA wc ks a0 a1 b0 b1, PrX col w0 w g f0 p1 wA wc ks a0 a1 b0 b1 P
/-- What a call leaves of it. -/
def PrOf (col : Nat → Nat) (w0 : World) (g : Nat) (P' : Pr) (w w' : World) : Prop := ∃ col', PrS col' w0 w' g P' ∧ Kept (fun b => col b ≠ 0) w w' ∧ ∀ b, col' b ≠ 0 → col b ≠ 0 ∨ w.heap.size ≤ b
section
variable {col : Nat → Nat} {w0 w w' w1 w2 : World} {g f0 : Nat} {p1 : Option Nat} {wA : Option Addr} {wc : Nat} {ks : List Rk} {a0 a1 b0 b1 : SlV} {P P' : Pr}
/-- What others have turned. -/
theorem PrX.kept {S : Nat → Prop} (h : PrX col w0 w g f0 p1 wA wc ks a0 a1 b0 b1 P) (k : Kept S w w') (hS : ∀ b, S b → col b = 0) (hf : Fine w0 w') : PrX col w0 w' g f0 p1 wA wc ks a0 a1 b0 b1 P := by
  have hd : ∀ n : Nat, n ≠ 0 → ∀ b, col b = n → ¬ S b := fun n hn b e hs => hn (e.symm.trans (hS b hs))
  exact ⟨hf, fun b hb => ⟨(h.base b hb).1, Nat.lt_of_lt_of_le (h.base b hb).2 k.size⟩, h.cg, h.box.kept k (hd 9 (by decide) g h.cg), h.fl0.kept k (hd 1 (by decide)), fun T e => by
    obtain ⟨f1, e1, h1⟩ := h.fl1 T e
    exact ⟨f1, e1, h1.kept k (hd 2 (by decide))⟩, h.no1, h.way.kept k (fun b e => hd 4 (by decide) b (h.cway b e)), h.cway, fun x hx => (h.dat x hx).kept k (hd 3 (by decide)), h.wpl, h.r0.kept k (fun b e => hd 5 (by decide) b (h.c0 b e)), h.c0, h.r1.kept k (fun b e => hd 6 (by decide) b (h.c1 b e)), h.c1, h.r2.kept k (fun b e => hd 7 (by decide) b (h.c2 b e)), h.c2, h.r3.kept k (fun b e => hd 8 (by decide) b (h.c3 b e)), h.c3⟩
theorem PrX.fine_ (h : PrX col w0 w g f0 p1 wA wc ks a0 a1 b0 b1 P) (k : Fine w w') : PrX col w0 w' g f0 p1 wA wc ks a0 a1 b0 b1 P := h.kept (S := fun _ => False) (Kept.of_fine k) (fun _ h => h.elim) (h.fine.trans k)
theorem PrS.fine_ (h : PrS col w0 w g P) (k : Fine w w') : PrS col w0 w' g P := by
  obtain ⟨f0, p1, wA, wc, ks, a0, a1, b0, b1, hX⟩ := h
  exact ⟨f0, p1, wA, wc, ks, a0, a1, b0, b1, hX.fine_ k⟩
theorem PrOf.self (h : PrS col w0 w g P) (k : Fine w w') : PrOf col w0 g P w w' := ⟨col, h.fine_ k, Kept.of_fine k, fun b hb => .inl hb⟩
theorem PrOf.fine_ (h : PrOf col w0 g P w w1) (k : Fine w1 w2) : PrOf col w0 g P w w2 := by
  obtain ⟨c1, j1, j2, j3⟩ := h
  exact ⟨c1, j1.fine_ k, j2.trans (Kept.of_fine k), j3⟩
/-- First the one, then the other. -/
theorem PrOf.then_ (h : PrOf col w0 g P w w1) (h2 : ∀ c1, PrS c1 w0 w1 g P → PrOf c1 w0 g P' w1 w2) : PrOf col w0 g P' w w2 := by
  obtain ⟨c1, j1, j2, j3⟩ := h
  obtain ⟨c2, k1, k2, k3⟩ := h2 c1 j1
  refine ⟨c2, k1, j2.transG k2 (fun _ _ h => h) (fun y hy h => (j3 y h).elim id (fun h => by omega)), fun b hb => ?_⟩
  rcases k3 b hb with h | h
  · exact j3 b h
  · exact .inr (Nat.le_trans j2.size h)
theorem PrOf.callK {Z : Ending → World → Prop} (h : PrOf col w0 g P w w1) {f : FuncId} {args : Array Value} (hc : ∀ c1, PrS c1 w0 w1 g P → Calls Try.prog f args w1 fun e w2 => Z e w2 ∧ PrOf c1 w0 g P' w1 w2) : Calls Try.prog f args w1 fun e w2 => Z e w2 ∧ PrOf col w0 g P' w w2 := by
  obtain ⟨c1, j1, j2, j3⟩ := h
  refine (hc c1 j1).mono ?_
  rintro e w2 ⟨hz, c2, k1, k2, k3⟩
  refine ⟨hz, c2, k1, j2.transG k2 (fun _ _ h => h) (fun y hy h => (j3 y h).elim id (fun h => by omega)), fun b hb => ?_⟩
  rcases k3 b hb with h | h
  · exact j3 b h
  · exact .inr (Nat.le_trans j2.size h)
/-! A flow has moved. -/
open Classical in
noncomputable def recol (col : Nat → Nat) (n : Nat) (F' : Nat → Prop) : Nat → Nat := fun b => if F' b then n else if col b = n then 0 else col b
theorem recol_in {n : Nat} {F' : Nat → Prop} (h0 : n ≠ 0) {b : Nat} : recol col n F' b = n ↔ F' b := by
  unfold recol
  split
  · rename_i h; exact ⟨fun _ => h, fun _ => rfl⟩
  · rename_i h
    split
    · exact ⟨fun e => absurd e.symm h0, fun g => absurd g h⟩
    · rename_i h2; exact ⟨fun e => absurd e h2, fun g => absurd g h⟩
theorem recol_out {n m : Nat} {F' : Nat → Prop} (hm : m ≠ n) (hF : ∀ b, F' b → col b = n ∨ col b = 0) (h0 : m ≠ 0) {b : Nat} : recol col n F' b = m ↔ col b = m := by
  unfold recol
  split
  · rename_i h
    refine ⟨fun e => absurd e.symm hm, fun e => ?_⟩
    rcases hF b h with g | g
    · exact absurd (e.symm.trans g) hm
    · exact absurd (e.symm.trans g) h0
  · split
    · rename_i h2
      exact ⟨fun e => absurd e.symm h0, fun e => absurd (e.symm.trans h2) hm⟩
    · exact Iff.rfl
theorem PrX.moved {n : Nat} (h0 : n ≠ 0) (h : PrX col w0 w g f0 p1 wA wc ks a0 a1 b0 b1 P) {F' : Nat → Prop} (k : Kept (fun b => col b = n) w w') (hF : ∀ b, F' b → col b = n ∨ w.heap.size ≤ b) (hl : ∀ b, F' b → b < w'.heap.size) :
    Fine w0 w' ∧ (∀ b, recol col n F' b ≠ 0 → w0.heap.size ≤ b ∧ b < w'.heap.size) ∧ (∀ b, F' b → col b = n ∨ col b = 0) ∧ ∀ b, recol col n F' b ≠ 0 → col b ≠ 0 ∨ w.heap.size ≤ b := by
  have h1 : ∀ b, w.heap.size ≤ b → col b = 0 := fun b hb => Classical.byContradiction fun e => by have := (h.base b e).2; omega
  have hs := h.fine.size
  refine ⟨h.fine.kept k (fun x hx e => by have := (h.base x (by rw [e]; exact h0)).1; omega), fun b hb => ?_, fun b hb => (hF b hb).imp id (h1 b), fun b hb => ?_⟩
  · unfold recol at hb
    split at hb
    · rename_i hf
      refine ⟨?_, hl b hf⟩
      rcases hF b hf with g | g
      · exact (h.base b (by rw [g]; exact h0)).1
      · omega
    · split at hb
      · exact absurd rfl hb
      · exact ⟨(h.base b hb).1, Nat.lt_of_lt_of_le (h.base b hb).2 k.size⟩
  · unfold recol at hb
    split at hb
    · rename_i hf
      exact (hF b hf).imp (fun e => by rw [e]; exact h0) id
    · split at hb
      · exact absurd rfl hb
      · exact .inl hb
/-- The first flow has moved. -/
theorem PrX.flow0 (h : PrX col w0 w g f0 p1 wA wc ks a0 a1 b0 b1 P) {S' : Fl} (hf : FlOf (fun b => col b = 1) f0 S' w w') : ∃ col', PrS col' w0 w' g { P with f0 := S' } ∧ Kept (fun b => col b = 1) w w' ∧ (∀ b, col' b ≠ 0 → col b ≠ 0 ∨ w.heap.size ≤ b) ∧ ∀ b, col b = 3 → col' b = 3 := by
  obtain ⟨F', j1, j2, j3⟩ := hf
  obtain ⟨m1, m2, m3, m4⟩ := h.moved (n := 1) (by decide) j2 j3 j1.lt
  have hin : ∀ b, recol col 1 F' b = 1 ↔ F' b := fun b => recol_in (by decide)
  have ho : ∀ m : Nat, m ≠ 1 → m ≠ 0 → ∀ b, recol col 1 F' b = m ↔ col b = m := fun m a c b => recol_out a m3 c
  have hd : ∀ m : Nat, m ≠ 1 → ∀ b, col b = m → ¬ col b = 1 := fun m hm b e e2 => hm (e.symm.trans e2)
  refine ⟨recol col 1 F', ⟨f0, p1, wA, wc, ks, a0, a1, b0, b1, m1, m2, (ho 9 (by decide) (by decide) g).2 h.cg, h.box.kept j2 (hd 9 (by decide) g h.cg), ?_, fun T e => ?_, h.no1, h.way.kept j2 (fun b e => hd 4 (by decide) b (h.cway b e)), fun b e => (ho 4 (by decide) (by decide) b).2 (h.cway b e), fun x hx => ((h.dat x hx).kept j2 (hd 3 (by decide))).less (fun b hb => (ho 3 (by decide) (by decide) b).2 hb), h.wpl, h.r0.kept j2 (fun b e => hd 5 (by decide) b (h.c0 b e)), fun b e => (ho 5 (by decide) (by decide) b).2 (h.c0 b e), h.r1.kept j2 (fun b e => hd 6 (by decide) b (h.c1 b e)), fun b e => (ho 6 (by decide) (by decide) b).2 (h.c1 b e), h.r2.kept j2 (fun b e => hd 7 (by decide) b (h.c2 b e)), fun b e => (ho 7 (by decide) (by decide) b).2 (h.c2 b e), h.r3.kept j2 (fun b e => hd 8 (by decide) b (h.c3 b e)), fun b e => (ho 8 (by decide) (by decide) b).2 (h.c3 b e)⟩, j2, m4, fun b hb => (ho 3 (by decide) (by decide) b).2 hb⟩
  · have e : (fun b => recol col 1 F' b = 1) = F' := funext fun b => propext (hin b)
    rw [e]
    exact j1
  · obtain ⟨f1, e1, h1⟩ := h.fl1 T e
    refine ⟨f1, e1, ?_⟩
    have e : (fun b => recol col 1 F' b = 2) = (fun b => col b = 2) := funext fun b => propext (ho 2 (by decide) (by decide) b)
    rw [e]
    exact h1.kept j2 (hd 2 (by decide))
/-- The second one has. -/
theorem PrX.flow1 {f1 : Nat} (h : PrX col w0 w g f0 p1 wA wc ks a0 a1 b0 b1 P) (hp1 : p1 = some f1) {S' : Fl} (hf : FlOf (fun b => col b = 2) f1 S' w w') : ∃ col', PrS col' w0 w' g { P with f1 := some S' } ∧ Kept (fun b => col b = 2) w w' ∧ (∀ b, col' b ≠ 0 → col b ≠ 0 ∨ w.heap.size ≤ b) ∧ ∀ b, col b = 3 → col' b = 3 := by
  obtain ⟨F', j1, j2, j3⟩ := hf
  obtain ⟨m1, m2, m3, m4⟩ := h.moved (n := 2) (by decide) j2 j3 j1.lt
  have hin : ∀ b, recol col 2 F' b = 2 ↔ F' b := fun b => recol_in (by decide)
  have ho : ∀ m : Nat, m ≠ 2 → m ≠ 0 → ∀ b, recol col 2 F' b = m ↔ col b = m := fun m a c b => recol_out a m3 c
  have hd : ∀ m : Nat, m ≠ 2 → ∀ b, col b = m → ¬ col b = 2 := fun m hm b e e2 => hm (e.symm.trans e2)
  refine ⟨recol col 2 F', ⟨f0, p1, wA, wc, ks, a0, a1, b0, b1, m1, m2, (ho 9 (by decide) (by decide) g).2 h.cg, h.box.kept j2 (hd 9 (by decide) g h.cg), ?_, fun T e => ?_, fun e => (by cases e), h.way.kept j2 (fun b e => hd 4 (by decide) b (h.cway b e)), fun b e => (ho 4 (by decide) (by decide) b).2 (h.cway b e), fun x hx => ((h.dat x hx).kept j2 (hd 3 (by decide))).less (fun b hb => (ho 3 (by decide) (by decide) b).2 hb), h.wpl, h.r0.kept j2 (fun b e => hd 5 (by decide) b (h.c0 b e)), fun b e => (ho 5 (by decide) (by decide) b).2 (h.c0 b e), h.r1.kept j2 (fun b e => hd 6 (by decide) b (h.c1 b e)), fun b e => (ho 6 (by decide) (by decide) b).2 (h.c1 b e), h.r2.kept j2 (fun b e => hd 7 (by decide) b (h.c2 b e)), fun b e => (ho 7 (by decide) (by decide) b).2 (h.c2 b e), h.r3.kept j2 (fun b e => hd 8 (by decide) b (h.c3 b e)), fun b e => (ho 8 (by decide) (by decide) b).2 (h.c3 b e)⟩, j2, m4, fun b hb => (ho 3 (by decide) (by decide) b).2 hb⟩
  · have e : (fun b => recol col 2 F' b = 1) = (fun b => col b = 1) := funext fun b => propext (ho 1 (by decide) (by decide) b)
    rw [e]
    exact h.fl0.kept j2 (hd 1 (by decide))
  · injection e with e
    subst e
    refine ⟨f1, hp1, ?_⟩
    have e : (fun b => recol col 2 F' b = 2) = F' := funext fun b => propext (hin b)
    rw [e]
    exact j1
end
end Go.Proofs.Ytjldgialhgfhmaa
namespace Go.Proofs.Ytjldgialhgfhmaa
set_option linter.unusedVariables false
set_option linter.unusedSimpArgs false
open Go.ChangeShapes Go.WideShapes Go.ChangeAt Go.RowKit Go.Maps
set_option linter.unusedVariables false
set_option linter.unusedSimpArgs false
/-- What is sent, as a segment. -/
def Ro.sg (o : Ro) (xs : List Int) : Sg := ⟨0, 0, 0, 0, o.r.seq, o.ack, o.r.syn, o.acks, o.r.fin, o.rst, 0, none, 0, 0, o.r.A, o.r.len, o.r.cap, xs⟩
/-- A whole segment is stored. -/
theorem Blk.put13 {w : World} {x : Nat} {t : TypeId} {cs : Array Value} (h : Blk w x t cs) (hs : cs.size = 13) (v0 v1 v2 v3 v4 v5 v6 v7 v8 v9 v10 v11 v12 : Value) :
    Blk (((((((((((((w.setCell ⟨x, 0, none⟩ v0).setCell ⟨x, 1, none⟩ v1).setCell ⟨x, 2, none⟩ v2).setCell ⟨x, 3, none⟩ v3).setCell ⟨x, 4, none⟩ v4).setCell ⟨x, 5, none⟩ v5).setCell ⟨x, 6, none⟩ v6).setCell ⟨x, 7, none⟩ v7).setCell ⟨x, 8, none⟩ v8).setCell ⟨x, 9, none⟩ v9).setCell ⟨x, 10, none⟩ v10).setCell ⟨x, 11, none⟩ v11).setCell ⟨x, 12, none⟩ v12) x t #[v0, v1, v2, v3, v4, v5, v6, v7, v8, v9, v10, v11, v12] ∧ Kept (· = x) w (((((((((((((w.setCell ⟨x, 0, none⟩ v0).setCell ⟨x, 1, none⟩ v1).setCell ⟨x, 2, none⟩ v2).setCell ⟨x, 3, none⟩ v3).setCell ⟨x, 4, none⟩ v4).setCell ⟨x, 5, none⟩ v5).setCell ⟨x, 6, none⟩ v6).setCell ⟨x, 7, none⟩ v7).setCell ⟨x, 8, none⟩ v8).setCell ⟨x, 9, none⟩ v9).setCell ⟨x, 10, none⟩ v10).setCell ⟨x, 11, none⟩ v11).setCell ⟨x, 12, none⟩ v12) := by
  obtain ⟨l⟩ := cs
  match l, hs with
  | [c0, c1, c2, c3, c4, c5, c6, c7, c8, c9, c10, c11, c12], _ =>
    exact ⟨(((((((((((((h.set_ 0 v0).set_ 1 v1).set_ 2 v2).set_ 3 v3).set_ 4 v4).set_ 5 v5).set_ 6 v6).set_ 7 v7).set_ 8 v8).set_ 9 v9).set_ 10 v10).set_ 11 v11).set_ 12 v12).cast (by simp), (((((((((((((Kept.refl (· = x) w).setIn (p := ⟨x, 0, none⟩) rfl _).setIn (p := ⟨x, 1, none⟩) rfl _).setIn (p := ⟨x, 2, none⟩) rfl _).setIn (p := ⟨x, 3, none⟩) rfl _).setIn (p := ⟨x, 4, none⟩) rfl _).setIn (p := ⟨x, 5, none⟩) rfl _).setIn (p := ⟨x, 6, none⟩) rfl _).setIn (p := ⟨x, 7, none⟩) rfl _).setIn (p := ⟨x, 8, none⟩) rfl _).setIn (p := ⟨x, 9, none⟩) rfl _).setIn (p := ⟨x, 10, none⟩) rfl _).setIn (p := ⟨x, 11, none⟩) rfl _).setIn (p := ⟨x, 12, none⟩) rfl _⟩
theorem size89 : (Try.prog.info? 89).map (·.size) = some 13 := by kernel_rfl
set_option maxHeartbeats 4000000 in
theorem segment_any (o : Ro) (xs : List Int) (w : World) : Calls Try.prog 72 #[.agg o.cells.toArray] w fun e w' => e = .returned (.agg (o.sg xs).cells.toArray) ∧ Fine w w' := by
  obtain ⟨⟨seq, syn, fin, A, len, cap, dsn, last⟩, ack, acks, rst⟩ := o
  show Calls Try.prog 72 #[.agg #[.int .u32 seq, .bool syn, .bool fin, .slice A len cap, .int .i64 dsn, .bool last, .int .u32 ack, .bool acks, .bool rst]] w _
  obtain ⟨x1, hx1⟩ : ∃ x, w.heap.size = x := ⟨_, rfl⟩
  have b1 := Blk.newAt (w := w) (t := 94) (cs := #[.int .u32 seq, .bool syn, .bool fin, .slice A len cap, .int .i64 dsn, .bool last, .int .u32 ack, .bool acks, .bool rst]) hx1.symm
  have f1 := (Fine.refl w).alloc (.cells #[.int .u32 seq, .bool syn, .bool fin, .slice A len cap, .int .i64 dsn, .bool last, .int .u32 ack, .bool acks, .bool rst] 94)
  have hsz : (w.alloc (.cells #[.int .u32 seq, .bool syn, .bool fin, .slice A len cap, .int .i64 dsn, .bool last, .int .u32 ack, .bool acks, .bool rst] 94)).heap.size = x1 + 1 := by simp [hx1]
  have b2 := Blk.newAt (w := w.alloc (.cells #[.int .u32 seq, .bool syn, .bool fin, .slice A len cap, .int .i64 dsn, .bool last, .int .u32 ack, .bool acks, .bool rst] 94)) (t := 89) (cs := #[.int .i64 0, .int .i64 0, .int .i64 0, .int .i64 0, .int .u32 0, .int .u32 0, .bool false, .bool false, .bool false, .bool false, .int .i64 0, .slice none 0 0, .slice none 0 0]) (g := x1 + 1) hsz.symm
  have f2 := f1.alloc (.cells #[.int .i64 0, .int .i64 0, .int .i64 0, .int .i64 0, .int .u32 0, .int .u32 0, .bool false, .bool false, .bool false, .bool false, .int .i64 0, .slice none 0 0, .slice none 0 0] 89)
  have b1' := b1.fine ((Fine.refl (w.alloc (.cells #[.int .u32 seq, .bool syn, .bool fin, .slice A len cap, .int .i64 dsn, .bool last, .int .u32 ack, .bool acks, .bool rst] 94))).alloc (.cells #[.int .i64 0, .int .i64 0, .int .i64 0, .int .i64 0, .int .u32 0, .int .u32 0, .bool false, .bool false, .bool false, .bool false, .int .i64 0, .slice none 0 0, .slice none 0 0] 89))
  have HX := Lib.hid hx1
  clear b1 f1
  go_enter Try.func72, Try.ntmps72
  go_upto_region 1 with fail
  generalize (w.alloc (.cells #[.int .u32 seq, .bool syn, .bool fin, .slice A len cap, .int .i64 dsn, .bool last, .int .u32 ack, .bool acks, .bool rst] 94)).alloc (.cells #[.int .i64 0, .int .i64 0, .int .i64 0, .int .i64 0, .int .u32 0, .int .u32 0, .bool false, .bool false, .bool false, .bool false, .int .i64 0, .slice none 0 0, .slice none 0 0] 89) = w2 at b1' b2 f2 ⊢
  have d0 : w2.cell? ⟨x1, 0, none⟩ = some (.int .u32 seq) := b1'.cell 0
  have d1 : w2.cell? ⟨x1, 1, none⟩ = some (.bool syn) := b1'.cell 1
  have d2 : w2.cell? ⟨x1, 2, none⟩ = some (.bool fin) := b1'.cell 2
  have d3 : w2.cell? ⟨x1, 3, none⟩ = some (.slice A len cap) := b1'.cell 3
  have d6 : w2.cell? ⟨x1, 6, none⟩ = some (.int .u32 ack) := b1'.cell 6
  have d7 : w2.cell? ⟨x1, 7, none⟩ = some (.bool acks) := b1'.cell 7
  have d8 : w2.cell? ⟨x1, 8, none⟩ = some (.bool rst) := b1'.cell 8
  obtain ⟨x2, hx2⟩ : ∃ z, x1 + 1 = z := ⟨_, rfl⟩
  rw [hx2] at b2 ⊢
  have HX2 := Lib.hid hx2
  have e0 : w2.cell? ⟨x2, 0, none⟩ = some (.int .i64 0) := b2.cell 0
  have e1 : w2.cell? ⟨x2, 1, none⟩ = some (.int .i64 0) := b2.cell 1
  have e2 : w2.cell? ⟨x2, 2, none⟩ = some (.int .i64 0) := b2.cell 2
  have e3 : w2.cell? ⟨x2, 3, none⟩ = some (.int .i64 0) := b2.cell 3
  have e4 : w2.cell? ⟨x2, 4, none⟩ = some (.int .u32 0) := b2.cell 4
  have e5 : w2.cell? ⟨x2, 5, none⟩ = some (.int .u32 0) := b2.cell 5
  have e6 : w2.cell? ⟨x2, 6, none⟩ = some (.bool false) := b2.cell 6
  have e7 : w2.cell? ⟨x2, 7, none⟩ = some (.bool false) := b2.cell 7
  have e8 : w2.cell? ⟨x2, 8, none⟩ = some (.bool false) := b2.cell 8
  have e9 : w2.cell? ⟨x2, 9, none⟩ = some (.bool false) := b2.cell 9
  have e10 : w2.cell? ⟨x2, 10, none⟩ = some (.int .i64 0) := b2.cell 10
  have e11 : w2.cell? ⟨x2, 11, none⟩ = some (.slice none 0 0) := b2.cell 11
  have e12 : w2.cell? ⟨x2, 12, none⟩ = some (.slice none 0 0) := b2.cell 12
  have z0 : w2.frozen? ⟨x2, 0, none⟩ = false := b2.frozen 0
  have z1 : w2.frozen? ⟨x2, 1, none⟩ = false := b2.frozen 1
  have z2 : w2.frozen? ⟨x2, 2, none⟩ = false := b2.frozen 2
  have z3 : w2.frozen? ⟨x2, 3, none⟩ = false := b2.frozen 3
  have z4 : w2.frozen? ⟨x2, 4, none⟩ = false := b2.frozen 4
  have z5 : w2.frozen? ⟨x2, 5, none⟩ = false := b2.frozen 5
  have z6 : w2.frozen? ⟨x2, 6, none⟩ = false := b2.frozen 6
  have z7 : w2.frozen? ⟨x2, 7, none⟩ = false := b2.frozen 7
  have z8 : w2.frozen? ⟨x2, 8, none⟩ = false := b2.frozen 8
  have z9 : w2.frozen? ⟨x2, 9, none⟩ = false := b2.frozen 9
  have z10 : w2.frozen? ⟨x2, 10, none⟩ = false := b2.frozen 10
  have z11 : w2.frozen? ⟨x2, 11, none⟩ = false := b2.frozen 11
  have z12 : w2.frozen? ⟨x2, 12, none⟩ = false := b2.frozen 12
  have BF := Lib.hid (b2.put13 rfl (.int .i64 0) (.int .i64 0) (.int .i64 0) (.int .i64 0) (.int .u32 seq) (.int .u32 ack) (.bool syn) (.bool acks) (.bool fin) (.bool rst) (.int .i64 0) (.slice none 0 0) (.slice A len cap))
  have F2 := Lib.hid f2
  have hle : Hid (w.heap.size ≤ x2) := Lib.hid (by omega)
  clear b1' b2 f2 hx1 hx2 hsz
  go_wp2_with fail
  exact bodyPost_ret (results_cell_row rfl _ _ x2 89 _ (0, 0) _ rfl BF.out.1 Try.underlying89 rfl size89) rfl ⟨rfl, F2.out.kept BF.out.2 (fun y hy e => by have e : y = x2 := e; have := hle.out; omega)⟩
/-- Bytes of a law's own. -/
def BytesOf (n : Int) (w : World) (e : Ending) (w' : World) : Prop := ∃ k, e = .returned (.slice (some ⟨w.heap.size, 0, none⟩) k k) ∧ k = (bytesN n).length ∧ k ≤ 12 ∧ Blk w' w.heap.size 5 (LB.flat (bytesN n)).toArray ∧ Fine w w'
def byteAt (n : Int) (k i : Nat) : List Value := (List.range k).map fun j => .int .u8 (if j < i then (7 * (j : Int) + n) % 256 else 0)
theorem byteAt_succ (n : Int) (k i : Nat) (hi : i < k) : ((byteAt n k i).toArray).setIfInBounds i (.int .u8 ((7 * (i : Int) + n) % 256)) = (byteAt n k (i + 1)).toArray := by
  rw [List.setIfInBounds_toArray]
  congr 1
  apply List.ext_getElem?
  intro j
  unfold byteAt
  rw [List.getElem?_set]
  by_cases h : i = j
  · subst h
    simp [hi]
  · rw [if_neg h]
    rcases Nat.lt_or_ge j k with g | g
    · simp only [List.getElem?_map, List.getElem?_range g, Option.map_some]
      congr 2
      by_cases h2 : j < i
      · rw [if_pos h2, if_pos (by omega)]
      · rw [if_neg h2, if_neg (by omega)]
    · rw [List.getElem?_eq_none (by simpa using g), List.getElem?_eq_none (by simpa using g)]
theorem byteAt_all (n : Int) (k : Nat) (hk : k = (min (max n 0) 12).toNat) : byteAt n k k = LB.flat (bytesN n) := by
  subst hk
  unfold byteAt bytesN Lay.flat
  simp only [List.flatMap_map]
  show _ = (List.range _).flatMap (fun j : Nat => [Value.int .u8 ((7 * (j : Int) + n) % 256)])
  rw [← List.map_eq_flatMap]
  apply List.map_congr_left
  intro j hj
  rw [if_pos (List.mem_range.1 hj)]
theorem byteAt_zero (n : Int) (k : Nat) : byteAt n k 0 = List.replicate k (.int .u8 0) := by
  unfold byteAt
  apply List.ext_getElem?
  intro j
  rcases Nat.lt_or_ge j k with g | g
  · simp [g]
  · rw [List.getElem?_eq_none (by simpa using g), List.getElem?_eq_none (by simpa using g)]
end Go.Proofs.Ytjldgialhgfhmaa
namespace Go.Proofs.Ytjldgialhgfhmaa
set_option linter.unusedVariables false
set_option linter.unusedSimpArgs false
open Go.ChangeShapes Go.WideShapes Go.ChangeAt Go.RowKit Go.Maps
set_option linter.unusedVariables false
set_option linter.unusedSimpArgs false
theorem flat_ext (n : Int) (k : Nat) (cs : Array Value) (hk : k = (min (max n 0) 12).toNat) (hs : cs.size = k) (h : ∀ j, j < k → cs[j]? = some (.int .u8 ((7 * (j : Int) + n) % 256))) : cs = (LB.flat (bytesN n)).toArray := by
  rw [← byteAt_all n k hk]
  apply Array.ext_getElem?
  intro j
  unfold byteAt
  rcases Nat.lt_or_ge j k with g | g
  · rw [h j g]; simp [g]
  · rw [Array.getElem?_eq_none (by omega)]; simp [g]
set_option maxHeartbeats 2000000 in
set_option maxRecDepth 20000 in
theorem lbytes_any (n : Int) (w : World) : Calls Try.prog 71 #[.int .i64 n] w (BytesOf n w) := by
  obtain ⟨k, hk⟩ : ∃ k : Nat, k = (min (max n 0) 12).toNat := ⟨_, rfl⟩
  have hk12 : k ≤ 12 := by omega
  have HK := Lib.hid hk
  have hlen : Hid ((bytesN n).length = k) := Lib.hid (by unfold bytesN; simp [hk])
  obtain ⟨x, hx⟩ : ∃ x, w.heap.size = x := ⟨_, rfl⟩
  have HX := Lib.hid hx
  have HZ : Hid (∀ z : Int, IntKind.u8.wrap (IntKind.i64.wrap z) = z % 256) := Lib.hid (fun z => by rw [IntKind.wrap_u8, IntKind.wrap_i64]; omega)
  have key : (n < 0 ∧ k = 0) ∨ (12 < n ∧ k = 12) ∨ (0 ≤ n ∧ n ≤ 12 ∧ n = (k : Int)) := by omega
  clear hk
  show Calls Try.prog 71 #[.int .i64 n] w fun e w' => ∃ k, e = .returned (.slice (some ⟨w.heap.size, 0, none⟩) k k) ∧ k = (bytesN n).length ∧ k ≤ 12 ∧ Blk w' w.heap.size 5 (LB.flat (bytesN n)).toArray ∧ Fine w w'
  rw [hx]
  rcases key with ⟨h1, h2⟩ | ⟨h1, h2⟩ | ⟨h1, h2, h3⟩
  · subst h2
    go_enter Try.func71, Try.ntmps71
    go_wp2_with (at_make; refine wpList_makeE rfl sliceB (.tmp 7) (.tmp 7) rfl 0 0 0 rfl rfl rfl rfl (by omega) (by unfold maxLen; omega) ?_; intro w1 cs hcs hb1 f1; have HB := Lib.hid hb1; clear hb1)
    rw [HX.out] at HB
    go_loopw [11] (fun s wr => ∃ i : Nat, i ≤ 0 ∧ s = .int .i64 i ∧ Hid (∃ cs : Array Value, Blk wr x 5 cs ∧ cs.size = 0 ∧ (∀ j, j < i → cs[j]? = some (.int .u8 ((7 * (j : Int) + n) % 256))) ∧ Fine w wr)) (fun s _ => 0 - (intOf s).toNat)
    case atStart => exact ⟨0, Nat.zero_le _, rfl, Lib.hid ⟨cs, HB.out, by simpa using hcs, fun j h => absurd h (by omega), f1⟩⟩
    case round =>
      obtain ⟨i, hi, rfl, hrel0⟩ := hrel
      by_cases hlt : i < 0
      · exact absurd hlt (by omega)
      · have hie : i = 0 := by omega
        obtain ⟨cs', hb, hs, hv, hf⟩ := hrel0.out
        have hfin := Lib.hid (flat_ext n 0 cs' HK.out hs (by rw [hie] at hv; exact hv))
        have HB2 := Lib.hid hb; clear hb
        have HF := Lib.hid hf; clear hf
        clear hv hs
        go_wp2_with fail
        go_ret
        exact ⟨0, rfl, by rw [hlen.out], by omega, by rw [← hfin.out]; exact HB2.out, HF.out⟩
  · subst h2
    go_enter Try.func71, Try.ntmps71
    go_wp2_with (at_make; refine wpList_makeE rfl sliceB (.tmp 7) (.tmp 7) rfl 12 12 12 rfl rfl rfl rfl (by omega) (by unfold maxLen; omega) ?_; intro w1 cs hcs hb1 f1; have HB := Lib.hid hb1; clear hb1)
    rw [HX.out] at HB
    go_loopw [11] (fun s wr => ∃ i : Nat, i ≤ 12 ∧ s = .int .i64 i ∧ Hid (∃ cs : Array Value, Blk wr x 5 cs ∧ cs.size = 12 ∧ (∀ j, j < i → cs[j]? = some (.int .u8 ((7 * (j : Int) + n) % 256))) ∧ Fine w wr)) (fun s _ => 12 - (intOf s).toNat)
    case atStart => exact ⟨0, Nat.zero_le _, rfl, Lib.hid ⟨cs, HB.out, by simpa using hcs, fun j h => absurd h (by omega), f1⟩⟩
    case round =>
      obtain ⟨i, hi, rfl, hrel0⟩ := hrel
      by_cases hlt : i < 12
      · obtain ⟨cs', hb, hs, hv, hf⟩ := hrel0.out
        have hfz := hb.frozen i
        obtain ⟨v0, hv0⟩ : ∃ v, cs'[i]? = some v := ⟨cs'[i]'(by omega), by rw [Array.getElem?_eq_getElem]⟩
        have hcc : wr.cell? ⟨x, i, none⟩ = some v0 := hb.cellOf hv0
        have HB2 := Lib.hid hb; clear hb
        have HS := Lib.hid hs; clear hs
        have HV := Lib.hid hv; clear hv
        have hwd : IntKind.i64.wrap (7 * (i : Int)) = 7 * (i : Int) := IntWalk.i64_in _ (by omega)
        go_wp2_with fail
        go_roundw
        case rel =>
          have hz := HZ.out (7 * (i : Int) + n)
          refine ⟨i + 1, by omega, by go_num, Lib.hid ⟨_, HB2.out.set_ i _, by simpa using HS.out, fun j hj => ?_, hf.kept ((Kept.refl (· = x) _).setIn (p := ⟨x, i, none⟩) rfl _) (fun y hy e => by have e : y = x := e; have := HX.out; omega)⟩⟩
          rw [Array.getElem?_setIfInBounds]
          by_cases hji : i = j
          · subst hji
            rw [if_pos rfl, if_pos (by have := HS.out; omega)]; refine congrArg some (congrArg (Value.int .u8) ?_); first | omega | (unfold wrap64; omega) | exact hz
          · rw [if_neg hji]; exact HV.out j (by omega)
        case measure => simp [intOf]; omega
      · have hie : i = 12 := by omega
        obtain ⟨cs', hb, hs, hv, hf⟩ := hrel0.out
        have hfin := Lib.hid (flat_ext n 12 cs' HK.out hs (by rw [hie] at hv; exact hv))
        have HB2 := Lib.hid hb; clear hb
        have HF := Lib.hid hf; clear hf
        clear hv hs
        go_wp2_with fail
        go_ret
        exact ⟨12, rfl, by rw [hlen.out], by omega, by rw [← hfin.out]; exact HB2.out, HF.out⟩
  · subst h3
    go_enter Try.func71, Try.ntmps71
    go_wp2_with (at_make; refine wpList_makeE rfl sliceB (.tmp 7) (.tmp 7) rfl k (k : Int) (k : Int) rfl rfl rfl rfl (by omega) (by unfold maxLen; omega) ?_; intro w1 cs hcs hb1 f1; have HB := Lib.hid hb1; clear hb1)
    rw [HX.out] at HB
    go_loopw [11] (fun s wr => ∃ i : Nat, i ≤ k ∧ s = .int .i64 i ∧ Hid (∃ cs : Array Value, Blk wr x 5 cs ∧ cs.size = k ∧ (∀ j, j < i → cs[j]? = some (.int .u8 ((7 * (j : Int) + (k : Int)) % 256))) ∧ Fine w wr)) (fun s _ => k - (intOf s).toNat)
    case atStart => exact ⟨0, Nat.zero_le _, rfl, Lib.hid ⟨cs, HB.out, by simpa using hcs, fun j h => absurd h (by omega), f1⟩⟩
    case round =>
      obtain ⟨i, hi, rfl, hrel0⟩ := hrel
      by_cases hlt : i < k
      · obtain ⟨cs', hb, hs, hv, hf⟩ := hrel0.out
        have hfz := hb.frozen i
        obtain ⟨v0, hv0⟩ : ∃ v, cs'[i]? = some v := ⟨cs'[i]'(by omega), by rw [Array.getElem?_eq_getElem]⟩
        have hcc : wr.cell? ⟨x, i, none⟩ = some v0 := hb.cellOf hv0
        have HB2 := Lib.hid hb; clear hb
        have HS := Lib.hid hs; clear hs
        have HV := Lib.hid hv; clear hv
        have hwd : IntKind.i64.wrap (7 * (i : Int)) = 7 * (i : Int) := IntWalk.i64_in _ (by omega)
        go_wp2_with fail
        go_roundw
        case rel =>
          have hz := HZ.out (7 * (i : Int) + (k : Int))
          refine ⟨i + 1, by omega, by go_num, Lib.hid ⟨_, HB2.out.set_ i _, by simpa using HS.out, fun j hj => ?_, hf.kept ((Kept.refl (· = x) _).setIn (p := ⟨x, i, none⟩) rfl _) (fun y hy e => by have e : y = x := e; have := HX.out; omega)⟩⟩
          rw [Array.getElem?_setIfInBounds]
          by_cases hji : i = j
          · subst hji
            rw [if_pos rfl, if_pos (by have := HS.out; omega)]; refine congrArg some (congrArg (Value.int .u8) ?_); first | omega | (unfold wrap64; omega) | exact hz
          · rw [if_neg hji]; exact HV.out j (by omega)
        case measure => simp [intOf]; omega
      · have hie : i = k := by omega
        obtain ⟨cs', hb, hs, hv, hf⟩ := hrel0.out
        have hfin := Lib.hid (flat_ext (k : Int) k cs' HK.out hs (by rw [hie] at hv; exact hv))
        have HB2 := Lib.hid hb; clear hb
        have HF := Lib.hid hf; clear hf
        clear hv hs
        go_wp2_with fail
        go_ret
        exact ⟨k, rfl, by rw [hlen.out], by omega, by rw [← hfin.out]; exact HB2.out, HF.out⟩
end Go.Proofs.Ytjldgialhgfhmaa
namespace Go.Proofs.Ytjldgialhgfhmaa
set_option linter.unusedVariables false
set_option linter.unusedSimpArgs false
open Go.ChangeShapes Go.WideShapes Go.ChangeAt Go.RowKit Go.Maps
set_option linter.unusedVariables false
set_option linter.unusedSimpArgs false
theorem fill_nil (way : List (Bool × Sm)) (tb : Bool) : fill way tb [] = way := by simp [fill]
theorem fill_all (way : List (Bool × Sm)) (tb : Bool) (l : List Ot) : fill way tb (l.take l.length) = fill way tb l := by rw [List.take_length]
theorem fill_snoc (way : List (Bool × Sm)) (tb : Bool) (l : List Ot) (j : Nat) (o : Ot) (h : l[j]? = some o) :
    fill way tb (l.take (j + 1)) = if (fill way tb (l.take j)).length < 60 then fill way tb (l.take j) ++ [(tb, o.seg)] else fill way tb (l.take j) := by
  have hj : j < l.length := (List.getElem?_eq_some_iff.1 h).1
  unfold fill
  rw [List.length_append, List.length_take, List.length_map, List.length_take, Nat.min_eq_left (Nat.le_of_lt hj)]
  by_cases hr : j < 60 - way.length
  · have e1 : ((l.take (j + 1)).map fun o => (tb, o.seg)).take (60 - way.length) = (l.take (j + 1)).map fun o => (tb, o.seg) := List.take_of_length_le (by rw [List.length_map, List.length_take]; omega)
    have e2 : ((l.take j).map fun o => (tb, o.seg)).take (60 - way.length) = (l.take j).map fun o => (tb, o.seg) := List.take_of_length_le (by rw [List.length_map, List.length_take]; omega)
    rw [if_pos (by omega), e1, e2, List.take_add_one, h]
    simp
  · rw [if_neg (by omega), ← List.map_take, ← List.map_take, List.take_take, List.take_take, Nat.min_eq_left (by omega), Nat.min_eq_left (by omega)]
section
variable {col : Nat → Nat} {w0 w w' wB : World} {g f0 : Nat} {p1 : Option Nat} {wA : Option Addr} {wc : Nat} {ks : List Rk} {a0 a1 b0 b1 : SlV} {P : Pr}
open Classical in
/-- What a flow has let go of is data on their way. -/
noncomputable def recol3 (col : Nat → Nat) (n : Nat) (F' : Nat → Prop) : Nat → Nat := fun b => if F' b then n else if col b = n then 3 else col b
theorem recol3_in {n : Nat} {F' : Nat → Prop} (h3 : n ≠ 3) {b : Nat} : recol3 col n F' b = n ↔ F' b := by
  unfold recol3
  split
  · rename_i h; exact ⟨fun _ => h, fun _ => rfl⟩
  · rename_i h
    split
    · exact ⟨fun e => absurd e.symm h3, fun g => absurd g h⟩
    · rename_i h2; exact ⟨fun e => absurd e h2, fun g => absurd g h⟩
theorem recol3_out {n m : Nat} {F' : Nat → Prop} (hm : m ≠ n) (hF : ∀ b, F' b → col b = n) (h3 : m ≠ 3) {b : Nat} : recol3 col n F' b = m ↔ col b = m := by
  unfold recol3
  split
  · rename_i h
    exact ⟨fun e => absurd e.symm hm, fun e => absurd (e.symm.trans (hF b h)) hm⟩
  · split
    · rename_i h2
      exact ⟨fun e => absurd e.symm h3, fun e => absurd (e.symm.trans h2) hm⟩
    · exact Iff.rfl
theorem recol3_data {n : Nat} {F' : Nat → Prop} (h3 : n ≠ 3) (hF : ∀ b, F' b → col b = n) {b : Nat} (h : col b = 3 ∨ col b = n ∧ ¬ F' b) : recol3 col n F' b = 3 := by
  unfold recol3
  rcases h with h | h
  · rw [if_neg (fun g => h3 ((hF b g).symm.trans h)), if_neg (by omega)]; exact h
  · rw [if_neg h.2, if_pos h.1]
theorem recol3_some {n : Nat} {F' : Nat → Prop} (h0 : n ≠ 0) (hF : ∀ b, F' b → col b = n) {b : Nat} (h : recol3 col n F' b ≠ 0) : col b ≠ 0 := by
  unfold recol3 at h
  split at h
  · rename_i g; rw [hF b g]; exact h0
  · split at h
    · rename_i g; rw [g]; exact h0
    · exact h
/-- What a flow's Out has left. -/
def TookOf (col : Nat → Nat) (w0 w : World) (g : Nat) (P' : Pr) (os : List Ot) (r : Ending) (w' : World) : Prop :=
  ∃ A c ros col', r = .returned (.slice A ros.length c) ∧ RS layO w' A c ros ∧ (∀ b o, A = some ⟨b, o, none⟩ → col' b = 3) ∧ IsOs w' (fun b => col' b = 3) ros os ∧ PrS col' w0 w' g P' ∧ Kept (fun b => col b ≠ 0) w w' ∧ ∀ b, col' b ≠ 0 → col b ≠ 0
theorem PrX.took0 (h : PrX col w0 w g f0 p1 wA wc ks a0 a1 b0 b1 P) {r : Ending} (ho : OutOf (fun b => col b = 1) f0 P.f0 w r w') : TookOf col w0 w g { P with f0 := P.f0.flushed } P.f0.out r w' := by
  obtain ⟨A, c, ros, D, F', hr, rs, hi, j1, j2, hD, hA, kf⟩ := ho
  have hf1 : col f0 = 1 := by obtain ⟨q, A, c, ros, Q, D, hX⟩ := h.fl0; exact hX.ff
  have k : Kept (fun b => col b = 1) w w' := kf.mono (fun y _ e => by have e : y = f0 := e; rw [e]; exact hf1)
  have hin : ∀ b, recol3 col 1 F' b = 1 ↔ F' b := fun b => recol3_in (by decide)
  have ho : ∀ m : Nat, m ≠ 1 → m ≠ 3 → ∀ b, recol3 col 1 F' b = m ↔ col b = m := fun m a c b => recol3_out a j2 c
  have hda : ∀ b, col b = 3 ∨ col b = 1 ∧ ¬ F' b → recol3 col 1 F' b = 3 := fun b hb => recol3_data (by decide) j2 hb
  have hso : ∀ b, recol3 col 1 F' b ≠ 0 → col b ≠ 0 := fun b hb => recol3_some (by decide) j2 hb
  have hd : ∀ m : Nat, m ≠ 1 → ∀ b, col b = m → ¬ col b = 1 := fun m hm b e e2 => hm (e.symm.trans e2)
  refine ⟨A, c, ros, recol3 col 1 F', hr, rs, fun b o e => hda b (.inr (hA b o e)), hi.less (fun b hb => hda b (.inr (hD b hb))), ⟨f0, p1, wA, wc, ks, a0, a1, b0, b1, h.fine.kept k (fun x hx e => by have := (h.base x (by rw [e]; decide)).1; omega), fun b hb => ⟨(h.base b (hso b hb)).1, Nat.lt_of_lt_of_le (h.base b (hso b hb)).2 k.size⟩, (ho 9 (by decide) (by decide) g).2 h.cg, h.box.kept k (hd 9 (by decide) g h.cg), ?_, fun T e => ?_, h.no1, h.way.kept k (fun b e => hd 4 (by decide) b (h.cway b e)), fun b e => (ho 4 (by decide) (by decide) b).2 (h.cway b e), fun x hx => ((h.dat x hx).kept k (hd 3 (by decide))).less (fun b hb => hda b (.inl hb)), h.wpl, h.r0.kept k (fun b e => hd 5 (by decide) b (h.c0 b e)), fun b e => (ho 5 (by decide) (by decide) b).2 (h.c0 b e), h.r1.kept k (fun b e => hd 6 (by decide) b (h.c1 b e)), fun b e => (ho 6 (by decide) (by decide) b).2 (h.c1 b e), h.r2.kept k (fun b e => hd 7 (by decide) b (h.c2 b e)), fun b e => (ho 7 (by decide) (by decide) b).2 (h.c2 b e), h.r3.kept k (fun b e => hd 8 (by decide) b (h.c3 b e)), fun b e => (ho 8 (by decide) (by decide) b).2 (h.c3 b e)⟩, k.mono (fun y _ e => by show col y ≠ 0; have e : col y = 1 := e; rw [e]; decide), hso⟩
  · have e : (fun b => recol3 col 1 F' b = 1) = F' := funext fun b => propext (hin b)
    rw [e]
    exact j1
  · obtain ⟨f1, e1, h1⟩ := h.fl1 T e
    refine ⟨f1, e1, ?_⟩
    have e : (fun b => recol3 col 1 F' b = 2) = (fun b => col b = 2) := funext fun b => propext (ho 2 (by decide) (by decide) b)
    rw [e]
    exact h1.kept k (hd 2 (by decide))
theorem PrX.took1 (h : PrX col w0 w g f0 p1 wA wc ks a0 a1 b0 b1 P) {f1 : Nat} {S : Fl} (hp1 : p1 = some f1) (hS : P.f1 = some S) {r : Ending} (ho : OutOf (fun b => col b = 2) f1 S w r w') : TookOf col w0 w g { P with f1 := some S.flushed } S.out r w' := by
  obtain ⟨A, c, ros, D, F', hr, rs, hi, j1, j2, hD, hA, kf⟩ := ho
  have hf1 : col f1 = 2 := by
    obtain ⟨f, e, hh⟩ := h.fl1 S hS
    rw [hp1] at e; injection e with e; subst e
    obtain ⟨q, A, c, ros, Q, D, hX⟩ := hh; exact hX.ff
  have k : Kept (fun b => col b = 2) w w' := kf.mono (fun y _ e => by have e : y = f1 := e; rw [e]; exact hf1)
  have hin : ∀ b, recol3 col 2 F' b = 2 ↔ F' b := fun b => recol3_in (by decide)
  have ho : ∀ m : Nat, m ≠ 2 → m ≠ 3 → ∀ b, recol3 col 2 F' b = m ↔ col b = m := fun m a c b => recol3_out a j2 c
  have hda : ∀ b, col b = 3 ∨ col b = 2 ∧ ¬ F' b → recol3 col 2 F' b = 3 := fun b hb => recol3_data (by decide) j2 hb
  have hso : ∀ b, recol3 col 2 F' b ≠ 0 → col b ≠ 0 := fun b hb => recol3_some (by decide) j2 hb
  have hd : ∀ m : Nat, m ≠ 2 → ∀ b, col b = m → ¬ col b = 2 := fun m hm b e e2 => hm (e.symm.trans e2)
  refine ⟨A, c, ros, recol3 col 2 F', hr, rs, fun b o e => hda b (.inr (hA b o e)), hi.less (fun b hb => hda b (.inr (hD b hb))), ⟨f0, p1, wA, wc, ks, a0, a1, b0, b1, h.fine.kept k (fun x hx e => by have := (h.base x (by rw [e]; decide)).1; omega), fun b hb => ⟨(h.base b (hso b hb)).1, Nat.lt_of_lt_of_le (h.base b (hso b hb)).2 k.size⟩, (ho 9 (by decide) (by decide) g).2 h.cg, h.box.kept k (hd 9 (by decide) g h.cg), ?_, fun T e => ?_, fun e => (by cases e), h.way.kept k (fun b e => hd 4 (by decide) b (h.cway b e)), fun b e => (ho 4 (by decide) (by decide) b).2 (h.cway b e), fun x hx => ((h.dat x hx).kept k (hd 3 (by decide))).less (fun b hb => hda b (.inl hb)), h.wpl, h.r0.kept k (fun b e => hd 5 (by decide) b (h.c0 b e)), fun b e => (ho 5 (by decide) (by decide) b).2 (h.c0 b e), h.r1.kept k (fun b e => hd 6 (by decide) b (h.c1 b e)), fun b e => (ho 6 (by decide) (by decide) b).2 (h.c1 b e), h.r2.kept k (fun b e => hd 7 (by decide) b (h.c2 b e)), fun b e => (ho 7 (by decide) (by decide) b).2 (h.c2 b e), h.r3.kept k (fun b e => hd 8 (by decide) b (h.c3 b e)), fun b e => (ho 8 (by decide) (by decide) b).2 (h.c3 b e)⟩, k.mono (fun y _ e => by show col y ≠ 0; have e : col y = 2 := e; rw [e]; decide), hso⟩
  · have e : (fun b => recol3 col 2 F' b = 1) = (fun b => col b = 1) := funext fun b => propext (ho 1 (by decide) (by decide) b)
    rw [e]
    exact h.fl0.kept k (hd 1 (by decide))
  · injection e with e
    subst e
    refine ⟨f1, hp1, ?_⟩
    have e : (fun b => recol3 col 2 F' b = 2) = F' := funext fun b => propext (hin b)
    rw [e]
    exact j1
/-! A packet is laid on the way. -/
theorem PrX.laid (h : PrX col w0 w g f0 p1 wA wc ks a0 a1 b0 b1 P) {wF : World} (fa : Fine w wF) {A3 : Option Addr} {n3 c3 : Nat} {k : Rk} (kB : Kept (fun y => (Value.slice wA ks.length wc).ownBlock = some y) wF wB) (hn : n3 = (ks ++ [k]).length) (oB : Own layK 114 wB 0 (.slice A3 n3 c3) (ks ++ [k]))
    (bB : (Value.slice A3 n3 c3).ownBlock = (Value.slice wA ks.length wc).ownBlock ∨ (Value.slice A3 n3 c3).ownBlock = some wF.heap.size) (hk : IsG wF (fun b => col b = 3) k.sg) :
    ∃ col', PrS col' w0 (wB.setCell ⟨g, 2, none⟩ (.slice A3 n3 c3)) g { P with way := P.way ++ [k.pl] } ∧ Kept (fun b => col b ≠ 0) w (wB.setCell ⟨g, 2, none⟩ (.slice A3 n3 c3)) ∧ (∀ b, col' b ≠ 0 → col b ≠ 0 ∨ w.heap.size ≤ b) ∧ (∀ b, col b = 3 → col' b = 3) ∧ Kept (fun b => col b = 4 ∨ col b = 9) w (wB.setCell ⟨g, 2, none⟩ (.slice A3 n3 c3)) := by
  subst hn
  have h1 := h.fine_ fa
  have k4 : Kept (fun b => col b = 4) wF wB := kB.mono (fun y _ e => h.cway y e)
  have k2 : Kept (fun b => col b = 9) wB (wB.setCell ⟨g, 2, none⟩ (.slice A3 (ks ++ [k]).length c3)) := (Kept.refl (fun b => col b = 9) wB).setIn (p := ⟨g, 2, none⟩) h.cg _
  have kk : Kept (fun b => col b = 4 ∨ col b = 9) wF (wB.setCell ⟨g, 2, none⟩ (.slice A3 (ks ++ [k]).length c3)) := (k4.mono (fun y _ e => Or.inl e)).trans (k2.mono (fun y _ e => Or.inr e))
  have k0 : Kept (fun b => col b = 4 ∨ col b = 9) w (wB.setCell ⟨g, 2, none⟩ (.slice A3 (ks ++ [k]).length c3)) := (Kept.of_fine fa).trans kk
  have hbB : Blk wB g 77 #[.pointer (some ⟨f0, 0, none⟩), .pointer (p1.map fun f => ⟨f, 0, none⟩), .slice wA ks.length wc, a0.val, a1.val, b0.val, b1.val, .int .i64 P.tick] := h1.box.kept k4 (fun e => by have e : col g = 4 := e; rw [h.cg] at e; cases e)
  have hd : ∀ m : Nat, m ≠ 4 → m ≠ 9 → ∀ b, col b = m → ¬ (col b = 4 ∨ col b = 9) := fun m h4 h9 b e o => o.elim (fun o => h4 (e.symm.trans o)) (fun o => h9 (e.symm.trans o))
  obtain ⟨col', hc⟩ : ∃ z : Nat → Nat, z = fun b => if col b = 0 ∧ (Value.slice A3 (ks ++ [k]).length c3).ownBlock = some b then 4 else col b := ⟨_, rfl⟩
  have hsame : ∀ b, col b ≠ 0 → col' b = col b := fun b hb => by rw [hc]; exact if_neg (fun e => hb e.1)
  have hm : ∀ m : Nat, m ≠ 0 → m ≠ 4 → ∀ b, col' b = m ↔ col b = m := fun m h0 h4 b => by
    rw [hc]
    show (if _ then 4 else col b) = m ↔ _
    split
    · rename_i e; rw [e.1]; exact ⟨fun e => absurd e.symm h4, fun e => absurd e.symm h0⟩
    · exact Iff.rfl
  have hnew : ∀ b, col' b ≠ 0 → col b ≠ 0 ∨ wF.heap.size ≤ b ∧ b < wB.heap.size := fun b hb => by
    rw [hc] at hb
    replace hb : (if col b = 0 ∧ (Value.slice A3 (ks ++ [k]).length c3).ownBlock = some b then 4 else col b) ≠ 0 := hb
    split at hb
    · rename_i e
      rcases bB with e2 | e2
      · have := h.cway b (e2 ▸ e.2); rw [e.1] at this; cases this
      · refine .inr ⟨?_, (oB.lt b e.2).2⟩
        rw [e2] at e
        have := e.2; injection this with this; omega
    · exact .inl hb
  have hway : ∀ b, (Value.slice A3 (ks ++ [k]).length c3).ownBlock = some b → col' b = 4 := fun b e => by
    by_cases h0 : col b = 0
    · rw [hc]; exact if_pos ⟨h0, e⟩
    · rcases bB with e2 | e2
      · rw [hsame b h0]; exact h.cway b (e2 ▸ e)
      · rw [e2] at e; injection e with e
        have := (h1.base b h0).2; omega
  have hgn : ∀ b, (Value.slice A3 (ks ++ [k]).length c3).ownBlock = some b → ¬ col b = 9 := fun b e o => by
    have := hway b e; rw [hsame b (by rw [o]; decide), o] at this; cases this
  refine ⟨col', ⟨f0, p1, A3, c3, ks ++ [k], a0, a1, b0, b1, h1.fine.kept kk (fun x hx e => by rcases e with e | e <;> (have := (h1.base x (by rw [e]; decide)).1; omega)), fun b hb => ?_, (hm 9 (by decide) (by decide) g).2 h.cg, (hbB.set_ 2 _).cast (by simp), ?_, fun T e => ?_, h.no1, oB.kept k2 hgn, hway, fun x hx => ?_, ?_, h1.r0.kept kk (fun b e => hd 5 (by decide) (by decide) b (h.c0 b e)), fun b e => (hm 5 (by decide) (by decide) b).2 (h.c0 b e), h1.r1.kept kk (fun b e => hd 6 (by decide) (by decide) b (h.c1 b e)), fun b e => (hm 6 (by decide) (by decide) b).2 (h.c1 b e), h1.r2.kept kk (fun b e => hd 7 (by decide) (by decide) b (h.c2 b e)), fun b e => (hm 7 (by decide) (by decide) b).2 (h.c2 b e), h1.r3.kept kk (fun b e => hd 8 (by decide) (by decide) b (h.c3 b e)), fun b e => (hm 8 (by decide) (by decide) b).2 (h.c3 b e)⟩, k0.mono (fun y _ e => by show col y ≠ 0; rcases e with e | e <;> (rw [e]; decide)), fun b hb => (hnew b hb).imp id (fun h => Nat.le_trans fa.size h.1), fun b hb => (hm 3 (by decide) (by decide) b).2 hb, k0⟩
  · rcases hnew b hb with e | e
    · exact ⟨(h1.base b e).1, Nat.lt_of_lt_of_le (h1.base b e).2 kk.size⟩
    · exact ⟨Nat.le_trans h1.fine.size e.1, Nat.lt_of_lt_of_le e.2 k2.size⟩
  · have e : (fun b => col' b = 1) = (fun b => col b = 1) := funext fun b => propext (hm 1 (by decide) (by decide) b)
    rw [e]
    exact h1.fl0.kept kk (hd 1 (by decide) (by decide))
  · obtain ⟨f1, e1, h2⟩ := h1.fl1 T e
    refine ⟨f1, e1, ?_⟩
    have e : (fun b => col' b = 2) = (fun b => col b = 2) := funext fun b => propext (hm 2 (by decide) (by decide) b)
    rw [e]
    exact h2.kept kk (hd 2 (by decide) (by decide))
  · have e3 : ∀ b, col b = 3 → col' b = 3 := fun b hb => (hm 3 (by decide) (by decide) b).2 hb
    rcases List.mem_append.1 hx with hx | hx
    · exact ((h1.dat x hx).kept kk (hd 3 (by decide) (by decide))).less e3
    · rw [List.mem_singleton.1 hx]
      exact (hk.kept kk (hd 3 (by decide) (by decide))).less e3
  · rw [h.wpl]; simp
end
end Go.Proofs.Ytjldgialhgfhmaa
namespace Go.Proofs.Ytjldgialhgfhmaa
set_option linter.unusedVariables false
set_option linter.unusedSimpArgs false
open Go.ChangeShapes Go.WideShapes Go.ChangeAt Go.RowKit Go.Maps
set_option linter.unusedVariables false
set_option linter.unusedSimpArgs false
section
variable {col : Nat → Nat} {w0 w wr : World} {g : Nat} {P P1 : Pr} {tb : Bool} {A : Option Addr} {c : Nat} {ros : List Ro} {os : List Ot}
/-- While what one sends is laid on the way: the first j are done. -/
def InR (col : Nat → Nat) (w0 w : World) (g : Nat) (P1 : Pr) (tb : Bool) (A : Option Addr) (c : Nat) (ros : List Ro) (os : List Ot) (j : Nat) (wr : World) : Prop :=
  ∃ col', PrS col' w0 wr g { P1 with way := fill P1.way tb (os.take j) } ∧ Kept (fun b => col b ≠ 0) w wr ∧ (∀ b, col' b ≠ 0 → col b ≠ 0 ∨ w.heap.size ≤ b) ∧ RS layO wr A c ros ∧ (∀ b o, A = some ⟨b, o, none⟩ → col' b = 3) ∧ IsOs wr (fun b => col' b = 3) ros os
theorem InR.fine_ {j : Nat} {w2 : World} (h : InR col w0 w g P1 tb A c ros os j wr) (f : Fine wr w2) : InR col w0 w g P1 tb A c ros os j w2 := by
  obtain ⟨col', h1, h2, h3, h4, h5, h6⟩ := h
  exact ⟨col', h1.fine_ f, h2.trans (Kept.of_fine f), h3, h4.fine f, h5, h6.fine f⟩
theorem TookOf.start {r : Ending} {wt : World} {P1 : Pr} {c1 : Nat → Nat} (j2 : Kept (fun b => col b ≠ 0) w wt) (j3 : ∀ b, c1 b ≠ 0 → col b ≠ 0 ∨ w.heap.size ≤ b) (ht : TookOf c1 w0 wt g P1 os r wr) : ∃ A c ros, r = .returned (.slice A ros.length c) ∧ ∀ tb, InR col w0 w g P1 tb A c ros os 0 wr := by
  obtain ⟨A, c, ros, col', hr, rs, hA, hi, k1, k2, k3⟩ := ht
  refine ⟨A, c, ros, hr, fun tb => ⟨col', ?_, j2.transG k2 (fun _ _ h => h) (fun y hy h => (j3 y h).elim id (fun h => by omega)), fun b hb => j3 b (k3 b hb), rs, hA, hi⟩⟩
  rw [List.take_zero, fill_nil]
  exact k1
theorem InR.done (h : InR col w0 w g P1 tb A c ros os ros.length wr) : PrOf col w0 g { P1 with way := fill P1.way tb os } w wr := by
  obtain ⟨col', h1, h2, h3, h4, h5, h6⟩ := h
  rw [h6.1, fill_all] at h1
  exact ⟨col', h1, h2, h3⟩
/-- Nothing has room. -/
theorem InR.full {j : Nat} {o : Ot} (h : InR col w0 w g P1 tb A c ros os j wr) (ho : os[j]? = some o) (hf : ¬ (fill P1.way tb (os.take j)).length < 60) : InR col w0 w g P1 tb A c ros os (j + 1) wr := by
  obtain ⟨col', h1, h2, h3, h4, h5, h6⟩ := h
  refine ⟨col', ?_, h2, h3, h4, h5, h6⟩
  rw [fill_snoc _ _ _ j o ho, if_neg hf]
  exact h1
/-- One more is laid. -/
theorem InR.more {j : Nat} {o : Ro} {t : Ot} {f0 : Nat} {p1 : Option Nat} {wA : Option Addr} {wc : Nat} {ks : List Rk} {a0 a1 b0 b1 : SlV} {col1 : Nat → Nat}
    (X : PrX col1 w0 wr g f0 p1 wA wc ks a0 a1 b0 b1 { P1 with way := fill P1.way tb (os.take j) }) (h2 : Kept (fun b => col b ≠ 0) w wr) (h3 : ∀ b, col1 b ≠ 0 → col b ≠ 0 ∨ w.heap.size ≤ b) (h4 : RS layO wr A c ros) (h5 : ∀ b o, A = some ⟨b, o, none⟩ → col1 b = 3) (h6 : IsOs wr (fun b => col1 b = 3) ros os)
    (ho : os[j]? = some t) (hr : ros[j]? = some o) (hx : t.rst = false ∧ t.p.xs.length ≤ 1000) (hf : ks.length < 60) {wF wB : World} (fa : Fine wr wF) {A3 : Option Addr} {n3 c3 : Nat} (kB : Kept (fun y => (Value.slice wA ks.length wc).ownBlock = some y) wF wB) (hn : n3 = ks.length + 1) (oB : Own layK 114 wB 0 (.slice A3 n3 c3) (ks ++ [⟨tb, o.sg t.p.xs⟩]))
    (bB : (Value.slice A3 n3 c3).ownBlock = (Value.slice wA ks.length wc).ownBlock ∨ (Value.slice A3 n3 c3).ownBlock = some wF.heap.size) : InR col w0 w g P1 tb A c ros os (j + 1) (wB.setCell ⟨g, 2, none⟩ (.slice A3 n3 c3)) := by
  have hi := h6.2 j o t hr ho
  obtain ⟨⟨i1, i2, i3, i4, i5, i6, i7, i8⟩, i9, i10, i11⟩ := hi
  have hk : IsG wF (fun b => col1 b = 3) (o.sg t.p.xs) := ⟨i6, by show o.rst = false; rw [i11]; exact hx.1, by show o.r.len ≤ 1000; rw [i6]; exact hx.2, i7.fine fa, i8⟩
  obtain ⟨col2, k1, k2, k3, k4, k5⟩ := X.laid fa kB (by simpa using hn) oB bB hk
  have hw : ks.length = (fill P1.way tb (os.take j)).length := by have := congrArg List.length X.wpl; simpa using this.symm
  have hd : ∀ b, col1 b = 3 → ¬ (col1 b = 4 ∨ col1 b = 9) := fun b e h => by rcases h with h | h <;> (rw [e] at h; cases h)
  refine ⟨col2, ?_, h2.transG k2 (fun _ _ h => h) (fun y hy h => (h3 y h).elim id (fun h => by omega)), fun b hb => (k3 b hb).elim (h3 b) (fun h => .inr (Nat.le_trans h2.size h)), h4.kept k5 (fun b o e => hd b (h5 b o e)), fun b o e => k4 b (h5 b o e), (h6.kept k5 hd).less k4⟩
  rw [fill_snoc _ _ _ j t ho, if_pos (by omega)]
  have e : (⟨tb, o.sg t.p.xs⟩ : Rk).pl = (tb, t.seg) := by show (tb, (⟨o.r.seq, o.ack, o.r.syn, o.acks, o.r.fin, t.p.xs⟩ : Sm)) = _; rw [i1, i2, i3, i9, i10]; rfl
  rw [e] at k1
  exact k1
end
end Go.Proofs.Ytjldgialhgfhmaa
