/- The laws of option: the parts of a kind's table, made in whatever order. (Printed by genplaces.py.) -/
import Derived.Test.YthnennleblgjeaaDoorXOpt1
import Derived.Test.YthnennleblgjeaaDoorXAnyOrd
import Derived.Great.BuildSlice
namespace Go.Proofs.YthnennleblgjeaaDoor
set_option linter.unusedVariables false
set_option linter.unusedSimpArgs false
open Go.ChangeShapes Go.WideShapes Go.ChangeAt Go.RowKit
set_option linter.unusedVariables false
/-- What a slot holds once its part is done. -/
inductive Sl where
  | no | val (v : Value) | row (cs : Array Value) (n : Nat) | all | box
def tab48 (b : Nat) : List Sl :=
  [.no,
   .no,
   .no,
   .box,
   .val (.pointer (some ⟨b, 0, none⟩)),
   .val (.pointer (some ⟨b, 0, none⟩)),
   .val (.pointer (some ⟨b, 1, none⟩)),
   .val (.agg #[.pointer (some ⟨b, 1, none⟩), .pointer none, .pointer none, .pointer none, .int .i64 8]),
   .row #[.pointer (some ⟨b, 1, none⟩), .pointer none, .pointer none, .pointer none, .int .i64 8] 1,
   .val (.pointer (some ⟨b, 0, none⟩)),
   .val (.pointer (some ⟨b, 0, none⟩)),
   .val (.pointer (some ⟨b, 3, none⟩)),
   .val (.agg #[.pointer none, .pointer (some ⟨b, 3, none⟩), .pointer none, .pointer none, .int .i64 4]),
   .val (.pointer (some ⟨b, 0, none⟩)),
   .val (.pointer (some ⟨b, 0, none⟩)),
   .val (.pointer (some ⟨b, 4, none⟩)),
   .val (.agg #[.pointer none, .pointer (some ⟨b, 4, none⟩), .pointer none, .pointer none, .int .i64 4]),
   .val (.pointer (some ⟨b, 0, none⟩)),
   .val (.pointer (some ⟨b, 0, none⟩)),
   .val (.pointer (some ⟨b, 5, none⟩)),
   .val (.agg #[.pointer none, .pointer none, .pointer (some ⟨b, 5, none⟩), .pointer none, .int .i64 1]),
   .val (.pointer (some ⟨b, 0, none⟩)),
   .val (.pointer (some ⟨b, 0, none⟩)),
   .val (.pointer (some ⟨b, 7, none⟩)),
   .val (.agg #[.pointer none, .pointer none, .pointer none, .pointer (some ⟨b, 7, none⟩), .int .i64 1]),
   .row #[.pointer none, .pointer (some ⟨b, 3, none⟩), .pointer none, .pointer none, .int .i64 4, .pointer none, .pointer (some ⟨b, 4, none⟩), .pointer none, .pointer none, .int .i64 4, .pointer none, .pointer none, .pointer (some ⟨b, 5, none⟩), .pointer none, .int .i64 1, .pointer none, .pointer none, .pointer none, .pointer (some ⟨b, 7, none⟩), .int .i64 1] 4,
   .val (.pointer (some ⟨b, 0, none⟩)),
   .val (.pointer (some ⟨b, 0, none⟩)),
   .val (.pointer (some ⟨b, 2, none⟩)),
   .val (.agg #[.pointer (some ⟨b, 2, none⟩), .pointer none, .pointer none, .pointer none, .int .i64 8]),
   .val (.pointer (some ⟨b, 0, none⟩)),
   .val (.pointer (some ⟨b, 0, none⟩)),
   .val (.pointer (some ⟨b, 4, none⟩)),
   .val (.agg #[.pointer none, .pointer (some ⟨b, 4, none⟩), .pointer none, .pointer none, .int .i64 4]),
   .row #[.pointer (some ⟨b, 2, none⟩), .pointer none, .pointer none, .pointer none, .int .i64 8, .pointer none, .pointer (some ⟨b, 4, none⟩), .pointer none, .pointer none, .int .i64 4] 2,
   .val (.pointer (some ⟨b, 0, none⟩)),
   .val (.pointer (some ⟨b, 0, none⟩)),
   .val (.pointer (some ⟨b, 2, none⟩)),
   .val (.agg #[.pointer (some ⟨b, 2, none⟩), .pointer none, .pointer none, .pointer none, .int .i64 8]),
   .row #[.pointer (some ⟨b, 2, none⟩), .pointer none, .pointer none, .pointer none, .int .i64 8] 1,
   .val (.pointer (some ⟨b, 0, none⟩)),
   .val (.pointer (some ⟨b, 0, none⟩)),
   .val (.pointer (some ⟨b, 8, none⟩)),
   .val (.agg #[.pointer none, .pointer none, .pointer none, .pointer (some ⟨b, 8, none⟩), .int .i64 1]),
   .val (.pointer (some ⟨b, 0, none⟩)),
   .val (.pointer (some ⟨b, 0, none⟩)),
   .val (.pointer (some ⟨b, 9, none⟩)),
   .val (.agg #[.pointer none, .pointer none, .pointer (some ⟨b, 9, none⟩), .pointer none, .int .i64 4]),
   .val (.pointer (some ⟨b, 0, none⟩)),
   .val (.pointer (some ⟨b, 0, none⟩)),
   .val (.pointer (some ⟨b, 10, none⟩)),
   .val (.agg #[.pointer none, .pointer none, .pointer none, .pointer (some ⟨b, 10, none⟩), .int .i64 1]),
   .val (.pointer (some ⟨b, 0, none⟩)),
   .val (.pointer (some ⟨b, 0, none⟩)),
   .val (.pointer (some ⟨b, 11, none⟩)),
   .val (.agg #[.pointer none, .pointer none, .pointer (some ⟨b, 11, none⟩), .pointer none, .int .i64 4]),
   .val (.pointer (some ⟨b, 0, none⟩)),
   .val (.pointer (some ⟨b, 0, none⟩)),
   .val (.pointer (some ⟨b, 12, none⟩)),
   .val (.agg #[.pointer none, .pointer none, .pointer (some ⟨b, 12, none⟩), .pointer none, .int .i64 1]),
   .val (.pointer (some ⟨b, 0, none⟩)),
   .val (.pointer (some ⟨b, 0, none⟩)),
   .val (.pointer (some ⟨b, 13, none⟩)),
   .val (.agg #[.pointer none, .pointer none, .pointer none, .pointer (some ⟨b, 13, none⟩), .int .i64 1]),
   .row #[.pointer none, .pointer none, .pointer none, .pointer (some ⟨b, 8, none⟩), .int .i64 1, .pointer none, .pointer none, .pointer (some ⟨b, 9, none⟩), .pointer none, .int .i64 4, .pointer none, .pointer none, .pointer none, .pointer (some ⟨b, 10, none⟩), .int .i64 1, .pointer none, .pointer none, .pointer (some ⟨b, 11, none⟩), .pointer none, .int .i64 4, .pointer none, .pointer none, .pointer (some ⟨b, 12, none⟩), .pointer none, .int .i64 1, .pointer none, .pointer none, .pointer none, .pointer (some ⟨b, 13, none⟩), .int .i64 1] 6,
   .val (.pointer (some ⟨b, 0, none⟩)),
   .val (.pointer (some ⟨b, 0, none⟩)),
   .val (.pointer (some ⟨b, 5, none⟩)),
   .val (.agg #[.pointer none, .pointer none, .pointer (some ⟨b, 5, none⟩), .pointer none, .int .i64 1]),
   .row #[.pointer none, .pointer none, .pointer (some ⟨b, 5, none⟩), .pointer none, .int .i64 1] 1,
   .val (.pointer (some ⟨b, 0, none⟩)),
   .val (.pointer (some ⟨b, 0, none⟩)),
   .val (.pointer (some ⟨b, 5, none⟩)),
   .val (.agg #[.pointer none, .pointer none, .pointer (some ⟨b, 5, none⟩), .pointer none, .int .i64 1]),
   .row #[.pointer none, .pointer none, .pointer (some ⟨b, 5, none⟩), .pointer none, .int .i64 1] 1,
   .val (.pointer (some ⟨b, 0, none⟩)),
   .val (.pointer (some ⟨b, 0, none⟩)),
   .val (.pointer (some ⟨b, 7, none⟩)),
   .val (.agg #[.pointer none, .pointer none, .pointer none, .pointer (some ⟨b, 7, none⟩), .int .i64 1]),
   .row #[.pointer none, .pointer none, .pointer none, .pointer (some ⟨b, 7, none⟩), .int .i64 1] 1,
   .val (.pointer (some ⟨b, 0, none⟩)),
   .val (.pointer (some ⟨b, 0, none⟩)),
   .val (.pointer (some ⟨b, 11, none⟩)),
   .val (.agg #[.pointer none, .pointer none, .pointer (some ⟨b, 11, none⟩), .pointer none, .int .i64 4]),
   .row #[.pointer none, .pointer none, .pointer (some ⟨b, 11, none⟩), .pointer none, .int .i64 4] 1,
   .val (.pointer (some ⟨b, 0, none⟩)),
   .val (.pointer (some ⟨b, 0, none⟩)),
   .val (.pointer (some ⟨b, 1, none⟩)),
   .val (.agg #[.pointer (some ⟨b, 1, none⟩), .pointer none, .pointer none, .pointer none, .int .i64 8]),
   .row #[.pointer (some ⟨b, 1, none⟩), .pointer none, .pointer none, .pointer none, .int .i64 8] 1,
   .val (.pointer (some ⟨b, 0, none⟩)),
   .val (.pointer (some ⟨b, 0, none⟩)),
   .val (.pointer (some ⟨b, 6, none⟩)),
   .val (.agg #[.pointer none, .pointer none, .pointer (some ⟨b, 6, none⟩), .pointer none, .int .i64 1]),
   .row #[.pointer none, .pointer none, .pointer (some ⟨b, 6, none⟩), .pointer none, .int .i64 1] 1,
   .all]
def Rows48 (b : Nat) (w : World) (v : Value) : Prop := ∃ g0 g1 g2 g3 g4 g5 g6 g7 g8 g9 g10, v = .agg #[.slice none 0 0, .slice (some ⟨g0, 0, none⟩) 1 1, .slice (some ⟨g1, 0, none⟩) 4 4, .slice (some ⟨g2, 0, none⟩) 2 2, .slice (some ⟨g3, 0, none⟩) 1 1, .slice (some ⟨g4, 0, none⟩) 6 6, .slice (some ⟨g5, 0, none⟩) 1 1, .slice (some ⟨g6, 0, none⟩) 1 1, .slice (some ⟨g7, 0, none⟩) 1 1, .slice (some ⟨g8, 0, none⟩) 1 1, .slice (some ⟨g9, 0, none⟩) 1 1, .slice (some ⟨g10, 0, none⟩) 1 1] ∧ Blk w g0 96 #[.pointer (some ⟨b, 1, none⟩), .pointer none, .pointer none, .pointer none, .int .i64 8] ∧ Blk w g1 96 #[.pointer none, .pointer (some ⟨b, 3, none⟩), .pointer none, .pointer none, .int .i64 4, .pointer none, .pointer (some ⟨b, 4, none⟩), .pointer none, .pointer none, .int .i64 4, .pointer none, .pointer none, .pointer (some ⟨b, 5, none⟩), .pointer none, .int .i64 1, .pointer none, .pointer none, .pointer none, .pointer (some ⟨b, 7, none⟩), .int .i64 1] ∧ Blk w g2 96 #[.pointer (some ⟨b, 2, none⟩), .pointer none, .pointer none, .pointer none, .int .i64 8, .pointer none, .pointer (some ⟨b, 4, none⟩), .pointer none, .pointer none, .int .i64 4] ∧ Blk w g3 96 #[.pointer (some ⟨b, 2, none⟩), .pointer none, .pointer none, .pointer none, .int .i64 8] ∧ Blk w g4 96 #[.pointer none, .pointer none, .pointer none, .pointer (some ⟨b, 8, none⟩), .int .i64 1, .pointer none, .pointer none, .pointer (some ⟨b, 9, none⟩), .pointer none, .int .i64 4, .pointer none, .pointer none, .pointer none, .pointer (some ⟨b, 10, none⟩), .int .i64 1, .pointer none, .pointer none, .pointer (some ⟨b, 11, none⟩), .pointer none, .int .i64 4, .pointer none, .pointer none, .pointer (some ⟨b, 12, none⟩), .pointer none, .int .i64 1, .pointer none, .pointer none, .pointer none, .pointer (some ⟨b, 13, none⟩), .int .i64 1] ∧ Blk w g5 96 #[.pointer none, .pointer none, .pointer (some ⟨b, 5, none⟩), .pointer none, .int .i64 1] ∧ Blk w g6 96 #[.pointer none, .pointer none, .pointer (some ⟨b, 5, none⟩), .pointer none, .int .i64 1] ∧ Blk w g7 96 #[.pointer none, .pointer none, .pointer none, .pointer (some ⟨b, 7, none⟩), .int .i64 1] ∧ Blk w g8 96 #[.pointer none, .pointer none, .pointer (some ⟨b, 11, none⟩), .pointer none, .int .i64 4] ∧ Blk w g9 96 #[.pointer (some ⟨b, 1, none⟩), .pointer none, .pointer none, .pointer none, .int .i64 8] ∧ Blk w g10 96 #[.pointer none, .pointer none, .pointer (some ⟨b, 6, none⟩), .pointer none, .int .i64 1]
theorem Rows48.fine {b : Nat} {w w' : World} {v : Value} (h : Rows48 b w v) (f : Fine w w') : Rows48 b w' v := by
  obtain ⟨g0, g1, g2, g3, g4, g5, g6, g7, g8, g9, g10, e, h0, h1, h2, h3, h4, h5, h6, h7, h8, h9, h10⟩ := h
  exact ⟨g0, g1, g2, g3, g4, g5, g6, g7, g8, g9, g10, e, h0.fine f, h1.fine f, h2.fine f, h3.fine f, h4.fine f, h5.fine f, h6.fine f, h7.fine f, h8.fine f, h9.fine f, h10.fine f⟩
def Sp48 (b n0 : Nat) (s : Nat) (v : Value) (w : World) : Prop :=
  match ((tab48 b)[s]?).getD .no with
  | .no => False
  | .val x => v = x
  | .row cs n => ∃ g, n0 ≤ g ∧ v = .slice (some ⟨g, 0, none⟩) n n ∧ Blk w g 96 cs
  | .all => Rows48 b w v
  | .box => ∃ g, n0 ≤ g ∧ v = .pointer (some ⟨g, 0, none⟩) ∧ Blk w g 110 (Array.replicate 12 (.slice none 0 0))
theorem Sp48.fine {b n0 s : Nat} {v : Value} {w w' : World} (h : Sp48 b n0 s v w) (f : Fine w w') : Sp48 b n0 s v w' := by
  unfold Sp48 at *
  split at h
  · exact h
  · exact h
  · obtain ⟨g, h1, h2, h3⟩ := h
    exact ⟨g, h1, h2, h3.fine f⟩
  · exact h.fine f
  · obtain ⟨g, h1, h2, h3⟩ := h
    exact ⟨g, h1, h2, h3.fine f⟩
def dst48 (i : Nat) : Option Nat := if i < 92 then some (i + 4) else if i = 92 then some 3 else none
/-- A part does what its slot asks, where what it takes is there. -/
def Does (b n0 : Nat) (o : Oper) : Prop :=
  ∀ (d : Nat), o.dst = some d → ∀ (a : Act) (w : World) (K : Act → World → Prop) (Q : Exit → Act → World → Prop), n0 ≤ w.heap.size →
    a.tmps[0]? = some (.pointer (some ⟨b, 0, none⟩)) → (∀ e : Edge, e ∈ o.after → Region.binds .any e = true → ∀ s, dst48 e.on = some s → ∃ v, a.tmps[s]? = some v ∧ Sp48 b n0 s v w) →
    (∀ v w', Sp48 b n0 d v w' → Fine w w' → K { tmps := a.tmps.setIfInBounds d v, defers := a.defers } w') → o.wp Tryd.prog a w K Q

/-- The last part: the table is stored into its box. -/
def Stores48 (b n0 : Nat) (o : Oper) : Prop :=
  ∀ (a : Act) (w : World) (K : Act → World → Prop) (Q : Exit → Act → World → Prop) (g g0 g1 g2 g3 g4 g5 g6 g7 g8 g9 g10 : Nat),
    a.tmps[3]? = some (.pointer (some ⟨g, 0, none⟩)) → a.tmps[95]? = some (.agg #[.slice none 0 0, .slice (some ⟨g0, 0, none⟩) 1 1, .slice (some ⟨g1, 0, none⟩) 4 4, .slice (some ⟨g2, 0, none⟩) 2 2, .slice (some ⟨g3, 0, none⟩) 1 1, .slice (some ⟨g4, 0, none⟩) 6 6, .slice (some ⟨g5, 0, none⟩) 1 1, .slice (some ⟨g6, 0, none⟩) 1 1, .slice (some ⟨g7, 0, none⟩) 1 1, .slice (some ⟨g8, 0, none⟩) 1 1, .slice (some ⟨g9, 0, none⟩) 1 1, .slice (some ⟨g10, 0, none⟩) 1 1]) → Blk w g 110 (Array.replicate 12 (.slice none 0 0)) →
    (∀ w', Kept (fun x => x = g) w w' → Blk w' g 110 #[.slice none 0 0, .slice (some ⟨g0, 0, none⟩) 1 1, .slice (some ⟨g1, 0, none⟩) 4 4, .slice (some ⟨g2, 0, none⟩) 2 2, .slice (some ⟨g3, 0, none⟩) 1 1, .slice (some ⟨g4, 0, none⟩) 6 6, .slice (some ⟨g5, 0, none⟩) 1 1, .slice (some ⟨g6, 0, none⟩) 1 1, .slice (some ⟨g7, 0, none⟩) 1 1, .slice (some ⟨g8, 0, none⟩) 1 1, .slice (some ⟨g9, 0, none⟩) 1 1, .slice (some ⟨g10, 0, none⟩) 1 1] → K a w') → o.wp Tryd.prog a w K Q
def AllDo (b n0 : Nat) : List Oper → Prop
  | [] => False
  | [o] => Stores48 b n0 o
  | o :: o' :: l => Does b n0 o ∧ AllDo b n0 (o' :: l)
theorem AllDo.at_ {b n0 : Nat} : ∀ {l : List Oper} {i : Nat} {o : Oper}, AllDo b n0 l → l[i]? = some o → (i + 1 < l.length → Does b n0 o) ∧ (i + 1 = l.length → Stores48 b n0 o)
  | [], i, o, h, e => by cases h
  | [x], 0, o, h, e => by
    simp at e; subst e
    exact ⟨fun hl => by simp at hl, fun _ => h⟩
  | [x], i + 1, o, h, e => by simp at e
  | x :: y :: l, 0, o, h, e => by
    simp at e; subst e
    exact ⟨fun _ => h.1, fun hl => by simp at hl⟩
  | x :: y :: l, i + 1, o, h, e => by
    have h2 := AllDo.at_ (l := y :: l) (i := i) h.2 (by simpa using e)
    exact ⟨fun hl => h2.1 (by simpa using hl), fun hl => h2.2 (by simpa using hl)⟩
def Inv48 (b : Nat) (w0 : World) (a0 : Act) (listed : Array Bool) (a : Act) (w : World) : Prop :=
  a.defers = a0.defers ∧ a.tmps.size = a0.tmps.size ∧ Fine w0 w ∧ (∀ t, t < 3 ∨ 96 ≤ t → a.tmps[t]? = a0.tmps[t]?) ∧ ∀ i d, dst48 i = some d → listed[i]? = some true → ∃ v, a.tmps[d]? = some v ∧ Sp48 b w0.heap.size d v w
/-- What the statement leaves. -/
def T48 (b : Nat) (w0 : World) (a0 : Act) (a : Act) (w : World) : Prop :=
  a.defers = a0.defers ∧ a.tmps.size = a0.tmps.size ∧ Fine w0 w ∧ (∀ t, t < 3 ∨ 96 ≤ t → a.tmps[t]? = a0.tmps[t]?) ∧
    ∃ g g0 g1 g2 g3 g4 g5 g6 g7 g8 g9 g10, a.tmps[3]? = some (.pointer (some ⟨g, 0, none⟩)) ∧ Blk w g 110 #[.slice none 0 0, .slice (some ⟨g0, 0, none⟩) 1 1, .slice (some ⟨g1, 0, none⟩) 4 4, .slice (some ⟨g2, 0, none⟩) 2 2, .slice (some ⟨g3, 0, none⟩) 1 1, .slice (some ⟨g4, 0, none⟩) 6 6, .slice (some ⟨g5, 0, none⟩) 1 1, .slice (some ⟨g6, 0, none⟩) 1 1, .slice (some ⟨g7, 0, none⟩) 1 1, .slice (some ⟨g8, 0, none⟩) 1 1, .slice (some ⟨g9, 0, none⟩) 1 1, .slice (some ⟨g10, 0, none⟩) 1 1] ∧ Blk w g0 96 #[.pointer (some ⟨b, 1, none⟩), .pointer none, .pointer none, .pointer none, .int .i64 8] ∧ Blk w g1 96 #[.pointer none, .pointer (some ⟨b, 3, none⟩), .pointer none, .pointer none, .int .i64 4, .pointer none, .pointer (some ⟨b, 4, none⟩), .pointer none, .pointer none, .int .i64 4, .pointer none, .pointer none, .pointer (some ⟨b, 5, none⟩), .pointer none, .int .i64 1, .pointer none, .pointer none, .pointer none, .pointer (some ⟨b, 7, none⟩), .int .i64 1] ∧ Blk w g2 96 #[.pointer (some ⟨b, 2, none⟩), .pointer none, .pointer none, .pointer none, .int .i64 8, .pointer none, .pointer (some ⟨b, 4, none⟩), .pointer none, .pointer none, .int .i64 4] ∧ Blk w g3 96 #[.pointer (some ⟨b, 2, none⟩), .pointer none, .pointer none, .pointer none, .int .i64 8] ∧ Blk w g4 96 #[.pointer none, .pointer none, .pointer none, .pointer (some ⟨b, 8, none⟩), .int .i64 1, .pointer none, .pointer none, .pointer (some ⟨b, 9, none⟩), .pointer none, .int .i64 4, .pointer none, .pointer none, .pointer none, .pointer (some ⟨b, 10, none⟩), .int .i64 1, .pointer none, .pointer none, .pointer (some ⟨b, 11, none⟩), .pointer none, .int .i64 4, .pointer none, .pointer none, .pointer (some ⟨b, 12, none⟩), .pointer none, .int .i64 1, .pointer none, .pointer none, .pointer none, .pointer (some ⟨b, 13, none⟩), .int .i64 1] ∧ Blk w g5 96 #[.pointer none, .pointer none, .pointer (some ⟨b, 5, none⟩), .pointer none, .int .i64 1] ∧ Blk w g6 96 #[.pointer none, .pointer none, .pointer (some ⟨b, 5, none⟩), .pointer none, .int .i64 1] ∧ Blk w g7 96 #[.pointer none, .pointer none, .pointer none, .pointer (some ⟨b, 7, none⟩), .int .i64 1] ∧ Blk w g8 96 #[.pointer none, .pointer none, .pointer (some ⟨b, 11, none⟩), .pointer none, .int .i64 4] ∧ Blk w g9 96 #[.pointer (some ⟨b, 1, none⟩), .pointer none, .pointer none, .pointer none, .int .i64 8] ∧ Blk w g10 96 #[.pointer none, .pointer none, .pointer (some ⟨b, 6, none⟩), .pointer none, .int .i64 1]
theorem dst48_of {i d : Nat} (h : dst48 i = some d) : (i < 92 ∧ d = i + 4) ∨ (i = 92 ∧ d = 3) := by
  unfold dst48 at h
  split at h
  · injection h with h; exact .inl ⟨by assumption, h.symm⟩
  · split at h
    · injection h with h; exact .inr ⟨by assumption, h.symm⟩
    · cases h
theorem region48 {id : Nat} {l : List Oper} {Q : Exit → Act → World → Prop} {a0 : Act} {w0 : World} (b : Nat) (hl : l.length = 94) (hsz : 96 ≤ a0.tmps.size) (h0 : a0.tmps[0]? = some (.pointer (some ⟨b, 0, none⟩)))
    (hall : AllDo b w0.heap.size l) (hg : l.map (·.guard) = List.replicate 94 none) (hd : l.map (·.dst) = (List.range 94).map dst48)
    (hb : (l.zipIdx.all fun z => z.1.after.all fun e => decide (e.on < z.2)) = true)
    (hc : ((l[93]?).map fun o => (List.range 93).all fun j => o.after.any fun e => e.on == j && Region.binds .any e) = some true)
    (hQ : ∀ a w, T48 b w0 a0 a w → Q .normal a w) : (Code.region id l.toArray true).wp Tryd.prog Q a0 w0 := by
  have hsize : l.toArray.size = 94 := by simpa using hl
  have hdst : ∀ (i : Nat) (o : Oper), l[i]? = some o → o.dst = dst48 i := fun i o ho => by
    have h1 : (l.map (·.dst))[i]? = some o.dst := by rw [List.getElem?_map, ho]; rfl
    have hi := (List.getElem?_eq_some_iff.1 ho).1
    rw [hd, List.getElem?_map, List.getElem?_range (by omega)] at h1
    simpa using h1.symm
  have hgd : ∀ (i : Nat) (o : Oper), l[i]? = some o → o.guard = none := fun i o ho => by
    have h1 : (l.map (·.guard))[i]? = some o.guard := by rw [List.getElem?_map, ho]; rfl
    rw [hg, List.getElem?_replicate] at h1
    split at h1
    · exact (Option.some.inj h1).symm
    · cases h1
  refine wp_region_inv (by kernel_rfl) (fun listed a w => (listed[93]? = some false → Inv48 b w0 a0 listed a w) ∧ (listed[93]? = some true → T48 b w0 a0 a w ∧ ∀ j, j < 94 → listed[j]? = some true)) ?_ ?_ ?_
  · refine ⟨fun _ => ⟨rfl, rfl, (Fine.refl w0).drew, fun _ _ => rfl, fun i d _ hli => ?_⟩, fun h => ?_⟩
    · rw [Array.getElem?_replicate] at hli
      split at hli <;> cases hli
    · rw [Array.getElem?_replicate] at h
      split at h <;> cases h
  · intro listed a w i hs hR hi
    obtain ⟨h1, h2, h3⟩ := ready_mem hi
    rw [hsize] at h1 hs
    have hlt : i < listed.size := by omega
    rw [Array.getD_eq_getD_getElem?, Array.getElem?_eq_getElem hlt, Option.getD_some] at h2
    have hli : listed[i]? = some false := by rw [Array.getElem?_eq_getElem hlt, h2]
    obtain ⟨o, ho⟩ : ∃ o, l[i]? = some o := ⟨l[i]'(by omega), List.getElem?_eq_getElem _⟩
    have ho' : l.toArray[i]? = some o := by simpa using ho
    have h93 : listed[93]? = some false := by
      cases hx : listed[93]? with
      | none => rw [Array.getElem?_eq_none_iff] at hx; omega
      | some x =>
        cases x with
        | false => rfl
        | true => have := (hR.2 hx).2 i h1; rw [hli] at this; cases this
    have hI := hR.1 h93
    obtain ⟨k1, k2, k3, k4, k5⟩ := hI
    unfold wpOp
    rw [ho']
    simp only
    have hw : Region.wanted o (yielded l.toArray a.tmps) = true := by unfold Region.wanted; rw [hgd i o ho]
    rw [if_pos hw]
    left
    have hdep := h3 o ho'
    have hdi := hdst i o ho
    by_cases h93i : i = 93
    · subst h93i
      have hcov : ∀ j, j < 93 → listed[j]? = some true := fun j hj => by
        rw [ho] at hc
        simp only [Option.map_some, Option.some.injEq] at hc
        have := List.all_eq_true.1 hc j (by simpa using hj)
        obtain ⟨k, hk, hee⟩ := Array.any_eq_true.1 this
        simp only [Bool.and_eq_true, beq_iff_eq] at hee
        have := hdep _ (Array.getElem_mem hk) hee.2
        rwa [hee.1] at this
      have hst := (hall.at_ ho).2 (by omega)
      obtain ⟨v95, e95, hv95⟩ := k5 91 95 rfl (hcov 91 (by omega))
      obtain ⟨v3, e3, g, hgn, rfl, hbg⟩ := k5 92 3 rfl (hcov 92 (by omega))
      obtain ⟨g0, g1, g2, g3, g4, g5, g6, g7, g8, g9, g10, rfl, h0, h1, h2, h3, h4, h5, h6, h7, h8, h9, h10⟩ := hv95
      refine hst a w _ Q g g0 g1 g2 g3 g4 g5 g6 g7 g8 g9 g10 e3 e95 hbg (fun w' hk hb' => ⟨fun hx => ?_, fun _ => ⟨⟨k1, k2, k3.kept hk (fun x hx e => by omega), k4, g, g0, g1, g2, g3, g4, g5, g6, g7, g8, g9, g10, e3, hb', h0.kept hk (h0.ne_ hbg (by decide)), h1.kept hk (h1.ne_ hbg (by decide)), h2.kept hk (h2.ne_ hbg (by decide)), h3.kept hk (h3.ne_ hbg (by decide)), h4.kept hk (h4.ne_ hbg (by decide)), h5.kept hk (h5.ne_ hbg (by decide)), h6.kept hk (h6.ne_ hbg (by decide)), h7.kept hk (h7.ne_ hbg (by decide)), h8.kept hk (h8.ne_ hbg (by decide)), h9.kept hk (h9.ne_ hbg (by decide)), h10.kept hk (h10.ne_ hbg (by decide))⟩, fun j hj => ?_⟩⟩)
      · rw [Array.getElem?_setIfInBounds_self_of_lt (by omega)] at hx; cases hx
      · by_cases hj93 : j = 93
        · subst hj93; rw [Array.getElem?_setIfInBounds_self_of_lt (by omega)]
        · rw [Array.getElem?_setIfInBounds_ne (by omega)]; exact hcov j (by omega)
    · have hdo := (hall.at_ ho).1 (by omega)
      obtain ⟨d, hd'⟩ : ∃ d, dst48 i = some d := by
        unfold dst48
        split
        · exact ⟨_, rfl⟩
        · exact ⟨3, by rw [if_pos (by omega)]⟩
      have hdd := dst48_of hd'
      refine hdo d (hdi.trans hd') a w _ Q k3.size (by rw [k4 0 (by omega), h0]) (fun e he hbe s hs' => k5 e.on s hs' (hdep e he hbe)) (fun v w' hv hf => ⟨fun _ => ⟨k1, by simpa using k2, k3.trans hf, fun t ht => ?_, fun j d' hj hlj => ?_⟩, fun hx => ?_⟩)
      · rw [Array.getElem?_setIfInBounds_ne (by omega)]; exact k4 t ht
      · by_cases hji : j = i
        · subst hji
          obtain rfl : d = d' := by rw [hd'] at hj; exact Option.some.inj hj
          exact ⟨v, by rw [Array.getElem?_setIfInBounds_self_of_lt (by omega)], hv⟩
        · rw [Array.getElem?_setIfInBounds_ne (by omega)] at hlj
          obtain ⟨v', e', hv'⟩ := k5 j d' hj hlj
          have hne : d ≠ d' := by have := dst48_of hj; omega
          exact ⟨v', by rw [Array.getElem?_setIfInBounds_ne hne]; exact e', hv'.fine hf⟩
      · rw [Array.getElem?_setIfInBounds_ne (by omega), h93] at hx; cases hx
  · intro listed a w hs hR hr
    have hall' := ready_nil hs (fun i o ho e he => by
      have ho2 : l[i]? = some o := by simpa using ho
      have hm : (o, i) ∈ l.zipIdx := by rw [List.mem_zipIdx_iff_getElem?]; exact ho2
      have := List.all_eq_true.1 hb _ hm
      have := Array.all_eq_true_iff_forall_mem.1 this e he
      simpa using this) hr 93 (by omega)
    have hlt : 93 < listed.size := by rw [hs, hsize]; omega
    rw [Array.getD_eq_getD_getElem?, Array.getElem?_eq_getElem hlt, Option.getD_some] at hall'
    exact hQ a w (hR.2 (by rw [Array.getElem?_eq_getElem hlt, hall'])).1
def SlotsAre (t : Array Value) : Nat → List Value → Prop
  | _, [] => True
  | k, v :: l => t[k]? = some v ∧ SlotsAre t (k + 1) l
theorem SlotsAre.at_ {t : Array Value} : ∀ {l : List Value} {k : Nat}, SlotsAre t k l → ∀ i, i < l.length → t[k + i]? = l[i]?
  | [], k, _, i, hi => by simp at hi
  | v :: l, k, h, 0, _ => h.1
  | v :: l, k, h, i + 1, hi => by
    have := SlotsAre.at_ h.2 i (by simpa using hi)
    rw [show k + (i + 1) = k + 1 + i by omega]
    simpa using this
theorem Act.lit {a : Act} {l : List Value} (hd : a.defers = []) (hs : a.tmps.size = l.length) (h : SlotsAre a.tmps 0 l) : a = { tmps := l.toArray, defers := [] } := by
  obtain ⟨t, d⟩ := a
  simp only at hd hs h
  subst hd
  congr 1
  apply Array.ext_getElem?
  intro i
  by_cases hi : i < l.length
  · have := h.at_ i hi
    rw [Nat.zero_add] at this
    rw [this]; simp
  · rw [Array.getElem?_eq_none (by omega), Array.getElem?_eq_none (by simpa using hi)]
end Go.Proofs.YthnennleblgjeaaDoor
