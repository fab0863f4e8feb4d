/- The laws of outq: acts, as they lie; what a walk holds of two queues. -/
import Derived.Test.YtjldgialhgfhmaaOutq11
import Derived.Test.YtjldgialhgfhmaaOutqRef4
namespace Go.Proofs.Ytjldgialhgfhmaa
open Go.ChangeShapes Go.WideShapes Go.ChangeAt Go.RowKit
set_option linter.unusedVariables false

structure ActR where
  kind : Int
  n : Int
  r : Raw
def layA : Lay ActR 8 := { cs := fun a => .int .i64 a.kind :: .int .i64 a.n :: a.r.cells, len := fun _ => rfl, one := fun x u hu => by simp [Raw.cells] at hu; rcases hu with rfl | rfl | rfl | rfl | rfl | rfl | rfl | rfl <;> rfl, pos := by decide }
section
variable {H : Type} {enc : TypeId × Value → H} {w : World} {m : Nat}
set_option maxRecDepth 20000 in
theorem act_of {fs : Array Field} {cs : List Value} (hfs : Try.prog.underlying 61 = some (.struct fs)) (h : Fielded enc Try.prog w (fun _ => true) true m fs cs) (hl : cs.length = 8) :
    ∃ (a : ActR) (p : Pc), cs = layA.cs a ∧ Is w (fun b => b < w.heap.size) a.r p := by
  have e1 := hfs.symm.trans Try.underlying61
  injection e1 with e1
  injection e1 with e1
  subst e1
  have h0 := (h.int 0 0 3 (by kernel_rfl) (by kernel_rfl) Try.underlying3).1
  have h1 := (h.int 1 1 3 (by kernel_rfl) (by kernel_rfl) Try.underlying3).1
  obtain ⟨x, hx⟩ := h 2 _ rfl
  obtain ⟨m', hF, hl'⟩ := fielded_of Try.underlying46 hx
  obtain ⟨r, p, h2, hp⟩ := piece_of Try.underlying46 hF (hl'.trans (by kernel_rfl))
  refine ⟨⟨cellInt cs[0]?, cellInt cs[1]?, r⟩, p, ?_, hp⟩
  have h3 : (cs.drop 2).take 6 = r.cells := h2
  rw [List.take_of_length_le (by simp; omega)] at h3
  show cs = _ :: _ :: r.cells
  rw [← h3]
  match cs, hl with
  | [c0, c1, c2, c3, c4, c5, c6, c7], _ =>
    simp at h0 h1
    simp [← h0, ← h1]
theorem open_acts {t : TypeId} (ht : Try.prog.underlying t = some (.slice 61)) {a : Option Addr} {len cap : Nat} {d : DataW H} {p : List MemPlace} (h : DataW.Trod enc Try.prog w 0 (fun _ => true) true t (.slice a len cap) d p) :
    ∃ z : List ActR × List Pc, RS layA w a cap z.1 ∧ z.1.length = len ∧ Iss w (fun b => b < w.heap.size) (z.1.map (·.r)) z.2 := by
  obtain ⟨h1, h2, h3, h4⟩ := slice_structs 8 ht Try.underlying61 (by kernel_rfl) (by omega) h
  rcases Nat.eq_zero_or_pos len with h0 | hpos
  · subst h0
    exact ⟨([], []), ⟨Nat.zero_le _, h2, fun e => (h3 e).2, fun h => absurd h (by simp)⟩, rfl, Iss.nil_ _ _⟩
  · obtain ⟨b, off, ha, hb, hel⟩ := h4 hpos
    have key : ∀ i, ∃ z : ActR × Pc, i < len → (∀ j, j < 8 → w.cell? ⟨b, off + (i * 8 + j), none⟩ = (layA.cs z.1)[j]?) ∧ Is w (fun b => b < w.heap.size) z.1.r z.2 := by
      intro i
      by_cases hi : i < len
      · obtain ⟨cs, m, hl, hc, hF⟩ := hel i hi
        obtain ⟨r, p, rfl, hp⟩ := act_of Try.underlying61 hF hl
        exact ⟨(r, p), fun _ => ⟨hc, hp⟩⟩
      · exact ⟨(⟨0, 0, 0, false, false, none, 0, 0, 0, false⟩, ⟨0, false, false, [], 0, false⟩), fun h => absurd h hi⟩
    obtain ⟨f, hf⟩ := Classical.axiomOfChoice key
    refine ⟨((List.range len).map fun i => (f i).1, (List.range len).map fun i => (f i).2), RS.ofCells _ h1 h2 h3 (fun _ => ⟨b, off, ha, hb, fun i hi j hj => (hf i hi).1 j hj⟩), by simp, by simp, fun i r p e1 e2 => ?_⟩
    simp only [List.getElem?_map, Option.map_eq_some_iff] at e1 e2
    obtain ⟨_, ⟨i1, e1, rfl⟩, rfl⟩ := e1
    obtain ⟨i2, e2, rfl⟩ := e2
    obtain ⟨hi, rfl⟩ := List.getElem?_eq_some_iff.1 e1
    obtain ⟨_, rfl⟩ := List.getElem?_eq_some_iff.1 e2
    simp only [List.getElem_range]
    exact (hf i (by simpa using hi)).2
end
theorem Kept.fresh {S : Nat → Prop} {a w : World} (h : Kept S a w) {p : Addr} (hp : a.heap.size ≤ p.block) (u : Value) : Kept S a (w.setCell p u) := h.setCell (fun hl => absurd hl (Nat.not_lt_of_le hp)) u
/-- A store to one of the bytes that are read. -/
theorem RS.put {k : IntKind} {w : World} {A : Option Addr} {c : Nat} {ys : List Int} {b off j : Nat} {y : Int} (h : RS (layI k) w A c ys) (hA : A = some ⟨b, off, none⟩) (hy : ys[j]? = some y) (x : Int) : RS (layI k) (w.setCell ⟨b, off + j, none⟩ (.int k x)) A c (ys.set j x) := by
  have hj := (List.getElem?_eq_some_iff.1 hy).1
  refine ⟨by rw [List.length_set]; exact h.1, h.2.1, h.2.2.1, fun hp => ?_⟩
  obtain ⟨b', off', e, hb, hc⟩ := h.2.2.2 (by omega)
  rw [hA] at e
  injection e with e
  injection e with e1 e2
  subst e1 e2
  refine ⟨b, off, hA, by simpa [World.setCell] using hb, fun i v hv => ?_⟩
  rw [flatI, List.getElem?_map] at hv
  obtain ⟨z, hz, rfl⟩ := Option.map_eq_some_iff.1 hv
  by_cases hij : j = i
  · subst hij
    rw [List.getElem?_set_self hj] at hz
    injection hz with hz
    subst hz
    have h0 := hc j (.int k y) (by rw [flatI, List.getElem?_map, hy]; rfl)
    exact World.cell?_setCell_same' w _ _ (by rw [h0]; rfl)
  · rw [List.getElem?_set_ne hij] at hz
    rw [World.cell?_setCell_other (h := show (⟨b, off + j, none⟩ : Addr) ≠ ⟨b, off + i, none⟩ from by intro h; injection h with h1 h2; omega)]
    exact hc i _ (by rw [flatI, List.getElem?_map, hz]; rfl)
/-- A box of six cells, stored one behind the other. -/
theorem Blk.six {w : World} {b : Nat} {t : TypeId} {v0 v1 v2 v3 v4 v5 : Value} (h : Blk w b t #[.int .u32 0, .bool false, .bool false, .slice none 0 0, .int .i64 0, .bool false]) :
    Blk ((((((w.setCell ⟨b, 0, none⟩ v0).setCell ⟨b, 1, none⟩ v1).setCell ⟨b, 2, none⟩ v2).setCell ⟨b, 3, none⟩ v3).setCell ⟨b, 4, none⟩ v4).setCell ⟨b, 5, none⟩ v5) b t #[v0, v1, v2, v3, v4, v5] :=
  ((((((h.set_ 0 v0).set_ 1 v1).set_ 2 v2).set_ 3 v3).set_ 4 v4).set_ 5 v5).cast rfl
theorem Blk.sixFar {w : World} {b c : Nat} {t : TypeId} {cs : Array Value} {v0 v1 v2 v3 v4 v5 : Value} (h : Blk w c t cs) (hc : c ≠ b) :
    Blk ((((((w.setCell ⟨b, 0, none⟩ v0).setCell ⟨b, 1, none⟩ v1).setCell ⟨b, 2, none⟩ v2).setCell ⟨b, 3, none⟩ v3).setCell ⟨b, 4, none⟩ v4).setCell ⟨b, 5, none⟩ v5) c t cs :=
  (((((h.far hc v0).far hc v1).far hc v2).far hc v3).far hc v4).far hc v5
/-- Bytes of a slice, stored one by one. -/
def Bump (w0 wx : World) (A : Option Addr) (c n : Nat) : Prop :=
  Kept (fun b => 0 < n ∧ ∃ o, A = some ⟨b, o, none⟩) w0 wx ∧ (∃ ys : List Int, ys.length = n ∧ RS LB wx A c ys) ∧ (∀ b o, A = some ⟨b, o, none⟩ → 0 < n → Unf wx b)
theorem Bump.start {w : World} {A : Option Addr} {c : Nat} {xs : List Int} (h : RS LB w A c xs) (hu : ∀ b o, A = some ⟨b, o, none⟩ → 0 < xs.length → Unf w b) : Bump w w A c xs.length := ⟨Kept.refl _ _, ⟨xs, rfl, h⟩, hu⟩
theorem Bump.at_ {w0 wx : World} {A : Option Addr} {c n j : Nat} (h : Bump w0 wx A c n) (hj : j < n) :
    ∃ b o y, A = some ⟨b, o, none⟩ ∧ wx.cell? ⟨b, o + j, none⟩ = some (.int .u8 y) ∧ wx.frozen? ⟨b, o + j, none⟩ = false ∧ ∀ v, Bump w0 (wx.setCell ⟨b, o + j, none⟩ (.int .u8 v)) A c n := by
  obtain ⟨h1, ⟨ys, hl, h2⟩, h3⟩ := h
  have hy : ys[j]? = some (ys[j]'(by omega)) := List.getElem?_eq_getElem (by omega)
  obtain ⟨b, o, hA, hb, hc⟩ := h2.at_ hy
  have hc0 := hc 0 _ rfl
  simp only [Nat.mul_one, Nat.add_zero] at hc0
  refine ⟨b, o, _, hA, hc0, h3 b o hA (by omega) _, fun v => ⟨h1.setIn ⟨by omega, o, hA⟩ _, ⟨ys.set j v, by rw [List.length_set]; exact hl, RS.put h2 hA hy v⟩, fun b' o' e hn k => ?_⟩⟩
  rw [World.frozen?_setCell]
  exact h3 b' o' e hn k
def ackN (ps : List Pc) (e a : Int) : Nat := if dist (beginQ ps e) a ≤ dist (beginQ ps e) e then ackK ps (dist (beginQ ps e) a) else 0
def ackB (ps : List Pc) (e a : Int) : Bool := decide (dist (beginQ ps e) a ≤ dist (beginQ ps e) e)
def Acked (F : Nat → Prop) (g : Nat) (L R : List Pc) (e : Int) (b : Bool) (w : World) (x : Ending) (w' : World) : Prop :=
  ∃ A c rs F', x = .returned (.tuple #[.slice A rs.length c, .bool b]) ∧ RS layP w' A c rs ∧ Iss w' (fun b => w.heap.size ≤ b ∧ b < w'.heap.size ∧ ¬ F' b) rs L ∧ (∀ b o, A = some ⟨b, o, none⟩ → w.heap.size ≤ b ∧ b < w'.heap.size ∧ ¬ F' b) ∧ QB w' F' g R e ∧ Kept F w w' ∧ (∀ b, F' b → F b ∨ w.heap.size ≤ b)
def RAcked (F : Nat → Prop) (g : Nat) (L R : List Pc) (e : Int) (b : Bool) (w : World) (x : Ending) (w' : World) : Prop :=
  ∃ A c rs F', x = .returned (.agg #[.slice A rs.length c, .bool b]) ∧ RS layP w' A c rs ∧ Iss w' (fun _ => True) rs L ∧ RB w' F' g R e ∧ Kept F w w' ∧ (∀ b, F' b → F b ∨ w.heap.size ≤ b)
theorem acked (g : Nat) (F : Nat → Prop) (ps : List Pc) (e a : Int) (w : World) (h : QB w F g ps e) (hn : ps.length ≤ 1000) (hs : ∀ p ∈ ps, p.xs.length ≤ 1000) :
    Calls Try.prog 30 #[.pointer (some ⟨g, 0, none⟩), .int .u32 a] w (Acked F g (ps.take (ackN ps e a)) (ps.drop (ackN ps e a)) e (ackB ps e a) w) := by
  unfold ackN ackB
  by_cases ho : dist (beginQ ps e) a ≤ dist (beginQ ps e) e
  · rw [if_pos ho, decide_eq_true ho]
    refine (ack_any g F ps e a w h ho hn hs).mono ?_
    rintro x w' ⟨A, c, rs, F', h1, h2, h3, h4, h5, h6, h7⟩
    exact ⟨A, c, rs, F', h1, h2, h3, h4, h5, h6, h7⟩
  · rw [if_neg ho, decide_eq_false ho]
    refine (ack_over g F ps e a w h (by omega)).mono ?_
    rintro x w' ⟨h1, f⟩
    exact ⟨none, 0, [], F, h1, RS.nil_ _ _, Iss.nil_ _ _, fun b o e => (by cases e), h.fine f, Kept.of_fine f, fun b hb => .inl hb⟩
theorem refAcked (g : Nat) (F : Nat → Prop) (ps : List Pc) (e a : Int) (w : World) (h : RB w F g ps e) (hch : Chain ps e) (ht : total ps < 4294967296) (ha : 0 ≤ a ∧ a < 4294967296) (hn : ps.length ≤ 900) (hs : ∀ p ∈ ps, p.xs.length ≤ 1000) :
    Calls Try.prog 39 #[.pointer (some ⟨g, 0, none⟩), .int .u32 a] w (RAcked F g (ps.take (ackN ps e a)) (ps.drop (ackN ps e a)) e (ackB ps e a) w) := by
  unfold ackN ackB
  by_cases ho : dist (beginQ ps e) a ≤ dist (beginQ ps e) e
  · rw [if_pos ho, decide_eq_true ho]
    refine (refAck_any g F ps e a w h hch ht ha ho hn hs).mono ?_
    rintro x w' ⟨A, c, rs, F', h1, h2, h3, h4, h5, h6⟩
    exact ⟨A, c, rs, F', h1, h2, h3, h4, h5, h6⟩
  · rw [if_neg ho, decide_eq_false ho]
    refine (refAck_over g F ps e a w h hch ha (by omega)).mono ?_
    rintro x w' ⟨h1, f⟩
    exact ⟨none, 0, [], F, h1, RS.nil_ _ _, Iss.nil_ _ _, h.fine f, Kept.of_fine f, fun b hb => .inl hb⟩
/-- Two queues, the program's and the document's, that hold the same. -/
def StC (w : World) (n g h i : Nat) : Prop :=
  ∃ F G ps e, QB w F g ps e ∧ RB w G h ps e ∧ (∀ b, F b → n ≤ b ∧ ¬ G b) ∧ (∀ b, G b → n ≤ b) ∧ Chain ps e ∧ total ps ≤ 52 * i ∧ ps.length ≤ i ∧ (∀ q ∈ ps, q.xs.length ≤ 50)
theorem StC.fine {w w' : World} {n g h i : Nat} (s : StC w n g h i) (f : Fine w w') : StC w' n g h i := by
  obtain ⟨F, G, ps, e, h1, h2, h3, h4, h5⟩ := s
  exact ⟨F, G, ps, e, h1.fine f, h2.fine f, h3, h4, h5⟩
/-- Both queues pushed, and what they told in two boxes. -/
def R15 (w0 wx : World) (F G : Nat → Prop) (g h : Nat) (ps : List Pc) (e : Int) (p : Pc) (s11 s12 : Value) : Prop :=
  ∃ (x11 x12 : Nat) (rA rZ : Raw) (F' G' : Nat → Prop), s11 = .pointer (some ⟨x11, 0, none⟩) ∧ s12 = .pointer (some ⟨x12, 0, none⟩) ∧ Blk wx x11 46 rA.cells.toArray ∧ Blk wx x12 46 rZ.cells.toArray ∧ QB wx F' g ps e ∧ RB wx G' h ps e ∧
    (∀ b, F' b → (F b ∨ w0.heap.size ≤ b) ∧ ¬ G' b ∧ b ≠ x11) ∧ (∀ b, G' b → (G b ∨ w0.heap.size ≤ b) ∧ b ≠ x11) ∧ Is wx (fun b => w0.heap.size ≤ b ∧ b < wx.heap.size ∧ ¬ F' b ∧ ¬ G' b ∧ b ≠ x11 ∧ Unf wx b) rA p ∧ Is wx (fun _ => True) rZ p ∧ w0.heap.size ≤ x11 ∧ Kept (fun b => F b ∨ G b) w0 wx
theorem R15.of {w0 W1 wA W2 wB wx : World} {F G F' G' : Nat → Prop} {g h x11 x12 : Nat} {ps : List Pc} {e : Int} {p : Pc} {rA rZ : Raw}
    (f1 : Fine w0 W1) (qA : QB wA F' g ps e) (iA : Is wA (fun b => W1.heap.size ≤ b ∧ b < wA.heap.size ∧ ¬ F' b ∧ Unf wA b) rA p) (kA : Kept F W1 wA) (hF' : ∀ b, F' b → F b ∨ W1.heap.size ≤ b)
    (f2 : Fine wA W2) (rB : RB wB G' h ps e) (iB : Is wB (fun b => W2.heap.size ≤ b ∧ b < wB.heap.size) rZ p) (kB : Kept G W2 wB) (hG' : ∀ b, G' b → G b ∨ W2.heap.size ≤ b)
    (hFl : ∀ b, F b → b < w0.heap.size) (hGl : ∀ b, G b → b < w0.heap.size) (hFG : ∀ b, F b → ¬ G b)
    (kx : Kept (fun b => b = x11 ∨ b = x12) wB wx) (b11 : Blk wx x11 46 rA.cells.toArray) (b12 : Blk wx x12 46 rZ.cells.toArray)
    (hbox : ∀ x, x = x11 ∨ x = x12 → (w0.heap.size ≤ x ∧ x < W1.heap.size) ∨ (wA.heap.size ≤ x ∧ x < W2.heap.size) ∨ wB.heap.size ≤ x) :
    R15 w0 wx F G g h ps e p (.pointer (some ⟨x11, 0, none⟩)) (.pointer (some ⟨x12, 0, none⟩)) := by
  have s1 := f1.size
  have s2 := kA.size
  have s3 := f2.size
  have s4 := kB.size
  have s5 := kx.size
  have hFA := qA.lt
  have hGB := rB.lt
  have nF : ∀ x, x = x11 ∨ x = x12 → ¬ F' x := fun x hx hf => by
    have h1 := hbox x hx
    have h2 := hFA x hf
    rcases hF' x hf with h3 | h3
    · have := hFl x h3; omega
    · omega
  have nG : ∀ x, x = x11 ∨ x = x12 → ¬ G' x := fun x hx hf => by
    have h1 := hbox x hx
    have h2 := hGB x hf
    rcases hG' x hf with h3 | h3
    · have := hGl x h3; omega
    · omega
  have nFG : ∀ b, F' b → ¬ G' b := fun b hf hg' => by
    have h2 := hFA b hf
    rcases hF' b hf with h3 | h3 <;> rcases hG' b hg' with h4 | h4
    · exact hFG b h3 h4
    · have := hFl b h3; omega
    · have := hGl b h4; omega
    · omega
  refine ⟨x11, x12, rA, rZ, F', G', rfl, rfl, b11, b12, ((qA.fine f2).kept kB (fun b hf hg' => ?_)).kept kx (fun b hf hx => nF b hx hf), rB.kept kx (fun b hf hx => nG b hx hf), fun b hf => ⟨(hF' b hf).imp id (fun h => by omega), nFG b hf, fun hx => nF b (.inl hx) hf⟩, fun b hg' => ⟨(hG' b hg').imp id (fun h => by omega), fun hx => nG b (.inl hx) hg'⟩, ?_, ?_, ?_, ?_⟩
  · rcases hF' b hf with h3 | h3
    · exact hFG b h3 hg'
    · have := hGl b hg'; omega
  · refine ((((iA.fine f2).kept kB (fun b hb hg' => by have := hGl b hg'; omega)).kept kx (fun b hb hx => by have := hbox b hx; omega))).less (fun b hb => ?_)
    have nx : ¬ (b = x11 ∨ b = x12) := fun hx => by have := hbox b hx; omega
    refine ⟨by omega, by omega, hb.2.2.1, fun hg' => ?_, fun hx => nx (.inl hx), ((hb.2.2.2.fine f2 hb.2.1).kept kB (by omega) (fun hg' => by have := hGl b hg'; omega)).kept kx (by omega) nx⟩
    rcases hG' b hg' with h4 | h4
    · have := hGl b h4; omega
    · omega
  · exact (iB.kept kx (fun b hb hx => by have := hbox b hx; omega)).less (fun _ _ => trivial)
  · have := hbox x11 (.inl rfl); omega
  · refine ((((Kept.of_fine (S := fun b => F b ∨ G b) f1).transG kA (fun _ _ s => s) (fun _ _ s => .inl s)).trans (Kept.of_fine f2)).transG kB (fun _ _ s => s) (fun _ _ s => .inr s)).transG kx (fun _ _ s => s) (fun x hx s => by have := hbox x s; omega)
end Go.Proofs.Ytjldgialhgfhmaa
