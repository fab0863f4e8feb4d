/-
  What the reading of a slice says of memory, whatever its elements: its cells, and each element's own reading.
-/
import Derived.WalkKit
import Derived.ProofKit
import Derived.OpenShut
namespace Go.Proofs.Ytjldgialhgfhmaa
open Go.RowKit Go.ChangeShapes Go.WideShapes
section
variable {H : Type} {enc : TypeId × Value → H} {P : Program} {w : World} {spare : Nat → Bool} {held : Bool}

theorem lt_of_cellN {w : World} {b o : Nat} {v : Value} (h : w.cell? ⟨b, o, none⟩ = some v) : b < w.heap.size := by
  rcases Nat.lt_or_ge b w.heap.size with hlt | hge
  · exact hlt
  · simp [World.cell?, Array.getElem?_eq_none hge] at h

theorem slice_elems {t e : TypeId} (ht : P.underlying t = some (.slice e)) (hC : 0 < P.cellsOf e) {a : Option Addr} {len cap : Nat} {d : DataW H} {p : List MemPlace}
    (h : DataW.Trod enc P w 0 spare held t (.slice a len cap) d p) :
    len ≤ cap ∧ cap ≤ maxLen ∧ (a = none → len = 0 ∧ cap = 0) ∧
    (0 < len → ∃ b off n, a = some ⟨b, off, none⟩ ∧ b < w.heap.size ∧ ∀ i, i < len → ∃ cs x, cs.length = P.cellsOf e ∧ (∀ j, j < P.cellsOf e → w.cell? ⟨b, off + (i * P.cellsOf e + j), none⟩ = cs[j]?) ∧ DataW.trod enc P w 0 spare held n e cs = some x) := by
  obtain ⟨fuel, hf⟩ := h
  rcases DataW.trod_slice ht hf with ⟨hcs, _⟩ | ⟨ad, len', cap', elems, rest, n, _, hcs, _, _, hl, hm, hel, hi, _⟩
  · simp [Value.cells] at hcs
    obtain ⟨rfl, rfl, rfl⟩ := hcs
    exact ⟨Nat.le_refl _, Nat.zero_le _, fun _ => ⟨rfl, rfl⟩, fun h => absurd h (by omega)⟩
  · simp [Value.cells] at hcs
    obtain ⟨rfl, rfl, rfl⟩ := hcs
    refine ⟨hl, hm, (fun h => by cases h), fun hpos => ?_⟩
    have key : ∀ i, i < len → ∃ cs x, cs.length = P.cellsOf e ∧ (∀ j, j < P.cellsOf e → w.cell? ((ad.add (i * P.cellsOf e)).add j) = cs[j]?) ∧ DataW.trod enc P w 0 spare held n e cs = some x := by
      intro i hi'
      have h1 := hi i hi'
      have h2 : elems[i]? = some (elems[i]'(by omega)) := List.getElem?_eq_getElem (by omega)
      rw [h2] at h1
      obtain ⟨cs, hc, ht'⟩ := Option.bind_eq_some_iff.1 h1
      obtain ⟨_, hcl, hat⟩ := World.cells?_some hc
      exact ⟨cs, _, hcl, fun j hj => hat j hj, ht'⟩
    obtain ⟨b, off, spot⟩ := ad
    obtain ⟨cs0, x0, hl0, hc0, _⟩ := key 0 hpos
    have h00 := hc0 0 hC
    have hs : spot = none := by
      have : cs0[0]? = some (cs0[0]'(by omega)) := List.getElem?_eq_getElem (by omega)
      rw [this] at h00
      simpa [Addr.add] using World.cell?_spot h00
    subst hs
    have hb : b < w.heap.size := by
      have : cs0[0]? = some (cs0[0]'(by omega)) := List.getElem?_eq_getElem (by omega)
      rw [this] at h00
      simp [Addr.add] at h00
      exact lt_of_cellN h00
    refine ⟨b, off, n, rfl, hb, fun i hi' => ?_⟩
    obtain ⟨cs, x, h1, h2, h3⟩ := key i hi'
    refine ⟨cs, x, h1, fun j hj => ?_, h3⟩
    rw [← h2 j hj, Go.WideShapes.add_plain, Go.WideShapes.add_plain, Nat.add_assoc]

theorem getD_mem (zs : List Int) (k : Nat) (h : k < zs.length) : zs.getD k 0 ∈ zs := by
  have e : zs.getD k 0 = zs[k] := by simp [List.getD, h]
  rw [e]; exact List.getElem_mem _
/-- The number in a cell. -/
def cellInt : Option Value → Int | some (.int _ n) => n | _ => 0
def cellBool : Option Value → Bool | some (.bool b) => b | _ => false

/-- A slice of integers that came in. -/
def IntsIn (k : IntKind) (w : World) (a : Option Addr) (len cap : Nat) (zs : List Int) : Prop :=
  len ≤ cap ∧ cap ≤ maxLen ∧ zs.length = len ∧ (a = none → len = 0 ∧ cap = 0) ∧ (∀ n ∈ zs, (Lit.int k n).wf = true) ∧
  (0 < len → ∃ b off, a = some ⟨b, off, none⟩ ∧ b < w.heap.size ∧ ∀ i, i < len → w.cell? ⟨b, off + i, none⟩ = some (.int k (zs.getD i 0)))

theorem intsIn_of {t e : TypeId} {k : IntKind} (ht : P.underlying t = some (.slice e)) (he : P.underlying e = some (.int k)) (hC : P.cellsOf e = 1) {a : Option Addr} {len cap : Nat} {d : DataW H} {p : List MemPlace}
    (h : DataW.Trod enc P w 0 spare held t (.slice a len cap) d p) : ∃ zs, IntsIn k w a len cap zs := by
  obtain ⟨h1, h2, h3, h4⟩ := slice_elems ht (by omega) h
  rcases Nat.eq_zero_or_pos len with h0 | hpos
  · subst h0
    exact ⟨[], h1, h2, rfl, h3, (fun n hn => by cases hn), fun h => absurd h (by omega)⟩
  · obtain ⟨b, off, n, rfl, hb, hel⟩ := h4 hpos
    have key : ∀ i, i < len → w.cell? ⟨b, off + i, none⟩ = some (.int k (cellInt (w.cell? ⟨b, off + i, none⟩))) ∧ (Lit.int k (cellInt (w.cell? ⟨b, off + i, none⟩))).wf = true := by
      intro i hi
      obtain ⟨cs, x, hl, hc, ht'⟩ := hel i hi
      obtain ⟨m, rfl, _, hw⟩ := DataW.trod_int he ht'
      have := hc 0 (by omega)
      rw [hC] at this
      simp at this
      rw [this]
      exact ⟨rfl, hw⟩
    refine ⟨(List.range len).map fun i => cellInt (w.cell? ⟨b, off + i, none⟩), h1, h2, by simp, h3, ?_, fun _ => ⟨b, off, rfl, hb, fun i hi => ?_⟩⟩
    · intro n hn
      obtain ⟨i, hi, rfl⟩ := List.mem_map.1 hn
      exact (key i (List.mem_range.1 hi)).2
    · rw [(key i hi).1]
      congr 2
      simp [List.getD, hi]

/-- A slice of structs that came in, each of 'size' integers of one kind. -/
def RecsIn (k : IntKind) (size : Nat) (w : World) (a : Option Addr) (len cap : Nat) (zs : Nat → Nat → Int) : Prop :=
  len ≤ cap ∧ cap ≤ maxLen ∧ (a = none → len = 0 ∧ cap = 0) ∧ (∀ i j, i < len → j < size → (Lit.int k (zs i j)).wf = true) ∧
  (0 < len → ∃ b off, a = some ⟨b, off, none⟩ ∧ b < w.heap.size ∧ ∀ i j, i < len → j < size → w.cell? ⟨b, off + (i * size + j), none⟩ = some (.int k (zs i j)))

theorem recsIn_of {t e : TypeId} {k : IntKind} {fs : Array Field} {size : Nat} (ht : P.underlying t = some (.slice e)) (he : P.underlying e = some (.struct fs)) (hC : P.cellsOf e = size) (hp : 0 < size) (hfs : fs.size = size)
    (hf : ∀ j, j < size → ∃ f, fs[j]? = some f ∧ f.offset = j ∧ P.cellsOf f.type = 1 ∧ P.underlying f.type = some (.int k)) {a : Option Addr} {len cap : Nat} {d : DataW H} {p : List MemPlace}
    (h : DataW.Trod enc P w 0 spare held t (.slice a len cap) d p) : ∃ zs, RecsIn k size w a len cap zs := by
  obtain ⟨h1, h2, h3, h4⟩ := slice_elems ht (by omega) h
  rcases Nat.eq_zero_or_pos len with h0 | hpos
  · subst h0
    exact ⟨fun _ _ => 0, h1, h2, h3, (fun i j hi => absurd hi (by omega)), fun h => absurd h (by omega)⟩
  · obtain ⟨b, off, n, rfl, hb, hel⟩ := h4 hpos
    have key : ∀ i j, i < len → j < size → w.cell? ⟨b, off + (i * size + j), none⟩ = some (.int k (cellInt (w.cell? ⟨b, off + (i * size + j), none⟩))) ∧ (Lit.int k (cellInt (w.cell? ⟨b, off + (i * size + j), none⟩))).wf = true := by
      intro i j hi hj
      obtain ⟨cs, x, hl, hc, ht'⟩ := hel i hi
      obtain ⟨xs, m, _, _, _, hxl, hg⟩ := DataW.trod_struct he ht'
      obtain ⟨f, hfj, ho, hc1, hu⟩ := hf j hj
      have h5 := hg j f hfj
      have hxj : xs[j]? = some (xs[j]'(by omega)) := List.getElem?_eq_getElem (by omega)
      rw [hxj] at h5
      obtain ⟨m', hm', _, hw⟩ := DataW.trod_int hu h5
      have h6 := hc j (by omega)
      rw [hC] at h6
      rw [ho, hc1] at hm'
      have h7 : cs[j]? = some (.int k m') := by
        have := congrArg (fun l : List Value => l[0]?) hm'
        simpa [List.getElem?_take, List.getElem?_drop] using this
      rw [h7] at h6
      rw [h6]
      exact ⟨rfl, hw⟩
    exact ⟨_, h1, h2, h3, fun i j hi hj => (key i j hi hj).2, fun _ => ⟨b, off, rfl, hb, fun i j hi hj => (key i j hi hj).1⟩⟩
end
end Go.Proofs.Ytjldgialhgfhmaa
