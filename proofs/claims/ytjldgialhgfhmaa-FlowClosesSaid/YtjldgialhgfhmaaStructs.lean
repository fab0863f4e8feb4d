/-
  What the reading of a slice of structs says: each element's cells, field by field.
-/
import Derived.Test.YtjldgialhgfhmaaOpen
import Derived.Test.YtjldgialhgfhmaaSeq
namespace Go.Proofs.Ytjldgialhgfhmaa
open Go.RowKit Go.ChangeShapes Go.WideShapes
section
variable {H : Type} {enc : TypeId × Value → H} {P : Program} {w : World} {spare : Nat → Bool} {held : Bool}

/-- A struct's cells cs, read at depth m: each field's own cells read. -/
def Fielded (enc : TypeId × Value → H) (P : Program) (w : World) (spare : Nat → Bool) (held : Bool) (m : Nat) (fs : Array Field) (cs : List Value) : Prop :=
  ∀ (j : Nat) (f : Field), fs[j]? = some f → ∃ x, DataW.trod enc P w 0 spare held m f.type ((cs.drop f.offset).take (P.cellsOf f.type)) = some x

theorem fielded_of {e : TypeId} {fs : Array Field} {m : Nat} {cs : List Value} {x : DataW H × List MemPlace} (he : P.underlying e = some (.struct fs)) (h : DataW.trod enc P w 0 spare held m e cs = some x) :
    ∃ m', Fielded enc P w spare held m' fs cs ∧ cs.length = P.cellsOf e := by
  obtain ⟨xs, m', _, _, hl, hxl, hg⟩ := DataW.trod_struct he h
  refine ⟨m', fun j f hf => ?_, hl⟩
  have hj : j < xs.length := by have := (Array.getElem?_eq_some_iff.1 hf).1; omega
  exact ⟨xs[j], by rw [hg j f hf]; exact List.getElem?_eq_getElem hj⟩

theorem slice_structs (n : Nat) {t e : TypeId} {fs : Array Field} (ht : P.underlying t = some (.slice e)) (he : P.underlying e = some (.struct fs)) (hC : P.cellsOf e = n) (hn : 0 < n) {a : Option Addr} {len cap : Nat} {d : DataW H} {p : List MemPlace}
    (h : DataW.Trod enc P w 0 spare held t (.slice a len cap) d p) :
    len ≤ cap ∧ cap ≤ maxLen ∧ (a = none → len = 0 ∧ cap = 0) ∧
    (0 < len → ∃ b off, a = some ⟨b, off, none⟩ ∧ b < w.heap.size ∧ ∀ i, i < len → ∃ cs m, cs.length = n ∧ (∀ j, j < n → w.cell? ⟨b, off + (i * n + j), none⟩ = cs[j]?) ∧ Fielded enc P w spare held m fs cs) := by
  subst hC
  obtain ⟨h1, h2, h3, h4⟩ := slice_elems ht hn h
  refine ⟨h1, h2, h3, fun hp => ?_⟩
  obtain ⟨b, off, _, ha, hb, hel⟩ := h4 hp
  refine ⟨b, off, ha, hb, fun i hi => ?_⟩
  obtain ⟨cs, x, hl, hc, hx⟩ := hel i hi
  obtain ⟨m, hm, _⟩ := fielded_of he hx
  exact ⟨cs, m, hl, hc, hm⟩

theorem drop_take_one {cs : List Value} {j : Nat} {v : Value} (h : (cs.drop j).take 1 = [v]) : cs[j]? = some v := by
  have := congrArg (fun l : List Value => l[0]?) h
  simpa [List.getElem?_take, List.getElem?_drop] using this
variable {fs : Array Field} {m : Nat} {cs : List Value}
theorem Fielded.bool (h : Fielded enc P w spare held m fs cs) (j o : Nat) (ty : TypeId) (hf : (fs[j]?).map (fun f => (f.offset, f.type)) = some (o, ty)) (hc : P.cellsOf ty = 1) (hu : P.underlying ty = some .bool) :
    cs[o]? = some (.bool (cellBool cs[o]?)) := by
  obtain ⟨f, hf1, hf2⟩ := Option.map_eq_some_iff.1 hf
  simp only [Prod.mk.injEq] at hf2
  obtain ⟨rfl, rfl⟩ := hf2
  obtain ⟨x, hx⟩ := h j f hf1
  obtain ⟨b, hb, _⟩ := DataW.trod_bool hu hx
  rw [hc] at hb
  rw [drop_take_one hb]
  rfl
theorem Fielded.int {k : IntKind} (h : Fielded enc P w spare held m fs cs) (j o : Nat) (ty : TypeId) (hf : (fs[j]?).map (fun f => (f.offset, f.type)) = some (o, ty)) (hc : P.cellsOf ty = 1) (hu : P.underlying ty = some (.int k)) :
    cs[o]? = some (.int k (cellInt cs[o]?)) ∧ (Lit.int k (cellInt cs[o]?)).wf = true := by
  obtain ⟨f, hf1, hf2⟩ := Option.map_eq_some_iff.1 hf
  simp only [Prod.mk.injEq] at hf2
  obtain ⟨rfl, rfl⟩ := hf2
  obtain ⟨x, hx⟩ := h j f hf1
  obtain ⟨n, hb, _, hw⟩ := DataW.trod_int hu hx
  rw [hc] at hb
  rw [drop_take_one hb]
  exact ⟨rfl, hw⟩
theorem Fielded.one (h : Fielded enc P w spare held m fs cs) (j o : Nat) (ty : TypeId) (hf : (fs[j]?).map (fun f => (f.offset, f.type)) = some (o, ty)) (hc : P.cellsOf ty = 1) (hl : o < cs.length) :
    ∃ v x, cs[o]? = some v ∧ DataW.trod enc P w 0 spare held m ty [v] = some x := by
  obtain ⟨f, hf1, hf2⟩ := Option.map_eq_some_iff.1 hf
  simp only [Prod.mk.injEq] at hf2
  obtain ⟨rfl, rfl⟩ := hf2
  obtain ⟨x, hx⟩ := h j f hf1
  rw [hc] at hx
  refine ⟨cs[f.offset], x, List.getElem?_eq_getElem hl, ?_⟩
  have e : (cs.drop f.offset).take 1 = [cs[f.offset]] := by
    rw [List.drop_eq_getElem_cons hl]; rfl
  rw [← e]; exact hx
end
/-- From cells that are known element by element to elements that are read. -/
theorem RS.ofCells {α : Type} {n : Nat} {E : Lay α n} {w : World} {a : Option Addr} {len cap : Nat} (f : Nat → α) (h1 : len ≤ cap) (h2 : cap ≤ maxLen) (h3 : a = none → len = 0 ∧ cap = 0)
    (h4 : 0 < len → ∃ b off, a = some ⟨b, off, none⟩ ∧ b < w.heap.size ∧ ∀ i, i < len → ∀ j, j < n → w.cell? ⟨b, off + (i * n + j), none⟩ = (E.cs (f i))[j]?) :
    RS E w a cap ((List.range len).map f) := by
  refine ⟨by simpa using h1, h2, fun e => (h3 e).2, fun hp => ?_⟩
  obtain ⟨b, off, ha, hb, hc⟩ := h4 (by simpa using hp)
  refine ⟨b, off, ha, hb, fun i v hv => ?_⟩
  have hi : i < len * n := by have := (List.getElem?_eq_some_iff.1 hv).1; rwa [E.flat_length, List.length_map, List.length_range] at this
  have hn := E.pos
  have hq : i / n < len := Nat.div_lt_of_lt_mul (by rw [Nat.mul_comm]; exact hi)
  have hr : i % n < n := Nat.mod_lt _ hn
  have e : i / n * n + i % n = i := Nat.div_add_mod' i n
  have := hc (i / n) hq (i % n) hr
  rw [e] at this
  rw [this]
  have hx : ((List.range len).map f)[i / n]? = some (f (i / n)) := by simp [hq]
  have h5 := E.flat_at hx hr
  rw [e] at h5
  rw [← h5]; exact hv
end Go.Proofs.Ytjldgialhgfhmaa
