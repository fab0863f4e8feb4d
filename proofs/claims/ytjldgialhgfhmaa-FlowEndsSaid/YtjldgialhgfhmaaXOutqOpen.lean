/- Arguments that are pieces, as the reader reads them. -/
import Derived.Test.YtjldgialhgfhmaaNa
namespace Go.Proofs.Ytjldgialhgfhmaa
set_option linter.unusedVariables false
set_option linter.unusedSimpArgs false
open Go.ChangeShapes Go.WideShapes Go.ChangeAt Go.RowKit
set_option linter.unusedVariables false

theorem okWide_struct {P : Program} {W : World} {r : Reach} {b0 : Nat} {t : TypeId} {fs : Array Field} {v : Value} (ht : P.underlying t = some (.struct fs)) (h : Value.okWide P W r b0 t v) : ∃ cs, v = .agg cs := by
  simp only [Value.okWide, ht] at h
  obtain ⟨cs, h1, _⟩ := h
  exact ⟨cs, h1⟩
theorem rs_of_ints {k : IntKind} {w : World} {a : Option Addr} {len cap : Nat} {zs : List Int} (h : IntsIn k w a len cap zs) : RS (layI k) w a cap zs := by
  obtain ⟨h1, h2, h3, h4, h5, h6⟩ := h
  refine ⟨by omega, h2, fun e => (h4 e).2, fun hp => ?_⟩
  obtain ⟨b, off, ha, hb, hc⟩ := h6 (by omega)
  refine ⟨b, off, ha, hb, fun i v hv => ?_⟩
  rw [flatI, List.getElem?_map] at hv
  obtain ⟨x, hx, rfl⟩ := Option.map_eq_some_iff.1 hv
  have hi := (List.getElem?_eq_some_iff.1 hx).1
  rw [hc i (by omega)]
  simp [List.getD, hx]
theorem IntsIn.block {k : IntKind} {w : World} {a : Option Addr} {len cap : Nat} {zs : List Int} (h : IntsIn k w a len cap zs) (b : Nat) (o : Nat) (e : a = some ⟨b, o, none⟩) (hp : 0 < zs.length) : b < w.heap.size := by
  obtain ⟨h1, h2, h3, h4, h5, h6⟩ := h
  obtain ⟨b', off, ha, hb, hc⟩ := h6 (by omega)
  rw [ha] at e
  injection e with e
  injection e with e
  omega
section
variable {H : Type} {enc : TypeId × Value → H} {w : World} {m : Nat}
theorem cell_slice {t e : TypeId} {v : Value} {x : DataW H × List MemPlace} (ht : Try.prog.underlying t = some (.slice e)) (h : DataW.trod enc Try.prog w 0 (fun _ => true) true m t [v] = some x) :
    ∃ A len cap, v = .slice A len cap ∧ DataW.Trod enc Try.prog w 0 (fun _ => true) true t (.slice A len cap) x.1 x.2 := by
  have hx : DataW.trod enc Try.prog w 0 (fun _ => true) true m t [v] = some (x.1, x.2) := h
  rcases DataW.trod_slice ht h with ⟨hcs, _⟩ | ⟨ad, len', cap', elems, rest, n, _, hcs, _⟩
  · injection hcs with hcs _
    subst hcs
    exact ⟨none, 0, 0, rfl, ⟨m, hx⟩⟩
  · injection hcs with hcs _
    subst hcs
    exact ⟨some ad, len', cap', rfl, ⟨m, hx⟩⟩
theorem piece_of {fs : Array Field} {cs : List Value} (hfs : Try.prog.underlying 46 = some (.struct fs)) (h : Fielded enc Try.prog w (fun _ => true) true m fs cs) (hl : cs.length = 6) :
    ∃ (r : Raw) (p : Pc), cs = r.cells ∧ Is w (fun b => b < w.heap.size) r p := by
  have e1 := hfs.symm.trans Try.underlying46
  injection e1 with e1
  injection e1 with e1
  subst e1
  have h0 := (h.int 0 0 41 (by kernel_rfl) (by kernel_rfl) Try.underlying41).1
  have h1 := h.bool 1 1 4 (by kernel_rfl) (by kernel_rfl) Try.underlying4
  have h2 := h.bool 2 2 4 (by kernel_rfl) (by kernel_rfl) Try.underlying4
  obtain ⟨v, x, h3, hx⟩ := h.one 3 3 29 (by kernel_rfl) (by kernel_rfl) (by omega)
  have h4 := (h.int 4 4 3 (by kernel_rfl) (by kernel_rfl) Try.underlying3).1
  have h5 := h.bool 5 5 4 (by kernel_rfl) (by kernel_rfl) Try.underlying4
  obtain ⟨A, len, cap, rfl, ht⟩ := cell_slice Try.underlying29 hx
  obtain ⟨zs, hz⟩ := intsIn_of Try.underlying29 Try.underlying5 (by kernel_rfl) ht
  refine ⟨⟨cellInt cs[0]?, cellBool cs[1]?, cellBool cs[2]?, A, len, cap, cellInt cs[4]?, cellBool cs[5]?⟩, ⟨cellInt cs[0]?, cellBool cs[1]?, cellBool cs[2]?, zs, cellInt cs[4]?, cellBool cs[5]?⟩, ?_, rfl, rfl, rfl, rfl, rfl, hz.2.2.1.symm, rs_of_ints hz, fun b o e hp => hz.block b o e hp⟩
  apply List.ext_getElem?
  intro i
  rcases i with _ | _ | _ | _ | _ | _ | i
  · exact h0
  · exact h1
  · exact h2
  · exact h3
  · exact h4
  · exact h5
  · rw [List.getElem?_eq_none (by omega), List.getElem?_eq_none (by simp [Raw.cells])]
set_option maxRecDepth 20000 in
theorem open_piece {W : World} {r : Reach} {b0 : Nat} {v : Value} {d : DataW H} {p : List MemPlace}
    (hv : Value.okWide Try.prog W r b0 46 v) (h : DataW.Trod enc Try.prog w 0 (fun _ => true) true 46 v d p) :
    ∃ z : Raw × Pc, v = .agg z.1.cells.toArray ∧ Is w (fun b => b < w.heap.size) z.1 z.2 := by
  obtain ⟨cs, rfl⟩ := okWide_struct Try.underlying46 hv
  obtain ⟨fuel, hf⟩ := h
  have hf' : DataW.trod enc Try.prog w 0 (fun _ => true) true fuel 46 cs.toList = some (d, p) := hf
  obtain ⟨m, hF, hl⟩ := fielded_of Try.underlying46 hf'
  obtain ⟨r, p, h1, h2⟩ := piece_of Try.underlying46 hF (hl.trans (by kernel_rfl))
  exact ⟨(r, p), by rw [← h1], h2⟩
/-- A slice of pieces that came in. -/
theorem open_pieces {t : TypeId} (ht : Try.prog.underlying t = some (.slice 46)) {a : Option Addr} {len cap : Nat} {d : DataW H} {p : List MemPlace} (h : DataW.Trod enc Try.prog w 0 (fun _ => true) true t (.slice a len cap) d p) :
    ∃ z : List Raw × List Pc, RS layP w a cap z.1 ∧ z.1.length = len ∧ Iss w (fun b => b < w.heap.size) z.1 z.2 := by
  obtain ⟨h1, h2, h3, h4⟩ := slice_structs 6 ht Try.underlying46 (by kernel_rfl) (by omega) h
  rcases Nat.eq_zero_or_pos len with h0 | hpos
  · subst h0
    exact ⟨([], []), ⟨Nat.zero_le _, h2, fun e => (h3 e).2, fun h => absurd h (by simp)⟩, rfl, Iss.nil_ _ _⟩
  · obtain ⟨b, off, ha, hb, hel⟩ := h4 hpos
    have key : ∀ i, ∃ z : Raw × Pc, i < len → (∀ j, j < 6 → w.cell? ⟨b, off + (i * 6 + j), none⟩ = z.1.cells[j]?) ∧ Is w (fun b => b < w.heap.size) z.1 z.2 := by
      intro i
      by_cases hi : i < len
      · obtain ⟨cs, m, hl, hc, hF⟩ := hel i hi
        obtain ⟨r, p, rfl, hp⟩ := piece_of Try.underlying46 hF hl
        exact ⟨(r, p), fun _ => ⟨hc, hp⟩⟩
      · exact ⟨(⟨0, false, false, none, 0, 0, 0, false⟩, ⟨0, false, false, [], 0, false⟩), fun h => absurd h hi⟩
    obtain ⟨f, hf⟩ := Classical.axiomOfChoice key
    refine ⟨((List.range len).map fun i => (f i).1, (List.range len).map fun i => (f i).2), RS.ofCells _ h1 h2 h3 (fun _ => ⟨b, off, ha, hb, fun i hi j hj => (hf i hi).1 j hj⟩), by simp, by simp, fun i r p e1 e2 => ?_⟩
    simp only [List.getElem?_map, Option.map_eq_some_iff] at e1 e2
    obtain ⟨i1, e1, rfl⟩ := e1
    obtain ⟨i2, e2, rfl⟩ := e2
    obtain ⟨hi, rfl⟩ := List.getElem?_eq_some_iff.1 e1
    obtain ⟨_, rfl⟩ := List.getElem?_eq_some_iff.1 e2
    simp only [List.getElem_range]
    exact (hf i (by simpa using hi)).2
end
end Go.Proofs.Ytjldgialhgfhmaa
