/- Options and segments, as they are handed over; the widths, as the row lays them. -/
import Derived.Test.YthnennleblgjeaaDoorRows
import Derived.Test.YthnennleblgjeaaDoorXSeg6
import Derived.Deep.DeepHandedRow
import Derived.Lib.LaidTab
import Derived.Test.YthnennleblgjeaaDoorMa
namespace Go.Proofs.YthnennleblgjeaaDoor
set_option linter.unusedVariables false
set_option linter.unusedSimpArgs false
open Go.ChangeShapes Go.WideShapes Go.ChangeAt Go.RowKit
set_option linter.unusedVariables false
def valAt (cs : List Value) (j : Nat) : Int := match fk j with | .is => if cellBool cs[j]? then 1 else 0 | _ => cellInt cs[j]?
theorem e01 (t : Bool) : Value.bool (decide ((if t then (1 : Int) else 0) = 1)) = .bool t := by cases t <;> rfl
theorem bool01 (t : Bool) : (if t then (1 : Int) else 0) = 0 ∨ (if t then (1 : Int) else 0) = 1 := by cases t <;> simp
section
variable {H : Type} {enc : TypeId × Value → H} {w : World} {m : Nat}
set_option maxRecDepth 20000 in
theorem opt_of {fs : Array Field} {cs : List Value} (hfs : Tryd.prog.underlying 69 = some (.struct fs)) (h : Fielded enc Tryd.prog w (fun _ => true) true m fs cs) (hl : cs.length = 14) : cs = optL (valAt cs) ∧ OkV (valAt cs) := by
  have e1 := hfs.symm.trans Tryd.underlying69
  injection e1 with e1
  injection e1 with e1
  subst e1
  have h0 := h.int 0 0 3 (by kernel_rfl) (by kernel_rfl) Tryd.underlying3
  have h1 := h.int 1 1 57 (by kernel_rfl) (by kernel_rfl) Tryd.underlying57
  have h2 := h.int 2 2 57 (by kernel_rfl) (by kernel_rfl) Tryd.underlying57
  have h3 := h.int 3 3 22 (by kernel_rfl) (by kernel_rfl) Tryd.underlying22
  have h4 := h.int 4 4 22 (by kernel_rfl) (by kernel_rfl) Tryd.underlying22
  have h5 := h.int 5 5 3 (by kernel_rfl) (by kernel_rfl) Tryd.underlying3
  have h6 := h.int 6 6 3 (by kernel_rfl) (by kernel_rfl) Tryd.underlying3
  have h7 := h.bool 7 7 4 (by kernel_rfl) (by kernel_rfl) Tryd.underlying4
  have h8 := h.bool 8 8 4 (by kernel_rfl) (by kernel_rfl) Tryd.underlying4
  have h9 := h.int 9 9 3 (by kernel_rfl) (by kernel_rfl) Tryd.underlying3
  have h10 := h.bool 10 10 4 (by kernel_rfl) (by kernel_rfl) Tryd.underlying4
  have h11 := h.int 11 11 3 (by kernel_rfl) (by kernel_rfl) Tryd.underlying3
  have h12 := h.int 12 12 3 (by kernel_rfl) (by kernel_rfl) Tryd.underlying3
  have h13 := h.bool 13 13 4 (by kernel_rfl) (by kernel_rfl) Tryd.underlying4
  constructor
  · apply List.ext_getElem?
    intro i
    rcases i with _ | _ | _ | _ | _ | _ | _ | _ | _ | _ | _ | _ | _ | _ | i
    · exact h0.1
    · exact h1.1
    · exact h2.1
    · exact h3.1
    · exact h4.1
    · exact h5.1
    · exact h6.1
    · exact h7.trans (congrArg some (e01 _).symm)
    · exact h8.trans (congrArg some (e01 _).symm)
    · exact h9.1
    · exact h10.trans (congrArg some (e01 _).symm)
    · exact h11.1
    · exact h12.1
    · exact h13.trans (congrArg some (e01 _).symm)
    · rw [List.getElem?_eq_none (by omega), List.getElem?_eq_none (by simp)]
  · intro j hj
    match j, hj with
    | 0, _ => have hb := bounds_i64 h0.2; have g : -9223372036854775808 ≤ cellInt cs[0]? ∧ cellInt cs[0]? < 9223372036854775808 := ⟨by omega, by omega⟩; exact g
    | 1, _ => have hb := bounds_u64 h1.2; have g : 0 ≤ cellInt cs[1]? ∧ cellInt cs[1]? < 18446744073709551616 := ⟨by omega, by omega⟩; exact g
    | 2, _ => have hb := bounds_u64 h2.2; have g : 0 ≤ cellInt cs[2]? ∧ cellInt cs[2]? < 18446744073709551616 := ⟨by omega, by omega⟩; exact g
    | 3, _ => have hb := bounds_u32 h3.2; have g : 0 ≤ cellInt cs[3]? ∧ cellInt cs[3]? < 4294967296 := ⟨by omega, by omega⟩; exact g
    | 4, _ => have hb := bounds_u32 h4.2; have g : 0 ≤ cellInt cs[4]? ∧ cellInt cs[4]? < 4294967296 := ⟨by omega, by omega⟩; exact g
    | 5, _ => have hb := bounds_i64 h5.2; have g : -9223372036854775808 ≤ cellInt cs[5]? ∧ cellInt cs[5]? < 9223372036854775808 := ⟨by omega, by omega⟩; exact g
    | 6, _ => have hb := bounds_i64 h6.2; have g : -9223372036854775808 ≤ cellInt cs[6]? ∧ cellInt cs[6]? < 9223372036854775808 := ⟨by omega, by omega⟩; exact g
    | 7, _ => exact bool01 _
    | 8, _ => exact bool01 _
    | 9, _ => have hb := bounds_i64 h9.2; have g : -9223372036854775808 ≤ cellInt cs[9]? ∧ cellInt cs[9]? < 9223372036854775808 := ⟨by omega, by omega⟩; exact g
    | 10, _ => exact bool01 _
    | 11, _ => have hb := bounds_i64 h11.2; have g : -9223372036854775808 ≤ cellInt cs[11]? ∧ cellInt cs[11]? < 9223372036854775808 := ⟨by omega, by omega⟩; exact g
    | 12, _ => have hb := bounds_i64 h12.2; have g : -9223372036854775808 ≤ cellInt cs[12]? ∧ cellInt cs[12]? < 9223372036854775808 := ⟨by omega, by omega⟩; exact g
    | 13, _ => exact bool01 _
theorem open_opts {t : TypeId} (ht : Tryd.prog.underlying t = some (.slice 69)) {a : Option Addr} {len cap : Nat} {d : DataW H} {p : List MemPlace} (h : DataW.Trod enc Tryd.prog w 0 (fun _ => true) true t (.slice a len cap) d p) :
    ∃ z : List (Nat → Int), RS layO w a cap z ∧ z.length = len ∧ ∀ V ∈ z, OkV V := by
  obtain ⟨h1, h2, h3, h4⟩ := slice_structs 14 ht Tryd.underlying69 (by kernel_rfl) (by omega) h
  rcases Nat.eq_zero_or_pos len with h0 | hpos
  · subst h0
    exact ⟨[], ⟨Nat.zero_le _, h2, fun e => (h3 e).2, fun h => absurd h (by simp)⟩, rfl, fun V hV => by cases hV⟩
  · obtain ⟨b, off, ha, hb, hel⟩ := h4 hpos
    have key : ∀ i, ∃ V : Nat → Int, i < len → (∀ j, j < 14 → w.cell? ⟨b, off + (i * 14 + j), none⟩ = (layO.cs V)[j]?) ∧ OkV V := by
      intro i
      by_cases hi : i < len
      · obtain ⟨cs, m, hl, hc, hF⟩ := hel i hi
        obtain ⟨e1, e2⟩ := opt_of Tryd.underlying69 hF hl
        exact ⟨valAt cs, fun _ => ⟨fun j hj => by rw [hc j hj]; exact congrArg (·[j]?) e1, e2⟩⟩
      · exact ⟨fun _ => 0, fun h => absurd h hi⟩
    obtain ⟨f, hf⟩ := Classical.axiomOfChoice key
    refine ⟨(List.range len).map f, RS.ofCells _ h1 h2 h3 (fun _ => ⟨b, off, ha, hb, fun i hi j hj => (hf i hi).1 j hj⟩), by simp, fun V hV => ?_⟩
    obtain ⟨i, hi, rfl⟩ := List.mem_map.1 hV
    exact (hf i (by simpa using hi)).2
end
section
variable {H : Type} {enc : TypeId × Value → H} {w : World} {m : Nat}
theorem cell_slice {t e : TypeId} {v : Value} {x : DataW H × List MemPlace} (ht : Tryd.prog.underlying t = some (.slice e)) (h : DataW.trod enc Tryd.prog w 0 (fun _ => true) true m t [v] = some x) :
    ∃ A len cap, v = .slice A len cap ∧ DataW.Trod enc Tryd.prog w 0 (fun _ => true) true t (.slice A len cap) x.1 x.2 := by
  have hx : DataW.trod enc Tryd.prog w 0 (fun _ => true) true m t [v] = some (x.1, x.2) := h
  rcases DataW.trod_slice ht h with ⟨hcs, _⟩ | ⟨ad, len', cap', elems, rest, n, _, hcs, _⟩
  · injection hcs with hcs _
    subst hcs
    exact ⟨none, 0, 0, rfl, ⟨m, hx⟩⟩
  · injection hcs with hcs _
    subst hcs
    exact ⟨some ad, len', cap', rfl, ⟨m, hx⟩⟩
/-- A segment as it lies: its numbers, its options, its data. -/
structure Sg where
  N : Nat → Int
  A : Option Addr
  c : Nat
  l : List (Nat → Int)
  B : Option Addr
  d : Nat
  xs : List Int
def Sg.cells (s : Sg) : List Value := segL s.N (.slice s.A s.l.length s.c) (.slice s.B s.xs.length s.d)
structure Sg.At (s : Sg) (w : World) : Prop where
  num : OkN s.N
  opts : RS layO w s.A s.c s.l
  ok : ∀ V ∈ s.l, OkV V
  data : BS w s.B s.d s.xs
def segAt (cs : List Value) (j : Nat) : Int := match sk j with | .is => if cellBool cs[j]? then 1 else 0 | _ => cellInt cs[j]?
set_option maxRecDepth 20000 in
theorem seg_of {fs : Array Field} {cs : List Value} (hfs : Tryd.prog.underlying 26 = some (.struct fs)) (h : Fielded enc Tryd.prog w (fun _ => true) true m fs cs) (hl : cs.length = 13) :
    ∃ s : Sg, cs = s.cells ∧ s.At w := by
  have e1 := hfs.symm.trans Tryd.underlying26
  injection e1 with e1
  injection e1 with e1
  subst e1
  have h0 := h.int 0 0 3 (by kernel_rfl) (by kernel_rfl) Tryd.underlying3
  have h1 := h.int 1 1 3 (by kernel_rfl) (by kernel_rfl) Tryd.underlying3
  have h2 := h.int 2 2 3 (by kernel_rfl) (by kernel_rfl) Tryd.underlying3
  have h3 := h.int 3 3 3 (by kernel_rfl) (by kernel_rfl) Tryd.underlying3
  have h4 := h.int 4 4 22 (by kernel_rfl) (by kernel_rfl) Tryd.underlying22
  have h5 := h.int 5 5 22 (by kernel_rfl) (by kernel_rfl) Tryd.underlying22
  have h6 := h.bool 6 6 4 (by kernel_rfl) (by kernel_rfl) Tryd.underlying4
  have h7 := h.bool 7 7 4 (by kernel_rfl) (by kernel_rfl) Tryd.underlying4
  have h8 := h.bool 8 8 4 (by kernel_rfl) (by kernel_rfl) Tryd.underlying4
  have h9 := h.bool 9 9 4 (by kernel_rfl) (by kernel_rfl) Tryd.underlying4
  have h10 := h.int 10 10 3 (by kernel_rfl) (by kernel_rfl) Tryd.underlying3
  obtain ⟨v11, x11, h11, t11⟩ := h.one 11 11 23 (by kernel_rfl) (by kernel_rfl) (by omega)
  obtain ⟨v12, x12, h12, t12⟩ := h.one 12 12 24 (by kernel_rfl) (by kernel_rfl) (by omega)
  obtain ⟨A, n1, c, rfl, s11⟩ := cell_slice Tryd.underlying23 t11
  obtain ⟨B, n2, d, rfl, s12⟩ := cell_slice Tryd.underlying24 t12
  obtain ⟨l, z1, z2, z3⟩ := open_opts Tryd.underlying23 s11
  obtain ⟨xs, hz⟩ := intsIn_of Tryd.underlying24 Tryd.underlying5 (by kernel_rfl) s12
  have hb := BS.of_ints hz
  have hxl : xs.length = n2 := hz.2.2.1
  subst z2 hxl
  refine ⟨⟨segAt cs, A, c, l, B, d, xs⟩, ?_, ⟨fun j hj => ?_, z1, z3, hb⟩⟩
  · apply List.ext_getElem?
    intro i
    rcases i with _ | _ | _ | _ | _ | _ | _ | _ | _ | _ | _ | _ | _ | i
    · exact h0.1
    · exact h1.1
    · exact h2.1
    · exact h3.1
    · exact h4.1
    · exact h5.1
    · exact h6.trans (congrArg some (e01 _).symm)
    · exact h7.trans (congrArg some (e01 _).symm)
    · exact h8.trans (congrArg some (e01 _).symm)
    · exact h9.trans (congrArg some (e01 _).symm)
    · exact h10.1
    · exact h11
    · exact h12
    · rw [List.getElem?_eq_none (by omega), List.getElem?_eq_none (by simp [Sg.cells])]
  · match j, hj with
    | 0, _ => have hb := bounds_i64 h0.2; have g : -9223372036854775808 ≤ cellInt cs[0]? ∧ cellInt cs[0]? < 9223372036854775808 := ⟨by omega, by omega⟩; exact g
    | 1, _ => have hb := bounds_i64 h1.2; have g : -9223372036854775808 ≤ cellInt cs[1]? ∧ cellInt cs[1]? < 9223372036854775808 := ⟨by omega, by omega⟩; exact g
    | 2, _ => have hb := bounds_i64 h2.2; have g : -9223372036854775808 ≤ cellInt cs[2]? ∧ cellInt cs[2]? < 9223372036854775808 := ⟨by omega, by omega⟩; exact g
    | 3, _ => have hb := bounds_i64 h3.2; have g : -9223372036854775808 ≤ cellInt cs[3]? ∧ cellInt cs[3]? < 9223372036854775808 := ⟨by omega, by omega⟩; exact g
    | 4, _ => have hb := bounds_u32 h4.2; have g : 0 ≤ cellInt cs[4]? ∧ cellInt cs[4]? < 4294967296 := ⟨by omega, by omega⟩; exact g
    | 5, _ => have hb := bounds_u32 h5.2; have g : 0 ≤ cellInt cs[5]? ∧ cellInt cs[5]? < 4294967296 := ⟨by omega, by omega⟩; exact g
    | 6, _ => exact bool01 _
    | 7, _ => exact bool01 _
    | 8, _ => exact bool01 _
    | 9, _ => exact bool01 _
    | 10, _ => have hb := bounds_i64 h10.2; have g : -9223372036854775808 ≤ cellInt cs[10]? ∧ cellInt cs[10]? < 9223372036854775808 := ⟨by omega, by omega⟩; exact g
set_option maxRecDepth 20000 in
theorem open_seg {W : World} {r : Reach} {b0 : Nat} {v : Value} {d : DataW H} {p : List MemPlace}
    (hv : Value.okWide Tryd.prog W r b0 26 v) (h : DataW.Trod enc Tryd.prog w 0 (fun _ => true) true 26 v d p) :
    ∃ s : Sg, v = .agg s.cells.toArray ∧ s.At w := by
  obtain ⟨cs, rfl, _⟩ := okWide_struct Tryd.underlying26 hv
  obtain ⟨fuel, hf⟩ := h
  have hf' : DataW.trod enc Tryd.prog w 0 (fun _ => true) true fuel 26 cs.toList = some (d, p) := hf
  obtain ⟨m, hF, hl⟩ := fielded_of Tryd.underlying26 hf'
  obtain ⟨s, h1, h2⟩ := seg_of Tryd.underlying26 hF (hl.trans (by kernel_rfl))
  exact ⟨s, by rw [← h1], h2⟩
end
theorem gTab : Tryd.prog.globalNamed "ferrybridge/segment.widths" = some 0 := by kernel_rfl
theorem gTabType : (Tryd.prog.globals[0]?).map (·.type) = some 62 := by kernel_rfl
set_option maxRecDepth 20000 in
theorem table {W : World} (h : laidMet Tryd.prog [("ferrybridge/segment.widths", Rows.laid_ferrybridge_segment_widths)] W) : TabW W := by
  have e : (Rows.laid_ferrybridge_segment_widths : DataW Unit) = Lib.tabData .i64 [1, 1, 2, 2, 4, 4, 1, 2, 1, 1] := rfl
  rw [e] at h
  have c62 : Tryd.prog.cellsOf 62 = 10 := by kernel_rfl
  have c3 : Tryd.prog.cellsOf 3 = 1 := by kernel_rfl
  have hv : Lib.TabIs Tryd.prog W "ferrybridge/segment.widths" .i64 [1, 1, 2, 2, 4, 4, 1, 2, 1, 1] := Lib.tabIs_of_head (g := 0) (t := 62) (e := 3) (n := 10) gTab gTabType Tryd.underlying62 Tryd.underlying3 c3 c62 h
  unfold Lib.TabIs World.var? at hv
  rw [gTab] at hv
  simp only [Option.bind_some] at hv
  split at hv
  · rename_i c t fr hh
    obtain rfl := Option.some.inj hv
    exact ⟨t, fr, hh⟩
  · cases hv
end Go.Proofs.YthnennleblgjeaaDoor
