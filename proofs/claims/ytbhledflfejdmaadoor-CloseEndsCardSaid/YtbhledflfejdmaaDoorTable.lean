/- What the row's list gives: the table of moves lies there. -/
import Derived.Test.YtbhledflfejdmaaDoorStep
import Derived.Deep.DeepHandedRow
import Derived.Lib.LaidTab
namespace Go.Proofs.YtbhledflfejdmaaDoor
open Go.ChangeShapes Go.WideShapes Go.ChangeAt Go.RowKit
set_option linter.unusedVariables false

theorem gTab : Tryd.prog.globalNamed "ferrybridge/close.moves" = some 0 := by kernel_rfl
theorem gTabType : (Tryd.prog.globals[0]?).map (·.type) = some 38 := by kernel_rfl
theorem cells38 : Tryd.prog.cellsOf 38 = 30 := by kernel_rfl
theorem cells37 : Tryd.prog.cellsOf 37 = 3 := by kernel_rfl
theorem cells35 : Tryd.prog.cellsOf 35 = 2 := by kernel_rfl
theorem cells3 : Tryd.prog.cellsOf 3 = 1 := by kernel_rfl

theorem move_cells {H : Type} {enc : TypeId × Value → H} {w : World} {base : Nat} {sp : Nat → Bool} {held : Bool} {fuel : Nat} {cs : List Value} {q : List MemPlace} {a b c : Int}
    (h : DataW.trod enc Tryd.prog w base sp held fuel 37 cs = some (.agg [.agg [.lit (.int .i64 a), .lit (.int .i64 b)], .lit (.int .i64 c)], q)) : cs = [.int .i64 a, .int .i64 b, .int .i64 c] := by
  obtain ⟨xs, n, rfl, hx, hl, hxl, hg⟩ := DataW.trod_struct Tryd.underlying37 h
  rw [cells37] at hl
  obtain ⟨v0, v1, v2, rfl⟩ : ∃ v0 v1 v2, cs = [v0, v1, v2] := by
    match cs, hl with
    | [v0, v1, v2], _ => exact ⟨v0, v1, v2, rfl⟩
  obtain ⟨x0, x1, rfl⟩ : ∃ x0 x1, xs = [x0, x1] := by
    match xs, hxl with
    | [x0, x1], _ => exact ⟨x0, x1, rfl⟩
  have h0 : DataW.trod enc Tryd.prog w base sp held n 35 (([v0, v1, v2].drop 0).take (Tryd.prog.cellsOf 35)) = some x0 := hg 0 _ rfl
  have h1 : DataW.trod enc Tryd.prog w base sp held n 3 (([v0, v1, v2].drop 2).take (Tryd.prog.cellsOf 3)) = some x1 := hg 1 _ rfl
  rw [cells35] at h0
  rw [cells3] at h1
  simp at h0 h1 hx
  obtain ⟨⟨e0, e1⟩, _⟩ := hx
  obtain ⟨n1, hn1, hx1, _⟩ := DataW.trod_int Tryd.underlying3 h1
  obtain ⟨ys, m, rfl, hy, hl2, hyl, hg2⟩ := DataW.trod_struct Tryd.underlying35 h0
  obtain ⟨y0, y1, rfl⟩ : ∃ y0 y1, ys = [y0, y1] := by
    match ys, hyl with
    | [y0, y1], _ => exact ⟨y0, y1, rfl⟩
  have k0 : DataW.trod enc Tryd.prog w base sp held m 3 (([v0, v1].drop 0).take (Tryd.prog.cellsOf 3)) = some y0 := hg2 0 _ rfl
  have k1 : DataW.trod enc Tryd.prog w base sp held m 3 (([v0, v1].drop 1).take (Tryd.prog.cellsOf 3)) = some y1 := hg2 1 _ rfl
  rw [cells3] at k0 k1
  simp at k0 k1
  obtain ⟨n2, hn2, hx2, _⟩ := DataW.trod_int Tryd.underlying3 k0
  obtain ⟨n3, hn3, hx3, _⟩ := DataW.trod_int Tryd.underlying3 k1
  subst hx1 hx2 hx3
  subst hy
  simp at e0 e1 hn1 hn2 hn3
  obtain ⟨e2, e3⟩ := e0
  subst hn1 hn2 hn3 e1 e2 e3
  rfl

theorem table {W : World} (h : laidMet Tryd.prog [("ferrybridge/close.moves", Rows.laid_ferrybridge_close_moves)] W) : Tab W := by
  obtain ⟨ps, ⟨g', t', cs, fuel, p, q, hg', ht', hvar, hd, _, _⟩, _⟩ := h
  obtain rfl := Option.some.inj (gTab.symm.trans hg')
  obtain rfl := Option.some.inj (gTabType.symm.trans ht')
  obtain ⟨xs, m, _, hx, hl, hxl, hg⟩ := DataW.trod_array Tryd.underlying38 hd
  simp only [cells37, cells38] at hg hl
  have hx' : xs.map (·.1) = _ := (DataW.agg.inj (congrArg Prod.fst hx)).symm
  have key : ∀ i a b c, i < 10 → (xs.map (·.1))[i]? = some (.agg [.agg [.lit (.int .i64 a), .lit (.int .i64 b)], .lit (.int .i64 c)]) → (cs.toList.drop (i * 3)).take 3 = [.int .i64 a, .int .i64 b, .int .i64 c] := by
    intro i a b c hi he
    have h1 := hg i hi
    obtain ⟨y, hy, hy2⟩ : ∃ y, xs[i]? = some y ∧ y.1 = .agg [.agg [.lit (.int .i64 a), .lit (.int .i64 b)], .lit (.int .i64 c)] := by
      rw [List.getElem?_map, Option.map_eq_some_iff] at he
      exact he
    rw [hy] at h1
    obtain ⟨y1, y2⟩ := y
    subst hy2
    exact move_cells h1
  rw [hx'] at key
  have hcs : cs = #[.int .i64 0, .int .i64 0, .int .i64 1, .int .i64 1, .int .i64 1, .int .i64 2, .int .i64 1, .int .i64 3, .int .i64 4, .int .i64 2, .int .i64 2, .int .i64 3, .int .i64 2, .int .i64 3, .int .i64 5, .int .i64 3, .int .i64 3, .int .i64 7, .int .i64 4, .int .i64 1, .int .i64 6, .int .i64 5, .int .i64 2, .int .i64 7, .int .i64 6, .int .i64 2, .int .i64 7, .int .i64 7, .int .i64 4, .int .i64 8] := by
    apply Array.ext'
    have k0 := key 0 0 0 1 (by decide) rfl
    have k1 := key 1 1 1 2 (by decide) rfl
    have k2 := key 2 1 3 4 (by decide) rfl
    have k3 := key 3 2 2 3 (by decide) rfl
    have k4 := key 4 2 3 5 (by decide) rfl
    have k5 := key 5 3 3 7 (by decide) rfl
    have k6 := key 6 4 1 6 (by decide) rfl
    have k7 := key 7 5 2 7 (by decide) rfl
    have k8 := key 8 6 2 7 (by decide) rfl
    have k9 := key 9 7 4 8 (by decide) rfl
    have e : ∀ (l : List Value) (n : Nat), l.length = n + 3 → l = l.take 3 ++ l.drop 3 := fun l n _ => (List.take_append_drop 3 l).symm
    generalize cs.toList = l at *
    have cut : ∀ (l : List Value), l = l.take 3 ++ l.drop 3 := fun l => (List.take_append_drop 3 l).symm
    rw [cut l, cut (l.drop 3), cut ((l.drop 3).drop 3), cut (((l.drop 3).drop 3).drop 3), cut ((((l.drop 3).drop 3).drop 3).drop 3), cut (((((l.drop 3).drop 3).drop 3).drop 3).drop 3), cut ((((((l.drop 3).drop 3).drop 3).drop 3).drop 3).drop 3), cut (((((((l.drop 3).drop 3).drop 3).drop 3).drop 3).drop 3).drop 3), cut ((((((((l.drop 3).drop 3).drop 3).drop 3).drop 3).drop 3).drop 3).drop 3), cut (((((((((l.drop 3).drop 3).drop 3).drop 3).drop 3).drop 3).drop 3).drop 3).drop 3)]
    simp only [List.drop_drop] at *
    simp at k0 k1 k2 k3 k4 k5 k6 k7 k8 k9 hl
    simp [k0, k1, k2, k3, k4, k5, k6, k7, k8, k9]
    omega
  unfold World.var? at hvar
  rw [gTab] at hvar
  simp only [Option.bind_some] at hvar
  split at hvar
  · rename_i c t fr hh
    obtain rfl := Option.some.inj hvar
    rw [hcs] at hh
    exact ⟨t, fr, hh⟩
  · cases hvar
end Go.Proofs.YtbhledflfejdmaaDoor
