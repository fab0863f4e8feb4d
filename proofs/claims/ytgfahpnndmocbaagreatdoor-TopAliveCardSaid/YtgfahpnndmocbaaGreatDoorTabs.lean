/- What the row's list gives: the two tables lie there. -/
import Derived.Test.YtgfahpnndmocbaaGreatDoorRows
import Derived.Test.YtgfahpnndmocbaaGreatDoorSx24
import Derived.WalkKit
import Derived.OpenShut
import Derived.Deep.DeepHandedRow
import Derived.Lib.LaidTab
namespace Go.Proofs.YtgfahpnndmocbaaGreatDoor
open Go.ChangeShapes Go.WideShapes Go.ChangeAt Go.RowKit
set_option linter.unusedVariables false

theorem gMoves : Tryz.prog.globalNamed "ferrybridge/close.moves" = some 3 := by kernel_rfl
theorem tMoves : (Tryz.prog.globals[3]?).map (·.type) = some 384 := by kernel_rfl
theorem gWidths : Tryz.prog.globalNamed "ferrybridge/segment.widths" = some 0 := by kernel_rfl
theorem tWidths : (Tryz.prog.globals[0]?).map (·.type) = some 171 := by kernel_rfl
theorem cells384 : Tryz.prog.cellsOf 384 = 30 := by kernel_rfl
theorem cells383 : Tryz.prog.cellsOf 383 = 3 := by kernel_rfl
theorem cells381 : Tryz.prog.cellsOf 381 = 2 := by kernel_rfl
theorem cells171 : Tryz.prog.cellsOf 171 = 10 := by kernel_rfl
theorem cells3 : Tryz.prog.cellsOf 3 = 1 := by kernel_rfl

theorem lv_at {P : Program} {w : World} : ∀ {l : List (String × DataW Unit)} {ps : List MemPlace} {n : String} {d : DataW Unit}, DataW.LaidVars P w l ps → (n, d) ∈ l →
    ∃ g t cs fuel p, P.globalNamed n = some g ∧ (P.globals[g]?).map (·.type) = some t ∧ w.var? P n = some cs ∧ DataW.trod (fun _ => ()) P w 0 (fun _ => true) false fuel t cs.toList = some (d, p)
  | [], ps, n, d, h, hm => by cases hm
  | (n', d') :: r, ps, n, d, h, hm => by
    obtain ⟨g, t, cs, fuel, p, q, h1, h2, h3, h4, h5, _⟩ := h
    rcases List.mem_cons.1 hm with e | hm
    · cases e; exact ⟨g, t, cs, fuel, p, h1, h2, h3, h4⟩
    · exact lv_at h5 hm

theorem var_cells {W : World} {n : String} {g : Nat} {cs : Array Value} (hg : Tryz.prog.globalNamed n = some g) (hv : W.var? Tryz.prog n = some cs) : ∃ t fr, W.heap[g]? = some (.cells cs t fr) := by
  unfold World.var? at hv
  rw [hg] at hv
  simp only [Option.bind_some] at hv
  split at hv
  · rename_i c t fr hh
    obtain rfl := Option.some.inj hv
    exact ⟨t, fr, hh⟩
  · cases hv

set_option maxRecDepth 20000 in
theorem move_cells {H : Type} {enc : TypeId × Value → H} {w : World} {base : Nat} {sp : Nat → Bool} {held : Bool} {fuel : Nat} {cs : List Value} {q : List MemPlace} {a b c : Int}
    (h : DataW.trod enc Tryz.prog w base sp held fuel 383 cs = some (.agg [.agg [.lit (.int .i64 a), .lit (.int .i64 b)], .lit (.int .i64 c)], q)) : cs = [.int .i64 a, .int .i64 b, .int .i64 c] := by
  obtain ⟨xs, n, rfl, hx, hl, hxl, hg⟩ := DataW.trod_struct Tryz.underlying383 h
  rw [cells383] at hl
  obtain ⟨v0, v1, v2, rfl⟩ : ∃ v0 v1 v2, cs = [v0, v1, v2] := by
    match cs, hl with
    | [v0, v1, v2], _ => exact ⟨v0, v1, v2, rfl⟩
  obtain ⟨x0, x1, rfl⟩ : ∃ x0 x1, xs = [x0, x1] := by
    match xs, hxl with
    | [x0, x1], _ => exact ⟨x0, x1, rfl⟩
  have h0 : DataW.trod enc Tryz.prog w base sp held n 381 (([v0, v1, v2].drop 0).take (Tryz.prog.cellsOf 381)) = some x0 := hg 0 _ rfl
  have h1 : DataW.trod enc Tryz.prog w base sp held n 3 (([v0, v1, v2].drop 2).take (Tryz.prog.cellsOf 3)) = some x1 := hg 1 _ rfl
  rw [cells381] at h0
  rw [cells3] at h1
  simp at h0 h1 hx
  obtain ⟨⟨e0, e1⟩, _⟩ := hx
  obtain ⟨n1, hn1, hx1, _⟩ := DataW.trod_int Tryz.underlying3 h1
  obtain ⟨ys, m, rfl, hy, hl2, hyl, hg2⟩ := DataW.trod_struct Tryz.underlying381 h0
  obtain ⟨y0, y1, rfl⟩ : ∃ y0 y1, ys = [y0, y1] := by
    match ys, hyl with
    | [y0, y1], _ => exact ⟨y0, y1, rfl⟩
  have k0 : DataW.trod enc Tryz.prog w base sp held m 3 (([v0, v1].drop 0).take (Tryz.prog.cellsOf 3)) = some y0 := hg2 0 _ rfl
  have k1 : DataW.trod enc Tryz.prog w base sp held m 3 (([v0, v1].drop 1).take (Tryz.prog.cellsOf 3)) = some y1 := hg2 1 _ rfl
  rw [cells3] at k0 k1
  simp at k0 k1
  obtain ⟨n2, hn2, hx2, _⟩ := DataW.trod_int Tryz.underlying3 k0
  obtain ⟨n3, hn3, hx3, _⟩ := DataW.trod_int Tryz.underlying3 k1
  subst hx1 hx2 hx3
  subst hy
  simp at e0 e1 hn1 hn2 hn3
  obtain ⟨e2, e3⟩ := e0
  subst hn1 hn2 hn3 e1 e2 e3
  rfl

set_option maxRecDepth 20000 in
theorem moves_at {W : World} (h : laidMet Tryz.prog Rows.topAliveRow.laid W) : ∃ t fr, W.heap[3]? = some (.cells #[.int .i64 0, .int .i64 0, .int .i64 1, .int .i64 1, .int .i64 1, .int .i64 2, .int .i64 1, .int .i64 3, .int .i64 4, .int .i64 2, .int .i64 2, .int .i64 3, .int .i64 2, .int .i64 3, .int .i64 5, .int .i64 3, .int .i64 3, .int .i64 7, .int .i64 4, .int .i64 1, .int .i64 6, .int .i64 5, .int .i64 2, .int .i64 7, .int .i64 6, .int .i64 2, .int .i64 7, .int .i64 7, .int .i64 4, .int .i64 8] t fr) := by
  obtain ⟨ps, hl0, _⟩ := h
  obtain ⟨g', t', cs, fuel, p, hg', ht', hvar, hd⟩ := lv_at (n := "ferrybridge/close.moves") (d := Rows.laid_ferrybridge_close_moves) hl0 (by simp [Rows.topAliveRow])
  obtain rfl := Option.some.inj (gMoves.symm.trans hg')
  obtain rfl := Option.some.inj (tMoves.symm.trans ht')
  obtain ⟨xs, m, _, hx, hl, hxl, hg⟩ := DataW.trod_array Tryz.underlying384 hd
  simp only [cells383, cells384] at hg hl
  have hx' : xs.map (·.1) = _ := (DataW.agg.inj (congrArg Prod.fst hx)).symm
  have key : ∀ i a b c, i < 10 → (xs.map (·.1))[i]? = some (.agg [.agg [.lit (.int .i64 a), .lit (.int .i64 b)], .lit (.int .i64 c)]) → (cs.toList.drop (i * 3)).take 3 = [.int .i64 a, .int .i64 b, .int .i64 c] := by
    intro i a b c hi he
    have h1 := hg i hi
    obtain ⟨y, hy, hy2⟩ : ∃ y, xs[i]? = some y ∧ y.1 = .agg [.agg [.lit (.int .i64 a), .lit (.int .i64 b)], .lit (.int .i64 c)] := by
      rw [List.getElem?_map, Option.map_eq_some_iff] at he
      exact he
    rw [hy] at h1
    obtain ⟨y1, y2⟩ := y
    subst hy2
    exact move_cells h1
  rw [hx'] at key
  have hcs : cs = #[.int .i64 0, .int .i64 0, .int .i64 1, .int .i64 1, .int .i64 1, .int .i64 2, .int .i64 1, .int .i64 3, .int .i64 4, .int .i64 2, .int .i64 2, .int .i64 3, .int .i64 2, .int .i64 3, .int .i64 5, .int .i64 3, .int .i64 3, .int .i64 7, .int .i64 4, .int .i64 1, .int .i64 6, .int .i64 5, .int .i64 2, .int .i64 7, .int .i64 6, .int .i64 2, .int .i64 7, .int .i64 7, .int .i64 4, .int .i64 8] := by
    apply Array.ext'
    have k0 := key 0 0 0 1 (by decide) rfl
    have k1 := key 1 1 1 2 (by decide) rfl
    have k2 := key 2 1 3 4 (by decide) rfl
    have k3 := key 3 2 2 3 (by decide) rfl
    have k4 := key 4 2 3 5 (by decide) rfl
    have k5 := key 5 3 3 7 (by decide) rfl
    have k6 := key 6 4 1 6 (by decide) rfl
    have k7 := key 7 5 2 7 (by decide) rfl
    have k8 := key 8 6 2 7 (by decide) rfl
    have k9 := key 9 7 4 8 (by decide) rfl
    generalize cs.toList = l at *
    have cut : ∀ (l : List Value), l = l.take 3 ++ l.drop 3 := fun l => (List.take_append_drop 3 l).symm
    rw [cut l, cut (l.drop 3), cut ((l.drop 3).drop 3), cut (((l.drop 3).drop 3).drop 3), cut ((((l.drop 3).drop 3).drop 3).drop 3), cut (((((l.drop 3).drop 3).drop 3).drop 3).drop 3), cut ((((((l.drop 3).drop 3).drop 3).drop 3).drop 3).drop 3), cut (((((((l.drop 3).drop 3).drop 3).drop 3).drop 3).drop 3).drop 3), cut ((((((((l.drop 3).drop 3).drop 3).drop 3).drop 3).drop 3).drop 3).drop 3), cut (((((((((l.drop 3).drop 3).drop 3).drop 3).drop 3).drop 3).drop 3).drop 3).drop 3)]
    simp only [List.drop_drop] at *
    simp at k0 k1 k2 k3 k4 k5 k6 k7 k8 k9 hl
    simp [k0, k1, k2, k3, k4, k5, k6, k7, k8, k9]
    omega
  rw [hcs] at hvar
  exact var_cells gMoves hvar

set_option maxRecDepth 20000 in
theorem widths_at {W : World} (h : laidMet Tryz.prog Rows.topAliveRow.laid W) : ∃ t fr, W.heap[0]? = some (.cells #[.int .i64 1, .int .i64 1, .int .i64 2, .int .i64 2, .int .i64 4, .int .i64 4, .int .i64 1, .int .i64 2, .int .i64 1, .int .i64 1] t fr) := by
  obtain ⟨ps, hl0, _⟩ := h
  obtain ⟨g', t', cs, fuel, p, hg', ht', hvar, hd⟩ := lv_at (n := "ferrybridge/segment.widths") (d := Rows.laid_ferrybridge_segment_widths) hl0 (by simp [Rows.topAliveRow])
  obtain rfl := Option.some.inj (gWidths.symm.trans hg')
  obtain rfl := Option.some.inj (tWidths.symm.trans ht')
  obtain ⟨xs, m, _, hx, hl, hxl, hg⟩ := DataW.trod_array Tryz.underlying171 hd
  simp only [cells3, cells171] at hg hl
  have hx' : xs.map (·.1) = _ := (DataW.agg.inj (congrArg Prod.fst hx)).symm
  have key : ∀ i a, i < 10 → (xs.map (·.1))[i]? = some (.lit (.int .i64 a)) → (cs.toList.drop (i * 1)).take 1 = [.int .i64 a] := by
    intro i a hi he
    have h1 := hg i hi
    obtain ⟨y, hy, hy2⟩ : ∃ y, xs[i]? = some y ∧ y.1 = .lit (.int .i64 a) := by
      rw [List.getElem?_map, Option.map_eq_some_iff] at he
      exact he
    rw [hy] at h1
    obtain ⟨n1, hn1, hx1, _⟩ := DataW.trod_int Tryz.underlying3 h1
    subst hx1
    simp at hy2
    subst hy2
    exact hn1
  rw [hx'] at key
  have hcs : cs = #[.int .i64 1, .int .i64 1, .int .i64 2, .int .i64 2, .int .i64 4, .int .i64 4, .int .i64 1, .int .i64 2, .int .i64 1, .int .i64 1] := by
    apply Array.ext'
    have k0 := key 0 1 (by decide) rfl
    have k1 := key 1 1 (by decide) rfl
    have k2 := key 2 2 (by decide) rfl
    have k3 := key 3 2 (by decide) rfl
    have k4 := key 4 4 (by decide) rfl
    have k5 := key 5 4 (by decide) rfl
    have k6 := key 6 1 (by decide) rfl
    have k7 := key 7 2 (by decide) rfl
    have k8 := key 8 1 (by decide) rfl
    have k9 := key 9 1 (by decide) rfl
    generalize cs.toList = l at *
    match l, hl with
    | [c0, c1, c2, c3, c4, c5, c6, c7, c8, c9], _ =>
      simp at k0 k1 k2 k3 k4 k5 k6 k7 k8 k9
      simp [k0, k1, k2, k3, k4, k5, k6, k7, k8, k9]
  rw [hcs] at hvar
  exact var_cells gWidths hvar
end Go.Proofs.YtgfahpnndmocbaaGreatDoor
